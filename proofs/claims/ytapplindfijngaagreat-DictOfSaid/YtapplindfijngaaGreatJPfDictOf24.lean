/- Lemmas and contracts of functions, strung together out of 1 texts. No condition. -/
import Derived.Test.YtapplindfijngaaGreatJPfDictOf23
import Derived.Test.YtapplindfijngaaGreatJPfDictOf21
/- The reference of layer 10: Remove, as the package's. -/
namespace Go.Proofs.YtapplindfijngaaGreat
open Go.RowKit Go.Shelf
set_option maxRecDepth 100000

theorem Mod.set6 {w : World} (b : Nat) (v0 v1 v2 v3 v4 v5 : Value) : Mod (fun k => k = b) w ((((((w.setCell ⟨b, 0, none⟩ v0).setCell ⟨b, 1, none⟩ v1).setCell ⟨b, 2, none⟩ v2).setCell ⟨b, 3, none⟩ v3).setCell ⟨b, 4, none⟩ v4).setCell ⟨b, 5, none⟩ v5) :=
  ((((((Mod.set1 b 0 v0).trans (Mod.set1 b 1 v1)).trans (Mod.set1 b 2 v2)).trans (Mod.set1 b 3 v3)).trans (Mod.set1 b 4 v4)).trans (Mod.set1 b 5 v5))
theorem Mod.set4 {w : World} (b : Nat) (v0 v1 v2 v3 : Value) : Mod (fun k => k = b) w ((((w.setCell ⟨b, 0, none⟩ v0).setCell ⟨b, 1, none⟩ v1).setCell ⟨b, 2, none⟩ v2).setCell ⟨b, 3, none⟩ v3) :=
  ((((Mod.set1 b 0 v0).trans (Mod.set1 b 1 v1)).trans (Mod.set1 b 2 v2)).trans (Mod.set1 b 3 v3))
def S4 (b : Nat) (v0 v1 v2 v3 : Value) (w' : World) : Prop := w'.cell? ⟨b, 0, none⟩ = some v0 ∧ w'.cell? ⟨b, 1, none⟩ = some v1 ∧ w'.cell? ⟨b, 2, none⟩ = some v2 ∧ w'.cell? ⟨b, 3, none⟩ = some v3
theorem S4.mod {b : Nat} {v0 v1 v2 v3 : Value} {X Y : World} {S : Nat → Prop} (h : S4 b v0 v1 v2 v3 X) (hm : Mod S X Y) (h1 : ¬ S b) : S4 b v0 v1 v2 v3 Y := ⟨hm.cell h1 h.1, hm.cell h1 h.2.1, hm.cell h1 h.2.2.1, hm.cell h1 h.2.2.2⟩
def SP (b : Nat) (v0 v1 : Value) (w' : World) : Prop := w'.cell? ⟨b, 0, none⟩ = some v0 ∧ w'.cell? ⟨b, 1, none⟩ = some v1
theorem SP.mod {b : Nat} {v0 v1 : Value} {X Y : World} {S : Nat → Prop} (h : SP b v0 v1 X) (hm : Mod S X Y) (h1 : ¬ S b) : SP b v0 v1 Y := ⟨hm.cell h1 h.1, hm.cell h1 h.2⟩
def SR (b b8 b10 : Nat) (v0 v1 v2 v3 v4 v5 e0 e1 e2 e3 p0 p1 : Value) (w' : World) : Prop := S6 b v0 v1 v2 v3 v4 v5 w' ∧ S4 b8 e0 e1 e2 e3 w' ∧ SP b10 p0 p1 w'
theorem SR.mod {b b8 b10 : Nat} {v0 v1 v2 v3 v4 v5 e0 e1 e2 e3 p0 p1 : Value} {X Y : World} {S : Nat → Prop} (h : SR b b8 b10 v0 v1 v2 v3 v4 v5 e0 e1 e2 e3 p0 p1 X) (hm : Mod S X Y) (h1 : ¬ S b) (h2 : ¬ S b8) (h3 : ¬ S b10) : SR b b8 b10 v0 v1 v2 v3 v4 v5 e0 e1 e2 e3 p0 p1 Y :=
  ⟨h.1.mod hm h1, h.2.1.mod hm h2, h.2.2.mod hm h3⟩
abbrev zDict : Obj := .cells #[.int .u64 0, .bool false, .slice none 0 0, .slice none 0 0, .slice none 0 0, .slice none 0 0] 38 (0, 0)
def rdremPost (w : World) (seed : Nat) (same : Bool) (Q : List RQ) (Gs : List Grp) (s : Nat) (x : Ent) (v : Value) (e : Ending) (w' : World) : Prop :=
  ∃ r' Q', e = .returned (.tuple #[rdV seed same r' Q'.length (8 * Gs.length), .agg #[.string x.key, v, .int .u64 x.dl, .int .u64 x.birth], .int .i64 0]) ∧ Q'.map absQ = (Q.map absQ).set s (x, true) ∧ RefD w' r' Q' Gs ∧ Fresh w (.slice r'.aL Q'.length r'.cL) ∧ Pure w w'
def rdremMiss (w : World) (V : Value) (e : Ending) (w' : World) : Prop := e = .returned (.tuple #[V, .agg #[.string ⟨#[]⟩, .slice none 0 0, .int .u64 0, .int .u64 0], .int .i64 9]) ∧ Pure w w'
set_option maxHeartbeats 1000000 in
theorem rdrem_miss {w : World} {r : RA} {Q : List RQ} {Gs : List Grp} (h : RefD w r Q Gs) (seed : Nat) (same : Bool) {s : Nat} (hs32 : s ≤ 4294967295) (hh : hasQ Q s = false) (m : Nat) :
    Calls Tryz.prog 17 #[rdV seed same r Q.length m, .int .u32 s] w (rdremMiss w (rdV seed same r Q.length m)) := by
  have HHas := Lib.hid (fun (W : World) (hW : RefRow W r.aL r.cL r.aG r.cG Q) => ref_Has hW s hs32)
  rw [hh] at HHas
  obtain ⟨n, hn⟩ : ∃ n, Q.length = n := ⟨_, rfl⟩
  rw [hn] at HHas ⊢
  have h2a := heap_new (w := w) (o := rdO seed same r n m) rfl
  have h4a := heap_new (w := w.alloc (rdO seed same r n m)) (o := .cells #[.int .u64 0, .bool false, .slice none 0 0, .slice none 0 0, .slice none 0 0, .slice none 0 0] 38 (0, 0)) (n := w.heap.size + 1) (by simp)
  have h5a := heap_new (w := (w.alloc (rdO seed same r n m)).alloc (.cells #[.int .u64 0, .bool false, .slice none 0 0, .slice none 0 0, .slice none 0 0, .slice none 0 0] 38)) (o := .cells #[.string ⟨#[]⟩, .slice none 0 0, .int .u64 0, .int .u64 0] 42 (0, 0)) (n := w.heap.size + 1 + 1) (by simp)
  have hp0 : Pure w (((w.alloc (rdO seed same r n m)).alloc (.cells #[.int .u64 0, .bool false, .slice none 0 0, .slice none 0 0, .slice none 0 0, .slice none 0 0] 38)).alloc (.cells #[.string ⟨#[]⟩, .slice none 0 0, .int .u64 0, .int .u64 0] 42)) := (((Mod.refl _ w).alloc _).alloc _).alloc _
  have HD := Lib.hid (RDo.mk (b := w.heap.size) (b4 := w.heap.size + 1) hp0 (heap_keep (heap_keep h2a)) (heap_keep h4a) (h.pure hp0))
  clear hn h hh
  clear h2a h4a hp0
  obtain ⟨aL, cL, aG, cG, aC, cC, aS, cS⟩ := r
  dsimp only [rdO] at HD h5a HHas ⊢
  go_enter Tryz.func17, Tryz.ntmps17
  go_upto_region 1 with fail
  generalize (((w.alloc (.cells #[.int .u64 seed, .bool same, .slice aL n cL, .slice aG n cG, .slice aC m cC, .slice aS m cS] 38)).alloc (.cells #[.int .u64 0, .bool false, .slice none 0 0, .slice none 0 0, .slice none 0 0, .slice none 0 0] 38)).alloc (.cells #[.string ⟨#[]⟩, .slice none 0 0, .int .u64 0, .int .u64 0] 42)) = W1 at *
  obtain ⟨b, hb⟩ : ∃ b, w.heap.size = b := ⟨_, rfl⟩
  rw [hb] at HD h5a ⊢
  have HB := Lib.hid hb
  clear hb
  have hd2 := HD.out.h2
  dsimp only [rdO] at hd2
  have hd2_0 := cell_of_row _ _ 0 _ _ _ hd2; have hd2_1 := cell_of_row _ _ 1 _ _ _ hd2; have hd2_2 := cell_of_row _ _ 2 _ _ _ hd2; have hd2_3 := cell_of_row _ _ 3 _ _ _ hd2; have hd2_4 := cell_of_row _ _ 4 _ _ _ hd2; have hd2_5 := cell_of_row _ _ 5 _ _ _ hd2; have hd2_f := (fun j => frozen_of_row _ _ j _ _ hd2); have hd2_l := lt_of_block hd2; simp at hd2_0 hd2_1 hd2_2 hd2_3 hd2_4 hd2_5; have H_hd2 := Lib.hid hd2; clear hd2
  have hd4 := HD.out.h4
  go_upto_region 2 with (go_at_call 64; refine Calls.mono (HHas.out _ HD.out.rf.l) ?_; rintro e w2 ⟨rfl, hp2⟩; clear hd2_0 hd2_1 hd2_2 hd2_3 hd2_4 hd2_5 hd2_f hd2_l)
  have hy2 := hp2.heap (fun h => h) H_hd2.out
  have hy4 := hp2.heap (fun h => h) hd4
  have hy5 := hp2.heap (fun h => h) h5a
  have HP := Lib.hid (HD.out.pu.trans hp2)
  have hbw : w.heap.size ≤ b := by have := HB.out; omega
  clear hp2 hd4 h5a H_hd2 HD
  have hy2_0 := cell_of_row _ _ 0 _ _ _ hy2; have hy2_1 := cell_of_row _ _ 1 _ _ _ hy2; have hy2_2 := cell_of_row _ _ 2 _ _ _ hy2; have hy2_3 := cell_of_row _ _ 3 _ _ _ hy2; have hy2_4 := cell_of_row _ _ 4 _ _ _ hy2; have hy2_5 := cell_of_row _ _ 5 _ _ _ hy2; have hy2_f := (fun j => frozen_of_row _ _ j _ _ hy2); have hy2_l := lt_of_block hy2; simp at hy2_0 hy2_1 hy2_2 hy2_3 hy2_4 hy2_5; have H_hy2 := Lib.hid hy2; clear hy2
  have hy4_0 := cell_of_row _ _ 0 _ _ _ hy4; have hy4_1 := cell_of_row _ _ 1 _ _ _ hy4; have hy4_2 := cell_of_row _ _ 2 _ _ _ hy4; have hy4_3 := cell_of_row _ _ 3 _ _ _ hy4; have hy4_4 := cell_of_row _ _ 4 _ _ _ hy4; have hy4_5 := cell_of_row _ _ 5 _ _ _ hy4; have hy4_f := (fun j => frozen_of_row _ _ j _ _ hy4); have hy4_l := lt_of_block hy4; simp at hy4_0 hy4_1 hy4_2 hy4_3 hy4_4 hy4_5; have H_hy4 := Lib.hid hy4; clear hy4
  have hy5_0 := cell_of_row _ _ 0 _ _ _ hy5; have hy5_1 := cell_of_row _ _ 1 _ _ _ hy5; have hy5_2 := cell_of_row _ _ 2 _ _ _ hy5; have hy5_3 := cell_of_row _ _ 3 _ _ _ hy5; have hy5_f := (fun j => frozen_of_row _ _ j _ _ hy5); have hy5_l := lt_of_block hy5; simp at hy5_0 hy5_1 hy5_2 hy5_3; have H_hy5 := Lib.hid hy5; clear hy5
  go_wp2
  obtain ⟨Y, hY⟩ : ∃ Y, (((((w2.setCell ⟨b + 1, 0, none⟩ (.int .u64 seed)).setCell ⟨b + 1, 1, none⟩ (.bool same)).setCell ⟨b + 1, 2, none⟩ (.slice aL n cL)).setCell ⟨b + 1, 3, none⟩ (.slice aG n cG)).setCell ⟨b + 1, 4, none⟩ (.slice aC m cC)).setCell ⟨b + 1, 5, none⟩ (.slice aS m cS) = Y := ⟨_, rfl⟩
  obtain ⟨g1, g2⟩ := fin6 H_hy4.out hY
  have g5 := g1.heap (by omega) H_hy5.out
  rw [hY]
  obtain ⟨Z, hZ⟩ : ∃ Z, (((Y.setCell ⟨b + 1 + 1, 0, none⟩ (.string ⟨#[]⟩)).setCell ⟨b + 1 + 1, 1, none⟩ (.slice none 0 0)).setCell ⟨b + 1 + 1, 2, none⟩ (.int .u64 0)).setCell ⟨b + 1 + 1, 3, none⟩ (.int .u64 0) = Z := ⟨_, rfl⟩
  obtain ⟨f1, f2⟩ := fin4 g5 hZ
  have f0 := f1.heap (by omega) g2
  rw [hZ]
  have x0 := cell_of_row _ _ 0 _ _ _ f0; have x1 := cell_of_row _ _ 1 _ _ _ f0; have x2 := cell_of_row _ _ 2 _ _ _ f0; have x3 := cell_of_row _ _ 3 _ _ _ f0; have x4 := cell_of_row _ _ 4 _ _ _ f0; have x5 := cell_of_row _ _ 5 _ _ _ f0
  have y0 := cell_of_row _ _ 0 _ _ _ f2; have y1 := cell_of_row _ _ 1 _ _ _ f2; have y2 := cell_of_row _ _ 2 _ _ _ f2; have y3 := cell_of_row _ _ 3 _ _ _ f2
  simp at x0 x1 x2 x3 x4 x5 y0 y1 y2 y3
  exact bodyPost_ret (v := .tuple #[rdV seed same ⟨aL, cL, aG, cG, aC, cC, aS, cS⟩ n m, .agg #[.string ⟨#[]⟩, .slice none 0 0, .int .u64 0, .int .u64 0], .int .i64 9]) (by simp [results, Tryz.results17, go_sem, x0, x1, x2, x3, x4, x5, y0, y1, y2, y3]) rfl ⟨rfl, (HP.out.then g1 (fun i hi e => by omega)).then f1 (fun i hi e => by omega)⟩
set_option maxHeartbeats 4000000 in
theorem rdrem_ok {w : World} {r : RA} {Q : List RQ} {Gs : List Grp} (h : RefD w r Q Gs) (seed : Nat) (same : Bool) (hsd : seed < 18446744073709551616) (hk : Keeps seed same (slotsR (Q.map absQ)) Gs) {s : Nat} {x : Ent} {v : Value} (hx : Q[s]? = some (x, v, false)) :
    Calls Tryz.prog 17 #[rdV seed same r Q.length (8 * Gs.length), .int .u32 s] w
      (rdremPost w seed same Q (remM (sumL seed same (slotsR (Q.map absQ))) (sumL seed same ((slotsR (Q.map absQ)).set s none)) Gs s) s x v) := by
  have hQ := h.l.len
  have hs32 : s ≤ 4294967295 := by have := (List.getElem?_eq_some_iff.1 hx).1; omega
  have hxL : (slotsR (Q.map absQ))[s]? = some (some x) := by unfold slotsR; rw [List.getElem?_map, List.getElem?_map, hx]; rfl
  have hll := liveOf_le' (slotsR (Q.map absQ))
  rw [slotsR_length, List.length_map] at hll
  obtain ⟨n, hn⟩ : ∃ n, Q.length = n := ⟨_, rfl⟩
  obtain ⟨m, hm⟩ : ∃ m, 8 * Gs.length = m := ⟨_, rfl⟩
  obtain ⟨L, hLL⟩ : ∃ L, slotsR (Q.map absQ) = L := ⟨_, rfl⟩
  rw [hLL] at hk hxL hll ⊢
  obtain ⟨⟨i, j, hfm, hta⟩, hok1, _, _⟩ := hk.remove hxL
  obtain ⟨i2, j2, hfm2, hfull⟩ := hk.holds.find_some (s := s) ⟨x, hxL⟩
  rw [hfm] at hfm2
  cases hfm2
  have hdel := hk.holds.del hfull
  obtain ⟨c1, c2, _⟩ := del_counts hk.holds.ok hfull
  have hus := hk.used
  rw [hta] at hok1
  unfold remM
  rw [hta]
  obtain ⟨G1, hG1⟩ : ∃ G1, delG Gs i j = G1 := ⟨_, rfl⟩
  rw [hG1] at hdel c1 c2 hok1 hta ⊢
  have hul : usedN G1 ≤ 7340032 := by omega
  have hut := used_tomb_le hok1.grp
  have hpw := hok1.pow
  have hm1 : 8 * G1.length = m := by rw [c2]; exact hm
  obtain ⟨⟨g, rh⟩, hpl⟩ : ∃ x, planR G1.length (usedN G1) = x := ⟨_, rfl⟩
  have hx1 := (planR_ok (g := G1.length) (live := usedN G1) hpw).1
  rw [hpl] at hx1
  rw [hpl]
  obtain ⟨H, hH⟩ : ∃ H, sumL seed same L = H := ⟨_, rfl⟩
  obtain ⟨H', hH'⟩ : ∃ H', sumL seed same (L.set s none) = H' := ⟨_, rfl⟩
  have hfl : ∀ t ∈ G1.flatMap fullS, liveS (L.set s none) t := fun t ht => (liveS_set L s t).2 ((hdel.mem t).2 ((full_mem hok1 t).1 ht))
  have HDo : Hid (∀ (W : World) (r2 : RA) (Q2 : List RQ), RefD W r2 Q2 G1 → Q2.map absQ = (Q.map absQ).set s (x, true) → Calls Tryz.prog 68 #[rdV seed same r2 Q2.length m, .agg #[.int .i64 g, .bool rh]] W (rddoPost W seed same r2 Q2 (doG H' (g, rh) G1))) := Lib.hid (fun W r2 Q2 hW hq => by
    have hL2 : slotsR (Q2.map absQ) = L.set s none := by rw [hq, slotsR_set, hLL]
    have := rddo_ok hW seed same hsd (g, rh) hx1 (by rw [hL2]; exact hfl)
    rw [hL2, hH', hm1] at this
    exact this)
  have HSm : Hid (∀ (W : World) (r2 : RA) (G2 : List Grp) (m2 : Nat), RefD W r2 Q G2 → Calls Tryz.prog 66 #[rdV seed same r2 n m2, .int .u32 s] W fun e w' => e = .returned (.int .u64 (H s : Nat)) ∧ Pure W w') := Lib.hid (fun W r2 G2 m2 hW => by
    have := rdsumL (m := m2) hW seed same hsd (s := s) (by rw [hLL]; exact ⟨x, hxL⟩)
    rw [hn, hLL, hH] at this
    exact this)
  have HHl : Hid (H s < 18446744073709551616) := Lib.hid (by rw [← hH]; exact sumL_lt seed same _ s)
  have HI := Lib.hid (fun W => rRemoveP_ok (live := usedN G1) (tombs := tombN G1) hpw hut hul W)
  rw [hpl] at HI
  unfold gremPost at HI
  dsimp only at HI
  have HRI : Hid (∀ (W : World) (r2 : RA), RefI W r2.aC r2.cC r2.aS r2.cS Gs → Calls Tryz.prog 65 #[.agg #[.slice r2.aC m r2.cC, .slice r2.aS m r2.cS], .int .u64 (H s : Nat), .int .u32 s] W fun e w' => ∃ a9 c9 a9' c9' z, e = .returned (.tuple #[.agg #[.slice a9 m c9, .slice a9' m c9'], .int .i64 z]) ∧ RefI w' a9 c9 a9' c9' G1 ∧ Pure W w') := Lib.hid (fun W r2 hW => by
    have := rRemove_ok hW (H s) s HHl.out hs32
    unfold refI at this
    rw [hm] at this
    refine this.mono (fun e w' hq => ?_)
    obtain ⟨hp, hq⟩ := hq
    rw [← hH, hfm] at hq
    obtain ⟨a1, a2, a3, a4, e1, e2⟩ := hq
    unfold refI at e1
    rw [hm] at e1
    dsimp only at e2
    rw [hG1] at e2
    exact ⟨a1, a2, a3, a4, 0, e1, e2, hp⟩)
  have hbv := h.l.vals _ (List.mem_of_getElem? hx)
  obtain ⟨va, vc, hve, _⟩ := owns_form hbv
  dsimp only at hve
  subst hve
  obtain ⟨nv, hnv⟩ : ∃ nv, (bytesOf x.val).length = nv := ⟨_, rfl⟩
  rw [hnv] at hx ⊢
  have HHas := Lib.hid (fun (W : World) (hW : RefRow W r.aL r.cL r.aG r.cG Q) => ref_Has hW s hs32)
  rw [show hasQ Q s = true by unfold hasQ; rw [hx]; rfl] at HHas
  have HRm := Lib.hid (fun (W : World) (hW : RefRow W r.aL r.cL r.aG r.cG Q) => ref_Remove_hit hW s hs32 x _ hx)
  unfold refRemHit refV entV at HRm
  rw [hn] at HHas HRm
  rw [hH', hn, hm]
  have HN := Lib.hid hn; have HM := Lib.hid hm; have HM1 := Lib.hid hm1
  have h2a := heap_new (w := w) (o := rdO seed same r n m) rfl
  have h4a := heap_new (w := w.alloc (rdO seed same r n m)) (o := .cells #[.int .u64 0, .bool false, .slice none 0 0, .slice none 0 0, .slice none 0 0, .slice none 0 0] 38 (0, 0)) (n := w.heap.size + 1) (by simp)
  have h5a := heap_new (w := (w.alloc (rdO seed same r n m)).alloc (.cells #[.int .u64 0, .bool false, .slice none 0 0, .slice none 0 0, .slice none 0 0, .slice none 0 0] 38)) (o := .cells #[.string ⟨#[]⟩, .slice none 0 0, .int .u64 0, .int .u64 0] 42 (0, 0)) (n := w.heap.size + 1 + 1) (by simp)
  have hp0 : Pure w (((w.alloc (rdO seed same r n m)).alloc (.cells #[.int .u64 0, .bool false, .slice none 0 0, .slice none 0 0, .slice none 0 0, .slice none 0 0] 38)).alloc (.cells #[.string ⟨#[]⟩, .slice none 0 0, .int .u64 0, .int .u64 0] 42)) := (((Mod.refl _ w).alloc _).alloc _).alloc _
  have HD := Lib.hid (RDo.mk (b := w.heap.size) (b4 := w.heap.size + 1) hp0 (heap_keep (heap_keep h2a)) (heap_keep h4a) (h.pure hp0))
  clear hn hm hm1 hnv h hk hx hxL hll hLL hfm hta hok1 hfull hdel c1 c2 hus hG1 hul hut hpw hpl hx1 hH hH' hfl hbv hsd hQ
  clear h2a h4a hp0
  obtain ⟨aL, cL, aG, cG, aC, cC, aS, cS⟩ := r
  dsimp only [rdO] at HD h5a HHas HRm ⊢
  go_enter Tryz.func17, Tryz.ntmps17
  go_upto_region 1 with fail
  generalize (((w.alloc (.cells #[.int .u64 seed, .bool same, .slice aL n cL, .slice aG n cG, .slice aC m cC, .slice aS m cS] 38)).alloc (.cells #[.int .u64 0, .bool false, .slice none 0 0, .slice none 0 0, .slice none 0 0, .slice none 0 0] 38)).alloc (.cells #[.string ⟨#[]⟩, .slice none 0 0, .int .u64 0, .int .u64 0] 42)) = W1 at *
  obtain ⟨b, hb⟩ : ∃ b, w.heap.size = b := ⟨_, rfl⟩
  rw [hb] at HD h5a ⊢
  have HB := Lib.hid hb
  clear hb
  have hd2 := HD.out.h2
  dsimp only [rdO] at hd2
  have hd2_0 := cell_of_row _ _ 0 _ _ _ hd2; have hd2_1 := cell_of_row _ _ 1 _ _ _ hd2; have hd2_2 := cell_of_row _ _ 2 _ _ _ hd2; have hd2_3 := cell_of_row _ _ 3 _ _ _ hd2; have hd2_4 := cell_of_row _ _ 4 _ _ _ hd2; have hd2_5 := cell_of_row _ _ 5 _ _ _ hd2; have hd2_f := (fun j => frozen_of_row _ _ j _ _ hd2); have hd2_l := lt_of_block hd2; simp at hd2_0 hd2_1 hd2_2 hd2_3 hd2_4 hd2_5; have H_hd2 := Lib.hid hd2; clear hd2
  have H5 := Lib.hid h5a
  clear h5a
  go_upto_region 3 with (go_at_call 64; refine Calls.mono (HHas.out _ HD.out.rf.l) ?_; rintro e X ⟨rfl, hp2⟩; clear hd2_0 hd2_1 hd2_2 hd2_3 hd2_4 hd2_5 hd2_f hd2_l)
  have g2 := hp2.heap (fun h => h) H_hd2.out
  have HX := Lib.hid (HD.out.pure hp2)
  replace H5 := Lib.hid (hp2.heap (fun h => h) H5.out)
  have hbw : w.heap.size ≤ b := by have := HB.out; omega
  clear hp2 H_hd2 HD HHas
  have hal : X.heap[b]? = some (.cells #[.int .u64 seed, .bool same, .slice aL n cL, .slice aG n cG, .slice aC m cC, .slice aS m cS] 38 (0, 0)) := g2
  clear g2
  have HSu := Lib.hid (fun W (hW : Pure X W) => HSm.out W _ _ m (HX.out.rf.pure hW))
  obtain ⟨hh, hhe⟩ : ∃ hh, H s = hh := ⟨_, rfl⟩
  rw [hhe] at HSu
  have HHE := Lib.hid hhe
  have hhl : hh < 18446744073709551616 := by rw [← hhe]; exact HHl.out
  have HIn := Lib.hid (fun (W : World) (hW : Pure X W) => HRI.out W ⟨aL, cL, aG, cG, aC, cC, aS, cS⟩ (HX.out.rf.x.pure hW))
  rw [hhe] at HIn
  dsimp only at HIn
  clear HRI
  clear hhe HSm HHl hhl
  have HAL := Lib.hid hal
  have hal_0 := cell_of_row _ _ 0 _ _ _ hal; have hal_1 := cell_of_row _ _ 1 _ _ _ hal; have hal_2 := cell_of_row _ _ 2 _ _ _ hal; have hal_3 := cell_of_row _ _ 3 _ _ _ hal; have hal_4 := cell_of_row _ _ 4 _ _ _ hal; have hal_5 := cell_of_row _ _ 5 _ _ _ hal; have hal_f := (fun j => frozen_of_row _ _ j _ _ hal); have hal_l := lt_of_block hal; simp at hal_0 hal_1 hal_2 hal_3 hal_4 hal_5; have H_hal := Lib.hid hal; clear hal
  go_cut [] (fun wx => ∃ a9 c9 a9' c9', RDo w b (b + 1) seed same ⟨aL, cL, aG, cG, a9, c9, a9', c9'⟩ n m Q G1 wx ∧ wx.heap[b + 1 + 1]? = some (.cells #[.string ⟨#[]⟩, .slice none 0 0, .int .u64 0, .int .u64 0] 42 (0, 0)))
  case first =>
    go_region_with (first
      | (go_at_call 66; refine Calls.mono (HSu.out _ (by first | exact Mod.refl _ _ | exact (Mod.refl _ _).drew)) ?_; rintro e wS ⟨rfl, hpS⟩; have k2 := hpS.cell (fun h => h) hal_0; have k3 := hpS.cell (fun h => h) hal_1; have k4 := hpS.cell (fun h => h) hal_2; have k5 := hpS.cell (fun h => h) hal_3; have k6 := hpS.cell (fun h => h) hal_4; have k7 := hpS.cell (fun h => h) hal_5)
      | (go_at_call 65; refine Calls.mono (HIn.out _ (by first | exact Mod.of_drew hpS | exact hpS)) ?_; rintro e w9 ⟨a9, c9, a9', c9', z, rfl, hr9, hp9⟩; have hp79 := Lib.hid (Mod.trans (Mod.of_drew hpS) hp9 : Pure X w9); have h9b := hp79.out.heap (fun h => h) HAL.out; have h9b_0 := cell_of_row _ _ 0 _ _ _ h9b; have h9b_1 := cell_of_row _ _ 1 _ _ _ h9b; have h9b_2 := cell_of_row _ _ 2 _ _ _ h9b; have h9b_3 := cell_of_row _ _ 3 _ _ _ h9b; have h9b_4 := cell_of_row _ _ 4 _ _ _ h9b; have h9b_5 := cell_of_row _ _ 5 _ _ _ h9b; have h9b_f := (fun j => frozen_of_row _ _ j _ _ h9b); have h9b_l := lt_of_block h9b; simp at h9b_0 h9b_1 h9b_2 h9b_3 h9b_4 h9b_5; have H_h9b := Lib.hid h9b; clear h9b))
    all_goals
      try go_wp2
      go_meet
      have hm9 := Mod.set2 (w := w9) b 4 5 (.slice a9 m c9) (.slice a9' m c9')
      have hne9 : ∀ i, i = b → i < w9.heap.size → ∃ cs T fz, w9.heap[i]? = some (.cells cs T fz) ∧ T ≠ 42 ∧ T ≠ 4 ∧ T ≠ 5 ∧ T ≠ 43 := fun i e _ => ⟨_, _, _, e ▸ H_h9b.out, by decide, by decide, by decide, by decide⟩
      have hH := HX.out.pure hp79.out
      exact ⟨a9, c9, a9', c9', ⟨hH.pu.then hm9 (fun i hi e => by omega), set45 H_h9b.out, hm9.heap (by omega) hH.h4, hH.rf.l.modX hm9 hne9, hr9.modT hm9 (fun i e hi => by obtain ⟨cs, T, fz, e2, _, _, h1, h2⟩ := hne9 i e hi; exact ⟨cs, T, fz, e2, h1, h2⟩)⟩, hm9.heap (by omega) (hp79.out.heap (fun h => h) H5.out)⟩
  case rest =>
    obtain ⟨a9, c9, a9', c9', hrd, hz5⟩ := hcut
    replace H5 := Lib.hid hz5
    have HD := Lib.hid hrd
    have hd2 := hrd.h2
    dsimp only [rdO] at hd2
    clear hrd HX HIn HSu hz5
    clear hal_0 hal_1 hal_2 hal_3 hal_4 hal_5 hal_f hal_l
    clear H_hal HAL
    have HRl := HRm.out _ HD.out.rf.l
    clear HRm
    have hd2_0 := cell_of_row _ _ 0 _ _ _ hd2; have hd2_1 := cell_of_row _ _ 1 _ _ _ hd2; have hd2_2 := cell_of_row _ _ 2 _ _ _ hd2; have hd2_3 := cell_of_row _ _ 3 _ _ _ hd2; have hd2_4 := cell_of_row _ _ 4 _ _ _ hd2; have hd2_5 := cell_of_row _ _ 5 _ _ _ hd2; have hd2_f := (fun j => frozen_of_row _ _ j _ _ hd2); have hd2_l := lt_of_block hd2; simp at hd2_0 hd2_1 hd2_2 hd2_3 hd2_4 hd2_5; have H_hd2 := Lib.hid hd2; clear hd2
    go_upto_region 5 with (go_at_call 25; refine Calls.mono HRl ?_; rintro e w5 ⟨aL2, cL2, aG2, cG2, Q2, rfl, hq2, hr2, hf2, _, hp5⟩)
    obtain ⟨n2, hn2⟩ : ∃ n2, Q2.length = n2 := ⟨_, rfl⟩
    rw [hn2] at hf2 ⊢
    have HN2 := Lib.hid hn2
    have hal : Pure w5 ((w5.alloc (.cells #[.slice aL2 n2 cL2, .slice aG2 n2 cG2] 32)).alloc (.cells #[.string x.key, .slice va nv vc, .int .u64 x.dl, .int .u64 x.birth] 42)) := ((Mod.refl _ w5).alloc _).alloc _
    have h7 := heap_keep (o := .cells #[.string x.key, .slice va nv vc, .int .u64 x.dl, .int .u64 x.birth] 42) (heap_new (w := w5) (o := .cells #[.slice aL2 n2 cL2, .slice aG2 n2 cG2] 32 (0, 0)) rfl)
    have h8 := heap_new (w := w5.alloc (.cells #[.slice aL2 n2 cL2, .slice aG2 n2 cG2] 32)) (o := .cells #[.string x.key, .slice va nv vc, .int .u64 x.dl, .int .u64 x.birth] 42 (0, 0)) (n := w5.heap.size + 1) (by simp)
    have hp6 := hp5.trans hal
    have hy2 := hp6.heap (fun h => h) H_hd2.out
    have HR2 := Lib.hid (hr2.pure hal)
    have HQ2 := Lib.hid hq2
    have hsw : w.heap.size ≤ wc.heap.size := HD.out.pu.size
    have HF2 : Hid (Fresh w (.slice aL2 n2 cL2)) := Lib.hid (fun g hg => by have := hf2 g hg; omega)
    have HFB : Hid (∀ g, (Value.slice aL2 n2 cL2).ownBlock = some g → b + 1 + 1 < g) := Lib.hid (fun g hg => by have := hf2 g hg; have := lt_of_block H5.out; omega)
    have hb5 : b + 1 + 1 < w5.heap.size := by have := lt_of_block H5.out; have := hp5.size; omega
    replace HD := Lib.hid (HD.out.pure hp6)
    replace H5 := Lib.hid (hp6.heap (fun h => h) H5.out)
    clear hd2_0 hd2_1 hd2_2 hd2_3 hd2_4 hd2_5 hd2_f hd2_l
    clear H_hd2 hal hp5 hp6 hq2 hr2 hf2 hn2 hsw HRl
    generalize (w5.alloc (.cells #[.slice aL2 n2 cL2, .slice aG2 n2 cG2] 32)).alloc (.cells #[.string x.key, .slice va nv vc, .int .u64 x.dl, .int .u64 x.birth] 42) = W6 at *
    generalize w5.heap.size = b7 at *
    have hne7 : b7 ≠ b := by omega
    have H8 := Lib.hid h8
    clear h8
    have h7_0 := cell_of_row _ _ 0 _ _ _ h7; have h7_1 := cell_of_row _ _ 1 _ _ _ h7; have h7_f := (fun j => frozen_of_row _ _ j _ _ h7); have h7_l := lt_of_block h7; simp at h7_0 h7_1; have H_h7 := Lib.hid h7; clear h7
    have hy2_0 := cell_of_row _ _ 0 _ _ _ hy2; have hy2_1 := cell_of_row _ _ 1 _ _ _ hy2; have hy2_2 := cell_of_row _ _ 2 _ _ _ hy2; have hy2_3 := cell_of_row _ _ 3 _ _ _ hy2; have hy2_4 := cell_of_row _ _ 4 _ _ _ hy2; have hy2_5 := cell_of_row _ _ 5 _ _ _ hy2; have hy2_f := (fun j => frozen_of_row _ _ j _ _ hy2); have hy2_l := lt_of_block hy2; simp at hy2_0 hy2_1 hy2_2 hy2_3 hy2_4 hy2_5; have H_hy2 := Lib.hid hy2; clear hy2
    go_upto_region 6 with fail
    obtain ⟨W1, hX⟩ : ∃ X, (W6.setCell ⟨b, 2, none⟩ (.slice aL2 n2 cL2)).setCell ⟨b, 3, none⟩ (.slice aG2 n2 cG2) = X := ⟨_, rfl⟩
    have hmx : Mod (fun k => k = b) W6 W1 := by rw [← hX]; exact Mod.set2 b 2 3 _ _
    have hx2 : W1.heap[b]? = some (rdO seed same ⟨aL2, cL2, aG2, cG2, a9, c9, a9', c9'⟩ n2 m) := by rw [← hX]; exact set23 H_hy2.out
    rw [hX]
    have hnb : ∀ i, i = b → i < W6.heap.size → ∃ cs T fz, W6.heap[i]? = some (.cells cs T fz) ∧ T ≠ 42 ∧ T ≠ 4 ∧ T ≠ 5 ∧ T ≠ 43 := fun i e _ => ⟨_, _, _, e ▸ H_hy2.out, by decide, by decide, by decide, by decide⟩
    replace HD : Hid (RDo w b (b + 1) seed same ⟨aL2, cL2, aG2, cG2, a9, c9, a9', c9'⟩ n2 m Q2 G1 W1) := Lib.hid ⟨HD.out.pu.then hmx (fun i hi e => by omega), hx2, hmx.heap (by omega) HD.out.h4, HR2.out.modX hmx hnb, HD.out.rf.x.modT hmx (fun i e hi => by obtain ⟨cs, T, fz, e2, _, _, h1, h2⟩ := hnb i e hi; exact ⟨cs, T, fz, e2, h1, h2⟩)⟩
    replace H5 := Lib.hid (hmx.heap (by omega) H5.out)
    replace H8 := Lib.hid (hmx.heap (by omega) H8.out)
    have hbl8 : b7 + 1 < W1.heap.size := lt_of_block H8.out
    clear hy2_0 hy2_1 hy2_2 hy2_3 hy2_4 hy2_5 hy2_f hy2_l
    clear h7_0 h7_1 h7_f h7_l
    clear H_hy2 H_h7 hX hmx hnb HR2 hx2 hne7
    have hd2 := HD.out.h2
    have hbl : b < W1.heap.size := lt_of_block hd2
    have HC0 := Lib.hid (fun W (hW : Pure W1 W) => rdgroups HD.out.rf HM1.out hW)
    have HC1 := Lib.hid (fun W (hW : Pure W1 W) => rdcount HD.out.rf HM1.out hW)
    have HC2 := Lib.hid (fun W (hW : Pure W1 W) => rdtombs HD.out.rf HM1.out hW)
    have HC3 := Lib.hid (fun W (_ : Pure W1 W) => HI.out W)
    dsimp only at HC0 HC1 HC2
    generalize G1.length = g0 at HC0 HC3
    generalize usedN G1 = u0 at HC1 HC3
    generalize tombN G1 = t0 at HC2 HC3
    dsimp only [rdO] at hd2
    have hd2_0 := cell_of_row _ _ 0 _ _ _ hd2; have hd2_1 := cell_of_row _ _ 1 _ _ _ hd2; have hd2_2 := cell_of_row _ _ 2 _ _ _ hd2; have hd2_3 := cell_of_row _ _ 3 _ _ _ hd2; have hd2_4 := cell_of_row _ _ 4 _ _ _ hd2; have hd2_5 := cell_of_row _ _ 5 _ _ _ hd2; have hd2_f := (fun j => frozen_of_row _ _ j _ _ hd2); have hd2_l := lt_of_block hd2; simp at hd2_0 hd2_1 hd2_2 hd2_3 hd2_4 hd2_5; have H_hd2 := Lib.hid hd2; clear hd2
    go_cut [10, 11] (fun v5 v6 wx => v6 = .int .i64 0 ∧ ∃ b5, v5 = .pointer (some ⟨b5, 0, none⟩) ∧ wx.heap[b5]? = some (.cells #[.int .i64 g, .bool rh] 112 (0, 0)) ∧ Pure W1 wx)
    case first =>
      clear HI HDo
      have hpu : Pure W1 W1.drew := (Mod.refl _ W1).drew
      refine wp_region_held_drew (S := S2 b (.slice a9 m c9) (.slice a9' m c9')) (by kernel_rfl) ⟨hd2_4, hd2_5⟩ (fun hHeld => ?_)
      generalize W1.drew = WD at *
      (refine wpAnyH_take (i := 0) (v := ?_) rfl (by kernel_rfl) (by kernel_rfl) (by kernel_rfl) (fun _ _ _ h => h) (Yields.yieldsIf (Or.inl ⟨by rfl, ?_⟩)) hHeld ?_; rotate_left 1; focus (intro w; go_simp; try with_reducible rfl))
      (refine wpAnyH_take (i := 3) (v := ?_) rfl (by kernel_rfl) (by kernel_rfl) (by kernel_rfl) (fun _ _ _ h => h) (Yields.yieldsIf (Or.inl ⟨by rfl, ?_⟩)) hHeld ?_; rotate_left 1; focus (intro w; go_simp; try with_reducible rfl))
      (refine wpAnyH_take (i := 6) (v := ?_) rfl (by kernel_rfl) (by kernel_rfl) (by kernel_rfl) (fun _ _ _ h => h) (Yields.yieldsIf (Or.inl ⟨by rfl, ?_⟩)) hHeld ?_; rotate_left 1; focus (intro w; go_simp; try with_reducible rfl))
      (refine wpAnyH_take (i := 1) (v := ?_) rfl (by kernel_rfl) (by kernel_rfl) (by kernel_rfl) (fun _ _ _ h => h) (Or.inl ⟨by rfl, ?_⟩) hHeld ?_; rotate_left 1; focus (intro w hS; obtain ⟨s4, s5⟩ := hS; go_simp; try with_reducible rfl))
      (refine wpAnyH_take (i := 4) (v := ?_) rfl (by kernel_rfl) (by kernel_rfl) (by kernel_rfl) (fun _ _ _ h => h) (Or.inl ⟨by rfl, ?_⟩) hHeld ?_; rotate_left 1; focus (intro w hS; obtain ⟨s4, s5⟩ := hS; go_simp; try with_reducible rfl))
      (refine wpAnyH_take (i := 7) (v := ?_) rfl (by kernel_rfl) (by kernel_rfl) (by kernel_rfl) (fun _ _ _ h => h) (Or.inl ⟨by rfl, ?_⟩) hHeld ?_; rotate_left 1; focus (intro w hS; obtain ⟨s4, s5⟩ := hS; go_simp; try with_reducible rfl))
      refine wpAnyH_ready (rs := [2, 13]) (by kernel_rfl) (by simp) ?_
      refine AllReadyH.cons rfl (fun K hK => ?_) (AllReadyH.cons rfl (fun K hK => ?_) AllReadyH.nil)
      · go_simp
        refine Calls.mono (HC0.out _ hpu) ?_
        rintro e w0 ⟨rfl, hpN⟩
        refine hK.out _ _ (hHeld.mod hpN (fun h => h)) (fun hHeld => ?_)
        clear hK K
        replace hpu := hpu.trans hpN
        clear hpN
        refine wpAnyH_ready (rs := [5, 13]) (by kernel_rfl) (by simp) ?_
        refine AllReadyH.cons rfl (fun K hK => ?_) (AllReadyH.cons rfl (fun K hK => ?_) AllReadyH.nil)
        · go_simp
          refine Calls.mono (HC1.out _ hpu) ?_
          rintro e w1 ⟨rfl, hpN⟩
          refine hK.out _ _ (hHeld.mod hpN (fun h => h)) (fun hHeld => ?_)
          clear hK K
          replace hpu := hpu.trans hpN
          clear hpN
          refine wpAnyH_ready (rs := [8, 13]) (by kernel_rfl) (by simp) ?_
          refine AllReadyH.cons rfl (fun K hK => ?_) (AllReadyH.cons rfl (fun K hK => ?_) AllReadyH.nil)
          · go_simp
            refine Calls.mono (HC2.out _ hpu) ?_
            rintro e w2 ⟨rfl, hpN⟩
            refine hK.out _ _ (hHeld.mod hpN (fun h => h)) (fun hHeld => ?_)
            clear hK K
            replace hpu := hpu.trans hpN
            clear hpN
            refine wpAnyH_ready (rs := [9, 13]) (by kernel_rfl) (by simp) ?_
            refine AllReadyH.cons rfl (fun K hK => ?_) (AllReadyH.cons rfl (fun K hK => ?_) AllReadyH.nil)
            · go_simp
              refine Calls.mono (HC3.out _ hpu) ?_
              rintro e w3 ⟨rfl, hpN⟩
              refine hK.out _ _ (hHeld.mod hpN (fun h => h)) (fun hHeld => ?_)
              clear hK K
              replace hpu := hpu.trans hpN
              clear hpN
              (refine wpAnyH_take (i := 10) (v := ?_) rfl (by kernel_rfl) (by kernel_rfl) (by kernel_rfl) (fun _ _ _ h => h) (Yields.yieldsIf (Or.inl ⟨by rfl, ?_⟩)) hHeld ?_; rotate_left 1; focus (intro w; go_simp; try with_reducible rfl))
              (refine wpAnyH_take (i := 11) (v := ?_) rfl (by kernel_rfl) (by kernel_rfl) (by kernel_rfl) (fun _ _ _ h => h) (Yields.yieldsIf (Or.inl ⟨by rfl, ?_⟩)) hHeld ?_; rotate_left 1; focus (intro w; go_simp; try with_reducible rfl))
              (refine wpAnyH_take (i := 12) (v := ?_) rfl (by kernel_rfl) (by kernel_rfl) (by kernel_rfl) (fun _ _ _ h => h) (Yields.yieldsIf (Or.inl ⟨by rfl, ?_⟩)) hHeld ?_; rotate_left 1; focus (intro w; go_simp; try with_reducible rfl))
              refine wpAnyH_ready (rs := [13]) (by kernel_rfl) (by simp) ?_
              refine AllReadyH.cons rfl (fun K hK => ?_) AllReadyH.nil
              go_simp
              have hle0 := hpu.size
              refine hK.out _ _ (hHeld.mod ((Mod.refl (fun _ => False) _).alloc _) (fun h => h)) (fun hHeld => ?_)
              clear hK K
              have hz := heap_new (w := w3) (o := .cells #[.int .i64 0, .bool false] 112 (0, 0)) rfl
              replace hpu := hpu.alloc (.cells #[.int .i64 0, .bool false] 112)
              have hle5 : W1.heap.size ≤ w3.heap.size := hle0
              generalize (w3).alloc (.cells #[.int .i64 0, .bool false] 112) = WA at *
              generalize (w3).heap.size = b5 at *
              have hnb : ¬ b = b5 := by omega
              clear hle0
              have hz_0 := cell_of_row _ _ 0 _ _ _ hz; have hz_1 := cell_of_row _ _ 1 _ _ _ hz; have hz_f := (fun j => frozen_of_row _ _ j _ _ hz); have hz_l := lt_of_block hz; simp at hz_0 hz_1; have H_hz := Lib.hid hz; clear hz
              (refine wpAnyH_ready (rs := [14]) (by kernel_rfl) (by simp) ?_; refine AllReadyH.cons rfl (fun K hK => ?_) AllReadyH.nil; go_simp; skip; refine hK.out _ _ ?_ (fun hHeld => ?_); (· exact hHeld.mod (Mod.set2 _ 0 1 _ _) (fun e => hnb e)); clear hK K)
              (refine wpAnyH_take (i := 15) (v := ?_) rfl (by kernel_rfl) (by kernel_rfl) (by kernel_rfl) (fun _ _ _ h => h) (Yields.yieldsIf (Or.inl ⟨by rfl, ?_⟩)) hHeld ?_; rotate_left 1; focus (intro w; go_simp; try with_reducible rfl))
              refine wpAnyH_done (by kernel_rfl) ?_ _
              try go_wp2
              go_meet
              exact ⟨rfl, _, rfl, heap_set12 H_hz.out, hpu.then (Mod.set2 _ 0 1 _ _) (fun i hi e => by omega)⟩
            · go_simp
              have hle0 := hpu.size
              refine hK.out _ _ (hHeld.mod ((Mod.refl (fun _ => False) _).alloc _) (fun h => h)) (fun hHeld => ?_)
              clear hK K
              have hz := heap_new (w := w2) (o := .cells #[.int .i64 0, .bool false] 112 (0, 0)) rfl
              replace hpu := hpu.alloc (.cells #[.int .i64 0, .bool false] 112)
              have hle5 : W1.heap.size ≤ w2.heap.size := hle0
              generalize (w2).alloc (.cells #[.int .i64 0, .bool false] 112) = WA at *
              generalize (w2).heap.size = b5 at *
              have hnb : ¬ b = b5 := by omega
              clear hle0
              (refine wpAnyH_ready (rs := [9]) (by kernel_rfl) (by simp) ?_; refine AllReadyH.cons rfl (fun K hK => ?_) AllReadyH.nil; go_simp; refine Calls.mono (HC3.out _ hpu) ?_; rintro e w3 ⟨rfl, hpN⟩; refine hK.out _ _ ?_ (fun hHeld => ?_); (· exact hHeld.mod hpN (fun h => h)); clear hK K)
              replace hpu := hpu.trans hpN
              replace hz := hpN.heap (fun h => h) hz
              clear hpN
              (refine wpAnyH_take (i := 10) (v := ?_) rfl (by kernel_rfl) (by kernel_rfl) (by kernel_rfl) (fun _ _ _ h => h) (Yields.yieldsIf (Or.inl ⟨by rfl, ?_⟩)) hHeld ?_; rotate_left 1; focus (intro w; go_simp; try with_reducible rfl))
              (refine wpAnyH_take (i := 11) (v := ?_) rfl (by kernel_rfl) (by kernel_rfl) (by kernel_rfl) (fun _ _ _ h => h) (Yields.yieldsIf (Or.inl ⟨by rfl, ?_⟩)) hHeld ?_; rotate_left 1; focus (intro w; go_simp; try with_reducible rfl))
              (refine wpAnyH_take (i := 12) (v := ?_) rfl (by kernel_rfl) (by kernel_rfl) (by kernel_rfl) (fun _ _ _ h => h) (Yields.yieldsIf (Or.inl ⟨by rfl, ?_⟩)) hHeld ?_; rotate_left 1; focus (intro w; go_simp; try with_reducible rfl))
              have hz_0 := cell_of_row _ _ 0 _ _ _ hz; have hz_1 := cell_of_row _ _ 1 _ _ _ hz; have hz_f := (fun j => frozen_of_row _ _ j _ _ hz); have hz_l := lt_of_block hz; simp at hz_0 hz_1; have H_hz := Lib.hid hz; clear hz
              (refine wpAnyH_ready (rs := [14]) (by kernel_rfl) (by simp) ?_; refine AllReadyH.cons rfl (fun K hK => ?_) AllReadyH.nil; go_simp; skip; refine hK.out _ _ ?_ (fun hHeld => ?_); (· exact hHeld.mod (Mod.set2 _ 0 1 _ _) (fun e => hnb e)); clear hK K)
              (refine wpAnyH_take (i := 15) (v := ?_) rfl (by kernel_rfl) (by kernel_rfl) (by kernel_rfl) (fun _ _ _ h => h) (Yields.yieldsIf (Or.inl ⟨by rfl, ?_⟩)) hHeld ?_; rotate_left 1; focus (intro w; go_simp; try with_reducible rfl))
              refine wpAnyH_done (by kernel_rfl) ?_ _
              try go_wp2
              go_meet
              exact ⟨rfl, _, rfl, heap_set12 H_hz.out, hpu.then (Mod.set2 _ 0 1 _ _) (fun i hi e => by omega)⟩
          · go_simp
            have hle0 := hpu.size
            refine hK.out _ _ (hHeld.mod ((Mod.refl (fun _ => False) _).alloc _) (fun h => h)) (fun hHeld => ?_)
            clear hK K
            have hz := heap_new (w := w1) (o := .cells #[.int .i64 0, .bool false] 112 (0, 0)) rfl
            replace hpu := hpu.alloc (.cells #[.int .i64 0, .bool false] 112)
            have hle5 : W1.heap.size ≤ w1.heap.size := hle0
            generalize (w1).alloc (.cells #[.int .i64 0, .bool false] 112) = WA at *
            generalize (w1).heap.size = b5 at *
            have hnb : ¬ b = b5 := by omega
            clear hle0
            (refine wpAnyH_ready (rs := [8]) (by kernel_rfl) (by simp) ?_; refine AllReadyH.cons rfl (fun K hK => ?_) AllReadyH.nil; go_simp; refine Calls.mono (HC2.out _ hpu) ?_; rintro e w2 ⟨rfl, hpN⟩; refine hK.out _ _ ?_ (fun hHeld => ?_); (· exact hHeld.mod hpN (fun h => h)); clear hK K)
            replace hpu := hpu.trans hpN
            replace hz := hpN.heap (fun h => h) hz
            clear hpN
            (refine wpAnyH_ready (rs := [9]) (by kernel_rfl) (by simp) ?_; refine AllReadyH.cons rfl (fun K hK => ?_) AllReadyH.nil; go_simp; refine Calls.mono (HC3.out _ hpu) ?_; rintro e w3 ⟨rfl, hpN⟩; refine hK.out _ _ ?_ (fun hHeld => ?_); (· exact hHeld.mod hpN (fun h => h)); clear hK K)
            replace hpu := hpu.trans hpN
            replace hz := hpN.heap (fun h => h) hz
            clear hpN
            (refine wpAnyH_take (i := 10) (v := ?_) rfl (by kernel_rfl) (by kernel_rfl) (by kernel_rfl) (fun _ _ _ h => h) (Yields.yieldsIf (Or.inl ⟨by rfl, ?_⟩)) hHeld ?_; rotate_left 1; focus (intro w; go_simp; try with_reducible rfl))
            (refine wpAnyH_take (i := 11) (v := ?_) rfl (by kernel_rfl) (by kernel_rfl) (by kernel_rfl) (fun _ _ _ h => h) (Yields.yieldsIf (Or.inl ⟨by rfl, ?_⟩)) hHeld ?_; rotate_left 1; focus (intro w; go_simp; try with_reducible rfl))
            (refine wpAnyH_take (i := 12) (v := ?_) rfl (by kernel_rfl) (by kernel_rfl) (by kernel_rfl) (fun _ _ _ h => h) (Yields.yieldsIf (Or.inl ⟨by rfl, ?_⟩)) hHeld ?_; rotate_left 1; focus (intro w; go_simp; try with_reducible rfl))
            have hz_0 := cell_of_row _ _ 0 _ _ _ hz; have hz_1 := cell_of_row _ _ 1 _ _ _ hz; have hz_f := (fun j => frozen_of_row _ _ j _ _ hz); have hz_l := lt_of_block hz; simp at hz_0 hz_1; have H_hz := Lib.hid hz; clear hz
            (refine wpAnyH_ready (rs := [14]) (by kernel_rfl) (by simp) ?_; refine AllReadyH.cons rfl (fun K hK => ?_) AllReadyH.nil; go_simp; skip; refine hK.out _ _ ?_ (fun hHeld => ?_); (· exact hHeld.mod (Mod.set2 _ 0 1 _ _) (fun e => hnb e)); clear hK K)
            (refine wpAnyH_take (i := 15) (v := ?_) rfl (by kernel_rfl) (by kernel_rfl) (by kernel_rfl) (fun _ _ _ h => h) (Yields.yieldsIf (Or.inl ⟨by rfl, ?_⟩)) hHeld ?_; rotate_left 1; focus (intro w; go_simp; try with_reducible rfl))
            refine wpAnyH_done (by kernel_rfl) ?_ _
            try go_wp2
            go_meet
            exact ⟨rfl, _, rfl, heap_set12 H_hz.out, hpu.then (Mod.set2 _ 0 1 _ _) (fun i hi e => by omega)⟩
        · go_simp
          have hle0 := hpu.size
          refine hK.out _ _ (hHeld.mod ((Mod.refl (fun _ => False) _).alloc _) (fun h => h)) (fun hHeld => ?_)
          clear hK K
          have hz := heap_new (w := w0) (o := .cells #[.int .i64 0, .bool false] 112 (0, 0)) rfl
          replace hpu := hpu.alloc (.cells #[.int .i64 0, .bool false] 112)
          have hle5 : W1.heap.size ≤ w0.heap.size := hle0
          generalize (w0).alloc (.cells #[.int .i64 0, .bool false] 112) = WA at *
          generalize (w0).heap.size = b5 at *
          have hnb : ¬ b = b5 := by omega
          clear hle0
          (refine wpAnyH_ready (rs := [5]) (by kernel_rfl) (by simp) ?_; refine AllReadyH.cons rfl (fun K hK => ?_) AllReadyH.nil; go_simp; refine Calls.mono (HC1.out _ hpu) ?_; rintro e w1 ⟨rfl, hpN⟩; refine hK.out _ _ ?_ (fun hHeld => ?_); (· exact hHeld.mod hpN (fun h => h)); clear hK K)
          replace hpu := hpu.trans hpN
          replace hz := hpN.heap (fun h => h) hz
          clear hpN
          (refine wpAnyH_ready (rs := [8]) (by kernel_rfl) (by simp) ?_; refine AllReadyH.cons rfl (fun K hK => ?_) AllReadyH.nil; go_simp; refine Calls.mono (HC2.out _ hpu) ?_; rintro e w2 ⟨rfl, hpN⟩; refine hK.out _ _ ?_ (fun hHeld => ?_); (· exact hHeld.mod hpN (fun h => h)); clear hK K)
          replace hpu := hpu.trans hpN
          replace hz := hpN.heap (fun h => h) hz
          clear hpN
          (refine wpAnyH_ready (rs := [9]) (by kernel_rfl) (by simp) ?_; refine AllReadyH.cons rfl (fun K hK => ?_) AllReadyH.nil; go_simp; refine Calls.mono (HC3.out _ hpu) ?_; rintro e w3 ⟨rfl, hpN⟩; refine hK.out _ _ ?_ (fun hHeld => ?_); (· exact hHeld.mod hpN (fun h => h)); clear hK K)
          replace hpu := hpu.trans hpN
          replace hz := hpN.heap (fun h => h) hz
          clear hpN
          (refine wpAnyH_take (i := 10) (v := ?_) rfl (by kernel_rfl) (by kernel_rfl) (by kernel_rfl) (fun _ _ _ h => h) (Yields.yieldsIf (Or.inl ⟨by rfl, ?_⟩)) hHeld ?_; rotate_left 1; focus (intro w; go_simp; try with_reducible rfl))
          (refine wpAnyH_take (i := 11) (v := ?_) rfl (by kernel_rfl) (by kernel_rfl) (by kernel_rfl) (fun _ _ _ h => h) (Yields.yieldsIf (Or.inl ⟨by rfl, ?_⟩)) hHeld ?_; rotate_left 1; focus (intro w; go_simp; try with_reducible rfl))
          (refine wpAnyH_take (i := 12) (v := ?_) rfl (by kernel_rfl) (by kernel_rfl) (by kernel_rfl) (fun _ _ _ h => h) (Yields.yieldsIf (Or.inl ⟨by rfl, ?_⟩)) hHeld ?_; rotate_left 1; focus (intro w; go_simp; try with_reducible rfl))
          have hz_0 := cell_of_row _ _ 0 _ _ _ hz; have hz_1 := cell_of_row _ _ 1 _ _ _ hz; have hz_f := (fun j => frozen_of_row _ _ j _ _ hz); have hz_l := lt_of_block hz; simp at hz_0 hz_1; have H_hz := Lib.hid hz; clear hz
          (refine wpAnyH_ready (rs := [14]) (by kernel_rfl) (by simp) ?_; refine AllReadyH.cons rfl (fun K hK => ?_) AllReadyH.nil; go_simp; skip; refine hK.out _ _ ?_ (fun hHeld => ?_); (· exact hHeld.mod (Mod.set2 _ 0 1 _ _) (fun e => hnb e)); clear hK K)
          (refine wpAnyH_take (i := 15) (v := ?_) rfl (by kernel_rfl) (by kernel_rfl) (by kernel_rfl) (fun _ _ _ h => h) (Yields.yieldsIf (Or.inl ⟨by rfl, ?_⟩)) hHeld ?_; rotate_left 1; focus (intro w; go_simp; try with_reducible rfl))
          refine wpAnyH_done (by kernel_rfl) ?_ _
          try go_wp2
          go_meet
          exact ⟨rfl, _, rfl, heap_set12 H_hz.out, hpu.then (Mod.set2 _ 0 1 _ _) (fun i hi e => by omega)⟩
      · go_simp
        have hle0 := hpu.size
        refine hK.out _ _ (hHeld.mod ((Mod.refl (fun _ => False) _).alloc _) (fun h => h)) (fun hHeld => ?_)
        clear hK K
        have hz := heap_new (w := WD) (o := .cells #[.int .i64 0, .bool false] 112 (0, 0)) rfl
        replace hpu := hpu.alloc (.cells #[.int .i64 0, .bool false] 112)
        have hle5 : W1.heap.size ≤ WD.heap.size := hle0
        generalize (WD).alloc (.cells #[.int .i64 0, .bool false] 112) = WA at *
        generalize (WD).heap.size = b5 at *
        have hnb : ¬ b = b5 := by omega
        clear hle0
        (refine wpAnyH_ready (rs := [2]) (by kernel_rfl) (by simp) ?_; refine AllReadyH.cons rfl (fun K hK => ?_) AllReadyH.nil; go_simp; refine Calls.mono (HC0.out _ hpu) ?_; rintro e w0 ⟨rfl, hpN⟩; refine hK.out _ _ ?_ (fun hHeld => ?_); (· exact hHeld.mod hpN (fun h => h)); clear hK K)
        replace hpu := hpu.trans hpN
        replace hz := hpN.heap (fun h => h) hz
        clear hpN
        (refine wpAnyH_ready (rs := [5]) (by kernel_rfl) (by simp) ?_; refine AllReadyH.cons rfl (fun K hK => ?_) AllReadyH.nil; go_simp; refine Calls.mono (HC1.out _ hpu) ?_; rintro e w1 ⟨rfl, hpN⟩; refine hK.out _ _ ?_ (fun hHeld => ?_); (· exact hHeld.mod hpN (fun h => h)); clear hK K)
        replace hpu := hpu.trans hpN
        replace hz := hpN.heap (fun h => h) hz
        clear hpN
        (refine wpAnyH_ready (rs := [8]) (by kernel_rfl) (by simp) ?_; refine AllReadyH.cons rfl (fun K hK => ?_) AllReadyH.nil; go_simp; refine Calls.mono (HC2.out _ hpu) ?_; rintro e w2 ⟨rfl, hpN⟩; refine hK.out _ _ ?_ (fun hHeld => ?_); (· exact hHeld.mod hpN (fun h => h)); clear hK K)
        replace hpu := hpu.trans hpN
        replace hz := hpN.heap (fun h => h) hz
        clear hpN
        (refine wpAnyH_ready (rs := [9]) (by kernel_rfl) (by simp) ?_; refine AllReadyH.cons rfl (fun K hK => ?_) AllReadyH.nil; go_simp; refine Calls.mono (HC3.out _ hpu) ?_; rintro e w3 ⟨rfl, hpN⟩; refine hK.out _ _ ?_ (fun hHeld => ?_); (· exact hHeld.mod hpN (fun h => h)); clear hK K)
        replace hpu := hpu.trans hpN
        replace hz := hpN.heap (fun h => h) hz
        clear hpN
        (refine wpAnyH_take (i := 10) (v := ?_) rfl (by kernel_rfl) (by kernel_rfl) (by kernel_rfl) (fun _ _ _ h => h) (Yields.yieldsIf (Or.inl ⟨by rfl, ?_⟩)) hHeld ?_; rotate_left 1; focus (intro w; go_simp; try with_reducible rfl))
        (refine wpAnyH_take (i := 11) (v := ?_) rfl (by kernel_rfl) (by kernel_rfl) (by kernel_rfl) (fun _ _ _ h => h) (Yields.yieldsIf (Or.inl ⟨by rfl, ?_⟩)) hHeld ?_; rotate_left 1; focus (intro w; go_simp; try with_reducible rfl))
        (refine wpAnyH_take (i := 12) (v := ?_) rfl (by kernel_rfl) (by kernel_rfl) (by kernel_rfl) (fun _ _ _ h => h) (Yields.yieldsIf (Or.inl ⟨by rfl, ?_⟩)) hHeld ?_; rotate_left 1; focus (intro w; go_simp; try with_reducible rfl))
        have hz_0 := cell_of_row _ _ 0 _ _ _ hz; have hz_1 := cell_of_row _ _ 1 _ _ _ hz; have hz_f := (fun j => frozen_of_row _ _ j _ _ hz); have hz_l := lt_of_block hz; simp at hz_0 hz_1; have H_hz := Lib.hid hz; clear hz
        (refine wpAnyH_ready (rs := [14]) (by kernel_rfl) (by simp) ?_; refine AllReadyH.cons rfl (fun K hK => ?_) AllReadyH.nil; go_simp; skip; refine hK.out _ _ ?_ (fun hHeld => ?_); (· exact hHeld.mod (Mod.set2 _ 0 1 _ _) (fun e => hnb e)); clear hK K)
        (refine wpAnyH_take (i := 15) (v := ?_) rfl (by kernel_rfl) (by kernel_rfl) (by kernel_rfl) (fun _ _ _ h => h) (Yields.yieldsIf (Or.inl ⟨by rfl, ?_⟩)) hHeld ?_; rotate_left 1; focus (intro w; go_simp; try with_reducible rfl))
        refine wpAnyH_done (by kernel_rfl) ?_ _
        try go_wp2
        go_meet
        exact ⟨rfl, _, rfl, heap_set12 H_hz.out, hpu.then (Mod.set2 _ 0 1 _ _) (fun i hi e => by omega)⟩
    case rest =>
      obtain ⟨rfl, b10, rfl, hb10, hpc⟩ := hcut
      clear HC0 HC1 HC2 HC3
      have hsw1 := hpc.size
      replace HD := Lib.hid (HD.out.pure hpc)
      have h5 := hpc.heap (fun h => h) H5.out
      have h8 := hpc.heap (fun h => h) H8.out
      clear hd2_0 hd2_1 hd2_2 hd2_3 hd2_4 hd2_5 hd2_f hd2_l
      clear H_hd2 HI
      have hd2 := HD.out.h2
      have hd4 := HD.out.h4
      dsimp only [rdO] at hd2
      have HDD := Lib.hid (fun W (hW : Pure wc W) => HDo.out W _ Q2 (HD.out.rf.pure hW) HQ2.out)
      obtain ⟨m3, hm3⟩ : ∃ m3, 8 * (doG H' (g, rh) G1).length = m3 := ⟨_, rfl⟩
      unfold rddoPost at HDD
      dsimp only at HDD
      rw [HN2.out, hm3] at HDD
      have HM3 := Lib.hid hm3
      clear hm3 HDo hpc
      have h810 : b7 + 1 ≠ b10 := fun e => by subst e; rw [h8] at hb10; cases hb10
      have hb10' : b + 1 ≠ b10 := fun e => by subst e; rw [hd4] at hb10; cases hb10
      have hb10'' : b + 1 + 1 ≠ b10 := fun e => by subst e; rw [h5] at hb10; cases hb10
      have HD4 := Lib.hid hd4; have HD5 := Lib.hid h5
      clear hd4 h5
      have hd2_0 := cell_of_row _ _ 0 _ _ _ hd2; have hd2_1 := cell_of_row _ _ 1 _ _ _ hd2; have hd2_2 := cell_of_row _ _ 2 _ _ _ hd2; have hd2_3 := cell_of_row _ _ 3 _ _ _ hd2; have hd2_4 := cell_of_row _ _ 4 _ _ _ hd2; have hd2_5 := cell_of_row _ _ 5 _ _ _ hd2; have hd2_f := (fun j => frozen_of_row _ _ j _ _ hd2); have hd2_l := lt_of_block hd2; simp at hd2_0 hd2_1 hd2_2 hd2_3 hd2_4 hd2_5; have H_hd2 := Lib.hid hd2; clear hd2
      have h8_0 := cell_of_row _ _ 0 _ _ _ h8; have h8_1 := cell_of_row _ _ 1 _ _ _ h8; have h8_2 := cell_of_row _ _ 2 _ _ _ h8; have h8_3 := cell_of_row _ _ 3 _ _ _ h8; have h8_f := (fun j => frozen_of_row _ _ j _ _ h8); have h8_l := lt_of_block h8; simp at h8_0 h8_1 h8_2 h8_3; have H_h8 := Lib.hid h8; clear h8
      have hb10_0 := cell_of_row _ _ 0 _ _ _ hb10; have hb10_1 := cell_of_row _ _ 1 _ _ _ hb10; have hb10_f := (fun j => frozen_of_row _ _ j _ _ hb10); have hb10_l := lt_of_block hb10; simp at hb10_0 hb10_1; have H_hb10 := Lib.hid hb10; clear hb10
      have hq0 : SR b (b7 + 1) b10 (.int .u64 seed) (.bool same) (.slice aL2 n2 cL2) (.slice aG2 n2 cG2) (.slice a9 m c9) (.slice a9' m c9') (.string x.key) (.slice va nv vc) (.int .u64 x.dl) (.int .u64 x.birth) (.int .i64 g) (.bool rh) wc.drew := ⟨⟨hd2_0, hd2_1, hd2_2, hd2_3, hd2_4, hd2_5⟩, ⟨h8_0, h8_1, h8_2, h8_3⟩, ⟨hb10_0, hb10_1⟩⟩
      have hpd : Pure wc wc.drew := (Mod.refl _ wc).drew
      go_upto_region 7 with fail
      refine wp_region_held_drew (S := SR b (b7 + 1) b10 (.int .u64 seed) (.bool same) (.slice aL2 n2 cL2) (.slice aG2 n2 cG2) (.slice a9 m c9) (.slice a9' m c9') (.string x.key) (.slice va nv vc) (.int .u64 x.dl) (.int .u64 x.birth) (.int .i64 g) (.bool rh)) (by kernel_rfl) hq0 (fun hHeld => ?_)
      (refine wpAnyH_take (i := 0) (v := ?_) rfl (by kernel_rfl) (by kernel_rfl) (by kernel_rfl) (fun _ _ _ h => h) (Or.inl ⟨by rfl, ?_⟩) hHeld ?_; rotate_left 1; focus (intro w hS; obtain ⟨⟨s0, s1, s2, s3, s4, s5⟩, ⟨t0, t1, t2, t3⟩, ⟨p0, p1⟩⟩ := hS; go_simp; try with_reducible rfl))
      (refine wpAnyH_take (i := 1) (v := ?_) rfl (by kernel_rfl) (by kernel_rfl) (by kernel_rfl) (fun _ _ _ h => h) (Or.inl ⟨by rfl, ?_⟩) hHeld ?_; rotate_left 1; focus (intro w hS; obtain ⟨⟨s0, s1, s2, s3, s4, s5⟩, ⟨t0, t1, t2, t3⟩, ⟨p0, p1⟩⟩ := hS; go_simp; try with_reducible rfl))
      (refine wpAnyH_take (i := 3) (v := ?_) rfl (by kernel_rfl) (by kernel_rfl) (by kernel_rfl) (fun _ _ _ h => h) (Or.inl ⟨by rfl, ?_⟩) hHeld ?_; rotate_left 1; focus (intro w hS; obtain ⟨⟨s0, s1, s2, s3, s4, s5⟩, ⟨t0, t1, t2, t3⟩, ⟨p0, p1⟩⟩ := hS; go_simp; try with_reducible rfl))
      (refine wpAnyH_ready (rs := [2]) (by kernel_rfl) (by simp) ?_; refine AllReadyH.cons rfl (fun K hK => ?_) AllReadyH.nil; go_simp; refine Calls.mono (HDD.out _ hpd) ?_; rintro e w7 ⟨aC3, cC3, aS3, cS3, rfl, hri, hp7⟩; refine hK.out _ _ ?_ (fun hHeld => ?_); (· exact hHeld.mod hp7 (fun h => h) (fun h => h) (fun h => h)); clear hK K)
      have hp77 := hpd.trans hp7
      have hy4 := hp77.heap (fun h => h) HD4.out
      have hy5 := hp77.heap (fun h => h) HD5.out
      have HRI7 := Lib.hid hri
      have HRF7 := Lib.hid (HD.out.rf.l.pure hp77)
      have HPW := Lib.hid (HD.out.pu.trans hp77)
      clear hri hp7 hp77 HDD HD HD4 HD5
      have hy4_0 := cell_of_row _ _ 0 _ _ _ hy4; have hy4_1 := cell_of_row _ _ 1 _ _ _ hy4; have hy4_2 := cell_of_row _ _ 2 _ _ _ hy4; have hy4_3 := cell_of_row _ _ 3 _ _ _ hy4; have hy4_4 := cell_of_row _ _ 4 _ _ _ hy4; have hy4_5 := cell_of_row _ _ 5 _ _ _ hy4; have hy4_f := (fun j => frozen_of_row _ _ j _ _ hy4); have hy4_l := lt_of_block hy4; simp at hy4_0 hy4_1 hy4_2 hy4_3 hy4_4 hy4_5; have H_hy4 := Lib.hid hy4; clear hy4
      have hy5_0 := cell_of_row _ _ 0 _ _ _ hy5; have hy5_1 := cell_of_row _ _ 1 _ _ _ hy5; have hy5_2 := cell_of_row _ _ 2 _ _ _ hy5; have hy5_3 := cell_of_row _ _ 3 _ _ _ hy5; have hy5_f := (fun j => frozen_of_row _ _ j _ _ hy5); have hy5_l := lt_of_block hy5; simp at hy5_0 hy5_1 hy5_2 hy5_3; have H_hy5 := Lib.hid hy5; clear hy5
      (refine wpAnyH_ready (rs := [4]) (by kernel_rfl) (by simp) ?_; refine AllReadyH.cons rfl (fun K hK => ?_) AllReadyH.nil; go_simp; skip; refine hK.out _ _ ?_ (fun hHeld => ?_); (· exact hHeld.mod (Mod.set6 (b + 1) _ _ _ _ _ _) (by omega) (by omega) (fun e => hb10' e.symm)); clear hK K)
      (refine wpAnyH_ready (rs := [5]) (by kernel_rfl) (by simp) ?_; refine AllReadyH.cons rfl (fun K hK => ?_) AllReadyH.nil; go_simp; skip; refine hK.out _ _ ?_ (fun hHeld => ?_); (· exact hHeld.mod (Mod.set4 (b + 1 + 1) _ _ _ _) (by omega) (by omega) (fun e => hb10'' e.symm)); clear hK K)
      (refine wpAnyH_take (i := 6) (v := ?_) rfl (by kernel_rfl) (by kernel_rfl) (by kernel_rfl) (fun _ _ _ h => h) (Yields.yieldsIf (Or.inl ⟨by rfl, ?_⟩)) hHeld ?_; rotate_left 1; focus (intro w; go_simp; try with_reducible rfl))
      refine wpAnyH_done (by kernel_rfl) ?_ _
      clear hHeld
      go_wp2
      obtain ⟨Y, hY⟩ : ∃ Y, (((((w7.setCell ⟨b + 1, 0, none⟩ (.int .u64 seed)).setCell ⟨b + 1, 1, none⟩ (.bool same)).setCell ⟨b + 1, 2, none⟩ (.slice aL2 n2 cL2)).setCell ⟨b + 1, 3, none⟩ (.slice aG2 n2 cG2)).setCell ⟨b + 1, 4, none⟩ (.slice aC3 m3 cC3)).setCell ⟨b + 1, 5, none⟩ (.slice aS3 m3 cS3) = Y := ⟨_, rfl⟩
      obtain ⟨g1, g2⟩ := fin6 H_hy4.out hY
      have g5 := g1.heap (by omega) H_hy5.out
      rw [hY]
      obtain ⟨Z, hZ⟩ : ∃ Z, (((Y.setCell ⟨b + 1 + 1, 0, none⟩ (.string x.key)).setCell ⟨b + 1 + 1, 1, none⟩ (.slice va nv vc)).setCell ⟨b + 1 + 1, 2, none⟩ (.int .u64 x.dl)).setCell ⟨b + 1 + 1, 3, none⟩ (.int .u64 x.birth) = Z := ⟨_, rfl⟩
      obtain ⟨f1, f2⟩ := fin4 g5 hZ
      have f0 := f1.heap (by omega) g2
      rw [hZ]
      have x0 := cell_of_row _ _ 0 _ _ _ f0; have x1 := cell_of_row _ _ 1 _ _ _ f0; have x2 := cell_of_row _ _ 2 _ _ _ f0; have x3 := cell_of_row _ _ 3 _ _ _ f0; have x4 := cell_of_row _ _ 4 _ _ _ f0; have x5 := cell_of_row _ _ 5 _ _ _ f0
      have y0 := cell_of_row _ _ 0 _ _ _ f2; have y1 := cell_of_row _ _ 1 _ _ _ f2; have y2 := cell_of_row _ _ 2 _ _ _ f2; have y3 := cell_of_row _ _ 3 _ _ _ f2
      simp at x0 x1 x2 x3 x4 x5 y0 y1 y2 y3
      have n1 : ∀ i, i = b + 1 → i < w7.heap.size → ∃ cs T fz, w7.heap[i]? = some (.cells cs T fz) ∧ T ≠ 42 ∧ T ≠ 4 ∧ T ≠ 5 ∧ T ≠ 43 := fun i e _ => ⟨_, _, _, e ▸ H_hy4.out, by decide, by decide, by decide, by decide⟩
      have hrl := HRF7.out.modX g1 n1
      have hrx := HRI7.out.modT g1 (fun i e hi => by obtain ⟨cs, T, fz, e2, _, _, h1, h2⟩ := n1 i e hi; exact ⟨cs, T, fz, e2, h1, h2⟩)
      have hrx2 := hrx.modT f1 (fun i e hi => ⟨_, _, _, e ▸ g5, by decide, by decide⟩)
      have hrl2 : RefRow Z aL2 cL2 aG2 cG2 Q2 := ⟨owns_mod hrl.L f1 (fun gg hg e => by have := HFB.out gg (by rw [← HN2.out]; exact hg); omega), owns_modT hrl.G f1 (fun i e hi => ⟨_, _, _, e ▸ g5, by decide⟩), fun q hq => owns_modT (hrl.vals q hq) f1 (fun i e hi => ⟨_, _, _, e ▸ g5, by decide⟩), hrl.ok, hrl.len⟩
      refine bodyPost_ret (v := .tuple #[rdV seed same ⟨aL2, cL2, aG2, cG2, aC3, cC3, aS3, cS3⟩ n2 m3, .agg #[.string x.key, .slice va nv vc, .int .u64 x.dl, .int .u64 x.birth], .int .i64 0]) (by simp [results, Tryz.results17, go_sem, x0, x1, x2, x3, x4, x5, y0, y1, y2, y3]) rfl ⟨⟨aL2, cL2, aG2, cG2, aC3, cC3, aS3, cS3⟩, Q2, ?_, HQ2.out, ⟨hrl2, hrx2⟩, ?_, (HPW.out.then g1 (fun i hi e => by omega)).then f1 (fun i hi e => by omega)⟩
      · rw [HM3.out, HN2.out]
      · rw [HN2.out]; exact HF2.out
end Go.Proofs.YtapplindfijngaaGreat
