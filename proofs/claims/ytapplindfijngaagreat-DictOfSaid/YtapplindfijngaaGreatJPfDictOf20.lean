/- Lemmas and contracts of functions, strung together out of 1 texts. No condition. -/
import Derived.Test.YtapplindfijngaaGreatJPfDictOf19
import Derived.Test.YtapplindfijngaaGreatJPfDictOf15
/- The reference of layer 10: do makes the index again, as the package's does. -/
namespace Go.Proofs.YtapplindfijngaaGreat
open Go.RowKit Go.Shelf
set_option maxRecDepth 100000

theorem RefRow.modX {w w' : World} {S : Nat → Prop} {aL : Option Addr} {cL : Nat} {aG : Option Addr} {cG : Nat} {Q : List RQ} (h : RefRow w aL cL aG cG Q) (hm : Mod S w w')
    (hS : ∀ i, S i → i < w.heap.size → ∃ cs T fz, w.heap[i]? = some (.cells cs T fz) ∧ T ≠ 42 ∧ T ≠ 4 ∧ T ≠ 5 ∧ T ≠ 43) : RefRow w' aL cL aG cG Q :=
  ⟨owns_modT h.L hm (fun i hi hl => by obtain ⟨cs, T, fz, e, h1, _⟩ := hS i hi hl; exact ⟨cs, T, fz, e, h1⟩),
   owns_modT h.G hm (fun i hi hl => by obtain ⟨cs, T, fz, e, _, h1, _⟩ := hS i hi hl; exact ⟨cs, T, fz, e, h1⟩),
   fun q hq => owns_modT (h.vals q hq) hm (fun i hi hl => by obtain ⟨cs, T, fz, e, _, _, h1, _⟩ := hS i hi hl; exact ⟨cs, T, fz, e, h1⟩), h.ok, h.len⟩
/-- .. behind a change of blocks that hold none of its rows. -/
theorem RefD.modX {W W' : World} {S : Nat → Prop} {r : RA} {Q : List RQ} {Gs : List Grp} (h : RefD W r Q Gs) (hm : Mod S W W')
    (hS : ∀ i, S i → i < W.heap.size → ∃ cs T fz, W.heap[i]? = some (.cells cs T fz) ∧ T ≠ 42 ∧ T ≠ 4 ∧ T ≠ 5 ∧ T ≠ 43) : RefD W' r Q Gs :=
  ⟨h.l.modX hm hS, h.x.modT hm (fun i hi hl => by obtain ⟨cs, T, fz, e, _, _, h1, h2⟩ := hS i hi hl; exact ⟨cs, T, fz, e, h1, h2⟩)⟩
theorem slots_get {Q : List RQ} {s : Nat} (h : liveS (slotsR (Q.map absQ)) s) : ∃ x v, Q[s]? = some (x, v, false) := by
  obtain ⟨e, he⟩ := h
  unfold slotsR at he
  rw [List.getElem?_map, List.getElem?_map] at he
  cases hq : Q[s]? with
  | none => rw [hq] at he; cases he
  | some q =>
    obtain ⟨x, v, g⟩ := q
    rw [hq] at he
    cases g with
    | true => cases he
    | false => exact ⟨x, v, rfl⟩
theorem slots_key {Q : List RQ} {s : Nat} {x : Ent} {v : Value} (h : Q[s]? = some (x, v, false)) : keyL (slotsR (Q.map absQ)) s = x.key := by
  refine keyL_some ?_
  unfold slotsR
  rw [List.getElem?_map, List.getElem?_map, h]
  rfl
/-- The hash of an entry's key. -/
theorem rdsumL {w : World} {r : RA} {Q : List RQ} {Gs : List Grp} (h : RefD w r Q Gs) (seed : Nat) (same : Bool) (hs : seed < 18446744073709551616) {s m : Nat} (he : liveS (slotsR (Q.map absQ)) s) :
    Calls Tryz.prog 66 #[rdV seed same r Q.length m, .int .u32 s] w fun e w' => e = .returned (.int .u64 (sumL seed same (slotsR (Q.map absQ)) s : Nat)) ∧ Pure w w' := by
  obtain ⟨x, v, hx⟩ := slots_get he
  unfold sumL
  rw [slots_key hx]
  exact rdsum_ok h seed same hs hx
/-- What is known while do runs. -/
structure RDo (w : World) (b b4 seed : Nat) (same : Bool) (r : RA) (n m : Nat) (Q : List RQ) (Gs : List Grp) (W : World) : Prop where
  pu : Pure w W
  h2 : W.heap[b]? = some (rdO seed same r n m)
  h4 : W.heap[b4]? = some (.cells #[.int .u64 0, .bool false, .slice none 0 0, .slice none 0 0, .slice none 0 0, .slice none 0 0] 38 (0, 0))
  rf : RefD W r Q Gs
theorem RDo.pure {w W W' : World} {b b4 seed : Nat} {same : Bool} {r : RA} {n m : Nat} {Q : List RQ} {Gs : List Grp} (h : RDo w b b4 seed same r n m Q Gs W) (hp : Pure W W') : RDo w b b4 seed same r n m Q Gs W' :=
  ⟨h.pu.trans hp, hp.heap (fun h => h) h.h2, hp.heap (fun h => h) h.h4, h.rf.pure hp⟩
structure ROutD (b5 m : Nat) (o : List Grp) (W : World) (a : Option Addr) (c : Nat) (a' : Option Addr) (c' : Nat) : Prop where
  h5 : W.heap[b5]? = some (.cells #[.slice a m c, .slice a' m c'] 36 (0, 0))
  ri : RefI W a c a' c' o
  len : 8 * o.length = m
/-- The cells that the drawn region reads. -/
def doS (b B2 k : Nat) (v0 v1 v2 v3 v4 v5 : Value) (s : Nat) (w' : World) : Prop :=
  w'.cell? ⟨b, 0, none⟩ = some v0 ∧ w'.cell? ⟨b, 1, none⟩ = some v1 ∧ w'.cell? ⟨b, 2, none⟩ = some v2 ∧ w'.cell? ⟨b, 3, none⟩ = some v3 ∧ w'.cell? ⟨b, 4, none⟩ = some v4 ∧ w'.cell? ⟨b, 5, none⟩ = some v5 ∧ w'.cell? ⟨B2, k, none⟩ = some (.int .u32 (s : Nat))
theorem doS.mod {b B2 k s : Nat} {v0 v1 v2 v3 v4 v5 : Value} {X Y : World} {S : Nat → Prop} (h : doS b B2 k v0 v1 v2 v3 v4 v5 s X) (hm : Mod S X Y) (h1 : ¬ S b) (h2 : ¬ S B2) : doS b B2 k v0 v1 v2 v3 v4 v5 s Y :=
  ⟨hm.cell h1 h.1, hm.cell h1 h.2.1, hm.cell h1 h.2.2.1, hm.cell h1 h.2.2.2.1, hm.cell h1 h.2.2.2.2.1, hm.cell h1 h.2.2.2.2.2.1, hm.cell h2 h.2.2.2.2.2.2⟩
def rddoPost (w : World) (seed : Nat) (same : Bool) (r : RA) (Q : List RQ) (Gs : List Grp) (e : Ending) (w' : World) : Prop :=
  ∃ aC cC aS cS, e = .returned (rdV seed same ⟨r.aL, r.cL, r.aG, r.cG, aC, cC, aS, cS⟩ Q.length (8 * Gs.length)) ∧ RefI w' aC cC aS cS Gs ∧ Pure w w'
set_option maxHeartbeats 4000000 in
theorem rddo_ok {w : World} {r : RA} {Q : List RQ} {Gs : List Grp} (h : RefD w r Q Gs) (seed : Nat) (same : Bool) (hsd : seed < 18446744073709551616) (x : Nat × Bool) (hx : Pow x.1) (hL : ∀ s ∈ Gs.flatMap fullS, liveS (slotsR (Q.map absQ)) s) :
    Calls Tryz.prog 68 #[rdV seed same r Q.length (8 * Gs.length), .agg #[.int .i64 x.1, .bool x.2]] w (rddoPost w seed same r Q (doG (sumL seed same (slotsR (Q.map absQ))) x Gs)) := by
  obtain ⟨g, rh⟩ := x
  obtain ⟨n, hn⟩ : ∃ n, Q.length = n := ⟨_, rfl⟩
  obtain ⟨m, hm⟩ : ∃ m, 8 * Gs.length = m := ⟨_, rfl⟩
  have hmm : m ≤ 8388608 := by have := h.x.ok.pow.le; omega
  have HOK := Lib.hid h.x.ok
  have HG := Lib.hid hx
  have hgg := hx.le
  dsimp only at HG hgg ⊢
  have h2a := heap_new (w := w) (o := rdO seed same r n m) rfl
  have h3a := heap_new (w := w.alloc (rdO seed same r n m)) (o := .cells #[.int .i64 g, .bool rh] 112 (0, 0)) (n := w.heap.size + 1) (by simp)
  have h4a := heap_new (w := (w.alloc (rdO seed same r n m)).alloc (.cells #[.int .i64 g, .bool rh] 112)) (o := .cells #[.int .u64 0, .bool false, .slice none 0 0, .slice none 0 0, .slice none 0 0, .slice none 0 0] 38 (0, 0)) (n := w.heap.size + 1 + 1) (by simp)
  have hp0 : Pure w (((w.alloc (rdO seed same r n m)).alloc (.cells #[.int .i64 g, .bool rh] 112)).alloc (.cells #[.int .u64 0, .bool false, .slice none 0 0, .slice none 0 0, .slice none 0 0, .slice none 0 0] 38)) := (((Mod.refl _ w).alloc _).alloc _).alloc _
  have HD := Lib.hid (RDo.mk (b := w.heap.size) (b4 := w.heap.size + 1 + 1) hp0 (heap_keep (heap_keep h2a)) h4a (h.pure hp0))
  have h3 := heap_keep (o := .cells #[.int .u64 0, .bool false, .slice none 0 0, .slice none 0 0, .slice none 0 0, .slice none 0 0] 38) h3a
  clear h2a h3a h4a hp0
  rw [hn, hm]
  have HN := Lib.hid hn; have HM := Lib.hid hm; have HL := Lib.hid hL
  have HNw := Lib.hid (fun W => rNew_ok g hx W)
  unfold refI at HNw
  rw [newG_length] at HNw
  obtain ⟨H, hH⟩ : ∃ H, sumL seed same (slotsR (Q.map absQ)) = H := ⟨_, rfl⟩
  rw [hH]
  have HSm : Hid (∀ (W W2 : World) (s : Nat), RefD W r Q Gs → s ∈ Gs.flatMap fullS → Calls Tryz.prog 66 #[rdV seed same r n m, .int .u32 s] W fun e w' => e = .returned (.int .u64 (H s : Nat)) ∧ Pure W w') := Lib.hid (fun W W2 s hW hs => by
    have := rdsumL (m := m) hW seed same hsd (hL s hs)
    rw [hn, hH] at this
    exact this)
  have HHl : Hid (∀ s, H s < 18446744073709551616) := Lib.hid (fun s => by rw [← hH]; exact sumL_lt seed same _ s)
  clear h hn hm hx hL hH
  obtain ⟨aL, cL, aG, cG, aC, cC, aS, cS⟩ := r
  dsimp only [rdO] at HD h3 ⊢
  go_enter Tryz.func68, Tryz.ntmps68
  go_upto_region 1 with fail
  generalize (((w.alloc (.cells #[.int .u64 seed, .bool same, .slice aL n cL, .slice aG n cG, .slice aC m cC, .slice aS m cS] 38)).alloc (.cells #[.int .i64 g, .bool rh] 112)).alloc (.cells #[.int .u64 0, .bool false, .slice none 0 0, .slice none 0 0, .slice none 0 0, .slice none 0 0] 38)) = W1 at *
  obtain ⟨b, hb⟩ : ∃ b, w.heap.size = b := ⟨_, rfl⟩
  rw [hb] at HD h3 ⊢
  have HB := Lib.hid hb
  clear hb
  have h3_0 := cell_of_row _ _ 0 _ _ _ h3; have h3_1 := cell_of_row _ _ 1 _ _ _ h3; have h3_f := (fun j => frozen_of_row _ _ j _ _ h3); have h3_l := lt_of_block h3; simp at h3_0 h3_1; have H_h3 := Lib.hid h3; clear h3
  cases rh with
  | false =>
    have hd2 := HD.out.h2
    have hd4 := HD.out.h4
    have hd2_0 := cell_of_row _ _ 0 _ _ _ hd2; have hd2_1 := cell_of_row _ _ 1 _ _ _ hd2; have hd2_2 := cell_of_row _ _ 2 _ _ _ hd2; have hd2_3 := cell_of_row _ _ 3 _ _ _ hd2; have hd2_4 := cell_of_row _ _ 4 _ _ _ hd2; have hd2_5 := cell_of_row _ _ 5 _ _ _ hd2; have hd2_f := (fun j => frozen_of_row _ _ j _ _ hd2); have hd2_l := lt_of_block hd2; simp at hd2_0 hd2_1 hd2_2 hd2_3 hd2_4 hd2_5; have H_hd2 := Lib.hid hd2; clear hd2
    have hd4_0 := cell_of_row _ _ 0 _ _ _ hd4; have hd4_1 := cell_of_row _ _ 1 _ _ _ hd4; have hd4_2 := cell_of_row _ _ 2 _ _ _ hd4; have hd4_3 := cell_of_row _ _ 3 _ _ _ hd4; have hd4_4 := cell_of_row _ _ 4 _ _ _ hd4; have hd4_5 := cell_of_row _ _ 5 _ _ _ hd4; have hd4_f := (fun j => frozen_of_row _ _ j _ _ hd4); have hd4_l := lt_of_block hd4; simp at hd4_0 hd4_1 hd4_2 hd4_3 hd4_4 hd4_5; have H_hd4 := Lib.hid hd4; clear hd4
    go_wp2
    obtain ⟨Y, hY⟩ : ∃ Y, (((((W1.setCell ⟨b + 1 + 1, 0, none⟩ (.int .u64 seed)).setCell ⟨b + 1 + 1, 1, none⟩ (.bool same)).setCell ⟨b + 1 + 1, 2, none⟩ (.slice aL n cL)).setCell ⟨b + 1 + 1, 3, none⟩ (.slice aG n cG)).setCell ⟨b + 1 + 1, 4, none⟩ (.slice aC m cC)).setCell ⟨b + 1 + 1, 5, none⟩ (.slice aS m cS) = Y := ⟨_, rfl⟩
    obtain ⟨g1, g2⟩ := fin6 H_hd4.out hY
    rw [hY]
    have x0 := cell_of_row _ _ 0 _ _ _ g2; have x1 := cell_of_row _ _ 1 _ _ _ g2; have x2 := cell_of_row _ _ 2 _ _ _ g2; have x3 := cell_of_row _ _ 3 _ _ _ g2; have x4 := cell_of_row _ _ 4 _ _ _ g2; have x5 := cell_of_row _ _ 5 _ _ _ g2
    simp at x0 x1 x2 x3 x4 x5
    refine bodyPost_ret (v := rdV seed same ⟨aL, cL, aG, cG, aC, cC, aS, cS⟩ n m) (by simp [results, Tryz.results68, go_sem, x0, x1, x2, x3, x4, x5]) rfl ⟨aC, cC, aS, cS, by rw [HN.out]; show _ = Ending.returned (rdV seed same _ n (8 * Gs.length)); rw [HM.out], ?_, HD.out.pu.then g1 (fun i hi e => by have := HB.out; omega)⟩
    exact HD.out.rf.x.modT g1 (fun i hi _ => by subst hi; exact ⟨_, _, _, H_hd4.out, by decide, by decide⟩)
  | true =>
    obtain ⟨m2, hm2⟩ : ∃ m2, 8 * g = m2 := ⟨_, rfl⟩
    rw [hm2] at HNw
    go_upto_region 4 with (go_at_call 47; refine Calls.mono (HNw.out _) ?_; rintro e w2 ⟨a2, c2, a3, c3, rfl, hri, hp2, _⟩)
    have hal2 : Pure w2 (w2.alloc (.cells #[.slice a2 m2 c2, .slice a3 m2 c3] 36)) := (Mod.refl _ w2).alloc _
    have h5 := heap_new (w := w2) (o := .cells #[.slice a2 m2 c2, .slice a3 m2 c3] 36 (0, 0)) rfl
    have hbs : b + 1 + 1 < w2.heap.size := lt_of_block (HD.out.pure hp2).h4
    replace HD := Lib.hid (HD.out.pure (hp2.trans hal2))
    have HO : Hid (ROutD w2.heap.size m2 (rehTo H g Gs 0) (w2.alloc (.cells #[.slice a2 m2 c2, .slice a3 m2 c3] 36)) a2 c2 a3 c3) := Lib.hid ⟨h5, hri.pure hal2, by rw [rehTo_zero, newG_length]; exact hm2⟩
    have HM2 := Lib.hid hm2
    clear h3_0 h3_1 h3_f h3_l
    clear H_h3 HNw hri hal2 h5 hp2 hm2
    generalize w2.alloc (.cells #[.slice a2 m2 c2, .slice a3 m2 c3] 36) = W3 at *
    generalize w2.heap.size = b5 at *
    go_upto_region 5 with fail
    go_loopw [7] (fun v7 wr => ∃ k a c a' c', v7 = .int .i64 (k : Nat) ∧ k ≤ m ∧ RDo w b (b + 1 + 1) seed same ⟨aL, cL, aG, cG, aC, cC, aS, cS⟩ n m Q Gs wr ∧ ROutD b5 m2 (rehTo H g Gs k) wr a c a' c') (fun v7 _ => m - (intOf v7).toNat)
    case atStart => exact ⟨0, a2, c2, a3, c3, rfl, Nat.zero_le _, HD.out, HO.out⟩
    case round =>
      clear HD HO
      obtain ⟨k, a, c, a', c', rfl, hk, hrr, hro⟩ := hrel
      have HD := Lib.hid hrr; have HO := Lib.hid hro
      obtain ⟨B1, B2, e1, e2, l1, l2, hC, hS⟩ := hrr.rf.x.cells
      dsimp only at e1 e2 l1 l2
      subst e1 e2
      have hbx := hrr.h2
      rw [HM.out] at l1 l2
      clear hrr hro
      have wm : IntKind.i64.wrap (m : Int) = m := IntWalk.i64_in _ (by omega)
      dsimp only [rdO] at hbx
      have hbx_0 := cell_of_row _ _ 0 _ _ _ hbx; have hbx_1 := cell_of_row _ _ 1 _ _ _ hbx; have hbx_2 := cell_of_row _ _ 2 _ _ _ hbx; have hbx_3 := cell_of_row _ _ 3 _ _ _ hbx; have hbx_4 := cell_of_row _ _ 4 _ _ _ hbx; have hbx_5 := cell_of_row _ _ 5 _ _ _ hbx; have hbx_f := (fun j => frozen_of_row _ _ j _ _ hbx); have hbx_l := lt_of_block hbx; simp at hbx_0 hbx_1 hbx_2 hbx_3 hbx_4 hbx_5; have H_hbx := Lib.hid hbx; clear hbx
      by_cases hlt : k < m
      · have hlt' : (k : Int) < (m : Int) := by omega
        have k0 : (0 : Int) ≤ (k : Int) := by omega
        have wk : IntKind.i64.wrap ((k : Int) + 1) = (k : Int) + 1 := IntWalk.i64_in _ (by omega)
        obtain ⟨x, hx⟩ : ∃ x, (laneC Gs)[k]? = some x := ⟨_, List.getElem?_eq_getElem (by rw [laneC_length HOK.out, HM.out]; exact hlt)⟩
        obtain ⟨s, hs⟩ : ∃ s, (laneS Gs)[k]? = some s := ⟨_, List.getElem?_eq_getElem (by rw [laneS_length HOK.out, HM.out]; exact hlt)⟩
        have hx256 := laneC_lt HOK.out x (List.mem_of_getElem? hx)
        have hsl := laneS_lt HOK.out s (List.mem_of_getElem? hs)
        have hcx := hC k x hx
        have hcs := hS k s hs
        have hst := rehTo_succ (H := H) (g := g) hx hs
        have HFU := Lib.hid (fun h => lane_full HOK.out hx hs h)
        have HST := Lib.hid hst
        clear hC hS hx hs hst
        by_cases h128 : x < 128
        · have h128' : (x : Int) < 128 := by omega
          go_upto_region 8 with fail
          rw [if_pos h128] at HST
          have hful := HFU.out h128
          have hsm : ∀ W, Pure wr W → Calls Tryz.prog 66 #[rdV seed same ⟨aL, cL, aG, cG, some ⟨B1, 0, none⟩, cC, some ⟨B2, 0, none⟩, cS⟩ n m, .int .u32 s] W fun e w' => e = .returned (.int .u64 (H s : Nat)) ∧ Pure W w' := fun W hW => HSm.out W W s (HD.out.rf.pure hW) hful
          obtain ⟨o, ho⟩ : ∃ o, rehTo H g Gs k = o := ⟨_, rfl⟩
          rw [ho] at HO HST
          obtain ⟨hh, hhe⟩ : ∃ hh, H s = hh := ⟨_, rfl⟩
          have hhl : hh < 18446744073709551616 := by rw [← hhe]; exact HHl.out s
          have hol2 : 8 * (insD H o s).length = m2 := by rw [(insD_ok (H := H) HO.out.ri.ok hsl).2, HO.out.len]
          have hin : ∀ W, Pure wr W → Calls Tryz.prog 110 #[.agg #[.slice a m2 c, .slice a' m2 c'], .int .u64 hh, .int .u32 s] W fun e w' => ∃ aC' cC' aS' cS' z, e = .returned (.tuple #[.agg #[.slice aC' m2 cC', .slice aS' m2 cS'], .int .i64 z]) ∧ RefI w' aC' cC' aS' cS' (insD H o s) ∧ Pure W w' := fun W hW => by
            have := rInsert_ok (HO.out.ri.pure hW) hh s hhl hsl
            unfold refI at this
            rw [HO.out.len] at this
            refine this.mono (fun e w' hq => ?_)
            obtain ⟨a1, a2, a3, a4, z, e1, e2, e3⟩ := ins_anyR hhe hq
            unfold refI at e1
            rw [hol2] at e1
            exact ⟨a1, a2, a3, a4, z, e1, e2, e3⟩
          have HIn := Lib.hid hin
          rw [hhe] at hsm
          have HSu := Lib.hid hsm
          clear hin hsm hful HFU hhe ho
          have h5 := HO.out.h5
          have n1 : ¬ b = b5 := by omega
          have n2 : ¬ B2 = b5 := fun e => by
            obtain ⟨cc, e2⟩ := owns_type HD.out.rf.x.S (g := B2) rfl
            rw [e, h5] at e2; cases e2
          have hq0 : doS b B2 k (.int .u64 seed) (.bool same) (.slice aL n cL) (.slice aG n cG) (.slice (some ⟨B1, 0, none⟩) m cC) (.slice (some ⟨B2, 0, none⟩) m cS) s wr.drew := ⟨hbx_0, hbx_1, hbx_2, hbx_3, hbx_4, hbx_5, hcs⟩
          have hpd : Pure wr wr.drew := (Mod.refl _ wr).drew
          have HH5 := Lib.hid (hpd.heap (fun h => h) h5)
          have h5_0 := cell_of_row _ _ 0 _ _ _ h5; have h5_1 := cell_of_row _ _ 1 _ _ _ h5; have h5_f := (fun j => frozen_of_row _ _ j _ _ h5); have h5_l := lt_of_block h5; simp at h5_0 h5_1; have H_h5 := Lib.hid h5; clear h5
          have q10 : wr.drew.cell? ⟨b5, 0, none⟩ = _ := h5_0
          have q11 : wr.drew.cell? ⟨b5, 1, none⟩ = _ := h5_1
          refine wp_region_held_drew (S := doS b B2 k (.int .u64 seed) (.bool same) (.slice aL n cL) (.slice aG n cG) (.slice (some ⟨B1, 0, none⟩) m cC) (.slice (some ⟨B2, 0, none⟩) m cS) s) (by kernel_rfl) hq0 (fun hHeld => ?_)
          (refine wpAnyH_take (i := 2) (v := ?_) rfl (by kernel_rfl) (by kernel_rfl) (by kernel_rfl) (fun _ _ _ h => h) (Yields.yieldsIf (Or.inl ⟨by rfl, ?_⟩)) hHeld ?_; rotate_left 1; focus (intro w; go_simp; try with_reducible rfl))
          (refine wpAnyH_take (i := 3) (v := ?_) rfl (by kernel_rfl) (by kernel_rfl) (by kernel_rfl) (fun _ _ _ h => h) (Yields.yieldsIf (Or.inl ⟨by rfl, ?_⟩)) hHeld ?_; rotate_left 1; focus (intro w; go_simp; try with_reducible rfl))
          (refine wpAnyH_take (i := 5) (v := ?_) rfl (by kernel_rfl) (by kernel_rfl) (by kernel_rfl) (fun _ _ _ h => h) (Yields.yieldsIf (Or.inl ⟨by rfl, ?_⟩)) hHeld ?_; rotate_left 1; focus (intro w; go_simp; try with_reducible rfl))
          (refine wpAnyH_take (i := 9) (v := ?_) rfl (by kernel_rfl) (by kernel_rfl) (by kernel_rfl) (fun _ _ _ h => h) (Yields.yieldsIf (Or.inl ⟨by rfl, ?_⟩)) hHeld ?_; rotate_left 1; focus (intro w; go_simp; try with_reducible rfl))
          (refine wpAnyH_take (i := 10) (v := ?_) rfl (by kernel_rfl) (by kernel_rfl) (by kernel_rfl) (fun _ _ _ h => h) (Yields.yieldsIf (Or.inl ⟨by rfl, ?_⟩)) hHeld ?_; rotate_left 1; focus (intro w; go_simp; try with_reducible rfl))
          (refine wpAnyH_take (i := 12) (v := ?_) rfl (by kernel_rfl) (by kernel_rfl) (by kernel_rfl) (fun _ _ _ h => h) (Yields.yieldsIf (Or.inl ⟨by rfl, ?_⟩)) hHeld ?_; rotate_left 1; focus (intro w; go_simp; try with_reducible rfl))
          (refine wpAnyH_take (i := 1) (v := ?_) rfl (by kernel_rfl) (by kernel_rfl) (by kernel_rfl) (fun _ _ _ h => h) (Or.inl ⟨by rfl, ?_⟩) hHeld ?_; rotate_left 1; focus (intro w hS; obtain ⟨s0, s1, s2, s3, s4, s5, sS⟩ := hS; go_simp; try with_reducible rfl))
          (refine wpAnyH_take (i := 4) (v := ?_) rfl (by kernel_rfl) (by kernel_rfl) (by kernel_rfl) (fun _ _ _ h => h) (Or.inl ⟨by rfl, ?_⟩) hHeld ?_; rotate_left 1; focus (intro w hS; obtain ⟨s0, s1, s2, s3, s4, s5, sS⟩ := hS; go_simp; try with_reducible rfl))
          (refine wpAnyH_take (i := 6) (v := ?_) rfl (by kernel_rfl) (by kernel_rfl) (by kernel_rfl) (fun _ _ _ h => h) (Yields.yieldsIf (Or.inl ⟨by rfl, ?_⟩)) hHeld ?_; rotate_left 1; focus (intro w; go_simp; try with_reducible rfl))
          (refine wpAnyH_take (i := 7) (v := ?_) rfl (by kernel_rfl) (by kernel_rfl) (by kernel_rfl) (fun _ _ _ h => h) (Or.inl ⟨by rfl, ?_⟩) hHeld ?_; rotate_left 1; focus (intro w hS; obtain ⟨s0, s1, s2, s3, s4, s5, sS⟩ := hS; go_simp; try with_reducible rfl))
          (refine wpAnyH_take (i := 11) (v := ?_) rfl (by kernel_rfl) (by kernel_rfl) (by kernel_rfl) (fun _ _ _ h => h) (Or.inl ⟨by rfl, ?_⟩) hHeld ?_; rotate_left 1; focus (intro w hS; obtain ⟨s0, s1, s2, s3, s4, s5, sS⟩ := hS; go_simp; try with_reducible rfl))
          (refine wpAnyH_take (i := 13) (v := ?_) rfl (by kernel_rfl) (by kernel_rfl) (by kernel_rfl) (fun _ _ _ h => h) (Yields.yieldsIf (Or.inl ⟨by rfl, ?_⟩)) hHeld ?_; rotate_left 1; focus (intro w; go_simp; try with_reducible rfl))
          (refine wpAnyH_take (i := 14) (v := ?_) rfl (by kernel_rfl) (by kernel_rfl) (by kernel_rfl) (fun _ _ _ h => h) (Or.inl ⟨by rfl, ?_⟩) hHeld ?_; rotate_left 1; focus (intro w hS; obtain ⟨s0, s1, s2, s3, s4, s5, sS⟩ := hS; go_simp; try with_reducible rfl))
          refine wpAnyH_ready (rs := [0, 8]) (by kernel_rfl) (by simp) ?_
          refine AllReadyH.cons rfl (fun K hK => ?_) (AllReadyH.cons rfl (fun K hK => ?_) AllReadyH.nil)
          · go_simp
            refine hK.out _ _ hHeld (fun hHeld => ?_)
            clear hK K
            (refine wpAnyH_ready (rs := [8]) (by kernel_rfl) (by simp) ?_; refine AllReadyH.cons rfl (fun K hK => ?_) AllReadyH.nil; go_simp; refine Calls.mono (HSu.out _ hpd) ?_; rintro e wS ⟨rfl, hpS⟩; refine hK.out _ _ ?_ (fun hHeld => ?_); (· exact hHeld.mod hpS (fun h => h) (fun h => h)); clear hK K)
            (refine wpAnyH_ready (rs := [15]) (by kernel_rfl) (by simp) ?_; refine AllReadyH.cons rfl (fun K hK => ?_) AllReadyH.nil; go_simp; refine Calls.mono (HIn.out _ (hpd.trans hpS)) ?_; rintro e w5 ⟨a5, c5, a6, c6, z, rfl, hr5, hp5⟩; refine hK.out _ _ ?_ (fun hHeld => ?_); (· exact hHeld.mod hp5 (fun h => h) (fun h => h)); clear hK K)
            have hpa5 : Pure wr w5 := (hpd.trans hpS).trans hp5
            have h55 := (hpS.trans hp5).heap (fun h => h) HH5.out
            have HR5 := Lib.hid hr5; have HP5 := Lib.hid hpa5
            clear hr5 hp5 hpS hpa5
            have h55_0 := cell_of_row _ _ 0 _ _ _ h55; have h55_1 := cell_of_row _ _ 1 _ _ _ h55; have h55_f := (fun j => frozen_of_row _ _ j _ _ h55); have h55_l := lt_of_block h55; simp at h55_0 h55_1; have H_h55 := Lib.hid h55; clear h55
            (refine wpAnyH_take (i := 16) (v := ?_) rfl (by kernel_rfl) (by kernel_rfl) (by kernel_rfl) (fun _ _ _ h => h) (Yields.yieldsIf (Or.inl ⟨by rfl, ?_⟩)) hHeld ?_; rotate_left 1; focus (intro w; go_simp; try with_reducible rfl))
            (refine wpAnyH_take (i := 17) (v := ?_) rfl (by kernel_rfl) (by kernel_rfl) (by kernel_rfl) (fun _ _ _ h => h) (Yields.yieldsIf (Or.inl ⟨by rfl, ?_⟩)) hHeld ?_; rotate_left 1; focus (intro w; go_simp; try with_reducible rfl))
            (refine wpAnyH_take (i := 18) (v := ?_) rfl (by kernel_rfl) (by kernel_rfl) (by kernel_rfl) (fun _ _ _ h => h) (Yields.yieldsIf (Or.inl ⟨by rfl, ?_⟩)) hHeld ?_; rotate_left 1; focus (intro w; go_simp; try with_reducible rfl))
            (refine wpAnyH_ready (rs := [19]) (by kernel_rfl) (by simp) ?_; refine AllReadyH.cons rfl (fun K hK => ?_) AllReadyH.nil; go_simp; skip; refine hK.out _ _ ?_ (fun hHeld => ?_); (· exact hHeld.mod (Mod.set2 b5 0 1 _ _) (fun e => n1 e) (fun e => n2 e)); clear hK K)
            refine wpAnyH_done (by kernel_rfl) ?_ _
            have hmm5 : Mod (fun i => i = b5) w5 ((w5.setCell ⟨b5, 0, none⟩ (.slice a5 m2 c5)).setCell ⟨b5, 1, none⟩ (.slice a6 m2 c6)) := Mod.set2 b5 0 1 _ _
            have m25 := heap_set12 (v0 := .slice a5 m2 c5) (v1 := .slice a6 m2 c6) H_h55.out
            have hne5 : ∀ i, i = b5 → i < w5.heap.size → ∃ cs T fz, w5.heap[i]? = some (.cells cs T fz) ∧ T ≠ 42 ∧ T ≠ 4 ∧ T ≠ 5 ∧ T ≠ 43 := fun i e _ => ⟨_, _, _, e ▸ H_h55.out, by decide, by decide, by decide, by decide⟩
            have hr := HD.out.pure HP5.out
            have HE : Hid (RDo w b (b + 1 + 1) seed same ⟨aL, cL, aG, cG, some ⟨B1, 0, none⟩, cC, some ⟨B2, 0, none⟩, cS⟩ n m Q Gs ((w5.setCell ⟨b5, 0, none⟩ (.slice a5 m2 c5)).setCell ⟨b5, 1, none⟩ (.slice a6 m2 c6))) := Lib.hid ⟨hr.pu.then hmm5 (fun i hi e => by have := HB.out; omega), hmm5.heap (fun e => n1 e) hr.h2, hmm5.heap (by omega) hr.h4, hr.rf.modX hmm5 hne5⟩
            have HOE : Hid (ROutD b5 m2 (insD H o s) ((w5.setCell ⟨b5, 0, none⟩ (.slice a5 m2 c5)).setCell ⟨b5, 1, none⟩ (.slice a6 m2 c6)) a5 c5 a6 c6) := Lib.hid ⟨m25, HR5.out.modT hmm5 (fun i e hi => by obtain ⟨cs, T, fz, e2, _, _, h1, h2⟩ := hne5 i e hi; exact ⟨cs, T, fz, e2, h1, h2⟩), hol2⟩
            clear hmm5 m25 hne5 hr HO HD hHeld
            go_wp2
            go_roundw
            case rel => exact ⟨k + 1, a5, c5, a6, c6, by go_num, hlt, HE.out, by rw [HST.out]; exact HOE.out⟩
            case measure => simp [intOf]; omega
          · go_simp
            refine Calls.mono (HSu.out _ hpd) ?_
            rintro e wS ⟨rfl, hpS⟩
            refine hK.out _ _ (hHeld.mod hpS (fun h => h) (fun h => h)) (fun hHeld => ?_)
            clear hK K
            replace q10 := hpS.cell (fun h => h) q10
            replace q11 := hpS.cell (fun h => h) q11
            (refine wpAnyH_ready (rs := [0]) (by kernel_rfl) (by simp) ?_; refine AllReadyH.cons rfl (fun K hK => ?_) AllReadyH.nil; go_simp; skip; refine hK.out _ _ ?_ (fun hHeld => ?_); (· exact hHeld); clear hK K)
            (refine wpAnyH_ready (rs := [15]) (by kernel_rfl) (by simp) ?_; refine AllReadyH.cons rfl (fun K hK => ?_) AllReadyH.nil; go_simp; refine Calls.mono (HIn.out _ (hpd.trans hpS)) ?_; rintro e w5 ⟨a5, c5, a6, c6, z, rfl, hr5, hp5⟩; refine hK.out _ _ ?_ (fun hHeld => ?_); (· exact hHeld.mod hp5 (fun h => h) (fun h => h)); clear hK K)
            have hpa5 : Pure wr w5 := (hpd.trans hpS).trans hp5
            have h55 := (hpS.trans hp5).heap (fun h => h) HH5.out
            have HR5 := Lib.hid hr5; have HP5 := Lib.hid hpa5
            clear hr5 hp5 hpS hpa5
            have h55_0 := cell_of_row _ _ 0 _ _ _ h55; have h55_1 := cell_of_row _ _ 1 _ _ _ h55; have h55_f := (fun j => frozen_of_row _ _ j _ _ h55); have h55_l := lt_of_block h55; simp at h55_0 h55_1; have H_h55 := Lib.hid h55; clear h55
            (refine wpAnyH_take (i := 16) (v := ?_) rfl (by kernel_rfl) (by kernel_rfl) (by kernel_rfl) (fun _ _ _ h => h) (Yields.yieldsIf (Or.inl ⟨by rfl, ?_⟩)) hHeld ?_; rotate_left 1; focus (intro w; go_simp; try with_reducible rfl))
            (refine wpAnyH_take (i := 17) (v := ?_) rfl (by kernel_rfl) (by kernel_rfl) (by kernel_rfl) (fun _ _ _ h => h) (Yields.yieldsIf (Or.inl ⟨by rfl, ?_⟩)) hHeld ?_; rotate_left 1; focus (intro w; go_simp; try with_reducible rfl))
            (refine wpAnyH_take (i := 18) (v := ?_) rfl (by kernel_rfl) (by kernel_rfl) (by kernel_rfl) (fun _ _ _ h => h) (Yields.yieldsIf (Or.inl ⟨by rfl, ?_⟩)) hHeld ?_; rotate_left 1; focus (intro w; go_simp; try with_reducible rfl))
            (refine wpAnyH_ready (rs := [19]) (by kernel_rfl) (by simp) ?_; refine AllReadyH.cons rfl (fun K hK => ?_) AllReadyH.nil; go_simp; skip; refine hK.out _ _ ?_ (fun hHeld => ?_); (· exact hHeld.mod (Mod.set2 b5 0 1 _ _) (fun e => n1 e) (fun e => n2 e)); clear hK K)
            refine wpAnyH_done (by kernel_rfl) ?_ _
            have hmm5 : Mod (fun i => i = b5) w5 ((w5.setCell ⟨b5, 0, none⟩ (.slice a5 m2 c5)).setCell ⟨b5, 1, none⟩ (.slice a6 m2 c6)) := Mod.set2 b5 0 1 _ _
            have m25 := heap_set12 (v0 := .slice a5 m2 c5) (v1 := .slice a6 m2 c6) H_h55.out
            have hne5 : ∀ i, i = b5 → i < w5.heap.size → ∃ cs T fz, w5.heap[i]? = some (.cells cs T fz) ∧ T ≠ 42 ∧ T ≠ 4 ∧ T ≠ 5 ∧ T ≠ 43 := fun i e _ => ⟨_, _, _, e ▸ H_h55.out, by decide, by decide, by decide, by decide⟩
            have hr := HD.out.pure HP5.out
            have HE : Hid (RDo w b (b + 1 + 1) seed same ⟨aL, cL, aG, cG, some ⟨B1, 0, none⟩, cC, some ⟨B2, 0, none⟩, cS⟩ n m Q Gs ((w5.setCell ⟨b5, 0, none⟩ (.slice a5 m2 c5)).setCell ⟨b5, 1, none⟩ (.slice a6 m2 c6))) := Lib.hid ⟨hr.pu.then hmm5 (fun i hi e => by have := HB.out; omega), hmm5.heap (fun e => n1 e) hr.h2, hmm5.heap (by omega) hr.h4, hr.rf.modX hmm5 hne5⟩
            have HOE : Hid (ROutD b5 m2 (insD H o s) ((w5.setCell ⟨b5, 0, none⟩ (.slice a5 m2 c5)).setCell ⟨b5, 1, none⟩ (.slice a6 m2 c6)) a5 c5 a6 c6) := Lib.hid ⟨m25, HR5.out.modT hmm5 (fun i e hi => by obtain ⟨cs, T, fz, e2, _, _, h1, h2⟩ := hne5 i e hi; exact ⟨cs, T, fz, e2, h1, h2⟩), hol2⟩
            clear hmm5 m25 hne5 hr HO HD hHeld
            go_wp2
            go_roundw
            case rel => exact ⟨k + 1, a5, c5, a6, c6, by go_num, hlt, HE.out, by rw [HST.out]; exact HOE.out⟩
            case measure => simp [intOf]; omega
        · have h128' : (128 : Int) ≤ (x : Int) := by omega
          go_wp2
          go_roundw
          case rel => exact ⟨k + 1, a, c, a', c', by go_num, hlt, HD.out, by rw [HST.out, if_neg h128]; exact HO.out⟩
          case measure => simp [intOf]; omega
      · have hlt' : (m : Int) ≤ (k : Int) := by omega
        have e : k = m := by omega
        have hall := rehTo_all (H := H) (g := g) HOK.out
        rw [HM.out, ← e] at hall
        rw [hall] at HO
        clear hall hC hS
        have h5 := HO.out.h5
        have h4 := HD.out.h4
        have hbw : w.heap.size ≤ b := by have := HB.out; omega
        have h5_0 := cell_of_row _ _ 0 _ _ _ h5; have h5_1 := cell_of_row _ _ 1 _ _ _ h5; have h5_f := (fun j => frozen_of_row _ _ j _ _ h5); have h5_l := lt_of_block h5; simp at h5_0 h5_1; have H_h5 := Lib.hid h5; clear h5
        have h4_0 := cell_of_row _ _ 0 _ _ _ h4; have h4_1 := cell_of_row _ _ 1 _ _ _ h4; have h4_2 := cell_of_row _ _ 2 _ _ _ h4; have h4_3 := cell_of_row _ _ 3 _ _ _ h4; have h4_4 := cell_of_row _ _ 4 _ _ _ h4; have h4_5 := cell_of_row _ _ 5 _ _ _ h4; have h4_f := (fun j => frozen_of_row _ _ j _ _ h4); have h4_l := lt_of_block h4; simp at h4_0 h4_1 h4_2 h4_3 h4_4 h4_5; have H_h4 := Lib.hid h4; clear h4
        go_wp2
        obtain ⟨X, hX⟩ : ∃ X, (wr.setCell ⟨b, 4, none⟩ (.slice a m2 c)).setCell ⟨b, 5, none⟩ (.slice a' m2 c') = X := ⟨_, rfl⟩
        have hmx : Mod (fun k => k = b) wr X := by rw [← hX]; exact Mod.set2 b 4 5 _ _
        obtain ⟨Y, hY⟩ : ∃ Y, (((((X.setCell ⟨b + 1 + 1, 0, none⟩ (.int .u64 seed)).setCell ⟨b + 1 + 1, 1, none⟩ (.bool same)).setCell ⟨b + 1 + 1, 2, none⟩ (.slice aL n cL)).setCell ⟨b + 1 + 1, 3, none⟩ (.slice aG n cG)).setCell ⟨b + 1 + 1, 4, none⟩ (.slice a m2 c)).setCell ⟨b + 1 + 1, 5, none⟩ (.slice a' m2 c') = Y := ⟨_, rfl⟩
        have h4x := hmx.heap (by omega) H_h4.out
        obtain ⟨g1, g2⟩ := fin6 h4x hY
        rw [hX, hY]
        have x0 := cell_of_row _ _ 0 _ _ _ g2; have x1 := cell_of_row _ _ 1 _ _ _ g2; have x2 := cell_of_row _ _ 2 _ _ _ g2; have x3 := cell_of_row _ _ 3 _ _ _ g2; have x4 := cell_of_row _ _ 4 _ _ _ g2; have x5 := cell_of_row _ _ 5 _ _ _ g2
        simp at x0 x1 x2 x3 x4 x5
        have hxb := HD.out.h2
        have hri := (HO.out.ri.modT hmx (fun i hi _ => by subst hi; exact ⟨_, _, _, hxb, by decide, by decide⟩)).modT g1 (fun i hi _ => by subst hi; exact ⟨_, _, _, h4x, by decide, by decide⟩)
        refine bodyPost_ret (v := rdV seed same ⟨aL, cL, aG, cG, a, c, a', c'⟩ n m2) (by simp [results, Tryz.results68, go_sem, x0, x1, x2, x3, x4, x5]) rfl ⟨a, c, a', c', ?_, hri, (HD.out.pu.then hmx (fun i hi e => by omega)).then g1 (fun i hi e => by omega)⟩
        have hln := HO.out.len
        show _ = Ending.returned (rdV seed same _ Q.length (8 * (rehM H g Gs).length))
        rw [HN.out, hln]
end Go.Proofs.YtapplindfijngaaGreat
