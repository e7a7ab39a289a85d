/- Lemmas and contracts of functions, strung together out of 4 texts. No condition. -/
import Derived.Test.YtapplindfijngaaGreatJPfDictOf21
import Derived.Test.YtapplindfijngaaGreatJPfDictOf16
/- The reference of layer 10: Insert of an entry that is not there. -/
namespace Go.Proofs.YtapplindfijngaaGreat
open Go.RowKit Go.Shelf
set_option maxRecDepth 100000

def rdinsPost (w : World) (seed : Nat) (same : Bool) (Q : List RQ) (Gs : List Grp) (x : Ent) (e : Ending) (w' : World) : Prop :=
  ∃ r' Q', e = .returned (.tuple #[rdV seed same r' Q'.length (8 * Gs.length), .int .u32 Q.length, .int .i64 0]) ∧ Q'.map absQ = Q.map absQ ++ [(x, false)] ∧ RefD w' r' Q' Gs ∧ Fresh w (.slice r'.aL Q'.length r'.cL) ∧ Pure w w'
set_option maxHeartbeats 2000000 in
theorem rdins_ok {w : World} {r : RA} {Q : List RQ} {Gs : List Grp} (h : RefD w r Q Gs) (seed : Nat) (same : Bool) (hsd : seed < 18446744073709551616) (hk : Keeps seed same (slotsR (Q.map absQ)) Gs) (x : Ent) (hok : x.Ok) (hQ : Q.length < 4194304)
    (hf : findK (slotsR (Q.map absQ)) x.key = none) (a : Option Addr) (na c : Nat) (hx : ReadAt w (.slice a na c) 1 (bytesOf x.val)) :
    Calls Tryz.prog 12 #[rdV seed same r Q.length (8 * Gs.length), .agg #[.string x.key, .slice a na c, .int .u64 x.dl, .int .u64 x.birth]] w
      (rdinsPost w seed same Q (putM (sumL seed same (slotsR (Q.map absQ) ++ [some x])) Gs Q.length) x) := by
  have hna : na ≤ 65536 := by have := read_length hx; rw [bytesOf_length] at this; have := hok.v1; omega
  obtain ⟨n, hn⟩ : ∃ n, Q.length = n := ⟨_, rfl⟩
  obtain ⟨m, hm⟩ : ∃ m, 8 * Gs.length = m := ⟨_, rfl⟩
  have hlen : (slotsR (Q.map absQ)).length = n := by rw [slotsR_length, List.length_map, hn]
  obtain ⟨H, hH⟩ : ∃ H, sumL seed same (slotsR (Q.map absQ) ++ [some x]) = H := ⟨_, rfl⟩
  have hki := hk.insert hf (by omega)
  rw [hH, hlen] at hki
  have hns : ¬ liveS (slotsR (Q.map absQ)) n := fun hl => by have := liveS_lt hl; omega
  obtain ⟨pl, hp1, hp2, _, _, _, _, _, _⟩ := hki.1.put (s := n) (by have := hk.used; have := liveOf_le' (slotsR (Q.map absQ)); omega) (by omega) hns
  have hfl : ∀ s ∈ Gs.flatMap fullS, liveS (slotsR (Q.map absQ) ++ [some x]) s := fun s hs => (liveS_append _ x s).2 (.inr ((hki.1.mem s).2 ((full_mem hki.1.ok s).1 hs)))
  have HPut : Hid (∀ (W : World) (r2 : RA) (Q2 : List RQ), RefD W r2 Q2 Gs → Q2.map absQ = Q.map absQ ++ [(x, false)] → Calls Tryz.prog 55 #[rdV seed same r2 Q2.length m, .int .u32 n] W (rddoPost W seed same r2 Q2 (putM H Gs n))) := Lib.hid (fun W r2 Q2 hW hq => by
    have hL2 : slotsR (Q2.map absQ) = slotsR (Q.map absQ) ++ [some x] := by rw [hq, slotsR_snoc]
    have := rdput_ok hW seed same hsd hp1 hp2 (by rw [hL2]; exact hfl) (s := n) (by rw [hL2]; exact (liveS_append _ x n).2 (.inl hlen.symm)) (by omega)
    rw [hL2, hH, hm] at this
    exact this)
  have HCk := Lib.hid (fun W => ref_Check_ok x.key a na c x.birth W hok.k0 hok.k1 hna (by have := hok.b0; simp; omega))
  have HAt := Lib.hid (fun (W : World) (hW : RefD W r Q Gs) => rdAt_ok hW seed same m x.key)
  have hat : atV (slotsR (Q.map absQ)) x.key = -1 := by unfold atV; rw [hf]
  rw [hat, hn] at HAt
  have HAp := Lib.hid (fun (W : World) (hW : RefRow W r.aL r.cL r.aG r.cG Q) (hxx : ReadAt W (.slice a na c) 1 (bytesOf x.val)) => ref_Append hW hQ x hok a na c hxx)
  have h2a := heap_new (w := w) (o := rdO seed same r n m) rfl
  have h3a := heap_new (w := w.alloc (rdO seed same r n m)) (o := .cells #[.string x.key, .slice a na c, .int .u64 x.dl, .int .u64 x.birth] 42 (0, 0)) (n := w.heap.size + 1) (by simp)
  have h4a := heap_new (w := (w.alloc (rdO seed same r n m)).alloc (.cells #[.string x.key, .slice a na c, .int .u64 x.dl, .int .u64 x.birth] 42)) (o := .cells #[.int .u64 0, .bool false, .slice none 0 0, .slice none 0 0, .slice none 0 0, .slice none 0 0] 38 (0, 0)) (n := w.heap.size + 1 + 1) (by simp)
  have hp0 : Pure w (((w.alloc (rdO seed same r n m)).alloc (.cells #[.string x.key, .slice a na c, .int .u64 x.dl, .int .u64 x.birth] 42)).alloc (.cells #[.int .u64 0, .bool false, .slice none 0 0, .slice none 0 0, .slice none 0 0, .slice none 0 0] 38)) := (((Mod.refl _ w).alloc _).alloc _).alloc _
  have HD := Lib.hid (RDo.mk (b := w.heap.size) (b4 := w.heap.size + 1 + 1) hp0 (heap_keep (heap_keep h2a)) h4a (h.pure hp0))
  have h3 := heap_keep (o := .cells #[.int .u64 0, .bool false, .slice none 0 0, .slice none 0 0, .slice none 0 0, .slice none 0 0] 38) h3a
  have HX := Lib.hid (hx.frame hp0 (fun _ _ h => h))
  rw [hm]
  unfold rdinsPost refAppPost at *
  rw [hn] at HAp ⊢
  rw [hH]
  have HN := Lib.hid hn; have HM := Lib.hid hm
  clear h hn hm hk hf hx hlen hH hki hns hp1 hp2 hfl hat h2a h3a h4a hp0
  obtain ⟨aL, cL, aG, cG, aC, cC, aS, cS⟩ := r
  dsimp only [rdO] at HD h3 HAt HAp ⊢
  go_enter Tryz.func12, Tryz.ntmps12
  go_upto_region 1 with fail
  generalize (((w.alloc (.cells #[.int .u64 seed, .bool same, .slice aL n cL, .slice aG n cG, .slice aC m cC, .slice aS m cS] 38)).alloc (.cells #[.string x.key, .slice a na c, .int .u64 x.dl, .int .u64 x.birth] 42)).alloc (.cells #[.int .u64 0, .bool false, .slice none 0 0, .slice none 0 0, .slice none 0 0, .slice none 0 0] 38)) = W1 at *
  obtain ⟨b, hb⟩ : ∃ b, w.heap.size = b := ⟨_, rfl⟩
  rw [hb] at HD h3 ⊢
  have HB := Lib.hid hb
  clear hb
  have hd2 := HD.out.h2
  dsimp only [rdO] at hd2
  have hd2_0 := cell_of_row _ _ 0 _ _ _ hd2; have hd2_1 := cell_of_row _ _ 1 _ _ _ hd2; have hd2_2 := cell_of_row _ _ 2 _ _ _ hd2; have hd2_3 := cell_of_row _ _ 3 _ _ _ hd2; have hd2_4 := cell_of_row _ _ 4 _ _ _ hd2; have hd2_5 := cell_of_row _ _ 5 _ _ _ hd2; have hd2_f := (fun j => frozen_of_row _ _ j _ _ hd2); have hd2_l := lt_of_block hd2; simp at hd2_0 hd2_1 hd2_2 hd2_3 hd2_4 hd2_5; have H_hd2 := Lib.hid hd2; clear hd2
  have h3_0 := cell_of_row _ _ 0 _ _ _ h3; have h3_1 := cell_of_row _ _ 1 _ _ _ h3; have h3_2 := cell_of_row _ _ 2 _ _ _ h3; have h3_3 := cell_of_row _ _ 3 _ _ _ h3; have h3_f := (fun j => frozen_of_row _ _ j _ _ h3); have h3_l := lt_of_block h3; simp at h3_0 h3_1 h3_2 h3_3; have H_h3 := Lib.hid h3; clear h3
  go_upto_region 6 with (first
    | (go_at_call 53; refine Calls.mono (HCk.out _) ?_; rintro e w2 ⟨rfl, rfl⟩)
    | (go_at_call 54; refine Calls.mono (HAt.out _ HD.out.rf) ?_; rintro e w2 ⟨rfl, hp2⟩; clear hd2_0 hd2_1 hd2_2 hd2_3 hd2_4 hd2_5 hd2_f hd2_l; clear h3_0 h3_1 h3_2 h3_3 h3_f h3_l))
  have hd2 := hp2.heap (fun h => h) H_hd2.out
  have h3 := hp2.heap (fun h => h) H_h3.out
  replace HD := Lib.hid (HD.out.pure hp2)
  replace HX := Lib.hid (HX.out.frame hp2 (fun _ _ h => h))
  clear hp2 H_hd2 H_h3 HAt HCk
  have hd2_0 := cell_of_row _ _ 0 _ _ _ hd2; have hd2_1 := cell_of_row _ _ 1 _ _ _ hd2; have hd2_2 := cell_of_row _ _ 2 _ _ _ hd2; have hd2_3 := cell_of_row _ _ 3 _ _ _ hd2; have hd2_4 := cell_of_row _ _ 4 _ _ _ hd2; have hd2_5 := cell_of_row _ _ 5 _ _ _ hd2; have hd2_f := (fun j => frozen_of_row _ _ j _ _ hd2); have hd2_l := lt_of_block hd2; simp at hd2_0 hd2_1 hd2_2 hd2_3 hd2_4 hd2_5; have H_hd2 := Lib.hid hd2; clear hd2
  have h3_0 := cell_of_row _ _ 0 _ _ _ h3; have h3_1 := cell_of_row _ _ 1 _ _ _ h3; have h3_2 := cell_of_row _ _ 2 _ _ _ h3; have h3_3 := cell_of_row _ _ 3 _ _ _ h3; have h3_f := (fun j => frozen_of_row _ _ j _ _ h3); have h3_l := lt_of_block h3; simp at h3_0 h3_1 h3_2 h3_3; have H_h3 := Lib.hid h3; clear h3
  go_upto_region 7 with (go_at_call 23; refine Calls.mono (HAp.out _ HD.out.rf.l HX.out) ?_; rintro e w5 ⟨aL2, cL2, aG2, cG2, Q2, rfl, hq2, hr2, hf2, _, hp5⟩)
  obtain ⟨n2, hn2⟩ : ∃ n2, Q2.length = n2 := ⟨_, rfl⟩
  rw [hn2] at hf2 ⊢
  have HN2 := Lib.hid hn2
  have hal : Pure w5 (w5.alloc (.cells #[.slice aL2 n2 cL2, .slice aG2 n2 cG2] 32)) := (Mod.refl _ w5).alloc _
  have h8 := heap_new (w := w5) (o := .cells #[.slice aL2 n2 cL2, .slice aG2 n2 cG2] 32 (0, 0)) rfl
  have hp6 := hp5.trans hal
  have hy2 := hp6.heap (fun h => h) H_hd2.out
  have HR2 := Lib.hid (hr2.pure hal)
  have HQ2 := Lib.hid hq2
  have hsw : w.heap.size ≤ w2.heap.size := HD.out.pu.size
  have HF2 : Hid (Fresh w (.slice aL2 n2 cL2)) := Lib.hid (fun g hg => by have := hf2 g hg; omega)
  have hb5 : b < w5.heap.size := by have := lt_of_block H_hd2.out; have := hp5.size; omega
  replace HD := Lib.hid (HD.out.pure hp6)
  clear hd2_0 hd2_1 hd2_2 hd2_3 hd2_4 hd2_5 hd2_f hd2_l
  clear h3_0 h3_1 h3_2 h3_3 h3_f h3_l
  clear H_hd2 H_h3 hal hp5 hp6 hq2 hr2 hf2 hn2 HX HAp hsw
  generalize w5.alloc (.cells #[.slice aL2 n2 cL2, .slice aG2 n2 cG2] 32) = W6 at *
  generalize w5.heap.size = b8 at *
  have hne : b8 ≠ b := by omega
  have h8_0 := cell_of_row _ _ 0 _ _ _ h8; have h8_1 := cell_of_row _ _ 1 _ _ _ h8; have h8_f := (fun j => frozen_of_row _ _ j _ _ h8); have h8_l := lt_of_block h8; simp at h8_0 h8_1; have H_h8 := Lib.hid h8; clear h8
  have hy2_0 := cell_of_row _ _ 0 _ _ _ hy2; have hy2_1 := cell_of_row _ _ 1 _ _ _ hy2; have hy2_2 := cell_of_row _ _ 2 _ _ _ hy2; have hy2_3 := cell_of_row _ _ 3 _ _ _ hy2; have hy2_4 := cell_of_row _ _ 4 _ _ _ hy2; have hy2_5 := cell_of_row _ _ 5 _ _ _ hy2; have hy2_f := (fun j => frozen_of_row _ _ j _ _ hy2); have hy2_l := lt_of_block hy2; simp at hy2_0 hy2_1 hy2_2 hy2_3 hy2_4 hy2_5; have H_hy2 := Lib.hid hy2; clear hy2
  go_upto_region 8 with fail
  obtain ⟨X, hX⟩ : ∃ X, (W6.setCell ⟨b, 2, none⟩ (.slice aL2 n2 cL2)).setCell ⟨b, 3, none⟩ (.slice aG2 n2 cG2) = X := ⟨_, rfl⟩
  have hmx : Mod (fun k => k = b) W6 X := by rw [← hX]; exact Mod.set2 b 2 3 _ _
  have hx2 : X.heap[b]? = some (.cells #[.int .u64 seed, .bool same, .slice aL2 n2 cL2, .slice aG2 n2 cG2, .slice aC m cC, .slice aS m cS] 38 (0, 0)) := by rw [← hX]; exact set23 H_hy2.out
  rw [hX]
  have hnb : ∀ i, i = b → i < W6.heap.size → ∃ cs T fz, W6.heap[i]? = some (.cells cs T fz) ∧ T ≠ 42 ∧ T ≠ 4 ∧ T ≠ 5 ∧ T ≠ 43 := fun i e _ => ⟨_, _, _, e ▸ H_hy2.out, by decide, by decide, by decide, by decide⟩
  have hbw : w.heap.size ≤ b := by have := HB.out; omega
  have HRX : Hid (RefD X ⟨aL2, cL2, aG2, cG2, aC, cC, aS, cS⟩ Q2 Gs) := Lib.hid ⟨HR2.out.modX hmx hnb, HD.out.rf.x.modT hmx (fun i e hi => by obtain ⟨cs, T, fz, e2, _, _, h1, h2⟩ := hnb i e hi; exact ⟨cs, T, fz, e2, h1, h2⟩)⟩
  have hx4 := hmx.heap (by omega) HD.out.h4
  have HPX := Lib.hid (HD.out.pu.then hmx (fun i hi e => by omega))
  have HPt := Lib.hid (HPut.out X ⟨aL2, cL2, aG2, cG2, aC, cC, aS, cS⟩ Q2 HRX.out HQ2.out)
  unfold rddoPost at HPt
  rw [HN2.out] at HPt
  obtain ⟨m3, hm3⟩ : ∃ m3, 8 * (putM H Gs n).length = m3 := ⟨_, rfl⟩
  rw [hm3] at HPt
  have HM3 := Lib.hid hm3
  clear hy2_0 hy2_1 hy2_2 hy2_3 hy2_4 hy2_5 hy2_f hy2_l
  clear h8_0 h8_1 h8_f h8_l
  clear H_hy2 H_h8 hX hmx hnb HR2 HD HPut hm3
  dsimp only at HPt
  have hx2_0 := cell_of_row _ _ 0 _ _ _ hx2; have hx2_1 := cell_of_row _ _ 1 _ _ _ hx2; have hx2_2 := cell_of_row _ _ 2 _ _ _ hx2; have hx2_3 := cell_of_row _ _ 3 _ _ _ hx2; have hx2_4 := cell_of_row _ _ 4 _ _ _ hx2; have hx2_5 := cell_of_row _ _ 5 _ _ _ hx2; have hx2_f := (fun j => frozen_of_row _ _ j _ _ hx2); have hx2_l := lt_of_block hx2; simp at hx2_0 hx2_1 hx2_2 hx2_3 hx2_4 hx2_5; have H_hx2 := Lib.hid hx2; clear hx2
  have HX4 := Lib.hid hx4
  clear hx4
  go_wp2_with (go_at_call 55; refine Calls.mono HPt.out ?_; rintro e w9 ⟨a9, c9, a9', c9', rfl, hr9, hp9⟩; have hy4 := hp9.heap (fun h => h) HX4.out; have HR9 := Lib.hid hr9; have HP9 := Lib.hid hp9; clear hr9 hp9; have hy4_0 := cell_of_row _ _ 0 _ _ _ hy4; have hy4_1 := cell_of_row _ _ 1 _ _ _ hy4; have hy4_2 := cell_of_row _ _ 2 _ _ _ hy4; have hy4_3 := cell_of_row _ _ 3 _ _ _ hy4; have hy4_4 := cell_of_row _ _ 4 _ _ _ hy4; have hy4_5 := cell_of_row _ _ 5 _ _ _ hy4; have hy4_f := (fun j => frozen_of_row _ _ j _ _ hy4); have hy4_l := lt_of_block hy4; simp at hy4_0 hy4_1 hy4_2 hy4_3 hy4_4 hy4_5; have H_hy4 := Lib.hid hy4; clear hy4)
  obtain ⟨Y, hY⟩ : ∃ Y, (((((w9.setCell ⟨b + 1 + 1, 0, none⟩ (.int .u64 seed)).setCell ⟨b + 1 + 1, 1, none⟩ (.bool same)).setCell ⟨b + 1 + 1, 2, none⟩ (.slice aL2 n2 cL2)).setCell ⟨b + 1 + 1, 3, none⟩ (.slice aG2 n2 cG2)).setCell ⟨b + 1 + 1, 4, none⟩ (.slice a9 m3 c9)).setCell ⟨b + 1 + 1, 5, none⟩ (.slice a9' m3 c9') = Y := ⟨_, rfl⟩
  obtain ⟨g1, g2⟩ := fin6 H_hy4.out hY
  rw [hY]
  have x0 := cell_of_row _ _ 0 _ _ _ g2; have x1 := cell_of_row _ _ 1 _ _ _ g2; have x2 := cell_of_row _ _ 2 _ _ _ g2; have x3 := cell_of_row _ _ 3 _ _ _ g2; have x4 := cell_of_row _ _ 4 _ _ _ g2; have x5 := cell_of_row _ _ 5 _ _ _ g2
  simp at x0 x1 x2 x3 x4 x5
  have hn4 : ∀ i, i = b + 1 + 1 → i < w9.heap.size → ∃ cs T fz, w9.heap[i]? = some (.cells cs T fz) ∧ T ≠ 42 ∧ T ≠ 4 ∧ T ≠ 5 ∧ T ≠ 43 := fun i e _ => ⟨_, _, _, e ▸ H_hy4.out, by decide, by decide, by decide, by decide⟩
  refine bodyPost_ret (v := .tuple #[rdV seed same ⟨aL2, cL2, aG2, cG2, a9, c9, a9', c9'⟩ n2 m3, .int .u32 n, .int .i64 0]) (by simp [results, Tryz.results12, go_sem, x0, x1, x2, x3, x4, x5]) rfl ⟨⟨aL2, cL2, aG2, cG2, a9, c9, a9', c9'⟩, Q2, ?_, HQ2.out, ⟨((HRX.out.l).pure HP9.out).modX g1 hn4, HR9.out.modT g1 (fun i e hi => by obtain ⟨cs, T, fz, e2, _, _, h1, h2⟩ := hn4 i e hi; exact ⟨cs, T, fz, e2, h1, h2⟩)⟩, ?_, (HPX.out.trans HP9.out).then g1 (fun i hi e => by omega)⟩
  · rw [HM3.out, HN2.out]
  · rw [HN2.out]; exact HF2.out
end Go.Proofs.YtapplindfijngaaGreat

/- What a dictionary is in memory; its inner functions: key, sum, zero, full, plan, do, put. -/
namespace Go.Proofs.YtapplindfijngaaGreat
open Go.RowKit Go.Shelf
set_option maxRecDepth 100000

/-! ### hash.Sum -/
theorem HSum_ok (seed : Nat) (same : Bool) (hs : seed < 18446744073709551616) (key : ByteArray) (hk : key.size ≤ 140737488355328) (w : World) :
    Calls Tryz.prog 99 #[.agg #[.int .u64 seed, .bool same], .string key] w fun e w' => e = .returned (.int .u64 (sumS seed same key : Nat)) ∧ Pure w w' := by
  have hp : Pure w (w.alloc (.cells #[.int .u64 seed, .bool same] 27)) := (Mod.refl _ w).alloc _
  have hb := heap_new (w := w) (o := (.cells #[.int .u64 seed, .bool same] 27 (0, 0))) rfl
  have HP := Lib.hid hp
  obtain ⟨res, hres⟩ : ∃ res, sumS seed same key = res := ⟨_, rfl⟩
  rw [hres]
  unfold sumS at hres
  have HR := Lib.hid hres
  clear hp hres
  cases same with
  | true =>
    have hr := HR.out
    simp only [if_true] at hr
    have HF := Lib.hid (fun W => fold_ok seed hs ⟨#[]⟩ (by decide) W)
    have HM := Lib.hid (fun W => Mix_ok seed hs W)
    have e0 : foldM seed (⟨#[]⟩ : ByteArray).data.toList = seed := rfl
    have e1 : foldM seed [] = seed := rfl
    rw [e1] at hr
    rw [e0] at HF
    subst hr
    clear HR e0 e1
    go_enter Tryz.func99, Tryz.ntmps99
    go_upto_region 1 with fail
    generalize w.alloc (.cells #[.int .u64 seed, .bool true] 27) = W1 at *
    generalize w.heap.size = b at *
    have hb_0 := cell_of_row _ _ 0 _ _ _ hb; have hb_1 := cell_of_row _ _ 1 _ _ _ hb; have hb_f := (fun j => frozen_of_row _ _ j _ _ hb); have hb_l := lt_of_block hb; simp at hb_0 hb_1; have H_hb := Lib.hid hb; clear hb
    go_wp2_with (first
      | (go_at_call 136; refine Calls.mono (HF.out _) ?_; rintro e w' ⟨rfl, rfl⟩)
      | (go_at_call 135; refine Calls.mono (HM.out _) ?_; rintro e w' ⟨rfl, rfl⟩))
    go_ret
    exact ⟨rfl, HP.out⟩
  | false =>
    have hr := HR.out
    simp only [Bool.false_eq_true, if_false] at hr
    have hq := foldM_lt hs key.data.toList
    have HF := Lib.hid (fun W => fold_ok seed hs key hk W)
    have HM := Lib.hid (fun W => Mix_ok _ hq W)
    subst hr
    clear HR
    generalize foldM seed key.data.toList = q at *
    go_enter Tryz.func99, Tryz.ntmps99
    go_upto_region 1 with fail
    generalize w.alloc (.cells #[.int .u64 seed, .bool false] 27) = W1 at *
    generalize w.heap.size = b at *
    have hb_0 := cell_of_row _ _ 0 _ _ _ hb; have hb_1 := cell_of_row _ _ 1 _ _ _ hb; have hb_f := (fun j => frozen_of_row _ _ j _ _ hb); have hb_l := lt_of_block hb; simp at hb_0 hb_1; have H_hb := Lib.hid hb; clear hb
    go_wp2_with (first
      | (go_at_call 136; refine Calls.mono (HF.out _) ?_; rintro e w' ⟨rfl, rfl⟩)
      | (go_at_call 135; refine Calls.mono (HM.out _) ?_; rintro e w' ⟨rfl, rfl⟩))
    go_ret
    exact ⟨rfl, HP.out⟩

/-! ### a dictionary in memory -/
abbrev dPtr (d : Nat) : Value := .pointer (some ⟨d, 0, none⟩)
/-- Block d is a Dict of the log in block q and of the index in block p. -/
structure DictMem (w : World) (d q p : Nat) (sv : Value) (Dl : Nat → Prop) (seed : Nat) (same : Bool) (L : List (Option Ent)) (Gs : List Grp) : Prop where
  box : w.heap[d]? = some (.cells #[.pointer (some ⟨q, 0, none⟩), .int .u64 seed, .bool same, .pointer (some ⟨p, 0, none⟩)] 107 (0, 0))
  log : LogAt w Dl q L
  ix : IxRow w (fun k => k = p ∨ sv.ownBlock = some k) p sv Gs
  sd : seed < 18446744073709551616
section
variable {w w' : World} {d q p : Nat} {sv : Value} {Dl : Nat → Prop} {seed : Nat} {same : Bool} {L : List (Option Ent)} {Gs : List Grp}
theorem DictMem.pure (h : DictMem w d q p sv Dl seed same L Gs) (hp : Pure w w') : DictMem w' d q p sv Dl seed same L Gs :=
  ⟨hp.heap (fun h => h) h.box, h.log.pure hp, h.ix.pure hp, h.sd⟩
/-- The blocks of a dictionary. -/
def dictD (d : Nat) (Dl : Nat → Prop) (p : Nat) (sv : Value) (k : Nat) : Prop := k = d ∨ Dl k ∨ k = p ∨ sv.ownBlock = some k
theorem DictMem.types (h : DictMem w d q p sv Dl seed same L Gs) {k : Nat} (hk : dictD d Dl p sv k) {cs : Array Value} {T : TypeId} {fz : Nat × Nat} (e : w.heap[k]? = some (.cells cs T fz)) :
    T = 107 ∨ T = 131 ∨ T = 42 ∨ T = 164 ∨ T = 168 := by
  rcases hk with rfl | hk | rfl | hk
  · rw [h.box] at e; cases e; exact .inl rfl
  · rcases h.log.types hk e with e | e
    · exact .inr (.inl e)
    · exact .inr (.inr (.inl e))
  · rw [h.ix.box] at e; cases e; exact .inr (.inr (.inr (.inl rfl)))
  · obtain ⟨cc, e2⟩ := owns_type h.ix.row hk
    rw [e2] at e; cases e; exact .inr (.inr (.inr (.inr rfl)))
theorem DictMem.lt (h : DictMem w d q p sv Dl seed same L Gs) {k : Nat} (hk : dictD d Dl p sv k) : k < w.heap.size := by
  rcases hk with rfl | hk | rfl | hk
  · exact lt_of_block h.box
  · exact h.log.lt hk
  · exact lt_of_block h.ix.box
  · exact owns_lt h.ix.row hk
/-- A dictionary behind a change of other blocks. -/
theorem DictMem.frame {S : Nat → Prop} (h : DictMem w d q p sv Dl seed same L Gs) (hm : Mod S w w') (hD : ∀ k, dictD d Dl p sv k → ¬ S k) (hS : ∀ k, k < w.heap.size → S k → ∀ cs fz, w.heap[k]? ≠ some (.cells cs 5 fz)) : DictMem w' d q p sv Dl seed same L Gs :=
  ⟨hm.heap (hD d (.inl rfl)) h.box, h.log.frame hm (fun k hk => hD k (.inr (.inl hk))) hS, h.ix.mod hm (fun k hk => hD k (.inr (.inr hk))), h.sd⟩
theorem DictMem.nd (h : DictMem w d q p sv Dl seed same L Gs) : ¬ Dl d := fun hk => by
  rcases h.log.types hk h.box with e | e <;> cases e
theorem DictMem.npd (h : DictMem w d q p sv Dl seed same L Gs) : p ≠ d := fun e => by
  have h1 := h.ix.box; rw [e, h.box] at h1; cases h1
theorem DictMem.nsd (h : DictMem w d q p sv Dl seed same L Gs) : sv.ownBlock ≠ some d := fun e => by
  obtain ⟨cc, e2⟩ := owns_type h.ix.row e
  rw [h.box] at e2; cases e2
theorem DictMem.nlp (h : DictMem w d q p sv Dl seed same L Gs) : ∀ k, Dl k → ¬ (k = p ∨ sv.ownBlock = some k) := by
  rintro k hk (rfl | e)
  · rcases h.log.types hk h.ix.box with e | e <;> cases e
  · obtain ⟨cc, e2⟩ := owns_type h.ix.row e
    rcases h.log.types hk e2 with e | e <;> cases e
end

/-! ### key, sum, zero, full -/
theorem key_size {w : World} {D : Nat → Prop} {q : Nat} {L : List (Option Ent)} (h : LogAt w D q L) (s : Nat) : (keyL L s).size ≤ 250 := by
  unfold keyL
  split
  · rename_i e he; exact (h.ok.ent e (List.mem_of_getElem? he)).k1
  · decide
theorem skey_ok {w : World} {D : Nat → Prop} {q : Nat} {L : List (Option Ent)} (h : LogAt w D q L) (s : Nat) (hs : s ≤ 4294967295) :
    Calls Tryz.prog 101 #[.agg #[.pointer (some ⟨q, 0, none⟩)], .int .u32 s] w fun e w' => e = .returned (.string (keyL L s)) ∧ Pure w w' := by
  have hp : Pure w (w.alloc (.cells #[.pointer (some ⟨q, 0, none⟩)] 105)) := (Mod.refl _ w).alloc _
  have hb := heap_new (w := w) (o := (.cells #[.pointer (some ⟨q, 0, none⟩)] 105 (0, 0))) rfl
  have HK := Lib.hid (Key_any (h.pure hp) s hs)
  have HP := Lib.hid hp
  clear h hp
  go_enter Tryz.func101, Tryz.ntmps101
  go_upto_region 1 with fail
  generalize w.alloc (.cells #[.pointer (some ⟨q, 0, none⟩)] 105) = W1 at *
  generalize w.heap.size = b at *
  have hb_0 := cell_of_row _ _ 0 _ _ _ hb; have hb_f := (fun j => frozen_of_row _ _ j _ _ hb); have hb_l := lt_of_block hb; simp at hb_0; have H_hb := Lib.hid hb; clear hb
  go_wp2_with (go_at_call 56; refine Calls.mono HK.out ?_; rintro e w' ⟨rfl, rfl⟩)
  go_ret
  exact ⟨rfl, HP.out⟩
theorem dzero_ok {w : World} {d q p : Nat} {sv : Value} {Dl : Nat → Prop} {seed : Nat} {same : Bool} {L : List (Option Ent)} {Gs : List Grp} (h : DictMem w d q p sv Dl seed same L Gs) :
    Calls Tryz.prog 48 #[dPtr d] w fun e w' => e = .returned (.bool false) ∧ w = w' := by
  have hb := h.box
  clear h
  have hb_0 := cell_of_row _ _ 0 _ _ _ hb; have hb_1 := cell_of_row _ _ 1 _ _ _ hb; have hb_2 := cell_of_row _ _ 2 _ _ _ hb; have hb_3 := cell_of_row _ _ 3 _ _ _ hb; have hb_f := (fun j => frozen_of_row _ _ j _ _ hb); have hb_l := lt_of_block hb; simp at hb_0 hb_1 hb_2 hb_3; have H_hb := Lib.hid hb; clear hb
  go_enter Tryz.func48, Tryz.ntmps48
  go_wp2
  go_ret
  exact ⟨rfl, rfl⟩
set_option maxHeartbeats 800000 in
theorem dsum_ok {w : World} {d q p : Nat} {sv : Value} {Dl : Nat → Prop} {seed : Nat} {same : Bool} {L : List (Option Ent)} {Gs : List Grp} (h : DictMem w d q p sv Dl seed same L Gs) (s : Nat) (hs : s ≤ 4294967295) :
    Calls Tryz.prog 58 #[dPtr d, .int .u32 s] w fun e w' => e = .returned (.int .u64 (sumL seed same L s : Nat)) ∧ Pure w w' := by
  have HK := Lib.hid (fun W (hW : Pure w W) => skey_ok (h.log.pure hW) s hs)
  have HH := Lib.hid (fun W => HSum_ok seed same h.sd (keyL L s) (by have := key_size h.log s; omega) W)
  have e1 : sumS seed same (keyL L s) = sumL seed same L s := rfl
  rw [e1] at HH
  have hb := h.box
  clear h e1
  generalize sumL seed same L s = r at *
  have hb_0 := cell_of_row _ _ 0 _ _ _ hb; have hb_1 := cell_of_row _ _ 1 _ _ _ hb; have hb_2 := cell_of_row _ _ 2 _ _ _ hb; have hb_3 := cell_of_row _ _ 3 _ _ _ hb; have hb_f := (fun j => frozen_of_row _ _ j _ _ hb); have hb_l := lt_of_block hb; simp at hb_0 hb_1 hb_2 hb_3; have H_hb := Lib.hid hb; clear hb
  have hf := hb_f
  go_enter Tryz.func58, Tryz.ntmps58
  go_upto_region 1 with fail
  go_region_held3 (fun w' => w'.cell? ⟨d, 0, none⟩ = some (.pointer (some ⟨q, 0, none⟩)) ∧ w'.cell? ⟨d, 1, none⟩ = some (.int .u64 seed) ∧ w'.cell? ⟨d, 2, none⟩ = some (.bool same))
    (first | exact ⟨hb_0, hb_1, hb_2⟩ | exact ⟨hp1.cell (fun h => h) hb_0, hp1.cell (fun h => h) hb_1, hp1.cell (fun h => h) hb_2⟩ | exact ⟨(hp1.trans hp2).cell (fun h => h) hb_0, (hp1.trans hp2).cell (fun h => h) hb_1, (hp1.trans hp2).cell (fun h => h) hb_2⟩)
    (first
      | (go_at_call 101; refine Calls.mono (HK.out _ (by (repeat' (first | (with_reducible exact Mod.refl _ _) | (with_reducible refine Mod.alloc ?_ _) | (with_reducible refine Mod.drew ?_) | (with_reducible refine Mod.drewN ?_ _) | (with_reducible refine Mod.setCell ?_ ?_ _) | (refine Mod.then ?_ (by with_reducible assumption) ?_))) <;> (all_goals (intros; first | (exfalso; assumption) | omega | (simp at *; done) | (simp at *; omega))))) ?_; rintro e w1 ⟨rfl, hp1⟩)
      | (go_at_call 99; refine Calls.mono (HH.out _) ?_; rintro e w2 ⟨rfl, hp2⟩))
  go_wp2
  go_ret
  exact ⟨rfl, (Mod.of_drew hp1).trans hp2⟩
end Go.Proofs.YtapplindfijngaaGreat

/- dict: plan, do, put. -/
namespace Go.Proofs.YtapplindfijngaaGreat
open Go.RowKit Go.Shelf
set_option maxRecDepth 100000
section
variable {w : World} {d q p : Nat} {sv : Value} {Dl : Nat → Prop} {seed : Nat} {same : Bool} {L : List (Option Ent)} {Gs : List Grp}

def planPost (w : World) (x : Nat × Bool) (e : Ending) (w' : World) : Prop :=
  e = .returned (.tuple #[.agg #[.int .i64 (x.1 : Nat), .bool x.2], .int .i64 0]) ∧ Pure w w'
set_option maxHeartbeats 1000000 in
theorem dplan_ok (h : DictMem w d q p sv Dl seed same L Gs) {x : Nat × Bool} (hx : planI Gs.length (usedN Gs) (tombN Gs) = some x) : Calls Tryz.prog 50 #[dPtr d] w (planPost w x) := by
  have hpow := h.ix.ok.pow
  have hle := used_tomb_le h.ix.ok.grp
  have HX := Lib.hid h.ix
  have HG := Lib.hid (fun W => gInsert_ok hpow hle W)
  rw [hx] at HG
  dsimp only [planV] at HG
  have hb := h.box
  have hp0 : Pure w (w.alloc (.cells #[.int .i64 0, .bool false] 112)) := (Mod.refl _ w).alloc _
  have h2 := heap_new (w := w) (o := .cells #[.int .i64 0, .bool false] 112 (0, 0)) rfl
  have hbb := hp0.heap (fun h => h) hb
  have HP := Lib.hid hp0
  replace HX := Lib.hid (HX.out.pure hp0)
  have HBX := Lib.hid hb
  clear h hx hpow hle hp0 hb
  obtain ⟨x1, x2⟩ := x
  dsimp only at HG
  go_enter Tryz.func50, Tryz.ntmps50
  go_upto_region 1 with fail
  generalize w.alloc (.cells #[.int .i64 0, .bool false] 112) = W1 at *
  obtain ⟨b, hbe⟩ : ∃ b, w.heap.size = b := ⟨_, rfl⟩
  rw [hbe] at h2 ⊢
  have HB := Lib.hid hbe
  clear hbe
  have hdb : d ≠ b := by have := lt_of_block HBX.out; have := HB.out; omega
  have hbb_0 := cell_of_row _ _ 0 _ _ _ hbb; have hbb_1 := cell_of_row _ _ 1 _ _ _ hbb; have hbb_2 := cell_of_row _ _ 2 _ _ _ hbb; have hbb_3 := cell_of_row _ _ 3 _ _ _ hbb; have hbb_f := (fun j => frozen_of_row _ _ j _ _ hbb); have hbb_l := lt_of_block hbb; simp at hbb_0 hbb_1 hbb_2 hbb_3; have H_hbb := Lib.hid hbb; clear hbb
  have h2_0 := cell_of_row _ _ 0 _ _ _ h2; have h2_1 := cell_of_row _ _ 1 _ _ _ h2; have h2_f := (fun j => frozen_of_row _ _ j _ _ h2); have h2_l := lt_of_block h2; simp at h2_0 h2_1; have H_h2 := Lib.hid h2; clear h2
  go_region_held3 (fun w' => w'.cell? ⟨d, 3, none⟩ = some (.pointer (some ⟨p, 0, none⟩)))
    (first | exact hbb_3 | exact hp1.cell (fun h => h) hbb_3 | exact (Mod.set2 b 0 1 _ _).cell (fun e => hdb e) (hp1.cell (fun h => h) hbb_3))
    (first
      | (go_at_call 60; refine Calls.mono (IGroups_ok (HX.out.pure (by (repeat' (first | (with_reducible exact Mod.refl _ _) | (with_reducible refine Mod.alloc ?_ _) | (with_reducible refine Mod.drew ?_) | (with_reducible refine Mod.drewN ?_ _) | (with_reducible refine Mod.setCell ?_ ?_ _) | (refine Mod.then ?_ (by with_reducible assumption) ?_))) <;> (all_goals (intros; first | (exfalso; assumption) | omega | (simp at *; done) | (simp at *; omega)))))) ?_; rintro e w1 ⟨rfl, rfl⟩)
      | (go_at_call 61; refine Calls.mono (ILen_ok (HX.out.pure (by (repeat' (first | (with_reducible exact Mod.refl _ _) | (with_reducible refine Mod.alloc ?_ _) | (with_reducible refine Mod.drew ?_) | (with_reducible refine Mod.drewN ?_ _) | (with_reducible refine Mod.setCell ?_ ?_ _) | (refine Mod.then ?_ (by with_reducible assumption) ?_))) <;> (all_goals (intros; first | (exfalso; assumption) | omega | (simp at *; done) | (simp at *; omega)))))) ?_; rintro e w1 ⟨rfl, rfl⟩)
      | (go_at_call 62; refine Calls.mono (ITombs_ok (HX.out.pure (by (repeat' (first | (with_reducible exact Mod.refl _ _) | (with_reducible refine Mod.alloc ?_ _) | (with_reducible refine Mod.drew ?_) | (with_reducible refine Mod.drewN ?_ _) | (with_reducible refine Mod.setCell ?_ ?_ _) | (refine Mod.then ?_ (by with_reducible assumption) ?_))) <;> (all_goals (intros; first | (exfalso; assumption) | omega | (simp at *; done) | (simp at *; omega)))))) ?_; rintro e w1 ⟨rfl, rfl⟩)
      | (go_at_call 106; refine Calls.mono (HG.out _) ?_; rintro e w1 ⟨rfl, hp1⟩; have k0 := hp1.cell (fun h => h) h2_0; have k1 := hp1.cell (fun h => h) h2_1; have kf : ∀ j, w1.frozen? ⟨b, j, none⟩ = false := (fun j => (hp1.cells.2 b j h2_l).trans (h2_f j)); have kl : b < w1.heap.size := hp1.lt h2_l))
  go_wp2
  obtain ⟨f1, y0, y1⟩ := gfin (v0 := .int .i64 x1) (v1 := .bool x2) ((Mod.of_drew hp1).heap (fun h => h) H_h2.out) (HP.out.trans (Mod.of_drew hp1)) (by have := HB.out; omega) rfl
  obtain ⟨Y, hY⟩ : ∃ Y, (w1.setCell ⟨b, 0, none⟩ (.int .i64 x1)).setCell ⟨b, 1, none⟩ (.bool x2) = Y := ⟨_, rfl⟩
  rw [hY] at f1 y0 y1 ⊢
  exact bodyPost_ret (v := .tuple #[.agg #[.int .i64 x1, .bool x2], .int .i64 0]) (by simp [results, Tryz.results50, go_sem, y0, y1]) rfl ⟨rfl, f1⟩

/-! ### do -/
theorem dsumOk (h : DictMem w d q p sv Dl seed same L Gs) : SumOk Tryz.prog 58 #[dPtr d] #[] (sumL seed same L) (fun _ => True) (fun W => Pure w W) w :=
  ⟨enters_of Tryz.func58 (by kernel_rfl) rfl, fun s W hs _ hJ => by
    have := (callsIn_wide (n := 0)).2 (dsum_ok (h.pure hJ) s hs)
    simpa using this, fun s => sumL_lt seed same L s, fun A B hJ hm => hJ.then hm (fun i hi e => by omega), Mod.refl _ _⟩
/-- The index is the same one, or a new one. -/
def SameIx (w : World) (p : Nat) (sv : Value) (p2 : Nat) (sv2 : Value) : Prop := (p2 = p ∧ sv2 = sv) ∨ (w.heap.size ≤ p2 ∧ ∀ k, sv2.ownBlock = some k → w.heap.size ≤ k)
def ddoPost (w : World) (d q p : Nat) (sv : Value) (Dl : Nat → Prop) (seed : Nat) (same : Bool) (L : List (Option Ent)) (Gs : List Grp) (x : Nat × Bool) (e : Ending) (w' : World) : Prop :=
  ∃ v p2 sv2, e = .returned v ∧ DictMem w' d q p2 sv2 Dl seed same L (doG (sumL seed same L) x Gs) ∧ Mod (fun k => k = d) w w' ∧ SameIx w p sv p2 sv2
theorem DictMem.reindex {w w1 : World} {p2 : Nat} {sv2 : Value} {Gs2 : List Grp} (h : DictMem w d q p sv Dl seed same L Gs) (hp : Pure w w1) (hx : IxRow w1 (fun k => k = p2 ∨ sv2.ownBlock = some k) p2 sv2 Gs2) {Y : World} (hY : w1.setCell ⟨d, 3, none⟩ (.pointer (some ⟨p2, 0, none⟩)) = Y) :
    DictMem Y d q p2 sv2 Dl seed same L Gs2 ∧ Mod (fun k => k = d) w Y := by
  subst hY
  have h1 := h.pure hp
  have hm : Mod (fun k => k = d) w1 (w1.setCell ⟨d, 3, none⟩ (.pointer (some ⟨p2, 0, none⟩))) := Mod.set1 _ _ _
  refine ⟨⟨?_, h1.log.frame hm (fun k hk e => by subst e; exact h1.nd hk) (fun k _ e cs fz e2 => by subst e; rw [h1.box] at e2; cases e2), hx.mod hm (fun k hk e => ?_), h.sd⟩, (Mod.of_pure hp).trans hm⟩
  · have := heap_set1 (j := 3) (v := .pointer (some ⟨p2, 0, none⟩)) h1.box
    simpa using this
  · subst e
    rcases hk with e | e
    · have h2 := hx.box; rw [← e, h1.box] at h2; cases h2
    · obtain ⟨cc, e2⟩ := owns_type hx.row e
      rw [h1.box] at e2; cases e2
set_option maxHeartbeats 1000000 in
theorem ddo_ok (h : DictMem w d q p sv Dl seed same L Gs) (x : Nat × Bool) (hx : x.2 = true → Pow x.1 ∧ usedN Gs ≤ 8 * x.1) : Calls Tryz.prog 63 #[dPtr d, .agg #[.int .i64 (x.1 : Nat), .bool x.2]] w (ddoPost w d q p sv Dl seed same L Gs x) := by
  obtain ⟨x1, x2⟩ := x
  have hp0 : Pure w (w.alloc (.cells #[.int .i64 x1, .bool x2] 112)) := (Mod.refl _ w).alloc _
  have h2 := heap_new (w := w) (o := .cells #[.int .i64 x1, .bool x2] 112 (0, 0)) rfl
  have HM := Lib.hid h
  cases x2 with
  | false =>
    have HP := Lib.hid hp0
    clear h hx hp0
    go_enter Tryz.func63, Tryz.ntmps63
    go_upto_region 1 with fail
    generalize w.alloc (.cells #[.int .i64 x1, .bool false] 112) = W1 at *
    generalize w.heap.size = b at *
    have h2_0 := cell_of_row _ _ 0 _ _ _ h2; have h2_1 := cell_of_row _ _ 1 _ _ _ h2; have h2_f := (fun j => frozen_of_row _ _ j _ _ h2); have h2_l := lt_of_block h2; simp at h2_0 h2_1; have H_h2 := Lib.hid h2; clear h2
    go_wp2
    refine bodyPost_ret (v := .tuple #[]) (by simp [results, Tryz.results63, go_sem]) rfl ?_
    exact ⟨_, p, sv, rfl, HM.out.pure HP.out, Mod.of_pure HP.out, .inl ⟨rfl, rfl⟩⟩
  | true =>
    obtain ⟨k1, k2⟩ := hx rfl
    have HR := Lib.hid (fun (W : World) (hW : Pure w W) => Rehash_ok (h.pure hW).ix x1 k1 k2 (dsumOk (h.pure hW)) (fun _ _ => trivial))
    have HP := Lib.hid hp0
    have hb := hp0.heap (fun h => h) h.box
    clear h hx hp0 k1 k2
    go_enter Tryz.func63, Tryz.ntmps63
    go_upto_region 1 with fail
    generalize hW1 : w.alloc (.cells #[.int .i64 x1, .bool true] 112) = W1 at *
    clear hW1
    obtain ⟨b, hbe⟩ : ∃ b, w.heap.size = b := ⟨_, rfl⟩
    rw [hbe] at h2 ⊢
    have HB := Lib.hid hbe
    clear hbe
    have hb_0 := cell_of_row _ _ 0 _ _ _ hb; have hb_1 := cell_of_row _ _ 1 _ _ _ hb; have hb_2 := cell_of_row _ _ 2 _ _ _ hb; have hb_3 := cell_of_row _ _ 3 _ _ _ hb; have hb_f := (fun j => frozen_of_row _ _ j _ _ hb); have hb_l := lt_of_block hb; simp at hb_0 hb_1 hb_2 hb_3; have H_hb := Lib.hid hb; clear hb
    have h2_0 := cell_of_row _ _ 0 _ _ _ h2; have h2_1 := cell_of_row _ _ 1 _ _ _ h2; have h2_f := (fun j => frozen_of_row _ _ j _ _ h2); have h2_l := lt_of_block h2; simp at h2_0 h2_1; have H_h2 := Lib.hid h2; clear h2
    go_upto_region 3 with fail
    go_region_held3 (fun w' => w'.cell? ⟨d, 3, none⟩ = some (.pointer (some ⟨p, 0, none⟩)) ∧ w'.cell? ⟨b, 0, none⟩ = some (.int .i64 x1))
      (first | exact ⟨hb_3, h2_0⟩ | exact ⟨hp1.cell (fun h => h) hb_3, hp1.cell (fun h => h) h2_0⟩)
      (first
        | (go_at_call 118; refine Calls.mono (HR.out _ (by have := HP.out; (repeat' (first | (with_reducible exact Mod.refl _ _) | (with_reducible refine Mod.alloc ?_ _) | (with_reducible refine Mod.drew ?_) | (with_reducible refine Mod.drewN ?_ _) | (with_reducible refine Mod.setCell ?_ ?_ _) | (refine Mod.then ?_ (by with_reducible assumption) ?_))) <;> (all_goals (intros; first | (exfalso; assumption) | omega | (simp at *; done) | (simp at *; omega))))) ?_; rintro e w1 ⟨p2, sv2, rfl, hix, hp1, hl2, hs2, _, _⟩; have k3 := hp1.cell (fun h => h) hb_3; have kf : ∀ j, w1.frozen? ⟨d, j, none⟩ = false := (fun j => (hp1.cells.2 d j hb_l).trans (hb_f j)); have kl : d < w1.heap.size := hp1.lt hb_l))
    go_wp2
    have hpw := HP.out.trans (Mod.of_drew hp1)
    obtain ⟨g1, g2⟩ := HM.out.reindex hpw hix rfl
    refine bodyPost_ret (v := .tuple #[]) (by simp [results, Tryz.results63, go_sem]) rfl ?_
    have hl : w.heap.size ≤ W1.heap.size := HP.out.size
    exact ⟨_, p2, sv2, rfl, g1, g2, .inr ⟨Nat.le_trans hl hl2, fun k hk => Nat.le_trans hl (hs2 k hk)⟩⟩

/-! ### put -/
def dputPost (w : World) (d q p : Nat) (sv : Value) (Dl : Nat → Prop) (seed : Nat) (same : Bool) (L : List (Option Ent)) (Gs2 : List Grp) (e : Ending) (w' : World) : Prop :=
  ∃ p2 sv2, e = .returned (.int .i64 0) ∧ DictMem w' d q p2 sv2 Dl seed same L Gs2 ∧ Mod (fun k => k = d ∨ k = p ∨ sv.ownBlock = some k) w w' ∧ SameIx w p sv p2 sv2
theorem dput_end {w w3 w4 w5 : World} {Gs1 Gs2 : List Grp} {p2 : Nat} {sv2 : Value} (h : DictMem w3 d q p2 sv2 Dl seed same L Gs1) (h4 : Pure w3 w4) (hx : IxRow w5 (fun k => k = p2 ∨ sv2.ownBlock = some k) p2 sv2 Gs2) (h5 : Mod (fun k => k = p2 ∨ sv2.ownBlock = some k) w4 w5)
    (hm : Mod (fun k => k = d) w w3) (hs : SameIx w p sv p2 sv2) : DictMem w5 d q p2 sv2 Dl seed same L Gs2 ∧ Mod (fun k => k = d ∨ k = p ∨ sv.ownBlock = some k) w w5 := by
  have h1 := h.pure h4
  refine ⟨⟨h5.heap (fun hk => ?_) h1.box, h1.log.frame h5 (fun k hk e => h1.nlp k hk e) (fun k _ e cs fz e2 => ?_), hx, h.sd⟩, ?_⟩
  · rcases hk with e | e
    · exact h1.npd e.symm
    · exact h1.nsd e
  · rcases e with rfl | e
    · rw [h1.ix.box] at e2; cases e2
    · obtain ⟨cc, e3⟩ := owns_type h1.ix.row e
      rw [e3] at e2; cases e2
  · have hm4 := hm.then h4 (fun _ _ h => h.elim)
    refine Mod.trans' hm4 h5 (fun i _ e => .inl e) (fun i hi e => ?_)
    rcases hs with ⟨rfl, rfl⟩ | ⟨g1, g2⟩
    · exact .inr e
    · rcases e with rfl | e
      · omega
      · have := g2 _ e; omega
set_option maxHeartbeats 1000000 in
theorem dput_ok (h : DictMem w d q p sv Dl seed same L Gs) {x : Nat × Bool} (hx : planI Gs.length (usedN Gs) (tombN Gs) = some x) (hp : Pow x.1) (hu : usedN Gs ≤ 8 * x.1) {s : Nat} (hs : s ≤ 4294967295) {Gs2 : List Grp}
    (hi : insM (doG (sumL seed same L) x Gs) (sumL seed same L s) s = some Gs2) : Calls Tryz.prog 52 #[dPtr d, .int .u32 s] w (dputPost w d q p sv Dl seed same L Gs2) := by
  have HPl := Lib.hid (dplan_ok h hx)
  have HDo := Lib.hid (fun (W : World) (hW : Pure w W) => ddo_ok (h.pure hW) x (fun _ => ⟨hp, hu⟩))
  have HH := Lib.hid h
  have HI := Lib.hid hi
  have hsl := sumL_lt seed same L s
  obtain ⟨hh, hhe⟩ : ∃ hh, sumL seed same L s = hh := ⟨_, rfl⟩
  have HS := Lib.hid (fun (W : World) (p2 : Nat) (sv2 : Value) (Gs1 : List Grp) (hW : DictMem W d q p2 sv2 Dl seed same L Gs1) => dsum_ok hW s hs)
  rw [hhe] at HI hsl HS
  have HHE := Lib.hid hhe
  obtain ⟨x1, x2⟩ := x
  clear h hx hp hu hi hhe
  unfold planPost at HPl
  dsimp only at HPl HDo HI
  go_enter Tryz.func52, Tryz.ntmps52
  go_upto_region 2 with (go_at_call 50; refine Calls.mono HPl.out ?_; rintro e w1 ⟨rfl, hp1⟩)
  have hpa : Pure w1 (w1.alloc (.cells #[.int .i64 x1, .bool x2] 112)) := (Mod.refl _ w1).alloc _
  have h5 := heap_new (w := w1) (o := .cells #[.int .i64 x1, .bool x2] 112 (0, 0)) rfl
  have HP := Lib.hid (hp1.trans hpa)
  clear hp1 hpa HPl
  generalize w1.alloc (.cells #[.int .i64 x1, .bool x2] 112) = W2 at *
  generalize w1.heap.size = b5 at *
  have h5_0 := cell_of_row _ _ 0 _ _ _ h5; have h5_1 := cell_of_row _ _ 1 _ _ _ h5; have h5_f := (fun j => frozen_of_row _ _ j _ _ h5); have h5_l := lt_of_block h5; simp at h5_0 h5_1; have H_h5 := Lib.hid h5; clear h5
  go_upto_region 5 with (go_at_call 63; refine Calls.mono (HDo.out _ HP.out) ?_; rintro e w3 ⟨v, p2, sv2, rfl, hm3, hm, hsx⟩)
  have hsx' : SameIx w p sv p2 sv2 := by
    have := HP.out.size
    rcases hsx with h | ⟨g1, g2⟩
    · exact .inl h
    · exact .inr ⟨by omega, fun k hk => by have := g2 k hk; omega⟩
  have hmw : Mod (fun k => k = d) w w3 := (Mod.of_pure HP.out).trans hm
  have HM3 := Lib.hid hm3
  have HMW := Lib.hid hmw; have HSX := Lib.hid hsx'
  have hb := hm3.box
  clear h5_0 h5_1 h5_f h5_l
  clear hm3 hm hsx hsx' hmw H_h5
  generalize hGd : doG (sumL seed same L) (x1, x2) Gs = Gs1 at *
  clear hGd
  have hb_0 := cell_of_row _ _ 0 _ _ _ hb; have hb_1 := cell_of_row _ _ 1 _ _ _ hb; have hb_2 := cell_of_row _ _ 2 _ _ _ hb; have hb_3 := cell_of_row _ _ 3 _ _ _ hb; have hb_f := (fun j => frozen_of_row _ _ j _ _ hb); have hb_l := lt_of_block hb; simp at hb_0 hb_1 hb_2 hb_3; have H_hb := Lib.hid hb; clear hb
  have HIN := Lib.hid (fun (W : World) (hW : Pure w3 W) => Insert_ok (HM3.out.ix.pure hW) hh s hsl hs)
  go_region_held3 (fun w' => w'.cell? ⟨d, 3, none⟩ = some (.pointer (some ⟨p2, 0, none⟩)))
    (first | exact hb_3 | exact hp1.cell (fun h => h) hb_3 | exact hm5.cell (fun e => e.elim (fun e => HM3.out.npd e.symm) (fun e => HM3.out.nsd e)) (hp1.cell (fun h => h) hb_3))
    (first
      | (go_at_call 58; refine Calls.mono (HS.out _ p2 sv2 Gs1 (HM3.out.pure (by (repeat' (first | (with_reducible exact Mod.refl _ _) | (with_reducible refine Mod.alloc ?_ _) | (with_reducible refine Mod.drew ?_) | (with_reducible refine Mod.drewN ?_ _) | (with_reducible refine Mod.setCell ?_ ?_ _) | (refine Mod.then ?_ (by with_reducible assumption) ?_))) <;> (all_goals (intros; first | (exfalso; assumption) | omega | (simp at *; done) | (simp at *; omega)))))) ?_; rintro e w4 ⟨rfl, hp1⟩)
      | (go_at_call 107; refine Calls.mono (HIN.out _ (by (repeat' (first | (with_reducible exact Mod.refl _ _) | (with_reducible refine Mod.alloc ?_ _) | (with_reducible refine Mod.drew ?_) | (with_reducible refine Mod.drewN ?_ _) | (with_reducible refine Mod.setCell ?_ ?_ _) | (refine Mod.then ?_ (by with_reducible assumption) ?_))) <;> (all_goals (intros; first | (exfalso; assumption) | omega | (simp at *; done) | (simp at *; omega))))) ?_; rintro e w5 hq; unfold insPost at hq; rw [HI.out] at hq; obtain ⟨rfl, hx5, hm5⟩ := hq))
  go_wp2
  go_ret
  obtain ⟨g1, g2⟩ := dput_end HM3.out (Mod.of_drew hp1) hx5 hm5 HMW.out HSX.out
  exact ⟨p2, sv2, rfl, g1, g2, HSX.out⟩
end
end Go.Proofs.YtapplindfijngaaGreat

/- dict: Find, New, Log, All, Insert. -/
namespace Go.Proofs.YtapplindfijngaaGreat
open Go.RowKit Go.Shelf
set_option maxRecDepth 100000
section
variable {w : World} {d q p : Nat} {sv : Value} {Dl : Nat → Prop} {seed : Nat} {same : Bool} {L : List (Option Ent)} {Gs : List Grp}

/-! ### Find -/
set_option maxHeartbeats 800000 in
theorem dfind1_ok (h : DictMem w d q p sv Dl seed same L Gs) {b b1 : Nat} {key : ByteArray} (hb0 : w.heap[b]? = some (.cells #[dPtr d] 24 (0, 0))) (hb1 : w.heap[b1]? = some (.cells #[.string key] 9 (0, 0))) (s : Nat) (hs : s ≤ 4294967295) :
    Calls Tryz.prog 100 #[.int .u32 s, .pointer (some ⟨b, 0, none⟩), .pointer (some ⟨b1, 0, none⟩)] w fun e w' => e = .returned (.bool (keyL L s == key)) ∧ Pure w w' := by
  have HK := Lib.hid (fun W (hW : Pure w W) => skey_ok (h.log.pure hW) s hs)
  have hb := h.box
  clear h
  generalize keyL L s = ks at *
  have hb_0 := cell_of_row _ _ 0 _ _ _ hb; have hb_1 := cell_of_row _ _ 1 _ _ _ hb; have hb_2 := cell_of_row _ _ 2 _ _ _ hb; have hb_3 := cell_of_row _ _ 3 _ _ _ hb; have hb_f := (fun j => frozen_of_row _ _ j _ _ hb); have hb_l := lt_of_block hb; simp at hb_0 hb_1 hb_2 hb_3; have H_hb := Lib.hid hb; clear hb
  have hb0_0 := cell_of_row _ _ 0 _ _ _ hb0; have hb0_f := (fun j => frozen_of_row _ _ j _ _ hb0); have hb0_l := lt_of_block hb0; simp at hb0_0; have H_hb0 := Lib.hid hb0; clear hb0
  have hb1_0 := cell_of_row _ _ 0 _ _ _ hb1; have hb1_f := (fun j => frozen_of_row _ _ j _ _ hb1); have hb1_l := lt_of_block hb1; simp at hb1_0; have H_hb1 := Lib.hid hb1; clear hb1
  go_enter Tryz.func100, Tryz.ntmps100
  go_upto_region 1 with fail
  go_region_held3 (fun w' => w'.cell? ⟨d, 0, none⟩ = some (.pointer (some ⟨q, 0, none⟩)) ∧ w'.cell? ⟨b, 0, none⟩ = some (.pointer (some ⟨d, 0, none⟩)) ∧ w'.cell? ⟨b1, 0, none⟩ = some (.string key))
    (first | exact ⟨hb_0, hb0_0, hb1_0⟩ | exact ⟨hp1.cell (fun h => h) hb_0, hp1.cell (fun h => h) hb0_0, hp1.cell (fun h => h) hb1_0⟩)
    (first
      | (go_at_call 101; refine Calls.mono (HK.out _ (by (repeat' (first | (with_reducible exact Mod.refl _ _) | (with_reducible refine Mod.alloc ?_ _) | (with_reducible refine Mod.drew ?_) | (with_reducible refine Mod.drewN ?_ _) | (with_reducible refine Mod.setCell ?_ ?_ _) | (refine Mod.then ?_ (by with_reducible assumption) ?_))) <;> (all_goals (intros; first | (exfalso; assumption) | omega | (simp at *; done) | (simp at *; omega))))) ?_; rintro e w1 ⟨rfl, hp1⟩))
  go_wp2
  go_ret
  exact ⟨by rw [← ba_list]; rfl, Mod.of_drew hp1⟩
/-- What Find says of a key. -/
def findV (L : List (Option Ent)) (key : ByteArray) : Nat × Nat := match findK L key with
  | some s => (s, 0)
  | none => (0, 9)
def dfindPost (w : World) (L : List (Option Ent)) (key : ByteArray) (e : Ending) (w' : World) : Prop :=
  e = .returned (.tuple #[.int .u32 ((findV L key).1 : Nat), .int .i64 ((findV L key).2 : Nat)]) ∧ Pure w w'
set_option maxHeartbeats 1000000 in
theorem dfind_ok (h : DictMem w d q p sv Dl seed same L Gs) (hk : Keeps seed same L Gs) (key : ByteArray) (hkey : key.size ≤ 140737488355328) : Calls Tryz.prog 42 #[dPtr d, .string key] w (dfindPost w L key) := by
  have hp0 : Pure w ((w.alloc (.cells #[.pointer (some ⟨d, 0, none⟩)] 24)).alloc (.cells #[.string key] 9)) := ((Mod.refl _ w).alloc _).alloc _
  have z2 := heap_keep (o := .cells #[.string key] 9) (heap_new (w := w) (o := .cells #[.pointer (some ⟨d, 0, none⟩)] 24 (0, 0)) rfl)
  have z3 := heap_new (w := w.alloc (.cells #[.pointer (some ⟨d, 0, none⟩)] 24)) (o := .cells #[.string key] 9 (0, 0)) (n := w.heap.size + 1) (by simp)
  have HP := Lib.hid hp0
  have HM := Lib.hid (h.pure hp0)
  have HZ := Lib.hid (dzero_ok (h.pure hp0))
  have HSum := Lib.hid (fun W => HSum_ok seed same h.sd key hkey W)
  have hb := (h.pure hp0).box
  have HKE := Lib.hid hk
  have hsl : sumS seed same key < 18446744073709551616 := mixM_lt
  clear h hk hp0
  go_enter Tryz.func42, Tryz.ntmps42
  go_upto_region 1 with fail
  generalize ((w.alloc (.cells #[.pointer (some ⟨d, 0, none⟩)] 24)).alloc (.cells #[.string key] 9)) = W1 at *
  obtain ⟨b, hbe⟩ : ∃ b, w.heap.size = b := ⟨_, rfl⟩
  rw [hbe] at z2 z3 ⊢
  have HB := Lib.hid hbe
  clear hbe
  have HSame := Lib.hid (fun (W : World) (hW : Pure W1 W) => (⟨enters_of Tryz.func100 (by kernel_rfl) rfl, fun pre s W' hs hJ => by
      have := (callsIn_wide (n := 0)).2 (dfind1_ok (HM.out.pure hJ) (hJ.heap (fun h => h) z2) (hJ.heap (fun h => h) z3) s hs)
      exact this.mono (fun e w' ⟨h1, h2⟩ => ⟨h1, hJ.trans h2, ModC.of_pure h2⟩), fun pre A B hJ hm => hJ.then hm (fun i hi hs => by have := hs.1; have := hW.size; omega), fun _ h => h.elim, hW⟩ :
    SameOk Tryz.prog 100 #[.pointer (some ⟨b, 0, none⟩), .pointer (some ⟨b + 1, 0, none⟩)] (fun _ s => keyL L s == key) (fun _ => False) (fun _ W' => Pure W1 W') W))
  have HF := Lib.hid (fun (W : World) (hW : Pure W1 W) => IFind_ok (HM.out.ix.pure hW) _ hsl (HSame.out W hW))
  obtain ⟨hh, hhe⟩ : ∃ hh, sumS seed same key = hh := ⟨_, rfl⟩
  rw [hhe] at HF HSum hsl
  have HHE := Lib.hid hhe
  clear hhe HSame
  have hb_0 := cell_of_row _ _ 0 _ _ _ hb; have hb_1 := cell_of_row _ _ 1 _ _ _ hb; have hb_2 := cell_of_row _ _ 2 _ _ _ hb; have hb_3 := cell_of_row _ _ 3 _ _ _ hb; have hb_f := (fun j => frozen_of_row _ _ j _ _ hb); have hb_l := lt_of_block hb; simp at hb_0 hb_1 hb_2 hb_3; have H_hb := Lib.hid hb; clear hb
  have z2_0 := cell_of_row _ _ 0 _ _ _ z2; have z2_f := (fun j => frozen_of_row _ _ j _ _ z2); have z2_l := lt_of_block z2; simp at z2_0; have H_z2 := Lib.hid z2; clear z2
  have z3_0 := cell_of_row _ _ 0 _ _ _ z3; have z3_f := (fun j => frozen_of_row _ _ j _ _ z3); have z3_l := lt_of_block z3; simp at z3_0; have H_z3 := Lib.hid z3; clear z3
  go_upto_region 3 with (go_at_call 48; refine Calls.mono HZ.out ?_; rintro e w' ⟨rfl, rfl⟩)
  go_region_held3 (fun w' => w'.cell? ⟨d, 3, none⟩ = some (.pointer (some ⟨p, 0, none⟩)) ∧ w'.cell? ⟨d, 1, none⟩ = some (.int .u64 seed) ∧ w'.cell? ⟨d, 2, none⟩ = some (.bool same) ∧ w'.cell? ⟨b, 0, none⟩ = some (.pointer (some ⟨d, 0, none⟩)) ∧ w'.cell? ⟨b + 1, 0, none⟩ = some (.string key))
    (first | exact ⟨hb_3, hb_1, hb_2, z2_0, z3_0⟩ | exact ⟨hp1.cell (fun h => h) hb_3, hp1.cell (fun h => h) hb_1, hp1.cell (fun h => h) hb_2, hp1.cell (fun h => h) z2_0, hp1.cell (fun h => h) z3_0⟩ | exact ⟨(hp1.trans hp2).cell (fun h => h) hb_3, (hp1.trans hp2).cell (fun h => h) hb_1, (hp1.trans hp2).cell (fun h => h) hb_2, (hp1.trans hp2).cell (fun h => h) z2_0, (hp1.trans hp2).cell (fun h => h) z3_0⟩)
    (first
      | (go_at_call 99; refine Calls.mono (HSum.out _) ?_; rintro e w1 ⟨rfl, hp1⟩)
      | (go_at_call 98; refine Calls.mono (HF.out _ (by (repeat' (first | (with_reducible exact Mod.refl _ _) | (with_reducible refine Mod.alloc ?_ _) | (with_reducible refine Mod.drew ?_) | (with_reducible refine Mod.drewN ?_ _) | (with_reducible refine Mod.setCell ?_ ?_ _) | (refine Mod.then ?_ (by with_reducible assumption) ?_))) <;> (all_goals (intros; first | (exfalso; assumption) | omega | (simp at *; done) | (simp at *; omega))))) ?_; rintro e w2 hq; have he := HKE.out.find (by rw [HHE.out]; exact hq); have hp2 : Pure w1 w2 := Mod.mono hq.1 (fun k _ ⟨_, _, _, _, hf⟩ => hf); have he2 : e = .returned (.tuple #[.int .u32 ((findV L key).1 : Nat), .int .i64 ((findV L key).2 : Nat)]) := (by rw [he]; unfold findV; cases findK L key <;> rfl); clear hq he; subst he2))
  go_wp2
  all_goals
    go_ret2
    exact ⟨rfl, HP.out.trans ((Mod.of_drew hp1).trans hp2)⟩

/-! ### a dictionary -/
def DictAt (w : World) (D : Nat → Prop) (d seed : Nat) (same : Bool) (L : List (Option Ent)) (Gs : List Grp) : Prop :=
  ∃ q p sv Dl, DictMem w d q p sv Dl seed same L Gs ∧ Keeps seed same L Gs ∧ ∀ k, D k ↔ dictD d Dl p sv k
section
variable {w w' : World} {D S : Nat → Prop} {d seed : Nat} {same : Bool} {L : List (Option Ent)} {Gs : List Grp}
theorem DictAt.pure (h : DictAt w D d seed same L Gs) (hp : Pure w w') : DictAt w' D d seed same L Gs := by
  obtain ⟨q, p, sv, Dl, h1, h2, h3⟩ := h
  exact ⟨q, p, sv, Dl, h1.pure hp, h2, h3⟩
theorem DictAt.lt (h : DictAt w D d seed same L Gs) {k : Nat} (hk : D k) : k < w.heap.size := by
  obtain ⟨q, p, sv, Dl, h1, h2, h3⟩ := h
  exact h1.lt ((h3 k).1 hk)
theorem DictAt.types (h : DictAt w D d seed same L Gs) {k : Nat} (hk : D k) {cs : Array Value} {T : TypeId} {fz : Nat × Nat} (e : w.heap[k]? = some (.cells cs T fz)) :
    T = 107 ∨ T = 131 ∨ T = 42 ∨ T = 164 ∨ T = 168 := by
  obtain ⟨q, p, sv, Dl, h1, h2, h3⟩ := h
  exact h1.types ((h3 k).1 hk) e
theorem DictAt.frame (h : DictAt w D d seed same L Gs) (hm : Mod S w w') (hD : ∀ k, D k → ¬ S k) (hS : ∀ k, k < w.heap.size → S k → ∀ cs fz, w.heap[k]? ≠ some (.cells cs 5 fz)) : DictAt w' D d seed same L Gs := by
  obtain ⟨q, p, sv, Dl, h1, h2, h3⟩ := h
  exact ⟨q, p, sv, Dl, h1.frame hm (fun k hk => hD k ((h3 k).2 hk)) hS, h2, h3⟩
theorem DictAt.sd (h : DictAt w D d seed same L Gs) : seed < 18446744073709551616 := by
  obtain ⟨q, p, sv, Dl, h1, h2, h3⟩ := h
  exact h1.sd
theorem DictAt.ok (h : DictAt w D d seed same L Gs) : LogOk L := by
  obtain ⟨q, p, sv, Dl, h1, h2, h3⟩ := h
  exact h1.log.ok
theorem DictAt.keeps (h : DictAt w D d seed same L Gs) : Keeps seed same L Gs := by
  obtain ⟨q, p, sv, Dl, h1, h2, h3⟩ := h
  exact h2
theorem Find_any (h : DictAt w D d seed same L Gs) (key : ByteArray) (hkey : key.size ≤ 140737488355328) : Calls Tryz.prog 42 #[dPtr d, .string key] w (dfindPost w L key) := by
  obtain ⟨q, p, sv, Dl, h1, h2, h3⟩ := h
  exact dfind_ok h1 h2 key hkey

/-! ### New -/
def dnewPost (w : World) (seed : Nat) (same : Bool) (e : Ending) (w' : World) : Prop :=
  ∃ d D, e = .returned (dPtr d) ∧ DictAt w' D d seed same [] (newG 1) ∧ Pure w w' ∧ ∀ k, D k → w.heap.size ≤ k
set_option maxHeartbeats 1000000 in
theorem dnew_ok (seed : Nat) (same : Bool) (hs : seed < 18446744073709551616) (w : World) : Calls Tryz.prog 8 #[.agg #[.int .u64 seed, .bool same]] w (dnewPost w seed same) := by
  have hp0 : Pure w (w.alloc (.cells #[.int .u64 seed, .bool same] 27)) := (Mod.refl _ w).alloc _
  have z1 := heap_new (w := w) (o := .cells #[.int .u64 seed, .bool same] 27 (0, 0)) rfl
  have HN := Lib.hid (fun W => New_ok 1 W ⟨0, by decide, rfl⟩)
  have HL := Lib.hid (fun W => newA_ok W)
  have HP := Lib.hid hp0
  clear hp0
  go_enter Tryz.func8, Tryz.ntmps8
  go_upto_region 1 with fail
  generalize w.alloc (.cells #[.int .u64 seed, .bool same] 27) = W1 at *
  obtain ⟨b, hbe⟩ : ∃ b, w.heap.size = b := ⟨_, rfl⟩
  rw [hbe] at z1 ⊢
  have HB := Lib.hid hbe
  clear hbe
  go_upto_region 2 with (go_at_call 46; refine Calls.mono (HN.out _) ?_; rintro e w2 ⟨p, sv, rfl, hix, hp2, hl2, hs2⟩)
  have zz1 := hp2.heap (fun h => h) z1
  have HIX := Lib.hid hix
  clear hix
  have zz1_0 := cell_of_row _ _ 0 _ _ _ zz1; have zz1_1 := cell_of_row _ _ 1 _ _ _ zz1; have zz1_f := (fun j => frozen_of_row _ _ j _ _ zz1); have zz1_l := lt_of_block zz1; simp at zz1_0 zz1_1; have H_zz1 := Lib.hid zz1; clear zz1
  go_region_held3 (fun w' => w'.cell? ⟨b, 0, none⟩ = some (.int .u64 seed) ∧ w'.cell? ⟨b, 1, none⟩ = some (.bool same))
    (first | exact ⟨zz1_0, zz1_1⟩ | exact ⟨hp3.cell (fun h => h) zz1_0, hp3.cell (fun h => h) zz1_1⟩ | exact ⟨(hp3.alloc _).cell (fun h => h) zz1_0, (hp3.alloc _).cell (fun h => h) zz1_1⟩)
    (first
      | (go_at_call 21; refine Calls.mono (HL.out _) ?_; rintro e w3 ⟨rfl, hlog, hp3, hlt3⟩; dsimp only [logPtr] at *))
  go_wp2
  go_ret
  have hp3' : Pure w2 w3 := Mod.of_drew hp3
  have hq := heap_new (w := w3) (o := .cells #[.pointer (some ⟨w2.heap.size, 0, none⟩), .int .u64 seed, .bool same, .pointer (some ⟨p, 0, none⟩)] 107 (0, 0)) rfl
  have hpq : Pure w3 (w3.alloc (.cells #[.pointer (some ⟨w2.heap.size, 0, none⟩), .int .u64 seed, .bool same, .pointer (some ⟨p, 0, none⟩)] 107)) := (Mod.refl _ w3).alloc _
  have hw : w.heap.size ≤ W1.heap.size := HP.out.size
  have hw2 : W1.heap.size ≤ w2.heap.size := hp2.size
  have hw3 : w2.heap.size ≤ w3.heap.size := hp3'.size
  refine ⟨w3.heap.size, dictD w3.heap.size (fun k => k = w2.heap.size) p sv, rfl, ⟨w2.heap.size, p, sv, fun k => k = w2.heap.size, ⟨hq, hlog.pure hpq, HIX.out.pure (hp3'.trans hpq), hs⟩, Keeps.new seed same, fun _ => Iff.rfl⟩, (HP.out.trans hp2).trans (hp3'.trans hpq), ?_⟩
  rintro k (rfl | rfl | rfl | e)
  · omega
  · omega
  · omega
  · have := hs2 k e; omega
end
end
end Go.Proofs.YtapplindfijngaaGreat
