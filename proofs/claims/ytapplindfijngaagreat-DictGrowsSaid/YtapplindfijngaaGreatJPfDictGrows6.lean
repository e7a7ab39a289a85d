/- Lemmas and contracts of functions, strung together out of 3 texts. No condition. -/
import Derived.Test.YtapplindfijngaaGreatJPfDictGrows5
import Derived.Test.YtapplindfijngaaGreatProg
import Derived.Test.YtapplindfijngaaGreatJPfDictGrows1
import Derived.Handy
/- swiss.Index.Rehash. -/
namespace Go.Proofs.YtapplindfijngaaGreat
open Go.RowKit Go.Shelf
set_option maxRecDepth 100000
attribute [local go_sem] Oper.semAt_some

/-- The lanes of a group that hold a slot number; these, in order. -/
def fullIn (c : Grp) : List Nat := lanesOf (mask (c.1.map (fun x => decide (x < 128))))
def fullS (c : Grp) : List Nat := (fullIn c).map (fun j => c.2.getD j 0)
def insD (H : Nat → Nat) (o : List Grp) (s : Nat) : List Grp := (insM o (H s) s).getD o
def rehM (H : Nat → Nat) (g : Nat) (Gs : List Grp) : List Grp := (Gs.flatMap fullS).foldl (insD H) (newG g)
/-- THE CONTRACT OF THE FUNCTION THAT IS CALLED BACK for the hash of a slot number in S. -/
structure SumOk (P : Program) (gf : Nat) (fb lb : Array Value) (H : Nat → Nat) (S : Nat → Prop) (J : World → Prop) (w : World) : Prop where
  enters : ∀ args w, (callFunc gf args).run P w = .ok (.enter gf args) w
  call : ∀ (s : Nat) W, s ≤ 4294967295 → S s → J W → CallsIn Fence.wide 0 P gf (fb.push (.int .u32 s) ++ lb) W fun e w' => e = .returned (.int .u64 (H s)) ∧ Pure W w'
  lt : ∀ s, H s < 18446744073709551616
  keep : ∀ A B, J A → Mod (fun k => w.heap.size ≤ k) A B → J B
  start : J w
theorem insD_ok {H : Nat → Nat} {o : List Grp} {s : Nat} (h : IxOk o) (hs : s ≤ 4294967295) : IxOk (insD H o s) ∧ (insD H o s).length = o.length := by
  unfold insD
  cases e : insM o (H s) s with
  | none => exact ⟨h, rfl⟩
  | some o' => exact ⟨(ins_counts h hs e).2.2.1, (ins_counts h hs e).2.1⟩
theorem fullS_lt {c : Grp} (h : GrpOk c) : ∀ s ∈ fullS c, s ≤ 4294967295 := by
  intro s hs
  obtain ⟨j, _, rfl⟩ := List.mem_map.1 hs
  exact h.slot j
/-- What is known while Rehash runs. -/
structure RhO (w : World) (D : Nat → Prop) (p : Nat) (sv : Value) (Gs : List Grp) (gf : Nat) (fb lb : Array Value) (J : World → Prop) (b5 b8 p2 : Nat) (sv2 : Value) (o : List Grp) (ls : List Nat) (W : World) : Prop where
  pu : Pure w W
  h5 : W.heap[b5]? = some (.cells #[.func (.func gf) fb lb] 122 (0, 0))
  h8 : W.heap[b8]? = some (.cells #[.pointer (some ⟨p2, 0, none⟩)] 101 (0, 0))
  ix : IxRow W D p sv Gs
  out : IxRow W (fun k => k = p2 ∨ sv2.ownBlock = some k) p2 sv2 o
  j : J W
  mks : ∀ l ∈ ls, W.heap[l]? = some (.deferred (some []))
section
variable {w : World} {D : Nat → Prop} {p : Nat} {sv : Value} {Gs : List Grp} {gf : Nat} {fb lb : Array Value} {H : Nat → Nat} {S : Nat → Prop} {J : World → Prop} {b5 b8 p2 : Nat} {sv2 : Value} {o : List Grp} {ls : List Nat}
theorem RhO.pure (hs : SumOk Tryz.prog gf fb lb H S J w) {A B : World} (h : RhO w D p sv Gs gf fb lb J b5 b8 p2 sv2 o ls A) (hq : Pure A B) : RhO w D p sv Gs gf fb lb J b5 b8 p2 sv2 o ls B :=
  ⟨h.pu.trans hq, hq.heap (fun h => h) h.h5, hq.heap (fun h => h) h.h8, h.ix.pure hq, h.out.pure hq, hs.keep _ _ h.j (Mod.of_pure hq), fun l hl => hq.heap (fun h => h) (h.mks l hl)⟩
theorem RhO.quiet (hs : SumOk Tryz.prog gf fb lb H S J w) {N : Nat} (hN : w.heap.size ≤ N) (hls : ∀ l ∈ ls, l < N) {A B : World} (h : RhO w D p sv Gs gf fb lb J b5 b8 p2 sv2 o ls A) (hq : Quiet N A B) : RhO w D p sv Gs gf fb lb J b5 b8 p2 sv2 o ls B :=
  ⟨hq.mod h.pu hN, hq.cells h.h5, hq.cells h.h8, h.ix.quiet hq, h.out.quiet hq, hs.keep _ _ h.j (Mod.mono hq (fun k _ hk => by have := hk.1; omega)), fun l hl => Mod.heap hq (fun hk => by have := hk.1; have := hls l hl; omega) (h.mks l hl)⟩
end
theorem ins_any {H : Nat → Nat} {w w' : World} {D : Nat → Prop} {p : Nat} {sv : Value} {o : List Grp} {s hh : Nat} {e : Ending} (hh0 : H s = hh) (h : insPost w D p sv o hh s e w') : ∃ z, e = .returned (.int .i64 z) ∧ IxRow w' D p sv (insD H o s) ∧ Mod D w w' := by
  subst hh0
  unfold insPost at h
  unfold insD
  cases hm : insM o (H s) s with
  | none => rw [hm] at h; exact ⟨_, h.1, h.2.1, h.2.2⟩
  | some o' => rw [hm] at h; exact ⟨_, h.1, h.2.1, h.2.2⟩
/-- Between two lanes of a group q. -/
structure RhI (w : World) (D : Nat → Prop) (p : Nat) (sv : Value) (Gs : List Grp) (gf : Nat) (fb lb : Array Value) (J : World → Prop) (b5 b8 p2 : Nat) (sv2 : Value) (o : List Grp) (ls : List Nat) (H : Nat → Nat) (q : Grp) (b11 BL m : Nat) (pre : List Nat) (W : World) : Prop where
  ro : RhO w D p sv Gs gf fb lb J b5 b8 p2 sv2 ((pre.map (fun j => q.2.getD j 0)).foldl (insD H) o) ls W
  bx : W.heap[b11]? = some (.cells #[.int .u64 (word8 q.1 : Nat), .int .u32 (q.2[0]?.getD 0 : Nat), .int .u32 (q.2[1]?.getD 0 : Nat), .int .u32 (q.2[2]?.getD 0 : Nat), .int .u32 (q.2[3]?.getD 0 : Nat), .int .u32 (q.2[4]?.getD 0 : Nat), .int .u32 (q.2[5]?.getD 0 : Nat), .int .u32 (q.2[6]?.getD 0 : Nat), .int .u32 (q.2[7]?.getD 0 : Nat)] 168 (0, 0))
  la : LanesAt W BL m
@[go_sem] theorem eql_sum (w : World) (fn : Fn) (fi ca : Array Value) : (binOp .eql 122 (.func fn fi ca) .nilFunc).run Tryz.prog w = .ok (.bool false) w := by
  simp only [binOp]
  simp [Op.equal, Op.maxDepth, run_equal_func w 9999 _ fn fi ca Tryz.underlying122]
set_option maxHeartbeats 4000000 in
theorem Rehash_ok {w : World} {D : Nat → Prop} {p : Nat} {sv : Value} {Gs : List Grp} (h : IxRow w D p sv Gs) (g : Nat) (hg : Pow g) (hu : usedN Gs ≤ 8 * g) {gf : Nat} {fb lb : Array Value} {H : Nat → Nat} {S : Nat → Prop} {J : World → Prop}
    (hs : SumOk Tryz.prog gf fb lb H S J w) (hS : ∀ s ∈ Gs.flatMap fullS, S s) :
    Calls Tryz.prog 118 #[.pointer (some ⟨p, 0, none⟩), .int .i64 g, .func (.func gf) fb lb] w (fun e w' => ∃ p2 sv2, e = .returned (.tuple #[.pointer (some ⟨p2, 0, none⟩), .int .i64 0]) ∧
      IxRow w' (fun k => k = p2 ∨ sv2.ownBlock = some k) p2 sv2 (rehM H g Gs) ∧ Pure w w' ∧ w.heap.size ≤ p2 ∧ (∀ k, sv2.ownBlock = some k → w.heap.size ≤ k) ∧ IxRow w' D p sv Gs ∧ J w') := by
  have hp : Pure w (w.alloc (.cells #[.func (.func gf) fb lb] 122)) := (Mod.refl _ w).alloc _
  have hb5 := heap_new (w := w) (o := (.cells #[.func (.func gf) fb lb] 122 (0, 0))) rfl
  obtain ⟨B, c, rfl, hc, hB, hDB, hBf, hcells⟩ := h.at
  have zp := hp.heap (fun h => h) h.box
  have hgl := h.ok.pow.le; have hgl1 := h.ok.pow.pos
  have HZ := Lib.hid (fun (W : World) (hW : W.cell? ⟨p, 0, none⟩ = _) => izero_ok (w := W) (c := c) (a := some ⟨B, 0, none⟩) hW h.ok.pow.pos h.ok.pow.le)
  have HN := Lib.hid (fun W => New_ok g W hg)
  have HX := Lib.hid h; have HS := Lib.hid hs; have HSS := Lib.hid hS
  have HP := Lib.hid hp
  clear hcells h hBf hp hs hS
  (refine (callsIn_wide (n := 0)).1 (callsIn_of_wp_marks Tryz.func118 rfl trivial (wpIn_wide.2 ?_) rfl); simp only [Tryz.ntmps118, List.size_toArray, List.length_cons, List.length_nil, Nat.reduceAdd, Nat.reduceSub, Array.replicate_succ, Array.replicate_zero, List.push_toArray, List.append_toArray, List.nil_append, List.cons_append])
  go_upto_region 1 with fail
  generalize w.alloc (.cells #[.func (.func gf) fb lb] 122) = W1 at *
  obtain ⟨b5, hb5e⟩ : ∃ b5, w.heap.size = b5 := ⟨_, rfl⟩
  rw [hb5e] at hb5 ⊢
  have zp_0 := cell_of_row _ _ 0 _ _ _ zp; have zp_1 := cell_of_row _ _ 1 _ _ _ zp; have zp_2 := cell_of_row _ _ 2 _ _ _ zp; have zp_f := (fun j => frozen_of_row _ _ j _ _ zp); have zp_l := lt_of_block zp; simp at zp_0 zp_1 zp_2; have H_zp := Lib.hid zp; clear zp
  go_upto_region 3 with (go_at_call 111; refine Calls.mono (HZ.out _ zp_0) ?_; rintro e w' ⟨rfl, rfl⟩)
  go_upto_region 4 with (go_at_call 46; refine Calls.mono (HN.out _) ?_; rintro e w2 ⟨p2, sv2, rfl, hix2, hp2, hl2, hs2⟩)
  have hp3 : Pure w2 (w2.alloc (.cells #[.pointer (some ⟨p2, 0, none⟩)] 101)) := (Mod.refl _ w2).alloc _
  have z8 := heap_new (w := w2) (o := (.cells #[.pointer (some ⟨p2, 0, none⟩)] 101 (0, 0))) rfl
  have hb8 : w.heap.size ≤ w2.heap.size := Nat.le_trans HP.out.size hp2.size
  have z5 := (hp2.trans hp3).heap (fun h => h) hb5
  have zp2 := (hp2.trans hp3).heap (fun h => h) H_zp.out
  have HO := Lib.hid (RhO.mk (J := J) (ls := []) ((HP.out.trans hp2).trans hp3) z5 z8 (HX.out.pure ((HP.out.trans hp2).trans hp3)) (hix2.pure hp3) (HS.out.keep _ _ HS.out.start (Mod.of_pure ((HP.out.trans hp2).trans hp3))) (by simp))
  have hw1 : w.heap.size ≤ W1.heap.size := HP.out.size
  have hlp2 : w.heap.size ≤ p2 := Nat.le_trans hw1 hl2
  have hls2 : ∀ k, sv2.ownBlock = some k → w.heap.size ≤ k := fun k hk => Nat.le_trans hw1 (hs2 k hk)
  have HL2 := Lib.hid hls2
  clear zp_0 zp_1 zp_2 zp_f zp_l
  clear H_zp HZ HN hix2 hp2 hp3 hb5 hl2 hs2 hls2 HP
  generalize w2.alloc (.cells #[.pointer (some ⟨p2, 0, none⟩)] 101) = W3 at *
  obtain ⟨b8, hb8e⟩ : ∃ b8, w2.heap.size = b8 := ⟨_, rfl⟩
  rw [hb8e] at HO z8 hb8 ⊢
  clear hb8e hw1
  have hgu : g ≤ 1048576 := hg.le
  have w8 : IntKind.i64.wrap ((g : Int) * 8) = (g : Int) * 8 := IntWalk.i64_in _ (by omega)
  have hu' : (usedN Gs : Int) ≤ (g : Int) * 8 := by omega
  have wg : IntKind.i64.wrap (Gs.length : Int) = Gs.length := IntWalk.i64_in _ (by omega)
  have z5_0 := cell_of_row _ _ 0 _ _ _ z5; have z5_f := (fun j => frozen_of_row _ _ j _ _ z5); have z5_l := lt_of_block z5; simp at z5_0; have H_z5 := Lib.hid z5; clear z5
  have z8_0 := cell_of_row _ _ 0 _ _ _ z8; have z8_f := (fun j => frozen_of_row _ _ j _ _ z8); have z8_l := lt_of_block z8; simp at z8_0; have H_z8 := Lib.hid z8; clear z8
  have zp2_0 := cell_of_row _ _ 0 _ _ _ zp2; have zp2_1 := cell_of_row _ _ 1 _ _ _ zp2; have zp2_2 := cell_of_row _ _ 2 _ _ _ zp2; have zp2_f := (fun j => frozen_of_row _ _ j _ _ zp2); have zp2_l := lt_of_block zp2; simp at zp2_0 zp2_1 zp2_2; have H_zp2 := Lib.hid zp2; clear zp2
  go_upto_region 11 with fail
  refine wp_loop (fun a' wr => ∃ (i : Nat) (ls : List Nat) (u11 u12 u41 u42 u43 u44 u45 u46 u47 u48 u49 u50 u51 u52 u53 u54 u55 u56 u57 u58 u59 u60 u61 : Value), i ≤ Gs.length ∧ RhO w D p (.slice (some ⟨B, 0, none⟩) Gs.length c) Gs gf fb lb J b5 b8 p2 sv2 (((Gs.take i).flatMap fullS).foldl (insD H) (newG g)) ls wr ∧ ls.Nodup ∧ (∀ l ∈ ls, w.heap.size ≤ l) ∧ a' = { tmps := #[.pointer (some ⟨p, 0, none⟩), .int .i64 g, .func (.func gf) fb lb, undef, undef, .pointer (some ⟨b5, 0, none⟩), .pointer none, .int .i64 0, .pointer (some ⟨b8, 0, none⟩), .int .i64 0, undef, u11, u12, .pointer (some ⟨p, 0, none⟩), .bool false, .tuple #[.pointer (some ⟨p2, 0, none⟩), .int .i64 0], .int .i64 g, .tuple #[.pointer (some ⟨p2, 0, none⟩), .int .i64 0], .pointer (some ⟨p2, 0, none⟩), .int .i64 0, .bool false, .int .i64 0, .bool false, undef, .bool false, .func (.func gf) fb lb, .bool false, .bool (decide ((g : Int) * 8 < (usedN Gs : Int))), .pointer (some ⟨p, 0, none⟩), .pointer (some ⟨p, 0, none⟩), .pointer (some ⟨p, 1, none⟩), .int .i64 (usedN Gs), .int .i64 g, .int .i64 ((g : Int) * 8), .bool (decide ((g : Int) * 8 < (usedN Gs : Int))), .pointer (some ⟨p, 0, none⟩), .pointer (some ⟨p, 0, none⟩), .pointer (some ⟨p, 0, none⟩), .slice (some ⟨B, 0, none⟩) Gs.length c, .int .i64 Gs.length, .int .i64 (i : Nat), u41, u42, u43, u44, u45, u46, u47, u48, u49, u50, u51, u52, u53, u54, u55, u56, u57, u58, u59, u60, u61, undef], defers := marksOf ls }) (fun a' _ => Gs.length - (intOf (a'.tmps.getD 40 undef)).toNat) ?_ ?_
  · refine ⟨0, [], undef, undef, undef, undef, undef, undef, undef, undef, undef, undef, undef, undef, undef, undef, undef, undef, undef, undef, undef, undef, undef, undef, undef, Nat.zero_le _, ?_, List.nodup_nil, by simp, rfl⟩
    simpa using HO.out
  · rintro a' wr ⟨i, ls, u11, u12, u41, u42, u43, u44, u45, u46, u47, u48, u49, u50, u51, u52, u53, u54, u55, u56, u57, u58, u59, u60, u61, hi, hro, hnd, hlsw, rfl⟩
    have HR := Lib.hid hro; have HND := Lib.hid hnd; have HLW := Lib.hid hlsw
    clear z5_0 z5_f z5_l
    clear z8_0 z8_f z8_l
    clear zp2_0 zp2_1 zp2_2 zp2_f zp2_l
    clear H_z5 H_z8 H_zp2 hro hnd hlsw HO
    by_cases hlt : i < Gs.length
    · have hlt' : (i : Int) < (Gs.length : Int) := by omega
      obtain ⟨B3, c3, hsv3, _, hB3, hDB3, hBf3, hcells3⟩ := HR.out.ix.at
      cases hsv3
      obtain ⟨zg, zsl⟩ := hcells3 i hlt
      have z0 := zsl 0 (by omega); have z1 := zsl 1 (by omega); have z2 := zsl 2 (by omega); have z3 := zsl 3 (by omega); have z4 := zsl 4 (by omega); have z5 := zsl 5 (by omega); have z6 := zsl 6 (by omega); have z7 := zsl 7 (by omega)
      have HG := Lib.hid (HR.out.ix.ok.at hlt)
      clear hcells3 zsl
      obtain ⟨q, hq⟩ : ∃ q, grpAt Gs i = q := ⟨_, rfl⟩
      rw [hq] at zg z0 z1 z2 z3 z4 z5 z6 z7 HG
      have HGG := Lib.hid hq
      clear hq
      go_upto_region 13 with fail
      have hp7 : Pure wr (wr.alloc (.cells #[.int .u64 (word8 q.1 : Nat), .int .u32 (q.2[0]?.getD 0 : Nat), .int .u32 (q.2[1]?.getD 0 : Nat), .int .u32 (q.2[2]?.getD 0 : Nat), .int .u32 (q.2[3]?.getD 0 : Nat), .int .u32 (q.2[4]?.getD 0 : Nat), .int .u32 (q.2[5]?.getD 0 : Nat), .int .u32 (q.2[6]?.getD 0 : Nat), .int .u32 (q.2[7]?.getD 0 : Nat)] 168)) := (Mod.refl _ wr).alloc _
      have h7 := heap_new (w := wr) (o := .cells #[.int .u64 (word8 q.1 : Nat), .int .u32 (q.2[0]?.getD 0 : Nat), .int .u32 (q.2[1]?.getD 0 : Nat), .int .u32 (q.2[2]?.getD 0 : Nat), .int .u32 (q.2[3]?.getD 0 : Nat), .int .u32 (q.2[4]?.getD 0 : Nat), .int .u32 (q.2[5]?.getD 0 : Nat), .int .u32 (q.2[6]?.getD 0 : Nat), .int .u32 (q.2[7]?.getD 0 : Nat)] 168 (0, 0)) rfl
      have HFU := Lib.hid (fun W => Full_ok HG.out.ctl.bytes W)
      obtain ⟨m, hm⟩ : ∃ m, mask (q.1.map (fun x => decide (x < 128))) = m := ⟨_, rfl⟩
      rw [hm] at HFU
      have hml : m < 256 := by rw [← hm]; exact mask_lt (by rw [List.length_map]; exact HG.out.ctl.1)
      have HLA := Lib.hid (fun W => Lanes_ok m W)
      have HM := Lib.hid hm
      have HR7 := Lib.hid (HR.out.pure HS.out hp7)
      have hn11 : ∀ k, (k = p2 ∨ sv2.ownBlock = some k) → k ≠ wr.heap.size := by
        rintro k (rfl | hk) e
        · have := lt_of_block HR.out.out.box; omega
        · obtain ⟨_, e2⟩ := owns_type HR.out.out.row hk
          have := lt_of_block e2; omega
      have HN11 := Lib.hid hn11
      have hlsr : ∀ l ∈ ls, l < wr.heap.size := fun l hl => (Array.getElem?_eq_some_iff.1 (HR.out.mks l hl)).1
      have hs7 : wr.heap.size < (wr.alloc (.cells #[.int .u64 (word8 q.1 : Nat), .int .u32 (q.2[0]?.getD 0 : Nat), .int .u32 (q.2[1]?.getD 0 : Nat), .int .u32 (q.2[2]?.getD 0 : Nat), .int .u32 (q.2[3]?.getD 0 : Nat), .int .u32 (q.2[4]?.getD 0 : Nat), .int .u32 (q.2[5]?.getD 0 : Nat), .int .u32 (q.2[6]?.getD 0 : Nat), .int .u32 (q.2[7]?.getD 0 : Nat)] 168)).heap.size := lt_of_block h7
      have HLSR := Lib.hid hlsr
      clear z0 z1 z2 z3 z4 z5 z6 z7 zg hp7 hm hn11 hlsr hBf3
      generalize wr.alloc (.cells #[.int .u64 (word8 q.1 : Nat), .int .u32 (q.2[0]?.getD 0 : Nat), .int .u32 (q.2[1]?.getD 0 : Nat), .int .u32 (q.2[2]?.getD 0 : Nat), .int .u32 (q.2[3]?.getD 0 : Nat), .int .u32 (q.2[4]?.getD 0 : Nat), .int .u32 (q.2[5]?.getD 0 : Nat), .int .u32 (q.2[6]?.getD 0 : Nat), .int .u32 (q.2[7]?.getD 0 : Nat)] 168) = W7 at *
      obtain ⟨b11, hb11⟩ : ∃ b11, wr.heap.size = b11 := ⟨_, rfl⟩
      rw [hb11] at h7 hs7 HN11 HLSR ⊢
      clear hb11
      have H7 := Lib.hid h7
      have h7_0 := cell_of_row _ _ 0 _ _ _ h7; have h7_1 := cell_of_row _ _ 1 _ _ _ h7; have h7_2 := cell_of_row _ _ 2 _ _ _ h7; have h7_3 := cell_of_row _ _ 3 _ _ _ h7; have h7_4 := cell_of_row _ _ 4 _ _ _ h7; have h7_5 := cell_of_row _ _ 5 _ _ _ h7; have h7_6 := cell_of_row _ _ 6 _ _ _ h7; have h7_7 := cell_of_row _ _ 7 _ _ _ h7; have h7_8 := cell_of_row _ _ 8 _ _ _ h7; have h7_f := (fun j => frozen_of_row _ _ j _ _ h7); have h7_l := lt_of_block h7; simp at h7_0 h7_1 h7_2 h7_3 h7_4 h7_5 h7_6 h7_7 h7_8; have H_h7 := Lib.hid h7; clear h7
      go_wp2_with (first
        | (go_at_call 153; refine Calls.mono (HFU.out _) ?_; rintro e w' ⟨rfl, rfl⟩)
        | (go_at_call 150; refine Calls.mono (HLA.out _) ?_; rintro e w4 ⟨BL, rfl, hla, hp4, hBL⟩))
      have hb11w : b11 < w4.heap.size := Nat.lt_of_lt_of_le hs7 hp4.size
      have hw4 : w.heap.size ≤ w4.heap.size := Nat.le_trans HR7.out.pu.size hp4.size
      have HI0 : Hid (RhI w D p (.slice (some ⟨B, 0, none⟩) Gs.length c) Gs gf fb lb J b5 b8 p2 sv2 (((Gs.take i).flatMap fullS).foldl (insD H) (newG g)) ls H q b11 BL m [] w4) := ⟨HR7.out.pure HS.out hp4, hp4.heap (fun h => h) H_h7.out, hla⟩
      have hBlt : BL < w4.heap.size := lt_of_block hla.set
      have HLA4 := Lib.hid hla
      clear h7_0 h7_1 h7_2 h7_3 h7_4 h7_5 h7_6 h7_7 h7_8 h7_f h7_l
      clear H_h7 H7 hp4 hla HR7 HFU HLA
      refine wpIn_wide.1 (wp_range2 (gf := 167) (lb := #[.pointer (some ⟨BL, 0, none⟩)]) rfl (enters_of Tryz.func167 (by kernel_rfl) rfl) (It := fun k => k = BL) (Lanes_iter HLA4.out hml) (fun k hk => by rw [hk]; exact hBlt) (fun _ => rfl)
        (fun pre W => RhI w D p (.slice (some ⟨B, 0, none⟩) Gs.length c) Gs gf fb lb J b5 b8 p2 sv2 (((Gs.take i).flatMap fullS).foldl (insD H) (newG g)) ls H q b11 BL m pre W) (fun _ _ _ => False) ?hI ?hIx HI0.out ?round ?done ?stop)
      case hI => exact fun pre X Y h hq => ⟨h.ro.quiet HS.out hw4 (fun l hl => by have := HLSR.out l hl; omega) hq, hq.cells h.bx, ⟨hq.cells h.la.set⟩⟩
      case hIx => exact fun _ _ _ _ h _ => h
      case stop => exact fun _ _ _ _ _ h => h.elim
      case done =>
        rintro l xs W hl hSx hI hK
        have hxs : xs = lanesOf m := hSx
        have HIx := Lib.hid hI
        have HKx := Lib.hid hK
        clear hI hK HI0 HLA4
        go_wp2
        refine ⟨⟨i + 1, l :: ls, _, _, _, _, _, _, _, _, _, _, _, _, _, _, _, _, _, _, _, _, _, _, _, hlt, ?_, List.nodup_cons.2 ⟨fun h => ?_, HND.out⟩, fun l' hl' => ?_, rfl⟩, ?_⟩
        · have e1 : (Gs.take (i + 1)).flatMap fullS = (Gs.take i).flatMap fullS ++ fullS q := by
            rw [List.take_add_one, grpAt_some hlt, HGG.out]; simp
          have e2 : fullS q = xs.map (fun j => q.2.getD j 0) := by unfold fullS fullIn; rw [HM.out, hxs]
          rw [e1, List.foldl_append, e2]
          have := HIx.out.ro
          exact ⟨this.pu, this.h5, this.h8, this.ix, this.out, this.j, fun l' hl' => by
            rcases List.mem_cons.1 hl' with rfl | h
            · exact HKx.out
            · exact this.mks l' h⟩
        · have := HLSR.out l h; omega
        · rcases List.mem_cons.1 hl' with rfl | h
          · omega
          · exact HLW.out l' h
        · simp [intOf]; omega
      case round =>
        rintro l pre j W K hI hGx hK
        obtain ⟨post, hpost⟩ := hGx
        dsimp only [encN]
        have hjm : j ∈ fullIn q := by
          unfold fullIn
          rw [HM.out, hpost]
          simp
        have hj8 : j < 8 := by
          have := hjm
          unfold fullIn lanesOf at this
          exact List.mem_range.1 (List.mem_filter.1 this).1
        have HI := Lib.hid hI; have HK := Lib.hid hK; have HJM := Lib.hid hjm
        clear hI hK HI0 HLA4 hpost hjm
        gi_wp2
        refine HK.out _ _ (Mod.refl _ _) (fun l' W2 hl hr hq => ?_)
        have HI2 : Hid (RhI w D p (.slice (some ⟨B, 0, none⟩) Gs.length c) Gs gf fb lb J b5 b8 p2 sv2 (((Gs.take i).flatMap fullS).foldl (insD H) (newG g)) ls H q b11 BL m pre W2) := ⟨HI.out.ro.quiet HS.out hw4 (fun l hl => by have := HLSR.out l hl; omega) hq, hq.cells HI.out.bx, ⟨hq.cells HI.out.la.set⟩⟩
        clear HK HI hq hr
        gi_upto_region 15 with fail
        obtain ⟨sl, hsl⟩ : ∃ sl, q.2.getD j 0 = sl := ⟨_, rfl⟩
        have hsl1 : sl ≤ 4294967295 := by rw [← hsl]; exact HG.out.slot j
        have hsl2 : S sl := by
          refine HSS.out sl (List.mem_flatMap.2 ⟨q, ?_, ?_⟩)
          · rw [← HGG.out]; exact List.mem_of_getElem? (grpAt_some hlt)
          · rw [← hsl]; exact List.mem_map.2 ⟨j, HJM.out, rfl⟩
        have c8 := cell_of_row W2 b8 0 _ _ _ HI2.out.ro.h8
        have c5 := cell_of_row W2 b5 0 _ _ _ HI2.out.ro.h5
        have c11 : W2.cell? ⟨b11, 1 + j, none⟩ = some (.int .u32 sl) := by
          have hv : (#[.int .u64 (word8 q.1 : Nat), .int .u32 (q.2[0]?.getD 0 : Nat), .int .u32 (q.2[1]?.getD 0 : Nat), .int .u32 (q.2[2]?.getD 0 : Nat), .int .u32 (q.2[3]?.getD 0 : Nat), .int .u32 (q.2[4]?.getD 0 : Nat), .int .u32 (q.2[5]?.getD 0 : Nat), .int .u32 (q.2[6]?.getD 0 : Nat), .int .u32 (q.2[7]?.getD 0 : Nat)] : Array Value)[1 + j]? = some (.int .u32 (q.2.getD j 0 : Nat)) := by
            have : j = 0 ∨ j = 1 ∨ j = 2 ∨ j = 3 ∨ j = 4 ∨ j = 5 ∨ j = 6 ∨ j = 7 := by omega
            rcases this with rfl | rfl | rfl | rfl | rfl | rfl | rfl | rfl <;> rfl
          rw [hsl] at hv
          have := World.news_of_block HI2.out.bx (1 + j) (.int .u32 sl) (by rw [Array.getElem?_toList]; exact hv)
          simpa [Addr.add] using this
        simp at c8 c5
        have x0 : (0 : Int) ≤ j := by omega
        have x1 : (j : Int) < 8 := by omega
        refine region_held (fun X => X.cell? ⟨b8, 0, none⟩ = some (.pointer (some ⟨p2, 0, none⟩)) ∧ X.cell? ⟨b5, 0, none⟩ = some (.func (.func gf) fb lb) ∧ X.cell? ⟨b11, 1 + j, none⟩ = some (.int .u32 sl)) (by kernel_rfl) (by kernel_rfl) ?hL ⟨c8, c5, c11⟩ (fun hHeld => ?_)
        case hL => rintro ⟨a, w, h⟩; exact h
        (refine wpAnyH_take (i := 2) (v := ?_) rfl (by kernel_rfl) (by kernel_rfl) (by kernel_rfl) (fun _ _ _ h => h) (Yields.yieldsIf (Or.inl ⟨by rfl, ?_⟩)) hHeld ?_; rotate_left 1; focus (intro w; go_simp; try with_reducible rfl))
        (refine wpAnyH_take (i := 3) (v := ?_) rfl (by kernel_rfl) (by kernel_rfl) (by kernel_rfl) (fun _ _ _ h => h) (Yields.yieldsIf (Or.inl ⟨by rfl, ?_⟩)) hHeld ?_; rotate_left 1; focus (intro w; go_simp; try with_reducible rfl))
        (refine wpAnyH_take (i := 4) (v := ?_) rfl (by kernel_rfl) (by kernel_rfl) (by kernel_rfl) (fun _ _ _ h => h) (Yields.yieldsIf (Or.inl ⟨by rfl, ?_⟩)) hHeld ?_; rotate_left 1; focus (intro w; go_simp; try with_reducible rfl))
        (refine wpAnyH_take (i := 7) (v := ?_) rfl (by kernel_rfl) (by kernel_rfl) (by kernel_rfl) (fun _ _ _ h => h) (Yields.yieldsIf (Or.inl ⟨by rfl, ?_⟩)) hHeld ?_; rotate_left 1; focus (intro w; go_simp; try with_reducible rfl))
        (refine wpAnyH_take (i := 8) (v := ?_) rfl (by kernel_rfl) (by kernel_rfl) (by kernel_rfl) (fun _ _ _ h => h) (Yields.yieldsIf (Or.inl ⟨by rfl, ?_⟩)) hHeld ?_; rotate_left 1; focus (intro w; go_simp; try with_reducible rfl))
        (refine wpAnyH_take (i := 9) (v := ?_) rfl (by kernel_rfl) (by kernel_rfl) (by kernel_rfl) (fun _ _ _ h => h) (Yields.yieldsIf (Or.inl ⟨by rfl, ?_⟩)) hHeld ?_; rotate_left 1; focus (intro w; go_simp; try with_reducible rfl))
        (refine wpAnyH_take (i := 0) (v := ?_) rfl (by kernel_rfl) (by kernel_rfl) (by kernel_rfl) (fun _ _ _ h => h) (Or.inl ⟨by rfl, ?_⟩) hHeld ?_; rotate_left 1; focus (intro w hS; obtain ⟨s8, s5, s11⟩ := hS; go_simp; try with_reducible rfl))
        (refine wpAnyH_take (i := 1) (v := ?_) rfl (by kernel_rfl) (by kernel_rfl) (by kernel_rfl) (fun _ _ _ h => h) (Or.inl ⟨by rfl, ?_⟩) hHeld ?_; rotate_left 1; focus (intro w hS; obtain ⟨s8, s5, s11⟩ := hS; go_simp; try with_reducible rfl))
        (refine wpAnyH_take (i := 5) (v := ?_) rfl (by kernel_rfl) (by kernel_rfl) (by kernel_rfl) (fun _ _ _ h => h) (Or.inl ⟨by rfl, ?_⟩) hHeld ?_; rotate_left 1; focus (intro w hS; obtain ⟨s8, s5, s11⟩ := hS; go_simp; try with_reducible rfl))
        (refine wpAnyH_take (i := 10) (v := ?_) rfl (by kernel_rfl) (by kernel_rfl) (by kernel_rfl) (fun _ _ _ h => h) (Or.inl ⟨by rfl, ?_⟩) hHeld ?_; rotate_left 1; focus (intro w hS; obtain ⟨s8, s5, s11⟩ := hS; go_simp; try with_reducible rfl))
        have hen := HS.out.enters
        have hcall := Lib.hid (callsIn_wide.1 (HS.out.call sl W2.drew hsl1 hsl2 (HS.out.keep _ _ HI2.out.ro.j (Mod.drew (Mod.refl _ W2)))))
        obtain ⟨hh, hhe⟩ : ∃ hh, H sl = hh := ⟨_, rfl⟩
        have hhl : hh < 18446744073709551616 := by rw [← hhe]; exact HS.out.lt sl
        rw [hhe] at hcall
        (refine wpAnyH_ready (rs := [6]) (by kernel_rfl) (by simp) ?_; refine AllReadyH.cons rfl (fun K hK => ?_) AllReadyH.nil; go_simp; refine Calls.mono hcall.out ?_; rintro e X1 ⟨rfl, hp1⟩; refine hK.out _ _ ?_ (fun hHeld => ?_); (· exact ⟨hp1.cell (fun h => h) c8, hp1.cell (fun h => h) c5, hp1.cell (fun h => h) c11⟩); clear hK K)
        have hpx : Pure W2 X1 := Mod.of_drew hp1
        have hrx := HI2.out.ro.pure HS.out hpx
        have HIN := Lib.hid (Insert_ok hrx.out hh sl hhl hsl1)
        have d2 : ∀ k cs T, W2.heap[k]? = some (.cells cs T (0, 0)) → T ≠ 164 → T ≠ 168 → ¬ (k = p2 ∨ sv2.ownBlock = some k) := by
          rintro k cs T hk t1 t2 (rfl | e)
          · have := HI2.out.ro.out.box; rw [hk] at this; cases this; exact t1 rfl
          · obtain ⟨cc, e2⟩ := owns_type HI2.out.ro.out.row e
            rw [hk] at e2; cases e2; exact t2 rfl
        have n8 := d2 _ _ _ HI2.out.ro.h8 (by decide) (by decide)
        have n5 := d2 _ _ _ HI2.out.ro.h5 (by decide) (by decide)
        have nL := d2 _ _ _ HI2.out.la.set (by decide) (by decide)
        have n11 : ¬ (b11 = p2 ∨ sv2.ownBlock = some b11) := fun e => HN11.out b11 e rfl
        have HD2 := Lib.hid d2; have HRX := Lib.hid hrx; have HPX := Lib.hid hpx
        clear d2 hrx hpx
        (refine wpAnyH_ready (rs := [11]) (by kernel_rfl) (by simp) ?_; refine AllReadyH.cons rfl (fun K hK => ?_) AllReadyH.nil; go_simp; refine Calls.mono HIN.out ?_; rintro e X2 hq; obtain ⟨z, rfl, hix2, hm2⟩ := ins_any (H := H) hhe hq; clear hq; refine hK.out _ _ ?_ (fun hHeld => ?_); (· exact ⟨hm2.cell n8 (hp1.cell (fun h => h) c8), hm2.cell n5 (hp1.cell (fun h => h) c5), hm2.cell n11 (hp1.cell (fun h => h) c11)⟩); clear hK K)
        refine wpAnyH_done (by kernel_rfl) ?_ _
        have hm02 : Mod (fun k => k = p2 ∨ sv2.ownBlock = some k) W2 X2 := (Mod.of_pure HPX.out : Mod (fun k => k = p2 ∨ sv2.ownBlock = some k) W2 X1).trans hm2
        refine ⟨KeepsRec.of_mod hm02 (fun k _ hk o ho => ?_), ⟨hm02.size, ?_⟩, ?_⟩
        · rcases hk with rfl | e
          · rw [HI2.out.ro.out.box] at ho; cases ho; rfl
          · obtain ⟨cc, e2⟩ := owns_type HI2.out.ro.out.row e
            rw [e2] at ho; cases ho; rfl
        · rintro k rfl hk
          exact hm02.block _ hk nL
        · have hd2w : ∀ k, (k = p2 ∨ sv2.ownBlock = some k) → w.heap.size ≤ k := by
            rintro k (rfl | e)
            · exact hlp2
            · exact HL2.out k e
          have hDw : ∀ k, D k → k < w.heap.size := by
            intro k hk
            rcases (HX.out.dd k).1 hk with rfl | e
            · exact lt_of_block HX.out.box
            · obtain ⟨cc, e2⟩ := owns_type HX.out.row e
              exact lt_of_block e2
          refine ⟨⟨HI2.out.ro.pu.then hm02 (fun k hk hd => by have := hd2w k hd; omega), hm02.heap n5 HI2.out.ro.h5, hm02.heap n8 HI2.out.ro.h8, HI2.out.ro.ix.mod hm02 (fun k hk hd => by have := hd2w k hd; have := hDw k hk; omega), ?_, HS.out.keep _ _ HI2.out.ro.j (Mod.mono hm02 (fun k _ hd => hd2w k hd)), fun l hl => hm02.heap ?_ (HI2.out.ro.mks l hl)⟩, hm02.heap n11 HI2.out.bx, ⟨hm02.heap nL HI2.out.la.set⟩⟩
          · rw [List.map_append, List.foldl_append, List.map_cons, hsl]
            exact hix2
          · rintro (e | e)
            · have := HI2.out.ro.mks l hl; rw [e, HI2.out.ro.out.box] at this; cases this
            · obtain ⟨cc, e2⟩ := owns_type HI2.out.ro.out.row e
              have := HI2.out.ro.mks l hl; rw [e2] at this; cases this
    · have hlt' : (Gs.length : Int) ≤ (i : Int) := by omega
      have e : Gs.length = i := by omega
      subst e
      have z8 := HR.out.h8
      have z8_0 := cell_of_row _ _ 0 _ _ _ z8; have z8_f := (fun j => frozen_of_row _ _ j _ _ z8); have z8_l := lt_of_block z8; simp at z8_0; have H_z8 := Lib.hid z8; clear z8
      go_wp2
      refine bodyPostM_marks (N := w.heap.size) (v := .tuple #[.pointer (some ⟨p2, 0, none⟩), .int .i64 0]) HR.out.mks HND.out HLW.out (fun W' => by simp [results, Tryz.results118, go_sem]) (fun W' hq => ?_)
      have hf : (Gs.take Gs.length) = Gs := List.take_length
      have hout := HR.out.out
      rw [hf] at hout
      exact ⟨p2, sv2, rfl, hout.quiet hq, hq.mod HR.out.pu (Nat.le_refl _), hlp2, HL2.out, HR.out.ix.quiet hq, HS.out.keep _ _ HR.out.j (Mod.mono hq (fun k _ hk => hk.1))⟩
end Go.Proofs.YtapplindfijngaaGreat

/- Plain: a rehash keeps what is held. -/
namespace Go.Proofs.YtapplindfijngaaGreat
open Go.RowKit Go.Shelf

theorem lanes_count8 : ∀ a b c d e f g i : Bool, (lanesOf (mask [a, b, c, d, e, f, g, i])).length = [a, b, c, d, e, f, g, i].countP id := by decide +kernel
theorem fullIn_length {c : Grp} (h : GrpOk c) : (fullIn c).length = c.1.countP (· < 128) := by
  obtain ⟨x0, x1, x2, x3, x4, x5, x6, x7, e⟩ := eight_of h.ctl.1
  unfold fullIn
  rw [e]
  simp only [List.map_cons, List.map_nil]
  rw [lanes_count8]
  simp only [List.countP_cons, List.countP_nil, id]
theorem fulls_length {Gs : List Grp} (h : IxOk Gs) : (Gs.flatMap fullS).length = usedN Gs := by
  unfold usedN
  rw [List.length_flatMap]
  congr 1
  refine List.map_congr_left (fun c hc => ?_)
  unfold fullS
  rw [List.length_map, fullIn_length (h.grp c hc)]
theorem fullIn_mem {c : Grp} (hc : GrpOk c) (j : Nat) : j ∈ fullIn c ↔ j < 8 ∧ ∃ t, c.1[j]? = some t ∧ t < 128 := by
  unfold fullIn
  rw [lanes_mask (by simp [hc.ctl.1])]
  simp only [List.mem_filter, List.mem_range, List.getD_eq_getElem?_getD, List.getElem?_map]
  cases c.1[j]? <;> simp
theorem fullIn_lt (c : Grp) : (fullIn c).Pairwise (· < ·) := by
  unfold fullIn lanesOf
  exact List.Pairwise.filter _ List.pairwise_lt_range
theorem full_mem {Gs : List Grp} (h : IxOk Gs) (s : Nat) : s ∈ Gs.flatMap fullS ↔ ∃ i j t, FullAt Gs i j t s := by
  have hin : ∀ c, GrpOk c → ∀ j, j ∈ fullIn c ↔ j < 8 ∧ ∃ t, c.1[j]? = some t ∧ t < 128 := fun c hc j => by
    unfold fullIn
    rw [lanes_mask (by simp [hc.ctl.1])]
    simp only [List.mem_filter, List.mem_range, List.getD_eq_getElem?_getD, List.getElem?_map]
    cases c.1[j]? <;> simp
  constructor
  · intro hs
    obtain ⟨c, hc, hs⟩ := List.mem_flatMap.1 hs
    obtain ⟨j, hj, rfl⟩ := List.mem_map.1 hs
    obtain ⟨i, hi⟩ := List.getElem?_of_mem hc
    have hl : i < Gs.length := (List.getElem?_eq_some_iff.1 hi).1
    have e : grpAt Gs i = c := by have := grpAt_some hl; rw [hi] at this; cases this; rfl
    obtain ⟨hj8, t, ht, ht2⟩ := (hin c (h.grp c hc) j).1 hj
    exact ⟨i, j, t, hl, hj8, by rw [e]; exact ht, ht2, by unfold slotAt; rw [e]⟩
  · rintro ⟨i, j, t, hf⟩
    refine List.mem_flatMap.2 ⟨grpAt Gs i, List.mem_of_getElem? (grpAt_some hf.hi), List.mem_map.2 ⟨j, (hin _ (h.at hf.hi) j).2 ⟨hf.hj, t, hf.tag, hf.full⟩, hf.slot⟩⟩
theorem full_at {Gs : List Grp} {i : Nat} (h : IxOk Gs) (hi : i < Gs.length) {j : Nat} (hj : j ∈ fullIn (grpAt Gs i)) : ∃ t, FullAt Gs i j t ((grpAt Gs i).2.getD j 0) := by
  obtain ⟨h8, t, ht, ht2⟩ := (fullIn_mem (h.at hi) j).1 hj
  exact ⟨t, hi, h8, ht, ht2, rfl⟩
theorem Holds.nodup {H : Nat → Nat} {S : Nat → Prop} {Gs : List Grp} (h : Holds H S Gs) : (Gs.flatMap fullS).Nodup := by
  unfold List.Nodup
  rw [List.pairwise_flatMap]
  constructor
  · intro c hc
    obtain ⟨i, hi⟩ := List.getElem?_of_mem hc
    have hl : i < Gs.length := (List.getElem?_eq_some_iff.1 hi).1
    have e : grpAt Gs i = c := by have := grpAt_some hl; rw [hi] at this; cases this; rfl
    unfold fullS
    rw [List.pairwise_map]
    refine (fullIn_lt c).imp_of_mem (fun {a b} ha hb hab => ?_)
    intro e2
    rw [← e] at ha hb e2
    obtain ⟨t1, h1⟩ := full_at h.ok hl ha
    obtain ⟨t2, h2⟩ := full_at h.ok hl hb
    have := (h.uniq _ _ _ _ _ _ _ h1 (e2 ▸ h2)).2
    omega
  · rw [List.pairwise_iff_getElem]
    intro i j hi hj hij x hx y hy e
    have ei : grpAt Gs i = Gs[i] := by have := grpAt_some hi; rw [List.getElem?_eq_getElem hi] at this; exact (Option.some.inj this).symm
    have ej : grpAt Gs j = Gs[j] := by have := grpAt_some hj; rw [List.getElem?_eq_getElem hj] at this; exact (Option.some.inj this).symm
    obtain ⟨a, ha, rfl⟩ := List.mem_map.1 hx
    obtain ⟨b, hb, rfl⟩ := List.mem_map.1 hy
    rw [← ei] at ha e
    rw [← ej] at hb e
    obtain ⟨t1, h1⟩ := full_at h.ok hi ha
    obtain ⟨t2, h2⟩ := full_at h.ok hj hb
    have := (h.uniq _ _ _ _ _ _ _ h1 (e ▸ h2)).1
    omega
theorem ins_list {H : Nat → Nat} : ∀ (L : List Nat) (o : List Grp) (S : Nat → Prop), Holds H S o → (∀ s ∈ L, s ≤ 4294967295 ∧ ¬ S s) → L.Nodup → usedN o + L.length ≤ 8 * o.length →
    Holds H (fun s => S s ∨ s ∈ L) (L.foldl (insD H) o) ∧ usedN (L.foldl (insD H) o) = usedN o + L.length ∧ (L.foldl (insD H) o).length = o.length ∧ tombN (L.foldl (insD H) o) ≤ tombN o
  | [], o, S, h, _, _, _ => ⟨h.of_iff (by simp), rfl, rfl, Nat.le_refl _⟩
  | s :: L, o, S, h, hs, hn, hr => by
    obtain ⟨hs1, hs2⟩ := hs s (by simp)
    obtain ⟨o', ho⟩ : ∃ o', insM o (H s) s = some o' := by
      cases hc : insM o (H s) s with
      | some o' => exact ⟨o', rfl⟩
      | none =>
        have := (ins_none h.ok _ _).1 hc
        simp only [List.length_cons] at hr
        omega
    have e : insD H o s = o' := by unfold insD; rw [ho]; rfl
    obtain ⟨c1, c2, c3, c4⟩ := ins_counts h.ok hs1 ho
    have hi := h.ins hs1 hs2 ho
    simp only [List.foldl_cons, e]
    simp only [List.length_cons] at hr ⊢
    obtain ⟨k1, k2, k3, k4⟩ := ins_list L o' _ hi (fun x hx => ⟨(hs x (by simp [hx])).1, fun hx2 => by
      rcases hx2 with rfl | hx2
      · exact (List.nodup_cons.1 hn).1 hx
      · exact (hs x (by simp [hx])).2 hx2⟩) (List.nodup_cons.1 hn).2 (by omega)
    refine ⟨k1.of_iff (fun x => ?_), by omega, by omega, by omega⟩
    simp only [List.mem_cons]
    constructor
    · rintro ((h | h) | h)
      · exact .inr (.inl h)
      · exact .inl h
      · exact .inr (.inr h)
    · rintro (h | h | h)
      · exact .inl (.inr h)
      · exact .inl (.inl h)
      · exact .inr h
theorem Holds.rehash {H : Nat → Nat} {S : Nat → Prop} {Gs : List Grp} (h : Holds H S Gs) {g : Nat} (hg : Pow g) (hu : usedN Gs ≤ 8 * g) :
    Holds H S (rehM H g Gs) ∧ usedN (rehM H g Gs) = usedN Gs ∧ (rehM H g Gs).length = g ∧ tombN (rehM H g Gs) = 0 := by
  have hm : ∀ s, s ∈ Gs.flatMap fullS ↔ S s := fun s => (full_mem h.ok s).trans (h.mem s).symm
  have hlt : ∀ s ∈ Gs.flatMap fullS, s ≤ 4294967295 := by
    intro s hs
    obtain ⟨c, hc, hs⟩ := List.mem_flatMap.1 hs
    exact fullS_lt (h.ok.grp c hc) s hs
  obtain ⟨k1, k2, k3, k4⟩ := ins_list (Gs.flatMap fullS) (newG g) (fun _ => False) (newG_holds H hg) (fun s hs => ⟨hlt s hs, fun h => h⟩) h.nodup (by rw [fulls_length h.ok, newG_used, newG_length]; omega)
  unfold rehM
  rw [newG_used, fulls_length h.ok] at k2
  rw [newG_length] at k3
  rw [newG_tomb] at k4
  exact ⟨k1.of_iff (fun s => by simp [hm]), by omega, k3, by omega⟩
theorem countB_set (t : Bool) : ∀ (l : List Bool) (j : Nat) (a : Bool), l[j]? = some a → (l.set j t).countP id + a.toNat = l.countP id + t.toNat
  | [], _, _, h => by simp at h
  | b :: l, 0, a, h => by
    simp at h; subst h
    simp only [List.set_cons_zero, List.countP_cons]
    cases b <;> cases t <;> simp
  | b :: l, j + 1, a, h => by
    have := countB_set t l j a (by simpa using h)
    simp only [List.set_cons_succ, List.countP_cons]
    omega
end Go.Proofs.YtapplindfijngaaGreat

/- entry.ValidKey, check, Copy, New and bytes.Clone. Conditions: the bytes are read as cells (ReadAt). -/
namespace Go.Proofs.YtapplindfijngaaGreat
open Go.RowKit
set_option maxRecDepth 100000

theorem info_u8 : (Tryz.prog.info? 5).map (fun i => (i.zero, i.size, i.bytes)) = some (some (.int .u8 0), 1, 1) := by kernel_rfl
@[go_sem] theorem eql_nil_bytes (w : World) (a : Option Addr) (n c : Nat) : (binOp .eql 33 (.slice a n c) (.slice none 0 0)).run Tryz.prog w = .ok (.bool a.isNone) w :=
  Lib.run_eql_slice_nil w _ _ a n c 0 0 Tryz.underlying33

/-- A post that the walk does not open. -/
def Fresh (w : World) (v : Value) : Prop := ∀ g, v.ownBlock = some g → w.heap.size ≤ g
/-- v is a slice of bytes of its own. -/
def BytesAt (w : World) (v : Value) (xs : List Value) : Prop := w.ownsRow 0 5 1 v xs.length xs

/-! ### bytes.Clone -/
theorem bytesAt_of {w : World} {v : Value} {n : Nat} {xs : List Value} (h : w.ownsRow 0 5 1 v n xs) : BytesAt w v xs := by
  have := h.1
  rw [Nat.mul_one] at this
  unfold BytesAt
  rw [this]
  exact h
theorem BytesAt.read {w : World} {v : Value} {xs : List Value} (h : BytesAt w v xs) (h1 : ∀ u ∈ xs, u.oneCell' = true) : ReadAt w v 1 xs := ReadAt.of_owns h h1
def clonePost (T k : Nat) (xs : List Value) (w : World) (e : Ending) (w' : World) : Prop :=
  ∃ a n c, e = .returned (.slice a n c) ∧ w'.ownsRow 0 T k (.slice a n c) n xs ∧ Fresh w (.slice a n c) ∧ Pure w w'

theorem clone_none (k : Nat) (xs : List Value) (w : World) (n c : Nat) (h : ReadAt w (.slice none n c) k xs) : xs = [] := by
  obtain ⟨a', n', c', he, hl, _, h0, _⟩ := h
  cases he
  exact List.eq_nil_of_length_eq_zero (by rw [hl, h0 rfl, Nat.zero_mul])

theorem owns_empty (w : World) (T k : Nat) : (w.alloc (.cells #[] T)).ownsRow 0 T k (.slice (some ⟨w.heap.size, 0, none⟩) 0 0) 0 [] :=
  ⟨by simp, .inr ⟨_, _, #[], rfl, Nat.zero_le _, heap_alloc_new w _, Nat.le_refl _, by simp [maxLen], by simp, by simp⟩⟩

theorem clone_end (T k : Nat) (xs : List Value) (w w' : World) (a : Option Addr) (m c : Nat)
    (ho : w'.ownsRow 0 T k (.slice a m c) m xs) (hg : (w.alloc (.cells #[] T)).grownBy w' (some w.heap.size)) (hb : (Value.slice a m c).ownBlock = some w.heap.size ∨ (Value.slice a m c).ownBlock = some (w.heap.size + 1)) :
    clonePost T k xs w (.returned (.slice a m c)) w' := by
  exact ⟨a, m, c, rfl, ho, fun g e => by rcases hb with hb | hb <;> (rw [hb] at e; cases e; omega),
    ((Mod.refl _ w).alloc _).trans' (Mod.of_grown (S := fun k => w.heap.size ≤ k) hg (fun k e _ => by cases e; exact Nat.le_refl _)) (fun _ _ h => h) (fun i hi h => by omega)⟩

set_option maxHeartbeats 400000 in
theorem bytes_Clone (a : Option Addr) (n c : Nat) (xs : List Value) (w : World) (hx : ReadAt w (.slice a n c) 1 xs) (hn : n ≤ 140737488355328) :
    Calls Tryz.prog 125 #[.slice a n c] w (clonePost 5 1 xs w) := by
  obtain ⟨i0, hi, hz0, hz1, hz2⟩ := info_parts info_u8
  have hlen : xs.length = n * 1 := by obtain ⟨a', n', c', he, hl, _⟩ := hx; cases he; exact hl
  cases a with
  | none =>
    have h0 := clone_none _ _ _ _ _ hx
    have H := Lib.hid hx; clear hx
    go_enter Tryz.func125, Tryz.ntmps125
    go_wp2
    go_ret
    exact ⟨none, 0, 0, rfl, by rw [h0]; exact World.ownsRow_nil _ _ _ _, (fun g e => by cases e), Mod.refl _ _⟩
  | some ad =>
    have H := Lib.hid (hx.frame ((Mod.refl (fun _ => False) w).alloc (.cells #[] 5)) (fun _ _ h => h)); clear hx
    have HO := Lib.hid (owns_empty w 5 1)
    go_enter Tryz.func125, Tryz.ntmps125
    go_wp2_with (at_builtin; refine wpList_append_read _ rfl _ _ 33 rfl 5 i0 _ 1 1 Tryz.underlying33 hi hz0 hz1 hz2 rfl (by decide) _ 0 [] rfl HO.out _ xs n rfl H.out hlen (by unfold maxLen; omega) (by omega) ?_; intro a' c' w1 ho hg hb)
    go_ret
    simp only [List.nil_append, Nat.zero_add, World.size_alloc] at ho hb
    exact clone_end _ _ _ _ _ _ _ _ ho hg hb

/-! ### entries -/
structure Ent where
  key : ByteArray
  val : List UInt8
  dl : Int
  birth : Int

def bytesOf (l : List UInt8) : List Value := l.map fun b => .int .u8 b.toNat
theorem bytesOf_one (l : List UInt8) : ∀ u ∈ bytesOf l, u.oneCell' = true := by
  intro u hu
  obtain ⟨_, _, rfl⟩ := List.mem_map.1 hu
  rfl
theorem bytesOf_length (l : List UInt8) : (bytesOf l).length = l.length := by simp [bytesOf]

/-- The cells of an entry whose value is the slice v. -/
def entCells (e : Ent) (v : Value) : List Value := [.string e.key, v, .int .u64 e.dl, .int .u64 e.birth]

def keyB (n : Nat) : Bool := decide (0 < n) && decide (n ≤ 250)
/-- What check says. -/
def errOf (ks : Nat) (n : Nat) (birth : Int) : Int := if !(keyB ks) || birth == 0 then 2 else if decide (65536 < (n : Int)) then 5 else 0

theorem entry_ValidKey (s : ByteArray) (w : World) (hs : s.size ≤ 140737488355328) : Calls Tryz.prog 139 #[.string s] w fun e w' => e = .returned (.bool (keyB s.size)) ∧ w = w' := by
  have H : Hid (∀ x : Bool, x = (decide ((0 : Int) < s.size) && decide ((s.size : Int) ≤ 250)) → x = keyB s.size) := by
    rintro x rfl
    simp only [keyB, Int.natCast_pos]
    congr 2
    exact propext ⟨fun h => by omega, fun h => by omega⟩
  by_cases h : 0 < s.size
  all_goals
    go_enter Tryz.func139, Tryz.ntmps139
    go_wp2
    go_ret
    exact ⟨congrArg (fun b => Ending.returned (.bool b)) (H.out _ (by simp [h])), rfl⟩

def firstOf (b1 b2 : Bool) (e1 e2 : Int) : Int := if b1 then e1 else if b2 then e2 else 0
def firstPost (b1 b2 : Bool) (e1 e2 : Int) (w : World) (e : Ending) (w' : World) : Prop :=
  e = .returned (.int .i64 (firstOf b1 b2 e1 e2)) ∧ Pure w w'

set_option maxHeartbeats 400000 in
theorem entry_first (b1 b2 : Bool) (e1 e2 : Int) (g : Nat) (w : World) (h0 : w.cell? ⟨g, 0, none⟩ = some (.bool b1)) (h1 : w.cell? ⟨g, 1, none⟩ = some (.int .i64 e1))
    (h2 : w.cell? ⟨g, 2, none⟩ = some (.bool b2)) (h3 : w.cell? ⟨g, 3, none⟩ = some (.int .i64 e2)) (hg : g < w.heap.size) :
    Calls Tryz.prog 138 #[.slice (some ⟨g, 0, none⟩) 2 2] w (firstPost b1 b2 e1 e2 w) := by
  have hg1 : g < w.heap.size + 1 := by omega
  cases b1
  · cases b2
    all_goals
      go_enter Tryz.func138, Tryz.ntmps138
      go_wp2
      go_rounds 3
      go_ret
      exact ⟨rfl, ((Mod.refl _ w).alloc _).alloc _⟩
  · go_enter Tryz.func138, Tryz.ntmps138
    go_wp2
    go_rounds 3
    go_ret
    exact ⟨rfl, (Mod.refl _ w).alloc _⟩

def checkPost (ks n : Nat) (birth : Int) (w : World) (e : Ending) (w' : World) : Prop := e = .returned (.int .i64 (errOf ks n birth)) ∧ Pure w w'

set_option maxHeartbeats 400000 in
theorem entry_check (s : ByteArray) (a : Option Addr) (n c : Nat) (b : Int) (w : World) (hs : s.size ≤ 140737488355328) (hn : n ≤ 140737488355328) :
    Calls Tryz.prog 105 #[.string s, .slice a n c, .int .u64 b] w (checkPost s.size n b w) := by
  cases hk : keyB s.size
  all_goals
    have E := Lib.hid (show errOf s.size n b = firstOf (!(keyB s.size) || b == 0) (decide (65536 < (n : Int))) 2 5 from rfl)
    go_enter Tryz.func105, Tryz.ntmps105
    go_wp2_with (first | (go_at_call 139; refine Calls.mono (entry_ValidKey s w hs) ?_; rintro e w' ⟨rfl, rfl⟩) | (go_at_call 138; refine Calls.mono (entry_first _ _ _ _ w.heap.size _ (World.cell?_alloc_new w _ _ 0) (World.cell?_alloc_new w _ _ 1) (World.cell?_alloc_new w _ _ 2) (World.cell?_alloc_new w _ _ 3) (by simp)) ?_; intro e w1 hp; obtain ⟨rfl, hp⟩ := hp))
    go_ret
    exact ⟨by rw [E.out, hk]; rfl, ((Mod.refl _ _).alloc _).trans hp⟩

/-! ### entry.Copy, entry.New -/
def copyPost (k : ByteArray) (xs : List Value) (d b : Int) (w : World) (e : Ending) (w' : World) : Prop :=
  ∃ a n c, e = .returned (.agg #[.string k, .slice a n c, .int .u64 d, .int .u64 b]) ∧ w'.ownsRow 0 5 1 (.slice a n c) n xs ∧ Fresh w (.slice a n c) ∧ Pure w w'

set_option maxHeartbeats 400000 in
theorem entry_Copy (k : ByteArray) (a : Option Addr) (n c : Nat) (d b : Int) (xs : List Value) (w : World) (hx : ReadAt w (.slice a n c) 1 xs) (hn : n ≤ 140737488355328) :
    Calls Tryz.prog 74 #[.agg #[.string k, .slice a n c, .int .u64 d, .int .u64 b]] w (copyPost k xs d b w) := by
  have H := Lib.hid (hx.frame (((Mod.refl (fun _ => False) w).alloc (.cells #[.string k, .slice a n c, .int .u64 d, .int .u64 b] 42)).alloc (.cells #[.string ByteArray.empty, .slice none 0 0, .int .u64 0, .int .u64 0] 42)) (fun _ _ h => h)); clear hx
  go_enter Tryz.func74, Tryz.ntmps74
  go_wp2_with (go_at_call 125; refine Calls.mono (bytes_Clone a n c xs _ H.out hn) ?_; rintro e w1 ⟨a', n', c', rfl, hr, hf, hp⟩; have h1 := hp.box (b := w.heap.size) (heap_keep (heap_new rfl)) (fun h => h); have h2 := hp.box (b := w.heap.size + 1) (heap_new (by simp)) (fun h => h); obtain ⟨h1c, h1f⟩ := h1; obtain ⟨h2c, h2f⟩ := h2)
  have hm := ((((((Mod.refl (fun k => k = w.heap.size ∨ k = w.heap.size + 1) w1).setCell (p := ⟨w.heap.size, 1, none⟩) (fun _ => .inl rfl) (.slice a' n' c')).setCell (p := ⟨w.heap.size + 1, 0, none⟩) (fun _ => .inr rfl) (.string k)).setCell (p := ⟨w.heap.size + 1, 1, none⟩) (fun _ => .inr rfl) (.slice a' n' c')).setCell (p := ⟨w.heap.size + 1, 2, none⟩) (fun _ => .inr rfl) (.int .u64 d)).setCell (p := ⟨w.heap.size + 1, 3, none⟩) (fun _ => .inr rfl) (.int .u64 b))
  refine bodyPost_ret (v := .agg #[.string k, .slice a' n' c', .int .u64 d, .int .u64 b]) (by simp [results, Tryz.results74, go_sem, h1c, h2c]) rfl ⟨a', n', c', rfl, owns_mod hr hm ?_, ?_, ?_⟩
  · intro g e h
    have := hf g e
    simp at this
    omega
  · intro g e
    have := hf g e
    simp at this
    omega
  · exact (((Mod.refl (fun k => w.heap.size ≤ k) w).alloc _).alloc _).trans' (hp.trans' hm (fun _ _ h => h.elim) (fun i _ h => show w.heap.size ≤ i by omega)) (fun i h h' => by omega) (fun i h h' => by omega)

def entNewPost (k : ByteArray) (xs : List Value) (d b : Int) (w : World) (e : Ending) (w' : World) : Prop :=
  ∃ a n c, e = .returned (.tuple #[.agg #[.string k, .slice a n c, .int .u64 d, .int .u64 b], .int .i64 0]) ∧ w'.ownsRow 0 5 1 (.slice a n c) n xs ∧ Fresh w (.slice a n c) ∧ Pure w w'

theorem read_length {w : World} {a : Option Addr} {n c k : Nat} {xs : List Value} (h : ReadAt w (.slice a n c) k xs) : xs.length = n * k := by
  obtain ⟨a', n', c', he, hl, _⟩ := h
  cases he
  exact hl

set_option maxHeartbeats 400000 in
theorem entry_New_ok (k : ByteArray) (a : Option Addr) (n c : Nat) (d b : Int) (xs : List Value) (w : World) (hx : ReadAt w (.slice a n c) 1 xs) (hn : n ≤ 65536) (hk0 : 0 < k.size) (hk : k.size ≤ 250) (hb : (b == 0) = false) :
    Calls Tryz.prog 49 #[.string k, .slice a n c, .int .u64 d, .int .u64 b] w (entNewPost k xs d b w) := by
  have E : errOf k.size n b = 0 := by
    have : keyB k.size = true := by simp [keyB, hk0, hk]
    have h2 : ¬ ((65536 : Int) < n) := by omega
    simp [errOf, this, hb, h2]
  go_enter Tryz.func49, Tryz.ntmps49
  go_wp2_with (first
    | (go_at_call 105; refine Calls.mono (entry_check k a n c b _ (by omega) (by omega)) ?_; rintro e w1 ⟨he, hp⟩; rw [E] at he; subst he; obtain ⟨hpc, hpf⟩ := hp.cells; have hz : w.heap.size < w1.heap.size := by have := hp.size; simp at this; omega)
    | (go_at_call 74; refine Calls.mono (entry_Copy k a n c d b xs _ (hx.frame (S := fun _ => False) (by (repeat' (first | (with_reducible exact Mod.refl _ _) | (with_reducible refine Mod.alloc ?_ _) | (with_reducible refine Mod.drew ?_) | (with_reducible refine Mod.drewN ?_ _) | (with_reducible refine Mod.setCell ?_ ?_ _) | (refine Mod.then ?_ (by with_reducible assumption) ?_))) <;> (all_goals (intros; first | (exfalso; assumption) | omega | (simp at *; done) | (simp at *; omega)))) (fun _ _ h => h)) (by omega)) ?_; rintro e w2 ⟨a', n', c', rfl, hr, hf, hp2⟩; obtain ⟨hqc, hqf⟩ := hp2.cells))
  refine bodyPost_ret (v := .tuple #[.agg #[.string k, .slice a' n' c', .int .u64 d, .int .u64 b], .int .i64 0]) (by simp [results, Tryz.results49, go_sem, hqc, hqf, hpc, hpf, hz]) rfl ⟨a', n', c', rfl, ?_, ?_, ?_⟩
  · refine owns_mod hr (S := fun k => k = w.heap.size) ?_ (fun g e h => by have := hf g e; omega)
    (repeat' (first | (with_reducible exact Mod.refl _ _) | (with_reducible refine Mod.alloc ?_ _) | (with_reducible refine Mod.drew ?_) | (with_reducible refine Mod.drewN ?_ _) | (with_reducible refine Mod.setCell ?_ ?_ _) | (refine Mod.then ?_ (by with_reducible assumption) ?_)))
    (all_goals (intros; first | (exfalso; assumption) | omega | (simp at *; done) | (simp at *; omega)))
  · intro g e
    have := hf g e
    omega
  · (repeat' (first | (with_reducible exact Mod.refl _ _) | (with_reducible refine Mod.alloc ?_ _) | (with_reducible refine Mod.drew ?_) | (with_reducible refine Mod.drewN ?_ _) | (with_reducible refine Mod.setCell ?_ ?_ _) | (refine Mod.then ?_ (by with_reducible assumption) ?_)))
    (all_goals (intros; first | (exfalso; assumption) | omega | (simp at *; done) | (simp at *; omega)))

def newErr (er : Int) (w : World) (e : Ending) (w' : World) : Prop :=
  e = .returned (.tuple #[.agg #[.string ⟨#[]⟩, .slice none 0 0, .int .u64 0, .int .u64 0], .int .i64 er]) ∧ Pure w w'

set_option maxHeartbeats 400000 in
theorem entry_New_err (k : ByteArray) (a : Option Addr) (n c : Nat) (d b : Int) (w : World) (hk : k.size ≤ 140737488355328) (hn : n ≤ 140737488355328) (er : Int) (E : errOf k.size n b = er) (he0 : (er == 0) = false) :
    Calls Tryz.prog 49 #[.string k, .slice a n c, .int .u64 d, .int .u64 b] w (newErr er w) := by
  go_enter Tryz.func49, Tryz.ntmps49
  go_wp2_with (go_at_call 105; refine Calls.mono (entry_check k a n c b _ hk hn) ?_; rintro e w1 ⟨he, hp⟩; rw [E] at he; subst he; obtain ⟨hpc, hpf⟩ := hp.cells; have hz : w.heap.size < w1.heap.size := by have := hp.size; simp at this; omega)
  refine bodyPost_ret (v := .tuple #[.agg #[.string ⟨#[]⟩, .slice none 0 0, .int .u64 0, .int .u64 0], .int .i64 er]) (by simp [results, Tryz.results49, go_sem, hpc, hpf, hz]) rfl ⟨rfl, ?_⟩
  (repeat' (first | (with_reducible exact Mod.refl _ _) | (with_reducible refine Mod.alloc ?_ _) | (with_reducible refine Mod.drew ?_) | (with_reducible refine Mod.drewN ?_ _) | (with_reducible refine Mod.setCell ?_ ?_ _) | (refine Mod.then ?_ (by with_reducible assumption) ?_)))
  (all_goals (intros; first | (exfalso; assumption) | omega | (simp at *; done) | (simp at *; omega)))
end Go.Proofs.YtapplindfijngaaGreat
