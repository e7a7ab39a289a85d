/- law10.known answers true. -/
import Derived.Test.YtpafcocciggfpaaGreatLaw10
import Derived.Test.YtpafcocciggfpaaGreatOf2
namespace Go.Proofs.YtpafcocciggfpaaGreat
open Go.RowKit Go.Shelf
set_option maxRecDepth 100000
attribute [local go_sem] Oper.semAt_some

@[go_sem] theorem eql_seq3 (w : World) (fn : Fn) (fi ca : Array Value) : (binOp .eql 87 (.func fn fi ca) .nilFunc).run Tryz.prog w = .ok (.bool false) w := by
  simp only [binOp]
  simp [Op.equal, Op.maxDepth, run_equal_func w 9999 _ fn fi ca Tryz.underlying87]
theorem hnew10 (seed : Int) (same : Bool) (w : World) : Calls Tryz.prog 12 #[.int .u64 seed, .bool same] w fun e w' => e = .returned (.agg #[.int .u64 seed, .bool same]) ∧ Pure w w' := by
  go_enter Tryz.func12, Tryz.ntmps12
  go_wp2
  refine bodyPost_ret (v := .agg #[.int .u64 seed, .bool same]) (by simp [results, Tryz.results12, go_sem]) rfl ⟨rfl, ?_⟩
  (repeat' (first | (with_reducible exact Mod.refl _ _) | (with_reducible refine Mod.alloc ?_ _) | (with_reducible refine Mod.drew ?_) | (with_reducible refine Mod.drewN ?_ _) | (with_reducible refine Mod.setCell ?_ ?_ _) | (refine Mod.then ?_ (by with_reducible assumption) ?_)))
  (all_goals (intros; first | (exfalso; assumption) | omega | (simp at *; done) | (simp at *; omega)))
def eK (k : UInt8) : Option Ent := some ⟨⟨#[k]⟩, [], 0, 1⟩
theorem okK (k : UInt8) : (Ent.mk ⟨#[k]⟩ [] 0 1).Ok := ⟨by show 0 < 1; omega, by show 1 ≤ 250; omega, by show 0 ≤ 65536; omega, by show (0 : Int) < 1; omega⟩
/-- The index behind the examples, and behind the entries c .. -/
def H10 (L : List (Option Ent)) : Nat → Nat := sumL 0 true L
def gk1 : List Grp := putM (H10 [eK 97]) (newG 1) 0
def gk2 : List Grp := putM (H10 [eK 97, eK 98]) gk1 1
def gk3 : List Grp := remM (H10 [eK 97, eK 98]) (H10 [none, eK 98]) gk2 0
def gk4 : List Grp := putM (H10 [none, eK 98, eK 97]) gk3 2
def kb : Nat → UInt8
  | 0 => 99
  | 1 => 100
  | 2 => 101
  | 3 => 102
  | 4 => 103
  | _ => 104
def LK : Nat → List (Option Ent)
  | 0 => [none, eK 98, eK 97]
  | i + 1 => LK i ++ [eK (kb i)]
def GK : Nat → List Grp
  | 0 => gk4
  | i + 1 => putM (H10 (LK (i + 1))) (GK i) (LK i).length
theorem gk2_sizes : gk2.length = 1 ∧ tombN gk2 = 0 := by decide +kernel
theorem gk4_sizes : gk4.length = 1 ∧ tombN gk4 = 0 := by decide +kernel
theorem GK6_sizes : (GK 6).length = 2 ∧ tombN (GK 6) = 0 := by decide +kernel

theorem dremG {w W : World} {d : Nat} {L : List (Option Ent)} {Gs : List Grp} (h : DG w W d 0 true L Gs) {s : Nat} {x : Ent} (hx : L[s]? = some (some x)) :
    Calls Tryz.prog 19 #[dPtr d, .int .u32 s] W fun e w' => ∃ a n c, e = .returned (.tuple #[.agg #[.string x.key, .slice a n c, .int .u64 x.dl, .int .u64 x.birth], .int .i64 0]) ∧ DG w w' d 0 true (L.set s none) (remM (H10 L) (H10 (L.set s none)) Gs s) := by
  obtain ⟨D, h1, h2, h3⟩ := h
  refine Calls.mono (drem_ok h1 hx) ?_
  rintro e w' ⟨a, n, c, rfl, _, _, D', g1, g2, g3⟩
  exact ⟨a, n, c, rfl, DG.step h2 h3 g1 g2 g3⟩
theorem DG.quiet {N : Nat} {w A B : World} {d seed : Nat} {same : Bool} {L : List (Option Ent)} {Gs : List Grp} (h : DG w A d seed same L Gs) (hN : w.heap.size ≤ N) (hq : Quiet N A B) : DG w B d seed same L Gs := by
  obtain ⟨D, ⟨q, p, sv, Dl, h1, h2, h3⟩, h4, h5⟩ := h
  exact ⟨D, ⟨q, p, sv, Dl, h1.quiet hq, h2, h3⟩, hq.mod h4 hN, h5⟩
def catK (G : List (Nat × Ent)) : ByteArray := G.foldl (fun s g => s ++ g.2.key) ⟨#[]⟩
structure KI (w : World) (d b5 : Nat) (pre : List Given) (W : World) : Prop where
  dg : DG w W d 0 true (LK 0) (GK 0)
  r5 : W.heap[b5]? = some (.cells #[.string (catK (pre.map keyG))] 9 (0, 0))
  sz : (catK (pre.map keyG)).size ≤ 250 * pre.length
set_option maxHeartbeats 4000000 in
theorem known10_true (w : World) : Calls Tryz.prog 10 #[] w fun e w' => e = .returned (.bool true) ∧ Pure w w' := by
  have HN : Hid (∀ W, Calls Tryz.prog 12 #[.int .u64 0, .bool true] W fun e w' => e = .returned (.agg #[.int .u64 0, .bool true]) ∧ Pure W w') := fun W => hnew10 0 true W
  (refine (callsIn_wide (n := 0)).1 (callsIn_of_wp_marks Tryz.func10 rfl trivial (wpIn_wide.2 ?_) rfl); simp only [Tryz.ntmps10, List.size_toArray, List.length_cons, List.length_nil, Nat.reduceAdd, Nat.reduceSub, Array.replicate_succ, Array.replicate_zero, List.push_toArray, List.append_toArray, List.nil_append, List.cons_append])
  go_upto_region 2 with (first
    | (go_at_call 12; refine Calls.mono (HN.out _) ?_; rintro e w1 ⟨rfl, hp1⟩)
    | (go_at_call 11; refine Calls.mono (newG' (w := w) 0 true (by decide) hp1) ?_; rintro e w2 ⟨d, rfl, hd, _⟩))
  have HD := Lib.hid hd
  clear hd hp1 HN
  have T1 : True := trivial; have T2 : True := trivial
  go_upto_region 4 with (first
    | (go_at_call 61; clear T1; refine Calls.mono (inserts_ok HD.out ⟨#[97]⟩ (okK 97) (by decide) (by decide) 0 rfl) ?_; rintro e w3 ⟨rfl, hd3, _⟩; replace HD : Hid (DG w w3 d 0 true [eK 97] gk1) := hd3; clear hd3)
    | (go_at_call 61; clear T2; refine Calls.mono (inserts_ok HD.out ⟨#[98]⟩ (okK 98) (by decide) (by decide) 1 rfl) ?_; rintro e w4 ⟨rfl, hd4, _⟩; replace HD : Hid (DG w w4 d 0 true [eK 97, eK 98] gk2) := hd4; clear hd4))
  have HB := Lib.hid (show Calls Tryz.prog 14 #[dPtr d, .agg #[.string ⟨#[97]⟩, .slice none 0 0, .int .u64 0, .int .u64 1]] w4 (dins0 w4 11) from by
    obtain ⟨D9, q1, q2, q3⟩ := HD.out
    exact dins_busy q1 ⟨⟨#[97]⟩, [], 0, 1⟩ (okK 97) (t := 0) (by decide) none 0 0 (ReadAt.nil _ _))
  have T1 : True := trivial; have T2 : True := trivial
  go_upto_region 7 with (first
    | (go_at_call 14; refine Calls.mono HB.out ?_; rintro e w5 ⟨rfl, hp5⟩; replace HD := Lib.hid (HD.out.pure hp5); clear hp5)
    | (go_at_call 37; clear T1; refine Calls.mono (finds10_ok HD.out ⟨#[98]⟩ (by decide) 1 0 (by decide) (by decide)) ?_; rintro e w6 ⟨rfl, hp6⟩; replace HD := Lib.hid (HD.out.pure hp6); clear hp6)
    | (go_at_call 37; clear T2; refine Calls.mono (finds10_ok HD.out ⟨#[99]⟩ (by decide) 0 9 (by decide) (by decide)) ?_; rintro e w7 ⟨rfl, hp7⟩; replace HD := Lib.hid (HD.out.pure hp7); clear hp7)
    | (go_at_call 16; refine Calls.mono (sizes10_ok HD.out 2 1 0 rfl (by rw [gk2_sizes.1]; rfl) (by rw [gk2_sizes.2]; rfl)) ?_; rintro e w8 ⟨rfl, hp8⟩; replace HD := Lib.hid (HD.out.pure hp8); clear hp8))
  have HR := Lib.hid (dremG HD.out (s := 0) (x := ⟨⟨#[97]⟩, [], 0, 1⟩) rfl)
  go_upto_region 8 with (go_at_call 19; refine Calls.mono HR.out ?_; rintro e w9 ⟨a9, n9, c9, rfl, hd9⟩)
  have hpa : Pure w9 (w9.alloc (.cells #[.string ⟨#[97]⟩, .slice a9 n9 c9, .int .u64 0, .int .u64 1] 42)) := (Mod.refl _ w9).alloc _
  have z4 := heap_new (w := w9) (o := .cells #[.string ⟨#[97]⟩, .slice a9 n9 c9, .int .u64 0, .int .u64 1] 42 (0, 0)) rfl
  replace HD : Hid (DG w (w9.alloc (.cells #[.string ⟨#[97]⟩, .slice a9 n9 c9, .int .u64 0, .int .u64 1] 42)) d 0 true [none, eK 98] gk3) := DG.pure hd9 hpa
  clear hd9 hpa HB HR
  generalize w9.alloc (.cells #[.string ⟨#[97]⟩, .slice a9 n9 c9, .int .u64 0, .int .u64 1] 42) = W9 at *
  generalize w9.heap.size = b4 at *
  have z4_0 := cell_of_row _ _ 0 _ _ _ z4; have z4_1 := cell_of_row _ _ 1 _ _ _ z4; have z4_2 := cell_of_row _ _ 2 _ _ _ z4; have z4_3 := cell_of_row _ _ 3 _ _ _ z4; have z4_f := (fun j => frozen_of_row _ _ j _ _ z4); have z4_l := lt_of_block z4; simp at z4_0 z4_1 z4_2 z4_3; have H_z4 := Lib.hid z4; clear z4
  have T1 : True := trivial; have T2 : True := trivial
  go_upto_region 10 with (first
    | (go_at_call 37; clear T1; refine Calls.mono (finds10_ok HD.out ⟨#[97]⟩ (by decide) 0 9 (by decide) (by decide)) ?_; rintro e w10 ⟨rfl, hp10⟩; replace HD := Lib.hid (HD.out.pure hp10); clear hp10)
    | (go_at_call 61; refine Calls.mono (inserts_ok HD.out ⟨#[97]⟩ (okK 97) (by decide) (by decide) 2 rfl) ?_; rintro e w11 ⟨rfl, hd11, _⟩; replace HD : Hid (DG w w11 d 0 true (LK 0) (GK 0)) := hd11; clear hd11)
    | (go_at_call 37; clear T2; refine Calls.mono (finds10_ok HD.out ⟨#[97]⟩ (by decide) 2 0 (by decide) (by decide)) ?_; rintro e w12 ⟨rfl, hp12⟩; replace HD := Lib.hid (HD.out.pure hp12); clear hp12)
    | (go_at_call 16; refine Calls.mono (sizes10_ok HD.out 3 1 0 rfl (by show ((gk4.length : Nat) : Int) = 1; rw [gk4_sizes.1]; rfl) (by show ((tombN gk4 : Nat) : Int) = 0; rw [gk4_sizes.2]; rfl)) ?_; rintro e w13 ⟨rfl, hp13⟩; replace HD := Lib.hid (HD.out.pure hp13); clear hp13))
  clear z4_0 z4_1 z4_2 z4_3 z4_f z4_l
  clear H_z4
  have HAl := Lib.hid (show Calls Tryz.prog 39 #[.pointer (some ⟨d, 0, none⟩)] w13 (allA w13 (LK 0)) from by obtain ⟨D9, q1, q2, q3⟩ := HD.out; exact dall_ok q1)
  go_upto_region 11 with (go_at_call 39; refine Calls.mono HAl.out ?_; rintro e w14 ⟨M, B, a3, c3, hM, rfl, hit, hp14, hB, hfr⟩)
  have hpb : Pure w14 (w14.alloc (.cells #[.string ⟨#[]⟩] 9)) := (Mod.refl _ w14).alloc _
  have z5 := heap_new (w := w14) (o := .cells #[.string ⟨#[]⟩] 9 (0, 0)) rfl
  have hit' := hit.keeps (KeepsIt.of_pure hpb)
  have hb5ww : w.heap.size ≤ w14.heap.size := (HD.out.pure hp14).pu.size
  replace HD := Lib.hid ((HD.out.pure hp14).pure hpb)
  clear hit hp14 hpb hB hfr HAl
  generalize w14.alloc (.cells #[.string ⟨#[]⟩] 9) = W14 at *
  generalize w14.heap.size = b5 at *
  have HIT := Lib.hid hit'
  have hItlt : ∀ k, iterBlocks B (.slice a3 M.length c3) M k → k < W14.heap.size := by
    rintro k (rfl | h | ⟨e, v, hm, h⟩)
    · exact lt_of_block hit'.box
    · exact owns_lt hit'.row h
    · exact owns_lt (hit'.vals e v hm) h
  have hI0 : KI w d b5 [] W14 := ⟨HD.out, z5, by decide⟩
  have n5 := Lib.hid (iter_types hit' z5 (by decide) (by decide) (by decide))
  have hw14 : w.heap.size ≤ W14.heap.size := HD.out.pu.size
  have hb5 : b5 < W14.heap.size := lt_of_block z5
  have hb5w : w.heap.size ≤ b5 := hb5ww
  clear hit' z5
  generalize hItd : iterBlocks B (.slice a3 M.length c3) M = It at *
  go_wp2
  refine wpIn_wide.1 (wp_range2 (gf := 149) (lb := #[.pointer (some ⟨B, 0, none⟩)]) rfl (enters_of Tryz.func149 (by kernel_rfl) rfl) (It := It) (hItd ▸ All_iter HIT.out W14.heap.size (Nat.le_refl _)) hItlt (fun _ => rfl)
    (fun pre W => KI w d b5 pre W ∧ W14.heap.size ≤ W.heap.size) (fun _ _ _ => False) ?hI ?hIx ⟨hI0, Nat.le_refl _⟩ ?round ?done ?stop)
  case hI => exact fun pre A B ⟨h, hz⟩ hq => ⟨⟨h.dg.quiet hw14 hq, hq.cells h.r5, h.sz⟩, Nat.le_trans hz (Mod.size hq)⟩
  case hIx => exact fun _ _ _ _ h _ => h
  case stop => exact fun _ _ _ _ _ h _ => h.elim
  case done =>
    rintro l xs W hl hS ⟨hI, hWs⟩ hK
    have hS' : xs.map keyG = live (LK 0) := by rw [← hM]; exact hS
    have r5 := hI.r5
    rw [hS', show catK (live (LK 0)) = ⟨#[98, 97]⟩ from by decide] at r5
    have HG := Lib.hid hI.dg
    clear hI hI0 hItlt hS hS' hWs
    have HK := Lib.hid hK
    clear hK
    go_wp2
    go_loopw [9] (fun v9 wr => ∃ i, v9 = .int .i64 (i : Nat) ∧ i ≤ 6 ∧ DG w wr d 0 true (LK i) (GK i) ∧ wr.heap[b5]? = some (.cells #[.string ⟨#[98, 97]⟩] 9 (0, 0)) ∧ wr.heap[l]? = some (.deferred (some []))) (fun v9 _ => 6 - (intOf v9).toNat)
    case atStart => exact ⟨0, rfl, by omega, HG.out, r5, HK.out⟩
    case round =>
      obtain ⟨i, rfl, hi, hg, hr5, hrl⟩ := hrel
      have HGi := Lib.hid hg
      clear hg
      have hcase : i = 0 ∨ i = 1 ∨ i = 2 ∨ i = 3 ∨ i = 4 ∨ i = 5 ∨ i = 6 := by omega
      have HR5 := Lib.hid hr5; have HRL := Lib.hid hrl
      clear hr5 hrl
      rcases hcase with rfl | rfl | rfl | rfl | rfl | rfl | rfl
      · have hkx : (⟨#[99, 100, 101, 102, 103, 104]⟩ : ByteArray).extract 0 1 = ⟨#[99]⟩ := by decide
        go_upto_region 18 with (go_at_call 61; refine Calls.mono (inserts_ok HGi.out ⟨#[99]⟩ (okK 99) (by decide) (by decide) 3 (by decide)) ?_; rintro e w16 ⟨rfl, hd16, hk16⟩)
        have q5 := hk16 b5 _ HR5.out (by intro cs T fz e; cases e; decide)
        have ql := hk16 l _ HRL.out (by intro cs T fz e; cases e)
        clear hk16
        go_wp2
        go_roundw
        case rel => exact ⟨1, by go_num, by omega, hd16, q5, ql⟩
        case measure => simp [intOf]
      · have hkx : (⟨#[99, 100, 101, 102, 103, 104]⟩ : ByteArray).extract 1 2 = ⟨#[100]⟩ := by decide
        go_upto_region 18 with (go_at_call 61; refine Calls.mono (inserts_ok HGi.out ⟨#[100]⟩ (okK 100) (by decide) (by decide) 4 (by decide)) ?_; rintro e w16 ⟨rfl, hd16, hk16⟩)
        have q5 := hk16 b5 _ HR5.out (by intro cs T fz e; cases e; decide)
        have ql := hk16 l _ HRL.out (by intro cs T fz e; cases e)
        clear hk16
        go_wp2
        go_roundw
        case rel => exact ⟨2, by go_num, by omega, hd16, q5, ql⟩
        case measure => simp [intOf]
      · have hkx : (⟨#[99, 100, 101, 102, 103, 104]⟩ : ByteArray).extract 2 3 = ⟨#[101]⟩ := by decide
        go_upto_region 18 with (go_at_call 61; refine Calls.mono (inserts_ok HGi.out ⟨#[101]⟩ (okK 101) (by decide) (by decide) 5 (by decide)) ?_; rintro e w16 ⟨rfl, hd16, hk16⟩)
        have q5 := hk16 b5 _ HR5.out (by intro cs T fz e; cases e; decide)
        have ql := hk16 l _ HRL.out (by intro cs T fz e; cases e)
        clear hk16
        go_wp2
        go_roundw
        case rel => exact ⟨3, by go_num, by omega, hd16, q5, ql⟩
        case measure => simp [intOf]
      · have hkx : (⟨#[99, 100, 101, 102, 103, 104]⟩ : ByteArray).extract 3 4 = ⟨#[102]⟩ := by decide
        go_upto_region 18 with (go_at_call 61; refine Calls.mono (inserts_ok HGi.out ⟨#[102]⟩ (okK 102) (by decide) (by decide) 6 (by decide)) ?_; rintro e w16 ⟨rfl, hd16, hk16⟩)
        have q5 := hk16 b5 _ HR5.out (by intro cs T fz e; cases e; decide)
        have ql := hk16 l _ HRL.out (by intro cs T fz e; cases e)
        clear hk16
        go_wp2
        go_roundw
        case rel => exact ⟨4, by go_num, by omega, hd16, q5, ql⟩
        case measure => simp [intOf]
      · have hkx : (⟨#[99, 100, 101, 102, 103, 104]⟩ : ByteArray).extract 4 5 = ⟨#[103]⟩ := by decide
        go_upto_region 18 with (go_at_call 61; refine Calls.mono (inserts_ok HGi.out ⟨#[103]⟩ (okK 103) (by decide) (by decide) 7 (by decide)) ?_; rintro e w16 ⟨rfl, hd16, hk16⟩)
        have q5 := hk16 b5 _ HR5.out (by intro cs T fz e; cases e; decide)
        have ql := hk16 l _ HRL.out (by intro cs T fz e; cases e)
        clear hk16
        go_wp2
        go_roundw
        case rel => exact ⟨5, by go_num, by omega, hd16, q5, ql⟩
        case measure => simp [intOf]
      · have hkx : (⟨#[99, 100, 101, 102, 103, 104]⟩ : ByteArray).extract 5 6 = ⟨#[104]⟩ := by decide
        go_upto_region 18 with (go_at_call 61; refine Calls.mono (inserts_ok HGi.out ⟨#[104]⟩ (okK 104) (by decide) (by decide) 8 (by decide)) ?_; rintro e w16 ⟨rfl, hd16, hk16⟩)
        have q5 := hk16 b5 _ HR5.out (by intro cs T fz e; cases e; decide)
        have ql := hk16 l _ HRL.out (by intro cs T fz e; cases e)
        clear hk16
        go_wp2
        go_roundw
        case rel => exact ⟨6, by go_num, by omega, hd16, q5, ql⟩
        case measure => simp [intOf]
      · have hq : DG w wr d 0 true (LK 6) (GK 6) := HGi.out
        have r5 := HR5.out
        have HS := Lib.hid (sizes10_ok hq 9 2 0 (by decide) (by rw [GK6_sizes.1]; rfl) (by rw [GK6_sizes.2]; rfl))
        have HLn := Lib.hid (fun (W' : World) (hW : Pure wr W') => len10_ok (hq.pure hW) 8 (by decide))
        have HPU := Lib.hid hq.pu
        clear hq
        have r5_0 := cell_of_row _ _ 0 _ _ _ r5; have r5_f := (fun j => frozen_of_row _ _ j _ _ r5); have r5_l := lt_of_block r5; simp at r5_0; have H_r5 := Lib.hid r5; clear r5
        go_wp2_with (first
          | (go_at_call 16; refine Calls.mono HS.out ?_; rintro e w17 ⟨rfl, hp17⟩)
          | (go_at_call 22; refine Calls.mono (HLn.out _ hp17) ?_; rintro e w18 ⟨rfl, rfl⟩))
        have hk := hp17.heap (fun h => h) HRL.out
        have hlw : w.heap.size ≤ l := Nat.le_trans hw14 hl
        exact bodyPostM_drained (v := .bool true) hk (by simp [results, Tryz.results10, go_sem]) ⟨rfl, (Quiet.putObj (N := W14.heap.size) (.deferred none) hl hk rfl).mod (HPU.out.trans hp17) hw14⟩
  case round =>
    rintro l pre ⟨i, x, v⟩ W K ⟨hI, hWs⟩ hG hK
    obtain ⟨va, vc, hv, _⟩ := owns_form hG.2.1
    dsimp only at hv
    subst hv
    dsimp only [encG]
    obtain ⟨⟨post, hpost⟩, _, _⟩ := hG
    rw [hM] at hpost
    have hmem := live_mem (g := (i, x)) (by rw [hpost]; simp [keyG])
    have hkx : x.key.size ≤ 250 := by
      obtain ⟨D9, q1, q2, q3⟩ := hI.dg
      exact (q1.ok.ent x (List.mem_of_getElem? hmem)).k1
    have hpl : pre.length ≤ 4194304 := by
      obtain ⟨D9, q1, q2, q3⟩ := hI.dg
      have := Nat.le_trans (live_length _) q1.ok.len; rw [hpost] at this; simp at this; omega
    have HCI := Lib.hid hI; have HK := Lib.hid hK
    clear hI hK hI0 HIT hItlt hpost hmem
    gi_wp2
    have hP : Pure W (W.alloc (.cells #[.string x.key, .slice va (bytesOf x.val).length vc, .int .u64 x.dl, .int .u64 x.birth] 42)) := (Mod.refl _ W).alloc _
    have z9 := heap_new (w := W) (o := .cells #[.string x.key, .slice va (bytesOf x.val).length vc, .int .u64 x.dl, .int .u64 x.birth] 42 (0, 0)) rfl
    refine HK.out _ _ hP (fun l' W2 hl hr hq => ?_)
    have hdg := (HCI.out.dg.pure hP).quiet hw14 hq
    have r5 := hq.cells (hP.heap (fun h => h) HCI.out.r5)
    have hsz := HCI.out.sz
    have zz9 := hq.cells z9
    have hsz2 : W14.heap.size ≤ W2.heap.size := by have := Mod.size hq; have := hP.size; omega
    clear HK hP hq z9 HCI
    generalize W.heap.size = b8 at zz9 ⊢
    have hcat : catK ((pre ++ [(i, x, Value.slice va (bytesOf x.val).length vc)]).map keyG) = catK (pre.map keyG) ++ x.key := by simp [catK, keyG]
    have HCAT := Lib.hid hcat
    clear hcat
    generalize catK (pre.map keyG) = ks at *
    have hsum : ¬ (9223372036854775807 < ks.size + x.key.size) := by omega
    have hsum2 : ks.size + x.key.size ≤ 9223372036854775807 := by omega
    have HDG := Lib.hid hdg
    have R5 := Lib.hid r5
    clear hdg
    have zz9_0 := cell_of_row _ _ 0 _ _ _ zz9; have zz9_1 := cell_of_row _ _ 1 _ _ _ zz9; have zz9_2 := cell_of_row _ _ 2 _ _ _ zz9; have zz9_3 := cell_of_row _ _ 3 _ _ _ zz9; have zz9_f := (fun j => frozen_of_row _ _ j _ _ zz9); have zz9_l := lt_of_block zz9; simp at zz9_0 zz9_1 zz9_2 zz9_3; have H_zz9 := Lib.hid zz9; clear zz9
    have r5_0 := cell_of_row _ _ 0 _ _ _ r5; have r5_f := (fun j => frozen_of_row _ _ j _ _ r5); have r5_l := lt_of_block r5; simp at r5_0; have H_r5 := Lib.hid r5; clear r5
    gi_wp2
    have hm : Mod (fun k => k = b5) W2 (W2.setCell ⟨b5, 0, none⟩ (.string (ks ++ x.key))) := Mod.set1 _ _ _
    refine ⟨KeepsRec.of_mod hm (fun k hk h => by omega), KeepsIt.of_mod hm (fun k hk h => by subst h; exact n5.out hk), ⟨?_, ?_, ?_⟩, Nat.le_trans hsz2 hm.size⟩
    · obtain ⟨D9, q1, q2, q3⟩ := HDG.out
      refine ⟨D9, q1.frame hm (fun k hk e => ?_) (fun k _ e cs fz e2 => by subst e; rw [R5.out] at e2; cases e2), q2.then hm (fun k hk e => by omega), q3⟩
      subst e; rcases q1.types hk R5.out with e | e | e | e | e <;> cases e
    · rw [HCAT.out]; exact heap_set1 (j := 0) R5.out
    · rw [HCAT.out, ByteArray.size_append, List.length_append]; simp; omega
end Go.Proofs.YtpafcocciggfpaaGreat
