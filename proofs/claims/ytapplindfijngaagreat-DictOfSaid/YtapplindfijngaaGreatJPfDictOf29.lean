/- Lemmas and contracts of functions, strung together out of 2 texts. No condition. -/
import Derived.Test.YtapplindfijngaaGreatJPfDictOf28
import Derived.Test.YtapplindfijngaaGreatJPfDictOf26
import Derived.Test.YtapplindfijngaaGreatJPfDictOf3
/- law10.known answers true. -/
namespace Go.Proofs.YtapplindfijngaaGreat
open Go.RowKit Go.Shelf
set_option maxRecDepth 100000
attribute [local go_sem] Oper.semAt_some

@[go_sem] theorem eql_seq3 (w : World) (fn : Fn) (fi ca : Array Value) : (binOp .eql 99 (.func fn fi ca) .nilFunc).run Tryz.prog w = .ok (.bool false) w := by
  simp only [binOp]
  simp [Op.equal, Op.maxDepth, run_equal_func w 9999 _ fn fi ca Tryz.underlying99]
theorem hnew10 (seed : Int) (same : Bool) (w : World) : Calls Tryz.prog 9 #[.int .u64 seed, .bool same] w fun e w' => e = .returned (.agg #[.int .u64 seed, .bool same]) ∧ Pure w w' := by
  go_enter Tryz.func9, Tryz.ntmps9
  go_wp2
  refine bodyPost_ret (v := .agg #[.int .u64 seed, .bool same]) (by simp [results, Tryz.results9, go_sem]) rfl ⟨rfl, ?_⟩
  (repeat' (first | (with_reducible exact Mod.refl _ _) | (with_reducible refine Mod.alloc ?_ _) | (with_reducible refine Mod.drew ?_) | (with_reducible refine Mod.drewN ?_ _) | (with_reducible refine Mod.setCell ?_ ?_ _) | (refine Mod.then ?_ (by with_reducible assumption) ?_)))
  (all_goals (intros; first | (exfalso; assumption) | omega | (simp at *; done) | (simp at *; omega)))
def eK (k : UInt8) : Option Ent := some ⟨⟨#[k]⟩, [], 0, 1⟩
theorem okK (k : UInt8) : (Ent.mk ⟨#[k]⟩ [] 0 1).Ok := ⟨by show 0 < 1; omega, by show 1 ≤ 250; omega, by show 0 ≤ 65536; omega, by show (0 : Int) < 1; omega⟩
/-- The index behind the examples, and behind the entries c .. -/
def H10 (L : List (Option Ent)) : Nat → Nat := sumL 0 true L
def gk1 : List Grp := putM (H10 [eK 97]) (newG 1) 0
def gk2 : List Grp := putM (H10 [eK 97, eK 98]) gk1 1
def gk3 : List Grp := remM (H10 [eK 97, eK 98]) (H10 [none, eK 98]) gk2 0
def gk4 : List Grp := putM (H10 [none, eK 98, eK 97]) gk3 2
def kb : Nat → UInt8
  | 0 => 99
  | 1 => 100
  | 2 => 101
  | 3 => 102
  | 4 => 103
  | _ => 104
def LK : Nat → List (Option Ent)
  | 0 => [none, eK 98, eK 97]
  | i + 1 => LK i ++ [eK (kb i)]
def GK : Nat → List Grp
  | 0 => gk4
  | i + 1 => putM (H10 (LK (i + 1))) (GK i) (LK i).length
theorem gk2_sizes : gk2.length = 1 ∧ tombN gk2 = 0 := by decide +kernel
theorem gk4_sizes : gk4.length = 1 ∧ tombN gk4 = 0 := by decide +kernel
theorem GK6_sizes : (GK 6).length = 2 ∧ tombN (GK 6) = 0 := by decide +kernel

theorem dremG {w W : World} {d : Nat} {L : List (Option Ent)} {Gs : List Grp} (h : DG w W d 0 true L Gs) {s : Nat} {x : Ent} (hx : L[s]? = some (some x)) :
    Calls Tryz.prog 16 #[dPtr d, .int .u32 s] W fun e w' => ∃ a n c, e = .returned (.tuple #[.agg #[.string x.key, .slice a n c, .int .u64 x.dl, .int .u64 x.birth], .int .i64 0]) ∧ DG w w' d 0 true (L.set s none) (remM (H10 L) (H10 (L.set s none)) Gs s) := by
  obtain ⟨D, h1, h2, h3⟩ := h
  refine Calls.mono (drem_ok h1 hx) ?_
  rintro e w' ⟨a, n, c, rfl, _, _, D', g1, g2, g3⟩
  exact ⟨a, n, c, rfl, DG.step h2 h3 g1 g2 g3⟩
theorem DG.quiet {N : Nat} {w A B : World} {d seed : Nat} {same : Bool} {L : List (Option Ent)} {Gs : List Grp} (h : DG w A d seed same L Gs) (hN : w.heap.size ≤ N) (hq : Quiet N A B) : DG w B d seed same L Gs := by
  obtain ⟨D, ⟨q, p, sv, Dl, h1, h2, h3⟩, h4, h5⟩ := h
  exact ⟨D, ⟨q, p, sv, Dl, h1.quiet hq, h2, h3⟩, hq.mod h4 hN, h5⟩
def catK (G : List (Nat × Ent)) : ByteArray := G.foldl (fun s g => s ++ g.2.key) ⟨#[]⟩
structure KI (w : World) (d b5 : Nat) (pre : List Given) (W : World) : Prop where
  dg : DG w W d 0 true (LK 0) (GK 0)
  r5 : W.heap[b5]? = some (.cells #[.string (catK (pre.map keyG))] 9 (0, 0))
  sz : (catK (pre.map keyG)).size ≤ 250 * pre.length
set_option maxHeartbeats 4000000 in
theorem known10_true (w : World) : Calls Tryz.prog 7 #[] w fun e w' => e = .returned (.bool true) ∧ Pure w w' := by
  have HN : Hid (∀ W, Calls Tryz.prog 9 #[.int .u64 0, .bool true] W fun e w' => e = .returned (.agg #[.int .u64 0, .bool true]) ∧ Pure W w') := fun W => hnew10 0 true W
  (refine (callsIn_wide (n := 0)).1 (callsIn_of_wp_marks Tryz.func7 rfl trivial (wpIn_wide.2 ?_) rfl); simp only [Tryz.ntmps7, List.size_toArray, List.length_cons, List.length_nil, Nat.reduceAdd, Nat.reduceSub, Array.replicate_succ, Array.replicate_zero, List.push_toArray, List.append_toArray, List.nil_append, List.cons_append])
  go_upto_region 2 with (first
    | (go_at_call 9; refine Calls.mono (HN.out _) ?_; rintro e w1 ⟨rfl, hp1⟩)
    | (go_at_call 8; refine Calls.mono (newG' (w := w) 0 true (by decide) hp1) ?_; rintro e w2 ⟨d, rfl, hd, _⟩))
  have HD := Lib.hid hd
  clear hd hp1 HN
  have T1 : True := trivial; have T2 : True := trivial
  go_upto_region 4 with (first
    | (go_at_call 43; clear T1; refine Calls.mono (inserts_ok HD.out ⟨#[97]⟩ (okK 97) (by decide) (by decide) 0 rfl) ?_; rintro e w3 ⟨rfl, hd3, _⟩; replace HD : Hid (DG w w3 d 0 true [eK 97] gk1) := hd3; clear hd3)
    | (go_at_call 43; clear T2; refine Calls.mono (inserts_ok HD.out ⟨#[98]⟩ (okK 98) (by decide) (by decide) 1 rfl) ?_; rintro e w4 ⟨rfl, hd4, _⟩; replace HD : Hid (DG w w4 d 0 true [eK 97, eK 98] gk2) := hd4; clear hd4))
  have HB := Lib.hid (show Calls Tryz.prog 11 #[dPtr d, .agg #[.string ⟨#[97]⟩, .slice none 0 0, .int .u64 0, .int .u64 1]] w4 (dins0 w4 11) from by
    obtain ⟨D9, q1, q2, q3⟩ := HD.out
    exact dins_busy q1 ⟨⟨#[97]⟩, [], 0, 1⟩ (okK 97) (t := 0) (by decide) none 0 0 (ReadAt.nil _ _))
  have T1 : True := trivial; have T2 : True := trivial
  go_upto_region 7 with (first
    | (go_at_call 11; refine Calls.mono HB.out ?_; rintro e w5 ⟨rfl, hp5⟩; replace HD := Lib.hid (HD.out.pure hp5); clear hp5)
    | (go_at_call 44; clear T1; refine Calls.mono (finds10_ok HD.out ⟨#[98]⟩ (by decide) 1 0 (by decide) (by decide)) ?_; rintro e w6 ⟨rfl, hp6⟩; replace HD := Lib.hid (HD.out.pure hp6); clear hp6)
    | (go_at_call 44; clear T2; refine Calls.mono (finds10_ok HD.out ⟨#[99]⟩ (by decide) 0 9 (by decide) (by decide)) ?_; rintro e w7 ⟨rfl, hp7⟩; replace HD := Lib.hid (HD.out.pure hp7); clear hp7)
    | (go_at_call 13; refine Calls.mono (sizes10_ok HD.out 2 1 0 rfl (by rw [gk2_sizes.1]; rfl) (by rw [gk2_sizes.2]; rfl)) ?_; rintro e w8 ⟨rfl, hp8⟩; replace HD := Lib.hid (HD.out.pure hp8); clear hp8))
  have HR := Lib.hid (dremG HD.out (s := 0) (x := ⟨⟨#[97]⟩, [], 0, 1⟩) rfl)
  go_upto_region 8 with (go_at_call 16; refine Calls.mono HR.out ?_; rintro e w9 ⟨a9, n9, c9, rfl, hd9⟩)
  have hpa : Pure w9 (w9.alloc (.cells #[.string ⟨#[97]⟩, .slice a9 n9 c9, .int .u64 0, .int .u64 1] 42)) := (Mod.refl _ w9).alloc _
  have z4 := heap_new (w := w9) (o := .cells #[.string ⟨#[97]⟩, .slice a9 n9 c9, .int .u64 0, .int .u64 1] 42 (0, 0)) rfl
  replace HD : Hid (DG w (w9.alloc (.cells #[.string ⟨#[97]⟩, .slice a9 n9 c9, .int .u64 0, .int .u64 1] 42)) d 0 true [none, eK 98] gk3) := DG.pure hd9 hpa
  clear hd9 hpa HB HR
  generalize w9.alloc (.cells #[.string ⟨#[97]⟩, .slice a9 n9 c9, .int .u64 0, .int .u64 1] 42) = W9 at *
  generalize w9.heap.size = b4 at *
  have z4_0 := cell_of_row _ _ 0 _ _ _ z4; have z4_1 := cell_of_row _ _ 1 _ _ _ z4; have z4_2 := cell_of_row _ _ 2 _ _ _ z4; have z4_3 := cell_of_row _ _ 3 _ _ _ z4; have z4_f := (fun j => frozen_of_row _ _ j _ _ z4); have z4_l := lt_of_block z4; simp at z4_0 z4_1 z4_2 z4_3; have H_z4 := Lib.hid z4; clear z4
  have T1 : True := trivial; have T2 : True := trivial
  go_upto_region 10 with (first
    | (go_at_call 44; clear T1; refine Calls.mono (finds10_ok HD.out ⟨#[97]⟩ (by decide) 0 9 (by decide) (by decide)) ?_; rintro e w10 ⟨rfl, hp10⟩; replace HD := Lib.hid (HD.out.pure hp10); clear hp10)
    | (go_at_call 43; refine Calls.mono (inserts_ok HD.out ⟨#[97]⟩ (okK 97) (by decide) (by decide) 2 rfl) ?_; rintro e w11 ⟨rfl, hd11, _⟩; replace HD : Hid (DG w w11 d 0 true (LK 0) (GK 0)) := hd11; clear hd11)
    | (go_at_call 44; clear T2; refine Calls.mono (finds10_ok HD.out ⟨#[97]⟩ (by decide) 2 0 (by decide) (by decide)) ?_; rintro e w12 ⟨rfl, hp12⟩; replace HD := Lib.hid (HD.out.pure hp12); clear hp12)
    | (go_at_call 13; refine Calls.mono (sizes10_ok HD.out 3 1 0 rfl (by show ((gk4.length : Nat) : Int) = 1; rw [gk4_sizes.1]; rfl) (by show ((tombN gk4 : Nat) : Int) = 0; rw [gk4_sizes.2]; rfl)) ?_; rintro e w13 ⟨rfl, hp13⟩; replace HD := Lib.hid (HD.out.pure hp13); clear hp13))
  clear z4_0 z4_1 z4_2 z4_3 z4_f z4_l
  clear H_z4
  have HAl := Lib.hid (show Calls Tryz.prog 45 #[.pointer (some ⟨d, 0, none⟩)] w13 (allA w13 (LK 0)) from by obtain ⟨D9, q1, q2, q3⟩ := HD.out; exact dall_ok q1)
  go_upto_region 11 with (go_at_call 45; refine Calls.mono HAl.out ?_; rintro e w14 ⟨M, B, a3, c3, hM, rfl, hit, hp14, hB, hfr⟩)
  have hpb : Pure w14 (w14.alloc (.cells #[.string ⟨#[]⟩] 9)) := (Mod.refl _ w14).alloc _
  have z5 := heap_new (w := w14) (o := .cells #[.string ⟨#[]⟩] 9 (0, 0)) rfl
  have hit' := hit.keeps (KeepsIt.of_pure hpb)
  have hb5ww : w.heap.size ≤ w14.heap.size := (HD.out.pure hp14).pu.size
  replace HD := Lib.hid ((HD.out.pure hp14).pure hpb)
  clear hit hp14 hpb hB hfr HAl
  generalize w14.alloc (.cells #[.string ⟨#[]⟩] 9) = W14 at *
  generalize w14.heap.size = b5 at *
  have HIT := Lib.hid hit'
  have hItlt : ∀ k, iterBlocks B (.slice a3 M.length c3) M k → k < W14.heap.size := by
    rintro k (rfl | h | ⟨e, v, hm, h⟩)
    · exact lt_of_block hit'.box
    · exact owns_lt hit'.row h
    · exact owns_lt (hit'.vals e v hm) h
  have hI0 : KI w d b5 [] W14 := ⟨HD.out, z5, by decide⟩
  have n5 := Lib.hid (iter_types hit' z5 (by decide) (by decide) (by decide))
  have hw14 : w.heap.size ≤ W14.heap.size := HD.out.pu.size
  have hb5 : b5 < W14.heap.size := lt_of_block z5
  have hb5w : w.heap.size ≤ b5 := hb5ww
  clear hit' z5
  generalize hItd : iterBlocks B (.slice a3 M.length c3) M = It at *
  go_wp2
  refine wpIn_wide.1 (wp_range2 (gf := 127) (lb := #[.pointer (some ⟨B, 0, none⟩)]) rfl (enters_of Tryz.func127 (by kernel_rfl) rfl) (It := It) (hItd ▸ All_iter HIT.out W14.heap.size (Nat.le_refl _)) hItlt (fun _ => rfl)
    (fun pre W => KI w d b5 pre W ∧ W14.heap.size ≤ W.heap.size) (fun _ _ _ => False) ?hI ?hIx ⟨hI0, Nat.le_refl _⟩ ?round ?done ?stop)
  case hI => exact fun pre A B ⟨h, hz⟩ hq => ⟨⟨h.dg.quiet hw14 hq, hq.cells h.r5, h.sz⟩, Nat.le_trans hz (Mod.size hq)⟩
  case hIx => exact fun _ _ _ _ h _ => h
  case stop => exact fun _ _ _ _ _ h _ => h.elim
  case done =>
    rintro l xs W hl hS ⟨hI, hWs⟩ hK
    have hS' : xs.map keyG = live (LK 0) := by rw [← hM]; exact hS
    have r5 := hI.r5
    rw [hS', show catK (live (LK 0)) = ⟨#[98, 97]⟩ from by decide] at r5
    have HG := Lib.hid hI.dg
    clear hI hI0 hItlt hS hS' hWs
    have HK := Lib.hid hK
    clear hK
    go_wp2
    go_loopw [9] (fun v9 wr => ∃ i, v9 = .int .i64 (i : Nat) ∧ i ≤ 6 ∧ DG w wr d 0 true (LK i) (GK i) ∧ wr.heap[b5]? = some (.cells #[.string ⟨#[98, 97]⟩] 9 (0, 0)) ∧ wr.heap[l]? = some (.deferred (some []))) (fun v9 _ => 6 - (intOf v9).toNat)
    case atStart => exact ⟨0, rfl, by omega, HG.out, r5, HK.out⟩
    case round =>
      obtain ⟨i, rfl, hi, hg, hr5, hrl⟩ := hrel
      have HGi := Lib.hid hg
      clear hg
      have hcase : i = 0 ∨ i = 1 ∨ i = 2 ∨ i = 3 ∨ i = 4 ∨ i = 5 ∨ i = 6 := by omega
      have HR5 := Lib.hid hr5; have HRL := Lib.hid hrl
      clear hr5 hrl
      rcases hcase with rfl | rfl | rfl | rfl | rfl | rfl | rfl
      · have hkx : (⟨#[99, 100, 101, 102, 103, 104]⟩ : ByteArray).extract 0 1 = ⟨#[99]⟩ := by decide
        go_upto_region 18 with (go_at_call 43; refine Calls.mono (inserts_ok HGi.out ⟨#[99]⟩ (okK 99) (by decide) (by decide) 3 (by decide)) ?_; rintro e w16 ⟨rfl, hd16, hk16⟩)
        have q5 := hk16 b5 _ HR5.out (by intro cs T fz e; cases e; decide)
        have ql := hk16 l _ HRL.out (by intro cs T fz e; cases e)
        clear hk16
        go_wp2
        go_roundw
        case rel => exact ⟨1, by go_num, by omega, hd16, q5, ql⟩
        case measure => simp [intOf]
      · have hkx : (⟨#[99, 100, 101, 102, 103, 104]⟩ : ByteArray).extract 1 2 = ⟨#[100]⟩ := by decide
        go_upto_region 18 with (go_at_call 43; refine Calls.mono (inserts_ok HGi.out ⟨#[100]⟩ (okK 100) (by decide) (by decide) 4 (by decide)) ?_; rintro e w16 ⟨rfl, hd16, hk16⟩)
        have q5 := hk16 b5 _ HR5.out (by intro cs T fz e; cases e; decide)
        have ql := hk16 l _ HRL.out (by intro cs T fz e; cases e)
        clear hk16
        go_wp2
        go_roundw
        case rel => exact ⟨2, by go_num, by omega, hd16, q5, ql⟩
        case measure => simp [intOf]
      · have hkx : (⟨#[99, 100, 101, 102, 103, 104]⟩ : ByteArray).extract 2 3 = ⟨#[101]⟩ := by decide
        go_upto_region 18 with (go_at_call 43; refine Calls.mono (inserts_ok HGi.out ⟨#[101]⟩ (okK 101) (by decide) (by decide) 5 (by decide)) ?_; rintro e w16 ⟨rfl, hd16, hk16⟩)
        have q5 := hk16 b5 _ HR5.out (by intro cs T fz e; cases e; decide)
        have ql := hk16 l _ HRL.out (by intro cs T fz e; cases e)
        clear hk16
        go_wp2
        go_roundw
        case rel => exact ⟨3, by go_num, by omega, hd16, q5, ql⟩
        case measure => simp [intOf]
      · have hkx : (⟨#[99, 100, 101, 102, 103, 104]⟩ : ByteArray).extract 3 4 = ⟨#[102]⟩ := by decide
        go_upto_region 18 with (go_at_call 43; refine Calls.mono (inserts_ok HGi.out ⟨#[102]⟩ (okK 102) (by decide) (by decide) 6 (by decide)) ?_; rintro e w16 ⟨rfl, hd16, hk16⟩)
        have q5 := hk16 b5 _ HR5.out (by intro cs T fz e; cases e; decide)
        have ql := hk16 l _ HRL.out (by intro cs T fz e; cases e)
        clear hk16
        go_wp2
        go_roundw
        case rel => exact ⟨4, by go_num, by omega, hd16, q5, ql⟩
        case measure => simp [intOf]
      · have hkx : (⟨#[99, 100, 101, 102, 103, 104]⟩ : ByteArray).extract 4 5 = ⟨#[103]⟩ := by decide
        go_upto_region 18 with (go_at_call 43; refine Calls.mono (inserts_ok HGi.out ⟨#[103]⟩ (okK 103) (by decide) (by decide) 7 (by decide)) ?_; rintro e w16 ⟨rfl, hd16, hk16⟩)
        have q5 := hk16 b5 _ HR5.out (by intro cs T fz e; cases e; decide)
        have ql := hk16 l _ HRL.out (by intro cs T fz e; cases e)
        clear hk16
        go_wp2
        go_roundw
        case rel => exact ⟨5, by go_num, by omega, hd16, q5, ql⟩
        case measure => simp [intOf]
      · have hkx : (⟨#[99, 100, 101, 102, 103, 104]⟩ : ByteArray).extract 5 6 = ⟨#[104]⟩ := by decide
        go_upto_region 18 with (go_at_call 43; refine Calls.mono (inserts_ok HGi.out ⟨#[104]⟩ (okK 104) (by decide) (by decide) 8 (by decide)) ?_; rintro e w16 ⟨rfl, hd16, hk16⟩)
        have q5 := hk16 b5 _ HR5.out (by intro cs T fz e; cases e; decide)
        have ql := hk16 l _ HRL.out (by intro cs T fz e; cases e)
        clear hk16
        go_wp2
        go_roundw
        case rel => exact ⟨6, by go_num, by omega, hd16, q5, ql⟩
        case measure => simp [intOf]
      · have hq : DG w wr d 0 true (LK 6) (GK 6) := HGi.out
        have r5 := HR5.out
        have HS := Lib.hid (sizes10_ok hq 9 2 0 (by decide) (by rw [GK6_sizes.1]; rfl) (by rw [GK6_sizes.2]; rfl))
        have HLn := Lib.hid (fun (W' : World) (hW : Pure wr W') => len10_ok (hq.pure hW) 8 (by decide))
        have HPU := Lib.hid hq.pu
        clear hq
        have r5_0 := cell_of_row _ _ 0 _ _ _ r5; have r5_f := (fun j => frozen_of_row _ _ j _ _ r5); have r5_l := lt_of_block r5; simp at r5_0; have H_r5 := Lib.hid r5; clear r5
        go_wp2_with (first
          | (go_at_call 13; refine Calls.mono HS.out ?_; rintro e w17 ⟨rfl, hp17⟩)
          | (go_at_call 19; refine Calls.mono (HLn.out _ hp17) ?_; rintro e w18 ⟨rfl, rfl⟩))
        have hk := hp17.heap (fun h => h) HRL.out
        have hlw : w.heap.size ≤ l := Nat.le_trans hw14 hl
        exact bodyPostM_drained (v := .bool true) hk (by simp [results, Tryz.results7, go_sem]) ⟨rfl, (Quiet.putObj (N := W14.heap.size) (.deferred none) hl hk rfl).mod (HPU.out.trans hp17) hw14⟩
  case round =>
    rintro l pre ⟨i, x, v⟩ W K ⟨hI, hWs⟩ hG hK
    obtain ⟨va, vc, hv, _⟩ := owns_form hG.2.1
    dsimp only at hv
    subst hv
    dsimp only [encG]
    obtain ⟨⟨post, hpost⟩, _, _⟩ := hG
    rw [hM] at hpost
    have hmem := live_mem (g := (i, x)) (by rw [hpost]; simp [keyG])
    have hkx : x.key.size ≤ 250 := by
      obtain ⟨D9, q1, q2, q3⟩ := hI.dg
      exact (q1.ok.ent x (List.mem_of_getElem? hmem)).k1
    have hpl : pre.length ≤ 4194304 := by
      obtain ⟨D9, q1, q2, q3⟩ := hI.dg
      have := Nat.le_trans (live_length _) q1.ok.len; rw [hpost] at this; simp at this; omega
    have HCI := Lib.hid hI; have HK := Lib.hid hK
    clear hI hK hI0 HIT hItlt hpost hmem
    gi_wp2
    have hP : Pure W (W.alloc (.cells #[.string x.key, .slice va (bytesOf x.val).length vc, .int .u64 x.dl, .int .u64 x.birth] 42)) := (Mod.refl _ W).alloc _
    have z9 := heap_new (w := W) (o := .cells #[.string x.key, .slice va (bytesOf x.val).length vc, .int .u64 x.dl, .int .u64 x.birth] 42 (0, 0)) rfl
    refine HK.out _ _ hP (fun l' W2 hl hr hq => ?_)
    have hdg := (HCI.out.dg.pure hP).quiet hw14 hq
    have r5 := hq.cells (hP.heap (fun h => h) HCI.out.r5)
    have hsz := HCI.out.sz
    have zz9 := hq.cells z9
    have hsz2 : W14.heap.size ≤ W2.heap.size := by have := Mod.size hq; have := hP.size; omega
    clear HK hP hq z9 HCI
    generalize W.heap.size = b8 at zz9 ⊢
    have hcat : catK ((pre ++ [(i, x, Value.slice va (bytesOf x.val).length vc)]).map keyG) = catK (pre.map keyG) ++ x.key := by simp [catK, keyG]
    have HCAT := Lib.hid hcat
    clear hcat
    generalize catK (pre.map keyG) = ks at *
    have hsum : ¬ (9223372036854775807 < ks.size + x.key.size) := by omega
    have hsum2 : ks.size + x.key.size ≤ 9223372036854775807 := by omega
    have HDG := Lib.hid hdg
    have R5 := Lib.hid r5
    clear hdg
    have zz9_0 := cell_of_row _ _ 0 _ _ _ zz9; have zz9_1 := cell_of_row _ _ 1 _ _ _ zz9; have zz9_2 := cell_of_row _ _ 2 _ _ _ zz9; have zz9_3 := cell_of_row _ _ 3 _ _ _ zz9; have zz9_f := (fun j => frozen_of_row _ _ j _ _ zz9); have zz9_l := lt_of_block zz9; simp at zz9_0 zz9_1 zz9_2 zz9_3; have H_zz9 := Lib.hid zz9; clear zz9
    have r5_0 := cell_of_row _ _ 0 _ _ _ r5; have r5_f := (fun j => frozen_of_row _ _ j _ _ r5); have r5_l := lt_of_block r5; simp at r5_0; have H_r5 := Lib.hid r5; clear r5
    gi_wp2
    have hm : Mod (fun k => k = b5) W2 (W2.setCell ⟨b5, 0, none⟩ (.string (ks ++ x.key))) := Mod.set1 _ _ _
    refine ⟨KeepsRec.of_mod hm (fun k hk h => by omega), KeepsIt.of_mod hm (fun k hk h => by subst h; exact n5.out hk), ⟨?_, ?_, ?_⟩, Nat.le_trans hsz2 hm.size⟩
    · obtain ⟨D9, q1, q2, q3⟩ := HDG.out
      refine ⟨D9, q1.frame hm (fun k hk e => ?_) (fun k _ e cs fz e2 => by subst e; rw [R5.out] at e2; cases e2), q2.then hm (fun k hk e => by omega), q3⟩
      subst e; rcases q1.types hk R5.out with e | e | e | e | e <;> cases e
    · rw [HCAT.out]; exact heap_set1 (j := 0) R5.out
    · rw [HCAT.out, ByteArray.size_append, List.length_append]; simp; omega
end Go.Proofs.YtapplindfijngaaGreat

/- compact.Dict of a dictionary. -/
namespace Go.Proofs.YtapplindfijngaaGreat
open Go.RowKit Go.Shelf
set_option maxRecDepth 100000

/-! ### the log without tombstones -/
def packL (L : List (Option Ent)) : List (Option Ent) := (live L).map (fun g => some g.2)
theorem packL_get {L : List (Option Ent)} {i : Nat} {e : Ent} (h : (packL L)[i]? = some (some e)) : ∃ s, (live L)[i]? = some (s, e) ∧ L[s]? = some (some e) := by
  unfold packL at h
  rw [List.getElem?_map] at h
  cases hg : (live L)[i]? with
  | none => rw [hg] at h; cases h
  | some g =>
    rw [hg] at h
    simp at h
    subst h
    exact ⟨g.1, rfl, live_mem (List.mem_of_getElem? hg)⟩
theorem live_idx {L : List (Option Ent)} {i j s : Nat} {e f : Ent} (h1 : (live L)[i]? = some (s, e)) (h2 : (live L)[j]? = some (s, f)) : i = j := by
  have hup := liveFrom_up' L 0
  rw [show liveFrom 0 L = live L from rfl, List.pairwise_iff_getElem] at hup
  obtain ⟨hi, ei⟩ := List.getElem?_eq_some_iff.1 h1
  obtain ⟨hj, ej⟩ := List.getElem?_eq_some_iff.1 h2
  rcases Nat.lt_trichotomy i j with h | h | h
  · have := hup i j (by simpa using hi) (by simpa using hj) h
    simp [ei, ej] at this
  · exact h
  · have := hup j i (by simpa using hj) (by simpa using hi) h
    simp [ei, ej] at this
theorem packL_keys {L : List (Option Ent)} (h : KeysOk L) : KeysOk (packL L) := by
  intro i j e f hi hj hk
  obtain ⟨s, h1, h2⟩ := packL_get hi
  obtain ⟨t, h3, h4⟩ := packL_get hj
  have := h s t e f h2 h4 hk
  subst this
  exact live_idx h1 h3
theorem dhash_ok {w : World} {D : Nat → Prop} {d seed : Nat} {same : Bool} {L : List (Option Ent)} {Gs : List Grp} (h : DictAt w D d seed same L Gs) : Calls Tryz.prog 40 #[dPtr d] w fun e w' => e = .returned (.agg #[.int .u64 seed, .bool same]) ∧ Pure w w' := by
  obtain ⟨q, p, sv, Dl, h1, h2, h3⟩ := h
  have hp0 : Pure w (w.alloc (.cells #[.int .u64 0, .bool false] 27)) := (Mod.refl _ w).alloc _
  have z := heap_new (w := w) (o := .cells #[.int .u64 0, .bool false] 27 (0, 0)) rfl
  have HZ := Lib.hid (dzero_ok (h1.pure hp0))
  have hb := (h1.pure hp0).box
  have HP := Lib.hid hp0
  clear h1 h2 h3 hp0
  go_enter Tryz.func40, Tryz.ntmps40
  go_upto_region 1 with fail
  generalize w.alloc (.cells #[.int .u64 0, .bool false] 27) = W1 at *
  obtain ⟨b, hbe⟩ : ∃ b, w.heap.size = b := ⟨_, rfl⟩
  rw [hbe] at z ⊢
  have HB := Lib.hid hbe
  clear hbe
  have hb_0 := cell_of_row _ _ 0 _ _ _ hb; have hb_1 := cell_of_row _ _ 1 _ _ _ hb; have hb_2 := cell_of_row _ _ 2 _ _ _ hb; have hb_3 := cell_of_row _ _ 3 _ _ _ hb; have hb_f := (fun j => frozen_of_row _ _ j _ _ hb); have hb_l := lt_of_block hb; simp at hb_0 hb_1 hb_2 hb_3; have H_hb := Lib.hid hb; clear hb
  have z_0 := cell_of_row _ _ 0 _ _ _ z; have z_1 := cell_of_row _ _ 1 _ _ _ z; have z_f := (fun j => frozen_of_row _ _ j _ _ z); have z_l := lt_of_block z; simp at z_0 z_1; have H_z := Lib.hid z; clear z
  go_wp2_with (go_at_call 48; refine Calls.mono HZ.out ?_; rintro e w' ⟨rfl, rfl⟩)
  obtain ⟨f1, x0, x1⟩ := gfin (v0 := .int .u64 seed) (v1 := .bool same) H_z.out HP.out (by have := HB.out; omega) rfl
  obtain ⟨Y, hY⟩ : ∃ Y, (W1.setCell ⟨b, 0, none⟩ (.int .u64 seed)).setCell ⟨b, 1, none⟩ (.bool same) = Y := ⟨_, rfl⟩
  rw [hY] at f1 x0 x1 ⊢
  exact bodyPost_ret (v := .agg #[.int .u64 seed, .bool same]) (by simp [results, Tryz.results40, go_sem, x0, x1]) rfl ⟨rfl, f1⟩
def compAPost (w : World) (L : List (Option Ent)) (e : Ending) (w' : World) : Prop :=
  ∃ q a c D, e = .returned (.tuple #[.pointer (some ⟨q, 0, none⟩), .agg #[.slice a (live L).length c, .int .i64 L.length], .int .i64 0]) ∧ LogAt w' D q (packL L) ∧
    w'.ownsRow 0 43 1 (.slice a (live L).length c) (live L).length ((live L).map fun g => .int .u32 g.1) ∧ Pure w w' ∧ (∀ k, D k → w.heap.size ≤ k) ∧ Fresh w (.slice a (live L).length c)
theorem compA_ok {w : World} {D : Nat → Prop} {p : Nat} {L : List (Option Ent)} (h : LogAt w D p L) : Calls Tryz.prog 87 #[.pointer (some ⟨p, 0, none⟩)] w (compAPost w L) := by
  obtain ⟨sv, M, rfl, h⟩ := h
  refine Calls.mono (compact_Log h) ?_
  rintro e w' ⟨q, a, c, D', sv', M', rfl, h1, h2, h3, h4, h5, h6⟩
  exact ⟨q, a, c, D', by rw [List.length_map], ⟨sv', M', h2, h1⟩, h3, h4, h5, h6⟩
def compDPost (w : World) (seed : Nat) (same : Bool) (L : List (Option Ent)) (e : Ending) (w' : World) : Prop :=
  ∃ d2 D2 a c, e = .returned (.tuple #[.pointer (some ⟨d2, 0, none⟩), .agg #[.slice a (live L).length c, .int .i64 L.length], .int .i64 0]) ∧ DictAt w' D2 d2 seed same (packL L) (ofM seed same (packL L) (live (packL L))) ∧
    w'.ownsRow 0 43 1 (.slice a (live L).length c) (live L).length ((live L).map fun g => .int .u32 g.1) ∧ Pure w w' ∧ (∀ k, D2 k → w.heap.size ≤ k) ∧ Fresh w (.slice a (live L).length c)
set_option maxHeartbeats 2000000 in
theorem compD_ok {w : World} {D : Nat → Prop} {d seed : Nat} {same : Bool} {L : List (Option Ent)} {Gs : List Grp} (h : DictAt w D d seed same L Gs) : Calls Tryz.prog 35 #[dPtr d] w (compDPost w seed same L) := by
  have HD := Lib.hid h
  have hsd := h.sd
  have HKO := Lib.hid (packL_keys h.keeps.keys)
  have hp0 : Pure w (w.alloc (.cells #[.slice none 0 0, .int .i64 0] 81)) := (Mod.refl _ w).alloc _
  have z3 := heap_new (w := w) (o := .cells #[.slice none 0 0, .int .i64 0] 81 (0, 0)) rfl
  have HLg := Lib.hid (dlog_ok (h.pure hp0))
  have HP := Lib.hid hp0
  clear h hp0
  go_enter Tryz.func35, Tryz.ntmps35
  go_upto_region 1 with fail
  generalize w.alloc (.cells #[.slice none 0 0, .int .i64 0] 81) = W1 at *
  obtain ⟨b3, hb3⟩ : ∃ b, w.heap.size = b := ⟨_, rfl⟩
  rw [hb3] at z3 ⊢
  have HB3 := Lib.hid hb3
  clear hb3
  go_upto_region 2 with (first
    | (go_at_call 39; refine Calls.mono HLg.out ?_; rintro e w2 ⟨q, Dq, rfl, hq, hp2, hDq⟩; dsimp only [logPtr] at *; have HCL := Lib.hid (compA_ok hq))
    | (go_at_call 87; refine Calls.mono HCL.out ?_; rintro e w3 ⟨q3, a, c, D3, rfl, hlog3, hrow3, hp3, hD3, hfr3⟩))
  have hpa : Pure w3 (w3.alloc (.cells #[.slice a (live L).length c, .int .i64 L.length] 81)) := (Mod.refl _ w3).alloc _
  have z6 := heap_new (w := w3) (o := .cells #[.slice a (live L).length c, .int .i64 L.length] 81 (0, 0)) rfl
  have hpw := ((hp2.trans hp3).trans hpa)
  have HL3 := Lib.hid (hlog3.pure hpa)
  have HROW := Lib.hid (owns_mod (show w3.ownsRow 0 43 1 (.slice a (live L).length c) (live L).length ((live L).map fun g => .int .u32 g.1) from hrow3) hpa (fun _ _ h => h))
  have h12 : W1.heap.size ≤ w2.heap.size := hp2.size
  have h23 : w2.heap.size ≤ w3.heap.size := hp3.size
  have h01 : w.heap.size ≤ W1.heap.size := HP.out.size
  have hfr : Hid (Fresh w (.slice a (live L).length c)) := fun g e => by have := hfr3 g e; omega
  have zz3 := hpw.heap (fun h => h) z3
  have hb3l : b3 < w2.heap.size := Nat.lt_of_lt_of_le (lt_of_block z3) h12
  replace HP := Lib.hid (HP.out.trans hpw)
  clear hlog3 hrow3 hpa hpw hp2 hp3 hfr3 hD3 hq HCL HLg z3 hDq
  generalize hW4 : w3.alloc (.cells #[.slice a (live L).length c, .int .i64 L.length] 81) = W4 at *
  clear hW4
  obtain ⟨b6, hb6⟩ : ∃ b, w3.heap.size = b := ⟨_, rfl⟩
  rw [hb6] at z6 h23 ⊢
  clear hb6
  have HH := Lib.hid (dhash_ok (HD.out.pure HP.out))
  have HO := Lib.hid (fun (W : World) (hW : Pure W4 W) => of_ok (HL3.out.pure hW) seed same hsd)
  go_upto_region 5 with (first
    | (go_at_call 40; refine Calls.mono HH.out ?_; rintro e w5 ⟨rfl, hp5⟩)
    | (go_at_call 26; refine Calls.mono (HO.out _ hp5) ?_; rintro e w7 (⟨_, ⟨d2, D2, rfl, hd2, hD2⟩, hp7⟩ | ⟨hbad, _, _⟩); rotate_left 1; exact absurd HKO.out hbad))
  have hpx := hp5.trans hp7
  have y3 := hpx.heap (fun h => h) zz3; have y6 := hpx.heap (fun h => h) z6
  have HDD := Lib.hid hd2; have HD2 := Lib.hid hD2
  have HROW2 := Lib.hid (owns_mod HROW.out hpx (fun _ _ h => h))
  have HP7 := Lib.hid (HP.out.trans hpx)
  have h45 : W4.heap.size ≤ w5.heap.size := hp5.size
  have h04 : w.heap.size ≤ W4.heap.size := HP.out.size
  have Y3 := Lib.hid y3
  have hb36 : b3 ≠ b6 := by omega
  clear hd2 hD2 hp5 hp7 hpx HH HO HROW HP zz3 z6 HKO HL3
  have y3_0 := cell_of_row _ _ 0 _ _ _ y3; have y3_1 := cell_of_row _ _ 1 _ _ _ y3; have y3_f := (fun j => frozen_of_row _ _ j _ _ y3); have y3_l := lt_of_block y3; simp at y3_0 y3_1; have H_y3 := Lib.hid y3; clear y3
  have y6_0 := cell_of_row _ _ 0 _ _ _ y6; have y6_1 := cell_of_row _ _ 1 _ _ _ y6; have y6_f := (fun j => frozen_of_row _ _ j _ _ y6); have y6_l := lt_of_block y6; simp at y6_0 y6_1; have H_y6 := Lib.hid y6; clear y6
  go_upto_region 7 with fail
  go_region_held3 (fun w' => w'.cell? ⟨b6, 0, none⟩ = some (.slice a (live L).length c) ∧ w'.cell? ⟨b6, 1, none⟩ = some (.int .i64 L.length))
    (first | exact ⟨y6_0, y6_1⟩ | exact ⟨(Mod.set2 _ _ _ _ _).cell (fun e => hb36 e.symm) y6_0, (Mod.set2 _ _ _ _ _).cell (fun e => hb36 e.symm) y6_1⟩)
    (fail)
  all_goals
    try go_wp2
    obtain ⟨f1, x0, x1⟩ := gfin (w := w) (X := w7) (v0 := .slice a (live L).length c) (v1 := .int .i64 L.length) Y3.out HP7.out (by have := HB3.out; omega) rfl
    have hm : Mod (fun k => k = b3) w7 ((w7.setCell ⟨b3, 0, none⟩ (.slice a (live L).length c)).setCell ⟨b3, 1, none⟩ (.int .i64 L.length)) := Mod.set2 b3 0 1 _ _
    obtain ⟨Y, hY⟩ : ∃ Y, (w7.setCell ⟨b3, 0, none⟩ (.slice a (live L).length c)).setCell ⟨b3, 1, none⟩ (.int .i64 L.length) = Y := ⟨_, rfl⟩
    rw [hY] at f1 x0 x1 hm ⊢
    replace hm := hm.drew
    have x0' : Y.drew.cell? ⟨b3, 0, none⟩ = _ := x0
    have x1' : Y.drew.cell? ⟨b3, 1, none⟩ = _ := x1
    refine bodyPost_ret (v := .tuple #[.pointer (some ⟨d2, 0, none⟩), .agg #[.slice a (live L).length c, .int .i64 L.length], .int .i64 0]) (by simp [results, Tryz.results35, go_sem, x0, x1, x0', x1']) rfl ⟨d2, D2, a, c, rfl, HDD.out.frame hm (fun k hk e => ?_) (fun k _ e cs fz e2 => ?_), owns_mod HROW2.out hm (fun g hg e => ?_), f1.drew, fun k hk => ?_, hfr.out⟩
    · subst e
      rcases HDD.out.types hk Y3.out with e | e | e | e | e <;> cases e
    · subst e; rw [Y3.out] at e2; cases e2
    · subst e
      obtain ⟨cc, e2⟩ := owns_type HROW2.out hg
      rw [Y3.out] at e2; cases e2
    · have := HD2.out k hk; omega
end Go.Proofs.YtapplindfijngaaGreat
