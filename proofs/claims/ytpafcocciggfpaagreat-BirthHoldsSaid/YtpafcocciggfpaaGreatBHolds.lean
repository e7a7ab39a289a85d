/- law12.BirthHolds answers true. -/
import Derived.Test.YtpafcocciggfpaaGreatBHold
namespace Go.Proofs.YtpafcocciggfpaaGreat
open Go.RowKit Go.Shelf
set_option maxRecDepth 100000
attribute [local go_sem] Oper.semAt_some

@[go_sem] theorem eql_seq2 (w : World) (fn : Fn) (fi ca : Array Value) : (binOp .eql 87 (.func fn fi ca) .nilFunc).run Tryz.prog w = .ok (.bool false) w := by
  simp only [binOp]
  simp [Op.equal, Op.maxDepth, run_equal_func w 9999 _ fn fi ca Tryz.underlying87]
structure HI1 (w : World) (d b6 b7 last : Nat) (L : List (Option Ent)) (W : World) : Prop where
  df : DF w W d last false L
  r6 : W.heap[b6]? = some (.cells #[.bool false] 4 (0, 0))
  r7 : W.heap[b7]? = some (.cells #[.pointer (some ⟨d, 0, none⟩)] 24 (0, 0))
theorem HI1.pure {w : World} {d b6 b7 last : Nat} {L : List (Option Ent)} {W W' : World} (h : HI1 w d b6 b7 last L W) (hp : Pure W W') : HI1 w d b6 b7 last L W' := ⟨h.df.pure hp, hp.heap (fun h => h) h.r6, hp.heap (fun h => h) h.r7⟩
theorem HI1.keep {w : World} {d b6 b7 last : Nat} {L L' : List (Option Ent)} {W W' : World} (h : HI1 w d b6 b7 last L W) (hd : DF w W' d last false L') (hk : TKeep W W') : HI1 w d b6 b7 last L' W' := ⟨hd, hk.box h.r6 (by decide), hk.box h.r7 (by decide)⟩
theorem HI1.ctr {w : World} {d b6 b7 last c m : Nat} {L : List (Option Ent)} {W W' : World} (h : HI1 w d b6 b7 last L W) (hc : Ctr W c m) (hcw : w.heap.size ≤ c) (hm : Mod (fun k => k = c) W W') : HI1 w d b6 b7 last L W' :=
  ⟨h.df.ctr hc hcw hm, hm.heap (fun e => by subst e; have := h.r6; rw [hc] at this; cases this) h.r6, hm.heap (fun e => by subst e; have := h.r7; rw [hc] at this; cases this) h.r7⟩
/-- Between two rounds over All. -/
structure HI2 (w : World) (d d2 b6 b7 b14 b17 last : Nat) (L : List (Option Ent)) (pre : List Given) (W : World) : Prop where
  hi : HI1 w d b6 b7 last L W
  hx : DF w W d2 last false (packL L)
  r14 : W.heap[b14]? = some (.cells #[.pointer (some ⟨d2, 0, none⟩)] 24 (0, 0))
  r17 : W.heap[b17]? = some (.cells #[.int .u64 (lastB (pre.map keyG))] 22 (0, 0))
  r18 : W.heap[b17 + 1]? = some (.cells #[.int .i64 pre.length] 3 (0, 0))
theorem HI2.pure {w : World} {d d2 b6 b7 b14 b17 last : Nat} {L : List (Option Ent)} {pre : List Given} {A B : World} (h : HI2 w d d2 b6 b7 b14 b17 last L pre A) (hp : Pure A B) : HI2 w d d2 b6 b7 b14 b17 last L pre B :=
  ⟨h.hi.pure hp, h.hx.pure hp, hp.heap (fun h => h) h.r14, hp.heap (fun h => h) h.r17, hp.heap (fun h => h) h.r18⟩
theorem DF.quiet {N : Nat} {w A B : World} {d seed : Nat} {same : Bool} {L : List (Option Ent)} (h : DF w A d seed same L) (hN : w.heap.size ≤ N) (hq : Quiet N A B) : DF w B d seed same L := by
  obtain ⟨D, Gs, ⟨q, p, sv, Dl, h1, h2, h3⟩, h4, h5⟩ := h
  exact ⟨D, Gs, ⟨q, p, sv, Dl, h1.quiet hq, h2, h3⟩, hq.mod h4 hN, h5⟩
theorem HI2.quiet {N : Nat} {w : World} {d d2 b6 b7 b14 b17 last : Nat} {L : List (Option Ent)} {pre : List Given} {A B : World} (h : HI2 w d d2 b6 b7 b14 b17 last L pre A) (hN : w.heap.size ≤ N) (hq : Quiet N A B) : HI2 w d d2 b6 b7 b14 b17 last L pre B :=
  ⟨⟨h.hi.df.quiet hN hq, hq.cells h.hi.r6, hq.cells h.hi.r7⟩, h.hx.quiet hN hq, hq.cells h.r14, hq.cells h.r17, hq.cells h.r18⟩
theorem nextH {W : World} {c m : Nat} (h : Ctr W c m) (hm : m < 18446744073709551615) : Calls Tryz.prog 54 #[cPtr c] W fun e w' => e = .returned (.tuple #[.int .u64 ((m : Int) + 1), .int .i64 0]) ∧ Ctr w' c (m + 1) ∧ Mod (fun k => k = c) W w' := by
  have := CNext_ok h (by omega)
  unfold nextPost nxV nxS at this
  rw [if_neg (by omega), if_neg (by omega)] at this
  refine this.mono ?_
  rintro e w' ⟨rfl, h1, h2⟩
  exact ⟨by simp, h1, h2⟩
def goneK (last n : Nat) (gs : List Nat) : List (Option Ent) := gs.foldl rmL (LB last n)
set_option maxHeartbeats 8000000 in
theorem BirthHolds_true {w : World} (last : Int) (h0 : 0 ≤ last) (h1 : last ≤ 18446744073709551615) (n : Int) (a : Option Addr) (ca : Nat) (gs : List Nat) (hg : ReadAt w (.slice a gs.length ca) 1 (gs.map (fun x : Nat => (.int .u32 x : Value)))) (hgu : ∀ z ∈ gs, z ≤ 4294967295) (hgl : gs.length ≤ 9223372036854775807) :
    Calls Tryz.prog 8 #[.int .u64 last, .int .i64 n, .slice a gs.length ca] w fun e w' => e = .returned (.bool true) ∧ Pure w w' := by
  obtain ⟨last, rfl⟩ := Int.eq_ofNat_of_zero_le h0
  have hp0 : Pure w (w.alloc (.cells #[.bool false] 4)) := (Mod.refl _ w).alloc _
  have h6 := heap_new (w := w) (o := .cells #[.bool false] 4 (0, 0)) rfl
  have wl : IntKind.i64.wrap (gs.length : Int) = (gs.length : Int) := IntWalk.i64_in _ (by omega)
  obtain ⟨k, hkl⟩ : ∃ k, gs.length = k := ⟨_, rfl⟩
  have HGL := Lib.hid hkl
  have HG := Lib.hid hg
  have HGU := Lib.hid hgu
  have HP0 := Lib.hid hp0
  rw [hkl] at HG wl hgl ⊢
  clear hg hgu hkl hp0
  by_cases c1 : 0 ≤ n
  · have d1 : decide (n < 0) = false := decide_eq_false (by omega)
    by_cases c2 : n ≤ 60
    · have d2 : decide (60 < n) = false := decide_eq_false (by omega)
      by_cases c3 : k ≤ 60
      · have d3 : decide (60 < (k : Int)) = false := decide_eq_false (by omega)
        by_cases c4 : last ≤ 9223372036854775808
        · have d4 : decide (9223372036854775808 < (last : Int)) = false := decide_eq_false (by omega)
          obtain ⟨n, rfl⟩ := Int.eq_ofNat_of_zero_le c1
          have hn : n ≤ 60 := by omega
          clear c1 c2 d1 h0 h1 hgl
          have HN := Lib.hid (fun W => hnew_ok last false W)
          (refine (callsIn_wide (n := 0)).1 (callsIn_of_wp_marks Tryz.func8 rfl trivial (wpIn_wide.2 ?_) rfl); simp only [Tryz.ntmps8, List.size_toArray, List.length_cons, List.length_nil, Nat.reduceAdd, Nat.reduceSub, Array.replicate_succ, Array.replicate_zero, List.push_toArray, List.append_toArray, List.nil_append, List.cons_append])
          go_upto_region 1 with fail
          generalize w.alloc (.cells #[.bool false] 4) = W1 at *
          obtain ⟨b6, hb6⟩ : ∃ b, w.heap.size = b := ⟨_, rfl⟩
          rw [hb6] at h6 ⊢
          have HB6 := Lib.hid hb6
          clear hb6
          go_upto_region 4 with (first
            | (go_at_call 12; refine Calls.mono (HN.out _) ?_; rintro e w2 ⟨rfl, hp2⟩)
            | (go_at_call 11; refine Calls.mono (newF (w := w) last false (by omega) (HP0.out.trans hp2)) ?_; rintro e w3 ⟨d, rfl, hd3, hp3⟩; dsimp only [dPtr])
            | (go_at_call 53; refine Calls.mono (CNew_ok last _) ?_; rintro e w4 ⟨rfl, hc4, hp4, hl4⟩; dsimp only [cPtr]))
          have hpa : Pure w4 (w4.alloc (.cells #[.pointer (some ⟨d, 0, none⟩)] 24)) := (Mod.refl _ w4).alloc _
          have z7 := heap_new (w := w4) (o := .cells #[.pointer (some ⟨d, 0, none⟩)] 24 (0, 0)) rfl
          have HC := Lib.hid ((show Ctr w4 w3.heap.size last from hc4).pure hpa)
          have hcw : w.heap.size ≤ w3.heap.size := hd3.pu.size
          have HI : Hid (HI1 w d b6 w4.heap.size last [] (w4.alloc (.cells #[.pointer (some ⟨d, 0, none⟩)] 24))) := ⟨(hd3.pure hp4).pure hpa, (((hp2.trans hp3).trans hp4).trans hpa).heap (fun h => h) h6, z7⟩
          have hw7 : w.heap.size ≤ w4.heap.size := ((hd3.pure hp4).pu).size
          clear hp2 hd3 hp3 hc4 hp4 hl4 hpa z7 HN h6
          generalize w4.alloc (.cells #[.pointer (some ⟨d, 0, none⟩)] 24) = W5 at *
          generalize w4.heap.size = b7 at *
          generalize w3.heap.size = c at *
          have hz7 := HI.out.r7
          have HZ7 := Lib.hid hz7
          have hz7_0 := cell_of_row _ _ 0 _ _ _ hz7; have hz7_f := (fun j => frozen_of_row _ _ j _ _ hz7); have hz7_l := lt_of_block hz7; simp at hz7_0; have H_hz7 := Lib.hid hz7; clear hz7
          go_upto_region 7 with fail
          clear hz7_0 hz7_f hz7_l
          clear H_hz7
          go_loopw [9] (fun v9 wr => ∃ i, v9 = .int .i64 (i : Nat) ∧ i ≤ n ∧ HI1 w d b6 b7 last (LB last i) wr ∧ Ctr wr c (last + i)) (fun v9 _ => n - (intOf v9).toNat)
          case atStart => exact ⟨0, rfl, Nat.zero_le _, HI.out, HC.out⟩
          case round =>
            obtain ⟨i, rfl, hi, hI, hCi⟩ := hrel
            by_cases hlt : i < n
            · have hlt' : (i : Int) < (n : Int) := by omega
              have wi : IntKind.i64.wrap ((i : Int) + 1) = (i : Int) + 1 := IntWalk.i64_in _ (by omega)
              have HNx := Lib.hid (nextH hCi (by omega))
              have HI2 := Lib.hid hI; have HC2 := Lib.hid hCi
              clear hI hCi HI HC HZ7
              go_upto_region 10 with (go_at_call 54; refine Calls.mono HNx.out ?_; rintro e w5 ⟨rfl, hc5, hm5⟩)
              have hi5 := HI2.out.ctr HC2.out hcw hm5
              have HC5 := Lib.hid hc5
              have kc := conv_bytes (w := w5.alloc (.cells #[.int .u8 i] 5)) (a := some ⟨w5.heap.size, 0, none⟩) (n := 1) (c := 1) [UInt8.ofNat i] (by
                have := ReadAt.of_block (w := w5.alloc (.cells #[.int .u8 i] 5)) (k := 1) 1 1 (heap_new rfl) rfl (by simp [Value.oneCell'])
                simpa [bytesOf, u8_of i (by omega)] using this)
              have hpc : Pure w5 (w5.alloc (.cells #[.int .u8 i] 5)) := (Mod.refl _ w5).alloc _
              have wu : IntKind.u64.wrap (i : Int) = i := u64_wrap i (by omega)
              have w8 : IntKind.u8.wrap (i : Int) = i := by simp [IntKind.wrap, IntKind.signed, IntKind.bits]; omega
              have wa : IntKind.u64.wrap ((last : Int) + i) = (last : Int) + i := by have := u64_wrap (last + i) (by omega); simpa using this
              have wb : IntKind.u64.wrap ((last : Int) + i + 1) = (last : Int) + i + 1 := by have := u64_wrap (last + i + 1) (by omega); simpa using this
              have HAd := Lib.hid (addsT (hi5.pure hpc).df ⟨#[UInt8.ofNat i]⟩ ((last : Int) + i + 1) ⟨by show 0 < 1; omega, by show 1 ≤ 250; omega, by show 0 ≤ 65536; omega, by show (0 : Int) < (last : Int) + i + 1; omega⟩ (by rw [LB_length]; omega) (LB_find (by omega)))
              have hz7 := hi5.r7
              have HI5 := Lib.hid (hi5.pure hpc)
              clear hc5 hm5 hi5 HI2 HC2 HNx
              have hz7_0 := cell_of_row _ _ 0 _ _ _ hz7; have hz7_f := (fun j => frozen_of_row _ _ j _ _ hz7); have hz7_l := lt_of_block hz7; simp at hz7_0; have H_hz7 := Lib.hid hz7; clear hz7
              go_upto_region 8 with (go_at_call 55; refine Calls.mono HAd.out ?_; rintro e w6 ⟨rfl, hd6, hk6⟩)
              go_wp2
              go_roundw
              case rel =>
                refine ⟨i + 1, by go_num, hlt, ?_, ?_⟩
                · rw [LB_succ]; exact HI5.out.keep hd6 hk6
                · exact hk6.box (show _ from HC5.out.pure hpc) (by decide)
              case measure => simp [intOf]; omega
            · have hin : i = n := by omega
              subst hin
              have hlt' : ¬ ((i : Int) < (i : Int)) := by omega
              have HI2 := Lib.hid hI
              clear hCi HI HC HZ7 hI
              go_upto_region 13 with fail
              go_loopw [82] (fun v82 wr => ∃ j, v82 = .int .i64 (j : Nat) ∧ j ≤ k ∧ HI1 w d b6 b7 last (goneK last i (gs.take j)) wr) (fun v82 _ => k - (intOf v82).toNat)
              case atStart => exact ⟨0, rfl, Nat.zero_le _, HI2.out⟩
              case round =>
                obtain ⟨j, rfl, hj, hI⟩ := hrel
                have wj : IntKind.i64.wrap ((j : Int) + 1) = (j : Int) + 1 := IntWalk.i64_in _ (by omega)
                by_cases hlt2 : j < k
                · have hlt2' : (j : Int) < (k : Int) := by omega
                  have hgl2 := HGL.out
                  obtain ⟨s, hs⟩ : ∃ s, gs[j]? = some s := ⟨_, List.getElem?_eq_getElem (by omega)⟩
                  have hsu := HGU.out s (List.mem_of_getElem? hs)
                  have hsu' : (s : Int) ≤ 4294967295 := by omega
                  obtain ⟨a', n', c', e, _, _, hh0, hcc⟩ := (HG.out.frame hI.df.pu (fun _ _ h => h))
                  cases e
                  obtain ⟨ad, rfl⟩ : ∃ ad, a = some ad := by
                    cases a with
                    | none => have := hh0 rfl; omega
                    | some ad => exact ⟨ad, rfl⟩
                  have cj := hcc ad rfl j (.int .u32 s) (by rw [List.getElem?_map, hs]; rfl)
                  have htk : gs.take (j + 1) = gs.take j ++ [s] := by rw [List.take_add_one, hs]; rfl
                  have hnx : goneK last i (gs.take (j + 1)) = rmL (goneK last i (gs.take j)) s := by unfold goneK; rw [htk, List.foldl_append]; rfl
                  have HNX := Lib.hid hnx
                  have HRm := Lib.hid (remT hI.df s hsu)
                  have hz7 := hI.r7
                  have HIj := Lib.hid hI
                  clear hI hcc hh0 htk hnx hs HI2
                  have hz7_0 := cell_of_row _ _ 0 _ _ _ hz7; have hz7_f := (fun j => frozen_of_row _ _ j _ _ hz7); have hz7_l := lt_of_block hz7; simp at hz7_0; have H_hz7 := Lib.hid hz7; clear hz7
                  go_upto_region 16 with (go_at_call 19; refine Calls.mono HRm.out ?_; rintro e w8 ⟨⟨v8, rfl⟩, hd8, hk8⟩)
                  go_wp2
                  go_roundw
                  case rel => exact ⟨j + 1, by go_num, hlt2, by rw [HNX.out]; exact HIj.out.keep hd8 hk8⟩
                  case measure => simp [intOf]; omega
                · have hjk : j = k := by omega
                  subst hjk
                  have hlt2' : ¬ ((j : Int) < (j : Int)) := by omega
                  have hI3 := hI
                  rw [show gs.take j = gs from List.take_of_length_le (by have := HGL.out; omega)] at hI3
                  obtain ⟨L, hL⟩ : ∃ L, goneK last i gs = L := ⟨_, rfl⟩
                  rw [hL] at hI3
                  have hinc : IncL L := by rw [← hL]; exact (LB_inc c4 hn).rms gs
                  have hlen : L.length ≤ 60 := by rw [← hL]; unfold goneK; rw [rms_length, LB_length]; exact hn
                  have HINC := Lib.hid hinc
                  have HI3 := Lib.hid hI3
                  have hz7 := hI3.r7
                  have HCp := Lib.hid (compT hI3.df)
                  clear hI hI3 HI2 hL hinc
                  have hz7_0 := cell_of_row _ _ 0 _ _ _ hz7; have hz7_f := (fun j => frozen_of_row _ _ j _ _ hz7); have hz7_l := lt_of_block hz7; simp at hz7_0; have H_hz7 := Lib.hid hz7; clear hz7
                  go_upto_region 18 with (go_at_call 46; refine Calls.mono HCp.out ?_; rintro e w9 ⟨d2, a2, n2, c2, rfl, hd9, hp9⟩; dsimp only [dPtr])
                  have hpb : Pure w9 ((w9.alloc (.cells #[.pointer (some ⟨d2, 0, none⟩)] 24)).alloc (.cells #[.slice a2 n2 c2, .int .i64 L.length] 98)) := ((Mod.refl _ w9).alloc _).alloc _
                  have z14 := heap_keep (o := .cells #[.slice a2 n2 c2, .int .i64 L.length] 98) (heap_new (w := w9) (o := .cells #[.pointer (some ⟨d2, 0, none⟩)] 24 (0, 0)) rfl)
                  have HI4 := Lib.hid (HI3.out.pure (hp9.trans hpb))
                  have HX4 := Lib.hid (hd9.pure hpb)
                  clear hz7_0 hz7_f hz7_l
                  clear hd9 hp9 hpb HI3 HCp H_hz7
                  generalize (w9.alloc (.cells #[.pointer (some ⟨d2, 0, none⟩)] 24)).alloc (.cells #[.slice a2 n2 c2, .int .i64 L.length] 98) = W9 at *
                  obtain ⟨b14, hb14⟩ : ∃ b, w9.heap.size = b := ⟨_, rfl⟩
                  rw [hb14] at z14 ⊢
                  clear hb14
                  have Z14 := Lib.hid z14
                  have hz7 := HI4.out.r7
                  have hz7_0 := cell_of_row _ _ 0 _ _ _ hz7; have hz7_f := (fun j => frozen_of_row _ _ j _ _ hz7); have hz7_l := lt_of_block hz7; simp at hz7_0; have H_hz7 := Lib.hid hz7; clear hz7
                  have z14_0 := cell_of_row _ _ 0 _ _ _ z14; have z14_f := (fun j => frozen_of_row _ _ j _ _ z14); have z14_l := lt_of_block z14; simp at z14_0; have H_z14 := Lib.hid z14; clear z14
                  have hs1 : sortedF 0 (live L) = true := sorted_inc HINC.out.inc HINC.out.inc.lo
                  have hs2 : sortedF 0 (live (packL L)) = true := sorted_inc HINC.out.inc.pack HINC.out.inc.pack.lo
                  have T1 : True := trivial; have T2 : True := trivial
                  have HS1 := Lib.hid (sortedK HI4.out.df true hs1)
                  have HS2 := Lib.hid (fun (W : World) (hW : Pure W9 W) => sortedK (HX4.out.pure hW) true hs2)
                  clear hs1 hs2
                  go_upto_region 20 with (first
                    | (go_at_call 56; clear T1; refine Calls.mono HS1.out ?_; rintro e w10 ⟨rfl, hp10⟩; have k14 := hp10.cell (fun h => h) z14_0)
                    | (go_at_call 56; clear T2; refine Calls.mono (HS2.out _ hp10) ?_; rintro e w11 ⟨rfl, hp11⟩))
                  have hpc := hp10.trans hp11
                  have HI5 := Lib.hid (HI4.out.pure hpc); have HX5 := Lib.hid (HX4.out.pure hpc)
                  have y14 := hpc.heap (fun h => h) Z14.out
                  clear hz7_0 hz7_f hz7_l
                  clear z14_0 z14_f z14_l
                  clear H_hz7 H_z14 hp10 hp11 hpc HS1 HS2 HI4 HX4 k14 Z14
                  go_upto_region 21 with fail
                  have hpd : Pure w11 ((w11.alloc (.cells #[.int .u64 0] 22)).alloc (.cells #[.int .i64 0] 3)) := ((Mod.refl _ w11).alloc _).alloc _
                  have z17 := heap_keep (o := .cells #[.int .i64 0] 3) (heap_new (w := w11) (o := .cells #[.int .u64 0] 22 (0, 0)) rfl)
                  have z18 := heap_new (w := w11.alloc (.cells #[.int .u64 0] 22)) (o := .cells #[.int .i64 0] 3 (0, 0)) (n := w11.heap.size + 1) (by simp)
                  have HI6 := Lib.hid (HI5.out.pure hpd); have HX6 := Lib.hid (HX5.out.pure hpd)
                  replace y14 := hpd.heap (fun h => h) y14
                  have hw11 : w.heap.size ≤ w11.heap.size := HI5.out.df.pu.size
                  clear hpd HI5 HX5
                  generalize (w11.alloc (.cells #[.int .u64 0] 22)).alloc (.cells #[.int .i64 0] 3) = W12 at *
                  generalize w11.heap.size = b17 at *
                  have hz7 := HI6.out.r7
                  have hz7_0 := cell_of_row _ _ 0 _ _ _ hz7; have hz7_f := (fun j => frozen_of_row _ _ j _ _ hz7); have hz7_l := lt_of_block hz7; simp at hz7_0; have H_hz7 := Lib.hid hz7; clear hz7
                  have HAl := Lib.hid (show Calls Tryz.prog 39 #[.pointer (some ⟨d, 0, none⟩)] W12 (allA W12 L) from by obtain ⟨D9, G9, q1, q2, q3⟩ := HI6.out.df; exact dall_ok q1)
                  go_wp2_with (go_at_call 39; refine Calls.mono HAl.out ?_; rintro e w13 ⟨M, B, a3, c3, hM, rfl, hit, hp13, hB, hfr⟩)
                  have HIT := Lib.hid hit
                  have hItlt : ∀ k, iterBlocks B (.slice a3 M.length c3) M k → k < w13.heap.size := by
                    rintro k (rfl | h | ⟨e, v, hm, h⟩)
                    · exact lt_of_block hit.box
                    · exact owns_lt hit.row h
                    · exact owns_lt (hit.vals e v hm) h
                  have hI0 : HI2 w d d2 b6 b7 b14 b17 last L [] w13 := ⟨HI6.out.pure hp13, HX6.out.pure hp13, hp13.heap (fun h => h) y14, hp13.heap (fun h => h) z17, hp13.heap (fun h => h) z18⟩
                  have n17 := Lib.hid (iter_types hit hI0.r17 (by decide) (by decide) (by decide)); have n18 := Lib.hid (iter_types hit hI0.r18 (by decide) (by decide) (by decide))
                  have hw13 : w.heap.size ≤ w13.heap.size := hI0.hi.df.pu.size
                  have h1713 : b17 + 1 < w13.heap.size := lt_of_block hI0.r18
                  clear hz7_0 hz7_f hz7_l
                  clear hit hp13 hB hfr HI6 HX6 y14 z17 z18 HAl H_hz7
                  generalize hItd : iterBlocks B (.slice a3 M.length c3) M = It at *
                  refine wpIn_wide.1 (wp_range2 (gf := 149) (lb := #[.pointer (some ⟨B, 0, none⟩)]) rfl (enters_of Tryz.func149 (by kernel_rfl) rfl) (It := It) (hItd ▸ All_iter HIT.out w13.heap.size (Nat.le_refl _)) hItlt (fun _ => rfl)
                    (fun pre W => HI2 w d d2 b6 b7 b14 b17 last L pre W ∧ w13.heap.size ≤ W.heap.size) (fun _ _ _ => False) ?hI ?hIx ⟨hI0, Nat.le_refl _⟩ ?round ?done ?stop)
                  case hI => exact fun pre A B ⟨h, hz⟩ hq => ⟨h.quiet hw13 hq, Nat.le_trans hz (Mod.size hq)⟩
                  case hIx => exact fun _ _ _ _ h _ => h
                  case stop => exact fun _ _ _ _ _ h _ => h.elim
                  case done =>
                    rintro l xs W hl hS ⟨hI, hWs⟩ hK
                    have hS' : xs.map keyG = live L := by rw [← hM]; exact hS
                    have hlen2 : xs.length = liveOf L := by have := congrArg List.length hS'; rw [List.length_map] at this; rw [this]; exact liveOf_live' L 0
                    have hin : Inc (xs.map keyG) := by rw [hS']; exact HINC.out.inc
                    obtain ⟨p1, p2, p3, _⟩ := hin.last
                    have ha := after_end (L := L) p2 (by rw [← hS']; exact p1)
                    have A1 := Lib.hid (fun (W' : World) (hW : Pure W W') => afterF (hI.hi.df.pure hW) (lastB (xs.map keyG)) 0 14 ⟨p2, by omega, by omega, by omega⟩ (by simpa using ha))
                    have A2 := Lib.hid (fun (W' : World) (hW : Pure W W') => (show Calls Tryz.prog 22 #[.pointer (some ⟨d, 0, none⟩)] W' fun e w' => e = .returned (.int .i64 xs.length) ∧ W' = w' from by
                      obtain ⟨D9, G9, q1, q2, q3⟩ := hI.hi.df.pure hW
                      rw [hlen2]; exact dlen_ok q1))
                    have r6 := hI.hi.r6; have r7 := hI.hi.r7; have r17 := hI.r17; have r18 := hI.r18
                    have HPU := Lib.hid hI.hi.df.pu
                    have HKn := Lib.hid (fun W => known12_true W)
                    have HWS := Lib.hid hWs
                    clear hI hI0 hItlt hS hS' hlen2 hin p1 p2 p3 ha hWs
                    generalize lastB (xs.map keyG) = lb at *
                    generalize xs.length = xl at *
                    have R6 := Lib.hid r6
                    have hb6w : w.heap.size ≤ b6 := by have := HB6.out; omega
                    have r6_0 := cell_of_row _ _ 0 _ _ _ r6; have r6_f := (fun j => frozen_of_row _ _ j _ _ r6); have r6_l := lt_of_block r6; simp at r6_0; have H_r6 := Lib.hid r6; clear r6
                    have r7_0 := cell_of_row _ _ 0 _ _ _ r7; have r7_f := (fun j => frozen_of_row _ _ j _ _ r7); have r7_l := lt_of_block r7; simp at r7_0; have H_r7 := Lib.hid r7; clear r7
                    have r17_0 := cell_of_row _ _ 0 _ _ _ r17; have r17_f := (fun j => frozen_of_row _ _ j _ _ r17); have r17_l := lt_of_block r17; simp at r17_0; have H_r17 := Lib.hid r17; clear r17
                    have r18_0 := cell_of_row _ _ 0 _ _ _ r18; have r18_f := (fun j => frozen_of_row _ _ j _ _ r18); have r18_l := lt_of_block r18; simp at r18_0; have H_r18 := Lib.hid r18; clear r18
                    have h67 : b6 ≠ b7 := fun e => by subst e; rw [H_r6.out] at H_r7; cases H_r7.out
                    have h617 : b6 ≠ b17 := fun e => by subst e; rw [H_r6.out] at H_r17; cases H_r17.out
                    have h618 : b6 ≠ b17 + 1 := fun e => by subst e; rw [H_r6.out] at H_r18; cases H_r18.out
                    go_wp2
                    go_region_held3 (fun w' => w'.cell? ⟨b7, 0, none⟩ = some (.pointer (some ⟨d, 0, none⟩)) ∧ w'.cell? ⟨b17, 0, none⟩ = some (.int .u64 lb) ∧ w'.cell? ⟨b17 + 1, 0, none⟩ = some (.int .i64 xl))
                      (first | exact ⟨r7_0, r17_0, r18_0⟩ | exact ⟨hp1.cell (fun h => h) r7_0, hp1.cell (fun h => h) r17_0, hp1.cell (fun h => h) r18_0⟩ | exact ⟨(hp1.trans hp3).cell (fun h => h) r7_0, (hp1.trans hp3).cell (fun h => h) r17_0, (hp1.trans hp3).cell (fun h => h) r18_0⟩ | exact ⟨(Mod.set1 b6 0 _).cell (fun e => h67 e.symm) ((hp1.trans hp3).cell (fun h => h) r7_0), (Mod.set1 b6 0 _).cell (fun e => h617 e.symm) ((hp1.trans hp3).cell (fun h => h) r17_0), (Mod.set1 b6 0 _).cell (fun e => h618 e.symm) ((hp1.trans hp3).cell (fun h => h) r18_0)⟩)
                      (first
                        | (go_at_call 57; refine Calls.mono (A1.out _ (by first | exact Mod.refl _ _ | exact Mod.drew (Mod.refl _ _))) ?_; rintro e v1 ⟨rfl, hp1⟩)
                        | (go_at_call 22; refine Calls.mono (A2.out _ (by first | exact Mod.of_drew hp1 | exact hp1)) ?_; rintro e v2 ⟨rfl, rfl⟩)
                        | (go_at_call 52; refine Calls.mono (HKn.out _) ?_; rintro e v3 ⟨rfl, hp3⟩; have k6 := (hp1.trans hp3).cell (fun h => h) r6_0; have kf6 : v3.frozen? ⟨b6, 0, none⟩ = false := ((hp1.trans hp3).cells.2 b6 0 r6_l).trans (r6_f 0); have kl6 : b6 < v3.heap.size := (hp1.trans hp3).lt r6_l))
                    all_goals
                      try go_wp2
                      have hpx : Pure W v3 := Mod.of_drew (hp1.trans hp3)
                      have e6 := heap_set1 (j := 0) (v := .bool true) (hpx.heap (fun h => h) R6.out)
                      have hl6 : l ≠ b6 := fun e => by subst e; rw [R6.out] at hK; cases hK
                      have hk := heap_set_other (a := ⟨b6, 0, none⟩) (v := .bool true) (hpx.heap (fun h => h) hK) hl6
                      have hq : Quiet w13.heap.size _ _ := Quiet.putObj (.deferred none) hl hk rfl
                      have y6 := cell_of_row _ _ 0 _ _ _ (hq.cells e6)
                      simp at y6
                      exact bodyPostM_drained (v := .bool true) hk (by simp [results, Tryz.results8, go_sem, y6]) ⟨rfl, hq.mod ((HPU.out.trans hpx).then (Mod.set1 b6 0 _) (fun k hk e => by omega)) hw13⟩
                  case round =>
                    rintro l pre ⟨ii, x, v⟩ W K ⟨hI, hWs⟩ hG hK
                    obtain ⟨va, vc, hv, _⟩ := owns_form hG.2.1
                    dsimp only at hv
                    subst hv
                    dsimp only [encG]
                    obtain ⟨⟨post, hpost⟩, _, _⟩ := hG
                    rw [hM] at hpost
                    have HPO := Lib.hid hpost
                    have HCI := Lib.hid hI; have HK := Lib.hid hK
                    clear hI hK hI0 HIT hItlt hpost
                    gi_wp2
                    have hP : Pure W (W.alloc (.cells #[.string x.key, .slice va (bytesOf x.val).length vc, .int .u64 x.dl, .int .u64 x.birth] 42)) := (Mod.refl _ W).alloc _
                    have z9 := heap_new (w := W) (o := .cells #[.string x.key, .slice va (bytesOf x.val).length vc, .int .u64 x.dl, .int .u64 x.birth] 42 (0, 0)) rfl
                    refine HK.out _ _ hP (fun l' W2 hl hr hq => ?_)
                    replace HCI := Lib.hid ((HCI.out.pure hP).quiet hw13 hq)
                    have zz9 := hq.cells z9
                    have hsz2 : w13.heap.size ≤ W2.heap.size := by have := Mod.size hq; have := hP.size; omega
                    clear HK hP hq z9
                    generalize W.heap.size = b21 at zz9 ⊢
                    obtain ⟨q1, q2, q3, q4, q5⟩ := birth_laws (L := L) (pre := pre.map keyG) (post := post) (g := (ii, x)) HPO.out HINC.out.inc
                    have hprei : Inc (pre.map keyG) := by have := HINC.out.inc; rw [HPO.out] at this; exact (Inc.parts this).2.2
                    obtain ⟨_, q6, q7, _⟩ := hprei.last
                    have q8 := HINC.out.inc.lo (ii, x) (by rw [HPO.out]; simp [keyG]); have q9 := HINC.out.inc.hi (ii, x) (by rw [HPO.out]; simp [keyG])
                    have hiu : ii < L.length := (List.getElem?_eq_some_iff.1 (live_mem (g := (ii, x)) (by rw [HPO.out]; simp [keyG]))).1
                    dsimp only at q1 q3 q4 q5 q8 q9
                    rw [List.length_map] at q2 q4 q5
                    have hpl : pre.length ≤ 60 := by have := live_length L; rw [HPO.out] at this; simp at this; omega
                    have A1 := Lib.hid (fun (W : World) (hW : Pure W2 W) => afterF (HCI.out.hi.df.pure hW) (lastB (pre.map keyG)) ii 0 ⟨q6, by omega, by omega, by omega⟩ (by simpa using q1))
                    have A2 := Lib.hid (fun (W : World) (hW : Pure W2 W) => afterF (HCI.out.hx.pure hW) (lastB (pre.map keyG)) pre.length 0 ⟨q6, by omega, by omega, by omega⟩ (by simpa using q2))
                    have A3 := Lib.hid (fun (W : World) (hW : Pure W2 W) => findsF (HCI.out.hi.df.pure hW) x.birth ii 0 ⟨by omega, by omega, by omega⟩ (by simpa using q3))
                    have A4 := Lib.hid (fun (W : World) (hW : Pure W2 W) => ranksF (HCI.out.hi.df.pure hW) x.birth pre.length ⟨by omega, by omega⟩ (by rw [q4]; simp))
                    have A5 := Lib.hid (fun (W : World) (hW : Pure W2 W) => ranksF (HCI.out.hx.pure hW) x.birth pre.length ⟨by omega, by omega⟩ (by rw [q5]; simp))
                    have hlb : lastB ((pre ++ [(ii, x, Value.slice va (bytesOf x.val).length vc)]).map keyG) = x.birth := by rw [List.map_append]; exact lastB_snoc _ _
                    have HLB := Lib.hid hlb
                    have r7 := HCI.out.hi.r7; have r14 := HCI.out.r14; have r17 := HCI.out.r17; have r18 := HCI.out.r18
                    clear q1 q2 q3 q4 q5 q6 q7 q8 q9 hprei hlb
                    generalize lastB (pre.map keyG) = lb at *
                    have hpl3 : (pre.length : Int) ≤ 1000 := by omega
                    have wk : IntKind.u32.wrap (pre.length : Int) = pre.length := by simp [IntKind.wrap, IntKind.signed, IntKind.bits]; omega
                    have wk1 : IntKind.i64.wrap ((pre.length : Int) + 1) = (pre.length : Int) + 1 := IntWalk.i64_in _ (by omega)
                    have R17 := Lib.hid r17; have R18 := Lib.hid r18
                    have zz9_0 := cell_of_row _ _ 0 _ _ _ zz9; have zz9_1 := cell_of_row _ _ 1 _ _ _ zz9; have zz9_2 := cell_of_row _ _ 2 _ _ _ zz9; have zz9_3 := cell_of_row _ _ 3 _ _ _ zz9; have zz9_f := (fun j => frozen_of_row _ _ j _ _ zz9); have zz9_l := lt_of_block zz9; simp at zz9_0 zz9_1 zz9_2 zz9_3; have H_zz9 := Lib.hid zz9; clear zz9
                    have r7_0 := cell_of_row _ _ 0 _ _ _ r7; have r7_f := (fun j => frozen_of_row _ _ j _ _ r7); have r7_l := lt_of_block r7; simp at r7_0; have H_r7 := Lib.hid r7; clear r7
                    have r14_0 := cell_of_row _ _ 0 _ _ _ r14; have r14_f := (fun j => frozen_of_row _ _ j _ _ r14); have r14_l := lt_of_block r14; simp at r14_0; have H_r14 := Lib.hid r14; clear r14
                    have r17_0 := cell_of_row _ _ 0 _ _ _ r17; have r17_f := (fun j => frozen_of_row _ _ j _ _ r17); have r17_l := lt_of_block r17; simp at r17_0; have H_r17 := Lib.hid r17; clear r17
                    have r18_0 := cell_of_row _ _ 0 _ _ _ r18; have r18_f := (fun j => frozen_of_row _ _ j _ _ r18); have r18_l := lt_of_block r18; simp at r18_0; have H_r18 := Lib.hid r18; clear r18
                    have HPP : Hid (Pure W2 W2) := Lib.hid (Mod.refl _ _)
                    have T1 : True := trivial; have T2 : True := trivial; have T3 : True := trivial; have T4 : True := trivial; have T5 : True := trivial
                    gi_upto_region 29 with (first
                      | (gi_at_call 57; clear T1; refine CallsIn.mono (CallsIn.inRound l' (callsIn_wide.2 (A1.out _ HPP.out))) ?_; rintro e v1 ⟨rfl, hp1⟩; replace r7_0 := hp1.cell (fun h => h) r7_0; replace r14_0 := hp1.cell (fun h => h) r14_0; replace r17_0 := hp1.cell (fun h => h) r17_0; replace r18_0 := hp1.cell (fun h => h) r18_0; replace zz9_3 := hp1.cell (fun h => h) zz9_3; replace HPP := Lib.hid (HPP.out.trans hp1); clear hp1)
                      | (gi_at_call 57; clear T2; refine CallsIn.mono (CallsIn.inRound l' (callsIn_wide.2 (A2.out _ HPP.out))) ?_; rintro e v2 ⟨rfl, hp2⟩; replace r7_0 := hp2.cell (fun h => h) r7_0; replace r14_0 := hp2.cell (fun h => h) r14_0; replace r17_0 := hp2.cell (fun h => h) r17_0; replace r18_0 := hp2.cell (fun h => h) r18_0; replace zz9_3 := hp2.cell (fun h => h) zz9_3; replace HPP := Lib.hid (HPP.out.trans hp2); clear hp2)
                      | (gi_at_call 58; clear T3; refine CallsIn.mono (CallsIn.inRound l' (callsIn_wide.2 (A3.out _ HPP.out))) ?_; rintro e v3 ⟨rfl, hp3⟩; replace r7_0 := hp3.cell (fun h => h) r7_0; replace r14_0 := hp3.cell (fun h => h) r14_0; replace r17_0 := hp3.cell (fun h => h) r17_0; replace r18_0 := hp3.cell (fun h => h) r18_0; replace zz9_3 := hp3.cell (fun h => h) zz9_3; replace HPP := Lib.hid (HPP.out.trans hp3); clear hp3)
                      | (gi_at_call 59; clear T4; refine CallsIn.mono (CallsIn.inRound l' (callsIn_wide.2 (A4.out _ HPP.out))) ?_; rintro e v4 ⟨rfl, hp4⟩; replace r7_0 := hp4.cell (fun h => h) r7_0; replace r14_0 := hp4.cell (fun h => h) r14_0; replace r17_0 := hp4.cell (fun h => h) r17_0; replace r18_0 := hp4.cell (fun h => h) r18_0; replace zz9_3 := hp4.cell (fun h => h) zz9_3; replace HPP := Lib.hid (HPP.out.trans hp4); clear hp4)
                      | (gi_at_call 59; clear T5; refine CallsIn.mono (CallsIn.inRound l' (callsIn_wide.2 (A5.out _ HPP.out))) ?_; rintro e v5 ⟨rfl, hp5⟩; replace r7_0 := hp5.cell (fun h => h) r7_0; replace r14_0 := hp5.cell (fun h => h) r14_0; replace r17_0 := hp5.cell (fun h => h) r17_0; replace r18_0 := hp5.cell (fun h => h) r18_0; replace zz9_3 := hp5.cell (fun h => h) zz9_3; replace HPP := Lib.hid (HPP.out.trans hp5); clear hp5))
                    replace HCI := Lib.hid (HCI.out.pure HPP.out)
                    have hsz3 : w13.heap.size ≤ v5.heap.size := Nat.le_trans hsz2 HPP.out.size
                    have y17 := HPP.out.heap (fun h => h) R17.out; have y18 := HPP.out.heap (fun h => h) R18.out
                    have hPR := HPP.out
                    clear r17_0 r17_f r17_l
                    clear r18_0 r18_f r18_l
                    clear H_r17 H_r18 R17 R18 A1 A2 A3 A4 A5
                    have Y17 := Lib.hid y17; have Y18 := Lib.hid y18
                    have y17_0 := cell_of_row _ _ 0 _ _ _ y17; have y17_f := (fun j => frozen_of_row _ _ j _ _ y17); have y17_l := lt_of_block y17; simp at y17_0; have H_y17 := Lib.hid y17; clear y17
                    have y18_0 := cell_of_row _ _ 0 _ _ _ y18; have y18_f := (fun j => frozen_of_row _ _ j _ _ y18); have y18_l := lt_of_block y18; simp at y18_0; have H_y18 := Lib.hid y18; clear y18
                    gi_wp2
                    have hm2 : Mod (fun k => k = b17 ∨ k = b17 + 1) v5 ((v5.setCell ⟨b17, 0, none⟩ (.int .u64 x.birth)).setCell ⟨b17 + 1, 0, none⟩ (.int .i64 ((pre.length : Int) + 1))) := ((Mod.set1 b17 0 _).mono (fun _ _ h => .inl h)).trans ((Mod.set1 (b17 + 1) 0 _).mono (fun _ _ h => .inr h))
                    have e17 := heap_set_other (a := ⟨b17 + 1, 0, none⟩) (v := .int .i64 ((pre.length : Int) + 1)) (heap_set1 (j := 0) (v := .int .u64 x.birth) Y17.out) (by show b17 ≠ b17 + 1; omega)
                    have e18 := heap_set1 (j := 0) (v := .int .i64 ((pre.length : Int) + 1)) (heap_set_other (a := ⟨b17, 0, none⟩) (v := .int .u64 x.birth) Y18.out (by show b17 + 1 ≠ b17; omega))
                    generalize (v5.setCell ⟨b17, 0, none⟩ (.int .u64 x.birth)).setCell ⟨b17 + 1, 0, none⟩ (.int .i64 ((pre.length : Int) + 1)) = W6 at hm2 e17 e18 ⊢
                    have hm3 := (Mod.of_pure (S := fun k => k = b17 ∨ k = b17 + 1) HPP.out).trans hm2
                    have hnb : ∀ {k : Nat} {cs : Array Value} {T : TypeId}, v5.heap[k]? = some (.cells cs T (0, 0)) → T ≠ 22 → T ≠ 3 → ¬ (k = b17 ∨ k = b17 + 1) := fun {k cs T} hk t1 t2 e => by
                      rcases e with e | e
                      · subst e; rw [Y17.out] at hk; cases hk; exact t1 rfl
                      · subst e; rw [Y18.out] at hk; cases hk; exact t2 rfl
                    have hDF : ∀ {dd : Nat} {LL : List (Option Ent)}, DF w v5 dd last false LL → DF w W6 dd last false LL := fun {dd LL} h => by
                      obtain ⟨D9, G9, q1, q2, q3⟩ := h
                      refine ⟨D9, G9, q1.frame hm2 (fun k hk e => ?_) (fun k _ e cs fz e2 => ?_), q2.then hm2 (fun k hk e => by omega), q3⟩
                      · rcases e with e | e
                        · subst e; rcases q1.types hk Y17.out with e | e | e | e | e <;> cases e
                        · subst e; rcases q1.types hk Y18.out with e | e | e | e | e <;> cases e
                      · rcases e with e | e
                        · subst e; rw [Y17.out] at e2; cases e2
                        · subst e; rw [Y18.out] at e2; cases e2
                    refine ⟨KeepsRec.of_mod hm3 (fun k hk h => by omega), KeepsIt.of_mod hm3 (fun k hk h => by rcases h with rfl | rfl; exact n17.out hk; exact n18.out hk), ⟨⟨hDF HCI.out.hi.df, hm2.heap (hnb HCI.out.hi.r6 (by decide) (by decide)) HCI.out.hi.r6, hm2.heap (hnb HCI.out.hi.r7 (by decide) (by decide)) HCI.out.hi.r7⟩, hDF HCI.out.hx, hm2.heap (hnb HCI.out.r14 (by decide) (by decide)) HCI.out.r14, ?_, ?_⟩, Nat.le_trans hsz3 hm2.size⟩
                    · rw [HLB.out]; exact e17
                    · simpa using e18
        · have d4 : decide (9223372036854775808 < (last : Int)) = true := decide_eq_true (by omega)
          clear h0 h1 c1 c2 c3 c4 hgl
          (refine (callsIn_wide (n := 0)).1 (callsIn_of_wp_marks Tryz.func8 rfl trivial (wpIn_wide.2 ?_) rfl); simp only [Tryz.ntmps8, List.size_toArray, List.length_cons, List.length_nil, Nat.reduceAdd, Nat.reduceSub, Array.replicate_succ, Array.replicate_zero, List.push_toArray, List.append_toArray, List.nil_append, List.cons_append])
          go_upto_region 1 with fail
          generalize w.alloc (.cells #[.bool false] 4) = W1 at *
          obtain ⟨b6, hb6⟩ : ∃ b, w.heap.size = b := ⟨_, rfl⟩
          rw [hb6] at h6 ⊢
          have HB6 := Lib.hid hb6
          clear hb6
          go_upto_region 2 with fail
          have HK := Lib.hid (fun W => known12_true W)
          have h6_0 := cell_of_row _ _ 0 _ _ _ h6; have h6_f := (fun j => frozen_of_row _ _ j _ _ h6); have h6_l := lt_of_block h6; simp at h6_0; have H_h6 := Lib.hid h6; clear h6
          go_wp2_with (go_at_call 52; refine Calls.mono (HK.out _) ?_; rintro e w1 ⟨rfl, hp1⟩; have k0 := hp1.cell (fun h => h) h6_0; have kf : w1.frozen? ⟨b6, 0, none⟩ = false := (hp1.cells.2 b6 0 h6_l).trans (h6_f 0); have kl := hp1.lt h6_l)
          have y6 := cell_of_row _ _ 0 _ _ _ (heap_set1 (j := 0) (v := .bool true) (hp1.heap (fun h => h) H_h6.out))
          simp at y6
          exact ⟨.bool true, by simp [results, Tryz.results8, go_sem, y6], rfl, (HP0.out.trans hp1).then (Mod.set1 b6 0 _) (fun i hi e => by have := HB6.out; omega)⟩
      · have d3 : decide (60 < (k : Int)) = true := decide_eq_true (by omega)
        clear h0 h1 c1 c2 c3 hgl
        (refine (callsIn_wide (n := 0)).1 (callsIn_of_wp_marks Tryz.func8 rfl trivial (wpIn_wide.2 ?_) rfl); simp only [Tryz.ntmps8, List.size_toArray, List.length_cons, List.length_nil, Nat.reduceAdd, Nat.reduceSub, Array.replicate_succ, Array.replicate_zero, List.push_toArray, List.append_toArray, List.nil_append, List.cons_append])
        go_upto_region 1 with fail
        generalize w.alloc (.cells #[.bool false] 4) = W1 at *
        obtain ⟨b6, hb6⟩ : ∃ b, w.heap.size = b := ⟨_, rfl⟩
        rw [hb6] at h6 ⊢
        have HB6 := Lib.hid hb6
        clear hb6
        go_upto_region 2 with fail
        have HK := Lib.hid (fun W => known12_true W)
        have h6_0 := cell_of_row _ _ 0 _ _ _ h6; have h6_f := (fun j => frozen_of_row _ _ j _ _ h6); have h6_l := lt_of_block h6; simp at h6_0; have H_h6 := Lib.hid h6; clear h6
        go_wp2_with (go_at_call 52; refine Calls.mono (HK.out _) ?_; rintro e w1 ⟨rfl, hp1⟩; have k0 := hp1.cell (fun h => h) h6_0; have kf : w1.frozen? ⟨b6, 0, none⟩ = false := (hp1.cells.2 b6 0 h6_l).trans (h6_f 0); have kl := hp1.lt h6_l)
        have y6 := cell_of_row _ _ 0 _ _ _ (heap_set1 (j := 0) (v := .bool true) (hp1.heap (fun h => h) H_h6.out))
        simp at y6
        exact ⟨.bool true, by simp [results, Tryz.results8, go_sem, y6], rfl, (HP0.out.trans hp1).then (Mod.set1 b6 0 _) (fun i hi e => by have := HB6.out; omega)⟩
    · have d2 : decide (60 < n) = true := decide_eq_true (by omega)
      clear h0 h1 c1 c2 hgl
      (refine (callsIn_wide (n := 0)).1 (callsIn_of_wp_marks Tryz.func8 rfl trivial (wpIn_wide.2 ?_) rfl); simp only [Tryz.ntmps8, List.size_toArray, List.length_cons, List.length_nil, Nat.reduceAdd, Nat.reduceSub, Array.replicate_succ, Array.replicate_zero, List.push_toArray, List.append_toArray, List.nil_append, List.cons_append])
      go_upto_region 1 with fail
      generalize w.alloc (.cells #[.bool false] 4) = W1 at *
      obtain ⟨b6, hb6⟩ : ∃ b, w.heap.size = b := ⟨_, rfl⟩
      rw [hb6] at h6 ⊢
      have HB6 := Lib.hid hb6
      clear hb6
      go_upto_region 2 with fail
      have HK := Lib.hid (fun W => known12_true W)
      have h6_0 := cell_of_row _ _ 0 _ _ _ h6; have h6_f := (fun j => frozen_of_row _ _ j _ _ h6); have h6_l := lt_of_block h6; simp at h6_0; have H_h6 := Lib.hid h6; clear h6
      go_wp2_with (go_at_call 52; refine Calls.mono (HK.out _) ?_; rintro e w1 ⟨rfl, hp1⟩; have k0 := hp1.cell (fun h => h) h6_0; have kf : w1.frozen? ⟨b6, 0, none⟩ = false := (hp1.cells.2 b6 0 h6_l).trans (h6_f 0); have kl := hp1.lt h6_l)
      have y6 := cell_of_row _ _ 0 _ _ _ (heap_set1 (j := 0) (v := .bool true) (hp1.heap (fun h => h) H_h6.out))
      simp at y6
      exact ⟨.bool true, by simp [results, Tryz.results8, go_sem, y6], rfl, (HP0.out.trans hp1).then (Mod.set1 b6 0 _) (fun i hi e => by have := HB6.out; omega)⟩
  · have d1 : decide (n < 0) = true := decide_eq_true (by omega)
    clear h0 h1 c1 hgl
    (refine (callsIn_wide (n := 0)).1 (callsIn_of_wp_marks Tryz.func8 rfl trivial (wpIn_wide.2 ?_) rfl); simp only [Tryz.ntmps8, List.size_toArray, List.length_cons, List.length_nil, Nat.reduceAdd, Nat.reduceSub, Array.replicate_succ, Array.replicate_zero, List.push_toArray, List.append_toArray, List.nil_append, List.cons_append])
    go_upto_region 1 with fail
    generalize w.alloc (.cells #[.bool false] 4) = W1 at *
    obtain ⟨b6, hb6⟩ : ∃ b, w.heap.size = b := ⟨_, rfl⟩
    rw [hb6] at h6 ⊢
    have HB6 := Lib.hid hb6
    clear hb6
    go_upto_region 2 with fail
    have HK := Lib.hid (fun W => known12_true W)
    have h6_0 := cell_of_row _ _ 0 _ _ _ h6; have h6_f := (fun j => frozen_of_row _ _ j _ _ h6); have h6_l := lt_of_block h6; simp at h6_0; have H_h6 := Lib.hid h6; clear h6
    go_wp2_with (go_at_call 52; refine Calls.mono (HK.out _) ?_; rintro e w1 ⟨rfl, hp1⟩; have k0 := hp1.cell (fun h => h) h6_0; have kf : w1.frozen? ⟨b6, 0, none⟩ = false := (hp1.cells.2 b6 0 h6_l).trans (h6_f 0); have kl := hp1.lt h6_l)
    have y6 := cell_of_row _ _ 0 _ _ _ (heap_set1 (j := 0) (v := .bool true) (hp1.heap (fun h => h) H_h6.out))
    simp at y6
    exact ⟨.bool true, by simp [results, Tryz.results8, go_sem, y6], rfl, (HP0.out.trans hp1).then (Mod.set1 b6 0 _) (fun i hi e => by have := HB6.out; omega)⟩
end Go.Proofs.YtpafcocciggfpaaGreat
