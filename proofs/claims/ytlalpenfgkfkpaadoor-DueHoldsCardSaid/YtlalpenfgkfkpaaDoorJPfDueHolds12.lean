/- Lemmas and contracts of functions, strung together out of 2 texts. No condition. -/
import Derived.Test.YtlalpenfgkfkpaaDoorJPfDueHolds11
import Derived.Test.YtlalpenfgkfkpaaDoorJPfDueHolds10
import Derived.Test.YtlalpenfgkfkpaaDoorJPfDueHolds9
/- law21.known: it returns true. Condition: the table of math/bits lies in memory. -/
namespace Go.Proofs.YtlalpenfgkfkpaaDoor
open Go.RowKit
set_option maxRecDepth 100000
theorem num_lit {w : World} (l : List Nat) {n : Nat} (hn : l.length = n) : ReadAt (w.alloc (.cells (nums l).toArray 29)) (.slice (some ⟨w.heap.size, 0, none⟩) n n) 1 (nums l) := by
  have := ReadAt.of_block (w := w.alloc (.cells (nums l).toArray 29)) n n 1 (heap_new rfl) (by rw [List.toList_toArray, nums_length, hn, Nat.mul_one]) (by rw [List.toList_toArray]; exact nums_one l)
  exact this
theorem r1 : setR 10 [] 1 20 5 = 0 ∧ setL 10 [] 1 20 5 = [⟨1, 20, 5⟩] := ⟨by decide, rfl⟩
theorem r2 : setR 10 [⟨1, 20, 5⟩] 2 18446744073709551615 6 = 0 ∧ setL 10 [⟨1, 20, 5⟩] 2 18446744073709551615 6 = [⟨1, 20, 5⟩, ⟨2, 18446744073709551615, 6⟩] := ⟨by decide, rfl⟩
theorem r3 : setR 10 [⟨1, 20, 5⟩, ⟨2, 18446744073709551615, 6⟩] 3 20 2 = 0 ∧ setL 10 [⟨1, 20, 5⟩, ⟨2, 18446744073709551615, 6⟩] 3 20 2 = [⟨3, 20, 2⟩, ⟨1, 20, 5⟩, ⟨2, 18446744073709551615, 6⟩] := ⟨by decide, rfl⟩
theorem r4 : setR 10 [⟨3, 20, 2⟩, ⟨1, 20, 5⟩, ⟨2, 18446744073709551615, 6⟩] 4 15 9 = 0 ∧ setL 10 [⟨3, 20, 2⟩, ⟨1, 20, 5⟩, ⟨2, 18446744073709551615, 6⟩] 4 15 9 = [⟨4, 15, 9⟩, ⟨3, 20, 2⟩, ⟨1, 20, 5⟩, ⟨2, 18446744073709551615, 6⟩] := ⟨by decide, rfl⟩
theorem r5 : setR 10 [⟨4, 15, 9⟩, ⟨3, 20, 2⟩, ⟨1, 20, 5⟩, ⟨2, 18446744073709551615, 6⟩] 1 20 7 = 11 ∧ setL 10 [⟨4, 15, 9⟩, ⟨3, 20, 2⟩, ⟨1, 20, 5⟩, ⟨2, 18446744073709551615, 6⟩] 1 20 7 = [⟨4, 15, 9⟩, ⟨3, 20, 2⟩, ⟨1, 20, 5⟩, ⟨2, 18446744073709551615, 6⟩] := ⟨by decide, rfl⟩
theorem r6 : setR 10 [⟨4, 15, 9⟩, ⟨3, 20, 2⟩, ⟨1, 20, 5⟩, ⟨2, 18446744073709551615, 6⟩] 9 30 6 = 11 ∧ setL 10 [⟨4, 15, 9⟩, ⟨3, 20, 2⟩, ⟨1, 20, 5⟩, ⟨2, 18446744073709551615, 6⟩] 9 30 6 = [⟨4, 15, 9⟩, ⟨3, 20, 2⟩, ⟨1, 20, 5⟩, ⟨2, 18446744073709551615, 6⟩] := ⟨by decide, rfl⟩
theorem r7 : setR 10 [⟨4, 15, 9⟩, ⟨3, 20, 2⟩, ⟨1, 20, 5⟩, ⟨2, 18446744073709551615, 6⟩] 5 10 8 = 3 ∧ setL 10 [⟨4, 15, 9⟩, ⟨3, 20, 2⟩, ⟨1, 20, 5⟩, ⟨2, 18446744073709551615, 6⟩] 5 10 8 = [⟨4, 15, 9⟩, ⟨3, 20, 2⟩, ⟨1, 20, 5⟩, ⟨2, 18446744073709551615, 6⟩] := ⟨by decide, rfl⟩
theorem r8 : setR 10 [⟨4, 15, 9⟩, ⟨3, 20, 2⟩, ⟨1, 20, 5⟩, ⟨2, 18446744073709551615, 6⟩] 4 18446744073709551615 9 = 0 ∧ setL 10 [⟨4, 15, 9⟩, ⟨3, 20, 2⟩, ⟨1, 20, 5⟩, ⟨2, 18446744073709551615, 6⟩] 4 18446744073709551615 9 = [⟨3, 20, 2⟩, ⟨1, 20, 5⟩, ⟨2, 18446744073709551615, 6⟩, ⟨4, 18446744073709551615, 9⟩] := ⟨by decide, rfl⟩
theorem r9 : dueE 19 [⟨3, 20, 2⟩, ⟨1, 20, 5⟩, ⟨2, 18446744073709551615, 6⟩, ⟨4, 18446744073709551615, 9⟩] = [] ∧ restE 19 [⟨3, 20, 2⟩, ⟨1, 20, 5⟩, ⟨2, 18446744073709551615, 6⟩, ⟨4, 18446744073709551615, 9⟩] = [⟨3, 20, 2⟩, ⟨1, 20, 5⟩, ⟨2, 18446744073709551615, 6⟩, ⟨4, 18446744073709551615, 9⟩] := ⟨rfl, rfl⟩
theorem r10 : dueE 20 [⟨3, 20, 2⟩, ⟨1, 20, 5⟩, ⟨2, 18446744073709551615, 6⟩, ⟨4, 18446744073709551615, 9⟩] = [⟨3, 20, 2⟩, ⟨1, 20, 5⟩] ∧ restE 20 [⟨3, 20, 2⟩, ⟨1, 20, 5⟩, ⟨2, 18446744073709551615, 6⟩, ⟨4, 18446744073709551615, 9⟩] = [⟨2, 18446744073709551615, 6⟩, ⟨4, 18446744073709551615, 9⟩] := ⟨rfl, rfl⟩
theorem r11 : dueE 20 [⟨2, 18446744073709551615, 6⟩, ⟨4, 18446744073709551615, 9⟩] = [] ∧ restE 20 [⟨2, 18446744073709551615, 6⟩, ⟨4, 18446744073709551615, 9⟩] = [⟨2, 18446744073709551615, 6⟩, ⟨4, 18446744073709551615, 9⟩] := ⟨rfl, rfl⟩
theorem r12 : (getT [⟨2, 18446744073709551615, 6⟩, ⟨4, 18446744073709551615, 9⟩] 2).1.dl = 18446744073709551615 ∧ (getT [⟨2, 18446744073709551615, 6⟩, ⟨4, 18446744073709551615, 9⟩] 2).1.birth = 6 ∧ (getT [⟨2, 18446744073709551615, 6⟩, ⟨4, 18446744073709551615, 9⟩] 2).2 = 0 := ⟨by decide, by decide, by decide⟩
theorem r13 : renR [0, 0, 7, 0, 2] [⟨2, 18446744073709551615, 6⟩, ⟨4, 18446744073709551615, 9⟩] = 0 ∧ renM [0, 0, 7, 0, 2] [⟨2, 18446744073709551615, 6⟩, ⟨4, 18446744073709551615, 9⟩] = [⟨7, 18446744073709551615, 6⟩, ⟨2, 18446744073709551615, 9⟩] := ⟨by decide, rfl⟩
theorem r14 : (getT [⟨7, 18446744073709551615, 6⟩, ⟨2, 18446744073709551615, 9⟩] 7).1.dl = 18446744073709551615 ∧ (getT [⟨7, 18446744073709551615, 6⟩, ⟨2, 18446744073709551615, 9⟩] 7).1.birth = 6 ∧ (getT [⟨7, 18446744073709551615, 6⟩, ⟨2, 18446744073709551615, 9⟩] 7).2 = 0 := ⟨by decide, by decide, by decide⟩
theorem r15 : (getT [⟨7, 18446744073709551615, 6⟩, ⟨2, 18446744073709551615, 9⟩] 4).1.dl = 0 ∧ (getT [⟨7, 18446744073709551615, 6⟩, ⟨2, 18446744073709551615, 9⟩] 4).1.birth = 0 ∧ (getT [⟨7, 18446744073709551615, 6⟩, ⟨2, 18446744073709551615, 9⟩] 4).2 = 9 := ⟨by decide, by decide, by decide⟩
theorem r16 : (getT [⟨7, 18446744073709551615, 6⟩, ⟨2, 18446744073709551615, 9⟩] 2).2 = 0 ∧ canL [⟨7, 18446744073709551615, 6⟩, ⟨2, 18446744073709551615, 9⟩] 2 = [⟨7, 18446744073709551615, 6⟩] := ⟨by decide, rfl⟩
theorem r17 : (getT [⟨7, 18446744073709551615, 6⟩] 2).2 = 9 ∧ canL [⟨7, 18446744073709551615, 6⟩] 2 = [⟨7, 18446744073709551615, 6⟩] := ⟨by decide, rfl⟩
theorem r18 : dueE 18446744073709551615 [⟨7, 18446744073709551615, 6⟩] = [] ∧ restE 18446744073709551615 [⟨7, 18446744073709551615, 6⟩] = [⟨7, 18446744073709551615, 6⟩] := ⟨rfl, rfl⟩
set_option maxHeartbeats 4000000 in
theorem known21_ok (w : World) (hT : TabW w) : Calls Tryd.prog 32 #[] w fun e w' => e = .returned (.bool true) ∧ Pure w w' := by
  have HN := Lib.hid (KnD.new (now := 10) hT (by decide))
  clear hT
  have U1 : True := trivial
  have U2 : True := trivial
  have U3 : True := trivial
  have U4 : True := trivial
  have U5 : True := trivial
  have U6 : True := trivial
  have HX1 : Hid (∀ W, Calls Tryd.prog 68 #[.int .u32 4, .int .u64 15, .int .u64 9] W fun e w' => e = .returned (.agg #[.int .u32 4, .int .u64 15, .int .u64 9]) ∧ Pure W w') := Lib.hid (fun W => timed21_ok 4 15 9 W)
  have HX2 : Hid (∀ W, Calls Tryd.prog 68 #[.int .u32 3, .int .u64 20, .int .u64 2] W fun e w' => e = .returned (.agg #[.int .u32 3, .int .u64 20, .int .u64 2]) ∧ Pure W w') := Lib.hid (fun W => timed21_ok 3 20 2 W)
  have HX3 : Hid (∀ W, Calls Tryd.prog 68 #[.int .u32 1, .int .u64 20, .int .u64 5] W fun e w' => e = .returned (.agg #[.int .u32 1, .int .u64 20, .int .u64 5]) ∧ Pure W w') := Lib.hid (fun W => timed21_ok 1 20 5 W)
  have HX4 : Hid (∀ W, Calls Tryd.prog 68 #[.int .u32 2, .int .u64 18446744073709551615, .int .u64 6] W fun e w' => e = .returned (.agg #[.int .u32 2, .int .u64 18446744073709551615, .int .u64 6]) ∧ Pure W w') := Lib.hid (fun W => timed21_ok 2 18446744073709551615 6 W)
  have HX5 : Hid (∀ W, Calls Tryd.prog 68 #[.int .u32 3, .int .u64 20, .int .u64 2] W fun e w' => e = .returned (.agg #[.int .u32 3, .int .u64 20, .int .u64 2]) ∧ Pure W w') := Lib.hid (fun W => timed21_ok 3 20 2 W)
  have HX6 : Hid (∀ W, Calls Tryd.prog 68 #[.int .u32 1, .int .u64 20, .int .u64 5] W fun e w' => e = .returned (.agg #[.int .u32 1, .int .u64 20, .int .u64 5]) ∧ Pure W w') := Lib.hid (fun W => timed21_ok 1 20 5 W)
  have T1 : True := trivial
  have T2 : True := trivial
  have T3 : True := trivial
  have T4 : True := trivial
  have T5 : True := trivial
  have T6 : True := trivial
  have T7 : True := trivial
  have T8 : True := trivial
  have T9 : True := trivial
  have T10 : True := trivial
  have T11 : True := trivial
  have T12 : True := trivial
  have T13 : True := trivial
  have T14 : True := trivial
  have T15 : True := trivial
  have T16 : True := trivial
  have T17 : True := trivial
  have T18 : True := trivial
  go_enter Tryd.func32, Tryd.ntmps32
  go_upto_region 2 with (go_at_call 33; refine Calls.mono HN.out ?_; rintro e w1 ⟨p, D, rfl, hs⟩; have HS := Lib.hid hs; clear hs)
  go_upto_region 4 with (first
    | (go_at_call 34; clear T1; refine Calls.mono (HS.out.set (s := 1) (dl := 20) (b := 5) (by decide) (by decide) (by decide) r1.1 r1.2) ?_; rintro e w' ⟨rfl, D', hs⟩; replace HS := Lib.hid hs; clear hs)
    | (go_at_call 34; clear T2; refine Calls.mono (HS.out.set (s := 2) (dl := 18446744073709551615) (b := 6) (by decide) (by decide) (by decide) r2.1 r2.2) ?_; rintro e w' ⟨rfl, D', hs⟩; replace HS := Lib.hid hs; clear hs)
    | (go_at_call 34; clear T3; refine Calls.mono (HS.out.set (s := 3) (dl := 20) (b := 2) (by decide) (by decide) (by decide) r3.1 r3.2) ?_; rintro e w' ⟨rfl, D', hs⟩; replace HS := Lib.hid hs; clear hs)
    | (go_at_call 34; clear T4; refine Calls.mono (HS.out.set (s := 4) (dl := 15) (b := 9) (by decide) (by decide) (by decide) r4.1 r4.2) ?_; rintro e w' ⟨rfl, D', hs⟩; replace HS := Lib.hid hs; clear hs)
    | (go_at_call 34; clear T5; refine Calls.mono (HS.out.set (s := 1) (dl := 20) (b := 7) (by decide) (by decide) (by decide) r5.1 r5.2) ?_; rintro e w' ⟨rfl, D', hs⟩; replace HS := Lib.hid hs; clear hs)
    | (go_at_call 34; clear T6; refine Calls.mono (HS.out.set (s := 9) (dl := 30) (b := 6) (by decide) (by decide) (by decide) r6.1 r6.2) ?_; rintro e w' ⟨rfl, D', hs⟩; replace HS := Lib.hid hs; clear hs)
    | (go_at_call 34; clear T7; refine Calls.mono (HS.out.set (s := 5) (dl := 10) (b := 8) (by decide) (by decide) (by decide) r7.1 r7.2) ?_; rintro e w' ⟨rfl, D', hs⟩; replace HS := Lib.hid hs; clear hs))
  go_upto_region 6 with (first
    | (go_at_call 36; refine Calls.mono (HS.out.all (n := 4) rfl) ?_; rintro e w' ⟨a, c, rfl, hw, hs⟩; replace HS := Lib.hid hs; have HW := Lib.hid hw; clear hs hw)
    | (go_at_call 68; clear U1; refine Calls.mono (HX1.out _) ?_; rintro e w' ⟨rfl, hp⟩; replace HS := Lib.hid (HS.out.pure hp); (try replace HW := Lib.hid (HW.out.pure hp)); clear hp)
    | (go_at_call 68; clear U2; refine Calls.mono (HX2.out _) ?_; rintro e w' ⟨rfl, hp⟩; replace HS := Lib.hid (HS.out.pure hp); (try replace HW := Lib.hid (HW.out.pure hp)); clear hp)
    | (go_at_call 68; clear U3; refine Calls.mono (HX3.out _) ?_; rintro e w' ⟨rfl, hp⟩; replace HS := Lib.hid (HS.out.pure hp); (try replace HW := Lib.hid (HW.out.pure hp)); clear hp)
    | (go_at_call 68; clear U4; refine Calls.mono (HX4.out _) ?_; rintro e w' ⟨rfl, hp⟩; replace HS := Lib.hid (HS.out.pure hp); (try replace HW := Lib.hid (HW.out.pure hp)); clear hp)
    | (go_at_call 17; refine Calls.mono (rsame_ok (L := [⟨4, 15, 9⟩, ⟨3, 20, 2⟩, ⟨1, 20, 5⟩, ⟨2, 18446744073709551615, 6⟩]) (HW.out.pure ((Mod.refl _ _).alloc _)).rd (lit_read [⟨4, 15, 9⟩, ⟨3, 20, 2⟩, ⟨1, 20, 5⟩, ⟨2, 18446744073709551615, 6⟩] (n := 4) rfl) rfl (by decide)) ?_; rintro e w' ⟨rfl, hp⟩; have hp := ((Mod.refl (fun _ => False) _).alloc _).trans hp; replace HS := Lib.hid (HS.out.pure hp); clear HW hp)
    | (go_at_call 42; refine Calls.mono (HS.out.lens (a := 4) (b := 3) rfl rfl) ?_; rintro e w' ⟨rfl, hs⟩; replace HS := Lib.hid hs; clear hs)
    | (go_at_call 41; refine Calls.mono (HS.out.next (n := 15) rfl) ?_; rintro e w' ⟨rfl, hs⟩; replace HS := Lib.hid hs; clear hs))
  go_upto_region 8 with (first
    | (go_at_call 34; clear T8; refine Calls.mono (HS.out.set (s := 4) (dl := 18446744073709551615) (b := 9) (by decide) (by decide) (by decide) r8.1 r8.2) ?_; rintro e w' ⟨rfl, D', hs⟩; replace HS := Lib.hid hs; clear hs)
    | (go_at_call 37; clear T9; refine Calls.mono (HS.out.expire (t0 := 19) (by decide) (now' := 19) (n := 0) (by decide) r9.1 r9.2 rfl) ?_; rintro e w' ⟨a, c, rfl, hw, D', hs⟩; replace HS := Lib.hid hs; clear hs hw)
    | (go_at_call 37; clear T10; refine Calls.mono (HS.out.expire (t0 := 20) (by decide) (now' := 20) (n := 2) (by decide) r10.1 r10.2 rfl) ?_; rintro e w' ⟨a, c, rfl, hw, D', hs⟩; replace HS := Lib.hid hs; have HW := Lib.hid hw; clear hs hw)
    | (go_at_call 68; clear U5; refine Calls.mono (HX5.out _) ?_; rintro e w' ⟨rfl, hp⟩; replace HS := Lib.hid (HS.out.pure hp); (try replace HW := Lib.hid (HW.out.pure hp)); clear hp)
    | (go_at_call 68; clear U6; refine Calls.mono (HX6.out _) ?_; rintro e w' ⟨rfl, hp⟩; replace HS := Lib.hid (HS.out.pure hp); (try replace HW := Lib.hid (HW.out.pure hp)); clear hp)
    | (go_at_call 17; refine Calls.mono (rsame_ok (L := [⟨3, 20, 2⟩, ⟨1, 20, 5⟩]) (HW.out.pure ((Mod.refl _ _).alloc _)).rd (lit_read [⟨3, 20, 2⟩, ⟨1, 20, 5⟩] (n := 2) rfl) rfl (by decide)) ?_; rintro e w' ⟨rfl, hp⟩; have hp := ((Mod.refl (fun _ => False) _).alloc _).trans hp; replace HS := Lib.hid (HS.out.pure hp); clear HW hp)
    | (go_at_call 38; refine Calls.mono HS.out.now_ ?_; rintro e w' ⟨rfl, hs⟩; replace HS := Lib.hid hs; clear hs)
    | (go_at_call 37; clear T11; refine Calls.mono (HS.out.expire (t0 := 5) (by decide) (now' := 20) (n := 0) (by decide) r11.1 r11.2 rfl) ?_; rintro e w' ⟨a, c, rfl, hw, D', hs⟩; replace HS := Lib.hid hs; clear hs hw)
    | (go_at_call 40; clear T12; refine Calls.mono (HS.out.gets (s := 2) (dl := 18446744073709551615) (b := 6) (by decide) r12.1 r12.2.1 r12.2.2) ?_; rintro e w' ⟨rfl, hs⟩; replace HS := Lib.hid hs; clear hs))
  go_wp2_with (first
    | (go_at_call 43; refine Calls.mono ((HS.out.pure ((Mod.refl _ _).alloc _)).renumber (tv := [0, 0, 7, 0, 2]) (n0 := 5) (num_lit [0, 0, 7, 0, 2] rfl) rfl (by decide) (by decide) r13.1 r13.2) ?_; rintro e w' ⟨rfl, D', hs⟩; replace HS := Lib.hid hs; clear hs)
    | (go_at_call 40; clear T14; refine Calls.mono (HS.out.gets (s := 7) (dl := 18446744073709551615) (b := 6) (by decide) r14.1 r14.2.1 r14.2.2) ?_; rintro e w' ⟨rfl, hs⟩; replace HS := Lib.hid hs; clear hs)
    | (go_at_call 40; clear T15; refine Calls.mono (HS.out.gets (s := 4) (dl := 0) (b := 0) (by decide) r15.1 r15.2.1 r15.2.2) ?_; rintro e w' ⟨rfl, hs⟩; replace HS := Lib.hid hs; clear hs)
    | (go_at_call 35; clear T16; refine Calls.mono (HS.out.remove (s := 2) (by decide) r16.1 r16.2) ?_; rintro e w' ⟨rfl, D', hs⟩; replace HS := Lib.hid hs; clear hs)
    | (go_at_call 35; clear T17; refine Calls.mono (HS.out.remove (s := 2) (by decide) r17.1 r17.2) ?_; rintro e w' ⟨rfl, D', hs⟩; replace HS := Lib.hid hs; clear hs)
    | (go_at_call 37; clear T18; refine Calls.mono (HS.out.expire (t0 := 18446744073709551615) (by decide) (now' := 18446744073709551615) (n := 0) (by decide) r18.1 r18.2 rfl) ?_; rintro e w' ⟨a, c, rfl, hw, D', hs⟩; replace HS := Lib.hid hs; clear hs hw)
    | (go_at_call 42; refine Calls.mono (HS.out.lens (a := 1) (b := 0) rfl rfl) ?_; rintro e w' ⟨rfl, hs⟩; replace HS := Lib.hid hs; clear hs))
  go_ret
  exact ⟨rfl, HS.out.pu⟩
end Go.Proofs.YtlalpenfgkfkpaaDoor

/- law21.DueHolds: it returns true. Conditions: the table of math/bits lies in memory, the acts are read. -/
namespace Go.Proofs.YtlalpenfgkfkpaaDoor
open Go.RowKit Go.Shelf
set_option maxRecDepth 100000
section
variable {w0 w w' : World} {D : Nat → Prop} {p now tt k : Nat} {M M' : List Td} {x y : Td}
theorem exp_idx (hM : M.Pairwise bef) (ht : tt ≤ 18446744073709551615) (hx : M[k]? = some x) : expP tt x = decide (k < (dueE tt M).length) := by
  obtain ⟨e1, e2⟩ := expP_anti ht hM
  have hsp : dueE tt M ++ restE tt M = M := List.takeWhile_append_dropWhile
  by_cases c : k < (dueE tt M).length
  · rw [decide_eq_true c]
    rw [← hsp, List.getElem?_append_left c] at hx
    have := List.mem_of_getElem? hx
    rw [e1] at this
    exact (List.mem_filter.1 this).2
  · rw [decide_eq_false c]
    rw [← hsp, List.getElem?_append_right (by omega)] at hx
    have := List.mem_of_getElem? hx
    rw [e2] at this
    have := (List.mem_filter.1 this).2
    simpa using this
theorem DueL.notdue (h : DueL now M) (hx : x ∈ M) : expP now x = false := by
  have := (h.rng x hx).2.1
  unfold expP
  simp
  omega
theorem sorted_bef (h : M.Pairwise bef) (hx : M[k]? = some x) (hy : M[k + 1]? = some y) : befB x y = true := by
  rw [befB_iff]
  obtain ⟨i1, e1⟩ := List.getElem?_eq_some_iff.1 hx
  obtain ⟨i2, e2⟩ := List.getElem?_eq_some_iff.1 hy
  rw [← e1, ← e2]
  exact (List.pairwise_iff_getElem.1 h) k (k + 1) i1 i2 (by omega)
theorem KnD.expireR (h : KnD w0 w D p now M) {t0 : Nat} (ht0 : t0 ≤ 18446744073709551615) {now' : Nat} {E : List Td} {n : Nat} (hN : max now t0 = now') (hE : dueE now' M = E) (hL : restE now' M = M') (hn : E.length = n) :
    Calls Tryd.prog 37 #[lkP p, .int .u64 t0] w fun e w' => ∃ a c, e = .returned (.slice a n c) ∧ TdRow w' a c E ∧ (∀ g, (Value.slice a n c).ownBlock = some g → w.heap.size ≤ g) ∧ Mod D w w' ∧ ∃ D', KnD w0 w' D' p now' M' ∧ grewD D D' w ∧ ∀ g, (Value.slice a n c).ownBlock = some g → ¬ D' g := by
  refine (h.t.at_.expire h.t.tab h.t.off ht0).mono ?_
  rintro e w' ⟨a, c, rfl, hr, ⟨D', hc, hg, ho⟩, hm⟩
  rw [hN, hE] at hr ho
  rw [hN, hL] at hc
  rw [hn] at ho
  exact ⟨a, c, by rw [hN, hE, hn], hr, fun g hg => (ho g hg).2, hm, D', h.step hc hg hm, hg, fun g hg => (ho g hg).1⟩
theorem KnD.allR (h : KnD w0 w D p now M) {n : Nat} (hn : M.length = n) :
    Calls Tryd.prog 36 #[lkP p] w fun e w' => ∃ a c, e = .returned (.slice a n c) ∧ TdRow w' a c M ∧ (∀ g, (Value.slice a n c).ownBlock = some g → w.heap.size ≤ g) ∧ Pure w w' ∧ KnD w0 w' D p now M := by
  refine h.t.at_.all.mono ?_
  rintro e w' ⟨a, c, rfl, hr, hf, hp⟩
  exact ⟨a, c, by rw [hn], hr, fun g hg => hf g (by rw [hn]; exact hg), hp, h.pure hp⟩
theorem run_from {a : Option Addr} {n c j : Nat} (hj : j ≤ n) (W : World) : (Instr.slice 28 (.slice a n c) (some (.int .i64 (j : Int))) none none).run Tryd.prog W = .ok (.slice (if c = j then a else a.map (·.add (j * 3))) (n - j) (c - j)) W := by
  have hb : (0 : Int) ≤ (j : Int) ∧ (j : Int) ≤ (n : Int) := by omega
  have hs := sizeOf_td W
  simp [Instr.slice, run_underlying Tryd.underlying28, Instr.sliceBounds, Instr.sliceBound, asIntOf, hb, hs, hj, Result.andThen]
theorem run_to {a : Option Addr} {n c j : Nat} (hj : j ≤ c) (W : World) : (Instr.slice 28 (.slice a n c) none (some (.int .i64 (j : Int))) none).run Tryd.prog W = .ok (.slice a j c) W := by
  have hb : (0 : Int) ≤ (j : Int) ∧ (j : Int) ≤ (c : Int) := by omega
  have hs := sizeOf_td W
  simp [Instr.slice, run_underlying Tryd.underlying28, Instr.sliceBounds, Instr.sliceBound, asIntOf, hb, hs, hj, Result.andThen]
  cases a <;> simp [addr_zero]
theorem rd_part {a : Option Addr} {n c j : Nat} (h : RdL w a n c M) (hj : j ≤ n) : ∃ s, (∀ W, (Instr.slice 28 (.slice a n c) (some (.int .i64 (j : Int))) none none).run Tryd.prog W = .ok (.slice s (n - j) (c - j)) W) ∧ ReadAt w (.slice s (n - j) (c - j)) 3 ((M.drop j).flatMap tdC) := by
  refine ⟨_, run_from hj, ?_⟩
  cases a with
  | none =>
    obtain ⟨h1, h2, h3⟩ := h.zero
    subst h1 h2 h3
    have : j = 0 := by omega
    subst this
    exact ReadAt.nil _ _
  | some ad => exact rd_sufI h.rd hj h.cap
/-- Deadlines that were made since, with no more said. -/
def KnX (w0 w : World) (p : Nat) : Prop := ∃ D now M, KnD w0 w D p now M
end
set_option maxHeartbeats 8000000 in
theorem DueHolds_true (w : World) (hT : TabW w) (now : Nat) (hnow : now < 18446744073709551616) (a : Option Addr) (c : Nat) (es : List Act21) (hr : ReadAt w (.slice a es.length c) 5 (es.flatMap act21C)) (hok : ∀ t ∈ es, A21Ok w t) (hl63 : es.length ≤ 9223372036854775807) :
    Calls Tryd.prog 7 #[.int .u64 now, .slice a es.length c] w fun e w' => e = .returned (.bool true) ∧ Pure w w' := by
  have HKn := Lib.hid (fun (W : World) (hW : Pure w W) => known21_ok W (hT.pure hW))
  have HNw := Lib.hid (KnD.new hT hnow)
  obtain ⟨n, hn⟩ : ∃ n, es.length = n := ⟨_, rfl⟩
  rw [hn] at hr hl63 ⊢
  have HFew := Lib.hid (few21_ok hr hn hok)
  have HR := Lib.hid hr; have HOk := Lib.hid hok; have HN := Lib.hid hn
  clear hr hok hn hT
  go_enter Tryd.func7, Tryd.ntmps7
  go_upto_if 15 with (go_at_call 31; refine Calls.mono HFew.out ?_; rintro e w' ⟨⟨b, rfl, hb⟩, rfl⟩)
  cases b with
  | false =>
    go_wp2_with (go_at_call 32; refine Calls.mono (HKn.out _ (Mod.refl _ _)) ?_; rintro e w' ⟨rfl, hp⟩)
    go_ret
    exact ⟨rfl, hp⟩
  | true =>
    have hn40 : n ≤ 40 := (hb rfl).1
    clear hb
    go_upto_region 7 with (go_at_call 33; refine Calls.mono HNw.out ?_; rintro e w1 ⟨p, D, rfl, hs⟩; have HS := Lib.hid hs; clear hs)
    clear HNw
    go_loopw [6] (fun v6 wr => ∃ i : Nat, v6 = .int .i64 (i : Nat) ∧ i ≤ n ∧ KnX w wr p) (fun v6 _ => n - (intOf v6).toNat)
    case atStart => exact ⟨0, rfl, Nat.zero_le _, _, _, _, HS.out⟩
    case round =>
      obtain ⟨i, rfl, hi, hX⟩ := hrel
      obtain ⟨D1, nw, M, hK⟩ := hX
      have HK := Lib.hid hK
      clear hK HS
      by_cases hlt : i < n
      · have hlt' : (i : Int) < (n : Int) := by omega
        have i0 : (0 : Int) ≤ (i : Int) := by omega
        have wi : IntKind.i64.wrap ((i : Int) + 1) = (i : Int) + 1 := IntWalk.i64_in _ (by omega)
        obtain ⟨t, ht⟩ : ∃ t, es[i]? = some t := ⟨_, List.getElem?_eq_getElem (by rw [HN.out]; exact hlt)⟩
        have hto := HOk.out t (List.mem_of_getElem? ht)
        obtain ⟨ad, had, _⟩ := act21_read HR.out ht
        subst had
        have HC : Hid (∀ W, Pure w W → (W.cell? (ad.add (i * 5)) = some (.int .i64 t.what) ∧ W.cell? ⟨(ad.add (i * 5)).block, (ad.add (i * 5)).off + 1, none⟩ = some (.int .u32 t.slot) ∧ W.cell? ⟨(ad.add (i * 5)).block, (ad.add (i * 5)).off + 2, none⟩ = some (.int .u64 t.birth) ∧ W.cell? ⟨(ad.add (i * 5)).block, (ad.add (i * 5)).off + 3, none⟩ = some (.int .u64 t.time)) ∧ W.cell? ⟨(ad.add (i * 5)).block, (ad.add (i * 5)).off + 4, none⟩ = some (.slice t.ta t.tn t.tc)) := Lib.hid (fun W hW => by
          obtain ⟨ad', had', hc⟩ := act21_read (HR.out.frame hW (fun _ _ h => h)) ht
          injection had' with had'
          subst had'
          exact hc)
        have ts := hto.s; have tb := hto.b; have td := hto.d
        clear ht hto
        go_upto_block 1 with fail
        go_cut [7, 8, 9, 10, 11, 12] from 21 to 163 (fun _ _ _ _ _ _ wx => KnX w wx p)
        case rest =>
          obtain ⟨D4, nw4, M4, hK4⟩ := hcut
          have HK4 := Lib.hid hK4
          clear hK4
          go_wp2
          go_roundw
          case rel => exact ⟨i + 1, by go_num, hlt, ⟨D4, nw4, M4, HK4.out⟩⟩
          case measure => simp [intOf]; omega
        case first =>
          obtain ⟨⟨z0, z1, z2, z3⟩, z4⟩ := HC.out wr HK.out.pu
          clear z4
          obtain ⟨wh, hwh⟩ : ∃ wh, t.what = wh := ⟨_, rfl⟩
          rw [hwh] at z0
          clear hwh
          go_upto_block 2 with fail
          go_cut [7, 8, 9, 10, 11, 12] from 21 to 163 (fun _ _ _ _ _ _ wx => KnX w wx p)
          case first =>
            by_cases c0 : wh = 0
            · subst c0
              have hst := fun (W : World) (hW : Pure wr W) => (HK.out.pure hW).set ts td tb rfl rfl
              have HSt := Lib.hid hst
              clear hst
              go_upto_region 11 with fail
              go_still_tail 16, (by kernel_rfl)
              go_wp2_with (go_at_call 34; refine Calls.mono (HSt.out _ (by first | exact Mod.refl _ _ | exact (Mod.refl _ _).drew)) ?_; rintro e w2 ⟨rfl, D2, hs2⟩)
              go_meet
              exact ⟨_, _, _, hs2⟩
            · by_cases c1 : wh = 1
              · subst c1
                have hst := fun (W : World) (hW : Pure wr W) => (HK.out.pure hW).remove ts rfl rfl
                have HSt := Lib.hid hst
                clear hst
                go_wp2_with (go_at_call 35; refine Calls.mono (HSt.out _ (by first | exact Mod.refl _ _ | exact (Mod.refl _ _).drew)) ?_; rintro e w2 ⟨rfl, D2, hs2⟩)
                go_meet
                exact ⟨_, _, _, hs2⟩
              · by_cases c2 : wh = 2 ∨ wh = 3
                · skip
                  -- BEG A
                  rcases c2 with rfl | rfl
                  all_goals
                    obtain ⟨tt, htt⟩ : ∃ tt, max nw t.time = tt := ⟨_, rfl⟩
                    obtain ⟨E, hE⟩ : ∃ E, dueE tt M = E := ⟨_, rfl⟩
                    obtain ⟨R, hR⟩ : ∃ R, restE tt M = R := ⟨_, rfl⟩
                    have hnow2 := HK.out.t.at_.now64
                    have ht64 : tt ≤ 18446744073709551615 := by omega
                    have hIdx := fun k x (hx : M[k]? = some x) => exp_idx HK.out.t.at_.law.ord ht64 hx
                    rw [hE] at hIdx
                    have hsp : E ++ R = M := by rw [← hE, ← hR]; exact List.takeWhile_append_dropWhile
                    obtain ⟨m, hm⟩ : ∃ m, M.length = m := ⟨_, rfl⟩
                    obtain ⟨e, he⟩ : ∃ e, E.length = e := ⟨_, rfl⟩
                    rw [he] at hIdx
                    have hcnt : m ≤ 4194304 := by rw [← hm]; exact HK.out.t.at_.law.count
                    have hem : e ≤ m := by rw [← hm, ← he, ← hsp, List.length_append]; omega
                    have hRl : R.length = m - e := by rw [← hm, ← he, ← hsp, List.length_append]; omega
                    have htk : M.take e = E := by rw [← hsp, ← he]; exact List.take_left
                    have hdp : M.drop e = R := by rw [← hsp, ← he]; exact List.drop_left
                    have HAll := Lib.hid (fun W D2 M3 k (hK : KnD w W D2 p tt M3) (hk : M3.length = k) => hK.allR hk)
                    have HAll0 := Lib.hid (HK.out.allR hm)
                    have HEx := Lib.hid (fun W (hK : KnD w W D1 p nw M) => hK.expireR td htt hE hR he)
                    have HIdx := Lib.hid hIdx; have HM := Lib.hid hm; have HRl := Lib.hid hRl; have HTk := Lib.hid htk; have HDp := Lib.hid hdp; have HE := Lib.hid he
                    have HD1 := Lib.hid (fun k (hk : D1 k) => HK.out.t.at_.lt hk)
                    clear hIdx hm hRl htk hdp he hE hR htt hsp hnow2 ht64 z0 z1 z2
                    go_upto_region 17 with (go_at_call 36; refine Calls.mono HAll0.out ?_; rintro e2 w2 ⟨a1, c1, rfl, hr1, hf1, hp1, hk1⟩)
                    obtain ⟨⟨y0, y1, y2, y3⟩, y4⟩ := HC.out w2 hk1.pu
                    clear z3 y0 y1 y2 y4
                    have HK1 := Lib.hid hk1
                    go_upto_region 18 with (go_at_call 37; refine Calls.mono (HEx.out _ HK1.out) ?_; rintro e3 w3 ⟨a2, c2, rfl, hr2, hf2, hm2, D2, hk2, hg2, ho2⟩)
                    have hr13 : TdRow w3 a1 c1 M := owns_mod hr1 hm2 (fun g hg hk => by have e1 := hf1 g (by rw [← HM.out]; exact hg); have e2 := HD1.out g hk; omega)
                    have hRow := RdL.of_row hr13
                    rw [HM.out] at hRow
                    have hGo := RdL.of_row hr2
                    rw [HE.out] at hGo
                    have hc1 : e ≤ c1 := Nat.le_trans hem hRow.cap
                    have hto := fun W => run_to (a := a1) (n := m) hc1 W
                    obtain ⟨sv, hfr, hsuf⟩ := rd_part hRow hem
                    rw [HDp.out] at hsuf
                    have hpre := rd_pre hRow.rd hem
                    rw [HTk.out] at hpre
                    have HS1 := Lib.hid (fun W (hW : Pure w3 W) => rsame_ok (hGo.rd.frame hW (fun _ _ h => h)) (hpre.frame hW (fun _ _ h => h)) HE.out (by omega))
                    have HS2 := Lib.hid (fun W a5 c5 (hW : Pure w3 W) (h5 : ReadAt W (.slice a5 (m - e) c5) 3 (R.flatMap tdC)) => rsame_ok h5 (hsuf.frame hW (fun _ _ h => h)) HRl.out (by omega))
                    have HA2 := Lib.hid (fun W (hW : Pure w3 W) => HAll.out W D2 R (m - e) (hk2.pure hW) HRl.out)
                    have HRow := Lib.hid hRow.rd; have HK2 := Lib.hid hk2
                    have g0 : decide ((m : Int) < (e : Int)) = false := decide_eq_false (by omega)
                    have g0n : decide (m < e) = false := decide_eq_false (by omega)
                    clear y3 hr1 hf1 hp1 hk1 hr2 hf2 hm2 hk2 hg2 ho2 hr13 hRow hGo hsuf hpre HAll HAll0 HEx HK1
                    refine wp_region_held_drew (S := fun _ => True) (by kernel_rfl) trivial (fun hHeld => ?_)
                    ((refine wpAnyH_take (i := 0) (v := ?_) rfl (by kernel_rfl) (by kernel_rfl) (by kernel_rfl) (fun _ _ _ h => h) (Yields.yieldsIf (Or.inl ⟨by rfl, ?_⟩)) hHeld ?_; rotate_left 1; focus (intro w; go_simp; try with_reducible rfl)); try simp only [Act.put, List.getElem_toArray, List.getElem_cons_zero, List.getElem_cons_succ, List.setIfInBounds_toArray, List.set_cons_zero, List.set_cons_succ])
                    ((refine wpAnyH_take (i := 1) (v := ?_) rfl (by kernel_rfl) (by kernel_rfl) (by kernel_rfl) (fun _ _ _ h => h) (Yields.yieldsIf (Or.inl ⟨by rfl, ?_⟩)) hHeld ?_; rotate_left 1; focus (intro w; go_simp; try with_reducible rfl)); try simp only [Act.put, List.getElem_toArray, List.getElem_cons_zero, List.getElem_cons_succ, List.setIfInBounds_toArray, List.set_cons_zero, List.set_cons_succ])
                    ((refine wpAnyH_take (i := 2) (v := ?_) rfl (by kernel_rfl) (by kernel_rfl) (by kernel_rfl) (fun _ _ _ h => h) (Yields.yieldsIf (Or.inl ⟨by rfl, ?_⟩)) hHeld ?_; rotate_left 1; focus (intro w; go_simp; try with_reducible rfl)); try simp only [Act.put, List.getElem_toArray, List.getElem_cons_zero, List.getElem_cons_succ, List.setIfInBounds_toArray, List.set_cons_zero, List.set_cons_succ])
                    ((refine wpAnyH_take (i := 3) (v := ?_) rfl (by kernel_rfl) (by kernel_rfl) (by kernel_rfl) (fun _ _ _ h => h) (Yields.yieldsIf (Or.inl ⟨by rfl, ?_⟩)) hHeld ?_; rotate_left 1; focus (intro w; go_simp; try with_reducible rfl)); try simp only [Act.put, List.getElem_toArray, List.getElem_cons_zero, List.getElem_cons_succ, List.setIfInBounds_toArray, List.set_cons_zero, List.set_cons_succ])
                    ((refine wpAnyH_take (i := 4) (v := ?_) rfl (by kernel_rfl) (by kernel_rfl) (by kernel_rfl) (fun _ _ _ h => h) (Yields.yieldsIf (Or.inl ⟨by rfl, ?_⟩)) hHeld ?_; rotate_left 1; focus (intro w; go_simp; try with_reducible rfl)); try simp only [Act.put, List.getElem_toArray, List.getElem_cons_zero, List.getElem_cons_succ, List.setIfInBounds_toArray, List.set_cons_zero, List.set_cons_succ])
                    ((refine wpAnyH_take (i := 5) (v := ?_) rfl (by kernel_rfl) (by kernel_rfl) (by kernel_rfl) (fun _ _ _ h => h) (Yields.yieldsIf (Or.inl ⟨by rfl, ?_⟩)) hHeld ?_; rotate_left 1; focus (intro w; go_simp; try with_reducible rfl)); try simp only [Act.put, List.getElem_toArray, List.getElem_cons_zero, List.getElem_cons_succ, List.setIfInBounds_toArray, List.set_cons_zero, List.set_cons_succ])
                    ((refine wpAnyH_take (i := 6) (v := ?_) rfl (by kernel_rfl) (by kernel_rfl) (by kernel_rfl) (fun _ _ _ h => h) (Yields.yieldsIf (Or.inl ⟨by rfl, ?_⟩)) hHeld ?_; rotate_left 1; focus (intro w; go_simp; try with_reducible rfl)); try simp only [Act.put, List.getElem_toArray, List.getElem_cons_zero, List.getElem_cons_succ, List.setIfInBounds_toArray, List.set_cons_zero, List.set_cons_succ])
                    ((refine wpAnyH_take (i := 7) (v := ?_) rfl (by kernel_rfl) (by kernel_rfl) (by kernel_rfl) (fun _ _ _ h => h) (Yields.yieldsIf (Or.inl ⟨by rfl, ?_⟩)) hHeld ?_; rotate_left 1; focus (intro w; go_simp; try with_reducible rfl)); try simp only [Act.put, List.getElem_toArray, List.getElem_cons_zero, List.getElem_cons_succ, List.setIfInBounds_toArray, List.set_cons_zero, List.set_cons_succ])
                    ((refine wpAnyH_take (i := 8) (v := ?_) rfl (by kernel_rfl) (by kernel_rfl) (by kernel_rfl) (fun _ _ _ h => h) (Yields.yieldsIf (Or.inl ⟨by rfl, ?_⟩)) hHeld ?_; rotate_left 1; focus (intro w; go_simp; try with_reducible rfl)); try simp only [Act.put, List.getElem_toArray, List.getElem_cons_zero, List.getElem_cons_succ, List.setIfInBounds_toArray, List.set_cons_zero, List.set_cons_succ])
                    ((refine wpAnyH_take (i := 9) (v := ?_) rfl (by kernel_rfl) (by kernel_rfl) (by kernel_rfl) (fun _ _ _ h => h) (Yields.yieldsIf (Or.inl ⟨by rfl, ?_⟩)) hHeld ?_; rotate_left 1; focus (intro w; go_simp; try with_reducible rfl)); try simp only [Act.put, List.getElem_toArray, List.getElem_cons_zero, List.getElem_cons_succ, List.setIfInBounds_toArray, List.set_cons_zero, List.set_cons_succ])
                    ((refine wpAnyH_take (i := 10) (v := ?_) rfl (by kernel_rfl) (by kernel_rfl) (by kernel_rfl) (fun _ _ _ h => h) (Yields.yieldsIf (Or.inl ⟨by rfl, ?_⟩)) hHeld ?_; rotate_left 1; focus (intro w; go_simp; try with_reducible rfl)); try simp only [Act.put, List.getElem_toArray, List.getElem_cons_zero, List.getElem_cons_succ, List.setIfInBounds_toArray, List.set_cons_zero, List.set_cons_succ])
                    ((refine wpAnyH_ready (rs := [11]) (by kernel_rfl) (by simp) ?_; refine AllReadyH.cons rfl (fun K hK => ?_) AllReadyH.nil; go_simp; refine Calls.mono (HS1.out _ (Mod.refl _ _).drew) ?_; rintro e4 w4 ⟨rfl, hp4⟩; refine hK.out _ _ ?_ (fun hHeld => ?_); (· trivial); clear hK K); try simp only [Act.put, List.getElem_toArray, List.getElem_cons_zero, List.getElem_cons_succ, List.setIfInBounds_toArray, List.set_cons_zero, List.set_cons_succ])
                    ((refine wpAnyH_take (i := 12) (v := ?_) rfl (by kernel_rfl) (by kernel_rfl) (by kernel_rfl) (fun _ _ _ h => h) (Yields.yieldsIf (Or.inl ⟨by rfl, ?_⟩)) hHeld ?_; rotate_left 1; focus (intro w; go_simp; try with_reducible rfl)); try simp only [Act.put, List.getElem_toArray, List.getElem_cons_zero, List.getElem_cons_succ, List.setIfInBounds_toArray, List.set_cons_zero, List.set_cons_succ])
                    ((refine wpAnyH_take (i := 13) (v := ?_) rfl (by kernel_rfl) (by kernel_rfl) (by kernel_rfl) (fun _ _ _ h => h) (Yields.yieldsIf (Or.inl ⟨by rfl, ?_⟩)) hHeld ?_; rotate_left 1; focus (intro w; go_simp; try with_reducible rfl)); try simp only [Act.put, List.getElem_toArray, List.getElem_cons_zero, List.getElem_cons_succ, List.setIfInBounds_toArray, List.set_cons_zero, List.set_cons_succ])
                    ((refine wpAnyH_take (i := 14) (v := ?_) rfl (by kernel_rfl) (by kernel_rfl) (by kernel_rfl) (fun _ _ _ h => h) (Yields.yieldsIf (Or.inl ⟨by rfl, ?_⟩)) hHeld ?_; rotate_left 1; focus (intro w; go_simp; try with_reducible rfl)); try simp only [Act.put, List.getElem_toArray, List.getElem_cons_zero, List.getElem_cons_succ, List.setIfInBounds_toArray, List.set_cons_zero, List.set_cons_succ])
                    ((refine wpAnyH_take (i := 15) (v := ?_) rfl (by kernel_rfl) (by kernel_rfl) (by kernel_rfl) (fun _ _ _ h => h) (Yields.yieldsIf (Or.inl ⟨by rfl, ?_⟩)) hHeld ?_; rotate_left 1; focus (intro w; go_simp; try with_reducible rfl)); try simp only [Act.put, List.getElem_toArray, List.getElem_cons_zero, List.getElem_cons_succ, List.setIfInBounds_toArray, List.set_cons_zero, List.set_cons_succ])
                    ((refine wpAnyH_take (i := 17) (v := ?_) rfl (by kernel_rfl) (by kernel_rfl) (by kernel_rfl) (fun _ _ _ h => h) (Yields.yieldsIf (Or.inl ⟨by rfl, ?_⟩)) hHeld ?_; rotate_left 1; focus (intro w; go_simp; try with_reducible rfl)); try simp only [Act.put, List.getElem_toArray, List.getElem_cons_zero, List.getElem_cons_succ, List.setIfInBounds_toArray, List.set_cons_zero, List.set_cons_succ])
                    ((refine wpAnyH_take (i := 18) (v := ?_) rfl (by kernel_rfl) (by kernel_rfl) (by kernel_rfl) (fun _ _ _ h => h) (Yields.yieldsIf (Or.inl ⟨by rfl, ?_⟩)) hHeld ?_; rotate_left 1; focus (intro w; go_simp; try with_reducible rfl)); try simp only [Act.put, List.getElem_toArray, List.getElem_cons_zero, List.getElem_cons_succ, List.setIfInBounds_toArray, List.set_cons_zero, List.set_cons_succ])
                    ((refine wpAnyH_take (i := 19) (v := ?_) rfl (by kernel_rfl) (by kernel_rfl) (by kernel_rfl) (fun _ _ _ h => h) (Yields.yieldsIf (Or.inl ⟨by rfl, ?_⟩)) hHeld ?_; rotate_left 1; focus (intro w; go_simp; try with_reducible rfl)); try simp only [Act.put, List.getElem_toArray, List.getElem_cons_zero, List.getElem_cons_succ, List.setIfInBounds_toArray, List.set_cons_zero, List.set_cons_succ])
                    ((refine wpAnyH_take (i := 20) (v := ?_) rfl (by kernel_rfl) (by kernel_rfl) (by kernel_rfl) (fun _ _ _ h => h) (Yields.yieldsIf (Or.inl ⟨by rfl, ?_⟩)) hHeld ?_; rotate_left 1; focus (intro w; go_simp; try with_reducible rfl)); try simp only [Act.put, List.getElem_toArray, List.getElem_cons_zero, List.getElem_cons_succ, List.setIfInBounds_toArray, List.set_cons_zero, List.set_cons_succ])
                    have hp34 : Pure w3 w4 := ((Mod.refl _ _).drew : Pure w3 w3.drew).trans hp4
                    ((refine wpAnyH_ready (rs := [16]) (by kernel_rfl) (by simp) ?_; refine AllReadyH.cons rfl (fun K hK => ?_) AllReadyH.nil; go_simp; refine Calls.mono (HA2.out _ hp34) ?_; rintro e5 w5 ⟨a5, c5, rfl, hr5, hf5, hp5, hk5⟩; refine hK.out _ _ ?_ (fun hHeld => ?_); (· trivial); clear hK K); try simp only [Act.put, List.getElem_toArray, List.getElem_cons_zero, List.getElem_cons_succ, List.setIfInBounds_toArray, List.set_cons_zero, List.set_cons_succ])
                    have hr5b := RdL.of_row hr5
                    rw [HRl.out] at hr5b
                    ((refine wpAnyH_ready (rs := [21]) (by kernel_rfl) (by simp) ?_; refine AllReadyH.cons rfl (fun K hK => ?_) AllReadyH.nil; go_simp; refine Calls.mono (HS2.out _ a5 c5 (hp34.trans hp5) hr5b.rd) ?_; rintro e6 w6 ⟨rfl, hp6⟩; refine hK.out _ _ ?_ (fun hHeld => ?_); (· trivial); clear hK K); try simp only [Act.put, List.getElem_toArray, List.getElem_cons_zero, List.getElem_cons_succ, List.setIfInBounds_toArray, List.set_cons_zero, List.set_cons_succ])
                    ((refine wpAnyH_take (i := 22) (v := ?_) rfl (by kernel_rfl) (by kernel_rfl) (by kernel_rfl) (fun _ _ _ h => h) (Yields.yieldsIf (Or.inl ⟨by rfl, ?_⟩)) hHeld ?_; rotate_left 1; focus (intro w; go_simp; try with_reducible rfl)); try simp only [Act.put, List.getElem_toArray, List.getElem_cons_zero, List.getElem_cons_succ, List.setIfInBounds_toArray, List.set_cons_zero, List.set_cons_succ])
                    ((refine wpAnyH_take (i := 23) (v := ?_) rfl (by kernel_rfl) (by kernel_rfl) (by kernel_rfl) (fun _ _ _ h => h) (Yields.yieldsIf (Or.inl ⟨by rfl, ?_⟩)) hHeld ?_; rotate_left 1; focus (intro w; go_simp; try with_reducible rfl)); try simp only [Act.put, List.getElem_toArray, List.getElem_cons_zero, List.getElem_cons_succ, List.setIfInBounds_toArray, List.set_cons_zero, List.set_cons_succ])
                    refine wpAnyH_done (by kernel_rfl) ?_ _
                    clear hHeld
                    have hp36 : Pure w3 w6 := (hp34.trans hp5).trans hp6
                    have HRow6 := Lib.hid (HRow.out.frame hp36 (fun _ _ h => h)); have HK6 := Lib.hid (HK2.out.pure hp36)
                    clear hp4 hp34 hr5 hf5 hp5 hk5 hr5b hp6 hp36 hfr hto g0 g0n HS1 HS2 HA2 HRow
                    have HRow := Lib.hid HRow6.out
                    have HNow := Lib.hid (fun W (hW : Pure w6 W) => (HK6.out.pure hW).t.at_.now_)
                    go_upto_region 21 with fail
                    go_loopw [9] (fun v wr2 => ∃ k : Nat, v = .int .i64 (k : Nat) ∧ k ≤ m ∧ Pure w6 wr2) (fun v _ => m - (intOf v).toNat)
                    case atStart => exact ⟨0, rfl, Nat.zero_le _, Mod.refl _ _⟩
                    case round =>
                      obtain ⟨k, rfl, hk, hpk⟩ := hrel
                      by_cases hlt2 : k < m
                      · have hlt2' : (k : Int) < (m : Int) := by omega
                        have k0 : (0 : Int) ≤ (k : Int) := by omega
                        have dkm : decide (k < m) = true := decide_eq_true hlt2
                        have wk : IntKind.i64.wrap ((k : Int) + 1) = (k : Int) + 1 := IntWalk.i64_in _ (by omega)
                        obtain ⟨x, hx⟩ : ∃ x, M[k]? = some x := ⟨_, List.getElem?_eq_getElem (by rw [HM.out]; exact hlt2)⟩
                        obtain ⟨ad0, had, z0, z1, z2⟩ := td_read (HRow.out.frame hpk (fun _ _ h => h)) hx
                        subst had
                        have hcd : World.cell? wr.drew ⟨(ad0.add (k * 3)).block, (ad0.add (k * 3)).off + 1, none⟩ = some (.int .u64 x.dl) := z1
                        have hex := HIdx.out k x hx
                        clear hx z0 z2
                        by_cases hke : k < e
                        · rw [decide_eq_true hke] at hex
                          have hx1 : x.dl ≤ tt ∧ x.dl ≠ 18446744073709551615 := by unfold expP at hex; simpa using hex
                          have f1 : decide ((x.dl : Int) ≤ (tt : Int)) = true := decide_eq_true (by omega)
                          have f1n : decide (x.dl ≤ tt) = true := decide_eq_true (by omega)
                          have f2 : ((x.dl : Int) != 18446744073709551615) = true := by simp; omega
                          have f3 : decide ((k : Int) < (e : Int)) = true := decide_eq_true (by omega)
                          have f3n : decide (k < e) = true := decide_eq_true (by omega)
                          clear hx1 hke
                          clear hex
                          go_upto_region 23 with fail
                          refine wp_region_held_drew (S := fun u => u.cell? ⟨(ad0.add (k * 3)).block, (ad0.add (k * 3)).off + 1, none⟩ = some (.int .u64 x.dl)) (by kernel_rfl) z1 (fun hHeld => ?_)
                          ((refine wpAnyH_take (i := 0) (v := ?_) rfl (by kernel_rfl) (by kernel_rfl) (by kernel_rfl) (fun _ _ _ h => h) (Yields.yieldsIf (Or.inl ⟨by rfl, ?_⟩)) hHeld ?_; rotate_left 1; focus (intro w; go_simp; try with_reducible rfl)); try simp only [Act.put, List.getElem_toArray, List.getElem_cons_zero, List.getElem_cons_succ, List.setIfInBounds_toArray, List.set_cons_zero, List.set_cons_succ])
                          ((refine wpAnyH_take (i := 1) (v := ?_) rfl (by kernel_rfl) (by kernel_rfl) (by kernel_rfl) (fun _ _ _ h => h) (Yields.yieldsIf (Or.inl ⟨by rfl, ?_⟩)) hHeld ?_; rotate_left 1; focus (intro w; go_simp; try with_reducible rfl)); try simp only [Act.put, List.getElem_toArray, List.getElem_cons_zero, List.getElem_cons_succ, List.setIfInBounds_toArray, List.set_cons_zero, List.set_cons_succ])
                          ((refine wpAnyH_take (i := 2) (v := ?_) rfl (by kernel_rfl) (by kernel_rfl) (by kernel_rfl) (fun _ _ _ h => h) (Yields.yieldsIf (Or.inl ⟨by rfl, ?_⟩)) hHeld ?_; rotate_left 1; focus (intro w; go_simp; try with_reducible rfl)); try simp only [Act.put, List.getElem_toArray, List.getElem_cons_zero, List.getElem_cons_succ, List.setIfInBounds_toArray, List.set_cons_zero, List.set_cons_succ])
                          ((refine wpAnyH_take (i := 3) (v := ?_) rfl (by kernel_rfl) (by kernel_rfl) (by kernel_rfl) (fun _ _ _ h => h) (Yields.yieldsIf (Or.inl ⟨by rfl, ?_⟩)) hHeld ?_; rotate_left 1; focus (intro w; go_simp; try with_reducible rfl)); try simp only [Act.put, List.getElem_toArray, List.getElem_cons_zero, List.getElem_cons_succ, List.setIfInBounds_toArray, List.set_cons_zero, List.set_cons_succ])
                          ((refine wpAnyH_take (i := 4) (v := ?_) rfl (by kernel_rfl) (by kernel_rfl) (by kernel_rfl) (fun _ _ _ h => h) (Or.inl ⟨by rfl, ?_⟩) hHeld ?_; rotate_left 1; focus (intro w hS; obtain s0 := hS; go_simp; try with_reducible rfl)); try simp only [Act.put, List.getElem_toArray, List.getElem_cons_zero, List.getElem_cons_succ, List.setIfInBounds_toArray, List.set_cons_zero, List.set_cons_succ])
                          ((refine wpAnyH_take (i := 5) (v := ?_) rfl (by kernel_rfl) (by kernel_rfl) (by kernel_rfl) (fun _ _ _ h => h) (Yields.yieldsIf (Or.inl ⟨by rfl, ?_⟩)) hHeld ?_; rotate_left 1; focus (intro w; go_simp; try with_reducible rfl)); try simp only [Act.put, List.getElem_toArray, List.getElem_cons_zero, List.getElem_cons_succ, List.setIfInBounds_toArray, List.set_cons_zero, List.set_cons_succ])
                          ((refine wpAnyH_take (i := 16) (v := ?_) rfl (by kernel_rfl) (by kernel_rfl) (by kernel_rfl) (fun _ _ _ h => h) (Yields.yieldsIf (Or.inl ⟨by rfl, ?_⟩)) hHeld ?_; rotate_left 1; focus (intro w; go_simp; try with_reducible rfl)); try simp only [Act.put, List.getElem_toArray, List.getElem_cons_zero, List.getElem_cons_succ, List.setIfInBounds_toArray, List.set_cons_zero, List.set_cons_succ])
                          ((refine wpAnyH_take (i := 17) (v := ?_) rfl (by kernel_rfl) (by kernel_rfl) (by kernel_rfl) (fun _ _ _ h => h) (Yields.yieldsIf (Or.inl ⟨by rfl, ?_⟩)) hHeld ?_; rotate_left 1; focus (intro w; go_simp; try with_reducible rfl)); try simp only [Act.put, List.getElem_toArray, List.getElem_cons_zero, List.getElem_cons_succ, List.setIfInBounds_toArray, List.set_cons_zero, List.set_cons_succ])
                          ((refine wpAnyH_take (i := 18) (v := ?_) rfl (by kernel_rfl) (by kernel_rfl) (by kernel_rfl) (fun _ _ _ h => h) (Yields.yieldsIf (Or.inl ⟨by rfl, ?_⟩)) hHeld ?_; rotate_left 1; focus (intro w; go_simp; try with_reducible rfl)); try simp only [Act.put, List.getElem_toArray, List.getElem_cons_zero, List.getElem_cons_succ, List.setIfInBounds_toArray, List.set_cons_zero, List.set_cons_succ])
                          ((refine wpAnyH_take (i := 19) (v := ?_) rfl (by kernel_rfl) (by kernel_rfl) (by kernel_rfl) (fun _ _ _ h => h) (Yields.yieldsIf (Or.inl ⟨by rfl, ?_⟩)) hHeld ?_; rotate_left 1; focus (intro w; go_simp; try with_reducible rfl)); try simp only [Act.put, List.getElem_toArray, List.getElem_cons_zero, List.getElem_cons_succ, List.setIfInBounds_toArray, List.set_cons_zero, List.set_cons_succ])
                          ((refine wpAnyH_ready (rs := [6]) (by kernel_rfl) (by simp) ?_; refine AllReadyH.cons rfl (fun K hK => ?_) AllReadyH.nil; go_simp; refine Calls.mono (HNow.out _ (by first | exact hpk | exact hpk.drew)) ?_; rintro e w9 ⟨rfl, rfl⟩; refine hK.out _ _ ?_ (fun hHeld => ?_); (· exact hcd); clear hK K); try simp only [Act.put, List.getElem_toArray, List.getElem_cons_zero, List.getElem_cons_succ, List.setIfInBounds_toArray, List.set_cons_zero, List.set_cons_succ])
                          ((refine wpAnyH_take (i := 7) (v := ?_) rfl (by kernel_rfl) (by kernel_rfl) (by kernel_rfl) (fun _ _ _ h => h) (Yields.yieldsIf (Or.inl ⟨by rfl, ?_⟩)) hHeld ?_; rotate_left 1; focus (intro w; go_simp; try with_reducible rfl)); try simp only [Act.put, List.getElem_toArray, List.getElem_cons_zero, List.getElem_cons_succ, List.setIfInBounds_toArray, List.set_cons_zero, List.set_cons_succ])
                          ((refine wpAnyH_take (i := 8) (v := ?_) rfl (by kernel_rfl) (by kernel_rfl) (by kernel_rfl) (fun _ _ _ h => h) (Yields.yieldsIf (Or.inl ⟨by rfl, ?_⟩)) hHeld ?_; rotate_left 1; focus (intro w; go_simp; try with_reducible rfl)); try simp only [Act.put, List.getElem_toArray, List.getElem_cons_zero, List.getElem_cons_succ, List.setIfInBounds_toArray, List.set_cons_zero, List.set_cons_succ])
                          ((refine wpAnyH_take (i := 9) (v := ?_) rfl (by kernel_rfl) (by kernel_rfl) (by kernel_rfl) (fun _ _ _ h => h) (Yields.yieldsIf (Or.inl ⟨by rfl, ?_⟩)) hHeld ?_; rotate_left 1; focus (intro w; go_simp; try with_reducible rfl)); try simp only [Act.put, List.getElem_toArray, List.getElem_cons_zero, List.getElem_cons_succ, List.setIfInBounds_toArray, List.set_cons_zero, List.set_cons_succ])
                          ((refine wpAnyH_take (i := 10) (v := ?_) rfl (by kernel_rfl) (by kernel_rfl) (by kernel_rfl) (fun _ _ _ h => h) (Yields.yieldsIf (Or.inl ⟨by rfl, ?_⟩)) hHeld ?_; rotate_left 1; focus (intro w; go_simp; try with_reducible rfl)); try simp only [Act.put, List.getElem_toArray, List.getElem_cons_zero, List.getElem_cons_succ, List.setIfInBounds_toArray, List.set_cons_zero, List.set_cons_succ])
                          ((refine wpAnyH_take (i := 11) (v := ?_) rfl (by kernel_rfl) (by kernel_rfl) (by kernel_rfl) (fun _ _ _ h => h) (Yields.yieldsIf (Or.inl ⟨by rfl, ?_⟩)) hHeld ?_; rotate_left 1; focus (intro w; go_simp; try with_reducible rfl)); try simp only [Act.put, List.getElem_toArray, List.getElem_cons_zero, List.getElem_cons_succ, List.setIfInBounds_toArray, List.set_cons_zero, List.set_cons_succ])
                          ((refine wpAnyH_take (i := 12) (v := ?_) rfl (by kernel_rfl) (by kernel_rfl) (by kernel_rfl) (fun _ _ _ h => h) (Yields.yieldsIf (Or.inl ⟨by rfl, ?_⟩)) hHeld ?_; rotate_left 1; focus (intro w; go_simp; try with_reducible rfl)); try simp only [Act.put, List.getElem_toArray, List.getElem_cons_zero, List.getElem_cons_succ, List.setIfInBounds_toArray, List.set_cons_zero, List.set_cons_succ])
                          ((refine wpAnyH_take (i := 13) (v := ?_) rfl (by kernel_rfl) (by kernel_rfl) (by kernel_rfl) (fun _ _ _ h => h) (Or.inl ⟨by rfl, ?_⟩) hHeld ?_; rotate_left 1; focus (intro w hS; obtain s0 := hS; go_simp; try with_reducible rfl)); try simp only [Act.put, List.getElem_toArray, List.getElem_cons_zero, List.getElem_cons_succ, List.setIfInBounds_toArray, List.set_cons_zero, List.set_cons_succ])
                          ((refine wpAnyH_take (i := 14) (v := ?_) rfl (by kernel_rfl) (by kernel_rfl) (by kernel_rfl) (fun _ _ _ h => h) (Yields.yieldsIf (Or.inl ⟨by rfl, ?_⟩)) hHeld ?_; rotate_left 1; focus (intro w; go_simp; try with_reducible rfl)); try simp only [Act.put, List.getElem_toArray, List.getElem_cons_zero, List.getElem_cons_succ, List.setIfInBounds_toArray, List.set_cons_zero, List.set_cons_succ])
                          ((refine wpAnyH_take (i := 15) (v := ?_) rfl (by kernel_rfl) (by kernel_rfl) (by kernel_rfl) (fun _ _ _ h => h) (Yields.yieldsIf (Or.inl ⟨by rfl, ?_⟩)) hHeld ?_; rotate_left 1; focus (intro w; go_simp; try with_reducible rfl)); try simp only [Act.put, List.getElem_toArray, List.getElem_cons_zero, List.getElem_cons_succ, List.setIfInBounds_toArray, List.set_cons_zero, List.set_cons_succ])
                          ((refine wpAnyH_take (i := 20) (v := ?_) rfl (by kernel_rfl) (by kernel_rfl) (by kernel_rfl) (fun _ _ _ h => h) (Yields.yieldsIf (Or.inl ⟨by rfl, ?_⟩)) hHeld ?_; rotate_left 1; focus (intro w; go_simp; try with_reducible rfl)); try simp only [Act.put, List.getElem_toArray, List.getElem_cons_zero, List.getElem_cons_succ, List.setIfInBounds_toArray, List.set_cons_zero, List.set_cons_succ])
                          refine wpAnyH_done (by kernel_rfl) ?_ _
                          clear hHeld
                          go_wp2
                          go_roundw
                          case rel => exact ⟨k + 1, by go_num, hlt2, hpk.drew⟩
                          case measure => simp [intOf]; omega
                        · rw [decide_eq_false hke] at hex
                          have f3 : decide ((k : Int) < (e : Int)) = false := decide_eq_false (by omega)
                          have f3n : decide (k < e) = false := decide_eq_false (by omega)
                          by_cases hxt : x.dl ≤ tt
                          · have hx1 : x.dl = 18446744073709551615 := by unfold expP at hex; simp [hxt] at hex; exact hex
                            have f1 : decide ((x.dl : Int) ≤ (tt : Int)) = true := decide_eq_true (by omega)
                            have f1n : decide (x.dl ≤ tt) = true := decide_eq_true (by omega)
                            have f2 : ((x.dl : Int) != 18446744073709551615) = false := by simp; omega
                            clear hx1 hke hxt
                            clear hex
                            go_upto_region 23 with fail
                            refine wp_region_held_drew (S := fun u => u.cell? ⟨(ad0.add (k * 3)).block, (ad0.add (k * 3)).off + 1, none⟩ = some (.int .u64 x.dl)) (by kernel_rfl) z1 (fun hHeld => ?_)
                            ((refine wpAnyH_take (i := 0) (v := ?_) rfl (by kernel_rfl) (by kernel_rfl) (by kernel_rfl) (fun _ _ _ h => h) (Yields.yieldsIf (Or.inl ⟨by rfl, ?_⟩)) hHeld ?_; rotate_left 1; focus (intro w; go_simp; try with_reducible rfl)); try simp only [Act.put, List.getElem_toArray, List.getElem_cons_zero, List.getElem_cons_succ, List.setIfInBounds_toArray, List.set_cons_zero, List.set_cons_succ])
                            ((refine wpAnyH_take (i := 1) (v := ?_) rfl (by kernel_rfl) (by kernel_rfl) (by kernel_rfl) (fun _ _ _ h => h) (Yields.yieldsIf (Or.inl ⟨by rfl, ?_⟩)) hHeld ?_; rotate_left 1; focus (intro w; go_simp; try with_reducible rfl)); try simp only [Act.put, List.getElem_toArray, List.getElem_cons_zero, List.getElem_cons_succ, List.setIfInBounds_toArray, List.set_cons_zero, List.set_cons_succ])
                            ((refine wpAnyH_take (i := 2) (v := ?_) rfl (by kernel_rfl) (by kernel_rfl) (by kernel_rfl) (fun _ _ _ h => h) (Yields.yieldsIf (Or.inl ⟨by rfl, ?_⟩)) hHeld ?_; rotate_left 1; focus (intro w; go_simp; try with_reducible rfl)); try simp only [Act.put, List.getElem_toArray, List.getElem_cons_zero, List.getElem_cons_succ, List.setIfInBounds_toArray, List.set_cons_zero, List.set_cons_succ])
                            ((refine wpAnyH_take (i := 3) (v := ?_) rfl (by kernel_rfl) (by kernel_rfl) (by kernel_rfl) (fun _ _ _ h => h) (Yields.yieldsIf (Or.inl ⟨by rfl, ?_⟩)) hHeld ?_; rotate_left 1; focus (intro w; go_simp; try with_reducible rfl)); try simp only [Act.put, List.getElem_toArray, List.getElem_cons_zero, List.getElem_cons_succ, List.setIfInBounds_toArray, List.set_cons_zero, List.set_cons_succ])
                            ((refine wpAnyH_take (i := 4) (v := ?_) rfl (by kernel_rfl) (by kernel_rfl) (by kernel_rfl) (fun _ _ _ h => h) (Or.inl ⟨by rfl, ?_⟩) hHeld ?_; rotate_left 1; focus (intro w hS; obtain s0 := hS; go_simp; try with_reducible rfl)); try simp only [Act.put, List.getElem_toArray, List.getElem_cons_zero, List.getElem_cons_succ, List.setIfInBounds_toArray, List.set_cons_zero, List.set_cons_succ])
                            ((refine wpAnyH_take (i := 5) (v := ?_) rfl (by kernel_rfl) (by kernel_rfl) (by kernel_rfl) (fun _ _ _ h => h) (Yields.yieldsIf (Or.inl ⟨by rfl, ?_⟩)) hHeld ?_; rotate_left 1; focus (intro w; go_simp; try with_reducible rfl)); try simp only [Act.put, List.getElem_toArray, List.getElem_cons_zero, List.getElem_cons_succ, List.setIfInBounds_toArray, List.set_cons_zero, List.set_cons_succ])
                            ((refine wpAnyH_take (i := 16) (v := ?_) rfl (by kernel_rfl) (by kernel_rfl) (by kernel_rfl) (fun _ _ _ h => h) (Yields.yieldsIf (Or.inl ⟨by rfl, ?_⟩)) hHeld ?_; rotate_left 1; focus (intro w; go_simp; try with_reducible rfl)); try simp only [Act.put, List.getElem_toArray, List.getElem_cons_zero, List.getElem_cons_succ, List.setIfInBounds_toArray, List.set_cons_zero, List.set_cons_succ])
                            ((refine wpAnyH_take (i := 17) (v := ?_) rfl (by kernel_rfl) (by kernel_rfl) (by kernel_rfl) (fun _ _ _ h => h) (Yields.yieldsIf (Or.inl ⟨by rfl, ?_⟩)) hHeld ?_; rotate_left 1; focus (intro w; go_simp; try with_reducible rfl)); try simp only [Act.put, List.getElem_toArray, List.getElem_cons_zero, List.getElem_cons_succ, List.setIfInBounds_toArray, List.set_cons_zero, List.set_cons_succ])
                            ((refine wpAnyH_take (i := 18) (v := ?_) rfl (by kernel_rfl) (by kernel_rfl) (by kernel_rfl) (fun _ _ _ h => h) (Yields.yieldsIf (Or.inl ⟨by rfl, ?_⟩)) hHeld ?_; rotate_left 1; focus (intro w; go_simp; try with_reducible rfl)); try simp only [Act.put, List.getElem_toArray, List.getElem_cons_zero, List.getElem_cons_succ, List.setIfInBounds_toArray, List.set_cons_zero, List.set_cons_succ])
                            ((refine wpAnyH_take (i := 19) (v := ?_) rfl (by kernel_rfl) (by kernel_rfl) (by kernel_rfl) (fun _ _ _ h => h) (Yields.yieldsIf (Or.inl ⟨by rfl, ?_⟩)) hHeld ?_; rotate_left 1; focus (intro w; go_simp; try with_reducible rfl)); try simp only [Act.put, List.getElem_toArray, List.getElem_cons_zero, List.getElem_cons_succ, List.setIfInBounds_toArray, List.set_cons_zero, List.set_cons_succ])
                            ((refine wpAnyH_ready (rs := [6]) (by kernel_rfl) (by simp) ?_; refine AllReadyH.cons rfl (fun K hK => ?_) AllReadyH.nil; go_simp; refine Calls.mono (HNow.out _ (by first | exact hpk | exact hpk.drew)) ?_; rintro e w9 ⟨rfl, rfl⟩; refine hK.out _ _ ?_ (fun hHeld => ?_); (· exact hcd); clear hK K); try simp only [Act.put, List.getElem_toArray, List.getElem_cons_zero, List.getElem_cons_succ, List.setIfInBounds_toArray, List.set_cons_zero, List.set_cons_succ])
                            ((refine wpAnyH_take (i := 7) (v := ?_) rfl (by kernel_rfl) (by kernel_rfl) (by kernel_rfl) (fun _ _ _ h => h) (Yields.yieldsIf (Or.inl ⟨by rfl, ?_⟩)) hHeld ?_; rotate_left 1; focus (intro w; go_simp; try with_reducible rfl)); try simp only [Act.put, List.getElem_toArray, List.getElem_cons_zero, List.getElem_cons_succ, List.setIfInBounds_toArray, List.set_cons_zero, List.set_cons_succ])
                            ((refine wpAnyH_take (i := 8) (v := ?_) rfl (by kernel_rfl) (by kernel_rfl) (by kernel_rfl) (fun _ _ _ h => h) (Yields.yieldsIf (Or.inl ⟨by rfl, ?_⟩)) hHeld ?_; rotate_left 1; focus (intro w; go_simp; try with_reducible rfl)); try simp only [Act.put, List.getElem_toArray, List.getElem_cons_zero, List.getElem_cons_succ, List.setIfInBounds_toArray, List.set_cons_zero, List.set_cons_succ])
                            ((refine wpAnyH_take (i := 9) (v := ?_) rfl (by kernel_rfl) (by kernel_rfl) (by kernel_rfl) (fun _ _ _ h => h) (Yields.yieldsIf (Or.inl ⟨by rfl, ?_⟩)) hHeld ?_; rotate_left 1; focus (intro w; go_simp; try with_reducible rfl)); try simp only [Act.put, List.getElem_toArray, List.getElem_cons_zero, List.getElem_cons_succ, List.setIfInBounds_toArray, List.set_cons_zero, List.set_cons_succ])
                            ((refine wpAnyH_take (i := 10) (v := ?_) rfl (by kernel_rfl) (by kernel_rfl) (by kernel_rfl) (fun _ _ _ h => h) (Yields.yieldsIf (Or.inl ⟨by rfl, ?_⟩)) hHeld ?_; rotate_left 1; focus (intro w; go_simp; try with_reducible rfl)); try simp only [Act.put, List.getElem_toArray, List.getElem_cons_zero, List.getElem_cons_succ, List.setIfInBounds_toArray, List.set_cons_zero, List.set_cons_succ])
                            ((refine wpAnyH_take (i := 11) (v := ?_) rfl (by kernel_rfl) (by kernel_rfl) (by kernel_rfl) (fun _ _ _ h => h) (Yields.yieldsIf (Or.inl ⟨by rfl, ?_⟩)) hHeld ?_; rotate_left 1; focus (intro w; go_simp; try with_reducible rfl)); try simp only [Act.put, List.getElem_toArray, List.getElem_cons_zero, List.getElem_cons_succ, List.setIfInBounds_toArray, List.set_cons_zero, List.set_cons_succ])
                            ((refine wpAnyH_take (i := 12) (v := ?_) rfl (by kernel_rfl) (by kernel_rfl) (by kernel_rfl) (fun _ _ _ h => h) (Yields.yieldsIf (Or.inl ⟨by rfl, ?_⟩)) hHeld ?_; rotate_left 1; focus (intro w; go_simp; try with_reducible rfl)); try simp only [Act.put, List.getElem_toArray, List.getElem_cons_zero, List.getElem_cons_succ, List.setIfInBounds_toArray, List.set_cons_zero, List.set_cons_succ])
                            ((refine wpAnyH_take (i := 13) (v := ?_) rfl (by kernel_rfl) (by kernel_rfl) (by kernel_rfl) (fun _ _ _ h => h) (Or.inl ⟨by rfl, ?_⟩) hHeld ?_; rotate_left 1; focus (intro w hS; obtain s0 := hS; go_simp; try with_reducible rfl)); try simp only [Act.put, List.getElem_toArray, List.getElem_cons_zero, List.getElem_cons_succ, List.setIfInBounds_toArray, List.set_cons_zero, List.set_cons_succ])
                            ((refine wpAnyH_take (i := 14) (v := ?_) rfl (by kernel_rfl) (by kernel_rfl) (by kernel_rfl) (fun _ _ _ h => h) (Yields.yieldsIf (Or.inl ⟨by rfl, ?_⟩)) hHeld ?_; rotate_left 1; focus (intro w; go_simp; try with_reducible rfl)); try simp only [Act.put, List.getElem_toArray, List.getElem_cons_zero, List.getElem_cons_succ, List.setIfInBounds_toArray, List.set_cons_zero, List.set_cons_succ])
                            ((refine wpAnyH_take (i := 15) (v := ?_) rfl (by kernel_rfl) (by kernel_rfl) (by kernel_rfl) (fun _ _ _ h => h) (Yields.yieldsIf (Or.inl ⟨by rfl, ?_⟩)) hHeld ?_; rotate_left 1; focus (intro w; go_simp; try with_reducible rfl)); try simp only [Act.put, List.getElem_toArray, List.getElem_cons_zero, List.getElem_cons_succ, List.setIfInBounds_toArray, List.set_cons_zero, List.set_cons_succ])
                            ((refine wpAnyH_take (i := 20) (v := ?_) rfl (by kernel_rfl) (by kernel_rfl) (by kernel_rfl) (fun _ _ _ h => h) (Yields.yieldsIf (Or.inl ⟨by rfl, ?_⟩)) hHeld ?_; rotate_left 1; focus (intro w; go_simp; try with_reducible rfl)); try simp only [Act.put, List.getElem_toArray, List.getElem_cons_zero, List.getElem_cons_succ, List.setIfInBounds_toArray, List.set_cons_zero, List.set_cons_succ])
                            refine wpAnyH_done (by kernel_rfl) ?_ _
                            clear hHeld
                            go_wp2
                            go_roundw
                            case rel => exact ⟨k + 1, by go_num, hlt2, hpk.drew⟩
                            case measure => simp [intOf]; omega
                          · have f1 : decide ((x.dl : Int) ≤ (tt : Int)) = false := decide_eq_false (by omega)
                            have f1n : decide (x.dl ≤ tt) = false := decide_eq_false (by omega)
                            clear hke hxt
                            clear hex
                            go_upto_region 23 with fail
                            refine wp_region_held_drew (S := fun u => u.cell? ⟨(ad0.add (k * 3)).block, (ad0.add (k * 3)).off + 1, none⟩ = some (.int .u64 x.dl)) (by kernel_rfl) z1 (fun hHeld => ?_)
                            ((refine wpAnyH_take (i := 0) (v := ?_) rfl (by kernel_rfl) (by kernel_rfl) (by kernel_rfl) (fun _ _ _ h => h) (Yields.yieldsIf (Or.inl ⟨by rfl, ?_⟩)) hHeld ?_; rotate_left 1; focus (intro w; go_simp; try with_reducible rfl)); try simp only [Act.put, List.getElem_toArray, List.getElem_cons_zero, List.getElem_cons_succ, List.setIfInBounds_toArray, List.set_cons_zero, List.set_cons_succ])
                            ((refine wpAnyH_take (i := 1) (v := ?_) rfl (by kernel_rfl) (by kernel_rfl) (by kernel_rfl) (fun _ _ _ h => h) (Yields.yieldsIf (Or.inl ⟨by rfl, ?_⟩)) hHeld ?_; rotate_left 1; focus (intro w; go_simp; try with_reducible rfl)); try simp only [Act.put, List.getElem_toArray, List.getElem_cons_zero, List.getElem_cons_succ, List.setIfInBounds_toArray, List.set_cons_zero, List.set_cons_succ])
                            ((refine wpAnyH_take (i := 2) (v := ?_) rfl (by kernel_rfl) (by kernel_rfl) (by kernel_rfl) (fun _ _ _ h => h) (Yields.yieldsIf (Or.inl ⟨by rfl, ?_⟩)) hHeld ?_; rotate_left 1; focus (intro w; go_simp; try with_reducible rfl)); try simp only [Act.put, List.getElem_toArray, List.getElem_cons_zero, List.getElem_cons_succ, List.setIfInBounds_toArray, List.set_cons_zero, List.set_cons_succ])
                            ((refine wpAnyH_take (i := 3) (v := ?_) rfl (by kernel_rfl) (by kernel_rfl) (by kernel_rfl) (fun _ _ _ h => h) (Yields.yieldsIf (Or.inl ⟨by rfl, ?_⟩)) hHeld ?_; rotate_left 1; focus (intro w; go_simp; try with_reducible rfl)); try simp only [Act.put, List.getElem_toArray, List.getElem_cons_zero, List.getElem_cons_succ, List.setIfInBounds_toArray, List.set_cons_zero, List.set_cons_succ])
                            ((refine wpAnyH_take (i := 4) (v := ?_) rfl (by kernel_rfl) (by kernel_rfl) (by kernel_rfl) (fun _ _ _ h => h) (Or.inl ⟨by rfl, ?_⟩) hHeld ?_; rotate_left 1; focus (intro w hS; obtain s0 := hS; go_simp; try with_reducible rfl)); try simp only [Act.put, List.getElem_toArray, List.getElem_cons_zero, List.getElem_cons_succ, List.setIfInBounds_toArray, List.set_cons_zero, List.set_cons_succ])
                            ((refine wpAnyH_take (i := 5) (v := ?_) rfl (by kernel_rfl) (by kernel_rfl) (by kernel_rfl) (fun _ _ _ h => h) (Yields.yieldsIf (Or.inl ⟨by rfl, ?_⟩)) hHeld ?_; rotate_left 1; focus (intro w; go_simp; try with_reducible rfl)); try simp only [Act.put, List.getElem_toArray, List.getElem_cons_zero, List.getElem_cons_succ, List.setIfInBounds_toArray, List.set_cons_zero, List.set_cons_succ])
                            ((refine wpAnyH_take (i := 16) (v := ?_) rfl (by kernel_rfl) (by kernel_rfl) (by kernel_rfl) (fun _ _ _ h => h) (Yields.yieldsIf (Or.inl ⟨by rfl, ?_⟩)) hHeld ?_; rotate_left 1; focus (intro w; go_simp; try with_reducible rfl)); try simp only [Act.put, List.getElem_toArray, List.getElem_cons_zero, List.getElem_cons_succ, List.setIfInBounds_toArray, List.set_cons_zero, List.set_cons_succ])
                            ((refine wpAnyH_take (i := 17) (v := ?_) rfl (by kernel_rfl) (by kernel_rfl) (by kernel_rfl) (fun _ _ _ h => h) (Yields.yieldsIf (Or.inl ⟨by rfl, ?_⟩)) hHeld ?_; rotate_left 1; focus (intro w; go_simp; try with_reducible rfl)); try simp only [Act.put, List.getElem_toArray, List.getElem_cons_zero, List.getElem_cons_succ, List.setIfInBounds_toArray, List.set_cons_zero, List.set_cons_succ])
                            ((refine wpAnyH_take (i := 18) (v := ?_) rfl (by kernel_rfl) (by kernel_rfl) (by kernel_rfl) (fun _ _ _ h => h) (Yields.yieldsIf (Or.inl ⟨by rfl, ?_⟩)) hHeld ?_; rotate_left 1; focus (intro w; go_simp; try with_reducible rfl)); try simp only [Act.put, List.getElem_toArray, List.getElem_cons_zero, List.getElem_cons_succ, List.setIfInBounds_toArray, List.set_cons_zero, List.set_cons_succ])
                            ((refine wpAnyH_take (i := 19) (v := ?_) rfl (by kernel_rfl) (by kernel_rfl) (by kernel_rfl) (fun _ _ _ h => h) (Yields.yieldsIf (Or.inl ⟨by rfl, ?_⟩)) hHeld ?_; rotate_left 1; focus (intro w; go_simp; try with_reducible rfl)); try simp only [Act.put, List.getElem_toArray, List.getElem_cons_zero, List.getElem_cons_succ, List.setIfInBounds_toArray, List.set_cons_zero, List.set_cons_succ])
                            ((refine wpAnyH_ready (rs := [6]) (by kernel_rfl) (by simp) ?_; refine AllReadyH.cons rfl (fun K hK => ?_) AllReadyH.nil; go_simp; refine Calls.mono (HNow.out _ (by first | exact hpk | exact hpk.drew)) ?_; rintro e w9 ⟨rfl, rfl⟩; refine hK.out _ _ ?_ (fun hHeld => ?_); (· exact hcd); clear hK K); try simp only [Act.put, List.getElem_toArray, List.getElem_cons_zero, List.getElem_cons_succ, List.setIfInBounds_toArray, List.set_cons_zero, List.set_cons_succ])
                            ((refine wpAnyH_take (i := 7) (v := ?_) rfl (by kernel_rfl) (by kernel_rfl) (by kernel_rfl) (fun _ _ _ h => h) (Yields.yieldsIf (Or.inl ⟨by rfl, ?_⟩)) hHeld ?_; rotate_left 1; focus (intro w; go_simp; try with_reducible rfl)); try simp only [Act.put, List.getElem_toArray, List.getElem_cons_zero, List.getElem_cons_succ, List.setIfInBounds_toArray, List.set_cons_zero, List.set_cons_succ])
                            ((refine wpAnyH_take (i := 8) (v := ?_) rfl (by kernel_rfl) (by kernel_rfl) (by kernel_rfl) (fun _ _ _ h => h) (Yields.yieldsIf (Or.inl ⟨by rfl, ?_⟩)) hHeld ?_; rotate_left 1; focus (intro w; go_simp; try with_reducible rfl)); try simp only [Act.put, List.getElem_toArray, List.getElem_cons_zero, List.getElem_cons_succ, List.setIfInBounds_toArray, List.set_cons_zero, List.set_cons_succ])
                            (refine wpAnyH_take (i := 9) (v := undef) rfl (by kernel_rfl) (by kernel_rfl) (by kernel_rfl) (fun _ _ _ h => h) (Or.inr ⟨by rfl, rfl⟩) hHeld ?_; try simp only [Act.put, List.getElem_toArray, List.getElem_cons_zero, List.getElem_cons_succ, List.setIfInBounds_toArray, List.set_cons_zero, List.set_cons_succ])
                            (refine wpAnyH_take (i := 10) (v := undef) rfl (by kernel_rfl) (by kernel_rfl) (by kernel_rfl) (fun _ _ _ h => h) (Or.inr ⟨by rfl, rfl⟩) hHeld ?_; try simp only [Act.put, List.getElem_toArray, List.getElem_cons_zero, List.getElem_cons_succ, List.setIfInBounds_toArray, List.set_cons_zero, List.set_cons_succ])
                            (refine wpAnyH_take (i := 11) (v := undef) rfl (by kernel_rfl) (by kernel_rfl) (by kernel_rfl) (fun _ _ _ h => h) (Or.inr ⟨by rfl, rfl⟩) hHeld ?_; try simp only [Act.put, List.getElem_toArray, List.getElem_cons_zero, List.getElem_cons_succ, List.setIfInBounds_toArray, List.set_cons_zero, List.set_cons_succ])
                            (refine wpAnyH_take (i := 12) (v := undef) rfl (by kernel_rfl) (by kernel_rfl) (by kernel_rfl) (fun _ _ _ h => h) (Or.inr ⟨by rfl, rfl⟩) hHeld ?_; try simp only [Act.put, List.getElem_toArray, List.getElem_cons_zero, List.getElem_cons_succ, List.setIfInBounds_toArray, List.set_cons_zero, List.set_cons_succ])
                            (refine wpAnyH_take (i := 13) (v := undef) rfl (by kernel_rfl) (by kernel_rfl) (by kernel_rfl) (fun _ _ _ h => h) (Or.inr ⟨by rfl, rfl⟩) hHeld ?_; try simp only [Act.put, List.getElem_toArray, List.getElem_cons_zero, List.getElem_cons_succ, List.setIfInBounds_toArray, List.set_cons_zero, List.set_cons_succ])
                            (refine wpAnyH_take (i := 14) (v := undef) rfl (by kernel_rfl) (by kernel_rfl) (by kernel_rfl) (fun _ _ _ h => h) (Or.inr ⟨by rfl, rfl⟩) hHeld ?_; try simp only [Act.put, List.getElem_toArray, List.getElem_cons_zero, List.getElem_cons_succ, List.setIfInBounds_toArray, List.set_cons_zero, List.set_cons_succ])
                            ((refine wpAnyH_take (i := 15) (v := ?_) rfl (by kernel_rfl) (by kernel_rfl) (by kernel_rfl) (fun _ _ _ h => h) (Yields.yieldsIf (Or.inl ⟨by rfl, ?_⟩)) hHeld ?_; rotate_left 1; focus (intro w; go_simp; try with_reducible rfl)); try simp only [Act.put, List.getElem_toArray, List.getElem_cons_zero, List.getElem_cons_succ, List.setIfInBounds_toArray, List.set_cons_zero, List.set_cons_succ])
                            ((refine wpAnyH_take (i := 20) (v := ?_) rfl (by kernel_rfl) (by kernel_rfl) (by kernel_rfl) (fun _ _ _ h => h) (Yields.yieldsIf (Or.inl ⟨by rfl, ?_⟩)) hHeld ?_; rotate_left 1; focus (intro w; go_simp; try with_reducible rfl)); try simp only [Act.put, List.getElem_toArray, List.getElem_cons_zero, List.getElem_cons_succ, List.setIfInBounds_toArray, List.set_cons_zero, List.set_cons_succ])
                            refine wpAnyH_done (by kernel_rfl) ?_ _
                            clear hHeld
                            go_wp2
                            go_roundw
                            case rel => exact ⟨k + 1, by go_num, hlt2, hpk.drew⟩
                            case measure => simp [intOf]; omega
                      · have hge : ¬ (k : Int) < (m : Int) := by omega
                        have dkm : decide (k < m) = false := decide_eq_false hlt2
                        go_wp2
                        go_meet
                        exact ⟨_, _, _, HK6.out.pure hpk⟩
                  -- END A
                · rw [not_or] at c2
                  obtain ⟨c2, c3⟩ := c2
                  have b0 : (wh == 0) = false := by simpa using c0
                  have b1 : (wh == 1) = false := by simpa using c1
                  have b2 : (wh == 2) = false := by simpa using c2
                  have b3 : (wh == 3) = false := by simpa using c3
                  go_wp2
                  go_meet
                  exact ⟨_, _, _, HK.out⟩
          case rest =>
            obtain ⟨D2, nw2, M2, hK2⟩ := hcut
            have HK2 := Lib.hid hK2
            clear hK2 z0 z1 z2 z3
            -- BEG B
            obtain ⟨m, hm⟩ : ∃ m, M2.length = m := ⟨_, rfl⟩
            have hcnt : m ≤ 4194304 := by rw [← hm]; exact HK2.out.t.at_.law.count
            have HAll0 := Lib.hid (HK2.out.allR hm)
            have HM := Lib.hid hm
            have HSo := Lib.hid (fun k x y (hx : M2[k]? = some x) (hy : M2[k + 1]? = some y) => sorted_bef HK2.out.t.at_.law.ord hx hy)
            have HNd := Lib.hid (fun x (hx : x ∈ M2) => HK2.out.t.at_.law.notdue hx)
            have hnw : nw2 = nw2 := rfl
            clear hm hnw
            go_upto_region 26 with (go_at_call 36; refine Calls.mono HAll0.out ?_; rintro e2 w3 ⟨a1, c1, rfl, hr1, hf1, hp1, hk1⟩)
            have hRow := RdL.of_row hr1
            rw [HM.out] at hRow
            have HRow := Lib.hid hRow.rd; have HK3 := Lib.hid hk1
            clear hr1 hf1 hp1 hk1 hRow HAll0
            go_upto_block 5 with fail
            go_cut [11] from 21 to 163 (fun _ wx => Pure w3 wx)
            case first =>
              go_upto_region 27 with fail
              go_loopw [11] (fun v wr2 => ∃ k : Nat, v = .int .i64 ((k : Int) + 1) ∧ (k + 1 ≤ m ∨ k = 0) ∧ Pure w3 wr2) (fun v _ => m + 1 - (intOf v).toNat)
              case atStart => exact ⟨0, rfl, .inr rfl, Mod.refl _ _⟩
              case round =>
                obtain ⟨k, rfl, hk, hpk⟩ := hrel
                by_cases hlt2 : k + 1 < m
                · have hlt2' : (k : Int) + 1 < (m : Int) := by omega
                  have k0 : (0 : Int) ≤ (k : Int) := by omega
                  have k01 : (0 : Int) ≤ (k : Int) + 1 := by omega
                  have k02 : (k : Int) < (m : Int) := by omega
                  have kt : ((k : Int) + 1).toNat = k + 1 := by omega
                  have wk : IntKind.i64.wrap ((k : Int) + 1 + 1) = (k : Int) + 1 + 1 := IntWalk.i64_in _ (by omega)
                  have wk1 : IntKind.i64.wrap ((k : Int) + 1 - 1) = (k : Int) := by rw [IntWalk.i64_in _ (by omega)]; omega
                  have wk2 : IntKind.i64.wrap (k : Int) = (k : Int) := IntWalk.i64_in _ (by omega)
                  obtain ⟨x, hx⟩ : ∃ x, M2[k]? = some x := ⟨_, List.getElem?_eq_getElem (by rw [HM.out]; omega)⟩
                  obtain ⟨y, hy⟩ : ∃ y, M2[k + 1]? = some y := ⟨_, List.getElem?_eq_getElem (by rw [HM.out]; omega)⟩
                  obtain ⟨ad0, had, x0, x1, x2⟩ := td_read (HRow.out.frame hpk (fun _ _ h => h)) hx
                  subst had
                  obtain ⟨ad1, had, y0, y1, y2⟩ := td_read (HRow.out.frame hpk (fun _ _ h => h)) hy
                  injection had with had
                  subst had
                  have hbf := rbef_ok x y
                  rw [HSo.out k x y hx hy] at hbf
                  unfold tdV at hbf
                  have HBf := Lib.hid hbf; have HPK := Lib.hid hpk
                  clear hx hy hbf
                  go_upto_region 29 with fail
                  go_still_tail 9, (by kernel_rfl)
                  go_wp2_with (go_at_call 39; refine Calls.mono (HBf.out _) ?_; rintro e4 w4 ⟨rfl, hp4⟩)
                  have hp5 : Pure w3 w4 := HPK.out.trans (by first | exact hp4 | exact ((Mod.refl _ _).drew : Pure wr wr.drew).trans hp4)
                  have HP5 := Lib.hid hp5
                  clear hp4 hp5
                  go_roundw
                  case rel => exact ⟨k + 1, by go_num, .inl (by omega), HP5.out⟩
                  case measure => simp [intOf]; omega
                · have hge : ¬ (k : Int) + 1 < (m : Int) := by omega
                  go_wp2
                  go_meet
                  exact hpk
            case rest =>
              have HK4 := Lib.hid (HK3.out.pure hcut)
              have HRow4 := Lib.hid (HRow.out.frame hcut (fun _ _ h => h))
              clear HRow
              have HRow := Lib.hid HRow4.out
              clear hcut
              have HNow := Lib.hid (fun W (hW : Pure wc W) => (HK4.out.pure hW).t.at_.now_)
              go_upto_region 32 with fail
              go_loopw [12] (fun v wr2 => ∃ k : Nat, v = .int .i64 (k : Nat) ∧ k ≤ m ∧ Pure wc wr2) (fun v _ => m - (intOf v).toNat)
              case atStart => exact ⟨0, rfl, Nat.zero_le _, Mod.refl _ _⟩
              case round =>
                obtain ⟨k, rfl, hk, hpk⟩ := hrel
                by_cases hlt2 : k < m
                · have hlt2' : (k : Int) < (m : Int) := by omega
                  have k0 : (0 : Int) ≤ (k : Int) := by omega
                  have dkm : decide (k < m) = true := decide_eq_true hlt2
                  have wk : IntKind.i64.wrap ((k : Int) + 1) = (k : Int) + 1 := IntWalk.i64_in _ (by omega)
                  obtain ⟨x, hx⟩ : ∃ x, M2[k]? = some x := ⟨_, List.getElem?_eq_getElem (by rw [HM.out]; exact hlt2)⟩
                  obtain ⟨ad0, had, z0, z1, z2⟩ := td_read (HRow.out.frame hpk (fun _ _ h => h)) hx
                  subst had
                  have hcd : World.cell? wr.drew ⟨(ad0.add (k * 3)).block, (ad0.add (k * 3)).off + 1, none⟩ = some (.int .u64 x.dl) := z1
                  have hex := HNd.out x (List.mem_of_getElem? hx)
                  clear hx z0 z2
                  by_cases hxt : x.dl ≤ nw2
                  · have hx1 : x.dl = 18446744073709551615 := by unfold expP at hex; simp [hxt] at hex; exact hex
                    have f1 : decide ((x.dl : Int) ≤ (nw2 : Int)) = true := decide_eq_true (by omega)
                    have f1n : decide (x.dl ≤ nw2) = true := decide_eq_true (by omega)
                    have f2 : ((x.dl : Int) != 18446744073709551615) = false := by simp; omega
                    clear hx1 hxt
                    clear hex
                    go_upto_region 34 with fail
                    refine wp_region_held_drew (S := fun u => u.cell? ⟨(ad0.add (k * 3)).block, (ad0.add (k * 3)).off + 1, none⟩ = some (.int .u64 x.dl)) (by kernel_rfl) z1 (fun hHeld => ?_)
                    ((refine wpAnyH_take (i := 0) (v := ?_) rfl (by kernel_rfl) (by kernel_rfl) (by kernel_rfl) (fun _ _ _ h => h) (Yields.yieldsIf (Or.inl ⟨by rfl, ?_⟩)) hHeld ?_; rotate_left 1; focus (intro w; go_simp; try with_reducible rfl)); try simp only [Act.put, List.getElem_toArray, List.getElem_cons_zero, List.getElem_cons_succ, List.setIfInBounds_toArray, List.set_cons_zero, List.set_cons_succ])
                    ((refine wpAnyH_take (i := 1) (v := ?_) rfl (by kernel_rfl) (by kernel_rfl) (by kernel_rfl) (fun _ _ _ h => h) (Yields.yieldsIf (Or.inl ⟨by rfl, ?_⟩)) hHeld ?_; rotate_left 1; focus (intro w; go_simp; try with_reducible rfl)); try simp only [Act.put, List.getElem_toArray, List.getElem_cons_zero, List.getElem_cons_succ, List.setIfInBounds_toArray, List.set_cons_zero, List.set_cons_succ])
                    ((refine wpAnyH_take (i := 2) (v := ?_) rfl (by kernel_rfl) (by kernel_rfl) (by kernel_rfl) (fun _ _ _ h => h) (Yields.yieldsIf (Or.inl ⟨by rfl, ?_⟩)) hHeld ?_; rotate_left 1; focus (intro w; go_simp; try with_reducible rfl)); try simp only [Act.put, List.getElem_toArray, List.getElem_cons_zero, List.getElem_cons_succ, List.setIfInBounds_toArray, List.set_cons_zero, List.set_cons_succ])
                    ((refine wpAnyH_take (i := 3) (v := ?_) rfl (by kernel_rfl) (by kernel_rfl) (by kernel_rfl) (fun _ _ _ h => h) (Yields.yieldsIf (Or.inl ⟨by rfl, ?_⟩)) hHeld ?_; rotate_left 1; focus (intro w; go_simp; try with_reducible rfl)); try simp only [Act.put, List.getElem_toArray, List.getElem_cons_zero, List.getElem_cons_succ, List.setIfInBounds_toArray, List.set_cons_zero, List.set_cons_succ])
                    ((refine wpAnyH_take (i := 4) (v := ?_) rfl (by kernel_rfl) (by kernel_rfl) (by kernel_rfl) (fun _ _ _ h => h) (Or.inl ⟨by rfl, ?_⟩) hHeld ?_; rotate_left 1; focus (intro w hS; obtain s0 := hS; go_simp; try with_reducible rfl)); try simp only [Act.put, List.getElem_toArray, List.getElem_cons_zero, List.getElem_cons_succ, List.setIfInBounds_toArray, List.set_cons_zero, List.set_cons_succ])
                    ((refine wpAnyH_take (i := 5) (v := ?_) rfl (by kernel_rfl) (by kernel_rfl) (by kernel_rfl) (fun _ _ _ h => h) (Yields.yieldsIf (Or.inl ⟨by rfl, ?_⟩)) hHeld ?_; rotate_left 1; focus (intro w; go_simp; try with_reducible rfl)); try simp only [Act.put, List.getElem_toArray, List.getElem_cons_zero, List.getElem_cons_succ, List.setIfInBounds_toArray, List.set_cons_zero, List.set_cons_succ])
                    ((refine wpAnyH_ready (rs := [6]) (by kernel_rfl) (by simp) ?_; refine AllReadyH.cons rfl (fun K hK => ?_) AllReadyH.nil; go_simp; refine Calls.mono (HNow.out _ (by first | exact hpk | exact hpk.drew)) ?_; rintro e w9 ⟨rfl, rfl⟩; refine hK.out _ _ ?_ (fun hHeld => ?_); (· exact hcd); clear hK K); try simp only [Act.put, List.getElem_toArray, List.getElem_cons_zero, List.getElem_cons_succ, List.setIfInBounds_toArray, List.set_cons_zero, List.set_cons_succ])
                    ((refine wpAnyH_take (i := 7) (v := ?_) rfl (by kernel_rfl) (by kernel_rfl) (by kernel_rfl) (fun _ _ _ h => h) (Yields.yieldsIf (Or.inl ⟨by rfl, ?_⟩)) hHeld ?_; rotate_left 1; focus (intro w; go_simp; try with_reducible rfl)); try simp only [Act.put, List.getElem_toArray, List.getElem_cons_zero, List.getElem_cons_succ, List.setIfInBounds_toArray, List.set_cons_zero, List.set_cons_succ])
                    ((refine wpAnyH_take (i := 8) (v := ?_) rfl (by kernel_rfl) (by kernel_rfl) (by kernel_rfl) (fun _ _ _ h => h) (Yields.yieldsIf (Or.inl ⟨by rfl, ?_⟩)) hHeld ?_; rotate_left 1; focus (intro w; go_simp; try with_reducible rfl)); try simp only [Act.put, List.getElem_toArray, List.getElem_cons_zero, List.getElem_cons_succ, List.setIfInBounds_toArray, List.set_cons_zero, List.set_cons_succ])
                    ((refine wpAnyH_take (i := 9) (v := ?_) rfl (by kernel_rfl) (by kernel_rfl) (by kernel_rfl) (fun _ _ _ h => h) (Yields.yieldsIf (Or.inl ⟨by rfl, ?_⟩)) hHeld ?_; rotate_left 1; focus (intro w; go_simp; try with_reducible rfl)); try simp only [Act.put, List.getElem_toArray, List.getElem_cons_zero, List.getElem_cons_succ, List.setIfInBounds_toArray, List.set_cons_zero, List.set_cons_succ])
                    ((refine wpAnyH_take (i := 10) (v := ?_) rfl (by kernel_rfl) (by kernel_rfl) (by kernel_rfl) (fun _ _ _ h => h) (Yields.yieldsIf (Or.inl ⟨by rfl, ?_⟩)) hHeld ?_; rotate_left 1; focus (intro w; go_simp; try with_reducible rfl)); try simp only [Act.put, List.getElem_toArray, List.getElem_cons_zero, List.getElem_cons_succ, List.setIfInBounds_toArray, List.set_cons_zero, List.set_cons_succ])
                    ((refine wpAnyH_take (i := 11) (v := ?_) rfl (by kernel_rfl) (by kernel_rfl) (by kernel_rfl) (fun _ _ _ h => h) (Yields.yieldsIf (Or.inl ⟨by rfl, ?_⟩)) hHeld ?_; rotate_left 1; focus (intro w; go_simp; try with_reducible rfl)); try simp only [Act.put, List.getElem_toArray, List.getElem_cons_zero, List.getElem_cons_succ, List.setIfInBounds_toArray, List.set_cons_zero, List.set_cons_succ])
                    ((refine wpAnyH_take (i := 12) (v := ?_) rfl (by kernel_rfl) (by kernel_rfl) (by kernel_rfl) (fun _ _ _ h => h) (Yields.yieldsIf (Or.inl ⟨by rfl, ?_⟩)) hHeld ?_; rotate_left 1; focus (intro w; go_simp; try with_reducible rfl)); try simp only [Act.put, List.getElem_toArray, List.getElem_cons_zero, List.getElem_cons_succ, List.setIfInBounds_toArray, List.set_cons_zero, List.set_cons_succ])
                    ((refine wpAnyH_take (i := 13) (v := ?_) rfl (by kernel_rfl) (by kernel_rfl) (by kernel_rfl) (fun _ _ _ h => h) (Or.inl ⟨by rfl, ?_⟩) hHeld ?_; rotate_left 1; focus (intro w hS; obtain s0 := hS; go_simp; try with_reducible rfl)); try simp only [Act.put, List.getElem_toArray, List.getElem_cons_zero, List.getElem_cons_succ, List.setIfInBounds_toArray, List.set_cons_zero, List.set_cons_succ])
                    ((refine wpAnyH_take (i := 14) (v := ?_) rfl (by kernel_rfl) (by kernel_rfl) (by kernel_rfl) (fun _ _ _ h => h) (Yields.yieldsIf (Or.inl ⟨by rfl, ?_⟩)) hHeld ?_; rotate_left 1; focus (intro w; go_simp; try with_reducible rfl)); try simp only [Act.put, List.getElem_toArray, List.getElem_cons_zero, List.getElem_cons_succ, List.setIfInBounds_toArray, List.set_cons_zero, List.set_cons_succ])
                    ((refine wpAnyH_take (i := 15) (v := ?_) rfl (by kernel_rfl) (by kernel_rfl) (by kernel_rfl) (fun _ _ _ h => h) (Yields.yieldsIf (Or.inl ⟨by rfl, ?_⟩)) hHeld ?_; rotate_left 1; focus (intro w; go_simp; try with_reducible rfl)); try simp only [Act.put, List.getElem_toArray, List.getElem_cons_zero, List.getElem_cons_succ, List.setIfInBounds_toArray, List.set_cons_zero, List.set_cons_succ])
                    refine wpAnyH_done (by kernel_rfl) ?_ _
                    clear hHeld
                    go_wp2
                    go_roundw
                    case rel => exact ⟨k + 1, by go_num, hlt2, hpk.drew⟩
                    case measure => simp [intOf]; omega
                  · have f1 : decide ((x.dl : Int) ≤ (nw2 : Int)) = false := decide_eq_false (by omega)
                    have f1n : decide (x.dl ≤ nw2) = false := decide_eq_false (by omega)
                    clear hxt
                    clear hex
                    go_upto_region 34 with fail
                    refine wp_region_held_drew (S := fun u => u.cell? ⟨(ad0.add (k * 3)).block, (ad0.add (k * 3)).off + 1, none⟩ = some (.int .u64 x.dl)) (by kernel_rfl) z1 (fun hHeld => ?_)
                    ((refine wpAnyH_take (i := 0) (v := ?_) rfl (by kernel_rfl) (by kernel_rfl) (by kernel_rfl) (fun _ _ _ h => h) (Yields.yieldsIf (Or.inl ⟨by rfl, ?_⟩)) hHeld ?_; rotate_left 1; focus (intro w; go_simp; try with_reducible rfl)); try simp only [Act.put, List.getElem_toArray, List.getElem_cons_zero, List.getElem_cons_succ, List.setIfInBounds_toArray, List.set_cons_zero, List.set_cons_succ])
                    ((refine wpAnyH_take (i := 1) (v := ?_) rfl (by kernel_rfl) (by kernel_rfl) (by kernel_rfl) (fun _ _ _ h => h) (Yields.yieldsIf (Or.inl ⟨by rfl, ?_⟩)) hHeld ?_; rotate_left 1; focus (intro w; go_simp; try with_reducible rfl)); try simp only [Act.put, List.getElem_toArray, List.getElem_cons_zero, List.getElem_cons_succ, List.setIfInBounds_toArray, List.set_cons_zero, List.set_cons_succ])
                    ((refine wpAnyH_take (i := 2) (v := ?_) rfl (by kernel_rfl) (by kernel_rfl) (by kernel_rfl) (fun _ _ _ h => h) (Yields.yieldsIf (Or.inl ⟨by rfl, ?_⟩)) hHeld ?_; rotate_left 1; focus (intro w; go_simp; try with_reducible rfl)); try simp only [Act.put, List.getElem_toArray, List.getElem_cons_zero, List.getElem_cons_succ, List.setIfInBounds_toArray, List.set_cons_zero, List.set_cons_succ])
                    ((refine wpAnyH_take (i := 3) (v := ?_) rfl (by kernel_rfl) (by kernel_rfl) (by kernel_rfl) (fun _ _ _ h => h) (Yields.yieldsIf (Or.inl ⟨by rfl, ?_⟩)) hHeld ?_; rotate_left 1; focus (intro w; go_simp; try with_reducible rfl)); try simp only [Act.put, List.getElem_toArray, List.getElem_cons_zero, List.getElem_cons_succ, List.setIfInBounds_toArray, List.set_cons_zero, List.set_cons_succ])
                    ((refine wpAnyH_take (i := 4) (v := ?_) rfl (by kernel_rfl) (by kernel_rfl) (by kernel_rfl) (fun _ _ _ h => h) (Or.inl ⟨by rfl, ?_⟩) hHeld ?_; rotate_left 1; focus (intro w hS; obtain s0 := hS; go_simp; try with_reducible rfl)); try simp only [Act.put, List.getElem_toArray, List.getElem_cons_zero, List.getElem_cons_succ, List.setIfInBounds_toArray, List.set_cons_zero, List.set_cons_succ])
                    ((refine wpAnyH_take (i := 5) (v := ?_) rfl (by kernel_rfl) (by kernel_rfl) (by kernel_rfl) (fun _ _ _ h => h) (Yields.yieldsIf (Or.inl ⟨by rfl, ?_⟩)) hHeld ?_; rotate_left 1; focus (intro w; go_simp; try with_reducible rfl)); try simp only [Act.put, List.getElem_toArray, List.getElem_cons_zero, List.getElem_cons_succ, List.setIfInBounds_toArray, List.set_cons_zero, List.set_cons_succ])
                    ((refine wpAnyH_ready (rs := [6]) (by kernel_rfl) (by simp) ?_; refine AllReadyH.cons rfl (fun K hK => ?_) AllReadyH.nil; go_simp; refine Calls.mono (HNow.out _ (by first | exact hpk | exact hpk.drew)) ?_; rintro e w9 ⟨rfl, rfl⟩; refine hK.out _ _ ?_ (fun hHeld => ?_); (· exact hcd); clear hK K); try simp only [Act.put, List.getElem_toArray, List.getElem_cons_zero, List.getElem_cons_succ, List.setIfInBounds_toArray, List.set_cons_zero, List.set_cons_succ])
                    ((refine wpAnyH_take (i := 7) (v := ?_) rfl (by kernel_rfl) (by kernel_rfl) (by kernel_rfl) (fun _ _ _ h => h) (Yields.yieldsIf (Or.inl ⟨by rfl, ?_⟩)) hHeld ?_; rotate_left 1; focus (intro w; go_simp; try with_reducible rfl)); try simp only [Act.put, List.getElem_toArray, List.getElem_cons_zero, List.getElem_cons_succ, List.setIfInBounds_toArray, List.set_cons_zero, List.set_cons_succ])
                    ((refine wpAnyH_take (i := 8) (v := ?_) rfl (by kernel_rfl) (by kernel_rfl) (by kernel_rfl) (fun _ _ _ h => h) (Yields.yieldsIf (Or.inl ⟨by rfl, ?_⟩)) hHeld ?_; rotate_left 1; focus (intro w; go_simp; try with_reducible rfl)); try simp only [Act.put, List.getElem_toArray, List.getElem_cons_zero, List.getElem_cons_succ, List.setIfInBounds_toArray, List.set_cons_zero, List.set_cons_succ])
                    (refine wpAnyH_take (i := 9) (v := undef) rfl (by kernel_rfl) (by kernel_rfl) (by kernel_rfl) (fun _ _ _ h => h) (Or.inr ⟨by rfl, rfl⟩) hHeld ?_; try simp only [Act.put, List.getElem_toArray, List.getElem_cons_zero, List.getElem_cons_succ, List.setIfInBounds_toArray, List.set_cons_zero, List.set_cons_succ])
                    (refine wpAnyH_take (i := 10) (v := undef) rfl (by kernel_rfl) (by kernel_rfl) (by kernel_rfl) (fun _ _ _ h => h) (Or.inr ⟨by rfl, rfl⟩) hHeld ?_; try simp only [Act.put, List.getElem_toArray, List.getElem_cons_zero, List.getElem_cons_succ, List.setIfInBounds_toArray, List.set_cons_zero, List.set_cons_succ])
                    (refine wpAnyH_take (i := 11) (v := undef) rfl (by kernel_rfl) (by kernel_rfl) (by kernel_rfl) (fun _ _ _ h => h) (Or.inr ⟨by rfl, rfl⟩) hHeld ?_; try simp only [Act.put, List.getElem_toArray, List.getElem_cons_zero, List.getElem_cons_succ, List.setIfInBounds_toArray, List.set_cons_zero, List.set_cons_succ])
                    (refine wpAnyH_take (i := 12) (v := undef) rfl (by kernel_rfl) (by kernel_rfl) (by kernel_rfl) (fun _ _ _ h => h) (Or.inr ⟨by rfl, rfl⟩) hHeld ?_; try simp only [Act.put, List.getElem_toArray, List.getElem_cons_zero, List.getElem_cons_succ, List.setIfInBounds_toArray, List.set_cons_zero, List.set_cons_succ])
                    (refine wpAnyH_take (i := 13) (v := undef) rfl (by kernel_rfl) (by kernel_rfl) (by kernel_rfl) (fun _ _ _ h => h) (Or.inr ⟨by rfl, rfl⟩) hHeld ?_; try simp only [Act.put, List.getElem_toArray, List.getElem_cons_zero, List.getElem_cons_succ, List.setIfInBounds_toArray, List.set_cons_zero, List.set_cons_succ])
                    (refine wpAnyH_take (i := 14) (v := undef) rfl (by kernel_rfl) (by kernel_rfl) (by kernel_rfl) (fun _ _ _ h => h) (Or.inr ⟨by rfl, rfl⟩) hHeld ?_; try simp only [Act.put, List.getElem_toArray, List.getElem_cons_zero, List.getElem_cons_succ, List.setIfInBounds_toArray, List.set_cons_zero, List.set_cons_succ])
                    ((refine wpAnyH_take (i := 15) (v := ?_) rfl (by kernel_rfl) (by kernel_rfl) (by kernel_rfl) (fun _ _ _ h => h) (Yields.yieldsIf (Or.inl ⟨by rfl, ?_⟩)) hHeld ?_; rotate_left 1; focus (intro w; go_simp; try with_reducible rfl)); try simp only [Act.put, List.getElem_toArray, List.getElem_cons_zero, List.getElem_cons_succ, List.setIfInBounds_toArray, List.set_cons_zero, List.set_cons_succ])
                    refine wpAnyH_done (by kernel_rfl) ?_ _
                    clear hHeld
                    go_wp2
                    go_roundw
                    case rel => exact ⟨k + 1, by go_num, hlt2, hpk.drew⟩
                    case measure => simp [intOf]; omega
                · have hge : ¬ (k : Int) < (m : Int) := by omega
                  have dkm : decide (k < m) = false := decide_eq_false hlt2
                  go_wp2
                  go_meet
                  exact ⟨_, _, _, HK4.out.pure hpk⟩
            -- END B
      · have e : i = n := by omega
        subst e
        go_wp2_with (go_at_call 32; refine Calls.mono (HKn.out _ HK.out.pu) ?_; rintro e w2 ⟨rfl, hp2⟩)
        have hpp := HK.out.pu.trans hp2
        exact bodyPost_ret (v := .bool true) (by simp [results, Tryd.results7, go_sem]) rfl ⟨rfl, hpp⟩
end Go.Proofs.YtlalpenfgkfkpaaDoor
