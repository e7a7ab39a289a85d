/- Lemmas and contracts of functions, strung together out of 2 texts. No condition. -/
import Derived.Test.YtlalpenfgkfkpaaDoorJPfCascadeHolds8
import Derived.Maps.RangeWalk
/- law20.known: it returns true. Condition: the table of math/bits lies in memory. -/
namespace Go.Proofs.YtlalpenfgkfkpaaDoor
open Go.RowKit
set_option maxRecDepth 100000
/-- A cascade that was made since w0. -/
structure KnS (w0 w : World) (D : Nat → Prop) (p now : Nat) (L : List Td) : Prop where
  t : CasT w D p now L
  ge : ∀ k, D k → w0.heap.size ≤ k
  pu : Pure w0 w
section
variable {w0 w w' : World} {D : Nat → Prop} {p now tt : Nat} {L : List Td}
theorem KnS.pure (h : KnS w0 w D p now L) (hm : Pure w w') : KnS w0 w' D p now L := ⟨h.t.pure hm, h.ge, h.pu.trans hm⟩
theorem KnS.step (h : KnS w0 w D p now L) {D' : Nat → Prop} {now' : Nat} {L' : List Td} (hc : CasT w' D' p now' L') (hg : grewD D D' w) (hm : Mod D w w') : KnS w0 w' D' p now' L' :=
  ⟨hc, fun k hk => by
    rcases hg k hk with e | e
    · exact h.ge k e
    · have := h.pu.size; omega, h.pu.then hm (fun k hk e => by have := h.ge k e; omega)⟩
theorem KnS.new (hT : TabW w) (hn : now < 18446744073709551616) : Calls Tryd.prog 11 #[.int .u64 now] w fun e w' => ∃ p D, e = .returned (lkP p) ∧ KnS w w' D p now [] := by
  refine (cnew_ok w hn).mono ?_
  rintro e w' ⟨p, D, rfl, hc, hp, hf⟩
  exact ⟨p, D, rfl, ⟨hc, hT.pure hp, fun e => by have := hf 0 e; have := hT.lt; omega⟩, hf, hp⟩
theorem KnS.sched (h : KnS w0 w D p now L) {x : Td} {r : Int} {L' : List Td} (hr : schR now L x = r) (hL : schL now L x = L') (h32 : x.slot ≤ 4294967295) (hd : x.dl ≤ 18446744073709551615) (hb : x.birth ≤ 18446744073709551615) :
    Calls Tryd.prog 13 #[lkP p, tdV x] w fun e w' => e = .returned (.int .i64 r) ∧ ∃ D', KnS w0 w' D' p now L' := by
  refine (h.t.at_.sched h32 hd hb (by have := h.t.at_.count; unfold maxLen; omega)).mono ?_
  rintro e w' ⟨rfl, ⟨D', hc, hg⟩, hm⟩
  rw [hL] at hc
  exact ⟨by rw [hr], D', h.step (h.t.next hc hg hm) hg hm⟩
theorem KnS.resched (h : KnS w0 w D p now L) {s dl : Nat} {r : Int} {L' : List Td} (hr : resR now L s dl = r) (hL : resL now L s dl = L') (h32 : s ≤ 4294967295) (hd : dl ≤ 18446744073709551615) :
    Calls Tryd.prog 25 #[lkP p, .int .u32 s, .int .u64 dl] w fun e w' => e = .returned (.int .i64 r) ∧ ∃ D', KnS w0 w' D' p now L' := by
  refine (h.t.at_.resched h32 hd (by have := h.t.at_.count; unfold maxLen; omega)).mono ?_
  rintro e w' ⟨rfl, ⟨D', hc, hg⟩, hm⟩
  rw [hL] at hc
  exact ⟨by rw [hr], D', h.step (h.t.next hc hg hm) hg hm⟩
theorem KnS.where_ (h : KnS w0 w D p now L) {s : Nat} {l b er : Int} (he : whE now L s = .tuple #[.int .i64 l, .int .i64 b, .int .i64 er]) (h32 : s ≤ 4294967295) :
    Calls Tryd.prog 26 #[lkP p, .int .u32 s, .int .i64 l, .int .i64 b, .int .i64 er] w fun e w' => e = .returned (.bool true) ∧ KnS w0 w' D p now L := by
  refine (where_ok h.t.at_ h32 he).mono ?_
  rintro e w' ⟨rfl, hp⟩
  exact ⟨rfl, h.pure hp⟩
theorem KnS.adv (h : KnS w0 w D p now L) {now' : Nat} {L' : List Td} {er : Int} (l : List Td) (a2 : Option Addr) (n2 c2 : Nat) (ho : aOut now tt L = l) (hn : n2 = l.length) (hN : aNow now tt = now') (hL : aRest now tt L = L') (he : er = aErr now tt) (ht : tt < 18446744073709551616)
    (hw : ReadAt w (.slice a2 n2 c2) 3 (l.flatMap tdC)) (hwD : ∀ g, rdBlock (.slice a2 n2 c2) = some g → ¬ D g) :
    Calls Tryd.prog 22 #[lkP p, .int .u64 tt, .slice a2 n2 c2, .int .i64 er] w fun e w' => e = .returned (.bool true) ∧ ∃ D', KnS w0 w' D' p now' L' := by
  subst ho
  refine (advances_ok h.t ht hn hw hwD he).mono ?_
  rintro e w' ⟨rfl, ⟨D', hc, hg⟩, hm⟩
  rw [hN, hL] at hc
  exact ⟨rfl, D', h.step hc hg hm⟩
theorem KnS.next (h : KnS w0 w D p now L) {n : Nat} (hn : nextD L = n) : Calls Tryd.prog 27 #[lkP p] w fun e w' => e = .returned (.int .u64 n) ∧ KnS w0 w' D p now L := by
  refine (h.t.at_.next h.t.tab).mono ?_
  rintro e w' ⟨rfl, hp⟩
  exact ⟨by rw [hn], h.pure hp⟩
theorem KnS.len (h : KnS w0 w D p now L) {n : Nat} (hn : L.length = n) : Calls Tryd.prog 15 #[lkP p] w fun e w' => e = .returned (.int .i64 n) ∧ KnS w0 w' D p now L := by
  refine h.t.at_.len_.mono ?_
  rintro e w' ⟨rfl, rfl⟩
  exact ⟨by rw [hn], h⟩
theorem KnS.lt (h : KnS w0 w D p now L) {k : Nat} (hk : D k) : k < w.heap.size := h.t.at_.lt hk
/-- A list that is made on the spot. -/
theorem lit_read (l : List Td) {n : Nat} (hn : l.length = n) : ReadAt (w.alloc (.cells (l.flatMap tdC).toArray 31)) (.slice (some ⟨w.heap.size, 0, none⟩) n n) 3 (l.flatMap tdC) := by
  have := ReadAt.of_block (w := w.alloc (.cells (l.flatMap tdC).toArray 31)) n n 3 (heap_new rfl) (by rw [List.toList_toArray, flat_length tdC 3 (fun _ => rfl), hn]) (by rw [List.toList_toArray]; exact tdC_one l)
  exact this
theorem lit_off (h : KnS w0 w D p now L) {n : Nat} : ∀ g, rdBlock (.slice (some ⟨w.heap.size, 0, none⟩) n n) = some g → ¬ D g := fun g hg hk => by
  have := h.lt hk
  have e := rdBlock_own hg
  injection e with e
  subst e
  exact Nat.lt_irrefl _ this
end
abbrev ka : Td := ⟨1, 255, 1⟩
abbrev kb : Td := ⟨2, 256, 2⟩
abbrev kc : Td := ⟨3, 300, 3⟩
abbrev kd : Td := ⟨4, 70000, 4⟩
abbrev ke : Td := ⟨4, 300, 4⟩
abbrev kf : Td := ⟨7, 18446744073709551614, 9⟩
theorem q1 : schR 250 [] ka = 0 ∧ schL 250 [] ka = [ka] := ⟨by decide, rfl⟩
theorem q2 : schR 250 [ka] kb = 0 ∧ schL 250 [ka] kb = [ka, kb] := ⟨by decide, rfl⟩
theorem q3 : schR 250 [ka, kb] kc = 0 ∧ schL 250 [ka, kb] kc = [ka, kb, kc] := ⟨by decide, rfl⟩
theorem q4 : schR 250 [ka, kb, kc] kd = 0 ∧ schL 250 [ka, kb, kc] kd = [ka, kb, kc, kd] := ⟨by decide, rfl⟩
theorem q5 : whE 250 [ka, kb, kc, kd] 1 = .tuple #[.int .i64 0, .int .i64 255, .int .i64 0] := rfl
theorem q6 : whE 250 [ka, kb, kc, kd] 3 = .tuple #[.int .i64 1, .int .i64 1, .int .i64 0] := rfl
theorem q7 : whE 250 [ka, kb, kc, kd] 4 = .tuple #[.int .i64 2, .int .i64 1, .int .i64 0] := rfl
theorem q8 : aOut 250 255 [ka, kb, kc, kd] = [ka] ∧ aNow 250 255 = 255 ∧ aRest 250 255 [ka, kb, kc, kd] = [kb, kc, kd] ∧ 0 = aErr 250 255 := ⟨rfl, rfl, rfl, rfl⟩
theorem q9 : whE 255 [kb, kc, kd] 3 = .tuple #[.int .i64 1, .int .i64 1, .int .i64 0] := rfl
theorem q10 : aOut 255 256 [kb, kc, kd] = [kb] ∧ aNow 255 256 = 256 ∧ aRest 255 256 [kb, kc, kd] = [kc, kd] ∧ 0 = aErr 255 256 := ⟨rfl, rfl, rfl, rfl⟩
theorem q11 : whE 256 [kc, kd] 3 = .tuple #[.int .i64 0, .int .i64 44, .int .i64 0] := rfl
theorem q12 : resR 256 [kc, kd] 4 300 = 0 ∧ resL 256 [kc, kd] 4 300 = [kc, ke] := ⟨by decide, rfl⟩
theorem q13 : schR 256 [kc, ke] ⟨5, 300, 0⟩ = 2 ∧ schL 256 [kc, ke] ⟨5, 300, 0⟩ = [kc, ke] := ⟨by decide, rfl⟩
theorem q14 : schR 256 [kc, ke] ⟨5, 256, 9⟩ = 3 ∧ schL 256 [kc, ke] ⟨5, 256, 9⟩ = [kc, ke] := ⟨by decide, rfl⟩
theorem q15 : schR 256 [kc, ke] ⟨5, 300, 3⟩ = 11 ∧ schL 256 [kc, ke] ⟨5, 300, 3⟩ = [kc, ke] := ⟨by decide, rfl⟩
theorem q16 : aOut 256 1000 [kc, ke] = [kc, ke] ∧ aNow 256 1000 = 1000 ∧ aRest 256 1000 [kc, ke] = [] ∧ 0 = aErr 256 1000 := ⟨rfl, rfl, rfl, rfl⟩
theorem q17 : schR 1000 [] ⟨7, 18446744073709551615, 9⟩ = 2 ∧ schL 1000 [] ⟨7, 18446744073709551615, 9⟩ = [] := ⟨by decide, rfl⟩
theorem q18 : schR 1000 [] kf = 0 ∧ schL 1000 [] kf = [kf] := ⟨by decide, rfl⟩
theorem q19 : whE 1000 [kf] 7 = .tuple #[.int .i64 7, .int .i64 255, .int .i64 0] := rfl
theorem q20 : aOut 1000 999 [kf] = [] ∧ aNow 1000 999 = 1000 ∧ aRest 1000 999 [kf] = [kf] ∧ 3 = aErr 1000 999 := ⟨rfl, rfl, rfl, rfl⟩
theorem q21 : aOut 1000 18446744073709551615 [kf] = [kf] ∧ aNow 1000 18446744073709551615 = 18446744073709551615 ∧ aRest 1000 18446744073709551615 [kf] = [] ∧ 0 = aErr 1000 18446744073709551615 := ⟨rfl, rfl, rfl, rfl⟩
set_option maxHeartbeats 4000000 in
theorem known20_ok (w : World) (hT : TabW w) : Calls Tryd.prog 10 #[] w fun e w' => e = .returned (.bool true) ∧ Pure w w' := by
  have HN := Lib.hid (KnS.new (now := 250) hT (by decide))
  have HTm := Lib.hid timed_ok
  clear hT
  have U1 : True := trivial
  have U2 : True := trivial
  have U3 : True := trivial
  have U4 : True := trivial
  have U5 : True := trivial
  have U6 : True := trivial
  have U7 : True := trivial
  have U8 : True := trivial
  have U9 : True := trivial
  have U10 : True := trivial
  have U11 : True := trivial
  have U12 : True := trivial
  have U13 : True := trivial
  have U14 : True := trivial
  have T1 : True := trivial
  have T2 : True := trivial
  have T3 : True := trivial
  have T4 : True := trivial
  have T5 : True := trivial
  have T6 : True := trivial
  have T7 : True := trivial
  have T8 : True := trivial
  have T9 : True := trivial
  have T10 : True := trivial
  have T11 : True := trivial
  have T12 : True := trivial
  have T13 : True := trivial
  have T14 : True := trivial
  have T15 : True := trivial
  have T16 : True := trivial
  have T17 : True := trivial
  have T18 : True := trivial
  have T19 : True := trivial
  have T20 : True := trivial
  have T21 : True := trivial
  go_enter Tryd.func10, Tryd.ntmps10
  go_upto_region 2 with (go_at_call 11; refine Calls.mono HN.out ?_; rintro e w1 ⟨p, D, rfl, hs⟩; have HS := Lib.hid hs; clear hs)
  go_upto_region 4 with (first
    | (go_at_call 12; clear U1; refine Calls.mono (HTm.out 1 255 1 _) ?_; rintro e w' ⟨rfl, hp⟩; replace HS := Lib.hid (HS.out.pure hp); clear hp)
    | (go_at_call 12; clear U2; refine Calls.mono (HTm.out 2 256 2 _) ?_; rintro e w' ⟨rfl, hp⟩; replace HS := Lib.hid (HS.out.pure hp); clear hp)
    | (go_at_call 12; clear U3; refine Calls.mono (HTm.out 3 300 3 _) ?_; rintro e w' ⟨rfl, hp⟩; replace HS := Lib.hid (HS.out.pure hp); clear hp)
    | (go_at_call 12; clear U4; refine Calls.mono (HTm.out 4 70000 4 _) ?_; rintro e w' ⟨rfl, hp⟩; replace HS := Lib.hid (HS.out.pure hp); clear hp)
    | (go_at_call 13; clear T1; refine Calls.mono (HS.out.sched (x := ka) q1.1 q1.2 (by decide) (by decide) (by decide)) ?_; rintro e w' ⟨rfl, D', hs⟩; replace HS := Lib.hid hs; clear hs)
    | (go_at_call 13; clear T2; refine Calls.mono (HS.out.sched (x := kb) q2.1 q2.2 (by decide) (by decide) (by decide)) ?_; rintro e w' ⟨rfl, D', hs⟩; replace HS := Lib.hid hs; clear hs)
    | (go_at_call 13; clear T3; refine Calls.mono (HS.out.sched (x := kc) q3.1 q3.2 (by decide) (by decide) (by decide)) ?_; rintro e w' ⟨rfl, D', hs⟩; replace HS := Lib.hid hs; clear hs)
    | (go_at_call 13; clear T4; refine Calls.mono (HS.out.sched (x := kd) q4.1 q4.2 (by decide) (by decide) (by decide)) ?_; rintro e w' ⟨rfl, D', hs⟩; replace HS := Lib.hid hs; clear hs)
    | (go_at_call 26; clear T5; refine Calls.mono (HS.out.where_ (s := 1) q5 (by decide)) ?_; rintro e w' ⟨rfl, hs⟩; replace HS := Lib.hid hs; clear hs)
    | (go_at_call 26; clear T6; refine Calls.mono (HS.out.where_ (s := 3) q6 (by decide)) ?_; rintro e w' ⟨rfl, hs⟩; replace HS := Lib.hid hs; clear hs)
    | (go_at_call 26; clear T7; refine Calls.mono (HS.out.where_ (s := 4) q7 (by decide)) ?_; rintro e w' ⟨rfl, hs⟩; replace HS := Lib.hid hs; clear hs))
  go_upto_region 6 with (first
    | (go_at_call 12; clear U5; refine Calls.mono (HTm.out 1 255 1 _) ?_; rintro e w' ⟨rfl, hp⟩; replace HS := Lib.hid (HS.out.pure hp); clear hp)
    | (go_at_call 12; clear U6; refine Calls.mono (HTm.out 2 256 2 _) ?_; rintro e w' ⟨rfl, hp⟩; replace HS := Lib.hid (HS.out.pure hp); clear hp)
    | (go_at_call 22; clear T8; refine Calls.mono ((HS.out.pure ((Mod.refl _ _).alloc _)).adv (tt := 255) [ka] _ _ _ q8.1 rfl q8.2.1 q8.2.2.1 q8.2.2.2 (by decide) (lit_read [ka] (n := 1) rfl) (lit_off HS.out)) ?_; rintro e w' ⟨rfl, D', hs⟩; replace HS := Lib.hid hs; clear hs)
    | (go_at_call 26; clear T9; refine Calls.mono (HS.out.where_ (s := 3) q9 (by decide)) ?_; rintro e w' ⟨rfl, hs⟩; replace HS := Lib.hid hs; clear hs)
    | (go_at_call 22; clear T10; refine Calls.mono ((HS.out.pure ((Mod.refl _ _).alloc _)).adv (tt := 256) [kb] _ _ _ q10.1 rfl q10.2.1 q10.2.2.1 q10.2.2.2 (by decide) (lit_read [kb] (n := 1) rfl) (lit_off HS.out)) ?_; rintro e w' ⟨rfl, D', hs⟩; replace HS := Lib.hid hs; clear hs)
    | (go_at_call 26; clear T11; refine Calls.mono (HS.out.where_ (s := 3) q11 (by decide)) ?_; rintro e w' ⟨rfl, hs⟩; replace HS := Lib.hid hs; clear hs)
    | (go_at_call 27; refine Calls.mono (HS.out.next (n := 300) rfl) ?_; rintro e w' ⟨rfl, hs⟩; replace HS := Lib.hid hs; clear hs))
  go_upto_region 8 with (first
    | (go_at_call 25; refine Calls.mono (HS.out.resched (s := 4) (dl := 300) q12.1 q12.2 (by decide) (by decide)) ?_; rintro e w' ⟨rfl, D', hs⟩; replace HS := Lib.hid hs; clear hs)
    | (go_at_call 12; clear U7; refine Calls.mono (HTm.out 5 300 0 _) ?_; rintro e w' ⟨rfl, hp⟩; replace HS := Lib.hid (HS.out.pure hp); clear hp)
    | (go_at_call 12; clear U8; refine Calls.mono (HTm.out 5 256 9 _) ?_; rintro e w' ⟨rfl, hp⟩; replace HS := Lib.hid (HS.out.pure hp); clear hp)
    | (go_at_call 12; clear U9; refine Calls.mono (HTm.out 5 300 3 _) ?_; rintro e w' ⟨rfl, hp⟩; replace HS := Lib.hid (HS.out.pure hp); clear hp)
    | (go_at_call 12; clear U10; refine Calls.mono (HTm.out 3 300 3 _) ?_; rintro e w' ⟨rfl, hp⟩; replace HS := Lib.hid (HS.out.pure hp); clear hp)
    | (go_at_call 12; clear U11; refine Calls.mono (HTm.out 4 300 4 _) ?_; rintro e w' ⟨rfl, hp⟩; replace HS := Lib.hid (HS.out.pure hp); clear hp)
    | (go_at_call 13; clear T13; refine Calls.mono (HS.out.sched (x := ⟨5, 300, 0⟩) q13.1 q13.2 (by decide) (by decide) (by decide)) ?_; rintro e w' ⟨rfl, D', hs⟩; replace HS := Lib.hid hs; clear hs)
    | (go_at_call 13; clear T14; refine Calls.mono (HS.out.sched (x := ⟨5, 256, 9⟩) q14.1 q14.2 (by decide) (by decide) (by decide)) ?_; rintro e w' ⟨rfl, D', hs⟩; replace HS := Lib.hid hs; clear hs)
    | (go_at_call 13; clear T15; refine Calls.mono (HS.out.sched (x := ⟨5, 300, 3⟩) q15.1 q15.2 (by decide) (by decide) (by decide)) ?_; rintro e w' ⟨rfl, D', hs⟩; replace HS := Lib.hid hs; clear hs)
    | (go_at_call 22; clear T16; refine Calls.mono ((HS.out.pure ((Mod.refl _ _).alloc _)).adv (tt := 1000) [kc, ke] _ _ _ q16.1 rfl q16.2.1 q16.2.2.1 q16.2.2.2 (by decide) (lit_read [kc, ke] (n := 2) rfl) (lit_off HS.out)) ?_; rintro e w' ⟨rfl, D', hs⟩; replace HS := Lib.hid hs; clear hs)
    | (go_at_call 15; refine Calls.mono (HS.out.len (n := 0) rfl) ?_; rintro e w' ⟨rfl, hs⟩; replace HS := Lib.hid hs; clear hs))
  go_wp2_with (first
    | (go_at_call 12; clear U12; refine Calls.mono (HTm.out 7 18446744073709551615 9 _) ?_; rintro e w' ⟨rfl, hp⟩; replace HS := Lib.hid (HS.out.pure hp); clear hp)
    | (go_at_call 12; clear U13; refine Calls.mono (HTm.out 7 18446744073709551614 9 _) ?_; rintro e w' ⟨rfl, hp⟩; replace HS := Lib.hid (HS.out.pure hp); clear hp)
    | (go_at_call 12; clear U14; refine Calls.mono (HTm.out 7 18446744073709551614 9 _) ?_; rintro e w' ⟨rfl, hp⟩; replace HS := Lib.hid (HS.out.pure hp); clear hp)
    | (go_at_call 13; clear T17; refine Calls.mono (HS.out.sched (x := ⟨7, 18446744073709551615, 9⟩) q17.1 q17.2 (by decide) (by decide) (by decide)) ?_; rintro e w' ⟨rfl, D', hs⟩; replace HS := Lib.hid hs; clear hs)
    | (go_at_call 13; clear T18; refine Calls.mono (HS.out.sched (x := kf) q18.1 q18.2 (by decide) (by decide) (by decide)) ?_; rintro e w' ⟨rfl, D', hs⟩; replace HS := Lib.hid hs; clear hs)
    | (go_at_call 26; clear T19; refine Calls.mono (HS.out.where_ (s := 7) q19 (by decide)) ?_; rintro e w' ⟨rfl, hs⟩; replace HS := Lib.hid hs; clear hs)
    | (go_at_call 22; clear T20; refine Calls.mono (HS.out.adv (tt := 999) [] _ _ _ q20.1 rfl q20.2.1 q20.2.2.1 q20.2.2.2 (by decide) (ReadAt.nil _ _) (fun g hg => by cases hg)) ?_; rintro e w' ⟨rfl, D', hs⟩; replace HS := Lib.hid hs; clear hs)
    | (go_at_call 22; clear T21; refine Calls.mono ((HS.out.pure ((Mod.refl _ _).alloc _)).adv (tt := 18446744073709551615) [kf] _ _ _ q21.1 rfl q21.2.1 q21.2.2.1 q21.2.2.2 (by decide) (lit_read [kf] (n := 1) rfl) (lit_off HS.out)) ?_; rintro e w' ⟨rfl, D', hs⟩; replace HS := Lib.hid hs; clear hs))
  go_ret
  exact ⟨rfl, HS.out.pu⟩
end Go.Proofs.YtlalpenfgkfkpaaDoor

/- cascade: Copy. Conditions: the cascade lies in memory. -/
namespace Go.Proofs.YtlalpenfgkfkpaaDoor
open Go.RowKit
set_option maxRecDepth 100000
section
variable {P : Program} {k : TypeId} {R : Value → Option (DataW Unit × List MemPlace)} {w w' : World} {b r n : Nat} {D : DataW Unit} {left : Lit → Bool} {cnt : Nat} {S : Nat → Prop}
theorem rgs_mod (h : w.ranges P k R b r n D left cnt) (hm : Mod S w w') (hb : ¬ S b) (hr : ¬ S r) : w'.ranges P k R b r n D left cnt := by
  obtain ⟨es, clock, since, seen, c0, h1, h2, h3, h4, h5, h6⟩ := h
  exact ⟨es, clock, since, seen, c0, hm.heap hb h1, h2, h3, h4, hm.heap hr h5, h6⟩
end
theorem key_inv {x : Int} {kl : Lit} (h : keyOf Tryd.prog 29 (.int .u32 x) = some kl) : ∃ s : Nat, x = s ∧ kl = kS s ∧ s ≤ 4294967295 := by
  obtain ⟨y, e1, e2, e3⟩ := Maps.keyOf_int_inv Tryd.underlying29 h
  injection e1 with _ e1
  subst e1
  have : 0 ≤ x ∧ x ≤ 4294967295 := by simp [Lit.wf, IntKind.min, IntKind.max, IntKind.signed, IntKind.bits] at e3; omega
  refine ⟨x.toNat, by omega, ?_, by omega⟩
  rw [e2]
  unfold kS
  rw [show ((x.toNat : Nat) : Int) = x by omega]
theorem same_kS (a b : Nat) : (kS a).sameKey (kS b) = decide (a = b) := by
  unfold kS
  simp [Lit.sameKey]
  omega
section
variable {w w' : World} {D : Nat → Prop} {p now tt : Nat} {ws : List Nat} {bm bb : Nat} {Ds : Nat → Nat → Prop} {Dm Db : DataW Unit} {M L : List Td} {Lss : List (List (List Nat))}
structure CpI (w wr : World) (L : List Td) (bm rb n : Nat) (Dm : DataW Unit) (left : Lit → Bool) (cnt : Nat) (p2 now : Nat) (D2 : Nat → Prop) (M2 : List Td) : Prop where
  rg : wr.ranges Tryd.prog 29 tdElem bm rb n Dm left cnt
  has : ∀ kl, left kl = true → Maps.has Dm kl = true
  mem : ∃ ws bm' bb' Ds Dm' Db' Lss, CasMem wr D2 p2 now ws bm' bb' Ds Dm' Db' M2 Lss ∧ PInv now M2 (fun _ => False) Lss
  sub : ∀ x ∈ M2, x ∈ L
  todo : ∀ x ∈ L, left (kS x.slot) = true ↔ x ∉ M2
  fresh : ∀ k, D2 k → w.heap.size ≤ k
  rb2 : ¬ D2 rb
  pure : Pure w wr
set_option maxHeartbeats 2000000 in
theorem CasAt.copy (h : CasAt w D p now L) : Calls Tryd.prog 14 #[lkP p] w fun e w' => ∃ p2 D2, e = .returned (lkP p2) ∧ CasAt w' D2 p2 now L ∧ Pure w w' ∧ ∀ k, D2 k → w.heap.size ≤ k := by
  obtain ⟨ws, bm, bb, Ds, Dm, Db, Lss, h1, h2, h3⟩ := h
  have HCk := Lib.hid (ccheck_ok h1.box (s := 0) (by omega))
  obtain ⟨c0, c9, c10, cf, cl⟩ := h1.box.cells
  have HNw := Lib.hid (fun W => cnew_ok W h1.box.now)
  have HC := Lib.hid h1; have HI := Lib.hid h2; have HS := Lib.hid h3
  clear h1 h2 h3
  go_enter Tryd.func14, Tryd.ntmps14
  go_upto_region 4 with (first
    | (go_at_call 46; refine Calls.mono HCk.out ?_; rintro e w' ⟨rfl, rfl⟩)
    | (go_at_call 11; refine Calls.mono (HNw.out _) ?_; rintro e w1 ⟨p2, D2, rfl, hc2, hp2, hf2⟩))
  have HC1 := Lib.hid (HC.out.pure hp2)
  obtain ⟨c0', c9', c10', cf', cl'⟩ := HC1.out.box.cells
  have HC2 := Lib.hid hc2; have HP2 := Lib.hid hp2; have HF2 := Lib.hid hf2
  clear hc2 hp2 hf2 c0 c9 c10 cf cl
  go_upto_region 5 with (at_range; refine wpList_range_own _ rfl _ 54 rfl 29 31 keyedS Tryd.underlying54 tdElem bm L.length Dm rfl HC1.out.what.own ?_; intro wg hrg hgr hsz; go_frame)
  have hpg : Pure w1 wg := Mod.of_grown hgr (fun i e _ => by cases e)
  have hr1 : ¬ D2 w1.heap.size := fun e => by have := HC2.out.lt e; omega
  have hI : CpI w wg L bm w1.heap.size L.length Dm (Maps.has Dm) (Maps.size Dm) p2 now D2 [] := by
    obtain ⟨ws2, bm2, bb2, Ds2, Dm2, Db2, Lss2, k1, k2, k3⟩ := HC2.out
    exact ⟨hrg, fun _ h => h, ⟨_, _, _, _, _, _, _, k1.pure hpg, k2⟩, (fun x hx => by cases hx), fun x hx => ⟨fun _ c => (by cases c), fun _ => HC1.out.what.has_mem hx⟩, HF2.out, hr1, HP2.out.trans hpg⟩
  have hszr : w.heap.size ≤ w1.heap.size := HP2.out.size
  have HI0 := Lib.hid hI
  clear hrg hgr hsz hpg hr1 hI c0' c9' c10' cf' cl' HC1 HC2 HF2 HP2 HNw
  generalize w1.heap.size = rb at *
  have hbm : bm < w.heap.size := HC.out.what.own.lt
  go_loopw [] (fun wr => ∃ left cnt D2 M2, CpI w wr L bm rb L.length Dm left cnt p2 now D2 M2) (fun wr => wr.rangeLeft bm rb)
  case atStart => exact ⟨_, _, _, _, HI0.out⟩
  case round =>
    obtain ⟨left, cnt, D2, M2, hI⟩ := hrel
    have HIr := Lib.hid hI
    clear hI
    go_wp2_with (at_next; refine wpList_next_ranges _ rfl _ rfl 29 keyedS tdElem (fun x : Int => Value.int .u32 x) tdV (fun key kl hkey => by obtain ⟨x, rfl, _⟩ := Maps.keyOf_int_inv Tryd.underlying29 hkey; exact ⟨x, rfl⟩) (fun v y hv => by obtain ⟨c, rfl, _⟩ := tdElem_inv hv; exact ⟨c, rfl⟩) bm rb L.length Dm left cnt rfl HIr.out.rg ?_ ?_)
    · intro hc0 hl0
      obtain ⟨ws2, bm2, bb2, Ds2, Dm2, Db2, Lss2, k1, k2⟩ := HIr.out.mem
      have hp : M2.Perm L := by
        rw [List.perm_ext_iff_of_nodup k2.ndM HI.out.ndM]
        intro x
        refine ⟨HIr.out.sub x, fun hx => ?_⟩
        apply Classical.byContradiction
        intro hn
        have := (HIr.out.todo x hx).2 hn
        rw [hl0] at this
        cases this
      have hfin : CasAt wr D2 p2 now L := ⟨_, _, _, _, _, _, _, k1.perm hp, k2.perm hp, HS.out⟩
      have HFin := Lib.hid hfin
      clear hc0 hl0 k1 k2 hp hfin
      go_wp2
      go_ret
      exact ⟨p2, D2, rfl, HFin.out, HIr.out.pure, HIr.out.fresh⟩
    · intro x c kl y1 y2 w3 cnt1 hkey hlk hv hat hrg1 hlt1 hg1 hs1 hen
      obtain ⟨s, rfl, rfl, hs32⟩ := key_inv hkey
      obtain ⟨z, hz, hzs⟩ := HC.out.what.has s (HIr.out.has _ hlk)
      have hcz : c = z := by
        have e1 := hat (.lit (.int .u32 0))
        rw [← hzs, HC.out.what.at_ z hz] at e1
        have e5 := tdElem_mk c
        rw [hv] at e5
        injection e5 with e5
        have e6 : y1 = tdD c := congrArg Prod.fst e5
        exact tdD_inj (e6.symm.trans e1.symm)
      subst hcz
      subst hzs
      have hm3 : Mod (fun k => k = rb) wr w3 := Mod.of_grown hg1 (fun i e _ => by cases e; rfl)
      have hn2 : c ∉ M2 := (HIr.out.todo c hz).1 hlk
      obtain ⟨ws2, bm2, bb2, Ds2, Dm2, Db2, Lss2, k1, k2⟩ := HIr.out.mem
      have k3 := k1.frame hm3 (fun k hk e => HIr.out.rb2 (e ▸ hk))
      obtain ⟨r1, r2, r3, r4⟩ := HI.out.rng c hz
      have r5 := HI.out.after c hz (fun c => c)
      obtain ⟨Ls, B, hL, hK⟩ := k2.get (lvl_spec HC.out.box.now (dl := c.dl) (by omega)).1 (bkt_lt (now := now) (dl := c.dl))
      have n1 : ∀ y ∈ M2, y.slot ≠ c.slot := fun y hy e => hn2 (by rw [← HI.out.slots y (HIr.out.sub y hy) c hz e]; exact hy)
      have n2 : ∀ y ∈ M2, y.birth ≠ c.birth := fun y hy e => hn2 (by rw [← HI.out.births y (HIr.out.sub y hy) c hz e]; exact hy)
      have hpu := fun (W : World) (hW : Pure w3 W) => cput_ok (k3.pure hW) (x := c) (M' := c :: M2) r1 (by omega) r4 (by omega) (by have := k2.count; unfold maxLen; omega) hL hK (k2.notL (fun y hy e => absurd e (n1 y hy)) hL) (.inl ⟨n1, n2, rfl⟩)
      have hinv := k2.put (x := c) (M' := c :: M2) (Q := fun _ => False) (.inl ⟨n1, n2, rfl⟩) r5 ⟨r1, r2, r3, r4⟩ (fun y hy e => absurd e (n1 y hy)) hL hK (fun s => ⟨fun c => c.elim, fun c => c.1.elim⟩)
      have hsz3 : w3.heap.size = wr.heap.size := hs1
      have hpw3 : Pure w w3 := HIr.out.pure.then hm3 (fun k hk e => by omega)
      unfold tdV at hpu hen
      have HPu := Lib.hid hpu; have HInv := Lib.hid hinv; have HZ := Lib.hid hz; have HN2 := Lib.hid hn2; have HSZ3 := Lib.hid hsz3; have HRG := Lib.hid hrg1; have HLT := Lib.hid hlt1; have HPW3 := Lib.hid hpw3
      clear hpu hinv hz hn2 hrg1 hlt1 k1 k2 k3 hL hK n1 n2 hkey hat hv hlk hg1 hs1 hm3 hpw3 hsz3
      have hal : Pure w3 (w3.alloc (.cells #[.int .u32 c.slot, .int .u64 c.dl, .int .u64 c.birth] 31)) := (Mod.refl _ w3).alloc _
      have h5 := heap_new (w := w3) (o := .cells #[.int .u32 c.slot, .int .u64 c.dl, .int .u64 c.birth] 31 (0, 0)) rfl
      have HAL := Lib.hid hal
      go_upto_region 7 with fail
      generalize w3.alloc (.cells #[.int .u32 c.slot, .int .u64 c.dl, .int .u64 c.birth] 31) = W4 at *
      obtain ⟨b5, hb5⟩ : ∃ b5, w3.heap.size = b5 := ⟨_, rfl⟩
      rw [hb5] at h5 ⊢
      have HB5 := Lib.hid hb5
      clear hb5 hal hen
      have h5_0 := cell_of_row _ _ 0 _ _ _ h5; have h5_1 := cell_of_row _ _ 1 _ _ _ h5; have h5_2 := cell_of_row _ _ 2 _ _ _ h5; have h5_f := (fun j => frozen_of_row _ _ j _ _ h5); have h5_l := lt_of_block h5; simp at h5_0 h5_1 h5_2; have H_h5 := Lib.hid h5; clear h5
      go_wp2_with (go_at_call 48; refine Calls.mono (HPu.out _ (by first | exact HAL.out | exact HAL.out.drew)) ?_; rintro e w5 ⟨rfl, ⟨D3, Ds3, Dm3, Db3, hC3, hg3⟩, hm3⟩)
      have hm5 : Mod D2 w3 w5 := (Mod.of_pure HAL.out).trans (by first | exact hm3 | exact Mod.of_drew hm3)
      have hg5 : ∀ k, D3 k → D2 k ∨ b5 ≤ k := fun k hk => by
        have e1 := HAL.out.size
        have e2 := HB5.out
        rcases hg3 k hk with e | e
        · exact .inl e
        · have e' : W4.heap.size ≤ k := e
          exact .inr (by omega)
      have hrb : rb < b5 := by have := HRG.out.lt; have := HB5.out; omega
      have hb5w : w.heap.size ≤ b5 := by have := HPW3.out.size; have := HB5.out; omega
      have hrg5 := rgs_mod HRG.out hm5 (fun e => by have := HIr.out.fresh _ e; omega) HIr.out.rb2
      have hI5 : CpI w w5 L bm rb L.length Dm (fun z => left z && !z.sameKey (kS c.slot)) cnt1 p2 now D3 (c :: M2) := ⟨hrg5, fun kl hk => HIr.out.has kl (by simp at hk; exact hk.1), ⟨_, _, _, _, _, _, _, hC3, HInv.out⟩, fun x hx => (by
          rcases List.mem_cons.1 hx with rfl | hx
          · exact HZ.out
          · exact HIr.out.sub x hx), fun x hx => (by
          rw [same_kS, List.mem_cons, not_or, ← HIr.out.todo x hx]
          simp
          exact ⟨fun k => ⟨fun e => k.2 (by rw [e]), k.1⟩, fun k => ⟨k.2, fun e => k.1 (HI.out.slots x hx c HZ.out e)⟩⟩), fun k hk => (by
          rcases hg5 k hk with e | e
          · exact HIr.out.fresh k e
          · omega), fun e => (by
          rcases hg5 rb e with e | e
          · exact HIr.out.rb2 e
          · omega), HPW3.out.then hm5 (fun k hk e => by have := HIr.out.fresh k e; omega)⟩
      have HI5 := Lib.hid hI5
      clear hm5 hg5 hrg5 hI5 hC3 hg3 hm3
      go_wp2
      go_roundw
      case rel => exact ⟨_, _, _, _, HI5.out⟩
      case measure => rw [HI5.out.rg.left_eq, HIr.out.rg.left_eq]; exact HLT.out
end
end Go.Proofs.YtlalpenfgkfkpaaDoor
