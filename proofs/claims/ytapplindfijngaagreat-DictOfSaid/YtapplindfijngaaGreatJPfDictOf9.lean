/- Lemmas and contracts of functions, strung together out of 8 texts. No condition. -/
import Derived.Test.YtapplindfijngaaGreatJPfDictOf8
import Derived.Test.YtapplindfijngaaGreatJPfDictOf4
import Derived.Test.YtapplindfijngaaGreatJPfDictOf1
import Derived.Test.YtapplindfijngaaGreatProg
import Derived.Handy
import Derived.Test.YtapplindfijngaaGreatJPfDictOf2
import Derived.Test.YtapplindfijngaaGreatJPfDictOf6
/- law11.known answers true, whatever the world, and makes new blocks alone; and with it CompactDue. -/
namespace Go.Proofs.YtapplindfijngaaGreat
open Go.RowKit Go.Shelf
set_option maxRecDepth 100000

/-! ### known -/
def kE : Nat → Ent
  | 0 => ⟨⟨#[97]⟩, [], 0, 1⟩
  | 1 => ⟨⟨#[98]⟩, [], 0, 2⟩
  | 2 => ⟨⟨#[99]⟩, [], 0, 3⟩
  | _ => ⟨⟨#[100]⟩, [], 0, 4⟩
theorem kE_ok (i : Nat) : (kE i).Ok := by
  unfold kE
  split <;> exact ⟨by decide, by decide, by decide, by decide⟩
def kL (n : Nat) : List (Option Ent) := (List.range n).map (fun i => some (kE i))
theorem kL_succ (n : Nat) : kL (n + 1) = kL n ++ [some (kE n)] := by simp [kL, List.range_succ]
theorem kL_length (n : Nat) : (kL n).length = n := by simp [kL]
theorem nil_read (w : World) : ReadAt w (.slice none 0 0) 1 (bytesOf []) := ReadAt.nil w 1

def compactB (w : World) (L' : List (Option Ent)) (xs : List Nat) (n : Int) (k : Nat) (e : Ending) (w' : World) : Prop :=
  ∃ q a c D, e = .returned (.tuple #[logPtr q, .agg #[.slice a k c, .int .i64 n], .int .i64 0]) ∧ LogAt w' D q L' ∧ U32Row w' a c xs ∧ Pure w w' ∧ (∀ k, D k → w.heap.size ≤ k) ∧ Fresh w (.slice a k c)
theorem compactB_ok {w : World} {D : Nat → Prop} {p : Nat} {L : List (Option Ent)} (h : LogAt w D p L) (L' : List (Option Ent)) (xs : List Nat) (n : Int) (k : Nat) (h1 : packed L = L') (h2 : olds L = xs) (h3 : (L.length : Int) = n) (h4 : xs.length = k) :
    Calls Tryz.prog 87 #[logPtr p] w (compactB w L' xs n k) := by
  subst h1 h2 h3 h4
  exact compactA_ok h
def removeB (w : World) (D : Nat → Prop) (p : Nat) (L' : List (Option Ent)) (e : Ending) (w' : World) : Prop := ∃ v, e = .returned v ∧ LogAt w' D p L' ∧ Mod D w w'
theorem removeB_ok {w : World} {D : Nat → Prop} {p : Nat} {L : List (Option Ent)} (h : LogAt w D p L) (i : Int) (k : Nat) (hk : i = (k : Int)) (x : Ent) (hi : L[k]? = some (some x)) (L' : List (Option Ent)) (hL : L.set k none = L') :
    Calls Tryz.prog 24 #[logPtr p, .int .u32 i] w (removeB w D p L') := by
  subst hk hL
  refine Calls.mono (removeA_ok h k x hi) ?_
  rintro e w' ⟨a, n, c, rfl, _, _, h1, h2⟩
  exact ⟨_, rfl, h1, h2⟩
theorem kL4 : kL 4 = [some (kE 0), some (kE 1), some (kE 2), some (kE 3)] := rfl
theorem packed4 : packed [none, none, some (kE 2), some (kE 3)] = [some (kE 2), some (kE 3)] := rfl
theorem olds4 : olds [none, none, some (kE 2), some (kE 3)] = [2, 3] := rfl
theorem packed2 : packed [none, some (kE 3)] = [some (kE 3)] := rfl
theorem olds2 : olds [none, some (kE 3)] = [1] := rfl
theorem keys4 : keysOf (live [some (kE 2), some (kE 3)]) = ⟨#[99, 100]⟩ := by decide +kernel
theorem ThenZ {w : World} {a a2 : Option Addr} {c c2 : Nat} {xs ys : List Nat} (h : U32Row w a c xs) (h2 : U32Row w a2 c2 ys) (n : Int) (zs : List Nat) (k k2 : Nat) (n2 : Int) (k3 : Nat) (hy : ∀ y ∈ ys, y < xs.length) (hl : ys.length ≤ 4194304) (hx : ∀ x ∈ xs, x ≤ 4294967295) (hx2 : xs.length ≤ 4194304)
    (hz : thenXs xs ys = zs) (hk : xs.length = k) (hk2 : ys.length = k2) (hn2 : (xs.length : Int) = n2) (hk3 : ys.length = k3) :
    Calls Tryz.prog 92 #[.agg #[.slice a k c, .int .i64 n], .agg #[.slice a2 k2 c2, .int .i64 n2]] w fun e w' =>
      ∃ a' c', e = .returned (.tuple #[.agg #[.slice a' k3 c', .int .i64 n], .int .i64 0]) ∧ U32Row w' a' c' zs ∧ Fresh w (.slice a' k3 c') ∧ Pure w w' := by
  subst hz hk hn2 hk3
  subst hk2
  exact Then_ok h h2 n hy hl hx hx2
/-- Between the calls: a log, its moves in a box, nothing elder turned. -/
structure KS (w : World) (b : Nat) (D : Nat → Prop) (q : Nat) (L : List (Option Ent)) (a : Option Addr) (c : Nat) (xs : List Nat) (k : Nat) (n : Int) (W : World) : Prop where
  log : LogAt W D q L
  row : U32Row W a c xs
  box : W.heap[b]? = some (.cells #[.slice a k c, .int .i64 n] 81 (0, 0))
  pu : Pure w W
  dd : ∀ i, D i → w.heap.size ≤ i
  bb : w.heap.size ≤ b
theorem KS.pure {w : World} {b : Nat} {D : Nat → Prop} {q : Nat} {L : List (Option Ent)} {a : Option Addr} {c : Nat} {xs : List Nat} {k : Nat} {n : Int} {W W' : World} (h : KS w b D q L a c xs k n W) (hq : Pure W W') : KS w b D q L a c xs k n W' :=
  ⟨h.log.pure hq, owns_mod h.row hq (fun _ _ h => h), hq.heap (fun h => h) h.box, h.pu.trans hq, h.dd, h.bb⟩
theorem KS.c0 {w : World} {b : Nat} {D : Nat → Prop} {q : Nat} {L : List (Option Ent)} {a : Option Addr} {c : Nat} {xs : List Nat} {k : Nat} {n : Int} {W : World} (h : KS w b D q L a c xs k n W) : W.cell? ⟨b, 0, none⟩ = some (.slice a k c) := by
  have := cell_of_row W b 0 _ _ _ h.box
  simpa using this
theorem KS.c1 {w : World} {b : Nat} {D : Nat → Prop} {q : Nat} {L : List (Option Ent)} {a : Option Addr} {c : Nat} {xs : List Nat} {k : Nat} {n : Int} {W : World} (h : KS w b D q L a c xs k n W) : W.cell? ⟨b, 1, none⟩ = some (.int .i64 n) := by
  have := cell_of_row W b 1 _ _ _ h.box
  simpa using this
/-- Moves in a box. -/
structure KM (w : World) (b : Nat) (a : Option Addr) (c : Nat) (xs : List Nat) (k : Nat) (n : Int) (W : World) : Prop where
  row : U32Row W a c xs
  box : W.heap[b]? = some (.cells #[.slice a k c, .int .i64 n] 81 (0, 0))
  pu : Pure w W
  bb : w.heap.size ≤ b
theorem KM.pure {w : World} {b : Nat} {a : Option Addr} {c : Nat} {xs : List Nat} {k : Nat} {n : Int} {W W' : World} (h : KM w b a c xs k n W) (hq : Pure W W') : KM w b a c xs k n W' :=
  ⟨owns_mod h.row hq (fun _ _ h => h), hq.heap (fun h => h) h.box, h.pu.trans hq, h.bb⟩
theorem KM.c0 {w : World} {b : Nat} {a : Option Addr} {c : Nat} {xs : List Nat} {k : Nat} {n : Int} {W : World} (h : KM w b a c xs k n W) : W.cell? ⟨b, 0, none⟩ = some (.slice a k c) := by
  have := cell_of_row W b 0 _ _ _ h.box
  simpa using this
theorem KM.c1 {w : World} {b : Nat} {a : Option Addr} {c : Nat} {xs : List Nat} {k : Nat} {n : Int} {W : World} (h : KM w b a c xs k n W) : W.cell? ⟨b, 1, none⟩ = some (.int .i64 n) := by
  have := cell_of_row W b 1 _ _ _ h.box
  simpa using this
theorem KS.toKM {w : World} {b : Nat} {D : Nat → Prop} {q : Nat} {L : List (Option Ent)} {a : Option Addr} {c : Nat} {xs : List Nat} {k : Nat} {n : Int} {W : World} (h : KS w b D q L a c xs k n W) : KM w b a c xs k n W := ⟨h.row, h.box, h.pu, h.bb⟩
theorem KS.removed {w : World} {b : Nat} {D : Nat → Prop} {q : Nat} {L : List (Option Ent)} {a : Option Addr} {c : Nat} {xs : List Nat} {k : Nat} {n : Int} {W W' : World} (h : KS w b D q L a c xs k n W) (hm : Mod D W W') : KM w b a c xs k n W' :=
  ⟨h.log.owns hm h.row (by decide) (by decide), h.log.box hm h.box (by decide) (by decide), h.pu.then hm (fun i hi hk => by have := h.dd i hk; omega), h.bb⟩
theorem rising3 : Rising [3] := ⟨by decide, by decide, by decide⟩
theorem rising23 : Rising [2, 3] := ⟨by decide, by decide, by decide⟩

def KnInv (w : World) (p : Nat) (i : Value) (wr : World) : Prop := ∃ (n : Nat) (D : Nat → Prop), n ≤ 4 ∧ i = .int .i64 n ∧ LogAt wr D p (kL n) ∧ Pure w wr ∧ ∀ k, D k → w.heap.size ≤ k

set_option maxHeartbeats 1000000 in
theorem known_true (w : World) : Calls Tryz.prog 33 #[] w fun e w' => e = .returned (.bool true) ∧ Pure w w' := by
  go_enter Tryz.func33, Tryz.ntmps33
  go_wp2_with (go_at_call 21; refine Calls.mono (newA_ok _) ?_; rintro e w1 ⟨rfl, hl, hp, hz⟩; have HL := Lib.hid hl; have HP := Lib.hid hp; clear hl hp)
  generalize hpp : w.heap.size = p at *
  go_loopw [2] (fun i wr => KnInv w p i wr) (fun i _ => 4 - (intOf i).toNat)
  case atStart => exact ⟨0, _, by omega, rfl, HL.out, HP.out, fun k hk => by omega⟩
  case round =>
    obtain ⟨n, D, hn, rfl, hL, hP, hD⟩ := hrel
    have HLn := Lib.hid hL
    have HPn := Lib.hid hP
    have HDn := Lib.hid hD
    clear hL hP hD HL HP
    by_cases hlt : n < 4
    · have h4 : n = 0 ∨ n = 1 ∨ n = 2 ∨ n = 3 := by omega
      rcases h4 with rfl | rfl | rfl | rfl
      · go_wp2_with (go_at_call 22; refine Calls.mono (appendA_ok HLn.out (by rw [kL_length]; decide) (kE 0) (kE_ok 0) none 0 0 (nil_read _)) ?_; rintro e w2 ⟨rfl, D', hL2, hM2, hG2⟩)
        refine ⟨⟨1, D', by omega, rfl, by rw [kL_succ]; exact hL2, HPn.out.then hM2 (fun k hk h => by have := HDn.out k h; omega), fun k hk => ?_⟩, by simp [intOf]⟩
        rcases hG2 k hk with h | h
        · exact HDn.out k h
        · have := HPn.out.size; omega
      · go_wp2_with (go_at_call 22; refine Calls.mono (appendA_ok HLn.out (by rw [kL_length]; decide) (kE 1) (kE_ok 1) none 0 0 (nil_read _)) ?_; rintro e w2 ⟨rfl, D', hL2, hM2, hG2⟩)
        refine ⟨⟨2, D', by omega, rfl, by rw [kL_succ]; exact hL2, HPn.out.then hM2 (fun k hk h => by have := HDn.out k h; omega), fun k hk => ?_⟩, by simp [intOf]⟩
        rcases hG2 k hk with h | h
        · exact HDn.out k h
        · have := HPn.out.size; omega
      · go_wp2_with (go_at_call 22; refine Calls.mono (appendA_ok HLn.out (by rw [kL_length]; decide) (kE 2) (kE_ok 2) none 0 0 (nil_read _)) ?_; rintro e w2 ⟨rfl, D', hL2, hM2, hG2⟩)
        refine ⟨⟨3, D', by omega, rfl, by rw [kL_succ]; exact hL2, HPn.out.then hM2 (fun k hk h => by have := HDn.out k h; omega), fun k hk => ?_⟩, by simp [intOf]⟩
        rcases hG2 k hk with h | h
        · exact HDn.out k h
        · have := HPn.out.size; omega
      · go_wp2_with (go_at_call 22; refine Calls.mono (appendA_ok HLn.out (by rw [kL_length]; decide) (kE 3) (kE_ok 3) none 0 0 (nil_read _)) ?_; rintro e w2 ⟨rfl, D', hL2, hM2, hG2⟩)
        refine ⟨⟨4, D', by omega, rfl, by rw [kL_succ]; exact hL2, HPn.out.then hM2 (fun k hk h => by have := HDn.out k h; omega), fun k hk => ?_⟩, by simp [intOf]⟩
        rcases hG2 k hk with h | h
        · exact HDn.out k h
        · have := HPn.out.size; omega
    · obtain rfl : n = 4 := by omega
      have HL4n : Hid (LogAt wr D p [some (kE 0), some (kE 1), some (kE 2), some (kE 3)]) := by rw [← kL4]; exact HLn.out
      clear hlt hn HLn
      go_upto_region 13 with (first
        | (go_at_call 24; refine Calls.mono (removeB_ok HL4n.out 1 1 rfl (kE 1) rfl [some (kE 0), none, some (kE 2), some (kE 3)] rfl) ?_; rintro e w2 ⟨v, rfl, hl2, hm2⟩; have HL2 := Lib.hid hl2; have HP2 := Lib.hid (HPn.out.then hm2 (fun k hk h => (by have := HDn.out k h; omega))); clear hl2 hm2 HL4n)
        | (go_at_call 24; refine Calls.mono (removeB_ok HL2.out 0 0 rfl (kE 0) rfl [none, none, some (kE 2), some (kE 3)] rfl) ?_; rintro e w3 ⟨v, rfl, hl3, hm3⟩; have HL3 := Lib.hid hl3; have HP3 := Lib.hid (HP2.out.then hm3 (fun k hk h => (by have := HDn.out k h; omega))); clear hl3 hm3 HL2 HP2)
        | (go_at_call 87; refine Calls.mono (compactB_ok HL3.out [some (kE 2), some (kE 3)] [2, 3] 4 2 packed4 olds4 rfl rfl) ?_; rintro e w4 ⟨q, a, c, D2, rfl, hl4, hr4, hp4, hd4, hf4⟩; have HL4 := Lib.hid hl4; have HR4 := Lib.hid hr4; have HP4 := Lib.hid hp4; have HD4 := Lib.hid hd4; clear hl4 hr4 hp4 hd4 hf4))
      have HW : Hid (KS w w4.heap.size D2 q [some (kE 2), some (kE 3)] a c [2, 3] 2 4 (w4.alloc (.cells #[.slice a 2 c, .int .i64 4] 81))) := by
        have hP : Pure w4 (w4.alloc (.cells #[.slice a 2 c, .int .i64 4] 81)) := (Mod.refl _ w4).alloc _
        exact ⟨HL4.out.pure hP, owns_mod HR4.out hP (fun _ _ h => h), heap_new rfl, (HP3.out.trans HP4.out).trans hP, fun k hk => Nat.le_trans HP3.out.size (HD4.out k hk), Nat.le_trans HP3.out.size HP4.out.size⟩
      generalize w4.alloc (.cells #[.slice a 2 c, .int .i64 4] 81) = W at HW ⊢
      generalize w4.heap.size = b at HW ⊢
      have HS := HW
      clear HW HL4 HR4 HP4 HD4 HP3 HL3 HPn HDn
      have m0 := HS.out.c0
      have m1 := HS.out.c1
      have t1 : Hid True := Lib.hid trivial; have t2 := t1; have t3 := t1; have t4 := t1; have t5 := t1; have t6 := t1; have t7 := t1
      go_upto_region 15 with (first
        | (go_at_call 88; refine Calls.mono (keysA HS.out.log) ?_; rintro e W2 ⟨rfl, hq⟩; replace HS := Lib.hid (HS.out.pure hq); have m0 := HS.out.c0; have m1 := HS.out.c1; clear hq; rw [keys4])
        | (go_at_call 89; have := t1.out; clear this t1; refine Calls.mono (lensZ _ _ 2 4 2 4 true (by decide)) ?_; rintro e W2 ⟨rfl, hq⟩; replace HS := Lib.hid (HS.out.pure hq); have m0 := HS.out.c0; have m1 := HS.out.c1; clear hq)
        | (go_at_call 90; have := t2.out; clear this t2; refine Calls.mono (toZ HS.out.row rising23 2 rfl 4 2 0 0 true (by decide) (by decide)) ?_; rintro e W2 ⟨rfl, hq⟩; replace HS := Lib.hid (HS.out.pure hq); have m0 := HS.out.c0; have m1 := HS.out.c1; clear hq)
        | (go_at_call 90; have := t3.out; clear this t3; refine Calls.mono (toZ HS.out.row rising23 2 rfl 4 3 1 0 true (by decide) (by decide)) ?_; rintro e W2 ⟨rfl, hq⟩; replace HS := Lib.hid (HS.out.pure hq); have m0 := HS.out.c0; have m1 := HS.out.c1; clear hq)
        | (go_at_call 90; have := t4.out; clear this t4; refine Calls.mono (toZ HS.out.row rising23 2 rfl 4 1 0 9 true (by decide) (by decide)) ?_; rintro e W2 ⟨rfl, hq⟩; replace HS := Lib.hid (HS.out.pure hq); have m0 := HS.out.c0; have m1 := HS.out.c1; clear hq)
        | (go_at_call 90; have := t5.out; clear this t5; refine Calls.mono (toZ HS.out.row rising23 2 rfl 4 4 0 9 true (by decide) (by decide)) ?_; rintro e W2 ⟨rfl, hq⟩; replace HS := Lib.hid (HS.out.pure hq); have m0 := HS.out.c0; have m1 := HS.out.c1; clear hq)
        | (go_at_call 91; have := t6.out; clear this t6; refine Calls.mono (fromZ HS.out.row (by decide) 2 rfl 4 0 2 0 true (by decide) (by decide)) ?_; rintro e W2 ⟨rfl, hq⟩; replace HS := Lib.hid (HS.out.pure hq); have m0 := HS.out.c0; have m1 := HS.out.c1; clear hq)
        | (go_at_call 91; have := t7.out; clear this t7; refine Calls.mono (fromZ HS.out.row (by decide) 2 rfl 4 2 0 9 true (by decide) (by decide)) ?_; rintro e W2 ⟨rfl, hq⟩; replace HS := Lib.hid (HS.out.pure hq); have m0 := HS.out.c0; have m1 := HS.out.c1; clear hq))
      have HM := Lib.hid HS.out.toKM
      clear m0 m1
      go_upto_region 17 with (first
        | (go_at_call 24; refine Calls.mono (removeB_ok HS.out.log 0 0 rfl (kE 2) rfl [none, some (kE 3)] rfl) ?_; rintro e w5 ⟨v5, rfl, hl5, hm5⟩; have HL5 := Lib.hid hl5; replace HM := Lib.hid (HS.out.removed hm5); clear hl5 hm5 HS)
        | (go_at_call 87; refine Calls.mono (compactB_ok HL5.out [some (kE 3)] [1] 2 1 packed2 olds2 rfl rfl) ?_; rintro e w6 ⟨q2, a2, c2, D3, rfl, hl6, hr6, hp6, hd6, hf6⟩; have HR6 := Lib.hid hr6; have HP6 := Lib.hid hp6; replace HM := Lib.hid (HM.out.pure hp6); clear hl6 hr6 hp6 hd6 hf6))
      have hP : Pure w6 (w6.alloc (.cells #[.slice a2 1 c2, .int .i64 2] 81)) := (Mod.refl _ w6).alloc _
      have HN : Hid (KM w w6.heap.size a2 c2 [1] 1 2 (w6.alloc (.cells #[.slice a2 1 c2, .int .i64 2] 81))) :=
        ⟨owns_mod HR6.out hP (fun _ _ h => h), heap_new rfl, HM.out.pu.trans hP, HM.out.pu.size⟩
      replace HM := Lib.hid (HM.out.pure hP)
      clear hP HR6
      generalize w6.alloc (.cells #[.slice a2 1 c2, .int .i64 2] 81) = W at HM HN ⊢
      generalize w6.heap.size = b9 at HN ⊢
      have m0 := HM.out.c0; have m1 := HM.out.c1; have n0 := HN.out.c0; have n1 := HN.out.c1
      go_upto_region 18 with
        (go_at_call 92; refine Calls.mono (ThenZ HM.out.row HN.out.row 4 [3] 2 1 2 1 (by decide) (by decide) (by decide) (by decide) rfl rfl rfl rfl rfl) ?_; rintro e w7 ⟨a7, c7, rfl, hr7, hf7, hp7⟩; have HR7 := Lib.hid hr7; replace HM := Lib.hid (HM.out.pure hp7); replace HN := Lib.hid (HN.out.pure hp7); clear hr7 hf7 hp7)
      have hP : Pure w7 (w7.alloc (.cells #[.slice a7 1 c7, .int .i64 4] 81)) := (Mod.refl _ w7).alloc _
      have HB : Hid (KM w w7.heap.size a7 c7 [3] 1 4 (w7.alloc (.cells #[.slice a7 1 c7, .int .i64 4] 81))) :=
        ⟨owns_mod HR7.out hP (fun _ _ h => h), heap_new rfl, HM.out.pu.trans hP, HM.out.pu.size⟩
      replace HM := Lib.hid (HM.out.pure hP)
      replace HN := Lib.hid (HN.out.pure hP)
      clear hP HR7 m0 m1 n0 n1
      generalize w7.alloc (.cells #[.slice a7 1 c7, .int .i64 4] 81) = W at HM HN HB ⊢
      generalize w7.heap.size = b10 at HB ⊢
      have m0 := HM.out.c0; have m1 := HM.out.c1; have n0 := HN.out.c0; have n1 := HN.out.c1
      go_upto_region 19 with
        (go_at_call 92; refine Calls.mono (Then_arg _ _ 1 _ _ 4 (by decide)) ?_; rintro e w8 ⟨rfl, hp8⟩; replace HB := Lib.hid (HB.out.pure hp8); clear hp8)
      have hP : Pure w8 (w8.alloc (.cells #[.slice none 0 0, .int .i64 0] 81)) := (Mod.refl _ w8).alloc _
      replace HB := Lib.hid (HB.out.pure hP)
      clear hP m0 m1 n0 n1 HM HN
      generalize w8.alloc (.cells #[.slice none 0 0, .int .i64 0] 81) = W at HB ⊢
      have m0 := HB.out.c0; have m1 := HB.out.c1
      have t1 : Hid True := Lib.hid trivial; have t2 := t1; have t3 := t1; have t4 := t1; have t5 := t1; have t6 := t1; have t7 := t1; have t8 := t1; have t9 := t1
      go_wp2_with (first
        | (go_at_call 89; have := t1.out; clear this t1; refine Calls.mono (lensZ _ _ 1 4 1 4 true (by decide)) ?_; rintro e W2 ⟨rfl, hq⟩; replace HB := Lib.hid (HB.out.pure hq); have m0 := HB.out.c0; have m1 := HB.out.c1; clear hq)
        | (go_at_call 90; have := t2.out; clear this t2; refine Calls.mono (toZ HB.out.row rising3 1 rfl 4 3 0 0 true (by decide) (by decide)) ?_; rintro e W2 ⟨rfl, hq⟩; replace HB := Lib.hid (HB.out.pure hq); have m0 := HB.out.c0; have m1 := HB.out.c1; clear hq)
        | (go_at_call 90; have := t3.out; clear this t3; refine Calls.mono (toZ HB.out.row rising3 1 rfl 4 2 0 9 true (by decide) (by decide)) ?_; rintro e W2 ⟨rfl, hq⟩; replace HB := Lib.hid (HB.out.pure hq); have m0 := HB.out.c0; have m1 := HB.out.c1; clear hq)
        | (go_at_call 91; have := t4.out; clear this t4; refine Calls.mono (fromZ HB.out.row (by decide) 1 rfl 4 0 3 0 true (by decide) (by decide)) ?_; rintro e W2 ⟨rfl, hq⟩; replace HB := Lib.hid (HB.out.pure hq); have m0 := HB.out.c0; have m1 := HB.out.c1; clear hq)
        | (go_at_call 93; have := t5.out; clear this t5; refine Calls.mono (dueZ _ (16) 0 false (by decide) (by decide)) ?_; rintro e W2 ⟨rfl, rfl⟩)
        | (go_at_call 93; have := t6.out; clear this t6; refine Calls.mono (dueZ _ (17) 0 true (by decide) (by decide)) ?_; rintro e W2 ⟨rfl, rfl⟩)
        | (go_at_call 93; have := t7.out; clear this t7; refine Calls.mono (dueZ _ (18) 1 false (by decide) (by decide)) ?_; rintro e W2 ⟨rfl, rfl⟩)
        | (go_at_call 93; have := t8.out; clear this t8; refine Calls.mono (dueZ _ (19) 1 true (by decide) (by decide)) ?_; rintro e W2 ⟨rfl, rfl⟩)
        | (go_at_call 93; have := t9.out; clear this t9; refine Calls.mono (dueZ _ (-1) 0 false (by decide) (by decide)) ?_; rintro e W2 ⟨rfl, rfl⟩))
      go_ret
      exact ⟨rfl, HB.out.pu⟩

/-! ### CompactDue -/
end Go.Proofs.YtapplindfijngaaGreat

/- law11.CompactLogs, walked: it answers true. Condition: the slot numbers are read. -/
namespace Go.Proofs.YtapplindfijngaaGreat
open Go.RowKit Go.Shelf
set_option maxRecDepth 100000

theorem setA_any {w : World} {D : Nat → Prop} {p : Nat} {L : List (Option Ent)} (h : LogAt w D p L) (i : Nat) (hu : i ≤ 4294967295) : Calls Tryz.prog 128 #[logPtr p, .int .u32 i, .slice none 0 0, .int .u64 0] w fun e w' => (∃ v, e = .returned v) ∧ (∃ L', LogAt w' D p L') ∧ Mod D w w' := by
  obtain ⟨sv, M, rfl, h⟩ := h
  cases e : M[i]? with
  | none =>
    refine Calls.mono (Set_miss h hu (by unfold slotOf; rw [e]; rfl) _ _) ?_
    rintro e w' ⟨rfl, hp⟩
    exact ⟨⟨_, rfl⟩, ⟨_, (h.pure hp).toAt⟩, Mod.of_pure hp⟩
  | some m =>
    obtain ⟨o, v⟩ := m
    cases o with
    | none =>
      refine Calls.mono (Set_miss h hu (by unfold slotOf; rw [e]; rfl) _ _) ?_
      rintro e w' ⟨rfl, hp⟩
      exact ⟨⟨_, rfl⟩, ⟨_, (h.pure hp).toAt⟩, Mod.of_pure hp⟩
    | some x =>
      refine Calls.mono (Set_hit h e none 0 0 [] (ReadAt.nil _ _) (by simp) 0) ?_
      rintro e w' ⟨rfl, v', h1, h2⟩
      exact ⟨⟨_, rfl⟩, ⟨_, h1.toAt⟩, h2⟩
theorem removeA_any {w : World} {D : Nat → Prop} {p : Nat} {L : List (Option Ent)} (h : LogAt w D p L) (i : Nat) (hu : i ≤ 4294967295) : Calls Tryz.prog 24 #[logPtr p, .int .u32 i] w fun e w' => (∃ v, e = .returned v) ∧ (∃ L', LogAt w' D p L') ∧ Mod D w w' := by
  by_cases hx : ∃ x, L[i]? = some (some x)
  · obtain ⟨x, hx⟩ := hx
    refine Calls.mono (removeA_ok h i x hx) ?_
    rintro e w' ⟨a, n, c, rfl, _, _, h1, h2⟩
    exact ⟨⟨_, rfl⟩, ⟨_, h1⟩, h2⟩
  · refine Calls.mono (removeMissA_ok h i hu (fun x hh => hx ⟨x, hh⟩)) ?_
    rintro e w' ⟨rfl, hp⟩
    exact ⟨⟨_, rfl⟩, ⟨_, h.pure hp⟩, Mod.of_pure hp⟩
theorem compactC {w : World} {D : Nat → Prop} {p : Nat} {L : List (Option Ent)} (h : LogAt w D p L) (xs : List Nat) (n k : Nat) (hx : olds L = xs) (hn : L.length = n) (hk : xs.length = k) :
    Calls Tryz.prog 87 #[logPtr p] w fun e w' => ∃ q a c D, e = .returned (.tuple #[logPtr q, .agg #[.slice a k c, .int .i64 n], .int .i64 0]) ∧ LogAt w' D q (packed L) ∧ U32Row w' a c xs ∧ Pure w w' ∧ (∀ k, D k → w.heap.size ≤ k) := by
  subst hx hn hk
  refine Calls.mono (compactA_ok h) ?_
  rintro e w' ⟨q, a, c, D, rfl, h1, h2, h3, h4, _⟩
  exact ⟨q, a, c, D, rfl, h1, h2, h3, h4⟩

structure CLs (w : World) (p b6 : Nat) (D : Nat → Prop) (aL : Option Addr) (cL : Nat) (aG : Option Addr) (cG n : Nat) (Q : List RQ) (W : World) : Prop where
  pu : Pure w W
  log : LogAt W D p (slotsR (Q.map absQ))
  r6 : W.heap[b6]? = some (.cells #[.slice aL n cL, .slice aG n cG] 32 (0, 0))
  ref : RefRow W aL cL aG cG Q
  len : Q.length = n
  ap : ∀ g, (Value.slice aL n cL).ownBlock = some g → ¬ D g
  dd : ∀ k, D k → w.heap.size ≤ k
theorem CLs.pure {w : World} {p b6 : Nat} {D : Nat → Prop} {aL : Option Addr} {cL : Nat} {aG : Option Addr} {cG n : Nat} {Q : List RQ} {W W' : World} (h : CLs w p b6 D aL cL aG cG n Q W) (hq : Pure W W') : CLs w p b6 D aL cL aG cG n Q W' :=
  ⟨h.pu.trans hq, h.log.pure hq, hq.heap (fun h => h) h.r6, h.ref.pure hq, h.len, h.ap, h.dd⟩
structure CLx (q b9 : Nat) (D2 : Nat → Prop) (L : List (Option Ent)) (a : Option Addr) (c k n : Nat) (xs : List Nat) (W : World) : Prop where
  log : LogAt W D2 q L
  r9 : W.heap[b9]? = some (.cells #[.slice a k c, .int .i64 n] 81 (0, 0))
  row : U32Row W a c xs
  len : xs.length = k
theorem CLx.pure {q b9 : Nat} {D2 : Nat → Prop} {L : List (Option Ent)} {a : Option Addr} {c k n : Nat} {xs : List Nat} {W W' : World} (h : CLx q b9 D2 L a c k n xs W) (hq : Pure W W') : CLx q b9 D2 L a c k n xs W' :=
  ⟨h.log.pure hq, hq.heap (fun h => h) h.r9, owns_mod h.row hq (fun _ _ h => h), h.len⟩
structure CLy (b11 b12 : Nat) (aL : Option Addr) (cL : Nat) (aG : Option Addr) (cG m : Nat) (Q : List RQ) (aN : Option Addr) (cN n : Nat) (xs : List Nat) (k : Nat) (W : World) : Prop where
  r11 : W.heap[b11]? = some (.cells #[.slice aL m cL, .slice aG m cG] 32 (0, 0))
  ref : RefRow W aL cL aG cG Q
  len : Q.length = m
  r12 : W.heap[b12]? = some (.cells #[.slice aN n cN, .int .i64 k] 86 (0, 0))
  mv : MvX W aN cN n xs
theorem CLy.pure {b11 b12 : Nat} {aL : Option Addr} {cL : Nat} {aG : Option Addr} {cG m : Nat} {Q : List RQ} {aN : Option Addr} {cN n : Nat} {xs : List Nat} {k : Nat} {W W' : World} (h : CLy b11 b12 aL cL aG cG m Q aN cN n xs k W) (hq : Pure W W') : CLy b11 b12 aL cL aG cG m Q aN cN n xs k W' :=
  ⟨hq.heap (fun h => h) h.r11, h.ref.pure hq, h.len, hq.heap (fun h => h) h.r12, h.mv.pure hq⟩
theorem cls_beside {w : World} {p b6 q : Nat} {D D2 : Nat → Prop} {aL : Option Addr} {cL : Nat} {aG : Option Addr} {cG n : Nat} {Q : List RQ} {W W' : World} {L : List (Option Ent)} (h : CLs w p b6 D aL cL aG cG n Q W) (k : LogAt W D2 q L) (hm : Mod D2 W W')
    (hdd : ∀ i, D i → ¬ D2 i) (hda : ∀ g, (Value.slice aL n cL).ownBlock = some g → ¬ D2 g) (hdw : ∀ i, D2 i → w.heap.size ≤ i) : CLs w p b6 D aL cL aG cG n Q W' :=
  ⟨h.pu.then hm (fun i hi h => by have := hdw i h; omega), h.log.beside k hm hdd, k.box hm h.r6 (by decide) (by decide), h.ref.beside k hm (by rw [h.len]; exact hda), h.len, h.ap, h.dd⟩
theorem ref_LogC {w : World} {aL : Option Addr} {cL : Nat} {aG : Option Addr} {cG : Nat} {Q : List RQ} (h : RefRow w aL cL aG cG Q) (n : Nat) (hn : Q.length = n) (xs : List Nat) (k : Nat) (hx : olds (slotsR (Q.map absQ)) = xs) (hk : xs.length = k) :
    Calls Tryz.prog 94 #[.agg #[.slice aL n cL, .slice aG n cG]] w fun e w' => ∃ aL' cL' aG' cG' m Q' aN cN, e = .returned (.tuple #[.agg #[.slice aL' m cL', .slice aG' m cG'], .agg #[.slice aN n cN, .int .i64 k]]) ∧ Q'.length = m ∧ Q'.map absQ = packR (Q.map absQ) ∧ RefRow w' aL' cL' aG' cG' Q' ∧ MvX w' aN cN n xs ∧ Fresh w (.slice aL' m cL') ∧ Pure w w' := by
  subst hn hx hk
  refine Calls.mono (ref_Log_any h) ?_
  rintro e w' ⟨aL', cL', aG', cG', Q', aN, cN, rfl, h1, h2, h3, h4, h5⟩
  exact ⟨aL', cL', aG', cG', Q'.length, Q', aN, cN, rfl, rfl, h1, h2, h3, h4, h5⟩
theorem same_trueC {w : World} {D : Nat → Prop} {p : Nat} {aL : Option Addr} {cL : Nat} {aG : Option Addr} {cG : Nat} {Q : List RQ} {L : List (Option Ent)} (h : LogAt w D p L) (hR : RefRow w aL cL aG cG Q) (n : Nat) (hn : Q.length = n) (hL : L = slotsR (Q.map absQ)) :
    Calls Tryz.prog 38 #[logPtr p, .agg #[.slice aL n cL, .slice aG n cG]] w fun e w' => e = .returned (.bool true) ∧ Pure w w' := by
  subst hn hL
  exact same_true h hR
theorem moves_trueC {w : World} {a a2 : Option Addr} {c c2 n : Nat} {xs : List Nat} (h : U32Row w a c xs) (hr : Rising xs) (h2 : MvX w a2 c2 n xs) (hn : n ≤ 4194300) (hx : ∀ x ∈ xs, x < n) (k : Nat) (hk : xs.length = k) :
    Calls Tryz.prog 37 #[.agg #[.slice a k c, .int .i64 n], .agg #[.slice a2 n c2, .int .i64 k]] w fun e w' => e = .returned (.bool true) ∧ Pure w w' := by
  subst hk
  exact moves_true h hr h2 hn hx
end Go.Proofs.YtapplindfijngaaGreat

/- Words of eight lanes, lane by lane, in plain numbers. No program. -/
namespace Go.Proofs.YtapplindfijngaaGreat
open Go.RowKit
set_option maxRecDepth 100000

/-- The word with these lanes, the lowest first. -/
def word8 : List Nat → Nat
  | [] => 0
  | b :: l => 256 * word8 l + b
/-- The set of the lanes for which the list says true. -/
def mask : List Bool → Nat
  | [] => 0
  | b :: l => 2 * mask l + b.toNat

def Bytes8 (l : List Nat) : Prop := l.length = 8 ∧ ∀ c ∈ l, c < 256

theorem op_split (f : Nat → Nat → Nat) (g : Bool → Bool → Bool) (hf : ∀ a b i, (f a b).testBit i = g (a.testBit i) (b.testBit i)) (hlt : ∀ a b, a < 2 ^ 8 → b < 2 ^ 8 → f a b < 2 ^ 8) (a b x y : Nat) (ha : a < 256) (hb : b < 256) :
    f (256 * x + a) (256 * y + b) = 256 * f x y + f a b := by
  apply Nat.eq_of_testBit_eq
  intro i
  have e : (256 : Nat) = 2 ^ 8 := rfl
  rw [hf, e, Nat.testBit_two_pow_mul_add x ha i, Nat.testBit_two_pow_mul_add y hb i, Nat.testBit_two_pow_mul_add (f x y) (hlt a b ha hb) i]
  split <;> rw [hf]
theorem word8_op (f : Nat → Nat → Nat) (g : Bool → Bool → Bool) (h00 : f 0 0 = 0) (hf : ∀ a b i, (f a b).testBit i = g (a.testBit i) (b.testBit i)) (hlt : ∀ a b, a < 2 ^ 8 → b < 2 ^ 8 → f a b < 2 ^ 8) (s t : Nat → Nat) :
    ∀ l : List Nat, (∀ c ∈ l, s c < 256) → (∀ c ∈ l, t c < 256) → f (word8 (l.map s)) (word8 (l.map t)) = word8 (l.map (fun c => f (s c) (t c)))
  | [], _, _ => h00
  | c :: l, hs, ht => by
    simp only [List.map_cons, word8]
    rw [op_split f g hf hlt _ _ _ _ (hs c (by simp)) (ht c (by simp)), word8_op f g h00 hf hlt s t l (fun c h => hs c (by simp [h])) (fun c h => ht c (by simp [h]))]
theorem word8_xor (s t : Nat → Nat) (l : List Nat) (hs : ∀ c ∈ l, s c < 256) (ht : ∀ c ∈ l, t c < 256) : word8 (l.map s) ^^^ word8 (l.map t) = word8 (l.map (fun c => s c ^^^ t c)) :=
  word8_op (· ^^^ ·) Bool.xor rfl Nat.testBit_xor (fun _ _ => Nat.xor_lt_two_pow) s t l hs ht
theorem word8_and (s t : Nat → Nat) (l : List Nat) (hs : ∀ c ∈ l, s c < 256) (ht : ∀ c ∈ l, t c < 256) : word8 (l.map s) &&& word8 (l.map t) = word8 (l.map (fun c => s c &&& t c)) :=
  word8_op (· &&& ·) and rfl Nat.testBit_and (fun a b ha _ => Nat.lt_of_le_of_lt Nat.and_le_left ha) s t l hs ht
theorem word8_or (s t : Nat → Nat) (l : List Nat) (hs : ∀ c ∈ l, s c < 256) (ht : ∀ c ∈ l, t c < 256) : word8 (l.map s) ||| word8 (l.map t) = word8 (l.map (fun c => s c ||| t c)) :=
  word8_op (· ||| ·) or rfl Nat.testBit_or (fun _ _ => Nat.or_lt_two_pow) s t l hs ht
theorem word8_add (s t : Nat → Nat) : ∀ l : List Nat, word8 (l.map s) + word8 (l.map t) = word8 (l.map (fun c => s c + t c))
  | [] => rfl
  | c :: l => by simp only [List.map_cons, word8]; rw [← word8_add s t l]; omega
theorem word8_lt : ∀ l : List Nat, (∀ c ∈ l, c < 256) → word8 l < 256 ^ l.length
  | [], _ => by simp [word8]
  | c :: l, h => by
    have h1 := word8_lt l (fun c hc => h c (by simp [hc]))
    have h2 := h c (by simp)
    simp only [word8, List.length_cons, Nat.pow_succ]
    omega
theorem Bytes8.lt {l : List Nat} (h : Bytes8 l) : word8 l < 18446744073709551616 := by have := word8_lt l h.2; rw [h.1] at this; simpa using this
theorem Bytes8.map {l : List Nat} (h : Bytes8 l) {s : Nat → Nat} (hs : ∀ c, c < 256 → s c < 256) : Bytes8 (l.map s) := ⟨by simp [h.1], fun c hc => by obtain ⟨a, ha, rfl⟩ := List.mem_map.1 hc; exact hs a (h.2 a ha)⟩
theorem word8_const (k : Nat) {l : List Nat} (h : l.length = 8) : word8 (l.map (fun _ => k)) = 72340172838076673 * k := by
  have : l.map (fun _ => k) = [k, k, k, k, k, k, k, k] := by
    rw [show (fun _ : Nat => k) = Function.const Nat k from rfl, List.map_const, h]; rfl
  rw [this]; simp only [word8]; omega
theorem Bytes8.eight {l : List Nat} (h : Bytes8 l) : ∃ a b c d e f g i, l = [a, b, c, d, e, f, g, i] := by
  obtain ⟨hl, _⟩ := h
  match l, hl with
  | [a, b, c, d, e, f, g, i], _ => exact ⟨a, b, c, d, e, f, g, i, rfl⟩
theorem eight_of {α : Type} {l : List α} (hl : l.length = 8) : ∃ a b c d e f g i, l = [a, b, c, d, e, f, g, i] := by
  match l, hl with
  | [a, b, c, d, e, f, g, i], _ => exact ⟨a, b, c, d, e, f, g, i, rfl⟩

/-! ### the two bit tricks -/
theorem trick_zero : ∀ x < 256, 255 ^^^ ((((x &&& 127) + 127) ||| x) ||| 127) = if x = 0 then 128 else 0 := by decide +kernel
theorem xor_zero {a b : Nat} (h : a ^^^ b = 0) : a = b := by
  apply Nat.eq_of_testBit_eq
  intro i
  have : (a ^^^ b).testBit i = false := by rw [h]; simp
  rw [Nat.testBit_xor] at this
  cases ha : a.testBit i <;> cases hb : b.testBit i <;> simp [ha, hb] at this <;> rfl
/-- What Match hands to gather. -/
theorem match_word {l : List Nat} (h : Bytes8 l) (b : Nat) (hb : b < 256) :
    18446744073709551615 ^^^ (((((word8 l ^^^ (72340172838076673 * b)) &&& 9187201950435737471) + 9187201950435737471) ||| (word8 l ^^^ (72340172838076673 * b))) ||| 9187201950435737471) =
      word8 (l.map (fun c => if c = b then 128 else 0)) := by
  have hx : ∀ c ∈ l, c ^^^ b < 256 := fun c hc => Nat.xor_lt_two_pow (n := 8) (h.2 c hc) hb
  have ha : ∀ c ∈ l, (c ^^^ b) &&& 127 < 128 := fun c hc => by have : (c ^^^ b) &&& 127 ≤ 127 := Nat.and_le_right; omega
  have h1 : word8 l ^^^ (72340172838076673 * b) = word8 (l.map (fun c => c ^^^ b)) := by
    have := word8_xor id (fun _ => b) l (by simpa using h.2) (fun _ _ => hb)
    rwa [word8_const b h.1, List.map_id] at this
  have k127 : (9187201950435737471 : Nat) = word8 (l.map (fun _ => 127)) := by rw [word8_const 127 h.1]
  have k255 : (18446744073709551615 : Nat) = word8 (l.map (fun _ => 255)) := by rw [word8_const 255 h.1]
  rw [h1, k127, k255, word8_and _ _ _ hx (fun _ _ => by omega), word8_add, word8_or _ _ _ (fun c hc => by have := ha c hc; omega) hx,
    word8_or _ _ _ (fun c hc => Nat.or_lt_two_pow (n := 8) (by have := ha c hc; omega) (hx c hc)) (fun _ _ => by omega),
    word8_xor _ _ _ (fun _ _ => by omega) (fun c hc => Nat.or_lt_two_pow (n := 8) (Nat.or_lt_two_pow (n := 8) (by have := ha c hc; omega) (hx c hc)) (by omega))]
  congr 1
  apply List.map_congr_left
  intro c hc
  rw [trick_zero _ (hx c hc)]
  by_cases e : c = b
  · subst e; simp
  · rw [if_neg e, if_neg (fun h => e (xor_zero h))]
theorem match_small {l : List Nat} (h : Bytes8 l) (b : Nat) (hb : b < 256) :
    (((word8 l ^^^ (72340172838076673 * b)) &&& 9187201950435737471) + 9187201950435737471) < 18446744073709551616 := by
  have : (word8 l ^^^ (72340172838076673 * b)) &&& 9187201950435737471 ≤ 9187201950435737471 := Nat.and_le_right
  omega
theorem word8_map_bool {l : List Nat} (p : Nat → Bool) : l.map (fun c => if p c then 128 else 0) = (l.map p).map (fun b => if b then 128 else 0) := by
  rw [List.map_map]; rfl
theorem gather_all : ∀ a b c d e f g i : Bool, (word8 ([a, b, c, d, e, f, g, i].map (fun b => if b then 128 else 0)) / 128 * 72624976668147840 % 18446744073709551616) / 72057594037927936 % 256 = mask [a, b, c, d, e, f, g, i] := by decide +kernel
theorem gather_mask {p : List Bool} (h : p.length = 8) : (word8 (p.map (fun b => if b then 128 else 0)) / 128 * 72624976668147840 % 18446744073709551616) / 72057594037927936 % 256 = mask p := by
  obtain ⟨a, b, c, d, e, f, g, i, rfl⟩ := eight_of h
  exact gather_all a b c d e f g i
theorem high_word {l : List Nat} (h : Bytes8 l) : word8 l &&& 9259542123273814144 = word8 (l.map (fun c => if decide (128 ≤ c) then 128 else 0)) := by
  have k : (9259542123273814144 : Nat) = word8 (l.map (fun _ => 128)) := by rw [word8_const 128 h.1]
  have := word8_and id (fun _ => 128) l (by simpa using h.2) (fun _ _ => by omega)
  rw [List.map_id] at this
  rw [k, this]
  congr 1
  apply List.map_congr_left
  intro c hc
  have : ∀ c < 256, c &&& 128 = if decide (128 ≤ c) then 128 else 0 := by decide +kernel
  exact this c (h.2 c hc)
end Go.Proofs.YtapplindfijngaaGreat

/- The model's bit operations on plain numbers; sets of lanes. -/
namespace Go.Proofs.YtapplindfijngaaGreat
open Go.RowKit
set_option maxRecDepth 100000

theorem u64_wrap (n : Nat) (h : n < 18446744073709551616) : IntKind.u64.wrap (n : Int) = n := by
  simp [IntKind.wrap, IntKind.signed, IntKind.bits]; omega
theorem u8_wrap (n : Nat) (h : n < 256) : IntKind.u8.wrap (n : Int) = n := by
  simp [IntKind.wrap, IntKind.signed, IntKind.bits]; omega
theorem ofInt_nat (k : Nat) (n : Nat) : BitVec.ofInt k (n : Int) = BitVec.ofNat k n := by
  apply BitVec.eq_of_toNat_eq
  simp [BitVec.toNat_ofInt]
theorem bits_xor64 (a b : Nat) (ha : a < 18446744073709551616) (hb : b < 18446744073709551616) : bits .xor .u64 (a : Int) (b : Int) = ((a ^^^ b : Nat) : Int) := by
  have h : a ^^^ b < 2 ^ 64 := Nat.xor_lt_two_pow ha hb
  show IntKind.u64.wrap (((BitVec.ofInt 64 (a : Int) ^^^ BitVec.ofInt 64 (b : Int)).toNat : Nat) : Int) = _
  rw [ofInt_nat, ofInt_nat]
  rw [BitVec.toNat_xor, BitVec.toNat_ofNat, BitVec.toNat_ofNat, Nat.mod_eq_of_lt (by omega), Nat.mod_eq_of_lt (by omega)]
  exact u64_wrap _ (by omega)
theorem bits_and64 (a b : Nat) (ha : a < 18446744073709551616) (hb : b < 18446744073709551616) : bits .and .u64 (a : Int) (b : Int) = ((a &&& b : Nat) : Int) := by
  have h : a &&& b < 2 ^ 64 := Nat.and_lt_two_pow _ hb
  show IntKind.u64.wrap (((BitVec.ofInt 64 (a : Int) &&& BitVec.ofInt 64 (b : Int)).toNat : Nat) : Int) = _
  rw [ofInt_nat, ofInt_nat]
  rw [BitVec.toNat_and, BitVec.toNat_ofNat, BitVec.toNat_ofNat, Nat.mod_eq_of_lt (by omega), Nat.mod_eq_of_lt (by omega)]
  exact u64_wrap _ (by omega)
theorem bits_or64 (a b : Nat) (ha : a < 18446744073709551616) (hb : b < 18446744073709551616) : bits .or .u64 (a : Int) (b : Int) = ((a ||| b : Nat) : Int) := by
  have h : a ||| b < 2 ^ 64 := Nat.or_lt_two_pow ha hb
  show IntKind.u64.wrap (((BitVec.ofInt 64 (a : Int) ||| BitVec.ofInt 64 (b : Int)).toNat : Nat) : Int) = _
  rw [ofInt_nat, ofInt_nat]
  rw [BitVec.toNat_or, BitVec.toNat_ofNat, BitVec.toNat_ofNat, Nat.mod_eq_of_lt (by omega), Nat.mod_eq_of_lt (by omega)]
  exact u64_wrap _ (by omega)
theorem bits_or8 (a b : Nat) (ha : a < 256) (hb : b < 256) : bits .or .u8 (a : Int) (b : Int) = ((a ||| b : Nat) : Int) := by
  have h : a ||| b < 2 ^ 8 := Nat.or_lt_two_pow ha hb
  show IntKind.u8.wrap (((BitVec.ofInt 8 (a : Int) ||| BitVec.ofInt 8 (b : Int)).toNat : Nat) : Int) = _
  rw [ofInt_nat, ofInt_nat]
  rw [BitVec.toNat_or, BitVec.toNat_ofNat, BitVec.toNat_ofNat, Nat.mod_eq_of_lt (by omega), Nat.mod_eq_of_lt (by omega)]
  exact u8_wrap _ (by omega)
theorem bits_and8 (a b : Nat) (ha : a < 256) (hb : b < 256) : bits .and .u8 (a : Int) (b : Int) = ((a &&& b : Nat) : Int) := by
  have h : a &&& b < 2 ^ 8 := Nat.and_lt_two_pow _ hb
  show IntKind.u8.wrap (((BitVec.ofInt 8 (a : Int) &&& BitVec.ofInt 8 (b : Int)).toNat : Nat) : Int) = _
  rw [ofInt_nat, ofInt_nat]
  rw [BitVec.toNat_and, BitVec.toNat_ofNat, BitVec.toNat_ofNat, Nat.mod_eq_of_lt (by omega), Nat.mod_eq_of_lt (by omega)]
  exact u8_wrap _ (by omega)
theorem bits_xor8 (a b : Nat) (ha : a < 256) (hb : b < 256) : bits .xor .u8 (a : Int) (b : Int) = ((a ^^^ b : Nat) : Int) := by
  have h : a ^^^ b < 2 ^ 8 := Nat.xor_lt_two_pow ha hb
  show IntKind.u8.wrap (((BitVec.ofInt 8 (a : Int) ^^^ BitVec.ofInt 8 (b : Int)).toNat : Nat) : Int) = _
  rw [ofInt_nat, ofInt_nat]
  rw [BitVec.toNat_xor, BitVec.toNat_ofNat, BitVec.toNat_ofNat, Nat.mod_eq_of_lt (by omega), Nat.mod_eq_of_lt (by omega)]
  exact u8_wrap _ (by omega)
theorem bits_andNot64 (a b c : Nat) (ha : a < 18446744073709551616) (hb : b < 18446744073709551616) (hc : c = 18446744073709551615 - b) : bits .andNot .u64 (a : Int) (b : Int) = ((a &&& c : Nat) : Int) := by
  subst hc
  have h : a &&& (18446744073709551615 - b) < 2 ^ 64 := Nat.lt_of_le_of_lt Nat.and_le_left ha
  show IntKind.u64.wrap (((BitVec.ofInt 64 (a : Int) &&& ~~~ BitVec.ofInt 64 (b : Int)).toNat : Nat) : Int) = _
  rw [ofInt_nat, ofInt_nat]
  rw [BitVec.toNat_and, BitVec.toNat_not, BitVec.toNat_ofNat, BitVec.toNat_ofNat, Nat.mod_eq_of_lt (a := a) (by omega), Nat.mod_eq_of_lt (a := b) (by omega)]
  exact u64_wrap _ (by simpa using h)
theorem not_u64 : (if IntKind.u64.signed = true then (-1 : Int) else IntKind.u64.max) = ((18446744073709551615 : Nat) : Int) := by decide
theorem not_u8 : (if IntKind.u8.signed = true then (-1 : Int) else IntKind.u8.max) = ((255 : Nat) : Int) := by decide

/-! ### sets of lanes -/
theorem mask_lt {p : List Bool} (h : p.length = 8) : mask p < 256 := by
  obtain ⟨a, b, c, d, e, f, g, i, rfl⟩ := eight_of h
  have : ∀ a b c d e f g i : Bool, mask [a, b, c, d, e, f, g, i] < 256 := by decide +kernel
  exact this ..
theorem mask_not {p : List Bool} (h : p.length = 8) : 255 ^^^ mask p = mask (p.map not) := by
  obtain ⟨a, b, c, d, e, f, g, i, rfl⟩ := eight_of h
  have : ∀ a b c d e f g i : Bool, 255 ^^^ mask [a, b, c, d, e, f, g, i] = mask ([a, b, c, d, e, f, g, i].map not) := by decide +kernel
  exact this ..
theorem mask_zero {p : List Bool} (h : p.length = 8) : decide (mask p = 0) = !p.any id := by
  obtain ⟨a, b, c, d, e, f, g, i, rfl⟩ := eight_of h
  have : ∀ a b c d e f g i : Bool, decide (mask [a, b, c, d, e, f, g, i] = 0) = !([a, b, c, d, e, f, g, i].any id) := by decide +kernel
  exact this ..
theorem mask_full {p : List Bool} (h : p.length = 8) : decide (mask p = 255) = p.all id := by
  obtain ⟨a, b, c, d, e, f, g, i, rfl⟩ := eight_of h
  have : ∀ a b c d e f g i : Bool, decide (mask [a, b, c, d, e, f, g, i] = 255) = ([a, b, c, d, e, f, g, i].all id) := by decide +kernel
  exact this ..
theorem mask_bit {p : List Bool} (h : p.length = 8) (j : Nat) (hj : j < 8) : mask p / 2 ^ j &&& 1 = (p.getD j false).toNat := by
  obtain ⟨a, b, c, d, e, f, g, i, rfl⟩ := eight_of h
  have : ∀ a b c d e f g i : Bool, ∀ j < 8, mask [a, b, c, d, e, f, g, i] / 2 ^ j &&& 1 = ([a, b, c, d, e, f, g, i].getD j false).toNat := by decide +kernel
  exact this _ _ _ _ _ _ _ _ j hj
theorem mask_or : ∀ (l : List Nat) (s t : Nat → Bool), mask (l.map s) ||| mask (l.map t) = mask (l.map (fun c => s c || t c))
  | [], _, _ => by simp [mask]
  | c :: l, s, t => by
    simp only [List.map_cons, mask]
    rw [← mask_or l s t]
    apply Nat.eq_of_testBit_eq
    intro i
    have hb : ∀ b : Bool, b.toNat < 2 ^ 1 := fun b => by cases b <;> decide
    have e : ∀ (x : Nat) (b : Bool), 2 * x + b.toNat = 2 ^ 1 * x + b.toNat := fun _ _ => rfl
    rw [Nat.testBit_or, e, e, e, Nat.testBit_two_pow_mul_add _ (hb _), Nat.testBit_two_pow_mul_add _ (hb _), Nat.testBit_two_pow_mul_add _ (hb _)]
    split
    · have : i = 0 := by omega
      subst this
      cases s c <;> cases t c <;> rfl
    · rw [Nat.testBit_or]

/-- The lanes of a set, in order. -/
def lanesOf (m : Nat) : List Nat := (List.range 8).filter m.testBit
/-- The first lane of a set, or 8. -/
def lane1 (m : Nat) : Nat := (lanesOf m).headD 8
theorem lanes_mask {p : List Bool} (h : p.length = 8) : lanesOf (mask p) = (List.range 8).filter (fun i => p.getD i false) := by
  obtain ⟨a, b, c, d, e, f, g, i, rfl⟩ := eight_of h
  have : ∀ a b c d e f g i : Bool, lanesOf (mask [a, b, c, d, e, f, g, i]) = (List.range 8).filter (fun j => [a, b, c, d, e, f, g, i].getD j false) := by decide +kernel
  exact this ..
theorem lanes_step : ∀ m < 256, m ≠ 0 → lanesOf m = lane1 m :: lanesOf (m &&& (m - 1)) ∧ lane1 m < 8 ∧ m &&& (m - 1) < m := by decide +kernel
theorem first_le : ∀ m < 256, lane1 m ≤ 8 := by decide +kernel
theorem lanes_zero : lanesOf 0 = [] := by decide
theorem first_mask {p : List Bool} (h : p.length = 8) : lane1 (mask p) = p.findIdx id := by
  obtain ⟨a, b, c, d, e, f, g, i, rfl⟩ := eight_of h
  have : ∀ a b c d e f g i : Bool, lane1 (mask [a, b, c, d, e, f, g, i]) = [a, b, c, d, e, f, g, i].findIdx id := by decide +kernel
  exact this ..

/-! ### one lane -/
theorem word8_range {l : List Nat} (h : l.length = 8) : word8 l = word8 ((List.range 8).map (fun i => l.getD i 0)) := by
  obtain ⟨a, b, c, d, e, f, g, i, rfl⟩ := eight_of h
  rfl
theorem keep_word : ∀ j < 8, 18446744073709551615 - 255 * 2 ^ (8 * j) = word8 ((List.range 8).map (fun i => if i = j then 0 else 255)) := by decide +kernel
theorem put_word (b : Nat) : ∀ j < 8, b * 2 ^ (8 * j) = word8 ((List.range 8).map (fun i => if i = j then b else 0)) := by
  intro j hj
  have : j = 0 ∨ j = 1 ∨ j = 2 ∨ j = 3 ∨ j = 4 ∨ j = 5 ∨ j = 6 ∨ j = 7 := by omega
  rcases this with rfl | rfl | rfl | rfl | rfl | rfl | rfl | rfl <;> simp [List.range_succ, word8] <;> omega
theorem with_word {l : List Nat} (h : Bytes8 l) (j b : Nat) (hj : j < 8) (hb : b < 256) : (word8 l &&& (18446744073709551615 - 255 * 2 ^ (8 * j))) ||| b * 2 ^ (8 * j) = word8 (l.set j b) := by
  have hg : ∀ i, l.getD i 0 < 256 := fun i => by
    rw [List.getD_eq_getElem?_getD]
    cases hi : l[i]? with
    | none => simp
    | some c => exact h.2 c (List.mem_of_getElem? hi)
  rw [keep_word j hj, put_word b j hj, word8_range h.1, word8_and _ _ _ (fun i _ => hg i) (fun i _ => by split <;> omega),
    word8_or _ _ _ (fun i _ => Nat.lt_of_le_of_lt Nat.and_le_left (hg i)) (fun i _ => by split <;> omega), word8_range (l := l.set j b) (by simp [h.1])]
  congr 1
  apply List.map_congr_left
  intro i hi
  have hi : i < 8 := by simpa using hi
  have h255 : ∀ c < 256, c &&& 255 = c := by decide +kernel
  simp only [List.getD_eq_getElem?_getD, List.getElem?_set]
  by_cases e : i = j
  · subst e; simp [h.1, hj]
  · rw [if_neg e, if_neg e, if_neg (fun x => e x.symm), Nat.or_zero, h255 _ (by have := hg i; rwa [List.getD_eq_getElem?_getD] at this)]
theorem word8_lane : ∀ (l : List Nat) (_ : ∀ c ∈ l, c < 256) (j : Nat), word8 l / 2 ^ (8 * j) % 256 = l.getD j 0
  | [], _, j => by simp [word8]
  | c :: l, h, 0 => by have := h c (by simp); simp [word8]; omega
  | c :: l, h, j + 1 => by
    have := h c (by simp)
    have e : 2 ^ (8 * (j + 1)) = 256 * 2 ^ (8 * j) := by rw [Nat.mul_add, Nat.pow_add]; omega
    rw [e, ← Nat.div_div_eq_div_mul]
    have e2 : word8 (c :: l) / 256 = word8 l := by simp only [word8]; omega
    rw [e2, word8_lane l (fun c hc => h c (by simp [hc])) j]
    rfl
end Go.Proofs.YtapplindfijngaaGreat

/- word and control: each function on the lanes of its word. -/
namespace Go.Proofs.YtapplindfijngaaGreat
open Go.RowKit
set_option maxRecDepth 100000

theorem u64_mod (n : Nat) : IntKind.u64.wrap (n : Int) = ((n % 18446744073709551616 : Nat) : Int) := by
  simp [IntKind.wrap, IntKind.signed, IntKind.bits]
theorem Repeat_ok (b r : Nat) (W : World) (hb : b < 256) (hr : 72340172838076673 * b = r) : Calls Tryz.prog 137 #[.int .u8 b] W fun e w' => e = .returned (.int .u64 r) ∧ W = w' := by
  subst hr
  have h0 : (0 : Int) ≤ b := by omega
  have h1 : (b : Int) ≤ 255 := by omega
  go_enter Tryz.func137, Tryz.ntmps137
  go_wp2
  go_ret
  exact ⟨by simp, rfl⟩
theorem gather_ok (z m : Nat) (W : World) (hz : z < 18446744073709551616) (hm : z / 128 * 72624976668147840 % 18446744073709551616 / 72057594037927936 % 256 = m) :
    Calls Tryz.prog 170 #[.int .u64 z] W fun e w' => e = .returned (.int .u8 m) ∧ W = w' := by
  have h0 : (0 : Int) ≤ z := by omega
  have h1 : (z : Int) ≤ 18446744073709551615 := by omega
  go_enter Tryz.func170, Tryz.ntmps170
  go_wp2
  go_ret
  refine ⟨?_, rfl⟩
  have e : IntKind.u64.wrap ((z : Int) / 128 * 72624976668147840) / 72057594037927936 % 256 = (m : Int) := by
    rw [show (z : Int) / 128 * 72624976668147840 = ((z / 128 * 72624976668147840 : Nat) : Int) by simp, u64_mod, ← hm]
    simp
  simp only [e]
  rfl
theorem Match_ok {l : List Nat} (h : Bytes8 l) (b : Nat) (W : World) (hb : b < 256) : Calls Tryz.prog 155 #[.int .u64 (word8 l), .int .u8 b] W fun e w' => e = .returned (.int .u8 (mask (l.map (· == b)))) ∧ W = w' := by
  have hl := h.lt
  have hs := match_small h b hb
  have em := match_word h b hb
  have hr : 72340172838076673 * b < 18446744073709551616 := by omega
  have hb0 : Bytes8 (l.map (fun c => if c = b then 128 else 0)) := h.map (fun c _ => by split <;> omega)
  have hg := gather_mask (p := l.map (· == b)) (by simp [h.1])
  have hc : l.map (fun c => if c = b then 128 else 0) = (l.map (· == b)).map (fun b => if b then 128 else 0) := by rw [List.map_map]; apply List.map_congr_left; intro c _; simp
  rw [← hc] at hg
  have hz := hb0.lt
  generalize word8 l = w at *
  generalize mask (l.map (· == b)) = m at *
  generalize word8 (l.map (fun c => if c = b then 128 else 0)) = z at *
  generalize hrb : 72340172838076673 * b = r at *
  have hx : w ^^^ r < 18446744073709551616 := Nat.xor_lt_two_pow (n := 64) hl hr
  have e1 := bits_xor64 w r hl hr
  generalize w ^^^ r = x at *
  have e2 : bits .and .u64 (x : Int) 9187201950435737471 = ((x &&& 9187201950435737471 : Nat) : Int) := bits_and64 x 9187201950435737471 hx (by omega)
  generalize x &&& 9187201950435737471 = y at *
  have ew : IntKind.u64.wrap ((y : Int) + 9187201950435737471) = ((y + 9187201950435737471 : Nat) : Int) := u64_wrap _ hs
  generalize y + 9187201950435737471 = u at *
  have e3 := bits_or64 u x hs hx
  have ho : u ||| x < 18446744073709551616 := Nat.or_lt_two_pow (n := 64) hs hx
  generalize u ||| x = v at *
  have e4 : bits .or .u64 (v : Int) 9187201950435737471 = ((v ||| 9187201950435737471 : Nat) : Int) := bits_or64 v 9187201950435737471 ho (by omega)
  have hv : v ||| 9187201950435737471 < 18446744073709551616 := Nat.or_lt_two_pow (n := 64) ho (by omega)
  generalize v ||| 9187201950435737471 = t at *
  have e5 : bits .xor .u64 (if IntKind.u64.signed = true then (-1 : Int) else IntKind.u64.max) (t : Int) = (z : Int) := by
    rw [not_u64, bits_xor64 _ _ (by omega) hv, em]
  go_enter Tryz.func155, Tryz.ntmps155
  go_wp2_with (first | (go_at_call 137; refine Calls.mono (Repeat_ok b r _ hb hrb) ?_; rintro e w' ⟨rfl, rfl⟩) | (go_at_call 170; go_must (refine Calls.mono (gather_ok z m _ hz hg) ?_); rintro e w' ⟨rfl, rfl⟩))
  go_ret
  exact ⟨rfl, rfl⟩
theorem High_ok {l : List Nat} (h : Bytes8 l) (W : World) : Calls Tryz.prog 169 #[.int .u64 (word8 l)] W fun e w' => e = .returned (.int .u8 (mask (l.map (fun c => decide (128 ≤ c))))) ∧ W = w' := by
  have hl := h.lt
  have hw := high_word h
  have hz : Bytes8 (l.map (fun c => if decide (128 ≤ c) then 128 else 0)) := h.map (fun c _ => by split <;> omega)
  have hg := gather_mask (p := l.map (fun c => decide (128 ≤ c))) (by simp [h.1])
  rw [← word8_map_bool (fun c => decide (128 ≤ c))] at hg
  have hz := hz.lt
  have e1 : bits .andNot .u64 (word8 l : Int) 9187201950435737471 = _ := bits_andNot64 (word8 l) 9187201950435737471 9259542123273814144 hl (by omega) rfl
  rw [hw] at e1
  generalize word8 l = w at *
  generalize mask (l.map (fun c => decide (128 ≤ c))) = m at *
  generalize word8 (l.map (fun c => if decide (128 ≤ c) then 128 else 0)) = z at *
  go_enter Tryz.func169, Tryz.ntmps169
  go_wp2_with (go_at_call 170; go_must (refine Calls.mono (gather_ok z m _ hz hg) ?_); rintro e w' ⟨rfl, rfl⟩)
  go_ret
  exact ⟨rfl, rfl⟩
theorem tz_table (s : ByteArray) (hs : s.size = 256) (h : ∀ k (hk : k < 256), wrap64 ((s[k]'(by omega)).toNat : Int) = lane1 k) (m : Nat) (hm : m < 256) (hms : m < s.size) : wrap64 ((s[m]'hms).toNat : Int) = lane1 m := h m hm
theorem Tz8_ok (m : Nat) (W : World) (hm : m < 256) : Calls Tryz.prog 165 #[.int .u8 m] W fun e w' => e = .returned (.int .i64 (lane1 m)) ∧ W = w' := by
  have h0 : (0 : Int) ≤ m := by omega
  have h1 : (m : Int) ≤ 255 := by omega
  have h2 : (m : Int) < 256 := by omega
  go_enter Tryz.func165, Tryz.ntmps165
  go_wp2
  go_ret
  exact ⟨congrArg (fun x => Ending.returned (.int .i64 x)) (tz_table _ (by decide) (by decide +kernel) m hm _), rfl⟩
theorem First_ok (m : Nat) (W : World) (hm : m < 256) : Calls Tryz.prog 143 #[.int .u8 m] W fun e w' => e = .returned (.int .i64 (lane1 m)) ∧ W = w' := by
  go_enter Tryz.func143, Tryz.ntmps143
  go_wp2_with (go_at_call 165; go_must (refine Calls.mono (Tz8_ok m _ hm) ?_); rintro e w' ⟨rfl, rfl⟩)
  go_ret
  exact ⟨rfl, rfl⟩
theorem pow_lane (j : Nat) (hj : j < 8) (b : Nat) (hb : b < 256) : b * 2 ^ (8 * j) < 18446744073709551616 := by
  have : 2 ^ (8 * j) ≤ 2 ^ 56 := Nat.pow_le_pow_right (by decide) (by omega)
  have : b * 2 ^ (8 * j) ≤ 255 * 2 ^ 56 := Nat.mul_le_mul (by omega) this
  omega
theorem With_ok {l : List Nat} (h : Bytes8 l) (j b : Nat) (W : World) (hj : j < 8) (hb : b < 256) : Calls Tryz.prog 154 #[.int .u64 (word8 l), .int .i64 j, .int .u8 b] W fun e w' => e = .returned (.tuple #[.int .u64 (word8 (l.set j b)), .int .i64 0]) ∧ w' = W.drew := by
  have hl := h.lt
  have hw := with_word h j b hj hb
  have h0 : (0 : Int) ≤ j := by omega
  have h1 : (j : Int) < 8 := by omega
  have h2 : ¬ ((8 : Int) ≤ j) := by omega
  have hb0 : (0 : Int) ≤ b := by omega
  have hb1 : (b : Int) ≤ 255 := by omega
  have k0 : (0 : Int) ≤ 8 * (j : Int) := by omega
  have k1 : 8 * (j : Int) ≤ 64 := by omega
  have k2 : wrap64 (8 * (j : Int)) = 8 * (j : Int) := IntWalk.wrap64_in _ (by omega)
  have s0 := pow_lane j hj 255 (by omega)
  have s1 := pow_lane j hj b hb
  have e1 : IntKind.u64.wrap (255 * 2 ^ (8 * j)) = ((255 * 2 ^ (8 * j) : Nat) : Int) := by rw [← u64_wrap _ s0]; simp
  have e2 : IntKind.u64.wrap ((b : Int) * 2 ^ (8 * j)) = ((b * 2 ^ (8 * j) : Nat) : Int) := by rw [← u64_wrap _ s1]; simp
  generalize b * 2 ^ (8 * j) = t at *
  generalize 255 * 2 ^ (8 * j) = s at *
  generalize word8 (l.set j b) = z at *
  generalize word8 l = w at *
  have e3 := bits_andNot64 w s _ hl s0 rfl
  have hx : w &&& (18446744073709551615 - s) < 18446744073709551616 := Nat.lt_of_le_of_lt Nat.and_le_left hl
  generalize w &&& (18446744073709551615 - s) = x at *
  have e4 := bits_or64 x t hx s1
  rw [hw] at e4
  go_enter Tryz.func154, Tryz.ntmps154
  go_wp2
  go_region
  go_wp2
  go_ret2
  exact ⟨rfl, rfl⟩

/-! ### control -/
/-- The lanes of a group: tags, empty ones and deleted ones. -/
def Group (l : List Nat) : Prop := l.length = 8 ∧ ∀ c ∈ l, c < 128 ∨ c = 128 ∨ c = 254
theorem Group.bytes {l : List Nat} (h : Group l) : Bytes8 l := ⟨h.1, fun c hc => by have := h.2 c hc; omega⟩
theorem Blank_ok (W : World) : Calls Tryz.prog 103 #[] W fun e w' => e = .returned (.int .u64 (word8 [128, 128, 128, 128, 128, 128, 128, 128] : Nat)) ∧ W = w' := by
  have hq := Repeat_ok 128 (word8 [128, 128, 128, 128, 128, 128, 128, 128]) W (by omega) (by rfl)
  generalize word8 [128, 128, 128, 128, 128, 128, 128, 128] = z at *
  go_enter Tryz.func103, Tryz.ntmps103
  go_wp2_with (go_at_call 137; go_must (refine Calls.mono hq ?_); rintro e w' ⟨rfl, rfl⟩)
  go_ret
  exact ⟨rfl, rfl⟩
theorem CMatch_ok {l : List Nat} (h : Bytes8 l) (b : Nat) (W : World) (hb : b < 128) : Calls Tryz.prog 151 #[.int .u64 (word8 l), .int .u8 b] W fun e w' => e = .returned (.int .u8 (mask (l.map (· == b)))) ∧ W = w' := by
  have h1 : ¬ ((127 : Int) < b) := by omega
  go_enter Tryz.func151, Tryz.ntmps151
  go_wp2_with (go_at_call 155; go_must (refine Calls.mono (Match_ok h b _ (by omega)) ?_); rintro e w' ⟨rfl, rfl⟩)
  go_ret
  exact ⟨rfl, rfl⟩
theorem Empties_ok {l : List Nat} (h : Bytes8 l) (W : World) : Calls Tryz.prog 115 #[.int .u64 (word8 l)] W fun e w' => e = .returned (.int .u8 (mask (l.map (· == 128)))) ∧ W = w' := by
  go_enter Tryz.func115, Tryz.ntmps115
  go_wp2_with (go_at_call 155; go_must (refine Calls.mono (Match_ok h 128 _ (by omega)) ?_); rintro e w' ⟨rfl, rfl⟩)
  go_ret
  exact ⟨rfl, rfl⟩
theorem Free_ok {l : List Nat} (h : Group l) (W : World) : Calls Tryz.prog 144 #[.int .u64 (word8 l)] W fun e w' => e = .returned (.int .u8 (mask (l.map (fun c => decide (128 ≤ c))))) ∧ W = w' := by
  have e1 := bits_or8 (mask (l.map (· == 128))) (mask (l.map (· == 254))) (mask_lt (by simp [h.1])) (mask_lt (by simp [h.1]))
  rw [mask_or] at e1
  have e2 : l.map (fun c => c == 128 || c == 254) = l.map (fun c => decide (128 ≤ c)) := List.map_congr_left (fun c hc => by have := h.2 c hc; rw [Bool.eq_iff_iff]; simp; omega)
  rw [e2] at e1
  go_enter Tryz.func144, Tryz.ntmps144
  go_wp2_with (first | (go_at_call 115; go_must (refine Calls.mono (Empties_ok h.bytes _) ?_); rintro e w' ⟨rfl, rfl⟩) | (go_at_call 155; go_must (refine Calls.mono (Match_ok h.bytes 254 _ (by omega)) ?_); rintro e w' ⟨rfl, rfl⟩))
  go_ret
  exact ⟨rfl, rfl⟩
theorem Full_ok {l : List Nat} (h : Bytes8 l) (W : World) : Calls Tryz.prog 153 #[.int .u64 (word8 l)] W fun e w' => e = .returned (.int .u8 (mask (l.map (fun c => decide (c < 128))))) ∧ W = w' := by
  have hm : mask (l.map (fun c => decide (128 ≤ c))) < 256 := mask_lt (by simp [h.1])
  have e0 := mask_not (p := l.map (fun c => decide (128 ≤ c))) (by simp [h.1])
  rw [List.map_map, show (not ∘ fun c => decide (128 ≤ c)) = (fun c : Nat => decide (c < 128)) by funext c; simp only [Function.comp]; rw [Bool.eq_iff_iff]; simp] at e0
  have e1 : bits .xor .u8 (if IntKind.u8.signed = true then (-1 : Int) else IntKind.u8.max) (mask (l.map (fun c => decide (128 ≤ c))) : Int) = (mask (l.map (fun c => decide (c < 128))) : Int) := by rw [not_u8, bits_xor8 _ _ (by omega) hm, e0]
  have hq := High_ok h W
  generalize mask (l.map (fun c => decide (128 ≤ c))) = m at *
  generalize mask (l.map (fun c => decide (c < 128))) = z at *
  go_enter Tryz.func153, Tryz.ntmps153
  go_wp2_with (go_at_call 169; go_must (refine Calls.mono hq ?_); rintro e w' ⟨rfl, rfl⟩)
  go_ret
  exact ⟨rfl, rfl⟩
theorem Valid_ok {l : List Nat} (h : Group l) (W : World) : Calls Tryz.prog 168 #[.int .u64 (word8 l)] W fun e w' => e = .returned (.bool true) ∧ W = w' := by
  have h1 := Free_ok h W
  have h2 := Full_ok h.bytes W
  have e1 := bits_or8 (mask (l.map (fun c => decide (128 ≤ c)))) (mask (l.map (fun c => decide (c < 128)))) (mask_lt (by simp [h.1])) (mask_lt (by simp [h.1]))
  rw [mask_or] at e1
  have e2 : mask (l.map (fun c => decide (128 ≤ c) || decide (c < 128))) = 255 := by
    have := mask_full (p := l.map (fun c => decide (128 ≤ c) || decide (c < 128))) (by simp [h.1])
    rw [show (l.map (fun c => decide (128 ≤ c) || decide (c < 128))).all id = true by simp [List.all_map]; intro c _; omega] at this
    exact of_decide_eq_true this
  rw [e2] at e1
  generalize mask (l.map (fun c => decide (128 ≤ c))) = m at *
  generalize mask (l.map (fun c => decide (c < 128))) = z at *
  go_enter Tryz.func168, Tryz.ntmps168
  go_wp2_with (first | (go_at_call 144; go_must (refine Calls.mono h1 ?_); rintro e w' ⟨rfl, rfl⟩) | (go_at_call 153; go_must (refine Calls.mono h2 ?_); rintro e w' ⟨rfl, rfl⟩))
  go_ret
  exact ⟨rfl, rfl⟩
theorem CCheck_ok {l : List Nat} (h : Group l) (j : Nat) (W : World) (hj : j < 8) : Calls Tryz.prog 152 #[.int .u64 (word8 l), .int .i64 j] W fun e w' => e = .returned (.int .i64 0) ∧ W = w' := by
  have hq := Valid_ok h W
  have h0 : (0 : Int) ≤ j := by omega
  have h1 : (j : Int) < 8 := by omega
  have h2 : ¬ ((8 : Int) ≤ j) := by omega
  generalize word8 l = w at *
  go_enter Tryz.func152, Tryz.ntmps152
  go_wp2_with (go_at_call 168; go_must (refine Calls.mono hq ?_); rintro e w' ⟨rfl, rfl⟩)
  go_ret
  exact ⟨rfl, rfl⟩
theorem Set_ok {l : List Nat} (h : Group l) (j b : Nat) (W : World) (hj : j < 8) (hb : b < 128) : Calls Tryz.prog 145 #[.int .u64 (word8 l), .int .i64 j, .int .u8 b] W fun e w' => e = .returned (.tuple #[.int .u64 (word8 (l.set j b)), .int .i64 0]) ∧ w' = W.drew := by
  have hq := CCheck_ok h j W hj
  have hw := With_ok h.bytes j b W hj (by omega)
  have h1 : ¬ ((127 : Int) < b) := by omega
  generalize word8 (l.set j b) = z at *
  generalize word8 l = w at *
  go_enter Tryz.func145, Tryz.ntmps145
  go_wp2_with (first | (go_at_call 152; go_must (refine Calls.mono hq ?_); rintro e w' ⟨rfl, rfl⟩) | (go_at_call 154; go_must (refine Calls.mono hw ?_); rintro e w' ⟨rfl, rfl⟩))
  go_ret2
  exact ⟨rfl, rfl⟩
/-- What Erase puts into a lane. -/
def erased (l : List Nat) : Nat := if l.any (· == 128) then 128 else 254
theorem Erase_ok {l : List Nat} (h : Group l) (j c : Nat) (W : World) (hj : l[j]? = some c) (hc : c < 128) : Calls Tryz.prog 114 #[.int .u64 (word8 l), .int .i64 j] W fun e w' => e = .returned (.tuple #[.int .u64 (word8 (l.set j (erased l))), .int .i64 0]) ∧ w' = W.drew := by
  have hj8 : j < 8 := by have := (List.getElem?_eq_some_iff.1 hj).1; have := h.1; omega
  have hq := CCheck_ok h j W hj8
  have hw := With_ok h.bytes j (erased l) W hj8 (by unfold erased; split <;> omega)
  have he := Empties_ok h.bytes W
  have hf := Full_ok h.bytes W
  have hz := mask_zero (p := l.map (· == 128)) (by simp [h.1])
  have hlt := mask_lt (p := l.map (fun c => decide (c < 128))) (by simp [h.1])
  have hb := mask_bit (p := l.map (fun c => decide (c < 128))) (by simp [h.1]) j hj8
  rw [show (l.map (fun c => decide (c < 128))).getD j false = true by simp [List.getD_eq_getElem?_getD, hj, hc]] at hb
  have hd : mask (l.map (fun c => decide (c < 128))) / 2 ^ j < 256 := Nat.lt_of_le_of_lt (Nat.div_le_self _ _) hlt
  have e1 : bits .and .u8 ((mask (l.map (fun c => decide (c < 128))) : Int) / 2 ^ j) 1 = 1 := by
    have := bits_and8 _ 1 hd (by omega)
    rw [hb] at this
    simpa using this
  have k0 : (0 : Int) ≤ j := by omega
  have k1 : (j : Int) ≤ 8 := by omega
  generalize mask (l.map (fun c => decide (c < 128))) = f at *
  rw [show (l.map (· == 128)).any id = l.any (· == 128) by simp [List.any_map]] at hz
  generalize word8 (l.set j (erased l)) = z at *
  generalize word8 l = w at *
  unfold erased at hw
  cases ha : l.any (· == 128) with
  | true =>
    rw [ha] at hz hw
    have hz : mask (l.map (· == 128)) ≠ 0 := by simpa using hz
    generalize mask (l.map (· == 128)) = m at *
    have hz2 : ((m : Int) == 0) = false := by simp [hz]
    go_enter Tryz.func114, Tryz.ntmps114
    go_wp2_with (first | (go_at_call 152; go_must (refine Calls.mono hq ?_); rintro e w' ⟨rfl, rfl⟩) | (go_at_call 115; go_must (refine Calls.mono he ?_); rintro e w' ⟨rfl, rfl⟩) | (go_at_call 153; go_must (refine Calls.mono hf ?_); rintro e w' ⟨rfl, rfl⟩) | (go_at_call 154; go_must (refine Calls.mono hw ?_); rintro e w' ⟨rfl, rfl⟩))
    go_ret2
    exact ⟨rfl, rfl⟩
  | false =>
    rw [ha] at hz hw
    have hz : mask (l.map (· == 128)) = 0 := by simpa using hz
    rw [hz] at he
    go_enter Tryz.func114, Tryz.ntmps114
    go_wp2_with (first | (go_at_call 152; go_must (refine Calls.mono hq ?_); rintro e w' ⟨rfl, rfl⟩) | (go_at_call 115; go_must (refine Calls.mono he ?_); rintro e w' ⟨rfl, rfl⟩) | (go_at_call 153; go_must (refine Calls.mono hf ?_); rintro e w' ⟨rfl, rfl⟩) | (go_at_call 154; go_must (refine Calls.mono hw ?_); rintro e w' ⟨rfl, rfl⟩))
    go_ret2
    exact ⟨rfl, rfl⟩
end Go.Proofs.YtapplindfijngaaGreat

/- wp_range (XRange) with the round in one piece: no relation between the assignments and the body is asked. -/
namespace Go.Proofs.YtapplindfijngaaGreat
open Go.RowKit Go.Shelf
variable {P : Program}

theorem Quiet.trans {N : Nat} {A B C : World} (h : Quiet N A B) (k : Quiet N B C) : Quiet N A C := by
  refine Mod.trans' h k (fun _ _ h => h) (fun i hi hs => ?_)
  obtain ⟨hN, o, ho, hc⟩ := hs
  refine ⟨hN, ?_⟩
  have hA : A.heap[i]? = some (A.heap[i]'hi) := Array.getElem?_eq_getElem hi
  cases hx : (A.heap[i]'hi).isCells with
  | false => exact ⟨_, hA, hx⟩
  | true =>
    have := Mod.heap h (k := i) (o := A.heap[i]'hi) (fun hs => by
      obtain ⟨_, o', ho', hc'⟩ := hs
      rw [hA] at ho'; cases ho'; rw [hx] at hc'; cases hc') hA
    rw [this] at ho; cases ho; rw [hx] at hc; cases hc
theorem Quiet.refl (N : Nat) (A : World) : Quiet N A A := Quiet.of_pure (Mod.refl _ A)

theorem wp_range2 {α : Type} {g : Operand} {ps : Array Tmp} {assign body : Code} {Q : Exit → Act → World → Prop} {a : Act} {w : World}
    {gf : Nat} {lb : Array Value} (hg : a.eval g = .func (.func gf) #[] lb) (eg : ∀ args w, (callFunc gf args).run P w = .ok (.enter gf args) w)
    {encs : α → Array Value} {It : Nat → Prop} {G : List α → α → World → Prop} {S : List α → Prop} (hit : IterOk P gf lb encs It G S w) (hItlt : ∀ k, It k → k < w.heap.size)
    (hps : ∀ x, (encs x).size = ps.size)
    (I : List α → World → Prop) (Ix : Code → List α → World → Prop) (hI : ∀ pre A B, I pre A → Quiet w.heap.size A B → I pre B) (hIx : ∀ c pre A B, Ix c pre A → Quiet w.heap.size A B → Ix c pre B) (h0 : I [] w)
    (hround : ∀ (l : Nat) (pre : List α) (x : α) (W : World) (K : Act → World → Prop), I pre W → G pre x W →
      (∀ a' W', Pure W W' → (∀ (l' : Nat) (W2 : World), w.heap.size ≤ l' → (∃ r, W2.heap[l']? = some (.loop r)) → Quiet w.heap.size W' W2 → body.wpIn (Fence.wide.inRound l') 0 P (roundEnd w.heap.size It I Ix (pre ++ [x]) W2) a' W2) → K a' W') →
      assign.wpIn (Fence.wide.inRound l) 0 P (Exit.then K (fun _ _ _ => False)) { tmps := (ps.zip (encs x)).foldl (fun t (p, v) => t.setIfInBounds p v) a.tmps, defers := [] } W)
    (hdone : ∀ (D : Nat) (xs : List α) (W : World), w.heap.size ≤ D → S xs → I xs W → W.heap[D]? = some (.deferred (some [])) → Q .normal { a with defers := { target := .collected D, args := #[] } :: a.defers } W)
    (hstop : ∀ (D : Nat) (c : Code) (pre : List α) (W : World), w.heap.size ≤ D → Ix c pre W → W.heap[D]? = some (.deferred (some [])) → c.wpIn Fence.wide 0 P Q { a with defers := { target := .collected D, args := #[] } :: a.defers } W) :
    (Code.rangeFunc g ps assign body).wpIn Fence.wide 0 P Q a w :=
  wp_range hg eg hit hItlt hps I Ix hI hIx h0
    (fun pre x a' W' => ∀ (l' : Nat) (W2 : World), w.heap.size ≤ l' → (∃ r, W2.heap[l']? = some (.loop r)) → Quiet w.heap.size W' W2 → body.wpIn (Fence.wide.inRound l') 0 P (roundEnd w.heap.size It I Ix (pre ++ [x]) W2) a' W2)
    (fun _ _ _ _ _ h hq l' W2 hl hr hq2 => h l' W2 hl hr (hq.trans hq2)) hround (fun l _ _ _ W hl hr h => h l W hl hr (Quiet.refl _ _)) hdone hstop
end Go.Proofs.YtapplindfijngaaGreat

/- probe: valid numbers of groups, the sequence, its iterator; hash.Part and Tag. -/
namespace Go.Proofs.YtapplindfijngaaGreat
open Go.RowKit Go.Shelf
set_option maxRecDepth 100000
attribute [local go_sem] Oper.semAt_some

/-- An allowed number of groups. -/
def Pow (g : Nat) : Prop := ∃ k ≤ 20, g = 2 ^ k
theorem Pow.pos {g : Nat} (h : Pow g) : 0 < g := by obtain ⟨k, _, rfl⟩ := h; exact Nat.pow_pos (by decide)
theorem Pow.le {g : Nat} (h : Pow g) : g ≤ 1048576 := by obtain ⟨k, hk, rfl⟩ := h; exact Nat.pow_le_pow_right (n := 2) (by decide) hk
/-- The group that comes at an index of a probe sequence. -/
def atM (part g i : Nat) : Nat := (part + i * (i + 1) / 2) % g
def probes (part g : Nat) : List Nat := (List.range g).map (atM part g)

theorem Part_ok (s : Nat) (W : World) (hs : s < 18446744073709551616) : Calls Tryz.prog 142 #[.int .u64 s] W fun e w' => e = .returned (.int .u64 (s / 128 : Nat)) ∧ W = w' := by
  have h0 : (0 : Int) ≤ s := by omega
  have h1 : (s : Int) ≤ 18446744073709551615 := by omega
  go_enter Tryz.func142, Tryz.ntmps142
  go_wp2
  go_ret
  exact ⟨by simp, rfl⟩
theorem and_127 (s : Nat) : s &&& 127 = s % 128 := Nat.and_two_pow_sub_one_eq_mod s 7
theorem Tag_ok (s : Nat) (W : World) (hs : s < 18446744073709551616) : Calls Tryz.prog 146 #[.int .u64 s] W fun e w' => e = .returned (.int .u8 (s % 128 : Nat)) ∧ W = w' := by
  have h0 : (0 : Int) ≤ s := by omega
  have h1 : (s : Int) ≤ 18446744073709551615 := by omega
  have e1 : bits .and .u64 (s : Int) 127 = _ := bits_and64 s 127 hs (by omega)
  rw [and_127] at e1
  have e2 : ((s % 128 : Nat) : Int) % 256 = ((s % 128 : Nat) : Int) := by omega
  generalize s % 128 = t at *
  go_enter Tryz.func146, Tryz.ntmps146
  go_wp2
  go_ret
  exact ⟨by simp [e1, e2], rfl⟩

theorem bits_and63 (a b : Nat) (ha : a < 9223372036854775808) (hb : b < 9223372036854775808) : bits .and .i64 (a : Int) (b : Int) = ((a &&& b : Nat) : Int) := by
  have h : a &&& b < 2 ^ 63 := Nat.and_lt_two_pow _ hb
  show IntKind.i64.wrap (((BitVec.ofInt 64 (a : Int) &&& BitVec.ofInt 64 (b : Int)).toNat : Nat) : Int) = _
  rw [ofInt_nat, ofInt_nat]
  rw [BitVec.toNat_and, BitVec.toNat_ofNat, BitVec.toNat_ofNat, Nat.mod_eq_of_lt (by omega), Nat.mod_eq_of_lt (by omega)]
  generalize a &&& b = c at *
  simp [IntKind.wrap, IntKind.signed, IntKind.bits]
  omega
theorem pow_and : ∀ k ≤ 20, 2 ^ k &&& (2 ^ k - 1) = 0 := by decide +kernel
theorem PValid_ok (g : Nat) (W : World) (hg : Pow g) : Calls Tryz.prog 102 #[.int .i64 g] W fun e w' => e = .returned (.bool true) ∧ W = w' := by
  have h0 : (0 : Int) < g := by have := hg.pos; omega
  have h1 : (g : Int) ≤ 1048576 := by have := hg.le; omega
  have e1 : bits .and .i64 (g : Int) ((g : Int) - 1) = 0 := by
    have := bits_and63 g (g - 1) (by omega) (by omega)
    rw [show ((g - 1 : Nat) : Int) = (g : Int) - 1 by omega] at this
    rw [this]
    obtain ⟨k, hk, rfl⟩ := hg
    rw [pow_and k hk]
    rfl
  go_enter Tryz.func102, Tryz.ntmps102
  go_wp2
  all_goals go_ret
  all_goals exact ⟨rfl, rfl⟩
theorem at_walk (part g i p d q z : Nat) (W : World) (hi : i < 1048576) (hg0 : 1 ≤ g) (hg : g ≤ 1048576) (e1 : wrap64 ((i : Int) * ((i : Int) + 1)) = (p : Int)) (e2 : (p : Int).tdiv 2 = (d : Int)) (e3 : wrap64 (d : Int) = d) (e4 : IntKind.u64.wrap (d : Int) = d)
    (e5 : IntKind.u64.wrap ((part : Int) + d) = (q : Int)) (e6 : bits .and .u64 (q : Int) ((g : Int) - 1) = (z : Int)) (e7 : wrap64 (z : Int) = z) :
    Calls Tryz.prog 164 #[.int .u64 part, .int .i64 g, .int .i64 i] W fun e w' => e = .returned (.int .i64 z) ∧ W = w' := by
  have h1 : (1 : Int) ≤ g := by omega
  have h2 : (g : Int) ≤ 1048576 := by omega
  have h3 : (i : Int) < 1048576 := by omega
  go_enter Tryz.func164, Tryz.ntmps164
  go_wp2
  go_ret
  refine ⟨?_, rfl⟩
  show Ending.returned (.int .i64 (wrap64 (z : Int))) = _
  rw [e7]
theorem at_prod (i : Nat) (hi : i < 1048576) : i * (i + 1) < 1099512676352 := by
  have : i * (i + 1) ≤ 1048575 * 1048576 := Nat.mul_le_mul (by omega) (by omega)
  omega
theorem atM_and (part g i : Nat) (hg : Pow g) : (part + i * (i + 1) / 2) &&& (g - 1) = atM part g i := by
  unfold atM
  obtain ⟨k, hk, rfl⟩ := hg
  rw [Nat.and_two_pow_sub_one_eq_mod]
theorem at_ok (part g i : Nat) (W : World) (hg : Pow g) (hp : part < 144115188075855872) (hi : i < g) : Calls Tryz.prog 164 #[.int .u64 part, .int .i64 g, .int .i64 i] W fun e w' => e = .returned (.int .i64 (atM part g i)) ∧ W = w' := by
  have hg1 := hg.pos
  have hg2 := hg.le
  have hm := at_prod i (by omega)
  have hd : i * (i + 1) / 2 < 1099512676352 := by omega
  have hlt : atM part g i < g := Nat.mod_lt _ hg1
  refine at_walk part g i (i * (i + 1)) (i * (i + 1) / 2) (part + i * (i + 1) / 2) (atM part g i) W (by omega) hg1 hg2 ?_ ?_ (w64_nat _ (by omega)) (u64_wrap _ (by omega)) ?_ ?_ (w64_nat _ (by omega))
  · have := w64_nat (i * (i + 1)) (by omega)
    rwa [Int.natCast_mul, Int.natCast_add] at this
  · rw [Int.tdiv_eq_ediv_of_nonneg (Int.natCast_nonneg _)]; exact (Int.natCast_ediv _ 2).symm
  · have := u64_wrap (part + i * (i + 1) / 2) (by omega)
    rwa [Int.natCast_add] at this
  · have e6 := bits_and64 (part + i * (i + 1) / 2) (g - 1) (by omega) (by omega)
    rwa [show ((g - 1 : Nat) : Int) = (g : Int) - 1 by omega, atM_and part g i hg] at e6
theorem check_ok (g i : Nat) (W : World) (hg : Pow g) (hi : i < g) : Calls Tryz.prog 162 #[.int .i64 g, .int .i64 i] W fun e w' => e = .returned (.int .i64 0) ∧ W = w' := by
  have hq := PValid_ok g W hg
  have h0 : (0 : Int) ≤ i := by omega
  have h1 : (i : Int) < g := by omega
  have h2 : ¬ ((g : Int) ≤ i) := by omega
  go_enter Tryz.func162, Tryz.ntmps162
  go_wp2_with (go_at_call 102; go_must (refine Calls.mono hq ?_); rintro e w' ⟨rfl, rfl⟩)
  go_ret
  exact ⟨rfl, rfl⟩

/-! ### iterators over numbers -/
abbrev encN (i : Nat) : Array Value := #[.int .i64 i]
/-- What is promised of an element: it is the next one. -/
def nextOf (xs : List Nat) (pre : List Nat) (x : Nat) (_ : World) : Prop := ∃ post, xs = pre ++ x :: post

structure ProbeAt (w : World) (B1 B2 B3 part g : Nat) : Prop where
  many : w.heap[B1]? = some (.cells #[.int .i64 g] 3 (0, 0))
  part : w.heap[B2]? = some (.cells #[.int .u64 part] 22 (0, 0))
  grps : w.heap[B3]? = some (.cells #[.int .i64 g] 3 (0, 0))
def probeBlocks (B1 B2 B3 k : Nat) : Prop := k = B1 ∨ k = B2 ∨ k = B3
theorem ProbeAt.keeps {w w' : World} {B1 B2 B3 part g : Nat} (h : ProbeAt w B1 B2 B3 part g) (hk : KeepsIt (probeBlocks B1 B2 B3) w w') : ProbeAt w' B1 B2 B3 part g :=
  ⟨(hk.2 B1 (.inl rfl) (lt_of_block h.many)).trans h.many, (hk.2 B2 (.inr (.inl rfl)) (lt_of_block h.part)).trans h.part, (hk.2 B3 (.inr (.inr rfl)) (lt_of_block h.grps)).trans h.grps⟩

theorem drop_cons2 {α : Type} {L : List α} {n : Nat} {a : α} (h : L[n]? = some a) : L.drop n = a :: L.drop (n + 1) := by
  obtain ⟨hlt, rfl⟩ := List.getElem?_eq_some_iff.1 h
  exact List.drop_eq_getElem_cons hlt
theorem take_next {α : Type} {L : List α} {n : Nat} {a : α} (h : L[n]? = some a) : L.take (n + 1) = L.take n ++ [a] := by
  obtain ⟨hlt, rfl⟩ := List.getElem?_eq_some_iff.1 h
  rw [List.take_succ_eq_append_getElem hlt]
def probeInv (J : List Nat → World → Prop) (B1 B2 B3 part g : Nat) (k : Value) (wr : World) : Prop :=
  ∃ n, n ≤ g ∧ k = .int .i64 n ∧ J ((probes part g).take n) wr ∧ ProbeAt wr B1 B2 B3 part g
theorem probes_length (part g : Nat) : (probes part g).length = g := by simp [probes]
theorem probes_at (part g i : Nat) (h : i < g) : (probes part g)[i]? = some (atM part g i) := by simp [probes, h]
set_option maxHeartbeats 1000000 in
theorem Probe_iter {w : World} {B1 B2 B3 part g : Nat} (h : ProbeAt w B1 B2 B3 part g) (hg : Pow g) (hp : part < 144115188075855872) :
    IterOk Tryz.prog 163 #[.pointer (some ⟨B1, 0, none⟩), .pointer (some ⟨B2, 0, none⟩), .pointer (some ⟨B3, 0, none⟩)] encN (probeBlocks B1 B2 B3) (nextOf (probes part g)) (fun xs => xs = probes part g) w := by
  intro l J Jx W hW hJ hJx hY h0
  have hA := h.keeps (KeepsIt.of_pure hW)
  have hB := cell_of_row W B1 0 _ _ _ hA.many
  simp at hB
  have HA := Lib.hid hA
  have HY := Lib.hid hY
  have HJ := Lib.hid hJ
  have hgl := hg.le
  have HG := Lib.hid hg
  clear hA hY hJ hJx h hW hg
  refine callsIn_of_wp Tryz.func163 rfl trivial ?_ rfl
  simp only [Tryz.ntmps163, List.size_toArray, List.length_cons, List.length_nil, Nat.reduceAdd, Nat.reduceSub, Array.replicate_succ, Array.replicate_zero, List.push_toArray, List.append_toArray, List.nil_append, List.cons_append]
  gi_wp2
  gi_loopw [5, 7] (fun i k wr => probeInv J B1 B2 B3 part g k wr)
    (fun _ k _ => g - (intOf k).toNat)
  case atStart => exact ⟨0, Nat.zero_le _, rfl, h0, HA.out⟩
  case round =>
    obtain ⟨n, hn, rfl, hJs, hI⟩ := hrel
    by_cases hlt : n < g
    · have hn0 : (0 : Int) ≤ (n : Int) := by omega
      have hn1 : (n : Int) < (g : Int) := by omega
      have hn2 : n ≤ 1048576 := by omega
      have c2 := cell_of_row wr B2 0 _ _ _ hI.part
      have c3 := cell_of_row wr B3 0 _ _ _ hI.grps
      simp at c2 c3
      have he := probes_at part g n hlt
      have hdr := drop_cons2 he
      have htk : (probes part g).take (n + 1) = (probes part g).take n ++ [atM part g n] := take_next he
      obtain ⟨fn, tmps, assign, body, hy, hR⟩ := HY.out ((probes part g).take n) (atM part g n) wr hJs ⟨(probes part g).drop (n + 1), by rw [← hdr, List.take_append_drop]⟩
      dsimp only [encN] at hy
      have hRR := Lib.hid hR
      have HI := Lib.hid hI
      have HAT := Lib.hid (at_ok part g n wr HG.out hp hlt)
      have HT := Lib.hid htk
      clear hR hI hJs he hdr htk
      gi_wp2_with (gi_at_call 164; refine (callsIn_wide.2 HAT.out).mono ?_; rintro e w1 ⟨rfl, rfl⟩)
      refine hRR.out.mono ?_
      rintro e W' (⟨rfl, hJ', hk⟩ | ⟨rfl, hJx'⟩)
      · have HJ' := Lib.hid hJ'
        have HK := Lib.hid hk
        clear hJ' hk
        gi_wp2
        go_roundw
        case rel =>
          unfold probeInv
          exact ⟨n + 1, by omega, by go_num, by rw [HT.out]; exact HJ'.out, HI.out.keeps HK.out⟩
        case measure => simp [intOf]; omega
      · gi_wp2
        refine bodyPost_ret (results_none rfl _ _ _) rfl ?_
        exact ⟨⟨_, rfl⟩, .inr ⟨_, hJx'⟩⟩
    · have hend : n = g := by omega
      have hge : (g : Int) ≤ (n : Int) := by omega
      have HJS := Lib.hid hJs
      have HE := Lib.hid hend
      clear hJs hI hend
      gi_wp2
      go_end0
      refine ⟨⟨_, rfl⟩, .inl ⟨probes part g, rfl, ?_⟩⟩
      have := HJS.out
      rwa [HE.out, List.take_of_length_le (by rw [probes_length]; exact Nat.le_refl _)] at this
end Go.Proofs.YtapplindfijngaaGreat

/- hash.fold, Mix, Sum. -/
namespace Go.Proofs.YtapplindfijngaaGreat
open Go.RowKit Go.Shelf
set_option maxRecDepth 100000

/-- One byte more. -/
def foldS (h : Nat) (b : UInt8) : Nat := (h ^^^ b.toNat) * 1099511628211 % 18446744073709551616
def foldM (h : Nat) (l : List UInt8) : Nat := l.foldl foldS h
theorem foldl_step {α β : Type} (f : β → α → β) (h : β) (l : List α) {i : Nat} {b : α} (hb : l[i]? = some b) : (l.take (i + 1)).foldl f h = f ((l.take i).foldl f h) b := by
  rw [List.take_add_one, hb, List.foldl_append]
  rfl
theorem foldM_step (h : Nat) (l : List UInt8) {i : Nat} {b : UInt8} (hb : l[i]? = some b) : foldM h (l.take (i + 1)) = foldS (foldM h (l.take i)) b := by
  unfold foldM
  exact foldl_step foldS h l hb
theorem foldS_lt (h : Nat) (b : UInt8) : foldS h b < 18446744073709551616 := Nat.mod_lt _ (by decide)
theorem foldM_lt {h : Nat} (hh : h < 18446744073709551616) : ∀ l : List UInt8, foldM h l < 18446744073709551616
  | [] => hh
  | b :: l => foldM_lt (foldS_lt h b) l
def mix5 (w : Nat) : Nat := 5 * (w ^^^ (w / 536870912)) % 18446744073709551616
def mixM (w : Nat) : Nat := mix5 w ^^^ (mix5 w / 4294967296)
theorem mix5_lt (w : Nat) : mix5 w < 18446744073709551616 := Nat.mod_lt _ (by decide)
def sumS (seed : Nat) (same : Bool) (key : ByteArray) : Nat := mixM (foldM seed (if same then [] else key.data.toList))
set_option maxHeartbeats 1000000 in
theorem fold_ok (h : Nat) (hh : h < 18446744073709551616) (key : ByteArray) (hk : key.size ≤ 140737488355328) (w : World) : Calls Tryz.prog 136 #[.int .u64 h, .string key] w fun e w' => e = .returned (.int .u64 (foldM h key.data.toList : Nat)) ∧ w = w' := by
  obtain ⟨n, hn⟩ : ∃ n, key.size = n := ⟨_, rfl⟩
  have HN := Lib.hid hn
  have hn2 : n ≤ 140737488355328 := by omega
  obtain ⟨res, hres⟩ : ∃ res, foldM h key.data.toList = res := ⟨_, rfl⟩
  rw [hres]
  clear hk
  have wn : IntKind.i64.wrap (n : Int) = n := IntWalk.i64_in _ (by omega)
  go_enter Tryz.func136, Tryz.ntmps136
  go_upto_region 2 with fail
  go_loopw [0, 8] (fun v0 v8 wr => ∃ i, v0 = .int .u64 (foldM h (key.data.toList.take i) : Nat) ∧ v8 = .int .i64 (i : Nat) ∧ i ≤ n ∧ wr = w) (fun _ v8 _ => n - (intOf v8).toNat)
  case atStart => exact ⟨0, by rw [List.take_zero, foldM, List.foldl_nil], rfl, Nat.zero_le _, rfl⟩
  case round =>
    obtain ⟨i, rfl, rfl, hi, rfl⟩ := hrel
    have hlen : key.data.toList.length = n := by rw [← hn]; rfl
    by_cases hlt : i < n
    · have hlt' : (i : Int) < (n : Int) := by omega
      obtain ⟨b, hb⟩ : ∃ b, key.data.toList[i]? = some b := ⟨_, List.getElem?_eq_getElem (by omega)⟩
      have htk := foldM_step h key.data.toList hb
      have hq := foldM_lt hh (key.data.toList.take i)
      have hq2 := foldS_lt (foldM h (key.data.toList.take i)) b
      have HTK := Lib.hid htk
      clear htk
      generalize foldM h (key.data.toList.take i) = q at *
      have wi : IntKind.i64.wrap ((i : Int) + 1) = (i : Int) + 1 := IntWalk.i64_in _ (by omega)
      have hki : i < key.size := by omega
      have hkb : (key[i]'hki).toNat = b.toNat := by
        have := List.getElem?_eq_some_iff.1 hb
        obtain ⟨h1, h2⟩ := this
        rw [← h2]
        exact congrArg UInt8.toNat rfl
      have hb256 : b.toNat < 256 := UInt8.toNat_lt b
      have e1 : IntKind.u64.wrap (b.toNat : Int) = (b.toNat : Int) := u64_wrap _ (by omega)
      have e2 : bits .xor .u64 (q : Int) (b.toNat : Int) = ((q ^^^ b.toNat : Nat) : Int) := bits_xor64 _ _ hq (by omega)
      have e3 : IntKind.u64.wrap (((q ^^^ b.toNat : Nat) : Int) * 1099511628211) = ((foldS q b : Nat) : Int) := by
        unfold foldS
        rw [← u64_mod]
        simp
      generalize foldS q b = r at *
      generalize q ^^^ b.toNat = xx at *
      clear hb
      generalize b.toNat = kb at *
      clear hh hq hq2
      go_upto_region 5 with fail
      go_wp2
      go_roundw
      case rel => exact ⟨i + 1, by rw [HTK.out], by go_num, hlt, trivial⟩
      case measure => simp [intOf]; omega
    · have hlt' : (n : Int) ≤ (i : Int) := by omega
      have htk : key.data.toList.take i = key.data.toList := List.take_of_length_le (by omega)
      rw [htk, hres]
      go_wp2
      go_ret
      exact ⟨rfl, rfl⟩
theorem Mix_ok (n : Nat) (hn : n < 18446744073709551616) (w : World) : Calls Tryz.prog 135 #[.int .u64 n] w fun e w' => e = .returned (.int .u64 (mixM n : Nat)) ∧ w = w' := by
  have h29 : n / 536870912 < 18446744073709551616 := Nat.lt_of_le_of_lt (Nat.div_le_self _ _) hn
  have e1 : bits .xor .u64 (n : Int) ((n : Int) / 536870912) = ((n ^^^ (n / 536870912) : Nat) : Int) := bits_xor64 _ _ hn h29
  have e2 : IntKind.u64.wrap (5 * ((n ^^^ (n / 536870912) : Nat) : Int)) = ((mix5 n : Nat) : Int) := by
    unfold mix5
    rw [← u64_mod]
    simp
  have h5 := mix5_lt n
  have h32 : mix5 n / 4294967296 < 18446744073709551616 := Nat.lt_of_le_of_lt (Nat.div_le_self _ _) h5
  have e3 : bits .xor .u64 ((mix5 n : Nat) : Int) (((mix5 n : Nat) : Int) / 4294967296) = ((mixM n : Nat) : Int) := bits_xor64 _ _ h5 h32
  generalize mixM n = r at *
  generalize mix5 n = q at *
  generalize n ^^^ (n / 536870912) = z at *
  have n0 : (0 : Int) ≤ n := by omega
  have q0 : (0 : Int) ≤ q := by omega
  go_enter Tryz.func135, Tryz.ntmps135
  go_wp2
  go_ret
  exact ⟨by simp [*], rfl⟩
end Go.Proofs.YtapplindfijngaaGreat
