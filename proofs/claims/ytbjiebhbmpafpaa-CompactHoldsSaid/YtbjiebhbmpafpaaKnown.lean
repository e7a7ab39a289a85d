/- law11.known answers true, whatever the world, and makes new blocks alone; and with it CompactDue. -/
import Derived.Test.YtbjiebhbmpafpaaAbs
namespace Go.Proofs.Ytbjiebhbmpafpaa
open Go.RowKit Go.Shelf
set_option maxRecDepth 100000

/-! ### known -/
def kE : Nat → Ent
  | 0 => ⟨⟨#[97]⟩, [], 0, 1⟩
  | 1 => ⟨⟨#[98]⟩, [], 0, 2⟩
  | 2 => ⟨⟨#[99]⟩, [], 0, 3⟩
  | _ => ⟨⟨#[100]⟩, [], 0, 4⟩
theorem kE_ok (i : Nat) : (kE i).Ok := by
  unfold kE
  split <;> exact ⟨by decide, by decide, by decide, by decide⟩
def kL (n : Nat) : List (Option Ent) := (List.range n).map (fun i => some (kE i))
theorem kL_succ (n : Nat) : kL (n + 1) = kL n ++ [some (kE n)] := by simp [kL, List.range_succ]
theorem kL_length (n : Nat) : (kL n).length = n := by simp [kL]
theorem nil_read (w : World) : ReadAt w (.slice none 0 0) 1 (bytesOf []) := ReadAt.nil w 1

def compactB (w : World) (L' : List (Option Ent)) (xs : List Nat) (n : Int) (k : Nat) (e : Ending) (w' : World) : Prop :=
  ∃ q a c D, e = .returned (.tuple #[logPtr q, .agg #[.slice a k c, .int .i64 n], .int .i64 0]) ∧ LogAt w' D q L' ∧ U32Row w' a c xs ∧ Pure w w' ∧ (∀ k, D k → w.heap.size ≤ k) ∧ Fresh w (.slice a k c)
theorem compactB_ok {w : World} {D : Nat → Prop} {p : Nat} {L : List (Option Ent)} (h : LogAt w D p L) (L' : List (Option Ent)) (xs : List Nat) (n : Int) (k : Nat) (h1 : packed L = L') (h2 : olds L = xs) (h3 : (L.length : Int) = n) (h4 : xs.length = k) :
    Calls Try.prog 18 #[logPtr p] w (compactB w L' xs n k) := by
  subst h1 h2 h3 h4
  exact compactA_ok h
def removeB (w : World) (D : Nat → Prop) (p : Nat) (L' : List (Option Ent)) (e : Ending) (w' : World) : Prop := ∃ v, e = .returned v ∧ LogAt w' D p L' ∧ Mod D w w'
theorem removeB_ok {w : World} {D : Nat → Prop} {p : Nat} {L : List (Option Ent)} (h : LogAt w D p L) (i : Int) (k : Nat) (hk : i = (k : Int)) (x : Ent) (hi : L[k]? = some (some x)) (L' : List (Option Ent)) (hL : L.set k none = L') :
    Calls Try.prog 20 #[logPtr p, .int .u32 i] w (removeB w D p L') := by
  subst hk hL
  refine Calls.mono (removeA_ok h k x hi) ?_
  rintro e w' ⟨a, n, c, rfl, _, _, h1, h2⟩
  exact ⟨_, rfl, h1, h2⟩
theorem kL4 : kL 4 = [some (kE 0), some (kE 1), some (kE 2), some (kE 3)] := rfl
theorem packed4 : packed [none, none, some (kE 2), some (kE 3)] = [some (kE 2), some (kE 3)] := rfl
theorem olds4 : olds [none, none, some (kE 2), some (kE 3)] = [2, 3] := rfl
theorem packed2 : packed [none, some (kE 3)] = [some (kE 3)] := rfl
theorem olds2 : olds [none, some (kE 3)] = [1] := rfl
theorem keys4 : keysOf (live [some (kE 2), some (kE 3)]) = ⟨#[99, 100]⟩ := by decide +kernel
theorem ThenZ {w : World} {a a2 : Option Addr} {c c2 : Nat} {xs ys : List Nat} (h : U32Row w a c xs) (h2 : U32Row w a2 c2 ys) (n : Int) (zs : List Nat) (k k2 : Nat) (n2 : Int) (k3 : Nat) (hy : ∀ y ∈ ys, y < xs.length) (hl : ys.length ≤ 4194304) (hx : ∀ x ∈ xs, x ≤ 4294967295) (hx2 : xs.length ≤ 4194304)
    (hz : thenXs xs ys = zs) (hk : xs.length = k) (hk2 : ys.length = k2) (hn2 : (xs.length : Int) = n2) (hk3 : ys.length = k3) :
    Calls Try.prog 22 #[.agg #[.slice a k c, .int .i64 n], .agg #[.slice a2 k2 c2, .int .i64 n2]] w fun e w' =>
      ∃ a' c', e = .returned (.tuple #[.agg #[.slice a' k3 c', .int .i64 n], .int .i64 0]) ∧ U32Row w' a' c' zs ∧ Fresh w (.slice a' k3 c') ∧ Pure w w' := by
  subst hz hk hn2 hk3
  subst hk2
  exact Then_ok h h2 n hy hl hx hx2
/-- Between the calls: a log, its moves in a box, nothing elder turned. -/
structure KS (w : World) (b : Nat) (D : Nat → Prop) (q : Nat) (L : List (Option Ent)) (a : Option Addr) (c : Nat) (xs : List Nat) (k : Nat) (n : Int) (W : World) : Prop where
  log : LogAt W D q L
  row : U32Row W a c xs
  box : W.heap[b]? = some (.cells #[.slice a k c, .int .i64 n] 34 (0, 0))
  pu : Pure w W
  dd : ∀ i, D i → w.heap.size ≤ i
  bb : w.heap.size ≤ b
theorem KS.pure {w : World} {b : Nat} {D : Nat → Prop} {q : Nat} {L : List (Option Ent)} {a : Option Addr} {c : Nat} {xs : List Nat} {k : Nat} {n : Int} {W W' : World} (h : KS w b D q L a c xs k n W) (hq : Pure W W') : KS w b D q L a c xs k n W' :=
  ⟨h.log.pure hq, owns_mod h.row hq (fun _ _ h => h), hq.heap (fun h => h) h.box, h.pu.trans hq, h.dd, h.bb⟩
theorem KS.c0 {w : World} {b : Nat} {D : Nat → Prop} {q : Nat} {L : List (Option Ent)} {a : Option Addr} {c : Nat} {xs : List Nat} {k : Nat} {n : Int} {W : World} (h : KS w b D q L a c xs k n W) : W.cell? ⟨b, 0, none⟩ = some (.slice a k c) := by
  have := cell_of_row W b 0 _ _ _ h.box
  simpa using this
theorem KS.c1 {w : World} {b : Nat} {D : Nat → Prop} {q : Nat} {L : List (Option Ent)} {a : Option Addr} {c : Nat} {xs : List Nat} {k : Nat} {n : Int} {W : World} (h : KS w b D q L a c xs k n W) : W.cell? ⟨b, 1, none⟩ = some (.int .i64 n) := by
  have := cell_of_row W b 1 _ _ _ h.box
  simpa using this
/-- Moves in a box. -/
structure KM (w : World) (b : Nat) (a : Option Addr) (c : Nat) (xs : List Nat) (k : Nat) (n : Int) (W : World) : Prop where
  row : U32Row W a c xs
  box : W.heap[b]? = some (.cells #[.slice a k c, .int .i64 n] 34 (0, 0))
  pu : Pure w W
  bb : w.heap.size ≤ b
theorem KM.pure {w : World} {b : Nat} {a : Option Addr} {c : Nat} {xs : List Nat} {k : Nat} {n : Int} {W W' : World} (h : KM w b a c xs k n W) (hq : Pure W W') : KM w b a c xs k n W' :=
  ⟨owns_mod h.row hq (fun _ _ h => h), hq.heap (fun h => h) h.box, h.pu.trans hq, h.bb⟩
theorem KM.c0 {w : World} {b : Nat} {a : Option Addr} {c : Nat} {xs : List Nat} {k : Nat} {n : Int} {W : World} (h : KM w b a c xs k n W) : W.cell? ⟨b, 0, none⟩ = some (.slice a k c) := by
  have := cell_of_row W b 0 _ _ _ h.box
  simpa using this
theorem KM.c1 {w : World} {b : Nat} {a : Option Addr} {c : Nat} {xs : List Nat} {k : Nat} {n : Int} {W : World} (h : KM w b a c xs k n W) : W.cell? ⟨b, 1, none⟩ = some (.int .i64 n) := by
  have := cell_of_row W b 1 _ _ _ h.box
  simpa using this
theorem KS.toKM {w : World} {b : Nat} {D : Nat → Prop} {q : Nat} {L : List (Option Ent)} {a : Option Addr} {c : Nat} {xs : List Nat} {k : Nat} {n : Int} {W : World} (h : KS w b D q L a c xs k n W) : KM w b a c xs k n W := ⟨h.row, h.box, h.pu, h.bb⟩
theorem KS.removed {w : World} {b : Nat} {D : Nat → Prop} {q : Nat} {L : List (Option Ent)} {a : Option Addr} {c : Nat} {xs : List Nat} {k : Nat} {n : Int} {W W' : World} (h : KS w b D q L a c xs k n W) (hm : Mod D W W') : KM w b a c xs k n W' :=
  ⟨h.log.owns hm h.row (by decide) (by decide), h.log.box hm h.box (by decide) (by decide), h.pu.then hm (fun i hi hk => by have := h.dd i hk; omega), h.bb⟩
theorem rising3 : Rising [3] := ⟨by decide, by decide, by decide⟩
theorem rising23 : Rising [2, 3] := ⟨by decide, by decide, by decide⟩

def KnInv (w : World) (p : Nat) (i : Value) (wr : World) : Prop := ∃ (n : Nat) (D : Nat → Prop), n ≤ 4 ∧ i = .int .i64 n ∧ LogAt wr D p (kL n) ∧ Pure w wr ∧ ∀ k, D k → w.heap.size ≤ k

set_option maxHeartbeats 1000000 in
theorem known_true (w : World) : Calls Try.prog 15 #[] w fun e w' => e = .returned (.bool true) ∧ Pure w w' := by
  go_enter Try.func15, Try.ntmps15
  go_wp2_with (go_at_call 57; refine Calls.mono (newA_ok _) ?_; rintro e w1 ⟨rfl, hl, hp, hz⟩; have HL := Lib.hid hl; have HP := Lib.hid hp; clear hl hp)
  generalize hpp : w.heap.size = p at *
  go_loopw [2] (fun i wr => KnInv w p i wr) (fun i _ => 4 - (intOf i).toNat)
  case atStart => exact ⟨0, _, by omega, rfl, HL.out, HP.out, fun k hk => by omega⟩
  case round =>
    obtain ⟨n, D, hn, rfl, hL, hP, hD⟩ := hrel
    have HLn := Lib.hid hL
    have HPn := Lib.hid hP
    have HDn := Lib.hid hD
    clear hL hP hD HL HP
    by_cases hlt : n < 4
    · have h4 : n = 0 ∨ n = 1 ∨ n = 2 ∨ n = 3 := by omega
      rcases h4 with rfl | rfl | rfl | rfl
      · go_wp2_with (go_at_call 58; refine Calls.mono (appendA_ok HLn.out (by rw [kL_length]; decide) (kE 0) (kE_ok 0) none 0 0 (nil_read _)) ?_; rintro e w2 ⟨rfl, D', hL2, hM2, hG2⟩)
        refine ⟨⟨1, D', by omega, rfl, by rw [kL_succ]; exact hL2, HPn.out.then hM2 (fun k hk h => by have := HDn.out k h; omega), fun k hk => ?_⟩, by simp [intOf]⟩
        rcases hG2 k hk with h | h
        · exact HDn.out k h
        · have := HPn.out.size; omega
      · go_wp2_with (go_at_call 58; refine Calls.mono (appendA_ok HLn.out (by rw [kL_length]; decide) (kE 1) (kE_ok 1) none 0 0 (nil_read _)) ?_; rintro e w2 ⟨rfl, D', hL2, hM2, hG2⟩)
        refine ⟨⟨2, D', by omega, rfl, by rw [kL_succ]; exact hL2, HPn.out.then hM2 (fun k hk h => by have := HDn.out k h; omega), fun k hk => ?_⟩, by simp [intOf]⟩
        rcases hG2 k hk with h | h
        · exact HDn.out k h
        · have := HPn.out.size; omega
      · go_wp2_with (go_at_call 58; refine Calls.mono (appendA_ok HLn.out (by rw [kL_length]; decide) (kE 2) (kE_ok 2) none 0 0 (nil_read _)) ?_; rintro e w2 ⟨rfl, D', hL2, hM2, hG2⟩)
        refine ⟨⟨3, D', by omega, rfl, by rw [kL_succ]; exact hL2, HPn.out.then hM2 (fun k hk h => by have := HDn.out k h; omega), fun k hk => ?_⟩, by simp [intOf]⟩
        rcases hG2 k hk with h | h
        · exact HDn.out k h
        · have := HPn.out.size; omega
      · go_wp2_with (go_at_call 58; refine Calls.mono (appendA_ok HLn.out (by rw [kL_length]; decide) (kE 3) (kE_ok 3) none 0 0 (nil_read _)) ?_; rintro e w2 ⟨rfl, D', hL2, hM2, hG2⟩)
        refine ⟨⟨4, D', by omega, rfl, by rw [kL_succ]; exact hL2, HPn.out.then hM2 (fun k hk h => by have := HDn.out k h; omega), fun k hk => ?_⟩, by simp [intOf]⟩
        rcases hG2 k hk with h | h
        · exact HDn.out k h
        · have := HPn.out.size; omega
    · obtain rfl : n = 4 := by omega
      have HL4n : Hid (LogAt wr D p [some (kE 0), some (kE 1), some (kE 2), some (kE 3)]) := by rw [← kL4]; exact HLn.out
      clear hlt hn HLn
      go_upto_region 13 with (first
        | (go_at_call 20; refine Calls.mono (removeB_ok HL4n.out 1 1 rfl (kE 1) rfl [some (kE 0), none, some (kE 2), some (kE 3)] rfl) ?_; rintro e w2 ⟨v, rfl, hl2, hm2⟩; have HL2 := Lib.hid hl2; have HP2 := Lib.hid (HPn.out.then hm2 (fun k hk h => (by have := HDn.out k h; omega))); clear hl2 hm2 HL4n)
        | (go_at_call 20; refine Calls.mono (removeB_ok HL2.out 0 0 rfl (kE 0) rfl [none, none, some (kE 2), some (kE 3)] rfl) ?_; rintro e w3 ⟨v, rfl, hl3, hm3⟩; have HL3 := Lib.hid hl3; have HP3 := Lib.hid (HP2.out.then hm3 (fun k hk h => (by have := HDn.out k h; omega))); clear hl3 hm3 HL2 HP2)
        | (go_at_call 18; refine Calls.mono (compactB_ok HL3.out [some (kE 2), some (kE 3)] [2, 3] 4 2 packed4 olds4 rfl rfl) ?_; rintro e w4 ⟨q, a, c, D2, rfl, hl4, hr4, hp4, hd4, hf4⟩; have HL4 := Lib.hid hl4; have HR4 := Lib.hid hr4; have HP4 := Lib.hid hp4; have HD4 := Lib.hid hd4; clear hl4 hr4 hp4 hd4 hf4))
      have HW : Hid (KS w w4.heap.size D2 q [some (kE 2), some (kE 3)] a c [2, 3] 2 4 (w4.alloc (.cells #[.slice a 2 c, .int .i64 4] 34))) := by
        have hP : Pure w4 (w4.alloc (.cells #[.slice a 2 c, .int .i64 4] 34)) := (Mod.refl _ w4).alloc _
        exact ⟨HL4.out.pure hP, owns_mod HR4.out hP (fun _ _ h => h), heap_new rfl, (HP3.out.trans HP4.out).trans hP, fun k hk => Nat.le_trans HP3.out.size (HD4.out k hk), Nat.le_trans HP3.out.size HP4.out.size⟩
      generalize w4.alloc (.cells #[.slice a 2 c, .int .i64 4] 34) = W at HW ⊢
      generalize w4.heap.size = b at HW ⊢
      have HS := HW
      clear HW HL4 HR4 HP4 HD4 HP3 HL3 HPn HDn
      have m0 := HS.out.c0
      have m1 := HS.out.c1
      have t1 : Hid True := Lib.hid trivial; have t2 := t1; have t3 := t1; have t4 := t1; have t5 := t1; have t6 := t1; have t7 := t1
      go_upto_region 15 with (first
        | (go_at_call 59; refine Calls.mono (keysA HS.out.log) ?_; rintro e W2 ⟨rfl, hq⟩; replace HS := Lib.hid (HS.out.pure hq); have m0 := HS.out.c0; have m1 := HS.out.c1; clear hq; rw [keys4])
        | (go_at_call 32; have := t1.out; clear this t1; refine Calls.mono (lensZ _ _ 2 4 2 4 true (by decide)) ?_; rintro e W2 ⟨rfl, hq⟩; replace HS := Lib.hid (HS.out.pure hq); have m0 := HS.out.c0; have m1 := HS.out.c1; clear hq)
        | (go_at_call 30; have := t2.out; clear this t2; refine Calls.mono (toZ HS.out.row rising23 2 rfl 4 2 0 0 true (by decide) (by decide)) ?_; rintro e W2 ⟨rfl, hq⟩; replace HS := Lib.hid (HS.out.pure hq); have m0 := HS.out.c0; have m1 := HS.out.c1; clear hq)
        | (go_at_call 30; have := t3.out; clear this t3; refine Calls.mono (toZ HS.out.row rising23 2 rfl 4 3 1 0 true (by decide) (by decide)) ?_; rintro e W2 ⟨rfl, hq⟩; replace HS := Lib.hid (HS.out.pure hq); have m0 := HS.out.c0; have m1 := HS.out.c1; clear hq)
        | (go_at_call 30; have := t4.out; clear this t4; refine Calls.mono (toZ HS.out.row rising23 2 rfl 4 1 0 9 true (by decide) (by decide)) ?_; rintro e W2 ⟨rfl, hq⟩; replace HS := Lib.hid (HS.out.pure hq); have m0 := HS.out.c0; have m1 := HS.out.c1; clear hq)
        | (go_at_call 30; have := t5.out; clear this t5; refine Calls.mono (toZ HS.out.row rising23 2 rfl 4 4 0 9 true (by decide) (by decide)) ?_; rintro e W2 ⟨rfl, hq⟩; replace HS := Lib.hid (HS.out.pure hq); have m0 := HS.out.c0; have m1 := HS.out.c1; clear hq)
        | (go_at_call 31; have := t6.out; clear this t6; refine Calls.mono (fromZ HS.out.row (by decide) 2 rfl 4 0 2 0 true (by decide) (by decide)) ?_; rintro e W2 ⟨rfl, hq⟩; replace HS := Lib.hid (HS.out.pure hq); have m0 := HS.out.c0; have m1 := HS.out.c1; clear hq)
        | (go_at_call 31; have := t7.out; clear this t7; refine Calls.mono (fromZ HS.out.row (by decide) 2 rfl 4 2 0 9 true (by decide) (by decide)) ?_; rintro e W2 ⟨rfl, hq⟩; replace HS := Lib.hid (HS.out.pure hq); have m0 := HS.out.c0; have m1 := HS.out.c1; clear hq))
      have HM := Lib.hid HS.out.toKM
      clear m0 m1
      go_upto_region 17 with (first
        | (go_at_call 20; refine Calls.mono (removeB_ok HS.out.log 0 0 rfl (kE 2) rfl [none, some (kE 3)] rfl) ?_; rintro e w5 ⟨v5, rfl, hl5, hm5⟩; have HL5 := Lib.hid hl5; replace HM := Lib.hid (HS.out.removed hm5); clear hl5 hm5 HS)
        | (go_at_call 18; refine Calls.mono (compactB_ok HL5.out [some (kE 3)] [1] 2 1 packed2 olds2 rfl rfl) ?_; rintro e w6 ⟨q2, a2, c2, D3, rfl, hl6, hr6, hp6, hd6, hf6⟩; have HR6 := Lib.hid hr6; have HP6 := Lib.hid hp6; replace HM := Lib.hid (HM.out.pure hp6); clear hl6 hr6 hp6 hd6 hf6))
      have hP : Pure w6 (w6.alloc (.cells #[.slice a2 1 c2, .int .i64 2] 34)) := (Mod.refl _ w6).alloc _
      have HN : Hid (KM w w6.heap.size a2 c2 [1] 1 2 (w6.alloc (.cells #[.slice a2 1 c2, .int .i64 2] 34))) :=
        ⟨owns_mod HR6.out hP (fun _ _ h => h), heap_new rfl, HM.out.pu.trans hP, HM.out.pu.size⟩
      replace HM := Lib.hid (HM.out.pure hP)
      clear hP HR6
      generalize w6.alloc (.cells #[.slice a2 1 c2, .int .i64 2] 34) = W at HM HN ⊢
      generalize w6.heap.size = b9 at HN ⊢
      have m0 := HM.out.c0; have m1 := HM.out.c1; have n0 := HN.out.c0; have n1 := HN.out.c1
      go_upto_region 18 with
        (go_at_call 22; refine Calls.mono (ThenZ HM.out.row HN.out.row 4 [3] 2 1 2 1 (by decide) (by decide) (by decide) (by decide) rfl rfl rfl rfl rfl) ?_; rintro e w7 ⟨a7, c7, rfl, hr7, hf7, hp7⟩; have HR7 := Lib.hid hr7; replace HM := Lib.hid (HM.out.pure hp7); replace HN := Lib.hid (HN.out.pure hp7); clear hr7 hf7 hp7)
      have hP : Pure w7 (w7.alloc (.cells #[.slice a7 1 c7, .int .i64 4] 34)) := (Mod.refl _ w7).alloc _
      have HB : Hid (KM w w7.heap.size a7 c7 [3] 1 4 (w7.alloc (.cells #[.slice a7 1 c7, .int .i64 4] 34))) :=
        ⟨owns_mod HR7.out hP (fun _ _ h => h), heap_new rfl, HM.out.pu.trans hP, HM.out.pu.size⟩
      replace HM := Lib.hid (HM.out.pure hP)
      replace HN := Lib.hid (HN.out.pure hP)
      clear hP HR7 m0 m1 n0 n1
      generalize w7.alloc (.cells #[.slice a7 1 c7, .int .i64 4] 34) = W at HM HN HB ⊢
      generalize w7.heap.size = b10 at HB ⊢
      have m0 := HM.out.c0; have m1 := HM.out.c1; have n0 := HN.out.c0; have n1 := HN.out.c1
      go_upto_region 19 with
        (go_at_call 22; refine Calls.mono (Then_arg _ _ 1 _ _ 4 (by decide)) ?_; rintro e w8 ⟨rfl, hp8⟩; replace HB := Lib.hid (HB.out.pure hp8); clear hp8)
      have hP : Pure w8 (w8.alloc (.cells #[.slice none 0 0, .int .i64 0] 34)) := (Mod.refl _ w8).alloc _
      replace HB := Lib.hid (HB.out.pure hP)
      clear hP m0 m1 n0 n1 HM HN
      generalize w8.alloc (.cells #[.slice none 0 0, .int .i64 0] 34) = W at HB ⊢
      have m0 := HB.out.c0; have m1 := HB.out.c1
      have t1 : Hid True := Lib.hid trivial; have t2 := t1; have t3 := t1; have t4 := t1; have t5 := t1; have t6 := t1; have t7 := t1; have t8 := t1; have t9 := t1
      go_wp2_with (first
        | (go_at_call 32; have := t1.out; clear this t1; refine Calls.mono (lensZ _ _ 1 4 1 4 true (by decide)) ?_; rintro e W2 ⟨rfl, hq⟩; replace HB := Lib.hid (HB.out.pure hq); have m0 := HB.out.c0; have m1 := HB.out.c1; clear hq)
        | (go_at_call 30; have := t2.out; clear this t2; refine Calls.mono (toZ HB.out.row rising3 1 rfl 4 3 0 0 true (by decide) (by decide)) ?_; rintro e W2 ⟨rfl, hq⟩; replace HB := Lib.hid (HB.out.pure hq); have m0 := HB.out.c0; have m1 := HB.out.c1; clear hq)
        | (go_at_call 30; have := t3.out; clear this t3; refine Calls.mono (toZ HB.out.row rising3 1 rfl 4 2 0 9 true (by decide) (by decide)) ?_; rintro e W2 ⟨rfl, hq⟩; replace HB := Lib.hid (HB.out.pure hq); have m0 := HB.out.c0; have m1 := HB.out.c1; clear hq)
        | (go_at_call 31; have := t4.out; clear this t4; refine Calls.mono (fromZ HB.out.row (by decide) 1 rfl 4 0 3 0 true (by decide) (by decide)) ?_; rintro e W2 ⟨rfl, hq⟩; replace HB := Lib.hid (HB.out.pure hq); have m0 := HB.out.c0; have m1 := HB.out.c1; clear hq)
        | (go_at_call 13; have := t5.out; clear this t5; refine Calls.mono (dueZ _ (16) 0 false (by decide) (by decide)) ?_; rintro e W2 ⟨rfl, rfl⟩)
        | (go_at_call 13; have := t6.out; clear this t6; refine Calls.mono (dueZ _ (17) 0 true (by decide) (by decide)) ?_; rintro e W2 ⟨rfl, rfl⟩)
        | (go_at_call 13; have := t7.out; clear this t7; refine Calls.mono (dueZ _ (18) 1 false (by decide) (by decide)) ?_; rintro e W2 ⟨rfl, rfl⟩)
        | (go_at_call 13; have := t8.out; clear this t8; refine Calls.mono (dueZ _ (19) 1 true (by decide) (by decide)) ?_; rintro e W2 ⟨rfl, rfl⟩)
        | (go_at_call 13; have := t9.out; clear this t9; refine Calls.mono (dueZ _ (-1) 0 false (by decide) (by decide)) ?_; rintro e W2 ⟨rfl, rfl⟩))
      go_ret
      exact ⟨rfl, HB.out.pu⟩

/-! ### CompactDue -/
theorem CompactDue_true (w : World) (a b : Int) (a0 : -9223372036854775808 ≤ a) (a1 : a ≤ 9223372036854775807) (b1 : b ≤ 9223372036854775807) :
    Calls Try.prog 3 #[.int .i64 a, .int .i64 b] w fun e w' => e = .returned (.bool true) ∧ Pure w w' := by
  go_enter Try.func3, Try.ntmps3
  generalize hd : dueM a b = d
  have HD := Lib.hid hd
  clear hd
  cases d <;>
  · go_wp2_with (first
      | (go_at_call 13; refine Calls.mono (Due_any _ a b a0 a1) ?_; rintro e w1 ⟨rfl, rfl⟩; rw [HD.out])
      | (go_at_call 14; refine Calls.mono (ref_Due_any _ a b a0 a1 b1) ?_; rintro e w1 ⟨rfl, rfl⟩; rw [HD.out])
      | (go_at_call 15; refine Calls.mono (known_true _) ?_; rintro e w1 ⟨rfl, hp⟩))
    go_ret
    exact ⟨rfl, hp⟩
end Go.Proofs.Ytbjiebhbmpafpaa
