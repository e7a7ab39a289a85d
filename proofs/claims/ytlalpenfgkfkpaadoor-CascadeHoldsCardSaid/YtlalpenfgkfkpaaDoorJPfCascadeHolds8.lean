/- Lemmas and contracts of functions, strung together out of 9 texts. No condition. -/
import Derived.Test.YtlalpenfgkfkpaaDoorJPfCascadeHolds7
import Derived.Test.YtlalpenfgkfkpaaDoorJPfCascadeHolds6
import Derived.Deep.RegionHeld3
import Derived.Carry
/- cascade: Where of what is there. Conditions: the cascade lies in memory. -/
namespace Go.Proofs.YtlalpenfgkfkpaaDoor
open Go.RowKit
set_option maxRecDepth 100000
section
variable {w w' : World} {D : Nat → Prop} {p now : Nat} {ws : List Nat} {bm bb : Nat} {Ds : Nat → Nat → Prop} {Dm Db : DataW Unit} {M : List Td} {Lss : List (List (List Nat))}
set_option maxHeartbeats 2000000 in
theorem cwhere_ok (h : CasMem w D p now ws bm bb Ds Dm Db M Lss) {x : Td} (hg : getT M x.slot = (x, 0)) (hs : x.slot < 4194304) (hd : x.dl < 18446744073709551616) (hne : x.dl ≠ now) {Ls : List (List Nat)} {L : List Nat}
    (hL : Lss[lvl now x.dl]? = some Ls) (hK : Ls[bkt now x.dl]? = some L) (hf : x.slot ∈ L) :
    Calls Tryd.prog 63 #[lkP p, .int .u32 x.slot] w fun e w' => e = .returned (.tuple #[.int .i64 (lvl now x.dl), .int .i64 (bkt now x.dl), .int .i64 0]) ∧ Pure w w' := by
  have hget := cget_ok h (s := x.slot) (by omega)
  rw [hg] at hget
  have hl8 : lvl now x.dl < 8 := (lvl_spec h.box.now hd).1
  have hbk : bkt now x.dl < 256 := bkt_lt
  obtain ⟨q, hq⟩ : ∃ q, ws[lvl now x.dl]? = some q := ⟨_, List.getElem?_eq_getElem (by rw [h.box.len]; exact hl8)⟩
  have HPl := Lib.hid (fun (W : World) (hW : Pure w W) => cplace_ok (h.pure hW).box hd hne)
  have HBu := Lib.hid (fun (W : World) (hW : Pure w W) => wbucket_ok ((h.lev _ q Ls hq hL).pure hW) hs hK hf)
  have HC := Lib.hid h
  have HGe := Lib.hid hget
  obtain ⟨lv, hlv⟩ : ∃ lv, lvl now x.dl = lv := ⟨_, rfl⟩
  obtain ⟨bk, hbk2⟩ : ∃ bk, bkt now x.dl = bk := ⟨_, rfl⟩
  rw [hlv] at hl8 hq HPl ⊢
  rw [hbk2] at hbk HPl HBu ⊢
  have HQ := Lib.hid hq
  clear h hget hg hL hK hf hq hlv hbk2 hne
  unfold tdV at HGe
  dsimp only at HGe
  go_enter Tryd.func63, Tryd.ntmps63
  go_upto_region 2 with (go_at_call 19; refine Calls.mono HGe.out ?_; rintro e w2 ⟨rfl, hp2⟩)
  have h7 := heap_new (w := w2) (o := .cells #[.int .u32 x.slot, .int .u64 x.dl, .int .u64 x.birth] 31 (0, 0)) rfl
  have hp3 : Pure w (w2.alloc (.cells #[.int .u32 x.slot, .int .u64 x.dl, .int .u64 x.birth] 31)) := hp2.alloc _
  clear hp2 HGe
  generalize w2.alloc (.cells #[.int .u32 x.slot, .int .u64 x.dl, .int .u64 x.birth] 31) = W3 at *
  obtain ⟨b7, hb7⟩ : ∃ b7, w2.heap.size = b7 := ⟨_, rfl⟩
  rw [hb7] at h7 ⊢
  clear hb7
  have H7 := Lib.hid h7
  have HP3 := Lib.hid hp3
  have h7_0 := cell_of_row _ _ 0 _ _ _ h7; have h7_1 := cell_of_row _ _ 1 _ _ _ h7; have h7_2 := cell_of_row _ _ 2 _ _ _ h7; have h7_f := (fun j => frozen_of_row _ _ j _ _ h7); have h7_l := lt_of_block h7; simp at h7_0 h7_1 h7_2; have H_h7 := Lib.hid h7; clear h7
  have HPl3 := Lib.hid (HPl.out W3 hp3)
  go_upto_region 5 with (go_at_call 49; refine Calls.mono HPl3.out ?_; rintro e w4 ⟨rfl, hp4⟩)
  have HP4 := Lib.hid (hp3.trans hp4)
  have HBu4 := Lib.hid (HBu.out w4 (hp3.trans hp4))
  have hcl := ((HC.out.pure HP4.out).box).level HQ.out
  have l0 : (0 : Int) ≤ (lv : Int) := by omega
  have l1 : (lv : Int) < 8 := by omega
  have dl8 : decide (lv < 8) = true := decide_eq_true hl8
  go_wp2_with (go_at_call 84; refine Calls.mono HBu4.out ?_; rintro e w5 ⟨rfl, rfl⟩)
  have hpp := HP4.out
  refine bodyPost_ret (v := .tuple #[.int .i64 lv, .int .i64 bk, .int .i64 0]) (by simp [results, Tryd.results63, go_sem]) rfl ⟨rfl, ?_⟩
  first
    | exact hpp
    | exact hpp.drew
end
end Go.Proofs.YtlalpenfgkfkpaaDoor

/- cascade: its contracts on the list in order: Schedule, Get, Cancel, Reschedule, Where, Now, Len. Conditions: the cascade lies in memory. -/
namespace Go.Proofs.YtlalpenfgkfkpaaDoor
open Go.RowKit
set_option maxRecDepth 100000
section
variable {w w' : World} {D : Nat → Prop} {p now : Nat} {ws : List Nat} {bm bb : Nat} {Ds : Nat → Nat → Prop} {Dm Db : DataW Unit} {M M' L : List Td} {Lss : List (List (List Nat))}
theorem TMap.perm {b : Nat} {A : DataW Unit} (h : TMap w b M A) (hp : M.Perm M') : TMap w b M' A :=
  ⟨by rw [← hp.length_eq]; exact h.own, fun x hx => h.at_ x (hp.mem_iff.2 hx), fun s hs => by obtain ⟨x, hx, e⟩ := h.has s hs; exact ⟨x, hp.mem_iff.1 hx, e⟩, by rw [← hp.length_eq]; exact h.size⟩
theorem BMap.perm {b : Nat} {A : DataW Unit} (h : BMap w b M A) (hp : M.Perm M') : BMap w b M' A :=
  ⟨by rw [← hp.length_eq]; exact h.own, fun s => by rw [h.has]; exact ⟨fun ⟨x, hx, e⟩ => ⟨x, hp.mem_iff.1 hx, e⟩, fun ⟨x, hx, e⟩ => ⟨x, hp.mem_iff.2 hx, e⟩⟩, by rw [← hp.length_eq]; exact h.size⟩
theorem CasMem.perm (h : CasMem w D p now ws bm bb Ds Dm Db M Lss) (hp : M.Perm M') : CasMem w D p now ws bm bb Ds Dm Db M' Lss :=
  ⟨h.box, h.what.perm hp, h.births.perm hp, h.len, h.lev, h.apart, h.own, h.ne, h.dd⟩
/-- A cascade that holds L, in order, at a time: block p, its own blocks D. -/
def CasAt (w : World) (D : Nat → Prop) (p now : Nat) (L : List Td) : Prop :=
  ∃ ws bm bb Ds Dm Db Lss, CasMem w D p now ws bm bb Ds Dm Db L Lss ∧ PInv now L (fun _ => False) Lss ∧ L.Pairwise bef
theorem CasAt.frame {S : Nat → Prop} (h : CasAt w D p now L) (hm : Mod S w w') (hd : ∀ k, D k → ¬ S k) : CasAt w' D p now L := by
  obtain ⟨ws, bm, bb, Ds, Dm, Db, Lss, h1, h2⟩ := h
  exact ⟨ws, bm, bb, Ds, Dm, Db, Lss, h1.frame hm hd, h2⟩
theorem CasAt.pure (h : CasAt w D p now L) (hm : Pure w w') : CasAt w' D p now L := h.frame hm (fun _ _ h => h)
theorem CasAt.lt (h : CasAt w D p now L) {k : Nat} (hk : D k) : k < w.heap.size := by
  obtain ⟨ws, bm, bb, Ds, Dm, Db, Lss, h1, h2⟩ := h
  exact h1.lt hk
theorem CasAt.self (h : CasAt w D p now L) : D p := by
  obtain ⟨ws, bm, bb, Ds, Dm, Db, Lss, h1, h2⟩ := h
  exact (h1.dd p).2 (.inl rfl)
theorem CasAt.now64 (h : CasAt w D p now L) : now < 18446744073709551616 := by
  obtain ⟨ws, bm, bb, Ds, Dm, Db, Lss, h1, h2⟩ := h
  exact h1.box.now
theorem CasAt.rng (h : CasAt w D p now L) : ∀ x ∈ L, x.slot < 4194304 ∧ now < x.dl ∧ x.dl < 18446744073709551615 ∧ 0 < x.birth ∧ x.birth ≤ 18446744073709551615 := by
  obtain ⟨ws, bm, bb, Ds, Dm, Db, Lss, h1, h2, h3⟩ := h
  intro x hx
  obtain ⟨a, b, c⟩ := h2.rng x hx
  exact ⟨a, h2.after x hx (fun c => c), b, c⟩
theorem CasAt.uniq (h : CasAt w D p now L) : (∀ x ∈ L, ∀ y ∈ L, x.slot = y.slot → x = y) ∧ (∀ x ∈ L, ∀ y ∈ L, x.birth = y.birth → x = y) ∧ L.Pairwise bef := by
  obtain ⟨ws, bm, bb, Ds, Dm, Db, Lss, h1, h2, h3⟩ := h
  exact ⟨h2.slots, h2.births, h3⟩
def schR (now : Nat) (L : List Td) (x : Td) : Int := if schE now x = 0 then (if hasB L x.slot || bornB L x.birth then 11 else 0) else schE now x
def schL (now : Nat) (L : List Td) (x : Td) : List Td := if schR now L x = 0 then putL L x else L
theorem atE_zero {s dl : Nat} (h : atE now s dl = 0) (hd : dl ≤ 18446744073709551615) : s < 4194304 ∧ now < dl ∧ dl < 18446744073709551615 := by
  unfold atE at h
  split at h
  · split at h
    · cases h
    · split at h
      · cases h
      · refine ⟨by assumption, by omega, by omega⟩
  · cases h
theorem schE_zero {x : Td} (h : schE now x = 0) (hd : x.dl ≤ 18446744073709551615) : x.slot < 4194304 ∧ x.birth ≠ 0 ∧ now < x.dl ∧ x.dl < 18446744073709551615 := by
  unfold schE at h
  split at h
  · split at h
    · cases h
    · obtain ⟨_, a, b⟩ := atE_zero h hd
      exact ⟨by assumption, by assumption, a, b⟩
  · cases h
theorem CasAt.sched (h : CasAt w D p now L) {x : Td} (h32 : x.slot ≤ 4294967295) (hd : x.dl ≤ 18446744073709551615) (hb : x.birth ≤ 18446744073709551615) (hl : L.length < maxLen) :
    Calls Tryd.prog 13 #[lkP p, tdV x] w fun e w' => e = .returned (.int .i64 (schR now L x)) ∧ (∃ D', CasAt w' D' p now (schL now L x) ∧ grewD D D' w) ∧ Mod D w w' := by
  have h' := h
  obtain ⟨ws, bm, bb, Ds, Dm, Db, Lss, h1, h2, h3⟩ := h
  unfold schL
  by_cases e0 : schE now x = 0
  · obtain ⟨a1, a2, a3, a4⟩ := schE_zero e0 hd
    by_cases c : (hasB L x.slot || bornB L x.birth) = true
    · have er : schR now L x = 11 := by unfold schR; rw [if_pos e0, if_pos c]
      rw [er, if_neg (by decide)]
      rw [Bool.or_eq_true, hasB_iff, bornB_iff] at c
      refine (csched_busy h1 a1 a4 hb a2 a3 c).mono ?_
      rintro e w' ⟨rfl, hp⟩
      exact ⟨rfl, ⟨D, h'.pure hp, grewD.refl _ _⟩, Mod.of_pure hp⟩
    · have er : schR now L x = 0 := by unfold schR; rw [if_pos e0, if_neg c]
      rw [er, if_pos rfl]
      rw [Bool.or_eq_true, hasB_iff, bornB_iff, not_or] at c
      have c1 : ∀ y ∈ L, y.slot ≠ x.slot := fun y hy e => c.1 ⟨y, hy, e⟩
      have c2 : ∀ y ∈ L, y.birth ≠ x.birth := fun y hy e => c.2 ⟨y, hy, e⟩
      obtain ⟨Ls, B, hL, hK⟩ := h2.get (lvl_spec h1.box.now (dl := x.dl) (by omega)).1 (bkt_lt (now := now) (dl := x.dl))
      refine (csched_ok h1 a1 a4 hb a2 a3 hl hL hK (h2.notL (fun y hy e => absurd e (c1 y hy)) hL) c1 c2).mono ?_
      rintro e w' ⟨rfl, ⟨D', Ds', Dm', Db', hC, hg⟩, hm⟩
      exact ⟨rfl, ⟨D', ⟨_, _, _, _, _, _, _, hC.perm putL_perm.symm, h2.sched a3 ⟨a1, a4, by omega, hb⟩ c1 c2 hL hK, putL_sorted h3 c2⟩, hg⟩, hm⟩
  · have er : schR now L x = schE now x := by unfold schR; rw [if_neg e0]
    rw [er, if_neg e0]
    refine (csched_er h1 h32 hd hb e0).mono ?_
    rintro e w' ⟨rfl, hp⟩
    exact ⟨rfl, ⟨D, h'.pure hp, grewD.refl _ _⟩, Mod.of_pure hp⟩
theorem CasAt.get (h : CasAt w D p now L) {s : Nat} (h32 : s ≤ 4294967295) :
    Calls Tryd.prog 19 #[lkP p, .int .u32 s] w fun e w' => e = .returned (.tuple #[tdV (getT L s).1, .int .i64 (getT L s).2]) ∧ Pure w w' := by
  obtain ⟨ws, bm, bb, Ds, Dm, Db, Lss, h1, h2, h3⟩ := h
  exact cget_ok h1 h32
/-- What Get, Cancel say: by whether it is there. -/
theorem getT_cases (L : List Td) (s : Nat) : (s < 4194304 ∧ hasB L s = true ∧ ∃ x, getT L s = (x, 0) ∧ x.slot = s ∧ L[findI L s]? = some x ∧ L.find? (fun y => y.slot == s) = some x ∧ L.Perm (x :: outI L s)) ∨ ((¬ s < 4194304 ∨ hasB L s = false) ∧ ∃ er, getT L s = (zTd, er) ∧ er ≠ 0) := by
  by_cases hs : s < 4194304
  · cases hh : hasB L s with
    | true =>
      obtain ⟨x, h1, h2, h3, h4⟩ := findI_get (findI_lt.2 hh)
      exact .inl ⟨hs, rfl, x, getT_hit hs h3, h2, h1, h3, h4⟩
    | false => exact .inr ⟨.inr rfl, 9, getT_miss hs (find_none hh), by decide⟩
  · exact .inr ⟨.inl hs, 2, getT_arg hs, by decide⟩
/-- What is left behind Cancel. -/
def canL (L : List Td) (s : Nat) : List Td := if (getT L s).2 = 0 then outI L s else L
theorem CasAt.cancel (h : CasAt w D p now L) {s : Nat} (h32 : s ≤ 4294967295) :
    Calls Tryd.prog 24 #[lkP p, .int .u32 s] w fun e w' => e = .returned (.tuple #[tdV (getT L s).1, .int .i64 (getT L s).2]) ∧ (∃ D', CasAt w' D' p now (canL L s) ∧ grewD D D' w) ∧ Mod D w w' := by
  have h' := h
  obtain ⟨ws, bm, bb, Ds, Dm, Db, Lss, h1, h2, h3⟩ := h
  unfold canL
  rcases getT_cases L s with ⟨hs, _, x, e1, rfl, _, e3, e4⟩ | ⟨_, er, e1, e2⟩
  · rw [e1]
    obtain ⟨hx, w1, w2, w3, w4⟩ := h2.without e4
    obtain ⟨a1, a2, a3, a4⟩ := h2.rng x hx
    have a5 := h2.after x hx (fun c => c)
    obtain ⟨Ls, B, hL, hK⟩ := h2.get (lvl_spec h1.box.now (dl := x.dl) (by omega)).1 (bkt_lt (now := now) (dl := x.dl))
    have hf : x.slot ∈ B := by
      obtain ⟨A, C, b1, b2, b3⟩ := (h2.at_ (lvl now x.dl) (bkt now x.dl) x.slot).2 ⟨(fun c => c), x, hx, rfl, rfl, rfl⟩
      rw [hL] at b1; cases b1
      rw [hK] at b2; cases b2
      exact b3
    refine (ccancel_ok h1 e3 a1 (by omega) a4 (by omega) hL hK hf w1 w2 w4).mono ?_
    rintro e w' ⟨rfl, ⟨D', Ds', Dm', Db', hC, hg⟩, hm⟩
    exact ⟨rfl, ⟨D', ⟨_, _, _, _, _, _, _, hC, h2.cut hx w1 w3 hL hK, outI_sorted h3⟩, hg⟩, hm⟩
  · rw [e1]
    dsimp only
    rw [if_neg e2]
    refine (ccancel_no h1 h32 e1 e2).mono ?_
    rintro e w' ⟨rfl, hp⟩
    exact ⟨rfl, ⟨D, h'.pure hp, grewD.refl _ _⟩, Mod.of_pure hp⟩
def resR (now : Nat) (L : List Td) (s dl : Nat) : Int := if atE now s dl = 0 then (getT L s).2 else atE now s dl
def resL (now : Nat) (L : List Td) (s dl : Nat) : List Td := if resR now L s dl = 0 then putL (outI L s) ⟨s, dl, (getT L s).1.birth⟩ else L
theorem CasAt.resched (h : CasAt w D p now L) {s dl : Nat} (h32 : s ≤ 4294967295) (hd : dl ≤ 18446744073709551615) (hl : L.length < maxLen) :
    Calls Tryd.prog 25 #[lkP p, .int .u32 s, .int .u64 dl] w fun e w' => e = .returned (.int .i64 (resR now L s dl)) ∧ (∃ D', CasAt w' D' p now (resL now L s dl) ∧ grewD D D' w) ∧ Mod D w w' := by
  have h' := h
  obtain ⟨ws, bm, bb, Ds, Dm, Db, Lss, h1, h2, h3⟩ := h
  unfold resL
  by_cases e0 : atE now s dl = 0
  · obtain ⟨a1, a2, a3⟩ := atE_zero e0 hd
    have er0 : resR now L s dl = (getT L s).2 := by unfold resR; rw [if_pos e0]
    rw [er0]
    rcases getT_cases L s with ⟨hs, _, x, e1, rfl, _, e3, e4⟩ | ⟨_, er, e1, e2⟩
    · rw [e1]
      dsimp only
      rw [if_pos rfl]
      obtain ⟨hx, w1, w2, w3, w4⟩ := h2.without e4
      obtain ⟨b1, b2, b3, b4⟩ := h2.rng x hx
      have b5 := h2.after x hx (fun c => c)
      obtain ⟨Ls, B, hL, hK⟩ := h2.get (lvl_spec h1.box.now (dl := x.dl) (by omega)).1 (bkt_lt (now := now) (dl := x.dl))
      have hf : x.slot ∈ B := by
        obtain ⟨A, C, b1, b2, b3⟩ := (h2.at_ (lvl now x.dl) (bkt now x.dl) x.slot).2 ⟨(fun c => c), x, hx, rfl, rfl, rfl⟩
        rw [hL] at b1; cases b1
        rw [hK] at b2; cases b2
        exact b3
      have hc := h2.cut hx w1 w3 hL hK
      obtain ⟨Ls2, B2, hL2, hK2⟩ := hc.get (lvl_spec h1.box.now (dl := dl) (by omega)).1 (bkt_lt (now := now) (dl := dl))
      have n1 : ∀ y ∈ outI L x.slot, y.slot ≠ x.slot := fun y hy => ((w1 y).1 hy).2
      have n2 : ∀ y ∈ outI L x.slot, y.birth ≠ x.birth := fun y hy => ((w2 y).1 hy).2
      refine (cresched_ok h1 e3 b1 (by omega) b4 (by omega) hL hK hf w1 w2 w4 hl a2 a3 rfl hL2 hK2 (hc.notL (fun y hy e => absurd e (n1 y hy)) hL2)).mono ?_
      rintro e w' ⟨rfl, ⟨D', Ds', Dm', Db', hC, hg⟩, hm⟩
      exact ⟨rfl, ⟨D', ⟨_, _, _, _, _, _, _, hC.perm putL_perm.symm, hc.sched (x := ⟨x.slot, dl, x.birth⟩) a2 ⟨b1, a3, b3, b4⟩ n1 n2 hL2 hK2, putL_sorted (outI_sorted h3) n2⟩, hg⟩, hm⟩
    · rw [e1]
      dsimp only
      rw [if_neg e2]
      refine (cresched_no h1 h32 hd e0 e1 e2).mono ?_
      rintro e w' ⟨rfl, hp⟩
      exact ⟨rfl, ⟨D, h'.pure hp, grewD.refl _ _⟩, Mod.of_pure hp⟩
  · have er : resR now L s dl = atE now s dl := by unfold resR; rw [if_neg e0]
    rw [er, if_neg e0]
    refine (cresched_er h1 h32 hd e0).mono ?_
    rintro e w' ⟨rfl, hp⟩
    exact ⟨rfl, ⟨D, h'.pure hp, grewD.refl _ _⟩, Mod.of_pure hp⟩
/-- What Where says. -/
def whE (now : Nat) (L : List Td) (s : Nat) : Value := if (getT L s).2 = 0 then .tuple #[.int .i64 (lvl now (getT L s).1.dl : Nat), .int .i64 (bkt now (getT L s).1.dl : Nat), .int .i64 0] else .tuple #[.int .i64 0, .int .i64 0, .int .i64 (getT L s).2]
theorem CasAt.where_ (h : CasAt w D p now L) {s : Nat} (h32 : s ≤ 4294967295) :
    Calls Tryd.prog 63 #[lkP p, .int .u32 s] w fun e w' => e = .returned (whE now L s) ∧ Pure w w' := by
  obtain ⟨ws, bm, bb, Ds, Dm, Db, Lss, h1, h2, h3⟩ := h
  unfold whE
  rcases getT_cases L s with ⟨hs, _, x, e1, rfl, _, e3, e4⟩ | ⟨_, er, e1, e2⟩
  · rw [e1]
    have hx : x ∈ L := e4.mem_iff.2 List.mem_cons_self
    obtain ⟨b1, b2, b3, b4⟩ := h2.rng x hx
    have b5 := h2.after x hx (fun c => c)
    obtain ⟨A, B, hL, hK, hf⟩ := (h2.at_ (lvl now x.dl) (bkt now x.dl) x.slot).2 ⟨(fun c => c), x, hx, rfl, rfl, rfl⟩
    exact cwhere_ok h1 e1 b1 (by omega) (by omega) hL hK hf
  · rw [e1]
    dsimp only
    rw [if_neg e2]
    exact cwhere_no h1 h32 e1 e2
theorem CasAt.now_ (h : CasAt w D p now L) : Calls Tryd.prog 28 #[lkP p] w fun e w' => e = .returned (.int .u64 now) ∧ w = w' := by
  obtain ⟨ws, bm, bb, Ds, Dm, Db, Lss, h1, h2, h3⟩ := h
  exact cnow_ok h1
theorem CasAt.len_ (h : CasAt w D p now L) : Calls Tryd.prog 15 #[lkP p] w fun e w' => e = .returned (.int .i64 L.length) ∧ w = w' := by
  obtain ⟨ws, bm, bb, Ds, Dm, Db, Lss, h1, h2, h3⟩ := h
  exact clen_ok h1
end
end Go.Proofs.YtlalpenfgkfkpaaDoor

/- cascade: empty. Conditions: the cascade lies in memory, the table too. -/
namespace Go.Proofs.YtlalpenfgkfkpaaDoor
open Go.RowKit
set_option maxRecDepth 100000
theorem firstB_spec {f : Nat → Bool} {n b : Nat} (h : firstB f n = some b) : b < n ∧ f b = true ∧ ∀ j, j < b → f j = false := by
  unfold firstB at h
  rw [List.find?_range_eq_some] at h
  exact ⟨List.mem_range.1 h.2.1, h.1, fun j hj => by have := h.2.2 j hj; simpa using this⟩
theorem firstB_spec0 {f : Nat → Bool} {n : Nat} (h : firstB f n = none) : ∀ j, j < n → f j = false := fun j hj => by
  unfold firstB at h
  rw [List.find?_eq_none] at h
  have := h j (List.mem_range.2 hj)
  simpa using this
/-- What Next says: the first list that is not empty, or none. -/
def nextC (f : Nat → Bool) (b : Nat) (e : Int) : Prop := firstB f 256 = some b ∧ e = 0 ∨ firstB f 256 = none ∧ b = 0 ∧ e = 9
theorem nextE_cases (f : Nat → Bool) : ∃ (b : Nat) (e : Int), nextE f = .tuple #[.int .i64 b, .int .i64 e] ∧ nextC f b e := by
  unfold nextE nextC
  cases firstB f 256 with
  | some b => exact ⟨b, 0, rfl, .inl ⟨rfl, rfl⟩⟩
  | none => exact ⟨0, 9, rfl, .inr ⟨rfl, rfl, rfl⟩⟩
section
variable {w w' : World} {D : Nat → Prop} {p now : Nat} {ws : List Nat} {bm bb : Nat} {Ds : Nat → Nat → Prop} {Dm Db : DataW Unit} {M : List Td} {Lss : List (List (List Nat))}
theorem CasMem.level0 (h : CasMem w D p now ws bm bb Ds Dm Db M Lss) {l q : Nat} {Ls' : List (List Nat)} (hl : l < 8) (hq : ws[l]? = some q) (hw : WhAt w' (Ds l) q Ls') (hm : Mod (Ds l) w w') : CasMem w' D p now ws bm bb Ds Dm Db M (Lss.set l Ls') := by
  obtain ⟨D2, hC, _⟩ := h.level hl hq hw (grewD.refl _ _) hm
  have e1 : setF Ds l (Ds l) = Ds := by
    funext k
    unfold setF
    split
    · rename_i e; rw [e]
    · rfl
  rw [e1] at hC
  have e2 : D2 = D := by
    funext k
    exact propext ((hC.dd k).trans (h.dd k).symm)
  rw [e2] at hC
  exact hC
theorem CasMem.levelD (h : CasMem w D p now ws bm bb Ds Dm Db M Lss) {l : Nat} (hl : l < 8) : Ds l 0 → D 0 := fun k => (h.dd 0).2 (.inr (.inr (.inr ⟨l, hl, k⟩)))
/-- What is so in a round of empty. -/
structure EmI (w wr : World) (D : Nat → Prop) (p now : Nat) (ws : List Nat) (bm bb : Nat) (Ds : Nat → Nat → Prop) (Dm Db : DataW Unit) (M : List Td) (Lss : List (List (List Nat))) (lv n : Nat) (Ls cur : List (List Nat)) (a : Option Addr) (c : Nat) (out : List Nat) : Prop where
  mem : CasMem wr D p now ws bm bb Ds Dm Db M (Lss.set lv cur)
  row : NumRow wr a c out
  fresh : FreshV w (.slice a out.length c)
  mod : Mod D w wr
  sum : out ++ (cur.take n).flatten = flatN Ls n
  rest : cur.drop n = Ls.drop n
  len : cur.length = 256
set_option maxHeartbeats 2000000 in
theorem cempty_ok (h : CasMem w D p now ws bm bb Ds Dm Db M Lss) (hT : TabW w) (h0 : ¬ D 0) {lv m : Nat} (hm : m < 256) (hl8 : lv < 8) {Ls : List (List Nat)} (hL : Lss[lv]? = some Ls) (hb : (flatN Ls (m + 1)).length ≤ 4194304) :
    Calls Tryd.prog 50 #[lkP p, .int .i64 lv, .int .i64 m] w fun e w' => ∃ a c, e = .returned (.slice a (flatN Ls (m + 1)).length c) ∧ NumRow w' a c (flatN Ls (m + 1)) ∧ FreshV w (.slice a (flatN Ls (m + 1)).length c) ∧ CasMem w' D p now ws bm bb Ds Dm Db M (Lss.set lv (emptyL Ls (m + 1))) ∧ Mod D w w' := by
  obtain ⟨q, hq⟩ : ∃ q, ws[lv]? = some q := ⟨_, List.getElem?_eq_getElem (by rw [h.box.len]; exact hl8)⟩
  have hNx := fun (W : World) (cur : List (List Nat)) (hM : CasMem W D p now ws bm bb Ds Dm Db M (Lss.set lv cur)) (hW : Mod D w W) => wnext_ok (hM.lev lv q cur hq (List.getElem?_set_self (by rw [h.len]; exact hl8))) (hT.mod hW h0)
  have hlL : Lss.set lv Ls = Lss := by
    refine List.ext_getElem? (fun j => ?_)
    by_cases e : lv = j
    · subst e; rw [List.getElem?_set_self (by rw [h.len]; exact hl8), hL]
    · rw [List.getElem?_set_ne e]
  have hLs : Ls.length = 256 := (h.lev lv q Ls hq hL).len
  have hI : EmI w w D p now ws bm bb Ds Dm Db M Lss lv (m + 1) Ls Ls none 0 [] := ⟨by rw [hlL]; exact h, World.ownsRow_nil _ _ _ _, (fun g hg => by cases hg), Mod.refl _ _, rfl, rfl, hLs⟩
  obtain ⟨b0, e0, hne, hc0⟩ := nextE_cases (neB Ls)
  have hn0 := hNx w Ls hI.mem (Mod.refl _ _)
  rw [hne] at hn0
  have HN0 := Lib.hid hn0
  have HNx := Lib.hid hNx
  have hcl := h.box.level hq
  obtain ⟨c0, _, _, _, _⟩ := h.box.cells
  have HI := Lib.hid hI; have HQ := Lib.hid hq; have HB := Lib.hid hb; have HC0 := Lib.hid hc0; have HLS := Lib.hid hLs
  have hlss : ∀ cur, (Lss.set lv cur)[lv]? = some cur := fun cur => List.getElem?_set_self (by rw [h.len]; exact hl8)
  have HLSS := Lib.hid hlss
  have hset : ∀ A B, (Lss.set lv A).set lv B = Lss.set lv B := fun A B => List.set_set ..
  have HSET := Lib.hid hset
  have hDlt : ∀ k, D k → k < w.heap.size := fun k hk => h.lt hk
  have hlvD : ∀ k, Ds lv k → D k := fun k hk => (h.dd k).2 (.inr (.inr (.inr ⟨lv, hl8, hk⟩)))
  have HDLT := Lib.hid hDlt; have HLVD := Lib.hid hlvD
  clear h hT h0 hL hq hI hne hn0 hNx hlL hb hc0 hLs hlss hset hDlt hlvD
  have dl8 : decide (lv < 8) = true := decide_eq_true hl8
  have l0 : (0 : Int) ≤ (lv : Int) := by omega
  have l1 : (lv : Int) < 8 := by omega
  obtain ⟨i0, hi, iz0, iz1, iz2⟩ := info_parts info_n32
  go_enter Tryd.func50, Tryd.ntmps50
  go_upto_region 3 with (go_at_call 64; refine Calls.mono HN0.out ?_; rintro e w' ⟨rfl, rfl⟩)
  clear c0 hcl
  go_loopw [7, 8, 9] (fun v7 v8 v9 wr => ∃ cur a c out b er, v7 = .slice a out.length c ∧ v8 = .int .i64 (b : Nat) ∧ v9 = .int .i64 er ∧ nextC (neB cur) b er ∧ EmI w wr D p now ws bm bb Ds Dm Db M Lss lv (m + 1) Ls cur a c out) (fun _ v8 v9 _ => if intOf v9 = 0 then 256 - (intOf v8).toNat else 0)
  case atStart => exact ⟨Ls, none, 0, [], b0, e0, rfl, rfl, rfl, HC0.out, HI.out⟩
  case round =>
    obtain ⟨cur, a, c, out, b, er, rfl, rfl, rfl, hc, hI⟩ := hrel
    have HIr := Lib.hid hI
    have hcl := hI.mem.box.level HQ.out
    obtain ⟨c0, _, _, _, _⟩ := hI.mem.box.cells
    have fin : (∀ i, i < m + 1 → neB cur i = false) → out = flatN Ls (m + 1) ∧ cur = emptyL Ls (m + 1) := fun hz => by
      have e1 := take_flat_none (by rw [hI.len]; omega) hz
      have e2 := hI.sum
      rw [e1, flatten_rep, List.append_nil] at e2
      refine ⟨e2, ?_⟩
      unfold emptyL
      rw [← hI.rest, ← e1, List.take_append_drop]
    have FIN := Lib.hid fin
    clear fin hI
    rcases hc with ⟨hf, rfl⟩ | ⟨hf, rfl, rfl⟩
    · obtain ⟨f1, f2, f3⟩ := firstB_spec hf
      by_cases hbm : b ≤ m
      · have hbm' : (b : Int) ≤ (m : Int) := by omega
        obtain ⟨l, hl⟩ : ∃ l, cur[b]? = some l := ⟨_, List.getElem?_eq_getElem (by rw [HIr.out.len]; exact f1)⟩
        have hTk := wtake_ok (HIr.out.mem.lev lv q cur HQ.out (HLSS.out cur)) hl
        have hfl := take_flat_first (n := m + 1) (by omega) hl f3
        have hsum := HIr.out.sum
        rw [hfl, ← List.append_assoc] at hsum
        have hll : (out ++ l).length ≤ 4194304 := by
          have := HB.out
          rw [← hsum, List.length_append] at this
          omega
        rw [List.length_append] at hll
        have hrest : (cur.set b []).drop (m + 1) = Ls.drop (m + 1) := by
          rw [← HIr.out.rest, List.drop_set_of_lt (by omega)]
        obtain ⟨b1, e1, hne1, hc1⟩ := nextE_cases (neB (cur.set b []))
        have hneb : neB (cur.set b []) = setB (neB cur) b false := neB_set (by rw [HIr.out.len]; exact f1) []
        have hmeas : e1 = 0 → b < b1 ∧ b1 < 256 := fun hz => by
          rcases hc1 with ⟨g1, _⟩ | ⟨_, _, g2⟩
          · obtain ⟨g1, g2, _⟩ := firstB_spec g1
            refine ⟨?_, g1⟩
            rw [hneb] at g2
            unfold setB at g2
            rcases Nat.lt_trichotomy b1 b with k | k | k
            · rw [if_neg (by omega), f3 b1 k] at g2; cases g2
            · rw [if_pos k] at g2; cases g2
            · exact k
          · rw [g2] at hz; cases hz
        have HMEAS := Lib.hid hmeas; have HSUM := Lib.hid hsum; have HREST := Lib.hid hrest; have HC1 := Lib.hid hc1; have HNE1 := Lib.hid hne1
        obtain ⟨nl, hnl⟩ : ∃ nl, l.length = nl := ⟨_, rfl⟩
        obtain ⟨no, hno⟩ : ∃ no, out.length = no := ⟨_, rfl⟩
        rw [hnl] at hTk hll
        rw [hno] at hll ⊢
        have HTk := Lib.hid hTk; have HNL := Lib.hid hnl; have HNO := Lib.hid hno
        have hbl : b < 256 := f1
        clear hf f1 f2 f3 hl hTk hfl hsum hrest hc1 hne1 hneb hmeas hnl hno
        go_upto_region 6 with (go_at_call 79; refine Calls.mono HTk.out ?_; rintro e w2 ⟨a2, c2, rfl, hr2, hf2, hw2, hm2⟩)
        have hmem2 : CasMem w2 D p now ws bm bb Ds Dm Db M (Lss.set lv (cur.set b [])) := by
          have := HIr.out.mem.level0 hl8 HQ.out hw2 hm2
          rw [HSET.out] at this
          exact this
        have hmD2 : Mod D wr w2 := hm2.mono (fun k _ hk => HLVD.out k hk)
        have hro2 : w2.ownsRow 0 29 1 (.slice a no c) no (nums out) := by
          have := HIr.out.row
          unfold NumRow at this
          rw [HNO.out] at this
          exact owns_mod this hmD2 (fun g hg hk => by have := HIr.out.fresh g (by rw [HNO.out]; exact hg); have := HDLT.out g hk; omega)
        have hRD2 : ReadAt w2 (.slice a2 nl c2) 1 (nums l) := by have := num_read hr2; rw [HNL.out] at this; exact this
        have HRO2 := Lib.hid hro2; have HRD2 := Lib.hid hRD2; have HM2 := Lib.hid hmem2; have HMD2 := Lib.hid (HIr.out.mod.trans hmD2)
        clear hr2 hf2 hw2 hm2 hmem2 hmD2 hro2 hRD2 hcl c0
        go_upto_region 4 with (at_builtin; refine wpList_append_read _ rfl _ _ 74 rfl 29 i0 _ 1 4 Tryd.underlying74 hi iz0 iz1 iz2 rfl (by decide) (.slice a no c) no _ rfl HRO2.out _ (nums l) nl rfl HRD2.out (by rw [nums_length, HNL.out, Nat.mul_one]) (by unfold maxLen; omega) (by omega) ?_; intro a7 c7 w5 hr7 hg7 hb7)
        have hmg : Mod (fun k => (Value.slice a no c).ownBlock = some k) w2 w5 := Mod.of_grown (S := fun k' => (Value.slice a no c).ownBlock = some k') hg7 (fun k e _ => e)
        have hfa : ∀ k, (Value.slice a no c).ownBlock = some k → w.heap.size ≤ k := fun k e => HIr.out.fresh k (by rw [HNO.out]; exact e)
        have hmem5 := HM2.out.frame hmg (fun k hk e => by have := hfa k e; have := HDLT.out k hk; omega)
        have hm5 : Mod D w w5 := HMD2.out.then hmg (fun k hk e => by have := hfa k e; omega)
        have hf5 : FreshV w (.slice a7 (no + nl) c7) := fun k hk => by
          rcases hb7 with e | e
          · exact hfa k (e ▸ hk)
          · rw [e] at hk; cases hk; exact HMD2.out.size
        have hno2 : (out ++ l).length = no + nl := by rw [List.length_append, HNO.out, HNL.out]
        have hI5 : EmI w w5 D p now ws bm bb Ds Dm Db M Lss lv (m + 1) Ls (cur.set b []) a7 c7 (out ++ l) := ⟨hmem5, by unfold NumRow; rw [hno2, nums_append]; exact hr7, by rw [hno2]; exact hf5, hm5, HSUM.out, HREST.out, by rw [List.length_set]; exact HIr.out.len⟩
        have hn5 := HNx.out w5 _ hI5.mem hm5
        rw [HNE1.out] at hn5
        have HN5 := Lib.hid hn5; have HI5 := Lib.hid hI5; have HNO2 := Lib.hid hno2
        have hcl := hI5.mem.box.level HQ.out
        obtain ⟨c0, _, _, _, _⟩ := hI5.mem.box.cells
        clear hr7 hg7 hb7 hmg hfa hmem5 hm5 hf5 hno2 hI5 hn5
        go_wp2_with (go_at_call 64; refine Calls.mono HN5.out ?_; rintro e w' ⟨rfl, rfl⟩)
        go_roundw
        case rel => exact ⟨_, a7, c7, _, b1, e1, by rw [HNO2.out], rfl, rfl, HC1.out, HI5.out⟩
        case measure =>
          have hq := HMEAS.out
          by_cases hz : e1 = 0
          · have := hq hz
            simp [intOf, hz]; omega
          · simp [intOf, hz]; omega
      · have hbm' : ¬ ((b : Int) ≤ (m : Int)) := by omega
        obtain ⟨g1, g2⟩ := FIN.out (fun i hi => f3 i (by omega))
        have G1 := Lib.hid g1; have G2 := Lib.hid g2
        clear g1 g2 hf f1 f2 f3 hcl c0
        have hres := HIr.out
        rw [G1.out, G2.out] at hres
        have HRES := Lib.hid hres
        rw [G1.out]
        clear hres
        go_wp2
        go_ret
        exact ⟨a, c, rfl, HRES.out.row, HRES.out.fresh, HRES.out.mem, HRES.out.mod⟩
    · obtain ⟨g1, g2⟩ := FIN.out (fun i hi => firstB_spec0 hf i (by omega))
      have G1 := Lib.hid g1; have G2 := Lib.hid g2
      clear g1 g2 hf hcl c0
      have hres := HIr.out
      rw [G1.out, G2.out] at hres
      have HRES := Lib.hid hres
      rw [G1.out]
      clear hres
      go_wp2
      go_ret
      exact ⟨a, c, rfl, HRES.out.row, HRES.out.fresh, HRES.out.mem, HRES.out.mod⟩
end
end Go.Proofs.YtlalpenfgkfkpaaDoor

/- cascade: what Advance wants: bounds, the new time. Conditions: the cascade lies in memory. -/
namespace Go.Proofs.YtlalpenfgkfkpaaDoor
open Go.RowKit
set_option maxRecDepth 100000
section
variable {w w' : World} {D : Nat → Prop} {p now tt k lv n : Nat} {ws : List Nat} {bm bb : Nat} {Ds : Nat → Nat → Prop} {Dm Db : DataW Unit} {M L : List Td} {Lss : List (List (List Nat))} {P : Nat → Prop} {Ls : List (List Nat)}
theorem PInv.bound (h : PInv now M P Lss) {A : List Nat} (hA : A.Nodup) (hs : ∀ s ∈ A, ∃ l b, slotIn Lss l b s) : A.length ≤ 4194304 :=
  nodup_bound hA (fun s hs' => by
    obtain ⟨l, b, h1⟩ := hs s hs'
    obtain ⟨_, x, hx, e, _⟩ := (h.at_ _ _ _).1 h1
    have := (h.rng x hx).1
    rw [e] at this
    exact this)
theorem PInv.count (h : PInv now M P Lss) : M.length ≤ 4194304 := by
  have h1 : (M.map (fun x => x.slot)).Nodup := by
    unfold List.Nodup
    rw [List.pairwise_map]
    exact h.ndM.imp_of_mem (fun {a b} ha hb hne e => hne (h.slots a ha b hb e))
  have := nodup_bound (N := 4194304) h1 (fun s hs => by
    obtain ⟨x, hx, rfl⟩ := List.mem_map.1 hs
    exact (h.rng x hx).1)
  rw [List.length_map] at this
  exact this
theorem PInv.moved_le (h : PInv now M P Lss) (hL : Lss[lv]? = some Ls) : (movedK Lss lv ++ flatN Ls n).length ≤ 4194304 :=
  h.bound (h.nodup_moved hL) (fun s hs => by
    rcases List.mem_append.1 hs with hs | hs
    · obtain ⟨l, b, _, h1⟩ := mem_movedK.1 hs
      exact ⟨l, b, h1⟩
    · obtain ⟨b, B, _, h1, h2⟩ := mem_flatN.1 hs
      exact ⟨lv, b, Ls, B, hL, h1, h2⟩)
theorem emptyL_all (h : Ls.length = 256) : emptyL Ls 256 = List.replicate 256 [] := by
  unfold emptyL
  rw [List.drop_of_length_le (by omega), List.append_nil]
theorem flatN_all (h : Ls.length = 256) : flatN Ls 256 = Ls.flatten := by
  unfold flatN
  rw [List.take_of_length_le (by omega)]
theorem clearL_zero : clearL Lss 0 = Lss := rfl
theorem movedK_zero : movedK Lss 0 = [] := rfl
theorem CasMem.setNow (h : CasMem w D p now ws bm bb Ds Dm Db M Lss) (ht : tt < 18446744073709551616) : CasMem (w.setCell ⟨p, 0, none⟩ (.int .u64 tt)) D p tt ws bm bb Ds Dm Db M Lss ∧ Mod (fun k => k = p) w (w.setCell ⟨p, 0, none⟩ (.int .u64 tt)) := by
  have hm : Mod (fun k => k = p) w (w.setCell ⟨p, 0, none⟩ (.int .u64 tt)) := (Mod.refl (fun k => k = p) w).setCell (p := ⟨p, 0, none⟩) (fun _ => rfl) _
  obtain ⟨n1, n2, n3⟩ := h.ne
  refine ⟨⟨⟨?_, h.box.len, ht⟩, h.what.mod hm n2, h.births.mod hm n3, h.len, fun l q Ls hq hl => (h.lev l q Ls hq hl).frame hm (fun k hk e => ?_), h.apart, h.own, h.ne, h.dd⟩, hm⟩
  · rw [heap_setCell_same w p 0 _ _ (.int .u64 tt) h.box.box]
    congr 2
  · have hl8 : l < 8 := by have := (List.getElem?_eq_some_iff.1 hl).1; rw [h.len] at this; exact this
    exact (h.own l k hl8 hk).1 e
theorem info_td : (Tryd.prog.info? 31).map (fun i => (i.zero, i.size, i.bytes)) = some (some (.agg #[.int .u32 0, .int .u64 0, .int .u64 0]), 3, 24) := by kernel_rfl
/-- What is due up to a time, and what is left. -/
def dueL (tt : Nat) (L : List Td) : List Td := L.takeWhile (fun x => decide (x.dl ≤ tt))
def restL (tt : Nat) (L : List Td) : List Td := L.dropWhile (fun x => decide (x.dl ≤ tt))
/-- Advance to a time before, or to the time itself. -/
theorem CasAt.adv_no (h : CasAt w D p now L) (ht : tt ≤ now) : Calls Tryd.prog 16 #[lkP p, .int .u64 tt] w fun e w' => e = .returned (.tuple #[.slice none 0 0, .int .i64 (if tt < now then 3 else 0)]) ∧ w = w' := by
  obtain ⟨ws, bm, bb, Ds, Dm, Db, Lss, h1, h2, h3⟩ := h
  have HCk := Lib.hid (ccheck_ok h1.box (s := 0) (by omega))
  obtain ⟨c0, c9, c10, _, _⟩ := h1.box.cells
  clear h1 h2 h3
  by_cases hlt : tt < now
  · rw [if_pos hlt]
    have hlt' : (tt : Int) < (now : Int) := by omega
    clear hlt
    go_enter Tryd.func16, Tryd.ntmps16
    go_wp2_with (go_at_call 46; refine Calls.mono HCk.out ?_; rintro e w' ⟨rfl, rfl⟩)
    go_ret2
    exact ⟨rfl, rfl⟩
  · have e : tt = now := by omega
    subst e
    rw [if_neg hlt]
    have hlt' : ¬ (tt : Int) < (tt : Int) := by omega
    clear hlt
    go_enter Tryd.func16, Tryd.ntmps16
    go_wp2_with (go_at_call 46; refine Calls.mono HCk.out ?_; rintro e w' ⟨rfl, rfl⟩)
    go_ret2
    exact ⟨rfl, rfl⟩
end
end Go.Proofs.YtlalpenfgkfkpaaDoor

/- cascade: Advance to a later time. Conditions: the cascade lies in memory, the table too. -/
namespace Go.Proofs.YtlalpenfgkfkpaaDoor
open Go.RowKit
set_option maxRecDepth 100000
theorem tdC_td (x : Td) : (Value.agg #[.int .u32 x.slot, .int .u64 x.dl, .int .u64 x.birth]) = tdV x := rfl
section
variable {w w' : World} {D : Nat → Prop} {p now tt : Nat} {ws : List Nat} {bm bb : Nat} {Ds : Nat → Nat → Prop} {Dm Db : DataW Unit} {M L : List Td} {Lss : List (List (List Nat))}
/-- What is so while the slots are looked at. -/
structure AvI (w wr : World) (D : Nat → Prop) (p tt : Nat) (L : List Td) (mv : List Nat) (a c) (ad : Option Addr) (cd : Nat) (Mj dj : List Td) (D' : Nat → Prop) (j : Nat) : Prop where
  mem : ∃ ws bm bb Ds Dm Db Lss, CasMem wr D' p tt ws bm bb Ds Dm Db Mj Lss ∧ AdvSt tt L (mv.drop j) Mj dj Lss
  grew : grewD D D' w
  row : NumRow wr a c mv
  off : ∀ g, (Value.slice a mv.length c).ownBlock = some g → ¬ D' g
  due : TdRow wr ad cd dj
  fresh : ∀ g, (Value.slice ad dj.length cd).ownBlock = some g → ¬ D' g ∧ w.heap.size ≤ g
  mod : Mod D w wr
set_option maxHeartbeats 4000000 in
theorem CasAt.adv (h : CasAt w D p now L) (hT : TabW w) (h0 : ¬ D 0) (hn : now < tt) (ht : tt < 18446744073709551616) :
    Calls Tryd.prog 16 #[lkP p, .int .u64 tt] w fun e w' => ∃ a c, e = .returned (.tuple #[.slice a (dueL tt L).length c, .int .i64 0]) ∧ TdRow w' a c (dueL tt L) ∧ (∃ D', CasAt w' D' p tt (restL tt L) ∧ grewD D D' w ∧ ∀ g, (Value.slice a (dueL tt L).length c).ownBlock = some g → ¬ D' g ∧ w.heap.size ≤ g) ∧ Mod D w w' := by
  obtain ⟨ws, bm, bb, Ds, Dm, Db, Lss, h1, h2, h3⟩ := h
  have hnow := h1.box.now
  have hl8 : lvl now tt < 8 := (lvl_spec hnow ht).1
  have hbk : bkt now tt < 256 := bkt_lt
  obtain ⟨Lt, hLt⟩ : ∃ Lt, Lss[lvl now tt]? = some Lt := ⟨_, List.getElem?_eq_getElem (by rw [h2.len]; exact hl8)⟩
  have hA := h2.adv hn ht hLt
  have hle := h2.moved_le (n := bkt now tt + 1) hLt
  have HCk := Lib.hid (ccheck_ok h1.box (s := 0) (by omega))
  have HPl := Lib.hid (cplace_ok h1.box ht (by omega : tt ≠ now))
  obtain ⟨c0, c9, c10, cf, cl⟩ := h1.box.cells
  have hSet := fun (W : World) (hW : Pure w W) => (h1.pure hW).setNow ht
  have hDlt : ∀ k, D k → k < w.heap.size := fun k hk => h1.lt hk
  have hpD : D p := (h1.dd p).2 (.inl rfl)
  have hEm := fun (W : World) (k m : Nat) (Ls : List (List Nat)) (hk : k < 8) (hm : m < 256) (hL : Lss[k]? = some Ls) (hM : CasMem W D p tt ws bm bb Ds Dm Db L (clearL Lss k)) (hW : Mod D w W) (hb : (flatN Ls (m + 1)).length ≤ 4194304) =>
    cempty_ok hM (hT.mod hW h0) h0 hm hk ((clearL_get (Nat.le_refl k)).trans hL) hb
  have HEm := Lib.hid hEm; have HSet := Lib.hid hSet; have HDlt := Lib.hid hDlt; have HA := Lib.hid hA; have HLE := Lib.hid hle; have HP2 := Lib.hid h2; have HS := Lib.hid h3; have HpD := Lib.hid hpD; have HLt := Lib.hid hLt
  clear h1 h2 h3 hEm hSet hDlt hA hle hT h0 hpD hLt
  obtain ⟨tp, htp⟩ : ∃ tp, lvl now tt = tp := ⟨_, rfl⟩
  obtain ⟨dg, hdg⟩ : ∃ dg, bkt now tt = dg := ⟨_, rfl⟩
  rw [htp] at hl8 HPl HA HLE HLt
  rw [hdg] at hbk HPl HA HLE
  clear htp hdg
  have lt1 : ¬ (tt : Int) < (now : Int) := by omega
  have eq1 : ((tt : Int) == (now : Int)) = false := by simp; omega
  obtain ⟨i0, hi, iz0, iz1, iz2⟩ := info_parts info_n32
  go_enter Tryd.func16, Tryd.ntmps16
  go_upto_region 8 with (first
    | (go_at_call 46; refine Calls.mono HCk.out ?_; rintro e w' ⟨rfl, rfl⟩)
    | (go_at_call 49; refine Calls.mono HPl.out ?_; rintro e w1 ⟨rfl, hp1⟩))
  obtain ⟨hC1, hm1⟩ := HSet.out w1 hp1
  have hm1' : Mod D w (w1.setCell ⟨p, 0, none⟩ (.int .u64 tt)) := (Mod.of_pure hp1).then hm1 (fun k _ e => by rw [e]; exact HpD.out)
  have hcp := hp1.cell (a := ⟨p, 0, none⟩) (fun h => h) c0
  have hfp : ∀ i, w1.frozen? ⟨p, i, none⟩ = false := fun i => by rw [hp1.cells.2 p i cl]; exact cf i
  have HC1 := Lib.hid hC1; have HM1 := Lib.hid hm1'
  clear hm1 hm1' hC1 c0 c9 c10 cf HCk HPl
  go_upto_region 11 with fail
  generalize w1.setCell ⟨p, 0, none⟩ (.int .u64 tt) = W1 at *
  clear hcp hfp hp1 HSet
  have tp0 : (0 : Int) ≤ (tp : Int) := by omega
  go_loopw [8, 43] (fun v8 v43 wr => ∃ (k : Nat) (a : Option Addr) (c : Nat), v43 = .int .i64 (k : Nat) ∧ k ≤ tp ∧ v8 = .slice a (movedK Lss k).length c ∧ NumRow wr a c (movedK Lss k) ∧ FreshV w (.slice a (movedK Lss k).length c) ∧ CasMem wr D p tt ws bm bb Ds Dm Db L (clearL Lss k) ∧ Mod D w wr) (fun _ v43 _ => 8 - (intOf v43).toNat)
  case atStart => exact ⟨0, none, 0, rfl, Nat.zero_le _, rfl, World.ownsRow_nil _ _ _ _, (fun g hg => by cases hg), HC1.out, HM1.out⟩
  case round =>
    obtain ⟨k, a, c, rfl, hk, rfl, hr, hf, hC, hm⟩ := hrel
    have HR := Lib.hid hr; have HF := Lib.hid hf; have HC := Lib.hid hC; have HM := Lib.hid hm
    clear hr hf hC hm
    by_cases hlt : k < tp
    · have hlt' : (k : Int) < (tp : Int) := by omega
      have k0 : (0 : Int) ≤ (k : Int) := by omega
      have wk : IntKind.i64.wrap ((k : Int) + 1) = (k : Int) + 1 := IntWalk.i64_in _ (by omega)
      obtain ⟨Ls, hL⟩ : ∃ Ls, Lss[k]? = some Ls := ⟨_, List.getElem?_eq_getElem (by rw [HP2.out.len]; omega)⟩
      have hw := HP2.out.wide k Ls hL
      have hmv := HP2.out.moved_le (n := 256) hL
      rw [List.length_append, flatN_all hw] at hmv
      have he := HEm.out wr k 255 Ls (by omega) (by omega) hL HC.out HM.out (by rw [flatN_all hw]; omega)
      rw [flatN_all hw, emptyL_all hw, ← clearL_succ hL] at he
      have hsucc := movedK_succ hL
      obtain ⟨nl, hnl⟩ : ∃ nl, Ls.flatten.length = nl := ⟨_, rfl⟩
      obtain ⟨no, hno⟩ : ∃ no, (movedK Lss k).length = no := ⟨_, rfl⟩
      rw [hnl] at he hmv
      rw [hno] at hmv ⊢
      have hns : (movedK Lss (k + 1)).length = no + nl := by rw [hsucc, List.length_append, hnl, hno]
      have HE := Lib.hid he; have HSU := Lib.hid hsucc; have HNL := Lib.hid hnl; have HNO := Lib.hid hno; have HNS := Lib.hid hns
      clear hL hw he hsucc hnl hno hns
      go_upto_region 14 with (first
        | (go_at_call 50; refine Calls.mono HE.out ?_; rintro e w2 ⟨a2, c2, rfl, hr2, hf2, hC2, hm2⟩
           have hro : w2.ownsRow 0 29 1 (.slice a no c) no (nums (movedK Lss k)) := (by have := HR.out; unfold NumRow at this; rw [HNO.out] at this; exact owns_mod this hm2 (fun g hg hk => by have := HF.out g (by rw [HNO.out]; exact hg); have := HDlt.out g hk; omega))
           have hrd : ReadAt w2 (.slice a2 nl c2) 1 (nums Ls.flatten) := (by have := num_read hr2; rw [HNL.out] at this; exact this)
           have HRO := Lib.hid hro; have HRD := Lib.hid hrd; have HC2 := Lib.hid hC2; have HM2 := Lib.hid (HM.out.trans hm2)
           clear hr2 hf2 hC2 hm2 hro hrd)
        | (at_builtin; refine wpList_append_read _ rfl _ _ 74 rfl 29 i0 _ 1 4 Tryd.underlying74 hi iz0 iz1 iz2 rfl (by decide) (.slice a no c) no _ rfl HRO.out _ (nums Ls.flatten) nl rfl HRD.out (by rw [nums_length, HNL.out, Nat.mul_one]) (by unfold maxLen; omega) (by omega) ?_; intro a7 c7 w5 hr7 hg7 hb7))
      have hmg : Mod (fun k => (Value.slice a no c).ownBlock = some k) w2 w5 := Mod.of_grown (S := fun k' => (Value.slice a no c).ownBlock = some k') hg7 (fun k e _ => e)
      have hfa : ∀ k', (Value.slice a no c).ownBlock = some k' → w.heap.size ≤ k' := fun k' e => HF.out k' (by rw [HNO.out]; exact e)
      have hC5 := HC2.out.frame hmg (fun k hk e => by have := hfa k e; have := HDlt.out k hk; omega)
      have hm5 : Mod D w w5 := HM2.out.then hmg (fun k hk e => by have := hfa k e; omega)
      have hf5 : FreshV w (.slice a7 (no + nl) c7) := fun k hk => by
        rcases hb7 with e | e
        · exact hfa k (e ▸ hk)
        · rw [e] at hk; cases hk; exact HM2.out.size
      have HC5 := Lib.hid hC5; have HM5 := Lib.hid hm5; have HF5 := Lib.hid hf5; have HR7 := Lib.hid hr7
      clear hr7 hg7 hb7 hmg hfa hC5 hm5 hf5
      go_wp2
      go_roundw
      case rel => exact ⟨k + 1, a7, c7, by go_num, hlt, by rw [HNS.out], by unfold NumRow; rw [HNS.out, HSU.out, nums_append]; exact HR7.out, by rw [HNS.out]; exact HF5.out, HC5.out, HM5.out⟩
      case measure => simp [intOf]; omega
    · have e : k = tp := by omega
      subst e
      have hw := HP2.out.wide k Lt HLt.out
      have hmv := HLE.out
      rw [List.length_append] at hmv
      have he := HEm.out wr k dg Lt (by omega) hbk HLt.out HC.out HM.out (by omega)
      have hleft : (clearL Lss k).set k (emptyL Lt (dg + 1)) = leftL Lss Lt k (dg + 1) := rfl
      rw [hleft] at he
      obtain ⟨nl, hnl⟩ : ∃ nl, (flatN Lt (dg + 1)).length = nl := ⟨_, rfl⟩
      obtain ⟨no, hno⟩ : ∃ no, (movedK Lss k).length = no := ⟨_, rfl⟩
      rw [hnl] at he hmv
      rw [hno] at hmv ⊢
      obtain ⟨mv, hmvq⟩ : ∃ mv, movedK Lss k ++ flatN Lt (dg + 1) = mv := ⟨_, rfl⟩
      have hns : mv.length = no + nl := by rw [← hmvq, List.length_append, hnl, hno]
      have hA := HA.out
      rw [hmvq] at hA
      have HE := Lib.hid he; have HNL := Lib.hid hnl; have HNO := Lib.hid hno; have HNS := Lib.hid hns; have HMV := Lib.hid hmvq; have HA2 := Lib.hid hA
      clear hw he hnl hno hns hmvq hleft hA HA HLE HLt HEm
      go_upto_region 18 with (first
        | (go_at_call 50; refine Calls.mono HE.out ?_; rintro e w2 ⟨a2, c2, rfl, hr2, hf2, hC2, hm2⟩
           have hro : w2.ownsRow 0 29 1 (.slice a no c) no (nums (movedK Lss k)) := (by have := HR.out; unfold NumRow at this; rw [HNO.out] at this; exact owns_mod this hm2 (fun g hg hk => by have := HF.out g (by rw [HNO.out]; exact hg); have := HDlt.out g hk; omega))
           have hrd : ReadAt w2 (.slice a2 nl c2) 1 (nums (flatN Lt (dg + 1))) := (by have := num_read hr2; rw [HNL.out] at this; exact this)
           have HRO := Lib.hid hro; have HRD := Lib.hid hrd; have HC2 := Lib.hid hC2; have HM2 := Lib.hid (HM.out.trans hm2)
           clear hr2 hf2 hC2 hm2 hro hrd)
        | (at_builtin; refine wpList_append_read _ rfl _ _ 74 rfl 29 i0 _ 1 4 Tryd.underlying74 hi iz0 iz1 iz2 rfl (by decide) (.slice a no c) no _ rfl HRO.out _ (nums (flatN Lt (dg + 1))) nl rfl HRD.out (by rw [nums_length, HNL.out, Nat.mul_one]) (by unfold maxLen; omega) (by omega) ?_; intro a7 c7 w5 hr7 hg7 hb7
           have hmg : Mod (fun k => (Value.slice a no c).ownBlock = some k) w2 w5 := Mod.of_grown (S := fun k' => (Value.slice a no c).ownBlock = some k') hg7 (fun k e _ => e)
           have hfa : ∀ k', (Value.slice a no c).ownBlock = some k' → w.heap.size ≤ k' := fun k' e => HF.out k' (by rw [HNO.out]; exact e)
           have hC5 := HC2.out.frame hmg (fun k hk e => by have := hfa k e; have := HDlt.out k hk; omega)
           have hm5 : Mod D w w5 := HM2.out.then hmg (fun k hk e => by have := hfa k e; omega)
           have hf5 : FreshV w (.slice a7 (no + nl) c7) := fun k hk => (by
             rcases hb7 with e | e
             · exact hfa k (e ▸ hk)
             · rw [e] at hk; cases hk; exact HM2.out.size)
           have hI5 : AvI w w5 D p tt L mv a7 c7 none 0 L [] D 0 := ⟨⟨_, _, _, _, _, _, _, hC5, HA2.out⟩, grewD.refl _ _, (by unfold NumRow; rw [HNS.out, ← HMV.out, nums_append]; exact hr7), (by rw [HNS.out]; exact fun g hg hk => by have := hf5 g hg; have := HDlt.out g hk; omega), World.ownsRow_nil _ _ _ _, (fun g hg => by cases hg), hm5⟩
           have HI5 := Lib.hid hI5
           clear hr7 hg7 hb7 hmg hfa hC5 hm5 hf5 hI5))
      have hn63 : no + nl ≤ 4194304 := hmv
      clear HRO HRD HC2 HM2 HE HNL HNO HMV HA2 HR HF HC HM hmv
      obtain ⟨n, hnn⟩ : ∃ n, no + nl = n := ⟨_, rfl⟩
      rw [hnn] at HNS hn63
      have wnn : (no : Int) + (nl : Int) = (n : Int) := by omega
      simp only [hnn, wnn] at *
      clear hnn wnn
      obtain ⟨j0, hj, jz0, jz1, jz2⟩ := info_parts info_td
      go_loopw [10, 60] (fun v10 v60 wr => ∃ (j : Nat) (ad : Option Addr) (cd : Nat) (Mj dj : List Td) (D' : Nat → Prop), v60 = .int .i64 (j : Nat) ∧ j ≤ n ∧ v10 = .slice ad dj.length cd ∧ AvI w wr D p tt L mv a7 c7 ad cd Mj dj D' j) (fun _ v60 _ => n - (intOf v60).toNat)
      case atStart => exact ⟨0, none, 0, L, [], D, rfl, Nat.zero_le _, rfl, HI5.out⟩
      case round =>
        obtain ⟨j, ad, cd, Mj, dj, D', rfl, hjn, rfl, hI⟩ := hrel
        have HI := Lib.hid hI
        obtain ⟨ws', bm', bb', Ds', Dm', Db', Lss', hC, hAv⟩ := hI.mem
        by_cases hlt2 : j < n
        · have hlt' : (j : Int) < (n : Int) := by omega
          have j0' : (0 : Int) ≤ (j : Int) := by omega
          have wj : IntKind.i64.wrap ((j : Int) + 1) = (j : Int) + 1 := IntWalk.i64_in _ (by omega)
          obtain ⟨s, hs⟩ : ∃ s, mv[j]? = some s := ⟨_, List.getElem?_eq_getElem (by rw [HNS.out]; exact hlt2)⟩
          have hdr : mv.drop j = s :: mv.drop (j + 1) := by
            have hjl : j < mv.length := by rw [HNS.out]; exact hlt2
            rw [List.drop_eq_getElem_cons hjl]
            rw [List.getElem?_eq_getElem hjl] at hs
            injection hs with hs
            rw [hs]
          obtain ⟨ad0, had, z0⟩ := read_num (num_read hI.row) hs
          rw [hdr] at hAv
          obtain ⟨x, hx, hxs⟩ := hAv.has s List.mem_cons_self
          subst had
          obtain ⟨r1, r2, r3, r4⟩ := hAv.inv.rng x hx
          subst hxs
          have hlk := hC.what.look1 hx (by omega)
          unfold tdV at hlk
          have hdu := due_ok x.dl tt r2
          have HDU := Lib.hid hdu
          obtain ⟨c0, c9, c10, cf, cl⟩ := hC.box.cells
          have hal : Pure wr (wr.alloc (.cells #[.int .u32 x.slot, .int .u64 x.dl, .int .u64 x.birth] 31)) := (Mod.refl _ wr).alloc _
          have h13 := heap_new (w := wr) (o := .cells #[.int .u32 x.slot, .int .u64 x.dl, .int .u64 x.birth] 31 (0, 0)) rfl
          have HX := Lib.hid hx; have HAv := Lib.hid hAv; have HCm := Lib.hid hC; have HDR := Lib.hid hdr; have HAL := Lib.hid hal
          have hDl : ∀ k, D' k → k < wr.heap.size := fun k hk => hC.lt hk
          have HDL := Lib.hid hDl
          have hmvw : ∀ g, (Value.slice (some ad0) mv.length c7).ownBlock = some g → g < wr.heap.size := fun g hg => owns_lt HI.out.row hg
          have hduw : ∀ g, (Value.slice ad dj.length cd).ownBlock = some g → g < wr.heap.size := fun g hg => owns_lt HI.out.due hg
          have HMVW := Lib.hid hmvw; have HDUW := Lib.hid hduw
          clear hx hAv hC hdr hal hI hDl hmvw hduw
          go_upto_region 21 with fail
          generalize wr.alloc (.cells #[.int .u32 x.slot, .int .u64 x.dl, .int .u64 x.birth] 31) = W3 at *
          obtain ⟨b13, hb13⟩ : ∃ b13, wr.heap.size = b13 := ⟨_, rfl⟩
          rw [hb13] at h13 HDL HMVW HDUW ⊢
          have HB13 := Lib.hid hb13
          have H13 := Lib.hid h13
          clear hlk c0 c9 c10 cf cl z0 hb13 hs
          have h13_0 := cell_of_row _ _ 0 _ _ _ h13; have h13_1 := cell_of_row _ _ 1 _ _ _ h13; have h13_2 := cell_of_row _ _ 2 _ _ _ h13; have h13_f := (fun j => frozen_of_row _ _ j _ _ h13); have h13_l := lt_of_block h13; simp at h13_0 h13_1 h13_2; have H_h13 := Lib.hid h13; clear h13
          by_cases hd : x.dl ≤ tt
          · simp only [decide_eq_true hd] at HDU
            have hp := perm_filter_slot HAv.out.inv HX.out
            obtain ⟨M2, hM2⟩ : ∃ M2, Mj.filter (fun y => y.slot != x.slot) = M2 := ⟨_, rfl⟩
            rw [hM2] at hp
            obtain ⟨_, q1, q2, _, q4⟩ := HAv.out.inv.without hp
            have hgo := HAv.out.go rfl hd hp
            have hfo := fun (W : World) (hW : Pure W3 W) => cforget_ok ((HCm.out.pure HAL.out).pure hW) HX.out (by omega) r4 q1 q2 q4
            unfold tdV at hfo
            have hdl : dj.length + 1 ≤ 4194304 := by
              have e1 := hgo.perm.length_eq
              have e2 := HP2.out.count
              simp at e1
              omega
            obtain ⟨nd, hnd⟩ : ∃ nd, dj.length = nd := ⟨_, rfl⟩
            rw [hnd] at hdl ⊢
            have HND := Lib.hid hnd
            have HFo := Lib.hid hfo; have HGo := Lib.hid hgo
            have hbmD : D' bm' ∧ D' bb' := ⟨(HCm.out.dd bm').2 (.inr (.inl rfl)), (HCm.out.dd bb').2 (.inr (.inr (.inl rfl)))⟩
            have HBD := Lib.hid hbmD
            clear hp hM2 q1 q2 q4 hgo hfo hbmD hnd
            go_upto_region 24 with (first
              | (go_at_call 51; refine Calls.mono (HDU.out _) ?_; rintro e w' ⟨rfl, rfl⟩)
              | (go_at_call 52; refine Calls.mono (HFo.out _ (by first | exact Mod.refl _ _ | exact (Mod.refl _ _).drew)) ?_; rintro e w5 ⟨rfl, ⟨Dm2, Db2, hC2⟩, hm2⟩))
            have hm5 : Mod (fun k => k = bm' ∨ k = bb') W3 w5 := by first | exact hm2 | exact Mod.of_drew hm2
            have h5D : Mod D' W3 w5 := hm5.mono (fun k _ e => by rcases e with rfl | rfl; exact HBD.out.1; exact HBD.out.2)
            have h135 := h5D.heap (fun e => by have := HDL.out b13 e; omega) H13.out
            have hmw : Mod D' wr w5 := (Mod.of_pure HAL.out).trans h5D
            have hrow5 := owns_mod HI.out.row hmw HI.out.off
            have hdue5 := owns_mod HI.out.due hmw (fun g hg => (HI.out.fresh g hg).1)
            rw [HND.out] at hdue5
            have HR5 := Lib.hid hrow5; have HD5 := Lib.hid hdue5; have HMW := Lib.hid hmw; have HC2 := Lib.hid hC2; have H135 := Lib.hid h135
            clear h13_0 h13_1 h13_2 h13_f h13_l
            clear H_h13 hm2 hm5 h5D hmw hrow5 hdue5 hC2
            have h135_0 := cell_of_row _ _ 0 _ _ _ h135; have h135_1 := cell_of_row _ _ 1 _ _ _ h135; have h135_2 := cell_of_row _ _ 2 _ _ _ h135; have h135_f := (fun j => frozen_of_row _ _ j _ _ h135); have h135_l := lt_of_block h135; simp at h135_0 h135_1 h135_2; have H_h135 := Lib.hid h135; clear h135
            go_upto_region 25 with (at_builtin; refine wpList_append_read _ rfl _ _ 28 rfl 31 j0 _ 3 24 Tryd.underlying28 hj jz0 jz1 jz2 rfl (by decide) (.slice ad nd cd) nd _ rfl (owns_mod HD5.out ((Mod.refl (fun _ => False) w5).alloc _) (fun _ _ h => h)) _ [.int .u32 x.slot, .int .u64 x.dl, .int .u64 x.birth] 1 rfl (ReadAt.of_block 1 1 3 (heap_new rfl) (by rfl) (by simp [Value.oneCell'])) rfl (by unfold maxLen; omega) (by omega) ?_; intro a8 c8 w6 hr8 hg8 hb8)
            have hmg : Mod (fun k => (Value.slice ad nd cd).ownBlock = some k) w5 w6 := ((Mod.refl _ w5).alloc _).then (Mod.of_grown (S := fun k' => (Value.slice ad nd cd).ownBlock = some k') hg8 (fun k e _ => e)) (fun _ _ h => h)
            have hfr := HI.out.fresh
            rw [HND.out] at hfr
            have hsz5 := HMW.out.size
            have hszw := HI.out.mod.size
            have hal5 : w5.heap.size < (w5.alloc (.cells #[.int .u32 x.slot, .int .u64 x.dl, .int .u64 x.birth] 31)).heap.size := by simp
            have hI6 : AvI w w6 D p tt L mv (some ad0) c7 a8 c8 M2 (dj ++ [x]) D' (j + 1) := ⟨⟨_, _, _, _, _, _, _, HC2.out.frame hmg (fun k hk e => (hfr k e).1 hk), HGo.out⟩, HI.out.grew,
              owns_mod HR5.out hmg (fun g hg e => owns_apart HR5.out HD5.out (by decide) hg e), HI.out.off,
              (by
                show World.ownsRow _ 0 _ 3 (.slice a8 (dj ++ [x]).length c8) (dj ++ [x]).length ((dj ++ [x]).flatMap tdC)
                rw [List.length_append, HND.out, List.flatMap_append]
                exact hr8), fun g hg => (by
                rw [List.length_append, HND.out] at hg
                rcases hb8 with e | e
                · exact hfr g (e ▸ hg)
                · have hg' : (Value.slice a8 (nd + 1) c8).ownBlock = some g := hg
                  rw [e] at hg'
                  cases hg'
                  refine ⟨fun hk => ?_, by omega⟩
                  have := HDL.out _ hk
                  have := HB13.out
                  omega),
              (HI.out.mod.trans' HMW.out (fun _ _ h => h) (fun k hk h => (by
                rcases HI.out.grew k h with e | e
                · exact e
                · omega))).then hmg (fun k hk e => by have := (hfr k e).2; omega)⟩
            have hnx : (dj ++ [x]).length = nd + 1 := by rw [List.length_append, HND.out]; rfl
            have HI6 := Lib.hid hI6; have HNX := Lib.hid hnx
            clear hr8 hg8 hb8 hmg hfr hsz5 hszw hI6 hnx hal5
            go_wp2
            go_roundw
            case rel => exact ⟨j + 1, a8, c8, M2, dj ++ [x], D', by go_num, hlt2, by rw [HNX.out], HI6.out⟩
            case measure => simp [intOf]; omega
          · simp only [decide_eq_false hd] at HDU
            obtain ⟨Ls, B, hL, hK⟩ := HAv.out.inv.get (lvl_spec ht (dl := x.dl) (by omega)).1 (bkt_lt (now := tt) (dl := x.dl))
            have hst := HAv.out.stay HX.out rfl (by omega) hL hK
            have hpu := fun (W : World) (hW : Pure W3 W) => cput_ok ((HCm.out.pure HAL.out).pure hW) (x := x) (M' := Mj) r1 (by omega) r4 (by omega) (by have := HAv.out.inv.count; unfold maxLen; omega) hL hK (HAv.out.inv.notL (fun y hy e => List.mem_cons_self) hL) (.inr ⟨HX.out, fun y hy e => HAv.out.inv.slots y hy x HX.out e, rfl⟩)
            unfold tdV at hpu
            have HPu := Lib.hid hpu; have HSt := Lib.hid hst
            clear hL hK hst hpu
            go_upto_region 25 with (first
              | (go_at_call 51; refine Calls.mono (HDU.out _) ?_; rintro e w' ⟨rfl, rfl⟩)
              | (go_at_call 48; refine Calls.mono (HPu.out _ (by first | exact Mod.refl _ _ | exact (Mod.refl _ _).drew)) ?_; rintro e w5 ⟨rfl, ⟨D2, Ds2, Dm2, Db2, hC2, hg2⟩, hm2⟩))
            have hm5 : Mod D' W3 w5 := by first | exact hm2 | exact Mod.of_drew hm2
            have hg5 : ∀ k, D2 k → D' k ∨ b13 ≤ k := fun k hk => by
              have e1 := HAL.out.size
              have e2 := HB13.out
              rcases hg2 k hk with e | e
              · exact .inl e
              · have e' : W3.heap.size ≤ k := e
                exact .inr (by omega)
            have hmw : Mod D' wr w5 := (Mod.of_pure HAL.out).trans hm5
            have hszw := HI.out.mod.size
            have hI5 : AvI w w5 D p tt L mv (some ad0) c7 ad cd Mj dj D2 (j + 1) := ⟨⟨_, _, _, _, _, _, _, hC2, HSt.out⟩, fun k hk => (by
                rcases hg5 k hk with e | e
                · exact HI.out.grew k e
                · have := HB13.out; exact .inr (by omega)),
              owns_mod HI.out.row hmw HI.out.off, fun g hg hk => (by
                rcases hg5 g hk with e | e
                · exact HI.out.off g hg e
                · have := HMVW.out g hg; omega),
              owns_mod HI.out.due hmw (fun g hg => (HI.out.fresh g hg).1), fun g hg => ⟨fun hk => (by
                rcases hg5 g hk with e | e
                · exact (HI.out.fresh g hg).1 e
                · have := HDUW.out g hg; omega), (HI.out.fresh g hg).2⟩,
              HI.out.mod.trans' hmw (fun _ _ h => h) (fun k hk h => (by
                rcases HI.out.grew k h with e | e
                · exact e
                · omega))⟩
            have HI5b := Lib.hid hI5
            clear hm2 hg2 hC2 hm5 hg5 hmw hszw hI5
            go_wp2
            go_roundw
            case rel => exact ⟨j + 1, ad, cd, Mj, dj, D2, by go_num, hlt2, rfl, HI5b.out⟩
            case measure => simp [intOf]; omega
        · have e : j = n := by omega
          subst e
          have hd0 : mv.drop j = [] := List.drop_of_length_le (by rw [HNS.out]; exact Nat.le_refl _)
          rw [hd0] at hAv
          obtain ⟨hinv, hrest⟩ := hAv.fin
          obtain ⟨e1, e2⟩ := adv_end HS.out hAv.perm hAv.due hrest
          have hLm : ∀ x ∈ dj, x ∈ L := fun x hx => hAv.perm.mem_iff.1 (List.mem_append_right _ hx)
          have hso := sort_ok hI.due (by have := hAv.perm.length_eq; have := HP2.out.count; simp at *; omega) (fun x hx y hy e => HP2.out.births x (hLm x hx) y (hLm y hy) e) (by
            have := hAv.perm.nodup_iff.2 HP2.out.ndM
            rw [List.nodup_append] at this
            exact this.2.1)
          have HSo := Lib.hid hso; have HCm := Lib.hid hC; have HInv := Lib.hid hinv; have HE1 := Lib.hid e1; have HE2 := Lib.hid e2
          clear hI hC hAv hd0 hinv hrest e1 e2 hLm hso
          go_wp2_with (go_at_call 53; refine Calls.mono HSo.out ?_; rintro e w9 ⟨rfl, d', s1, s2, s3, hr9, hm9⟩)
          have hdq : d' = dueL tt L := sorted_uniq s1 (HS.out.sublist (List.takeWhile_sublist _)) (s2.trans HE1.out)
          rw [hdq] at hr9 s3
          have hmD : Mod D w w9 := HI.out.mod.then hm9 (fun k hk e => by have := (HI.out.fresh k e).2; omega)
          refine bodyPost_ret (v := .tuple #[.slice ad dj.length cd, .int .i64 0]) (by simp [results, Tryd.results16, go_sem]) rfl ⟨ad, cd, by rw [s3], hr9, ⟨D', ⟨_, _, _, _, _, _, _, (HCm.out.frame hm9 (fun k hk e => (HI.out.fresh k e).1 hk)).perm HE2.out, HInv.out.perm HE2.out, HS.out.sublist (List.dropWhile_sublist _)⟩, HI.out.grew, fun g hg => HI.out.fresh g (by rw [← s3]; exact hg)⟩, hmD⟩
end
end Go.Proofs.YtlalpenfgkfkpaaDoor

/- cascade: Next. Conditions: the cascade lies in memory, the table too. -/
namespace Go.Proofs.YtlalpenfgkfkpaaDoor
open Go.RowKit
set_option maxRecDepth 100000
def nextD (L : List Td) : Nat := match L with
  | [] => 18446744073709551615
  | x :: _ => x.dl
theorem idx_law {w : World} {A : Array Value} {i q : Nat} (hi : i < 8) (h : A[i]? = some (lkP q)) : (Instr.index 53 (.agg A) (.int .i64 i)).run Tryd.prog w = .ok (lkP q) w := by
  have h0 : (0 : Int) ≤ (i : Int) := by omega
  have h8 : (i : Int) < 8 := by omega
  have e1 := Tryd.underlying53
  have e2 := Tryd.isAgg52 w
  have e3 := Tryd.sizeOf52 w
  simp [Instr.index, run_underlying e1, asIntOf, part, h0, h8, e2, e3, h, go_sem]
  intro c
  omega
theorem fld_law (a b c : Value) (w : World) : (Instr.field 31 (.agg #[a, b, c]) 1).run Tryd.prog w = .ok b w := by kernel_rfl
section
variable {w w' : World} {D : Nat → Prop} {p now tt : Nat} {ws : List Nat} {bm bb : Nat} {Ds : Nat → Nat → Prop} {Dm Db : DataW Unit} {M L : List Td} {Lss : List (List (List Nat))} {P : Nat → Prop}
theorem lvl_lt_dl {a b : Nat} (hn : now < 18446744073709551616) (ha : a < 18446744073709551616) (hb : b < 18446744073709551616) (h2 : now < b) (h : lvl now a < lvl now b) : a < b := by
  obtain ⟨a1, a2, a3⟩ := lvl_spec hn ha
  have hd := lvl_diff hn hb h2
  have := div_pow_mono a2 (show lvl now a + 1 ≤ lvl now b by omega)
  exact lt_of_div (m := 256 ^ lvl now b) (by rw [this]; exact hd)
theorem bkt_lt_dl {a b : Nat} (hn : now < 18446744073709551616) (ha : a < 18446744073709551616) (hb : b < 18446744073709551616) (e : lvl now a = lvl now b) (h : bkt now a < bkt now b) : a < b := by
  obtain ⟨a1, a2, a3⟩ := lvl_spec hn ha
  obtain ⟨b1, b2, b3⟩ := lvl_spec hn hb
  unfold bkt at h
  rw [← e] at h b2
  have e2 : a / 256 ^ (lvl now a + 1) = b / 256 ^ (lvl now a + 1) := a2.trans b2.symm
  rw [Nat.pow_succ, ← Nat.div_div_eq_div_mul, ← Nat.div_div_eq_div_mul] at e2
  exact lt_of_div (m := 256 ^ lvl now a) (by omega)
/-- The head is in the first list that is not empty. -/
theorem head_in (h : PInv now L (fun _ => False) Lss) (hn : now < 18446744073709551616) (hs : L.Pairwise bef) {l b s : Nat} (h1 : slotIn Lss l b s) (h2 : ∀ b' s', b' < b → ¬ slotIn Lss l b' s') (h3 : ∀ l' b' s', l' < l → ¬ slotIn Lss l' b' s') :
    ∃ z L', L = z :: L' ∧ slotIn Lss l b z.slot ∧ ∀ y ∈ L, z.dl ≤ y.dl := by
  obtain ⟨_, x, hx, e1, e2, e3⟩ := (h.at_ _ _ _).1 h1
  cases L with
  | nil => cases hx
  | cons z L' =>
    have hz : ∀ y ∈ z :: L', z.dl ≤ y.dl := fun y hy => by
      rcases List.mem_cons.1 hy with rfl | hy
      · exact Nat.le_refl _
      · have := (List.pairwise_cons.1 hs).1 y hy
        unfold bef at this
        omega
    have hzm : z ∈ z :: L' := List.mem_cons_self
    have hzi : slotIn Lss (lvl now z.dl) (bkt now z.dl) z.slot := (h.at_ _ _ _).2 ⟨(fun c => c), z, hzm, rfl, rfl, rfl⟩
    have hzx := hz x hx
    obtain ⟨r1, r2, r3⟩ := h.rng x hx
    obtain ⟨t1, t2, t3⟩ := h.rng z hzm
    have hza := h.after z hzm (fun c => c)
    have hl : ¬ lvl now z.dl < l := fun c => h3 _ _ _ c hzi
    have hl2 : ¬ l < lvl now z.dl := fun c => by
      rw [← e2] at c
      have := lvl_lt_dl hn (a := x.dl) (b := z.dl) (by omega) (by omega) hza c
      omega
    have el : lvl now z.dl = l := by omega
    rw [el] at hzi
    have hb : ¬ bkt now z.dl < b := fun c => h2 _ _ c hzi
    have hb2 : ¬ b < bkt now z.dl := fun c => by
      rw [← e3] at c
      have := bkt_lt_dl hn (a := x.dl) (b := z.dl) (by omega) (by omega) (by omega) c
      omega
    have eb : bkt now z.dl = b := by omega
    rw [eb] at hzi
    exact ⟨z, L', rfl, hzi, hz⟩
theorem eight {ws : List Nat} (h : ws.length = 8) : ∃ a b c d e f g i, ws = [a, b, c, d, e, f, g, i] := by
  match ws, h with
  | [a, b, c, d, e, f, g, i], _ => exact ⟨a, b, c, d, e, f, g, i, rfl⟩
set_option maxHeartbeats 2000000 in
theorem CasAt.next (h : CasAt w D p now L) (hT : TabW w) : Calls Tryd.prog 27 #[lkP p] w fun e w' => e = .returned (.int .u64 (nextD L)) ∧ Pure w w' := by
  obtain ⟨ws, bm, bb, Ds, Dm, Db, Lss, h1, h2, h3⟩ := h
  have hnow := h1.box.now
  have HCk := Lib.hid (ccheck_ok h1.box (s := 0) (by omega))
  obtain ⟨c0, c9, c10, cf, cl⟩ := h1.box.cells
  have hlen := h1.box.len
  obtain ⟨q0, q1, q2, q3, q4, q5, q6, q7, hq⟩ := eight hlen
  have hcl := fun (l q : Nat) (hq : ws[l]? = some q) => h1.box.level hq
  have z0 := hcl 0 q0 (by rw [hq]; rfl)
  have z1 := hcl 1 q1 (by rw [hq]; rfl)
  have z2 := hcl 2 q2 (by rw [hq]; rfl)
  have z3 := hcl 3 q3 (by rw [hq]; rfl)
  have z4 := hcl 4 q4 (by rw [hq]; rfl)
  have z5 := hcl 5 q5 (by rw [hq]; rfl)
  have z6 := hcl 6 q6 (by rw [hq]; rfl)
  have z7 := hcl 7 q7 (by rw [hq]; rfl)
  simp only [Nat.reduceAdd] at z0 z1 z2 z3 z4 z5 z6 z7
  have HQ := Lib.hid hq
  have HC := Lib.hid h1; have HI := Lib.hid h2; have HS := Lib.hid h3; have HT := Lib.hid hT; have HLEN := Lib.hid hlen
  clear h1 h2 h3 hcl hq hT hlen
  go_enter Tryd.func27, Tryd.ntmps27
  go_upto_region 5 with (go_at_call 46; refine Calls.mono HCk.out ?_; rintro e w' ⟨rfl, rfl⟩)
  have hA : ∀ i q : Nat, ws[i]? = some q → (#[lkP q0, lkP q1, lkP q2, lkP q3, lkP q4, lkP q5, lkP q6, lkP q7] : Array Value)[i]? = some (lkP q) := fun i q h => by
    rw [HQ.out] at h
    have : (#[lkP q0, lkP q1, lkP q2, lkP q3, lkP q4, lkP q5, lkP q6, lkP q7] : Array Value) = ([q0, q1, q2, q3, q4, q5, q6, q7].map lkP).toArray := rfl
    rw [this, List.getElem?_toArray, List.getElem?_map, h]
    rfl
  have hAs : (#[lkP q0, lkP q1, lkP q2, lkP q3, lkP q4, lkP q5, lkP q6, lkP q7] : Array Value).size = 8 := rfl
  clear z0 z1 z2 z3 z4 z5 z6 z7
  generalize (#[lkP q0, lkP q1, lkP q2, lkP q3, lkP q4, lkP q5, lkP q6, lkP q7] : Array Value) = A at *
  have HA := Lib.hid hA
  clear hA
  go_loopw [3, 20] (fun v3 v20 wr => ∃ i : Nat, v3 = .int .u64 18446744073709551615 ∧ v20 = .int .i64 (i : Nat) ∧ i ≤ 8 ∧ Pure w wr ∧ ∀ l b s, l < i → ¬ slotIn Lss l b s) (fun _ v20 _ => 8 - (intOf v20).toNat)
  case atStart => exact ⟨0, rfl, rfl, Nat.zero_le _, Mod.refl _ _, fun l b s h => by omega⟩
  case round =>
    obtain ⟨i, rfl, rfl, hi8, hpu, hem⟩ := hrel
    have HPU := Lib.hid hpu; have HEM := Lib.hid hem
    by_cases hlt : i < 8
    · have hlt' : (i : Int) < 8 := by omega
      have i0 : (0 : Int) ≤ (i : Int) := by omega
      have wi : IntKind.i64.wrap ((i : Int) + 1) = (i : Int) + 1 := IntWalk.i64_in _ (by omega)
      have dl8 : decide (i < 8) = true := decide_eq_true hlt
      obtain ⟨q, hq⟩ : ∃ q, ws[i]? = some q := ⟨_, List.getElem?_eq_getElem (by rw [HLEN.out]; exact hlt)⟩
      have hAi := HA.out i q hq
      have hAi2 := idx_law (w := wr) hlt hAi
      obtain ⟨Ls, hLs⟩ : ∃ Ls, Lss[i]? = some Ls := ⟨_, List.getElem?_eq_getElem (by rw [HI.out.len]; exact hlt)⟩
      have hWh := (HC.out.pure hpu).lev i q Ls hq hLs
      have hNx := wnext_ok hWh (HT.out.pure hpu)
      obtain ⟨b, er, hne, hnc⟩ := nextE_cases (neB Ls)
      rw [hne] at hNx
      have HNx := Lib.hid hNx; have HNC := Lib.hid hnc; have HWh := Lib.hid hWh; have HLs := Lib.hid hLs
      clear hpu hem hq hNx hne hnc hWh hLs
      rcases HNC.out with ⟨hf, rfl⟩ | ⟨hf, rfl, rfl⟩
      · obtain ⟨f1, f2, f3⟩ := firstB_spec hf
        obtain ⟨l, hl⟩ : ∃ l, Ls[b]? = some l := ⟨_, List.getElem?_eq_getElem (by rw [HWh.out.len]; exact f1)⟩
        have hne : l ≠ [] := fun e => by
          unfold neB at f2
          rw [hl, e] at f2
          cases f2
        obtain ⟨s0, hs0⟩ := List.exists_mem_of_ne_nil l hne
        obtain ⟨z, L', hLz, hzi, hzm⟩ := head_in HI.out hnow HS.out (l := i) (b := b) (s := s0) ⟨Ls, l, HLs.out, hl, hs0⟩ (fun b' s' hb' hsl => by
            obtain ⟨A1, B1, g1, g2, g3⟩ := hsl
            rw [HLs.out] at g1
            cases g1
            have := f3 b' hb'
            unfold neB at this
            rw [g2] at this
            cases B1 with
            | nil => cases g3
            | cons y B1 => simp at this) HEM.out
        have hzl : z.slot ∈ l := by
          obtain ⟨A1, B1, g1, g2, g3⟩ := hzi
          rw [HLs.out] at g1; cases g1
          rw [hl] at g2; cases g2
          exact g3
        have hsl : ∀ s ∈ l, ∃ x ∈ L, x.slot = s := fun s hs => by
          obtain ⟨_, x, hx, e, _⟩ := (HI.out.at_ i b s).1 ⟨Ls, l, HLs.out, hl, hs⟩
          exact ⟨x, hx, e⟩
        have HZM2 := Lib.hid (show z ∈ L by rw [hLz]; exact List.mem_cons_self)
        have hnd : nextD L = z.dl := by rw [hLz]; rfl
        have hzr := HI.out.rng z (by rw [hLz]; exact List.mem_cons_self)
        have hll := (HWh.out.small hl).1
        have hLi := wlist_ok HWh.out hl
        obtain ⟨n, hn⟩ : ∃ n, l.length = n := ⟨_, rfl⟩
        rw [hn] at hLi hll
        have HLi := Lib.hid hLi; have HN := Lib.hid hn; have HZL := Lib.hid hzl; have HZM := Lib.hid hzm; have HSL := Lib.hid hsl; have HND := Lib.hid hnd; have HZR := Lib.hid hzr
        clear hf f1 f2 f3 hl hne hs0 hLz hzi hLi hn hzl hzm hsl hnd hzr HNC
        go_upto_region 11 with (first
          | (go_at_call 64; refine Calls.mono HNx.out ?_; rintro e w' ⟨rfl, rfl⟩)
          | (go_at_call 65; refine Calls.mono HLi.out ?_; rintro e w2 ⟨a, c, rfl, hr2, hf2, hp2⟩))
        have HR2 := Lib.hid hr2; have HP2 := Lib.hid (HPU.out.trans hp2)
        clear hr2 hf2 hp2
        go_loopw [3, 38] (fun v3 v38 wq => ∃ j m : Nat, v3 = .int .u64 (m : Nat) ∧ v38 = .int .i64 (j : Nat) ∧ j ≤ n ∧ z.dl ≤ m ∧ m ≤ 18446744073709551615 ∧ (z.slot ∈ l.take j → m = z.dl) ∧ Pure w wq ∧ NumRow wq a c l) (fun _ v38 _ => n - (intOf v38).toNat)
        case atStart => exact ⟨0, 18446744073709551615, rfl, rfl, Nat.zero_le _, by have := HZR.out.2.1; omega, Nat.le_refl _, (fun h => by simp at h), HP2.out, HR2.out⟩
        case round =>
          obtain ⟨j, m, rfl, rfl, hjn, hzm, hm64, hmz, hpq, hrq⟩ := hrel
          have HPQ := Lib.hid hpq; have HRQ := Lib.hid hrq
          by_cases hltj : j < n
          · have hlt2 : (j : Int) < (n : Int) := by omega
            have j0 : (0 : Int) ≤ (j : Int) := by omega
            have wj : IntKind.i64.wrap ((j : Int) + 1) = (j : Int) + 1 := IntWalk.i64_in _ (by omega)
            obtain ⟨s, hs⟩ : ∃ s, l[j]? = some s := ⟨_, List.getElem?_eq_getElem (by rw [HN.out]; exact hltj)⟩
            obtain ⟨x, hx, rfl⟩ := HSL.out s (List.mem_of_getElem? hs)
            obtain ⟨ad, had, y0⟩ := read_num (num_read hrq) hs
            obtain ⟨r1, r2, r3, r4⟩ := HI.out.rng x hx
            have hCq := HC.out.pure hpq
            have hlk := hCq.what.look1 hx (by omega)
            unfold tdV at hlk
            obtain ⟨c0', c9', c10', cf', cl'⟩ := hCq.box.cells
            have hzx := HZM.out x hx
            have htk : l.take (j + 1) = l.take j ++ [x.slot] := by rw [List.take_add_one, hs]; rfl
            have hxz : x.slot = z.slot → x.dl = z.dl := fun e => by
              rw [HI.out.slots x hx z HZM2.out e]
            have HPX := Lib.hid hxz; have HTK := Lib.hid htk
            subst had
            clear hs hx hxz htk hCq hpq hrq
            have hfl := fld_law (.int .u32 x.slot) (.int .u64 x.dl) (.int .u64 x.birth) wr
            go_wp2
            refine ⟨⟨j + 1, min m x.dl, ?_, by go_num, hltj, by omega, by omega, fun hz => ?_, HPQ.out, HRQ.out⟩, ?_⟩
            · rw [show ((min m x.dl : Nat) : Int) = min (m : Int) (x.dl : Int) by omega]
            · rw [HTK.out] at hz
              rcases List.mem_append.1 hz with hz | hz
              · have := hmz hz; omega
              · rw [List.mem_singleton] at hz
                have := HPX.out hz.symm
                omega
            · simp [intOf]; omega
          · have e : j = n := by omega
            subst e
            have hm : m = z.dl := hmz (by rw [List.take_of_length_le (by rw [HN.out]; exact Nat.le_refl _)]; exact HZL.out)
            have HM := Lib.hid hm
            clear hpq hrq hm hmz hzm
            go_wp2
            go_ret
            exact ⟨by rw [HND.out, HM.out]; rfl, HPQ.out⟩
      · have hz := firstB_spec0 hf
        have hz2 : ∀ b s, ¬ slotIn Lss i b s := fun b s hsl => by
          obtain ⟨A1, B1, g1, g2, g3⟩ := hsl
          rw [HLs.out] at g1
          cases g1
          have hb : b < 256 := by have := (List.getElem?_eq_some_iff.1 g2).1; rw [HWh.out.len] at this; exact this
          have := hz b hb
          unfold neB at this
          rw [g2] at this
          cases B1 with
          | nil => cases g3
          | cons y B1 => simp at this
        have HZ2 := Lib.hid hz2
        clear hf hz hz2 HNC
        go_wp2_with (go_at_call 64; refine Calls.mono HNx.out ?_; rintro e w' ⟨rfl, rfl⟩)
        go_roundw
        case rel => exact ⟨i + 1, rfl, by go_num, hlt, HPU.out, fun l b s hl => by
          rcases Nat.lt_or_ge l i with h | h
          · exact HEM.out l b s h
          · have : l = i := by omega
            subst this
            exact HZ2.out b s⟩
        case measure => simp [intOf]; omega
    · have e : i = 8 := by omega
      subst e
      have hL0 : L = [] := by
        cases hL : L with
        | nil => rfl
        | cons z L' =>
          exfalso
          have hzm : z ∈ L := by rw [hL]; exact List.mem_cons_self
          have hr := HI.out.rng z hzm
          have hz := (HI.out.at_ (lvl now z.dl) (bkt now z.dl) z.slot).2 ⟨(fun c => c), z, hzm, rfl, rfl, rfl⟩
          exact HEM.out _ _ _ (lvl_spec hnow (dl := z.dl) (by omega)).1 hz
      have hnd : nextD L = 18446744073709551615 := by rw [hL0]; rfl
      have HN0 := Lib.hid hnd
      clear hpu hem hL0 hnd
      go_wp2
      go_ret
      exact ⟨by rw [HN0.out]; rfl, HPU.out⟩
end
end Go.Proofs.YtlalpenfgkfkpaaDoor

/- law20: timed, where, advances. Conditions: the cascade lies in memory, the list that is expected is read. -/
namespace Go.Proofs.YtlalpenfgkfkpaaDoor
open Go.RowKit
set_option maxRecDepth 100000
theorem timed_ok (s d b : Nat) (w : World) : Calls Tryd.prog 12 #[.int .u32 s, .int .u64 d, .int .u64 b] w fun e w' => e = .returned (tdV ⟨s, d, b⟩) ∧ Pure w w' := by
  have hal : Pure w (w.alloc (.cells #[.int .u32 0, .int .u64 0, .int .u64 0] 31)) := (Mod.refl _ w).alloc _
  have h6 := heap_new (w := w) (o := .cells #[.int .u32 0, .int .u64 0, .int .u64 0] 31 (0, 0)) rfl
  obtain ⟨b6, hb6⟩ : ∃ b6, w.heap.size = b6 := ⟨_, rfl⟩
  have HAL := Lib.hid hal
  clear hal
  go_enter Tryd.func12, Tryd.ntmps12
  go_upto_region 1 with fail
  generalize w.alloc (.cells #[.int .u32 0, .int .u64 0, .int .u64 0] 31) = W1 at *
  (try rw [hb6] at h6)
  have HB6 := Lib.hid hb6
  clear hb6
  have h6_0 := cell_of_row _ _ 0 _ _ _ h6; have h6_1 := cell_of_row _ _ 1 _ _ _ h6; have h6_2 := cell_of_row _ _ 2 _ _ _ h6; have h6_f := (fun j => frozen_of_row _ _ j _ _ h6); have h6_l := lt_of_block h6; simp at h6_0 h6_1 h6_2; have H_h6 := Lib.hid h6; clear h6
  go_wp2
  have hm : Mod (fun k => k = b6) W1 (((W1.setCell ⟨b6, 0, none⟩ (.int .u32 s)).setCell ⟨b6, 1, none⟩ (.int .u64 d)).setCell ⟨b6, 2, none⟩ (.int .u64 b)) :=
    (((Mod.refl (fun k => k = b6) W1).setCell (p := ⟨b6, 0, none⟩) (fun _ => rfl) _).setCell (p := ⟨b6, 1, none⟩) (fun _ => rfl) _).setCell (p := ⟨b6, 2, none⟩) (fun _ => rfl) _
  have hp := HAL.out.then hm (fun k hk e => by have := HB6.out; omega)
  exact bodyPost_ret (v := tdV ⟨s, d, b⟩) (by simp [results, Tryd.results12, go_sem, h6_0, h6_1, h6_2, h6_l, tdV]) rfl ⟨rfl, hp⟩
section
variable {w w' : World} {D : Nat → Prop} {p now tt : Nat} {L : List Td}
/-- What Advance gives, and leaves. -/
def aErr (now tt : Nat) : Int := if tt < now then 3 else 0
def aOut (now tt : Nat) (L : List Td) : List Td := if now < tt then dueL tt L else []
def aNow (now tt : Nat) : Nat := if now < tt then tt else now
def aRest (now tt : Nat) (L : List Td) : List Td := if now < tt then restL tt L else L
theorem CasAt.advAny (h : CasAt w D p now L) (hT : TabW w) (h0 : ¬ D 0) (ht : tt < 18446744073709551616) :
    Calls Tryd.prog 16 #[lkP p, .int .u64 tt] w fun e w' => ∃ a c, e = .returned (.tuple #[.slice a (aOut now tt L).length c, .int .i64 (aErr now tt)]) ∧ TdRow w' a c (aOut now tt L) ∧ (∃ D', CasAt w' D' p (aNow now tt) (aRest now tt L) ∧ grewD D D' w ∧ ∀ g, (Value.slice a (aOut now tt L).length c).ownBlock = some g → ¬ D' g ∧ w.heap.size ≤ g) ∧ Mod D w w' := by
  unfold aErr aOut aNow aRest
  by_cases hn : now < tt
  · rw [if_pos hn, if_pos hn, if_pos hn, if_neg (by omega)]
    exact h.adv hT h0 hn ht
  · rw [if_neg hn, if_neg hn, if_neg hn]
    refine (h.adv_no (tt := tt) (by omega)).mono ?_
    rintro e w' ⟨rfl, rfl⟩
    exact ⟨none, 0, rfl, World.ownsRow_nil _ _ _ _, ⟨D, h, grewD.refl _ _, fun g hg => by cases hg⟩, Mod.refl _ _⟩
theorem CasAt.count (h : CasAt w D p now L) : L.length ≤ 4194304 := by
  obtain ⟨ws, bm, bb, Ds, Dm, Db, Lss, h1, h2, h3⟩ := h
  exact h2.count
theorem aOut_le : (aOut now tt L).length ≤ L.length := by
  unfold aOut dueL
  split
  · exact (List.takeWhile_sublist _).length_le
  · exact Nat.zero_le _
/-- The table and the cascade, apart. -/
structure CasT (w : World) (D : Nat → Prop) (p now : Nat) (L : List Td) : Prop where
  at_ : CasAt w D p now L
  tab : TabW w
  off : ¬ D 0
theorem CasT.frame {S : Nat → Prop} (h : CasT w D p now L) (hm : Mod S w w') (hd : ∀ k, D k → ¬ S k) (h0 : ¬ S 0) : CasT w' D p now L := ⟨h.at_.frame hm hd, h.tab.mod hm h0, h.off⟩
theorem CasT.pure (h : CasT w D p now L) (hm : Pure w w') : CasT w' D p now L := h.frame hm (fun _ _ h => h) (fun h => h)
theorem CasT.next {D' : Nat → Prop} {now' : Nat} {L' : List Td} (h : CasT w D p now L) (hc : CasAt w' D' p now' L') (hg : grewD D D' w) (hm : Mod D w w') : CasT w' D' p now' L' :=
  ⟨hc, h.tab.mod hm h.off, fun e => by
    rcases hg 0 e with e | e
    · exact h.off e
    · have := h.tab.lt; omega⟩
theorem advances_ok (h : CasT w D p now L) (ht : tt < 18446744073709551616) {a2 : Option Addr} {n2 c2 : Nat} (hn2 : n2 = (aOut now tt L).length) (hw : ReadAt w (.slice a2 n2 c2) 3 ((aOut now tt L).flatMap tdC)) (hwD : ∀ g, rdBlock (.slice a2 n2 c2) = some g → ¬ D g) {er : Int} (he : er = aErr now tt) :
    Calls Tryd.prog 22 #[lkP p, .int .u64 tt, .slice a2 n2 c2, .int .i64 er] w fun e w' => e = .returned (.bool true) ∧ (∃ D', CasT w' D' p (aNow now tt) (aRest now tt L) ∧ grewD D D' w) ∧ Mod D w w' := by
  subst hn2 he
  have HAd := Lib.hid (h.at_.advAny h.tab h.off ht)
  have hle := Nat.le_trans (aOut_le (now := now) (tt := tt) (L := L)) h.at_.count
  have HH := Lib.hid h
  have HW := Lib.hid hw; have HWD := Lib.hid hwD
  obtain ⟨lo, hlo⟩ : ∃ lo, aOut now tt L = lo := ⟨_, rfl⟩
  obtain ⟨er, her⟩ : ∃ er, aErr now tt = er := ⟨_, rfl⟩
  rw [hlo, her] at HAd
  rw [hlo] at HW HWD hle
  rw [hlo, her]
  obtain ⟨n, hn⟩ : ∃ n, lo.length = n := ⟨_, rfl⟩
  rw [hn] at HAd HW HWD hle
  rw [hn]
  have HN := Lib.hid hn
  clear h hw hwD hlo her hn
  go_enter Tryd.func22, Tryd.ntmps22
  go_upto_region 2 with (go_at_call 16; refine Calls.mono HAd.out ?_; rintro e w1 ⟨a1, c1, rfl, hr1, ⟨D1, hC1, hg1, hf1⟩, hm1⟩)
  have hS := rsame_ok (L := lo) (by have : ReadAt w1 (.slice a1 lo.length c1) 3 (lo.flatMap tdC) := hr1.rd; rw [HN.out] at this; exact this) (HW.out.frame hm1 HWD.out) HN.out hle
  have HSm := Lib.hid hS
  have HC1 := Lib.hid (HH.out.next hC1 hg1 hm1); have HG1 := Lib.hid hg1; have HM1 := Lib.hid hm1
  clear hr1 hC1 hg1 hf1 hm1 hS
  go_wp2_with (go_at_call 17; refine Calls.mono HSm.out ?_; rintro e w2 ⟨rfl, hp2⟩)
  go_ret
  exact ⟨rfl, ⟨D1, HC1.out.pure hp2, HG1.out⟩, HM1.out.trans (Mod.of_pure hp2)⟩
theorem where_ok (h : CasAt w D p now L) {s : Nat} (h32 : s ≤ 4294967295) {l b er : Int} (he : whE now L s = .tuple #[.int .i64 l, .int .i64 b, .int .i64 er]) :
    Calls Tryd.prog 26 #[lkP p, .int .u32 s, .int .i64 l, .int .i64 b, .int .i64 er] w fun e w' => e = .returned (.bool true) ∧ Pure w w' := by
  have hw := h.where_ h32
  rw [he] at hw
  have HW := Lib.hid hw
  clear h hw he
  go_enter Tryd.func26, Tryd.ntmps26
  go_wp2_with (go_at_call 63; refine Calls.mono HW.out ?_; rintro e w2 ⟨rfl, hp2⟩)
  go_ret
  exact ⟨rfl, hp2⟩
end
end Go.Proofs.YtlalpenfgkfkpaaDoor

/- law20.CascadeHolds by plain lists. No condition. -/
namespace Go.Proofs.YtlalpenfgkfkpaaDoor
section
variable {now one two tt : Nat} {L tk : List Td}
theorem takeWhile_split (h : one ≤ two) : ∀ (L : List Td), dueL one L ++ dueL two (restL one L) = dueL two L ∧ restL two (restL one L) = restL two L
  | [] => ⟨rfl, rfl⟩
  | a :: L => by
    have ih := takeWhile_split h L
    unfold dueL restL at *
    by_cases c : a.dl ≤ one
    · have c2 : a.dl ≤ two := by omega
      simp only [List.takeWhile_cons, List.dropWhile_cons, c, c2, decide_true, if_true, List.cons_append, ih.1, ih.2, and_self]
    · simp only [List.takeWhile_cons, List.dropWhile_cons, c, decide_false, Bool.false_eq_true, if_false, List.nil_append, and_self]
theorem aOut_all (hn : ∀ x ∈ L, now < x.dl) (h : now ≤ tt) : aOut now tt L = dueL tt L ∧ aRest now tt L = restL tt L ∧ aNow now tt = tt ∧ aErr now tt = 0 := by
  unfold aOut aRest aNow aErr
  by_cases c : now < tt
  · rw [if_pos c, if_pos c, if_pos c, if_neg (by omega)]
    exact ⟨rfl, rfl, rfl, rfl⟩
  · have e : now = tt := by omega
    subst e
    rw [if_neg c, if_neg c, if_neg c, if_neg c]
    unfold dueL restL
    have hz : ∀ (A : List Td), (∀ x ∈ A, now < x.dl) → A.takeWhile (fun x => decide (x.dl ≤ now)) = [] ∧ A.dropWhile (fun x => decide (x.dl ≤ now)) = A := fun A hA => by
      cases A with
      | nil => exact ⟨rfl, rfl⟩
      | cons a A =>
        have := hA a List.mem_cons_self
        have c : ¬ a.dl ≤ now := by omega
        simp [c]
    exact ⟨(hz L hn).1.symm, (hz L hn).2.symm, rfl, rfl⟩
theorem rest_gt (hs : L.Pairwise bef) : ∀ x ∈ restL tt L, tt < x.dl := fun x hx => by
  unfold restL at hx
  rw [(takeWhile_filter hs).2] at hx
  have := (List.mem_filter.1 hx).2
  simp at this
  omega
theorem due_le (hs : L.Pairwise bef) {x : Td} : x ∈ dueL tt L ↔ x ∈ L ∧ x.dl ≤ tt := by
  unfold dueL
  rw [(takeWhile_filter hs).1, List.mem_filter]
  simp
theorem rest_mem (hs : L.Pairwise bef) {x : Td} : x ∈ restL tt L ↔ x ∈ L ∧ tt < x.dl := by
  unfold restL
  rw [(takeWhile_filter hs).2, List.mem_filter]
  simp
theorem holds_sum (hs : L.Pairwise bef) (hn : ∀ x ∈ L, now < x.dl) (h1 : now ≤ one) (h2 : one ≤ two) : dueL one L ++ dueL two (restL one L) = dueL two L := (takeWhile_split h2 L).1
theorem due_pos (hs : L.Pairwise bef) (h2 : one ≤ two) {i : Nat} {x : Td} (hx : (dueL two L)[i]? = some x) : (i < (dueL one L).length → x.dl ≤ one) ∧ ((dueL one L).length ≤ i → one < x.dl) := by
  rw [← (takeWhile_split h2 L).1] at hx
  constructor
  · intro h
    rw [List.getElem?_append_left h] at hx
    exact ((due_le hs).1 (List.mem_of_getElem? hx)).2
  · intro h
    rw [List.getElem?_append_right h] at hx
    have := List.mem_of_getElem? hx
    unfold dueL at this
    exact rest_gt hs x ((List.takeWhile_sublist _).subset this)
theorem all_while {p : Td → Bool} : ∀ (A : List Td), (∀ x ∈ A, p x = true) → A.takeWhile p = A ∧ A.dropWhile p = []
  | [], _ => ⟨rfl, rfl⟩
  | a :: A, h => by
    obtain ⟨i1, i2⟩ := all_while A (fun x hx => h x (List.mem_cons_of_mem _ hx))
    have := h a List.mem_cons_self
    simp [this, i1, i2]
theorem due_never (h : ∀ x ∈ L, x.dl < 18446744073709551615) : dueL 18446744073709551615 L = L ∧ restL 18446744073709551615 L = [] :=
  all_while L (fun x hx => by have := h x hx; simp; omega)
theorem due_rest_len : (dueL tt L).length + (restL tt L).length = L.length := by
  unfold dueL restL
  rw [← List.length_append, List.takeWhile_append_dropWhile]
theorem find_first (hu : ∀ x ∈ L, ∀ y ∈ L, x.slot = y.slot → x = y) (hnd : L.Nodup) {i : Nat} {x : Td} (hx : L[i]? = some x) : findR (L.take i) x.slot = -1 := by
  apply find_spec0
  intro j y hy e
  rw [List.getElem?_take] at hy
  split at hy
  · rename_i hj
    have hi := (List.getElem?_eq_some_iff.1 hx).1
    have hxm := List.mem_of_getElem? hx
    have hym := List.mem_of_getElem? hy
    have := hu y hym x hxm e
    subst this
    have hjl := (List.getElem?_eq_some_iff.1 hy).1
    have e1 := (List.getElem?_eq_some_iff.1 hx).2
    have e2 := (List.getElem?_eq_some_iff.1 hy).2
    exact (List.pairwise_iff_getElem.1 hnd) j i hjl hi hj (by rw [e1, e2])
  · cases hy
theorem find_in {s : Nat} (h : ∃ x ∈ L, x.slot = s) : 0 ≤ findR L s := by
  have := hasB_iff.2 h
  unfold findR
  rw [if_pos this]
  omega
theorem find_out {s : Nat} (h : ∀ x ∈ L, x.slot ≠ s) : findR L s = -1 := by
  unfold findR
  rw [if_neg]
  intro hh
  obtain ⟨x, hx, e⟩ := hasB_iff.1 hh
  exact h x hx e
theorem get_in (hu : ∀ x ∈ L, ∀ y ∈ L, x.slot = y.slot → x = y) {x : Td} (hx : x ∈ L) (hs : x.slot < 4194304) : getT L x.slot = (x, 0) := by
  rcases getT_cases L x.slot with ⟨_, _, y, e1, e2, e3, _⟩ | ⟨h1 | h1, _⟩
  · rw [e1, hu y (List.mem_of_getElem? e3) x hx e2]
  · exact absurd hs h1
  · have := hasB_iff.2 ⟨x, hx, rfl⟩
    rw [h1] at this
    cases this
theorem get_out {s : Nat} (h : ∀ x ∈ L, x.slot ≠ s) (hs : s < 4194304) : getT L s = (zTd, 9) := by
  refine getT_miss hs (find_none ?_)
  cases hh : hasB L s with
  | false => rfl
  | true => obtain ⟨x, hx, e⟩ := hasB_iff.1 hh; exact absurd e (h x hx)
/-- What was taken so far. -/
structure Tak (now i : Nat) (tk L : List Td) : Prop where
  perm : tk.Perm L
  slots : ∀ x ∈ tk, x.slot < i ∧ x.birth = x.slot + 1
  len : tk.length ≤ i
theorem Tak.new (now : Nat) : Tak now 0 [] [] := ⟨List.Perm.refl _, (fun _ h => by cases h), Nat.le_refl _⟩
theorem Tak.next {i d : Nat} (h : Tak now i tk L) (hi : i < 4194304) : (schR now L ⟨i, d, i + 1⟩ = 0 ∧ Tak now (i + 1) (tk ++ [⟨i, d, i + 1⟩]) (schL now L ⟨i, d, i + 1⟩)) ∨ (schR now L ⟨i, d, i + 1⟩ ≠ 0 ∧ Tak now (i + 1) tk (schL now L ⟨i, d, i + 1⟩)) := by
  have n1 : hasB L i = false := by
    cases hh : hasB L i with
    | false => rfl
    | true =>
      obtain ⟨y, hy, e⟩ := hasB_iff.1 hh
      have := (h.slots y (h.perm.mem_iff.2 hy)).1
      omega
  have n2 : bornB L (i + 1) = false := by
    cases hh : bornB L (i + 1) with
    | false => rfl
    | true =>
      obtain ⟨y, hy, e⟩ := bornB_iff.1 hh
      have := h.slots y (h.perm.mem_iff.2 hy)
      omega
  by_cases e : schE now ⟨i, d, i + 1⟩ = 0
  · have er : schR now L ⟨i, d, i + 1⟩ = 0 := by unfold schR; rw [if_pos e]; simp [n1, n2]
    refine .inl ⟨er, ?_, fun x hx => ?_, ?_⟩
    · unfold schL
      rw [if_pos er]
      exact (List.perm_append_comm.trans (h.perm.cons _)).trans putL_perm.symm
    · rcases List.mem_append.1 hx with hx | hx
      · have := h.slots x hx
        exact ⟨by omega, this.2⟩
      · rw [List.mem_singleton] at hx
        rw [hx]
        exact ⟨by show i < i + 1; omega, rfl⟩
    · rw [List.length_append]
      have := h.len
      simp
      omega
  · have er : schR now L ⟨i, d, i + 1⟩ ≠ 0 := by unfold schR; rw [if_neg e]; exact e
    refine .inr ⟨er, ?_, fun x hx => ?_, by have := h.len; omega⟩
    · unfold schL
      rw [if_neg er]
      exact h.perm
    · have := h.slots x hx
      exact ⟨by omega, this.2⟩
end
end Go.Proofs.YtlalpenfgkfkpaaDoor

/- cascade: New. Conditions: the time is one. -/
namespace Go.Proofs.YtlalpenfgkfkpaaDoor
open Go.RowKit
set_option maxRecDepth 100000
/-- The box while the levels are made. -/
def casN (now : Nat) (ws : List Nat) (bm bb : Nat) : List Value := .int .u64 now :: ((ws.map lkP ++ List.replicate (8 - ws.length) (.pointer none)) ++ [.map (some bm), .map (some bb)])
theorem casN_full {now bm bb : Nat} {ws : List Nat} (h : ws.length = 8) : casN now ws bm bb = casC now ws bm bb := by
  unfold casN casC
  rw [h]
  simp
theorem casN_set {now bm bb : Nat} {ws : List Nat} (h : ws.length < 8) (q : Nat) : (casN now ws bm bb).set (1 + ws.length) (lkP q) = casN now (ws ++ [q]) bm bb := by
  unfold casN
  obtain ⟨m, hm⟩ : ∃ m, 8 - ws.length = m + 1 := ⟨8 - ws.length - 1, by omega⟩
  have hm2 : 8 - (ws ++ [q]).length = m := by simp; omega
  rw [hm, hm2, show 1 + ws.length = ws.length + 1 from Nat.add_comm _ _, List.set_cons_succ, List.set_append_left _ _ (by simp), List.set_append_right _ _ (by simp)]
  simp [List.replicate_succ]
structure NwI (w wr : World) (p now bm bb i : Nat) (ws : List Nat) (Ds : Nat → Nat → Prop) : Prop where
  box : wr.heap[p]? = some (.cells (casN now ws bm bb).toArray 57 (0, 0))
  len : ws.length = i
  what : TMap wr bm [] (.map [])
  births : BMap wr bb [] (.map [])
  lev : ∀ (l q : Nat), ws[l]? = some q → WhAt wr (Ds l) q (List.replicate 256 [])
  apart : ∀ l l' k, l < i → l' < i → l ≠ l' → Ds l k → ¬ Ds l' k
  own : ∀ l k, l < i → Ds l k → p < k ∧ k < wr.heap.size
  ge : w.heap.size ≤ p ∧ w.heap.size ≤ bm ∧ w.heap.size ≤ bb ∧ bm < p ∧ bb < p ∧ bm ≠ bb
  pure : Pure w wr
theorem NwI.step {w wr w2 : World} {p now bm bb i q : Nat} {ws : List Nat} {Ds : Nat → Nat → Prop} {D2 : Nat → Prop} (h : NwI w wr p now bm bb i ws Ds) (hi : i < 8) (hw : WhAt w2 D2 q (List.replicate 256 [])) (hp : Pure wr w2) (hf : ∀ k, D2 k → wr.heap.size ≤ k) :
    NwI w (w2.setCell ⟨p, 1 + i, none⟩ (lkP q)) p now bm bb (i + 1) (ws ++ [q]) (setF Ds i D2) := by
  have hm : Mod (fun k => k = p) w2 (w2.setCell ⟨p, 1 + i, none⟩ (lkP q)) := (Mod.refl (fun k => k = p) w2).setCell (p := ⟨p, 1 + i, none⟩) (fun _ => rfl) _
  have hplt := lt_of_block h.box
  have hle := hp.size
  have hle2 := hm.size
  obtain ⟨g1, g2, g3, g4, g5, g6⟩ := h.ge
  have hb2 := hp.heap (fun h => h) h.box
  refine ⟨?_, by rw [List.length_append, h.len]; rfl, (h.what.mod hp (fun h => h)).mod hm (by show ¬ bm = p; omega), (h.births.mod hp (fun h => h)).mod hm (by show ¬ bb = p; omega), fun l q' hq => ?_, fun l l' k hl hl' hne hk => ?_, fun l k hl hk => ?_, h.ge, h.pure.trans hp |>.then hm (fun k hk e => by omega)⟩
  · rw [heap_setCell_same w2 p (1 + i) _ _ (lkP q) hb2, ← casN_set (by rw [h.len]; exact hi), h.len]
    congr 2
    exact List.setIfInBounds_toArray ..
  · unfold setF
    by_cases e : l = i
    · subst e
      rw [if_pos rfl]
      rw [List.getElem?_append_right (by rw [h.len]; exact Nat.le_refl _), h.len, Nat.sub_self] at hq
      cases hq
      exact hw.frame hm (fun k hk e => by have := hf k hk; omega)
    · rw [if_neg e]
      have hl : l < ws.length := by
        have := (List.getElem?_eq_some_iff.1 hq).1
        rw [List.length_append] at this
        have hln := h.len
        simp at this
        omega
      rw [List.getElem?_append_left hl] at hq
      exact ((h.lev l q' hq).pure hp).frame hm (fun k hk e => by have := (h.own l k (by rw [← h.len]; exact hl) hk).1; omega)
  · unfold setF at hk ⊢
    by_cases e : l = i
    · rw [if_pos e] at hk
      rw [if_neg (by omega)]
      intro hk3
      have := (h.own l' k (by omega) hk3).2
      have := hf k hk
      omega
    · rw [if_neg e] at hk
      by_cases e3 : l' = i
      · rw [if_pos e3]
        intro hk3
        have := (h.own l k (by omega) hk).2
        have := hf k hk3
        omega
      · rw [if_neg e3]
        exact h.apart l l' k (by omega) (by omega) hne hk
  · unfold setF at hk
    by_cases e : l = i
    · rw [if_pos e] at hk
      have h1 := hf k hk
      have h2 := hw.lt hk
      exact ⟨by omega, by omega⟩
    · rw [if_neg e] at hk
      have := h.own l k (by omega) hk
      exact ⟨this.1, by omega⟩
theorem NwI.fin {w wr : World} {p now bm bb : Nat} {ws : List Nat} {Ds : Nat → Nat → Prop} (h : NwI w wr p now bm bb 8 ws Ds) (hn : now < 18446744073709551616) : ∃ D, CasAt wr D p now [] ∧ ∀ k, D k → w.heap.size ≤ k := by
  obtain ⟨g1, g2, g3, g4, g5, g6⟩ := h.ge
  refine ⟨fun k => k = p ∨ k = bm ∨ k = bb ∨ ∃ l, l < 8 ∧ Ds l k, ⟨ws, bm, bb, Ds, .map [], .map [], List.replicate 8 (List.replicate 256 []), ⟨⟨?_, h.len, hn⟩, h.what, h.births, List.length_replicate, fun l q Ls hq hL => ?_, h.apart, fun l k hl hk => ?_, ⟨g6, by omega, by omega⟩, fun k => Iff.rfl⟩, PInv.new now, List.Pairwise.nil⟩, fun k hk => ?_⟩
  · rw [← casN_full h.len]; exact h.box
  · rw [List.getElem?_replicate] at hL
    split at hL
    · cases hL; exact h.lev l q hq
    · cases hL
  · have := (h.own l k hl hk).1
    exact ⟨by omega, by omega, by omega⟩
  · rcases hk with rfl | rfl | rfl | ⟨l, hl, hk⟩
    · exact g1
    · exact g2
    · exact g3
    · have := (h.own l k hl hk).1; omega
theorem NwI.cell {w wr w2 : World} {p now bm bb i : Nat} {ws : List Nat} {Ds : Nat → Nat → Prop} (h : NwI w wr p now bm bb i ws Ds) (hi : i < 8) (hp : Pure wr w2) : w2.cell? ⟨p, 1 + i, none⟩ = some (.pointer none) ∧ (∀ j, w2.frozen? ⟨p, j, none⟩ = false) ∧ p < w2.heap.size := by
  have hb2 := hp.heap (fun h => h) h.box
  refine ⟨?_, fun j => frozen_of_row w2 p j _ _ hb2, lt_of_block hb2⟩
  rw [cell_of_row w2 p (1 + i) _ _ (0, 0) hb2, List.getElem?_toArray]
  unfold casN
  have hl := h.len
  rw [show 1 + i = i + 1 from Nat.add_comm _ _, List.getElem?_cons_succ, List.getElem?_append_left (by simp; omega), List.getElem?_append_right (by simp; omega), List.getElem?_replicate, if_pos (by simp; omega)]
set_option maxHeartbeats 1000000 in
theorem cnew_ok (w : World) {now : Nat} (hn : now < 18446744073709551616) : Calls Tryd.prog 11 #[.int .u64 now] w fun e w' => ∃ p D, e = .returned (lkP p) ∧ CasAt w' D p now [] ∧ Pure w w' ∧ ∀ k, D k → w.heap.size ≤ k := by
  have t0 := TMap.new w
  have a1 : Pure w (w.alloc (.map #[] 0)) := (Mod.refl _ w).alloc _
  have a2 : Pure (w.alloc (.map #[] 0)) ((w.alloc (.map #[] 0)).alloc (.map #[] 0)) := (Mod.refl _ _).alloc _
  have b0 := BMap.new (w.alloc (.map #[] 0))
  have hs : (w.alloc (.map #[] 0)).heap.size = w.heap.size + 1 := by simp
  have hs2 : ((w.alloc (.map #[] 0)).alloc (.map #[] 0)).heap.size = w.heap.size + 2 := by simp
  have a3 : Pure ((w.alloc (.map #[] 0)).alloc (.map #[] 0)) (((w.alloc (.map #[] 0)).alloc (.map #[] 0)).alloc (.cells (casN now [] w.heap.size (w.heap.size + 1)).toArray 57)) := (Mod.refl _ _).alloc _
  have hI : NwI w (((w.alloc (.map #[] 0)).alloc (.map #[] 0)).alloc (.cells (casN now [] w.heap.size (w.heap.size + 1)).toArray 57)) (w.heap.size + 1 + 1) now w.heap.size (w.heap.size + 1) 0 [] (fun _ _ => False) :=
    ⟨heap_new hs2.symm, rfl, (t0.mod a2 (fun h => h)).mod a3 (fun h => h), by have := b0.mod a3 (fun h => h); rw [hs] at this; exact this, (fun l q h => by cases h), (fun l l' k h => by omega), (fun l k h => by omega), ⟨by omega, by omega, by omega, by omega, by omega, by omega⟩, (a1.trans a2).trans a3⟩
  have HI := Lib.hid hI; have HN := Lib.hid hn
  clear t0 a1 a2 b0 hs hs2 a3 hI
  have hmm := @run_makeMap Tryd.prog
  unfold casN at HI
  simp at HI
  go_enter Tryd.func11, Tryd.ntmps11
  go_upto_region 3 with fail
  generalize ((w.alloc (.map #[] 0)).alloc (.map #[] 0)).alloc (.cells #[.int .u64 now, .pointer none, .pointer none, .pointer none, .pointer none, .pointer none, .pointer none, .pointer none, .pointer none, .map (some w.heap.size), .map (some (w.heap.size + 1))] 57) = W at *
  obtain ⟨b, hb⟩ : ∃ b, w.heap.size = b := ⟨_, rfl⟩
  simp only [hb] at HI ⊢
  go_loopw [10] (fun v10 wr => ∃ (i : Nat) (ws : List Nat) (Ds : Nat → Nat → Prop), v10 = .int .i64 (i : Nat) ∧ i ≤ 8 ∧ NwI w wr (b + 1 + 1) now b (b + 1) i ws Ds) (fun v10 _ => 8 - (intOf v10).toNat)
  case atStart => exact ⟨0, [], _, rfl, Nat.zero_le _, HI.out⟩
  case round =>
    obtain ⟨i, ws, Ds, rfl, hi, hI⟩ := hrel
    have HIr := Lib.hid hI
    by_cases hlt : i < 8
    · have hlt' : (i : Int) < 8 := by omega
      have i0 : (0 : Int) ≤ (i : Int) := by omega
      have wi : IntKind.i64.wrap ((i : Int) + 1) = (i : Int) + 1 := IntWalk.i64_in _ (by omega)
      have dl8 : decide (i < 8) = true := decide_eq_true hlt
      have hW := wnew_ok
      have HW := Lib.hid hW
      have hbx := hI.box
      have hfz := fun j => frozen_of_row wr (b + 1 + 1) j _ _ hbx
      have hcl := lt_of_block hbx
      clear hI hW hbx
      go_upto_region 5 with fail
      go_region_held3 (fun _ => True) (trivial)
        (first | (go_at_call 45; refine Calls.mono (HW.out _) ?_; rintro e w2 ⟨q, D2, rfl, hw2, hp2, hf2⟩; obtain ⟨z1, z2, z3⟩ := HIr.out.cell hlt (w2 := w2) (by first | exact hp2 | exact Mod.of_drew hp2)))
      have hst := HIr.out.step hlt hw2 (by first | exact hp2 | exact Mod.of_drew hp2) (by exact hf2)
      have HSt := Lib.hid hst
      clear hw2 hp2 hf2 hst
      go_wp2
      go_roundw
      case rel => exact ⟨i + 1, ws ++ [q], _, by go_num, hlt, HSt.out⟩
      case measure => simp [intOf]; omega
    · have e : i = 8 := by omega
      subst e
      obtain ⟨D, hD, hge⟩ := HIr.out.fin HN.out
      have hp := HIr.out.pure
      clear hI
      go_wp2
      go_ret
      exact ⟨b + 1 + 1, D, rfl, hD, hp, hge⟩
end Go.Proofs.YtlalpenfgkfkpaaDoor
