/- Lemmas and contracts of functions, strung together out of 10 texts. No condition. -/
import Derived.Test.YtlalpenfgkfkpaaDoorJPfDueHolds7
import Derived.Test.YtlalpenfgkfkpaaDoorJPfDueHolds6
import Derived.Deep.RegionHeld3
import Derived.Carry
import Derived.Maps.RangeWalk
import Derived.Test.YtlalpenfgkfkpaaDoorJPfDueHolds2
import Derived.WideKeyEntry
/- law20: timed, where, advances. Conditions: the cascade lies in memory, the list that is expected is read. -/
namespace Go.Proofs.YtlalpenfgkfkpaaDoor
open Go.RowKit
set_option maxRecDepth 100000
theorem timed_ok (s d b : Nat) (w : World) : Calls Tryd.prog 12 #[.int .u32 s, .int .u64 d, .int .u64 b] w fun e w' => e = .returned (tdV ⟨s, d, b⟩) ∧ Pure w w' := by
  have hal : Pure w (w.alloc (.cells #[.int .u32 0, .int .u64 0, .int .u64 0] 31)) := (Mod.refl _ w).alloc _
  have h6 := heap_new (w := w) (o := .cells #[.int .u32 0, .int .u64 0, .int .u64 0] 31 (0, 0)) rfl
  obtain ⟨b6, hb6⟩ : ∃ b6, w.heap.size = b6 := ⟨_, rfl⟩
  have HAL := Lib.hid hal
  clear hal
  go_enter Tryd.func12, Tryd.ntmps12
  go_upto_region 1 with fail
  generalize w.alloc (.cells #[.int .u32 0, .int .u64 0, .int .u64 0] 31) = W1 at *
  (try rw [hb6] at h6)
  have HB6 := Lib.hid hb6
  clear hb6
  have h6_0 := cell_of_row _ _ 0 _ _ _ h6; have h6_1 := cell_of_row _ _ 1 _ _ _ h6; have h6_2 := cell_of_row _ _ 2 _ _ _ h6; have h6_f := (fun j => frozen_of_row _ _ j _ _ h6); have h6_l := lt_of_block h6; simp at h6_0 h6_1 h6_2; have H_h6 := Lib.hid h6; clear h6
  go_wp2
  have hm : Mod (fun k => k = b6) W1 (((W1.setCell ⟨b6, 0, none⟩ (.int .u32 s)).setCell ⟨b6, 1, none⟩ (.int .u64 d)).setCell ⟨b6, 2, none⟩ (.int .u64 b)) :=
    (((Mod.refl (fun k => k = b6) W1).setCell (p := ⟨b6, 0, none⟩) (fun _ => rfl) _).setCell (p := ⟨b6, 1, none⟩) (fun _ => rfl) _).setCell (p := ⟨b6, 2, none⟩) (fun _ => rfl) _
  have hp := HAL.out.then hm (fun k hk e => by have := HB6.out; omega)
  exact bodyPost_ret (v := tdV ⟨s, d, b⟩) (by simp [results, Tryd.results12, go_sem, h6_0, h6_1, h6_2, h6_l, tdV]) rfl ⟨rfl, hp⟩
section
variable {w w' : World} {D : Nat → Prop} {p now tt : Nat} {L : List Td}
/-- What Advance gives, and leaves. -/
def aErr (now tt : Nat) : Int := if tt < now then 3 else 0
def aOut (now tt : Nat) (L : List Td) : List Td := if now < tt then dueL tt L else []
def aNow (now tt : Nat) : Nat := if now < tt then tt else now
def aRest (now tt : Nat) (L : List Td) : List Td := if now < tt then restL tt L else L
theorem CasAt.advAny (h : CasAt w D p now L) (hT : TabW w) (h0 : ¬ D 0) (ht : tt < 18446744073709551616) :
    Calls Tryd.prog 16 #[lkP p, .int .u64 tt] w fun e w' => ∃ a c, e = .returned (.tuple #[.slice a (aOut now tt L).length c, .int .i64 (aErr now tt)]) ∧ TdRow w' a c (aOut now tt L) ∧ (∃ D', CasAt w' D' p (aNow now tt) (aRest now tt L) ∧ grewD D D' w ∧ ∀ g, (Value.slice a (aOut now tt L).length c).ownBlock = some g → ¬ D' g ∧ w.heap.size ≤ g) ∧ Mod D w w' := by
  unfold aErr aOut aNow aRest
  by_cases hn : now < tt
  · rw [if_pos hn, if_pos hn, if_pos hn, if_neg (by omega)]
    exact h.adv hT h0 hn ht
  · rw [if_neg hn, if_neg hn, if_neg hn]
    refine (h.adv_no (tt := tt) (by omega)).mono ?_
    rintro e w' ⟨rfl, rfl⟩
    exact ⟨none, 0, rfl, World.ownsRow_nil _ _ _ _, ⟨D, h, grewD.refl _ _, fun g hg => by cases hg⟩, Mod.refl _ _⟩
theorem CasAt.count (h : CasAt w D p now L) : L.length ≤ 4194304 := by
  obtain ⟨ws, bm, bb, Ds, Dm, Db, Lss, h1, h2, h3⟩ := h
  exact h2.count
theorem aOut_le : (aOut now tt L).length ≤ L.length := by
  unfold aOut dueL
  split
  · exact (List.takeWhile_sublist _).length_le
  · exact Nat.zero_le _
/-- The table and the cascade, apart. -/
structure CasT (w : World) (D : Nat → Prop) (p now : Nat) (L : List Td) : Prop where
  at_ : CasAt w D p now L
  tab : TabW w
  off : ¬ D 0
theorem CasT.frame {S : Nat → Prop} (h : CasT w D p now L) (hm : Mod S w w') (hd : ∀ k, D k → ¬ S k) (h0 : ¬ S 0) : CasT w' D p now L := ⟨h.at_.frame hm hd, h.tab.mod hm h0, h.off⟩
theorem CasT.pure (h : CasT w D p now L) (hm : Pure w w') : CasT w' D p now L := h.frame hm (fun _ _ h => h) (fun h => h)
theorem CasT.next {D' : Nat → Prop} {now' : Nat} {L' : List Td} (h : CasT w D p now L) (hc : CasAt w' D' p now' L') (hg : grewD D D' w) (hm : Mod D w w') : CasT w' D' p now' L' :=
  ⟨hc, h.tab.mod hm h.off, fun e => by
    rcases hg 0 e with e | e
    · exact h.off e
    · have := h.tab.lt; omega⟩
theorem advances_ok (h : CasT w D p now L) (ht : tt < 18446744073709551616) {a2 : Option Addr} {n2 c2 : Nat} (hn2 : n2 = (aOut now tt L).length) (hw : ReadAt w (.slice a2 n2 c2) 3 ((aOut now tt L).flatMap tdC)) (hwD : ∀ g, rdBlock (.slice a2 n2 c2) = some g → ¬ D g) {er : Int} (he : er = aErr now tt) :
    Calls Tryd.prog 22 #[lkP p, .int .u64 tt, .slice a2 n2 c2, .int .i64 er] w fun e w' => e = .returned (.bool true) ∧ (∃ D', CasT w' D' p (aNow now tt) (aRest now tt L) ∧ grewD D D' w) ∧ Mod D w w' := by
  subst hn2 he
  have HAd := Lib.hid (h.at_.advAny h.tab h.off ht)
  have hle := Nat.le_trans (aOut_le (now := now) (tt := tt) (L := L)) h.at_.count
  have HH := Lib.hid h
  have HW := Lib.hid hw; have HWD := Lib.hid hwD
  obtain ⟨lo, hlo⟩ : ∃ lo, aOut now tt L = lo := ⟨_, rfl⟩
  obtain ⟨er, her⟩ : ∃ er, aErr now tt = er := ⟨_, rfl⟩
  rw [hlo, her] at HAd
  rw [hlo] at HW HWD hle
  rw [hlo, her]
  obtain ⟨n, hn⟩ : ∃ n, lo.length = n := ⟨_, rfl⟩
  rw [hn] at HAd HW HWD hle
  rw [hn]
  have HN := Lib.hid hn
  clear h hw hwD hlo her hn
  go_enter Tryd.func22, Tryd.ntmps22
  go_upto_region 2 with (go_at_call 16; refine Calls.mono HAd.out ?_; rintro e w1 ⟨a1, c1, rfl, hr1, ⟨D1, hC1, hg1, hf1⟩, hm1⟩)
  have hS := rsame_ok (L := lo) (by have : ReadAt w1 (.slice a1 lo.length c1) 3 (lo.flatMap tdC) := hr1.rd; rw [HN.out] at this; exact this) (HW.out.frame hm1 HWD.out) HN.out hle
  have HSm := Lib.hid hS
  have HC1 := Lib.hid (HH.out.next hC1 hg1 hm1); have HG1 := Lib.hid hg1; have HM1 := Lib.hid hm1
  clear hr1 hC1 hg1 hf1 hm1 hS
  go_wp2_with (go_at_call 17; refine Calls.mono HSm.out ?_; rintro e w2 ⟨rfl, hp2⟩)
  go_ret
  exact ⟨rfl, ⟨D1, HC1.out.pure hp2, HG1.out⟩, HM1.out.trans (Mod.of_pure hp2)⟩
theorem where_ok (h : CasAt w D p now L) {s : Nat} (h32 : s ≤ 4294967295) {l b er : Int} (he : whE now L s = .tuple #[.int .i64 l, .int .i64 b, .int .i64 er]) :
    Calls Tryd.prog 26 #[lkP p, .int .u32 s, .int .i64 l, .int .i64 b, .int .i64 er] w fun e w' => e = .returned (.bool true) ∧ Pure w w' := by
  have hw := h.where_ h32
  rw [he] at hw
  have HW := Lib.hid hw
  clear h hw he
  go_enter Tryd.func26, Tryd.ntmps26
  go_wp2_with (go_at_call 63; refine Calls.mono HW.out ?_; rintro e w2 ⟨rfl, hp2⟩)
  go_ret
  exact ⟨rfl, hp2⟩
end
end Go.Proofs.YtlalpenfgkfkpaaDoor

/- due: the plain law of deadlines: put, taken out, expired, numbered anew. No condition. -/
namespace Go.Proofs.YtlalpenfgkfkpaaDoor
set_option maxRecDepth 100000
section
variable {M M' L A : List Td} {x y : Td} {s now tt b dl : Nat}
theorem timedL_sorted (h : M.Pairwise bef) : (timedL M).Pairwise bef := h.filter _
theorem mem_timedL : x ∈ timedL M ↔ x ∈ M ∧ x.dl ≠ 18446744073709551615 := by unfold timedL; simp
theorem timedL_cons : timedL (x :: M) = if x.dl ≠ 18446744073709551615 then x :: timedL M else timedL M := by
  unfold timedL
  rw [List.filter_cons]
  simp
theorem timedL_perm (h : M.Perm M') : (timedL M).Perm (timedL M') := h.filter _
theorem timedL_put (h : M.Pairwise bef) (hb : ∀ y ∈ M, y.birth ≠ x.birth) : timedL (putL M x) = if x.dl = 18446744073709551615 then timedL M else putL (timedL M) x := by
  have h1 : (timedL (putL M x)).Perm (timedL (x :: M)) := timedL_perm putL_perm
  have h2 := timedL_sorted (putL_sorted h hb)
  rw [timedL_cons] at h1
  by_cases e : x.dl = 18446744073709551615
  · rw [if_pos e]
    rw [if_neg (by omega)] at h1
    exact sorted_uniq h2 (timedL_sorted h) h1
  · rw [if_neg e]
    rw [if_pos e] at h1
    exact sorted_uniq h2 (putL_sorted (timedL_sorted h) (fun y hy => hb y (mem_timedL.1 hy).1)) (h1.trans putL_perm.symm)
def outB (M : List Td) (s : Nat) : List Td := if hasB M s then outI M s else M
theorem outB_sorted (h : M.Pairwise bef) : (outB M s).Pairwise bef := by
  unfold outB
  split
  · exact outI_sorted h
  · exact h
theorem timedL_out (h : M.Pairwise bef) (hu : ∀ x ∈ M, ∀ y ∈ M, x.slot = y.slot → x = y) (hp : M.Perm (x :: M')) (hx : x.slot < 4194304) (h' : M'.Pairwise bef) : canL (timedL M) x.slot = timedL M' := by
  have hxM : x ∈ M := hp.mem_iff.2 List.mem_cons_self
  have h1 := timedL_perm hp
  rw [timedL_cons] at h1
  have h2 := timedL_sorted h
  have h3 := timedL_sorted h'
  by_cases e : x.dl = 18446744073709551615
  · rw [if_neg (by omega)] at h1
    have hn : hasB (timedL M) x.slot = false := by
      cases hh : hasB (timedL M) x.slot with
      | false => rfl
      | true =>
        obtain ⟨y, hy, e2⟩ := hasB_iff.1 hh
        obtain ⟨k1, k2⟩ := mem_timedL.1 hy
        rw [hu y k1 x hxM e2] at k2
        exact absurd e k2
    unfold canL
    rw [getT_miss hx (find_none hn)]
    dsimp only
    rw [if_neg (by decide)]
    exact sorted_uniq h2 h3 h1
  · rw [if_pos e] at h1
    have hxT : x ∈ timedL M := mem_timedL.2 ⟨hxM, e⟩
    have hh : hasB (timedL M) x.slot = true := hasB_iff.2 ⟨x, hxT, rfl⟩
    obtain ⟨z, k1, k2, k3, k4⟩ := findI_get (findI_lt.2 hh)
    have hz : z = x := hu z (mem_timedL.1 (List.mem_of_getElem? k1)).1 x hxM k2
    subst hz
    unfold canL
    rw [getT_hit hx k3]
    dsimp only
    rw [if_pos rfl]
    have h5 := k4.symm.trans h1
    exact sorted_uniq (outI_sorted h2) h3 ((List.perm_cons _).1 h5)
theorem DueL.out (h : DueL now M) (hp : M.Perm (x :: M')) (h' : M'.Pairwise bef) : DueL now M' ∧ (∀ y, y ∈ M' ↔ y ∈ M ∧ y.slot ≠ x.slot) ∧ (∀ y, y ∈ M' ↔ y ∈ M ∧ y.birth ≠ x.birth) ∧ M'.length + 1 = M.length := by
  have hx : x ∈ M := hp.mem_iff.2 List.mem_cons_self
  have hsub : ∀ y ∈ M', y ∈ M := fun y hy => hp.mem_iff.2 (List.mem_cons_of_mem _ hy)
  have hndM : M.Nodup := h.ord.imp (fun {a b} k e => by subst e; exact bef_asymm k k)
  have hnd := hp.nodup_iff.1 hndM
  have hxn : x ∉ M' := (List.nodup_cons.1 hnd).1
  refine ⟨⟨h', fun a ha b hb => h.slots a (hsub a ha) b (hsub b hb), fun a ha b hb => h.births a (hsub a ha) b (hsub b hb), fun a ha => h.rng a (hsub a ha)⟩, fun y => ⟨fun hy => ⟨hsub y hy, fun e => hxn (by rw [← h.slots y (hsub y hy) x hx e]; exact hy)⟩, fun ⟨hy, hn⟩ => ?_⟩, fun y => ⟨fun hy => ⟨hsub y hy, fun e => hxn (by rw [← h.births y (hsub y hy) x hx e]; exact hy)⟩, fun ⟨hy, hn⟩ => ?_⟩, by have := hp.length_eq; simp at this; omega⟩
  · rcases List.mem_cons.1 (hp.mem_iff.1 hy) with rfl | k
    · exact absurd rfl hn
    · exact k
  · rcases List.mem_cons.1 (hp.mem_iff.1 hy) with rfl | k
    · exact absurd rfl hn
    · exact k
theorem DueL.put (h : DueL now M) (h1 : ∀ y ∈ M, y.slot ≠ x.slot) (h2 : ∀ y ∈ M, y.birth ≠ x.birth) (hr : x.slot < 4194304 ∧ (now < x.dl ∨ x.dl = 18446744073709551615) ∧ x.dl ≤ 18446744073709551615 ∧ 0 < x.birth ∧ x.birth ≤ 18446744073709551615) : DueL now (putL M x) := by
  refine ⟨putL_sorted h.ord h2, fun a ha b hb e => ?_, fun a ha b hb e => ?_, fun a ha => ?_⟩
  · rcases putL_mem.1 ha with k1 | k1 <;> rcases putL_mem.1 hb with k2 | k2
    · rw [k1, k2]
    · rw [k1] at e; exact absurd e.symm (h1 b k2)
    · rw [k2] at e; exact absurd e (h1 a k1)
    · exact h.slots a k1 b k2 e
  · rcases putL_mem.1 ha with k1 | k1 <;> rcases putL_mem.1 hb with k2 | k2
    · rw [k1, k2]
    · rw [k1] at e; exact absurd e.symm (h2 b k2)
    · rw [k2] at e; exact absurd e (h2 a k1)
    · exact h.births a k1 b k2 e
  · rcases putL_mem.1 ha with rfl | ha
    · exact hr
    · exact h.rng a ha
def busyB (M : List Td) (s b : Nat) : Bool := M.any (fun y => (y.slot == s) != (y.birth == b))
def setR (now : Nat) (M : List Td) (s dl b : Nat) : Int := if s < 4194304 ∧ b ≠ 0 then (if dl ≤ now ∧ dl ≠ 18446744073709551615 then 3 else if busyB M s b then 11 else 0) else 2
def setL (now : Nat) (M : List Td) (s dl b : Nat) : List Td := if setR now M s dl b = 0 then putL (outB M s) ⟨s, dl, b⟩ else M
theorem busyB_iff : busyB M s b = true ↔ ∃ y ∈ M, (y.slot = s ∧ y.birth ≠ b) ∨ (y.slot ≠ s ∧ y.birth = b) := by
  unfold busyB
  rw [List.any_eq_true]
  constructor
  · rintro ⟨y, hy, e⟩
    refine ⟨y, hy, ?_⟩
    by_cases h1 : y.slot = s
    · by_cases h2 : y.birth = b
      · rw [h1, h2] at e; simp at e
      · exact .inl ⟨h1, h2⟩
    · by_cases h2 : y.birth = b
      · exact .inr ⟨h1, h2⟩
      · rw [beq_eq_false_iff_ne.2 h1, beq_eq_false_iff_ne.2 h2] at e; cases e
  · rintro ⟨y, hy, e⟩
    refine ⟨y, hy, ?_⟩
    rcases e with ⟨h1, h2⟩ | ⟨h1, h2⟩
    · rw [h1, beq_eq_false_iff_ne.2 h2]; simp
    · rw [h2, beq_eq_false_iff_ne.2 h1]; simp
theorem tw_anti {p : Td → Bool} (hp : ∀ a b, bef a b → p b = true → p a = true) : ∀ {A : List Td}, A.Pairwise bef → A.takeWhile p = A.filter p ∧ A.dropWhile p = A.filter (fun x => !p x)
  | [], _ => ⟨rfl, rfl⟩
  | a :: A, h => by
    obtain ⟨h1, h2⟩ := List.pairwise_cons.1 h
    obtain ⟨i1, i2⟩ := tw_anti hp h2
    by_cases e : p a = true
    · simp only [List.takeWhile_cons, List.dropWhile_cons, List.filter_cons, e, if_true, i1, i2]
      simp
    · have h0 : ∀ y ∈ A, p y = false := fun y hy => by
        cases hy2 : p y with
        | false => rfl
        | true => exact absurd (hp a y (h1 y hy) hy2) e
      have f1 : A.filter p = [] := List.filter_eq_nil_iff.2 (fun y hy => by rw [h0 y hy]; decide)
      have f2 : A.filter (fun x => !p x) = A := List.filter_eq_self.2 (fun y hy => by rw [h0 y hy]; rfl)
      simp only [Bool.not_eq_true] at e
      simp [List.takeWhile_cons, List.dropWhile_cons, List.filter_cons, e, f1, f2]
def expP (tt : Nat) (x : Td) : Bool := decide (x.dl ≤ tt) && decide (x.dl ≠ 18446744073709551615)
def dueE (tt : Nat) (M : List Td) : List Td := M.takeWhile (expP tt)
def restE (tt : Nat) (M : List Td) : List Td := M.dropWhile (expP tt)
theorem expP_anti (ht : tt ≤ 18446744073709551615) (h : M.Pairwise bef) : dueE tt M = M.filter (expP tt) ∧ restE tt M = M.filter (fun x => !expP tt x) := by
  unfold dueE restE
  refine tw_anti (fun a b hab h => ?_) h
  unfold expP at *
  unfold bef at hab
  simp at *
  omega
theorem filter_le {A : List Td} (h : A.Pairwise bef) : A.takeWhile (fun x => decide (x.dl ≤ tt)) = A.filter (fun x => decide (x.dl ≤ tt)) ∧ A.dropWhile (fun x => decide (x.dl ≤ tt)) = A.filter (fun x => !decide (x.dl ≤ tt)) :=
  tw_anti (fun a b hab h => by unfold bef at hab; simp at *; omega) h
theorem DueL.exp (h : DueL now M) (hn : now ≤ tt) (ht : tt ≤ 18446744073709551615) : aOut now tt (timedL M) = dueE tt M ∧ aRest now tt (timedL M) = timedL (restE tt M) ∧ aNow now tt = tt ∧ DueL tt (restE tt M) := by
  obtain ⟨e1, e2⟩ := expP_anti ht h.ord
  have hs := timedL_sorted h.ord
  have hD : DueL tt (restE tt M) := by
    have hsub : ∀ y ∈ restE tt M, y ∈ M := fun y hy => (List.dropWhile_sublist _).subset hy
    refine ⟨h.ord.sublist (List.dropWhile_sublist _), fun a ha b hb => h.slots a (hsub a ha) b (hsub b hb), fun a ha b hb => h.births a (hsub a ha) b (hsub b hb), fun a ha => ?_⟩
    obtain ⟨r1, r2, r3, r4, r5⟩ := h.rng a (hsub a ha)
    rw [e2] at ha
    have := (List.mem_filter.1 ha).2
    unfold expP at this
    simp at this
    exact ⟨r1, by omega, r3, r4, r5⟩
  refine ⟨?_, ?_, ?_, hD⟩
  · unfold aOut
    by_cases c : now < tt
    · rw [if_pos c]
      unfold dueL
      rw [(filter_le hs).1, e1]
      unfold timedL
      rw [List.filter_filter]
      rfl
    · rw [if_neg c, e1]
      symm
      rw [List.filter_eq_nil_iff]
      intro x hx
      have := (h.rng x hx).2.1
      unfold expP
      simp
      omega
  · unfold aRest
    by_cases c : now < tt
    · rw [if_pos c]
      unfold restL
      rw [(filter_le hs).2, e2]
      unfold timedL
      rw [List.filter_filter, List.filter_filter]
      refine List.filter_congr (fun x hx => ?_)
      unfold expP
      by_cases c1 : x.dl ≤ tt <;> by_cases c2 : x.dl = 18446744073709551615 <;> simp [c1, c2]
    · rw [if_neg c, e2]
      unfold timedL
      rw [List.filter_filter]
      refine List.filter_congr (fun x hx => ?_)
      have := (h.rng x hx).2.1
      unfold expP
      by_cases c1 : x.dl ≤ tt <;> by_cases c2 : x.dl = 18446744073709551615 <;> simp [c1, c2]
      omega
  · unfold aNow
    split <;> omega
theorem nextD_timed (h : DueL now M) : nextD (timedL M) = nextD M := by
  cases M with
  | nil => rfl
  | cons x M =>
    rw [timedL_cons]
    by_cases e : x.dl = 18446744073709551615
    · rw [if_neg (by omega)]
      have : timedL M = [] := by
        unfold timedL
        rw [List.filter_eq_nil_iff]
        intro y hy
        have h1 := (List.pairwise_cons.1 h.ord).1 y hy
        have h2 := (h.rng y (List.mem_cons_of_mem _ hy)).2.2.1
        unfold bef at h1
        simp
        omega
      rw [this]
      exact e.symm
    · rw [if_pos e]
      rfl
/-- The slots numbered anew, one behind the other. -/
def renL (tv : List Nat) : List Td → List Td → Option (List Td)
  | acc, [] => some acc
  | acc, x :: xs => match tv[x.slot]? with
    | some t => if t < 4194304 ∧ hasB acc t = false then renL tv (acc ++ [⟨t, x.dl, x.birth⟩]) xs else none
    | none => none
def keyL (M : List Td) : List (Nat × Nat) := M.map (fun x => (x.dl, x.birth))
theorem renL_key {tv : List Nat} : ∀ {xs acc B : List Td}, renL tv acc xs = some B → keyL B = keyL acc ++ keyL xs
  | [], acc, B, h => by
    unfold renL at h
    injection h with h
    rw [h]
    unfold keyL
    simp
  | x :: xs, acc, B, h => by
    unfold renL at h
    split at h
    · split at h
      · rw [renL_key h]
        unfold keyL
        simp
      · cases h
    · cases h
theorem renL_slots {tv : List Nat} : ∀ {xs acc B : List Td}, renL tv acc xs = some B → (∀ x ∈ acc, x.slot < 4194304) → (acc.map Td.slot).Nodup → (∀ x ∈ B, x.slot < 4194304) ∧ (B.map Td.slot).Nodup
  | [], acc, B, h, h1, h2 => by
    unfold renL at h
    injection h with h
    subst h
    exact ⟨h1, h2⟩
  | x :: xs, acc, B, h, h1, h2 => by
    unfold renL at h
    split at h
    · rename_i t _
      split at h
      · rename_i hc
        refine renL_slots h (fun y hy => ?_) ?_
        · rcases List.mem_append.1 hy with hy | hy
          · exact h1 y hy
          · rw [List.mem_singleton.1 hy]
            exact hc.1
        · rw [List.map_append, List.nodup_append]
          refine ⟨h2, by simp, fun a ha b hb e => ?_⟩
          simp at hb
          subst hb
          subst e
          obtain ⟨y, hy, e2⟩ := List.mem_map.1 ha
          have : hasB acc a = true := hasB_iff.2 ⟨y, hy, e2⟩
          rw [hc.2] at this
          cases this
      · cases h
    · cases h
theorem sorted_key {A B : List Td} (h : keyL A = keyL B) (hs : A.Pairwise bef) : B.Pairwise bef := by
  have h1 : (keyL A).Pairwise (fun a b => a.1 < b.1 ∨ a.1 = b.1 ∧ a.2 < b.2) := by
    unfold keyL
    rw [List.pairwise_map]
    exact hs
  rw [h] at h1
  unfold keyL at h1
  rw [List.pairwise_map] at h1
  exact h1
theorem mem_key {A B : List Td} (h : keyL A = keyL B) {x : Td} (hx : x ∈ B) : ∃ y ∈ A, y.dl = x.dl ∧ y.birth = x.birth := by
  have : (x.dl, x.birth) ∈ keyL B := List.mem_map.2 ⟨x, hx, rfl⟩
  rw [← h] at this
  obtain ⟨y, hy, e⟩ := List.mem_map.1 this
  injection e with e1 e2
  exact ⟨y, hy, e1, e2⟩
theorem slot_uniq : ∀ {B : List Td}, (B.map Td.slot).Nodup → ∀ x ∈ B, ∀ y ∈ B, x.slot = y.slot → x = y
  | [], _, x, hx, _, _, _ => by cases hx
  | z :: B, h, x, hx, y, hy, e => by
    rw [List.map_cons, List.nodup_cons] at h
    rcases List.mem_cons.1 hx with k1 | hx <;> rcases List.mem_cons.1 hy with k2 | hy
    · rw [k1, k2]
    · rw [k1] at e; exact absurd (List.mem_map.2 ⟨y, hy, e.symm⟩) h.1
    · rw [k2] at e; exact absurd (List.mem_map.2 ⟨x, hx, e⟩) h.1
    · exact slot_uniq h.2 x hx y hy e
theorem birth_uniq {B : List Td} (h : (B.map Td.birth).Nodup) : ∀ x ∈ B, ∀ y ∈ B, x.birth = y.birth → x = y := by
  induction B with
  | nil => intro x hx; cases hx
  | cons z B ih =>
    rw [List.map_cons, List.nodup_cons] at h
    intro x hx y hy e
    rcases List.mem_cons.1 hx with k1 | hx <;> rcases List.mem_cons.1 hy with k2 | hy
    · rw [k1, k2]
    · rw [k1] at e; exact absurd (List.mem_map.2 ⟨y, hy, e.symm⟩) h.1
    · rw [k2] at e; exact absurd (List.mem_map.2 ⟨x, hx, e⟩) h.1
    · exact ih h.2 x hx y hy e
theorem DueL.birthsNd (h : DueL now M) : (M.map Td.birth).Nodup := by
  have hnd : M.Nodup := h.ord.imp (fun {a b} k e => by subst e; exact bef_asymm k k)
  unfold List.Nodup
  rw [List.pairwise_map]
  exact List.Pairwise.imp_of_mem (fun {a b} ha hb k e => k (h.births a ha b hb e)) hnd
theorem key_births {A B : List Td} (h : keyL A = keyL B) : A.map Td.birth = B.map Td.birth := by
  have := congrArg (List.map Prod.snd) h
  unfold keyL at this
  rw [List.map_map, List.map_map] at this
  exact this
theorem DueL.ren {tv : List Nat} {B : List Td} (h : DueL now M) (hr : renL tv [] M = some B) : DueL now B ∧ keyL M = keyL B := by
  have hk : keyL M = keyL B := by rw [renL_key hr]; rfl
  obtain ⟨s1, s2⟩ := renL_slots hr (fun x hx => by cases hx) (by simp)
  refine ⟨⟨sorted_key hk h.ord, slot_uniq s2, birth_uniq (by rw [← key_births hk]; exact h.birthsNd), fun x hx => ?_⟩, hk⟩
  obtain ⟨y, hy, e1, e2⟩ := mem_key hk hx
  obtain ⟨_, r2, r3, r4, r5⟩ := h.rng y hy
  rw [e1] at r2 r3
  rw [e2] at r4 r5
  exact ⟨s1 x hx, r2, r3, r4, r5⟩
end
end Go.Proofs.YtlalpenfgkfkpaaDoor

/- due: slices.SortFunc by order. Conditions: the elements lie in an own row, with births apart. -/
namespace Go.Proofs.YtlalpenfgkfkpaaDoor
open Go.RowKit Go.Sort Go.Shelf
set_option maxRecDepth 100000
set_option maxHeartbeats 1000000 in
theorem dord_ok (x y : Td) (w : World) : Calls Tryd.prog 72 #[tdV x, tdV y] w fun e w' => e = .returned (.int .i64 (cfT x y)) ∧ Grw w w' := by
  unfold tdV
  have h2 := heap_new (w := w) (o := .cells #[.int .u32 x.slot, .int .u64 x.dl, .int .u64 x.birth] 31 (0, 0)) rfl
  have g1 := (Grw.refl w).alloc (.cells #[.int .u32 x.slot, .int .u64 x.dl, .int .u64 x.birth] 31 (0, 0))
  have h3 := heap_new (w := w.alloc (.cells #[.int .u32 x.slot, .int .u64 x.dl, .int .u64 x.birth] 31 (0, 0))) (o := .cells #[.int .u32 y.slot, .int .u64 y.dl, .int .u64 y.birth] 31 (0, 0)) (n := w.heap.size + 1) (by simp)
  have h2 := ((Mod.refl (fun _ => False) _).alloc (.cells #[.int .u32 y.slot, .int .u64 y.dl, .int .u64 y.birth] 31 (0, 0))).heap (fun h => h) h2
  have g1 := g1.alloc (.cells #[.int .u32 y.slot, .int .u64 y.dl, .int .u64 y.birth] 31 (0, 0))
  obtain ⟨c, hc⟩ : ∃ c, cfT x y = c := ⟨_, rfl⟩
  have HC := Lib.hid hc
  rw [hc]
  clear hc
  obtain ⟨i0, hi, iz0, iz1, iz2⟩ := info_parts info_i
  go_enter Tryd.func72, Tryd.ntmps72
  go_upto_region 1 with fail
  generalize (w.alloc (.cells #[.int .u32 x.slot, .int .u64 x.dl, .int .u64 x.birth] 31)).alloc (.cells #[.int .u32 y.slot, .int .u64 y.dl, .int .u64 y.birth] 31) = W at *
  generalize w.heap.size = b2 at *
  have G1 := Lib.hid g1; have H2 := Lib.hid h2; have H3 := Lib.hid h3
  clear g1
  obtain ⟨c1, hc1⟩ : ∃ c1, cmpN x.dl y.dl = c1 := ⟨_, rfl⟩
  obtain ⟨c2, hc2⟩ : ∃ c2, cmpN x.birth y.birth = c2 := ⟨_, rfl⟩
  have k1 := Compare_T x.dl y.dl
  have k2 := Compare_U x.birth y.birth
  rw [hc1] at k1
  rw [hc2] at k2
  have hcc : (if c1 = 0 then c2 else c1) = c := by rw [← HC.out, ← hc1, ← hc2]; rfl
  have HCC := Lib.hid hcc; have K1 := Lib.hid k1; have K2 := Lib.hid k2
  clear hcc k1 k2 hc1 hc2
  have hK : ∀ W', Pure W W' → W'.cell? ⟨b2, 1, none⟩ = some (.int .u64 x.dl) ∧ W'.cell? ⟨b2 + 1, 1, none⟩ = some (.int .u64 y.dl) ∧ W'.cell? ⟨b2, 2, none⟩ = some (.int .u64 x.birth) ∧ W'.cell? ⟨b2 + 1, 2, none⟩ = some (.int .u64 y.birth) := fun W' hp => by
    obtain ⟨e2, e3⟩ := keep_cells H2.out H3.out hp
    refine ⟨?_, ?_, ?_, ?_⟩ <;> first | (rw [cell_of_row _ _ _ _ _ _ e2]; rfl) | (rw [cell_of_row _ _ _ _ _ _ e3]; rfl)
  have HK := Lib.hid hK
  have hK0 := hK W (Mod.refl _ _)
  obtain ⟨z1, z2, z3, z4⟩ := hK0
  clear hK h2 h3
  go_region_held3 (fun w' => w'.cell? ⟨b2, 1, none⟩ = some (.int .u64 x.dl) ∧ w'.cell? ⟨b2 + 1, 1, none⟩ = some (.int .u64 y.dl) ∧ w'.cell? ⟨b2, 2, none⟩ = some (.int .u64 x.birth) ∧ w'.cell? ⟨b2 + 1, 2, none⟩ = some (.int .u64 y.birth)) (first | go_keep | exact ⟨z1, z2, z3, z4⟩)
    (first
      | (go_at_call 56; refine Calls.mono (K1.out _) ?_; rintro e w' ⟨rfl, rfl⟩)
      | (go_at_call 57; refine Calls.mono (K2.out _) ?_; rintro e w' ⟨rfl, rfl⟩)
      | (go_at_call 55; refine Calls.mono (Or_is (x := c1) (y := c2) HCC.out ((cell_of_row _ _ 0 _ _ _ (heap_new rfl)).trans rfl) ((cell_of_row _ _ 1 _ _ _ (heap_new rfl)).trans rfl)) ?_; rintro e w' ⟨rfl, rfl⟩))
  go_wp2
  go_ret
  exact ⟨rfl, by first | exact (G1.out.alloc _).drew | exact G1.out.alloc _⟩
theorem dord_lays (blk off size : Nat) (w : World) : CmpLays Tryd.prog 72 #[] tdC 3 cfT blk off size w :=
  fun _ _ _ _ x y => dord_ok x y _
/-- An own row of what is timed. -/

theorem dsort_ok {w : World} {a : Option Addr} {c : Nat} {d : List Td} (hr : TdRow w a c d) (hl : d.length < 4611686018427387904) (hu : ∀ x ∈ d, ∀ y ∈ d, x.birth = y.birth → x = y) (hnd : d.Nodup) :
    Calls Tryd.prog 53 #[.slice a d.length c, .func (.func 72) #[] #[]] w fun e w' => e = .returned (.tuple #[]) ∧ ∃ d' : List Td, d'.Pairwise bef ∧ d'.Perm d ∧ d'.length = d.length ∧ TdRow w' a c d' ∧ Mod (fun k => (Value.slice a d.length c).ownBlock = some k) w w' := by
  rcases Nat.eq_zero_or_pos d.length with h0 | h0
  · have hd : d = [] := List.length_eq_zero_iff.1 h0
    subst hd
    refine (AnyF.slices_SortFunc_none sortTd a c (.func (.func 72) #[] #[]) w).mono ?_
    rintro e w' ⟨rfl, rfl⟩
    exact ⟨rfl, [], List.Pairwise.nil, List.Perm.refl _, rfl, hr, Mod.refl _ _⟩
  · obtain ⟨g, c', hv, hnc, hlt, hcell, hfz, cur, hg, hcs, ht, hm⟩ := owns_at hr h0
    injection hv with ha hn hc
    subst ha hc
    have eg : ∀ args w, (callFunc 72 args).run Tryd.prog w = .ok (.enter 72 args) w := enters_of Tryd.func72 (by kernel_rfl) rfl
    have hH : HoldsK tdC 3 w g 0 d.toArray := fun j hj => by
      rw [size_flatK] at hj
      rw [Nat.zero_add]
      refine ⟨hcell j _ ?_, hfz j⟩
      rw [← show (flatK tdC 3 d.toArray).toList = d.flatMap tdC from flatK_list d.toArray, Array.getElem?_toList, getElem!_pos (flatK tdC 3 d.toArray) j (by rw [size_flatK]; exact hj), Array.getElem?_eq_getElem]
      rfl
    have hs := AnyQ.slices_SortFunc sortTd 3 isAgg_td sizeOf_td tdC (fun _ => rfl) (fun x v hv => by simp [tdC] at hv; rcases hv with rfl | rfl | rfl <;> rfl) cfT swo_cfT 72 #[] g 0 c d.toArray w eg (dord_lays g 0 _ w) hH hlt (by simpa using hl)
    refine Calls.mono hs ?_
    rintro e w' ⟨rfl, d', m, os, ⟨p1, p2, p3⟩, hso, rfl⟩
    have hsz : d'.size = d.length := by simpa using p1
    have e1 : d'.extract 0 d.toArray.size = d' := by rw [← p1]; exact Array.extract_size
    rw [e1, Array.extract_size] at p3
    have hp : d'.toList.Perm d := p3
    have hF : (flatK tdC 3 d').size = d.length * 3 := by rw [size_flatK, hsz]
    refine ⟨rfl, d'.toList, ?_, hp, by simpa using hsz, ?_, ?_⟩
    · rw [List.pairwise_iff_getElem]
      intro i j hi hj hij
      have hi' : i < d'.size := by simpa using hi
      have hj' : j < d'.size := by simpa using hj
      have h1 := hso i j (Nat.zero_le _) hij (by simpa [hsz] using hj')
      rw [getElem!_pos d' i hi', getElem!_pos d' j hj', lt_cfT] at h1
      have hne : d'[i].birth ≠ d'[j].birth := fun e => by
        have m1 : d'[i] ∈ d := hp.mem_iff.1 (by simp)
        have m2 : d'[j] ∈ d := hp.mem_iff.1 (by simp)
        have heq := hu _ m1 _ m2 e
        have hnd' := hp.nodup_iff.2 hnd
        exact (List.pairwise_iff_getElem.1 hnd') i j hi hj hij (by simpa using heq)
      rcases (show bef d'[i] d'[j] ∨ bef d'[j] d'[i] by unfold bef; omega) with k | k
      · simpa using k
      · rw [befB_iff.2 k] at h1; cases h1
    · have hlen : d'.toList.length = d.length := by simpa using hsz
      show World.ownsRow _ 0 _ 3 (.slice (some ⟨g, 0, none⟩) d'.toList.length c) d'.toList.length (d'.toList.flatMap tdC)
      rw [hlen]
      refine ⟨by rw [flat_length tdC 3 (fun _ => rfl), hlen], .inr ⟨g, c, putCells id 0 (flatK tdC 3 d') cur, rfl, Nat.zero_le _, heap_sort hg, hnc, hm, ?_, ?_⟩⟩
      · rw [← hcs]; simp [putCells]
      · rw [put_take hF (by rw [hcs]; exact Nat.mul_le_mul_right 3 hnc), flatK_list]
    · exact Mod.mono (mod_sort (g := g) (F := flatK tdC 3 d') (m := m) (os := os)) (fun k _ e => by rw [e]; rfl)
end Go.Proofs.YtlalpenfgkfkpaaDoor

/- cascade: New. Conditions: the time is one. -/
namespace Go.Proofs.YtlalpenfgkfkpaaDoor
open Go.RowKit
set_option maxRecDepth 100000
/-- The box while the levels are made. -/
def casN (now : Nat) (ws : List Nat) (bm bb : Nat) : List Value := .int .u64 now :: ((ws.map lkP ++ List.replicate (8 - ws.length) (.pointer none)) ++ [.map (some bm), .map (some bb)])
theorem casN_full {now bm bb : Nat} {ws : List Nat} (h : ws.length = 8) : casN now ws bm bb = casC now ws bm bb := by
  unfold casN casC
  rw [h]
  simp
theorem casN_set {now bm bb : Nat} {ws : List Nat} (h : ws.length < 8) (q : Nat) : (casN now ws bm bb).set (1 + ws.length) (lkP q) = casN now (ws ++ [q]) bm bb := by
  unfold casN
  obtain ⟨m, hm⟩ : ∃ m, 8 - ws.length = m + 1 := ⟨8 - ws.length - 1, by omega⟩
  have hm2 : 8 - (ws ++ [q]).length = m := by simp; omega
  rw [hm, hm2, show 1 + ws.length = ws.length + 1 from Nat.add_comm _ _, List.set_cons_succ, List.set_append_left _ _ (by simp), List.set_append_right _ _ (by simp)]
  simp [List.replicate_succ]
structure NwI (w wr : World) (p now bm bb i : Nat) (ws : List Nat) (Ds : Nat → Nat → Prop) : Prop where
  box : wr.heap[p]? = some (.cells (casN now ws bm bb).toArray 57 (0, 0))
  len : ws.length = i
  what : TMap wr bm [] (.map [])
  births : BMap wr bb [] (.map [])
  lev : ∀ (l q : Nat), ws[l]? = some q → WhAt wr (Ds l) q (List.replicate 256 [])
  apart : ∀ l l' k, l < i → l' < i → l ≠ l' → Ds l k → ¬ Ds l' k
  own : ∀ l k, l < i → Ds l k → p < k ∧ k < wr.heap.size
  ge : w.heap.size ≤ p ∧ w.heap.size ≤ bm ∧ w.heap.size ≤ bb ∧ bm < p ∧ bb < p ∧ bm ≠ bb
  pure : Pure w wr
theorem NwI.step {w wr w2 : World} {p now bm bb i q : Nat} {ws : List Nat} {Ds : Nat → Nat → Prop} {D2 : Nat → Prop} (h : NwI w wr p now bm bb i ws Ds) (hi : i < 8) (hw : WhAt w2 D2 q (List.replicate 256 [])) (hp : Pure wr w2) (hf : ∀ k, D2 k → wr.heap.size ≤ k) :
    NwI w (w2.setCell ⟨p, 1 + i, none⟩ (lkP q)) p now bm bb (i + 1) (ws ++ [q]) (setF Ds i D2) := by
  have hm : Mod (fun k => k = p) w2 (w2.setCell ⟨p, 1 + i, none⟩ (lkP q)) := (Mod.refl (fun k => k = p) w2).setCell (p := ⟨p, 1 + i, none⟩) (fun _ => rfl) _
  have hplt := lt_of_block h.box
  have hle := hp.size
  have hle2 := hm.size
  obtain ⟨g1, g2, g3, g4, g5, g6⟩ := h.ge
  have hb2 := hp.heap (fun h => h) h.box
  refine ⟨?_, by rw [List.length_append, h.len]; rfl, (h.what.mod hp (fun h => h)).mod hm (by show ¬ bm = p; omega), (h.births.mod hp (fun h => h)).mod hm (by show ¬ bb = p; omega), fun l q' hq => ?_, fun l l' k hl hl' hne hk => ?_, fun l k hl hk => ?_, h.ge, h.pure.trans hp |>.then hm (fun k hk e => by omega)⟩
  · rw [heap_setCell_same w2 p (1 + i) _ _ (lkP q) hb2, ← casN_set (by rw [h.len]; exact hi), h.len]
    congr 2
    exact List.setIfInBounds_toArray ..
  · unfold setF
    by_cases e : l = i
    · subst e
      rw [if_pos rfl]
      rw [List.getElem?_append_right (by rw [h.len]; exact Nat.le_refl _), h.len, Nat.sub_self] at hq
      cases hq
      exact hw.frame hm (fun k hk e => by have := hf k hk; omega)
    · rw [if_neg e]
      have hl : l < ws.length := by
        have := (List.getElem?_eq_some_iff.1 hq).1
        rw [List.length_append] at this
        have hln := h.len
        simp at this
        omega
      rw [List.getElem?_append_left hl] at hq
      exact ((h.lev l q' hq).pure hp).frame hm (fun k hk e => by have := (h.own l k (by rw [← h.len]; exact hl) hk).1; omega)
  · unfold setF at hk ⊢
    by_cases e : l = i
    · rw [if_pos e] at hk
      rw [if_neg (by omega)]
      intro hk3
      have := (h.own l' k (by omega) hk3).2
      have := hf k hk
      omega
    · rw [if_neg e] at hk
      by_cases e3 : l' = i
      · rw [if_pos e3]
        intro hk3
        have := (h.own l k (by omega) hk).2
        have := hf k hk3
        omega
      · rw [if_neg e3]
        exact h.apart l l' k (by omega) (by omega) hne hk
  · unfold setF at hk
    by_cases e : l = i
    · rw [if_pos e] at hk
      have h1 := hf k hk
      have h2 := hw.lt hk
      exact ⟨by omega, by omega⟩
    · rw [if_neg e] at hk
      have := h.own l k (by omega) hk
      exact ⟨this.1, by omega⟩
theorem NwI.fin {w wr : World} {p now bm bb : Nat} {ws : List Nat} {Ds : Nat → Nat → Prop} (h : NwI w wr p now bm bb 8 ws Ds) (hn : now < 18446744073709551616) : ∃ D, CasAt wr D p now [] ∧ ∀ k, D k → w.heap.size ≤ k := by
  obtain ⟨g1, g2, g3, g4, g5, g6⟩ := h.ge
  refine ⟨fun k => k = p ∨ k = bm ∨ k = bb ∨ ∃ l, l < 8 ∧ Ds l k, ⟨ws, bm, bb, Ds, .map [], .map [], List.replicate 8 (List.replicate 256 []), ⟨⟨?_, h.len, hn⟩, h.what, h.births, List.length_replicate, fun l q Ls hq hL => ?_, h.apart, fun l k hl hk => ?_, ⟨g6, by omega, by omega⟩, fun k => Iff.rfl⟩, PInv.new now, List.Pairwise.nil⟩, fun k hk => ?_⟩
  · rw [← casN_full h.len]; exact h.box
  · rw [List.getElem?_replicate] at hL
    split at hL
    · cases hL; exact h.lev l q hq
    · cases hL
  · have := (h.own l k hl hk).1
    exact ⟨by omega, by omega, by omega⟩
  · rcases hk with rfl | rfl | rfl | ⟨l, hl, hk⟩
    · exact g1
    · exact g2
    · exact g3
    · have := (h.own l k hl hk).1; omega
theorem NwI.cell {w wr w2 : World} {p now bm bb i : Nat} {ws : List Nat} {Ds : Nat → Nat → Prop} (h : NwI w wr p now bm bb i ws Ds) (hi : i < 8) (hp : Pure wr w2) : w2.cell? ⟨p, 1 + i, none⟩ = some (.pointer none) ∧ (∀ j, w2.frozen? ⟨p, j, none⟩ = false) ∧ p < w2.heap.size := by
  have hb2 := hp.heap (fun h => h) h.box
  refine ⟨?_, fun j => frozen_of_row w2 p j _ _ hb2, lt_of_block hb2⟩
  rw [cell_of_row w2 p (1 + i) _ _ (0, 0) hb2, List.getElem?_toArray]
  unfold casN
  have hl := h.len
  rw [show 1 + i = i + 1 from Nat.add_comm _ _, List.getElem?_cons_succ, List.getElem?_append_left (by simp; omega), List.getElem?_append_right (by simp; omega), List.getElem?_replicate, if_pos (by simp; omega)]
set_option maxHeartbeats 1000000 in
theorem cnew_ok (w : World) {now : Nat} (hn : now < 18446744073709551616) : Calls Tryd.prog 11 #[.int .u64 now] w fun e w' => ∃ p D, e = .returned (lkP p) ∧ CasAt w' D p now [] ∧ Pure w w' ∧ ∀ k, D k → w.heap.size ≤ k := by
  have t0 := TMap.new w
  have a1 : Pure w (w.alloc (.map #[] 0)) := (Mod.refl _ w).alloc _
  have a2 : Pure (w.alloc (.map #[] 0)) ((w.alloc (.map #[] 0)).alloc (.map #[] 0)) := (Mod.refl _ _).alloc _
  have b0 := BMap.new (w.alloc (.map #[] 0))
  have hs : (w.alloc (.map #[] 0)).heap.size = w.heap.size + 1 := by simp
  have hs2 : ((w.alloc (.map #[] 0)).alloc (.map #[] 0)).heap.size = w.heap.size + 2 := by simp
  have a3 : Pure ((w.alloc (.map #[] 0)).alloc (.map #[] 0)) (((w.alloc (.map #[] 0)).alloc (.map #[] 0)).alloc (.cells (casN now [] w.heap.size (w.heap.size + 1)).toArray 57)) := (Mod.refl _ _).alloc _
  have hI : NwI w (((w.alloc (.map #[] 0)).alloc (.map #[] 0)).alloc (.cells (casN now [] w.heap.size (w.heap.size + 1)).toArray 57)) (w.heap.size + 1 + 1) now w.heap.size (w.heap.size + 1) 0 [] (fun _ _ => False) :=
    ⟨heap_new hs2.symm, rfl, (t0.mod a2 (fun h => h)).mod a3 (fun h => h), by have := b0.mod a3 (fun h => h); rw [hs] at this; exact this, (fun l q h => by cases h), (fun l l' k h => by omega), (fun l k h => by omega), ⟨by omega, by omega, by omega, by omega, by omega, by omega⟩, (a1.trans a2).trans a3⟩
  have HI := Lib.hid hI; have HN := Lib.hid hn
  clear t0 a1 a2 b0 hs hs2 a3 hI
  have hmm := @run_makeMap Tryd.prog
  unfold casN at HI
  simp at HI
  go_enter Tryd.func11, Tryd.ntmps11
  go_upto_region 3 with fail
  generalize ((w.alloc (.map #[] 0)).alloc (.map #[] 0)).alloc (.cells #[.int .u64 now, .pointer none, .pointer none, .pointer none, .pointer none, .pointer none, .pointer none, .pointer none, .pointer none, .map (some w.heap.size), .map (some (w.heap.size + 1))] 57) = W at *
  obtain ⟨b, hb⟩ : ∃ b, w.heap.size = b := ⟨_, rfl⟩
  simp only [hb] at HI ⊢
  go_loopw [10] (fun v10 wr => ∃ (i : Nat) (ws : List Nat) (Ds : Nat → Nat → Prop), v10 = .int .i64 (i : Nat) ∧ i ≤ 8 ∧ NwI w wr (b + 1 + 1) now b (b + 1) i ws Ds) (fun v10 _ => 8 - (intOf v10).toNat)
  case atStart => exact ⟨0, [], _, rfl, Nat.zero_le _, HI.out⟩
  case round =>
    obtain ⟨i, ws, Ds, rfl, hi, hI⟩ := hrel
    have HIr := Lib.hid hI
    by_cases hlt : i < 8
    · have hlt' : (i : Int) < 8 := by omega
      have i0 : (0 : Int) ≤ (i : Int) := by omega
      have wi : IntKind.i64.wrap ((i : Int) + 1) = (i : Int) + 1 := IntWalk.i64_in _ (by omega)
      have dl8 : decide (i < 8) = true := decide_eq_true hlt
      have hW := wnew_ok
      have HW := Lib.hid hW
      have hbx := hI.box
      have hfz := fun j => frozen_of_row wr (b + 1 + 1) j _ _ hbx
      have hcl := lt_of_block hbx
      clear hI hW hbx
      go_upto_region 5 with fail
      go_region_held3 (fun _ => True) (trivial)
        (first | (go_at_call 45; refine Calls.mono (HW.out _) ?_; rintro e w2 ⟨q, D2, rfl, hw2, hp2, hf2⟩; obtain ⟨z1, z2, z3⟩ := HIr.out.cell hlt (w2 := w2) (by first | exact hp2 | exact Mod.of_drew hp2)))
      have hst := HIr.out.step hlt hw2 (by first | exact hp2 | exact Mod.of_drew hp2) (by exact hf2)
      have HSt := Lib.hid hst
      clear hw2 hp2 hf2 hst
      go_wp2
      go_roundw
      case rel => exact ⟨i + 1, ws ++ [q], _, by go_num, hlt, HSt.out⟩
      case measure => simp [intOf]; omega
    · have e : i = 8 := by omega
      subst e
      obtain ⟨D, hD, hge⟩ := HIr.out.fin HN.out
      have hp := HIr.out.pure
      clear hI
      go_wp2
      go_ret
      exact ⟨b + 1 + 1, D, rfl, hD, hp, hge⟩
end Go.Proofs.YtlalpenfgkfkpaaDoor

/- cascade: Copy. Conditions: the cascade lies in memory. -/
namespace Go.Proofs.YtlalpenfgkfkpaaDoor
open Go.RowKit
set_option maxRecDepth 100000
section
variable {P : Program} {k : TypeId} {R : Value → Option (DataW Unit × List MemPlace)} {w w' : World} {b r n : Nat} {D : DataW Unit} {left : Lit → Bool} {cnt : Nat} {S : Nat → Prop}
theorem rgs_mod (h : w.ranges P k R b r n D left cnt) (hm : Mod S w w') (hb : ¬ S b) (hr : ¬ S r) : w'.ranges P k R b r n D left cnt := by
  obtain ⟨es, clock, since, seen, c0, h1, h2, h3, h4, h5, h6⟩ := h
  exact ⟨es, clock, since, seen, c0, hm.heap hb h1, h2, h3, h4, hm.heap hr h5, h6⟩
end
theorem key_inv {x : Int} {kl : Lit} (h : keyOf Tryd.prog 29 (.int .u32 x) = some kl) : ∃ s : Nat, x = s ∧ kl = kS s ∧ s ≤ 4294967295 := by
  obtain ⟨y, e1, e2, e3⟩ := Maps.keyOf_int_inv Tryd.underlying29 h
  injection e1 with _ e1
  subst e1
  have : 0 ≤ x ∧ x ≤ 4294967295 := by simp [Lit.wf, IntKind.min, IntKind.max, IntKind.signed, IntKind.bits] at e3; omega
  refine ⟨x.toNat, by omega, ?_, by omega⟩
  rw [e2]
  unfold kS
  rw [show ((x.toNat : Nat) : Int) = x by omega]
theorem same_kS (a b : Nat) : (kS a).sameKey (kS b) = decide (a = b) := by
  unfold kS
  simp [Lit.sameKey]
  omega
section
variable {w w' : World} {D : Nat → Prop} {p now tt : Nat} {ws : List Nat} {bm bb : Nat} {Ds : Nat → Nat → Prop} {Dm Db : DataW Unit} {M L : List Td} {Lss : List (List (List Nat))}
structure CpI (w wr : World) (L : List Td) (bm rb n : Nat) (Dm : DataW Unit) (left : Lit → Bool) (cnt : Nat) (p2 now : Nat) (D2 : Nat → Prop) (M2 : List Td) : Prop where
  rg : wr.ranges Tryd.prog 29 tdElem bm rb n Dm left cnt
  has : ∀ kl, left kl = true → Maps.has Dm kl = true
  mem : ∃ ws bm' bb' Ds Dm' Db' Lss, CasMem wr D2 p2 now ws bm' bb' Ds Dm' Db' M2 Lss ∧ PInv now M2 (fun _ => False) Lss
  sub : ∀ x ∈ M2, x ∈ L
  todo : ∀ x ∈ L, left (kS x.slot) = true ↔ x ∉ M2
  fresh : ∀ k, D2 k → w.heap.size ≤ k
  rb2 : ¬ D2 rb
  pure : Pure w wr
set_option maxHeartbeats 2000000 in
theorem CasAt.copy (h : CasAt w D p now L) : Calls Tryd.prog 14 #[lkP p] w fun e w' => ∃ p2 D2, e = .returned (lkP p2) ∧ CasAt w' D2 p2 now L ∧ Pure w w' ∧ ∀ k, D2 k → w.heap.size ≤ k := by
  obtain ⟨ws, bm, bb, Ds, Dm, Db, Lss, h1, h2, h3⟩ := h
  have HCk := Lib.hid (ccheck_ok h1.box (s := 0) (by omega))
  obtain ⟨c0, c9, c10, cf, cl⟩ := h1.box.cells
  have HNw := Lib.hid (fun W => cnew_ok W h1.box.now)
  have HC := Lib.hid h1; have HI := Lib.hid h2; have HS := Lib.hid h3
  clear h1 h2 h3
  go_enter Tryd.func14, Tryd.ntmps14
  go_upto_region 4 with (first
    | (go_at_call 46; refine Calls.mono HCk.out ?_; rintro e w' ⟨rfl, rfl⟩)
    | (go_at_call 11; refine Calls.mono (HNw.out _) ?_; rintro e w1 ⟨p2, D2, rfl, hc2, hp2, hf2⟩))
  have HC1 := Lib.hid (HC.out.pure hp2)
  obtain ⟨c0', c9', c10', cf', cl'⟩ := HC1.out.box.cells
  have HC2 := Lib.hid hc2; have HP2 := Lib.hid hp2; have HF2 := Lib.hid hf2
  clear hc2 hp2 hf2 c0 c9 c10 cf cl
  go_upto_region 5 with (at_range; refine wpList_range_own _ rfl _ 54 rfl 29 31 keyedS Tryd.underlying54 tdElem bm L.length Dm rfl HC1.out.what.own ?_; intro wg hrg hgr hsz; go_frame)
  have hpg : Pure w1 wg := Mod.of_grown hgr (fun i e _ => by cases e)
  have hr1 : ¬ D2 w1.heap.size := fun e => by have := HC2.out.lt e; omega
  have hI : CpI w wg L bm w1.heap.size L.length Dm (Maps.has Dm) (Maps.size Dm) p2 now D2 [] := by
    obtain ⟨ws2, bm2, bb2, Ds2, Dm2, Db2, Lss2, k1, k2, k3⟩ := HC2.out
    exact ⟨hrg, fun _ h => h, ⟨_, _, _, _, _, _, _, k1.pure hpg, k2⟩, (fun x hx => by cases hx), fun x hx => ⟨fun _ c => (by cases c), fun _ => HC1.out.what.has_mem hx⟩, HF2.out, hr1, HP2.out.trans hpg⟩
  have hszr : w.heap.size ≤ w1.heap.size := HP2.out.size
  have HI0 := Lib.hid hI
  clear hrg hgr hsz hpg hr1 hI c0' c9' c10' cf' cl' HC1 HC2 HF2 HP2 HNw
  generalize w1.heap.size = rb at *
  have hbm : bm < w.heap.size := HC.out.what.own.lt
  go_loopw [] (fun wr => ∃ left cnt D2 M2, CpI w wr L bm rb L.length Dm left cnt p2 now D2 M2) (fun wr => wr.rangeLeft bm rb)
  case atStart => exact ⟨_, _, _, _, HI0.out⟩
  case round =>
    obtain ⟨left, cnt, D2, M2, hI⟩ := hrel
    have HIr := Lib.hid hI
    clear hI
    go_wp2_with (at_next; refine wpList_next_ranges _ rfl _ rfl 29 keyedS tdElem (fun x : Int => Value.int .u32 x) tdV (fun key kl hkey => by obtain ⟨x, rfl, _⟩ := Maps.keyOf_int_inv Tryd.underlying29 hkey; exact ⟨x, rfl⟩) (fun v y hv => by obtain ⟨c, rfl, _⟩ := tdElem_inv hv; exact ⟨c, rfl⟩) bm rb L.length Dm left cnt rfl HIr.out.rg ?_ ?_)
    · intro hc0 hl0
      obtain ⟨ws2, bm2, bb2, Ds2, Dm2, Db2, Lss2, k1, k2⟩ := HIr.out.mem
      have hp : M2.Perm L := by
        rw [List.perm_ext_iff_of_nodup k2.ndM HI.out.ndM]
        intro x
        refine ⟨HIr.out.sub x, fun hx => ?_⟩
        apply Classical.byContradiction
        intro hn
        have := (HIr.out.todo x hx).2 hn
        rw [hl0] at this
        cases this
      have hfin : CasAt wr D2 p2 now L := ⟨_, _, _, _, _, _, _, k1.perm hp, k2.perm hp, HS.out⟩
      have HFin := Lib.hid hfin
      clear hc0 hl0 k1 k2 hp hfin
      go_wp2
      go_ret
      exact ⟨p2, D2, rfl, HFin.out, HIr.out.pure, HIr.out.fresh⟩
    · intro x c kl y1 y2 w3 cnt1 hkey hlk hv hat hrg1 hlt1 hg1 hs1 hen
      obtain ⟨s, rfl, rfl, hs32⟩ := key_inv hkey
      obtain ⟨z, hz, hzs⟩ := HC.out.what.has s (HIr.out.has _ hlk)
      have hcz : c = z := by
        have e1 := hat (.lit (.int .u32 0))
        rw [← hzs, HC.out.what.at_ z hz] at e1
        have e5 := tdElem_mk c
        rw [hv] at e5
        injection e5 with e5
        have e6 : y1 = tdD c := congrArg Prod.fst e5
        exact tdD_inj (e6.symm.trans e1.symm)
      subst hcz
      subst hzs
      have hm3 : Mod (fun k => k = rb) wr w3 := Mod.of_grown hg1 (fun i e _ => by cases e; rfl)
      have hn2 : c ∉ M2 := (HIr.out.todo c hz).1 hlk
      obtain ⟨ws2, bm2, bb2, Ds2, Dm2, Db2, Lss2, k1, k2⟩ := HIr.out.mem
      have k3 := k1.frame hm3 (fun k hk e => HIr.out.rb2 (e ▸ hk))
      obtain ⟨r1, r2, r3, r4⟩ := HI.out.rng c hz
      have r5 := HI.out.after c hz (fun c => c)
      obtain ⟨Ls, B, hL, hK⟩ := k2.get (lvl_spec HC.out.box.now (dl := c.dl) (by omega)).1 (bkt_lt (now := now) (dl := c.dl))
      have n1 : ∀ y ∈ M2, y.slot ≠ c.slot := fun y hy e => hn2 (by rw [← HI.out.slots y (HIr.out.sub y hy) c hz e]; exact hy)
      have n2 : ∀ y ∈ M2, y.birth ≠ c.birth := fun y hy e => hn2 (by rw [← HI.out.births y (HIr.out.sub y hy) c hz e]; exact hy)
      have hpu := fun (W : World) (hW : Pure w3 W) => cput_ok (k3.pure hW) (x := c) (M' := c :: M2) r1 (by omega) r4 (by omega) (by have := k2.count; unfold maxLen; omega) hL hK (k2.notL (fun y hy e => absurd e (n1 y hy)) hL) (.inl ⟨n1, n2, rfl⟩)
      have hinv := k2.put (x := c) (M' := c :: M2) (Q := fun _ => False) (.inl ⟨n1, n2, rfl⟩) r5 ⟨r1, r2, r3, r4⟩ (fun y hy e => absurd e (n1 y hy)) hL hK (fun s => ⟨fun c => c.elim, fun c => c.1.elim⟩)
      have hsz3 : w3.heap.size = wr.heap.size := hs1
      have hpw3 : Pure w w3 := HIr.out.pure.then hm3 (fun k hk e => by omega)
      unfold tdV at hpu hen
      have HPu := Lib.hid hpu; have HInv := Lib.hid hinv; have HZ := Lib.hid hz; have HN2 := Lib.hid hn2; have HSZ3 := Lib.hid hsz3; have HRG := Lib.hid hrg1; have HLT := Lib.hid hlt1; have HPW3 := Lib.hid hpw3
      clear hpu hinv hz hn2 hrg1 hlt1 k1 k2 k3 hL hK n1 n2 hkey hat hv hlk hg1 hs1 hm3 hpw3 hsz3
      have hal : Pure w3 (w3.alloc (.cells #[.int .u32 c.slot, .int .u64 c.dl, .int .u64 c.birth] 31)) := (Mod.refl _ w3).alloc _
      have h5 := heap_new (w := w3) (o := .cells #[.int .u32 c.slot, .int .u64 c.dl, .int .u64 c.birth] 31 (0, 0)) rfl
      have HAL := Lib.hid hal
      go_upto_region 7 with fail
      generalize w3.alloc (.cells #[.int .u32 c.slot, .int .u64 c.dl, .int .u64 c.birth] 31) = W4 at *
      obtain ⟨b5, hb5⟩ : ∃ b5, w3.heap.size = b5 := ⟨_, rfl⟩
      rw [hb5] at h5 ⊢
      have HB5 := Lib.hid hb5
      clear hb5 hal hen
      have h5_0 := cell_of_row _ _ 0 _ _ _ h5; have h5_1 := cell_of_row _ _ 1 _ _ _ h5; have h5_2 := cell_of_row _ _ 2 _ _ _ h5; have h5_f := (fun j => frozen_of_row _ _ j _ _ h5); have h5_l := lt_of_block h5; simp at h5_0 h5_1 h5_2; have H_h5 := Lib.hid h5; clear h5
      go_wp2_with (go_at_call 48; refine Calls.mono (HPu.out _ (by first | exact HAL.out | exact HAL.out.drew)) ?_; rintro e w5 ⟨rfl, ⟨D3, Ds3, Dm3, Db3, hC3, hg3⟩, hm3⟩)
      have hm5 : Mod D2 w3 w5 := (Mod.of_pure HAL.out).trans (by first | exact hm3 | exact Mod.of_drew hm3)
      have hg5 : ∀ k, D3 k → D2 k ∨ b5 ≤ k := fun k hk => by
        have e1 := HAL.out.size
        have e2 := HB5.out
        rcases hg3 k hk with e | e
        · exact .inl e
        · have e' : W4.heap.size ≤ k := e
          exact .inr (by omega)
      have hrb : rb < b5 := by have := HRG.out.lt; have := HB5.out; omega
      have hb5w : w.heap.size ≤ b5 := by have := HPW3.out.size; have := HB5.out; omega
      have hrg5 := rgs_mod HRG.out hm5 (fun e => by have := HIr.out.fresh _ e; omega) HIr.out.rb2
      have hI5 : CpI w w5 L bm rb L.length Dm (fun z => left z && !z.sameKey (kS c.slot)) cnt1 p2 now D3 (c :: M2) := ⟨hrg5, fun kl hk => HIr.out.has kl (by simp at hk; exact hk.1), ⟨_, _, _, _, _, _, _, hC3, HInv.out⟩, fun x hx => (by
          rcases List.mem_cons.1 hx with rfl | hx
          · exact HZ.out
          · exact HIr.out.sub x hx), fun x hx => (by
          rw [same_kS, List.mem_cons, not_or, ← HIr.out.todo x hx]
          simp
          exact ⟨fun k => ⟨fun e => k.2 (by rw [e]), k.1⟩, fun k => ⟨k.2, fun e => k.1 (HI.out.slots x hx c HZ.out e)⟩⟩), fun k hk => (by
          rcases hg5 k hk with e | e
          · exact HIr.out.fresh k e
          · omega), fun e => (by
          rcases hg5 rb e with e | e
          · exact HIr.out.rb2 e
          · omega), HPW3.out.then hm5 (fun k hk e => by have := HIr.out.fresh k e; omega)⟩
      have HI5 := Lib.hid hI5
      clear hm5 hg5 hrg5 hI5 hC3 hg3 hm3
      go_wp2
      go_roundw
      case rel => exact ⟨_, _, _, _, HI5.out⟩
      case measure => rw [HI5.out.rg.left_eq, HIr.out.rg.left_eq]; exact HLT.out
end
end Go.Proofs.YtlalpenfgkfkpaaDoor

/- due: All. Conditions: the deadlines lie in memory. -/
namespace Go.Proofs.YtlalpenfgkfkpaaDoor
open Go.RowKit Go.Shelf
set_option maxRecDepth 100000
section
variable {w w' : World} {D : Nat → Prop} {p now q bb bs : Nat} {Dc : Nat → Prop} {Db Ds : DataW Unit} {M L : List Td}
theorem DueL.nd (h : DueL now M) : M.Nodup := h.ord.imp (fun {a b} k e => by subst e; exact bef_asymm k k)
theorem DueL.count (h : DueL now M) : M.length ≤ 4194304 := by
  have h1 : (M.map (fun x => x.slot)).Nodup := by
    unfold List.Nodup
    rw [List.pairwise_map]
    exact List.Pairwise.imp_of_mem (fun {a b} ha hb hne e => hne (h.slots a ha b hb e)) h.nd
  have := nodup_bound (N := 4194304) h1 (fun s hs => by
    obtain ⟨x, hx, rfl⟩ := List.mem_map.1 hs
    exact (h.rng x hx).1)
  simpa using this
theorem DueL.sub (h : DueL now M) {M2 : List Td} (hn : M2.Nodup) (hs : ∀ x ∈ M2, x ∈ M) : M2.length ≤ 4194304 := by
  have h1 : (M2.map (fun x => x.slot)).Nodup := by
    unfold List.Nodup
    rw [List.pairwise_map]
    exact List.Pairwise.imp_of_mem (fun {a b} ha hb hne e => hne (h.slots a (hs a ha) b (hs b hb) e)) hn
  have := nodup_bound (N := 4194304) h1 (fun s hx => by
    obtain ⟨x, k, rfl⟩ := List.mem_map.1 hx
    exact (h.rng x (hs x k)).1)
  simpa using this
structure AlI (w wr : World) (M : List Td) (bs rb n : Nat) (Ds : DataW Unit) (left : Lit → Bool) (cnt : Nat) (a : Option Addr) (c : Nat) (M2 : List Td) : Prop where
  rg : wr.ranges Tryd.prog 29 tdElem bs rb n Ds left cnt
  has : ∀ kl, left kl = true → Maps.has Ds kl = true
  row : TdRow wr a c M2
  fresh : FreshV w (.slice a M2.length c)
  off : ∀ g, (Value.slice a M2.length c).ownBlock = some g → g ≠ rb
  nd : M2.Nodup
  sub : ∀ x ∈ M2, x ∈ M
  todo : ∀ x ∈ M, left (kS x.slot) = true ↔ x ∉ M2
  pure : Pure w wr
set_option maxHeartbeats 2000000 in
theorem duall_ok (h : DueMem w D p now q bb bs Dc Db Ds M L) (hL : DueL now M) :
    Calls Tryd.prog 36 #[lkP p] w fun e w' => ∃ a c, e = .returned (.slice a M.length c) ∧ TdRow w' a c M ∧ FreshV w (.slice a M.length c) ∧ Pure w w' := by
  have HCk := Lib.hid (dcheck0 h)
  obtain ⟨c0, c1, c2⟩ := h.cells
  have HC := Lib.hid h; have HI := Lib.hid hL
  have hcnt := hL.count
  clear h hL c0 c1
  go_enter Tryd.func36, Tryd.ntmps36
  go_upto_region 4 with (go_at_call 69; refine Calls.mono HCk.out ?_; rintro e w' ⟨rfl, rfl⟩)
  go_upto_region 5 with (at_range; refine wpList_range_own _ rfl _ 54 rfl 29 31 keyedS Tryd.underlying54 tdElem bs M.length Ds rfl HC.out.slots.own ?_; intro wg hrg hgr hsz; go_frame)
  have hpg : Pure w wg := Mod.of_grown hgr (fun i e _ => by cases e)
  have hI : AlI w wg M bs w.heap.size M.length Ds (Maps.has Ds) (Maps.size Ds) none 0 [] :=
    ⟨hrg, fun _ h => h, World.ownsRow_nil _ _ _ _, (fun g hg => by cases hg), (fun g hg => by cases hg), List.nodup_nil, (fun x hx => by cases hx), fun x hx => ⟨fun _ c => (by cases c), fun _ => HC.out.slots.has_mem hx⟩, hpg⟩
  have HI0 := Lib.hid hI
  have hrb : w.heap.size = w.heap.size := rfl
  clear hrg hgr hsz hpg hI c2
  obtain ⟨rb, hrb⟩ : ∃ rb, w.heap.size = rb := ⟨_, rfl⟩
  rw [hrb] at HI0 ⊢
  have HRB := Lib.hid hrb
  clear hrb
  obtain ⟨j0, hj, jz0, jz1, jz2⟩ := info_parts info_td
  go_loopw [3] (fun v3 wr => ∃ left cnt a c M2, v3 = .slice a M2.length c ∧ AlI w wr M bs rb M.length Ds left cnt a c M2) (fun _ wr => wr.rangeLeft bs rb)
  case atStart => exact ⟨_, _, none, 0, [], rfl, HI0.out⟩
  case round =>
    obtain ⟨left, cnt, a, c, M2, rfl, hI⟩ := hrel
    have HIr := Lib.hid hI
    clear hI
    go_wp2_with (at_next; refine wpList_next_ranges _ rfl _ rfl 29 keyedS tdElem (fun x : Int => Value.int .u32 x) tdV (fun key kl hkey => by obtain ⟨x, rfl, _⟩ := Maps.keyOf_int_inv Tryd.underlying29 hkey; exact ⟨x, rfl⟩) (fun v y hv => by obtain ⟨c, rfl, _⟩ := tdElem_inv hv; exact ⟨c, rfl⟩) bs rb M.length Ds left cnt rfl HIr.out.rg ?_ ?_)
    · intro hc0 hl0
      have hp : M2.Perm M := by
        rw [List.perm_ext_iff_of_nodup HIr.out.nd HI.out.nd]
        intro x
        refine ⟨HIr.out.sub x, fun hx => ?_⟩
        apply Classical.byContradiction
        intro hn
        have := (HIr.out.todo x hx).2 hn
        rw [hl0] at this
        cases this
      have hlen := hp.length_eq
      have hso := dsort_ok HIr.out.row (by omega) (fun x hx y hy e => HI.out.births x (HIr.out.sub x hx) y (HIr.out.sub y hy) e) HIr.out.nd
      have HSo := Lib.hid hso; have HP := Lib.hid hp; have HLn := Lib.hid hlen
      clear hc0 hl0 hp hso hlen
      go_wp2_with (go_at_call 53; refine Calls.mono HSo.out ?_; rintro e w9 ⟨rfl, d', s1, s2, s3, hr9, hm9⟩)
      have hdq : d' = M := sorted_uniq s1 HI.out.ord (s2.trans HP.out)
      rw [hdq] at hr9
      have hfr := HIr.out.fresh
      have hpp : Pure w w9 := HIr.out.pure.then hm9 (fun k hk e => by have := hfr k e; omega)
      rw [HLn.out] at hfr
      refine bodyPost_ret (v := .slice a M2.length c) (by simp [results, Tryd.results36, go_sem]) rfl ⟨a, c, by rw [HLn.out], hr9, hfr, hpp⟩
    · intro x c5 kl y1 y2 w3 cnt1 hkey hlk hv hat hrg1 hlt1 hg1 hs1 hen
      obtain ⟨s, rfl, rfl, hs32⟩ := key_inv hkey
      obtain ⟨z, hz, hzs⟩ := HC.out.slots.has s (HIr.out.has _ hlk)
      have hcz : c5 = z := by
        have e1 := hat (.lit (.int .u32 0))
        rw [← hzs, HC.out.slots.at_ z hz] at e1
        have e5 := tdElem_mk c5
        rw [hv] at e5
        injection e5 with e5
        have e6 : y1 = tdD c5 := congrArg Prod.fst e5
        exact tdD_inj (e6.symm.trans e1.symm)
      subst hcz
      subst hzs
      have hm3 : Mod (fun k => k = rb) wr w3 := Mod.of_grown hg1 (fun i e _ => by cases e; rfl)
      have hn2 : c5 ∉ M2 := (HIr.out.todo c5 hz).1 hlk
      have hml : M2.length ≤ 4194304 := HI.out.sub HIr.out.nd HIr.out.sub
      have hrow3 := owns_mod HIr.out.row hm3 (fun g hg e => HIr.out.off g hg e)
      have hsz3 : w3.heap.size = wr.heap.size := hs1
      have hpw3 : Pure w w3 := HIr.out.pure.then hm3 (fun k hk e => by have := HRB.out; omega)
      unfold tdV at hen
      have HZ := Lib.hid hz; have HN2 := Lib.hid hn2; have HSZ3 := Lib.hid hsz3; have HRG := Lib.hid hrg1; have HLT := Lib.hid hlt1; have HPW3 := Lib.hid hpw3; have HRow := Lib.hid hrow3
      clear hz hn2 hrg1 hlt1 hkey hat hv hlk hg1 hs1 hm3 hpw3 hsz3 hrow3
      have hal : Pure w3 (w3.alloc (.cells #[.int .u32 c5.slot, .int .u64 c5.dl, .int .u64 c5.birth] 31)) := (Mod.refl _ w3).alloc _
      have h5 := heap_new (w := w3) (o := .cells #[.int .u32 c5.slot, .int .u64 c5.dl, .int .u64 c5.birth] 31 (0, 0)) rfl
      have HAL := Lib.hid hal
      obtain ⟨nd, hnd⟩ : ∃ nd, M2.length = nd := ⟨_, rfl⟩
      rw [hnd] at hml HRow ⊢
      have HND := Lib.hid hnd
      clear hnd
      go_upto_region 7 with fail
      generalize w3.alloc (.cells #[.int .u32 c5.slot, .int .u64 c5.dl, .int .u64 c5.birth] 31) = W4 at *
      obtain ⟨b5, hb5⟩ : ∃ b5, w3.heap.size = b5 := ⟨_, rfl⟩
      rw [hb5] at h5 ⊢
      have HB5 := Lib.hid hb5
      clear hb5 hal hen
      have h5_0 := cell_of_row _ _ 0 _ _ _ h5; have h5_1 := cell_of_row _ _ 1 _ _ _ h5; have h5_2 := cell_of_row _ _ 2 _ _ _ h5; have h5_f := (fun j => frozen_of_row _ _ j _ _ h5); have h5_l := lt_of_block h5; simp at h5_0 h5_1 h5_2; have H_h5 := Lib.hid h5; clear h5
      go_wp2_with (at_builtin; refine wpList_append_read _ rfl _ _ 28 rfl 31 j0 _ 3 24 Tryd.underlying28 hj jz0 jz1 jz2 rfl (by decide) (.slice a nd c) nd _ rfl (owns_mod (owns_mod HRow.out HAL.out (fun _ _ h => h)) ((Mod.refl (fun _ => False) W4).alloc _) (fun _ _ h => h)) _ [.int .u32 c5.slot, .int .u64 c5.dl, .int .u64 c5.birth] 1 rfl (ReadAt.of_block 1 1 3 (heap_new rfl) (by rfl) (by simp [Value.oneCell'])) rfl (by unfold maxLen; omega) (by omega) ?_; intro a8 c8 w6 hr8 hg8 hb8)
      have hmg : Mod (fun k => (Value.slice a nd c).ownBlock = some k) w3 w6 := ((Mod.of_pure HAL.out).alloc _).then (Mod.of_grown (S := fun k' => (Value.slice a nd c).ownBlock = some k') hg8 (fun k e _ => e)) (fun _ _ h => h)
      have hfr := HIr.out.fresh; have hof := HIr.out.off
      rw [HND.out] at hfr hof
      have hsw := HPW3.out.size
      have hrbl : rb < w3.heap.size := HRG.out.lt
      have hbw : bs < w.heap.size := HC.out.slots.own.lt
      have hal4 := HAL.out.size
      have hrg6 := rgs_mod HRG.out hmg (fun e => by have := hfr _ e; omega) (fun e => hof _ e rfl)
      have hfr8 : FreshV w (.slice a8 (nd + 1) c8) := fun g hg => by
        rcases hb8 with e | e
        · exact hfr g (e ▸ hg)
        · rw [e] at hg
          cases hg
          simp
          omega
      have hof8 : ∀ g, (Value.slice a8 (nd + 1) c8).ownBlock = some g → g ≠ rb := fun g hg => by
        rcases hb8 with e | e
        · exact hof g (e ▸ hg)
        · rw [e] at hg
          cases hg
          simp
          omega
      have hI6 : AlI w w6 M bs rb M.length Ds (fun z => left z && !z.sameKey (kS c5.slot)) cnt1 a8 c8 (M2 ++ [c5]) := ⟨hrg6, fun kl hk => HIr.out.has kl (by simp at hk; exact hk.1),
        (by
          show World.ownsRow _ 0 _ 3 (.slice a8 (M2 ++ [c5]).length c8) (M2 ++ [c5]).length ((M2 ++ [c5]).flatMap tdC)
          rw [List.length_append, HND.out, List.flatMap_append]
          exact hr8), (by rw [List.length_append, HND.out]; exact hfr8), (by rw [List.length_append, HND.out]; exact hof8), (by
          rw [List.nodup_append]
          exact ⟨HIr.out.nd, by simp, fun x hx y hy e => by simp at hy; subst hy; subst e; exact HN2.out hx⟩), fun x hx => (by
          rcases List.mem_append.1 hx with hx | hx
          · exact HIr.out.sub x hx
          · rw [List.mem_singleton.1 hx]; exact HZ.out), fun x hx => (by
          rw [same_kS, List.mem_append, List.mem_singleton, not_or, ← HIr.out.todo x hx]
          simp
          exact fun _ => ⟨fun k e => k (by rw [e]), fun k e => k (HI.out.slots x hx c5 HZ.out e)⟩),
        HPW3.out.then hmg (fun k hk e => by have := hfr k e; omega)⟩
      have hnx : (M2 ++ [c5]).length = nd + 1 := by rw [List.length_append, HND.out]; rfl
      have HI6 := Lib.hid hI6; have HNX := Lib.hid hnx
      clear hr8 hg8 hb8 hmg hfr hof hsw hrbl hbw hal4 hrg6 hfr8 hof8 hI6 hnx
      go_wp2
      go_roundw
      case rel => exact ⟨_, _, a8, c8, M2 ++ [c5], by rw [HNX.out], HI6.out⟩
      case measure => rw [HI6.out.rg.left_eq, HIr.out.rg.left_eq]; exact HLT.out
end
end Go.Proofs.YtlalpenfgkfkpaaDoor

/- due: New. No condition but for the time. -/
namespace Go.Proofs.YtlalpenfgkfkpaaDoor
open Go.RowKit Go.Shelf
set_option maxRecDepth 100000
section
variable {w w' : World} {D : Nat → Prop} {p now q bb bs : Nat} {Dc : Nat → Prop} {Db Ds : DataW Unit} {M L : List Td}
/-- Deadlines in block p, their own blocks D: at a time, M in order. -/
def DueAt (w : World) (D : Nat → Prop) (p now : Nat) (M : List Td) : Prop :=
  ∃ q bb bs Dc Db Ds, DueMem w D p now q bb bs Dc Db Ds M (timedL M) ∧ DueL now M
theorem DueAt.frame {S : Nat → Prop} (h : DueAt w D p now M) (hm : Mod S w w') (hd : ∀ k, D k → ¬ S k) : DueAt w' D p now M := by
  obtain ⟨q, bb, bs, Dc, Db, Ds, h1, h2⟩ := h
  exact ⟨q, bb, bs, Dc, Db, Ds, h1.frame hm hd, h2⟩
theorem DueAt.pure (h : DueAt w D p now M) (hm : Pure w w') : DueAt w' D p now M := h.frame hm (fun _ _ h => h)
theorem DueAt.lt (h : DueAt w D p now M) {k : Nat} (hk : D k) : k < w.heap.size := by
  obtain ⟨q, bb, bs, Dc, Db, Ds, h1, h2⟩ := h
  exact h1.lt hk
theorem DueAt.self (h : DueAt w D p now M) : D p := by
  obtain ⟨q, bb, bs, Dc, Db, Ds, h1, h2⟩ := h
  exact (h1.dd p).2 (.inl rfl)
theorem DueAt.law (h : DueAt w D p now M) : DueL now M := by
  obtain ⟨q, bb, bs, Dc, Db, Ds, h1, h2⟩ := h
  exact h2
theorem DueAt.now64 (h : DueAt w D p now M) : now < 18446744073709551616 := by
  obtain ⟨q, bb, bs, Dc, Db, Ds, h1, h2⟩ := h
  exact h1.cas.now64
theorem DueL.nil (now : Nat) : DueL now [] := ⟨List.Pairwise.nil, (fun x hx => by cases hx), (fun x hx => by cases hx), (fun x hx => by cases hx)⟩
theorem dunew_ok (w : World) {now : Nat} (hn : now < 18446744073709551616) : Calls Tryd.prog 33 #[.int .u64 now] w fun e w' => ∃ p D, e = .returned (lkP p) ∧ DueAt w' D p now [] ∧ Pure w w' ∧ ∀ k, D k → w.heap.size ≤ k := by
  have HN := Lib.hid (fun W => cnew_ok W hn)
  have hmm := @run_makeMap Tryd.prog
  go_enter Tryd.func33, Tryd.ntmps33
  go_wp2_with (go_at_call 11; refine Calls.mono (HN.out _) ?_; rintro e w1 ⟨q, Dc, rfl, hc, hp, hf⟩)
  have a1 : Pure w1 (w1.alloc (.map #[] 0)) := (Mod.refl _ w1).alloc _
  have a2 : Pure (w1.alloc (.map #[] 0)) ((w1.alloc (.map #[] 0)).alloc (.map #[] 0)) := (Mod.refl _ _).alloc _
  have hs1 : (w1.alloc (.map #[] 0)).heap.size = w1.heap.size + 1 := by simp
  have hs2 : ((w1.alloc (.map #[] 0)).alloc (.map #[] 0)).heap.size = w1.heap.size + 2 := by simp
  have t1 := NMap.new w1
  have t2 := TMap.new (w1.alloc (.map #[] 0))
  rw [hs1] at t2
  have a3 : Pure ((w1.alloc (.map #[] 0)).alloc (.map #[] 0)) (((w1.alloc (.map #[] 0)).alloc (.map #[] 0)).alloc (.cells #[lkP q, .map (some w1.heap.size), .map (some (w1.heap.size + 1))] 85)) := (Mod.refl _ _).alloc _
  have hlt := fun k (hk : Dc k) => hc.lt hk
  have hsz := hp.size
  have hfin : DueAt (((w1.alloc (.map #[] 0)).alloc (.map #[] 0)).alloc (.cells #[lkP q, .map (some w1.heap.size), .map (some (w1.heap.size + 1))] 85)) (fun k => k = w1.heap.size + 2 ∨ k = w1.heap.size ∨ k = w1.heap.size + 1 ∨ Dc k) (w1.heap.size + 2) now [] :=
    ⟨q, w1.heap.size, w1.heap.size + 1, Dc, _, _, ⟨heap_new hs2.symm, ((hc.pure a1).pure a2).pure a3, (t1.mod a2 (fun h => h)).mod a3 (fun h => h), t2.mod a3 (fun h => h), fun e => by have := hlt _ e; omega, fun e => by have := hlt _ e; omega, fun e => by have := hlt _ e; omega, ⟨by omega, by omega, by omega⟩, fun k => Iff.rfl⟩, DueL.nil _⟩
  have hpp := ((hp.trans a1).trans a2).trans a3
  go_ret
  refine ⟨w1.heap.size + 2, _, rfl, hfin, hpp, fun k hk => ?_⟩
  rcases hk with rfl | rfl | rfl | e
  · omega
  · omega
  · omega
  · exact hf k e
end
end Go.Proofs.YtlalpenfgkfkpaaDoor

/- due: the cascade under the deadlines has turned. No condition. -/
namespace Go.Proofs.YtlalpenfgkfkpaaDoor
open Go.RowKit Go.Shelf
set_option maxRecDepth 100000
section
variable {w w' : World} {D : Nat → Prop} {p now q bb bs : Nat} {Dc : Nat → Prop} {Db Ds : DataW Unit} {M L : List Td}
theorem DueMem.off0 (h : DueMem w D p now q bb bs Dc Db Ds M L) {k : Nat} (hk : k ≥ w.heap.size) : ¬ D k := fun e => by have := h.lt e; omega
/-- The cascade has turned. -/
theorem DueMem.cascade (h : DueMem w D p now q bb bs Dc Db Ds M L) {Dc' : Nat → Prop} {now' : Nat} {L' : List Td} (hc : CasAt w' Dc' q now' L') (hg : grewD Dc Dc' w) (hm : Mod Dc w w') :
    ∃ D', DueMem w' D' p now' q bb bs Dc' Db Ds M L' ∧ grewD D D' w := by
  have n1 : ¬ Dc' p := fun e => by rcases hg p e with e | e; exact h.np e; have := h.lt ((h.dd p).2 (.inl rfl)); omega
  have n2 : ¬ Dc' bb := fun e => by rcases hg bb e with e | e; exact h.nbb e; have := h.lt ((h.dd bb).2 (.inr (.inl rfl))); omega
  have n3 : ¬ Dc' bs := fun e => by rcases hg bs e with e | e; exact h.nbs e; have := h.lt ((h.dd bs).2 (.inr (.inr (.inl rfl)))); omega
  refine ⟨fun k => k = p ∨ k = bb ∨ k = bs ∨ Dc' k, ⟨hm.heap h.np h.box, hc, h.births.mod hm h.nbb, h.slots.mod hm h.nbs, n1, n2, n3, h.ne, fun k => Iff.rfl⟩, fun k hk => ?_⟩
  rcases hk with rfl | rfl | rfl | e
  · exact .inl ((h.dd k).2 (.inl rfl))
  · exact .inl ((h.dd k).2 (.inr (.inl rfl)))
  · exact .inl ((h.dd k).2 (.inr (.inr (.inl rfl))))
  · rcases hg k e with e | e
    · exact .inl ((h.dd k).2 (.inr (.inr (.inr e))))
    · exact .inr e
end
end Go.Proofs.YtlalpenfgkfkpaaDoor

/- due: drop. Conditions: the deadlines lie in memory, the slot is there. -/
namespace Go.Proofs.YtlalpenfgkfkpaaDoor
open Go.RowKit Go.Shelf
set_option maxRecDepth 100000
section
variable {w w' : World} {D : Nat → Prop} {p now q bb bs : Nat} {Dc : Nat → Prop} {Db Ds : DataW Unit} {M L : List Td}
set_option maxHeartbeats 1000000 in
theorem ddrop_ok (h : DueMem w D p now q bb bs Dc Db Ds M L) {x : Td} {M' : List Td} (hx : x ∈ M) (hs : x.slot ≤ 4294967295) (hb : x.birth ≤ 18446744073709551615) (hM : ∀ y, y ∈ M' ↔ y ∈ M ∧ y.slot ≠ x.slot) (hM2 : ∀ y, y ∈ M' ↔ y ∈ M ∧ y.birth ≠ x.birth) (hl : M'.length + 1 = M.length) :
    Calls Tryd.prog 70 #[lkP p, tdV x] w fun e w' => e = .returned (.tuple #[]) ∧ (∃ D' Dc' Db' Ds', DueMem w' D' p now q bb bs Dc' Db' Ds' M' (canL L x.slot) ∧ grewD D D' w) ∧ Mod D w w' := by
  have hal : Pure w (w.alloc (.cells #[.int .u32 x.slot, .int .u64 x.dl, .int .u64 x.birth] 31)) := (Mod.refl _ w).alloc _
  have h3 := heap_new (w := w) (o := .cells #[.int .u32 x.slot, .int .u64 x.dl, .int .u64 x.birth] 31 (0, 0)) rfl
  have hD3 : ¬ D w.heap.size := h.off0 (Nat.le_refl _)
  have HC := Lib.hid (h.pure hal)
  have HCn := Lib.hid (((h.pure hal).pure ((Mod.refl _ _).drew : Pure _ (w.alloc (.cells #[.int .u32 x.slot, .int .u64 x.dl, .int .u64 x.birth] 31)).drew)).cas.cancel hs)
  have HX := Lib.hid hx; have HM := Lib.hid hM; have HM2 := Lib.hid hM2; have HAL := Lib.hid hal; have HDD := Lib.hid h.dd
  have hsz : w.heap.size ≤ (w.alloc (.cells #[.int .u32 x.slot, .int .u64 x.dl, .int .u64 x.birth] 31)).heap.size := hal.size
  obtain ⟨ne1, ne2, ne3⟩ := h.ne
  clear h hx hM hM2 hal
  unfold tdV
  go_enter Tryd.func70, Tryd.ntmps70
  go_upto_region 1 with fail
  generalize w.alloc (.cells #[.int .u32 x.slot, .int .u64 x.dl, .int .u64 x.birth] 31) = W1 at *
  obtain ⟨b3, hb3⟩ : ∃ b3, w.heap.size = b3 := ⟨_, rfl⟩
  rw [hb3] at h3 hD3 ⊢
  clear hb3
  obtain ⟨c0, c1, c2⟩ := HC.out.cells
  have H3 := Lib.hid h3
  have h3_0 := cell_of_row _ _ 0 _ _ _ h3; have h3_1 := cell_of_row _ _ 1 _ _ _ h3; have h3_2 := cell_of_row _ _ 2 _ _ _ h3; have h3_f := (fun j => frozen_of_row _ _ j _ _ h3); have h3_l := lt_of_block h3; simp at h3_0 h3_1 h3_2; have H_h3 := Lib.hid h3; clear h3
  go_still_tail 6, (by kernel_rfl)
  go_upto_region 2 with (go_at_call 24; refine Calls.mono HCn.out ?_; rintro e w2 ⟨rfl, ⟨Dc2, hc2, hg2⟩, hm2⟩)
  have hm2' : Mod Dc W1 w2 := Mod.of_drew hm2
  have hg2' : grewD Dc Dc2 W1 := hg2
  obtain ⟨D2, hD2, hgD⟩ := HC.out.cascade hc2 hg2' hm2'
  have n3 : b3 ≠ p ∧ b3 ≠ bb ∧ b3 ≠ bs ∧ ¬ Dc b3 := ⟨fun e => hD3 ((HDD.out b3).2 (.inl e)), fun e => hD3 ((HDD.out b3).2 (.inr (.inl e))), fun e => hD3 ((HDD.out b3).2 (.inr (.inr (.inl e)))), fun e => hD3 ((HDD.out b3).2 (.inr (.inr (.inr e))))⟩
  have h32 := hm2'.heap n3.2.2.2 H3.out
  have HD2 := Lib.hid hD2; have HGD := Lib.hid hgD; have HM2' := Lib.hid (hm2'.mono (fun k _ hk => (HDD.out k).2 (.inr (.inr (.inr hk)))) : Mod D W1 w2); have H32 := Lib.hid h32
  clear h3_0 h3_1 h3_2 h3_f h3_l
  clear H_h3 hm2 hm2' hg2 hg2' hD2 hgD hc2 HCn c0 c1 c2
  obtain ⟨c0, c1, c2⟩ := HD2.out.cells
  have h32_0 := cell_of_row _ _ 0 _ _ _ h32; have h32_1 := cell_of_row _ _ 1 _ _ _ h32; have h32_2 := cell_of_row _ _ 2 _ _ _ h32; have h32_f := (fun j => frozen_of_row _ _ j _ _ h32); have h32_l := lt_of_block h32; simp at h32_0 h32_1 h32_2; have H_h32 := Lib.hid h32; clear h32
  go_still_tail 6, (by kernel_rfl)
  go_upto_region 3 with (at_delete; refine wpList_delete_own _ rfl _ _ 83 22 rfl 29 keyedB Tryd.underlying83 numElem bb M.length Db rfl HD2.out.births.own.drew (.int .u64 x.birth) (kB x.birth) rfl (kB_of hb) ?_; intro w3 ho3 ht3; go_frame)
  have hm3 : Mod (fun k => k = bb) w2 w3 := Mod.of_drew (Mod.of_grown ht3.grown (fun k e _ => by cases e; rfl))
  have hN3 := HD2.out.births.del HX.out HM2.out hl ho3
  have hbx3 := hm3.heap (fun e => ne1 e) HD2.out.box
  have hT3 := HD2.out.slots.mod hm3 (fun e => ne3 e.symm)
  have hc3 := HD2.out.cas.frame hm3 (fun k hk e => HD2.out.nbb (e ▸ hk))
  have h33 := hm3.heap n3.2.1 H32.out
  have HM3 := Lib.hid hm3; have HN3 := Lib.hid hN3; have HBX3 := Lib.hid hbx3; have HT3 := Lib.hid hT3; have HC3 := Lib.hid hc3; have H33 := Lib.hid h33
  clear h32_0 h32_1 h32_2 h32_f h32_l
  clear H_h32 c0 c1 c2 ho3 ht3 hm3 hN3 hT3 hc3
  have c0 : w3.cell? ⟨p, 0, none⟩ = some (lkP q) := by rw [cell_of_row _ _ 0 _ _ _ hbx3]; rfl
  have c2 : w3.cell? ⟨p, 2, none⟩ = some (.map (some bs)) := by rw [cell_of_row _ _ 2 _ _ _ hbx3]; rfl
  clear hbx3
  have h33_0 := cell_of_row _ _ 0 _ _ _ h33; have h33_1 := cell_of_row _ _ 1 _ _ _ h33; have h33_2 := cell_of_row _ _ 2 _ _ _ h33; have h33_f := (fun j => frozen_of_row _ _ j _ _ h33); have h33_l := lt_of_block h33; simp at h33_0 h33_1 h33_2; have H_h33 := Lib.hid h33; clear h33
  go_still_tail 6, (by kernel_rfl)
  go_wp2_with (at_delete; refine wpList_delete_own _ rfl _ _ 54 29 rfl 31 keyedS Tryd.underlying54 tdElem bs M.length Ds rfl HT3.out.own.drew (.int .u32 x.slot) (kS x.slot) rfl (kS_of hs) ?_; intro w4 ho4 ht4; go_frame)
  have hm4 : Mod (fun k => k = bs) w3 w4 := Mod.of_drew (Mod.of_grown ht4.grown (fun k e _ => by cases e; rfl))
  have hT4 := HT3.out.del HX.out HM.out hl ho4
  have hfin : DueMem w4 D2 p now q bb bs Dc2 (Db.del (kB x.birth)) (Ds.del (kS x.slot)) M' (canL L x.slot) := ⟨hm4.heap (fun e => ne2 e) HBX3.out, HC3.out.frame hm4 (fun k hk e => HD2.out.nbs (e ▸ hk)), HN3.out.mod hm4 (fun e => ne3 e), hT4, HD2.out.np, HD2.out.nbb, HD2.out.nbs, HD2.out.ne, HD2.out.dd⟩
  have hmo : Mod D w w4 := ((HAL.out.mono (fun _ _ h => h.elim) : Mod D w W1).trans HM2'.out).trans ((HM3.out.mono (fun k _ hk => by rw [hk]; exact (HDD.out bb).2 (.inr (.inl rfl))) : Mod D w2 w3).trans (hm4.mono (fun k _ hk => by rw [hk]; exact (HDD.out bs).2 (.inr (.inr (.inl rfl))))))
  go_end0
  exact ⟨rfl, ⟨_, _, _, _, hfin, fun k hk => by
    rcases HGD.out k hk with e | e
    · exact .inl e
    · exact .inr (Nat.le_trans HAL.out.size e)⟩, hmo⟩
end
end Go.Proofs.YtlalpenfgkfkpaaDoor

/- m1[k1], m2[k2] = ..: an entry of a map that is laid first and stored later, keys of whatever kind. No condition. -/
namespace Go.Proofs.YtlalpenfgkfkpaaDoor
open Go.RowKit Go.Maps Go.MapKept Go.ChangeMaps Go.WideElems
set_option maxRecDepth 100000
variable {H : Type} {P : Program} {k e t : TypeId} {R : Value → Option (DataW H × List MemPlace)} {w : World} {b n : Nat} {D : DataW H}
theorem own_entry (h : w.ownsMap P k R b n D) (K : Keyed P k) (ht : P.underlying t = some (.map k e)) {z : Value} (hz : ∀ u : World, (zeroValue e).run P u = .ok z u) (hn : n < maxLen) {key : Value} {kl : Lit} (hkey : keyOf P k key = some kl) :
    ∃ (v0 : Value) (st : Nat) (w1 : World) (o1 : Obj), (Instr.mapEntry t (.map (some b)) key).run P w = .ok (.tuple #[v0, .int .i64 (st : Int)]) w1 ∧ w1.heap[b]? = some o1 ∧ w.grownBy w1 (some b) ∧
      ∀ (w2 : World) (val : Value) (d : DataW H) (ps : List MemPlace), w2.heap[b]? = some o1 → R val = some (d, ps) → ∃ w3, (Instr.entryStore t (.map (some b)) (.int .i64 (st : Int)) val).run P w2 = .ok () w3 ∧ w3.ownsMap P k R b (n + 1) (D.put kl d) ∧ w2.grownBy w3 (some b) := by
  have hput : ∀ val d ps, R val = some (d, ps) → ∃ w', (Instr.mapUpdate t (.map (some b)) key val).run P w = .ok () w' ∧ w'.ownsMap P k R b (n + 1) (D.put kl d) := fun val d ps hv => by
    obtain ⟨w', h1, h2, _⟩ := h.update K ht hn hkey hv
    exact ⟨w', h1, h2⟩
  obtain ⟨es, clock, hb, F, hs, hD⟩ := h
  obtain ⟨s1, s2, _⟩ := F.stamped
  have fin : ∀ (w2 : World) (val : Value) (d : DataW H) (ps : List MemPlace) (es2 : Array MapEntry) (c2 : Nat) (es' : Array MapEntry) (clock' : Nat), w2.heap[b]? = some (.map es2 c2) → R val = some (d, ps) → (Instr.mapUpdate t (.map (some b)) key val).run P w = .ok () (setBlock w b (.map es' clock')) →
      (setBlock w2 b (.map es' clock')).ownsMap P k R b (n + 1) (D.put kl d) ∧ w2.grownBy (setBlock w2 b (.map es' clock')) (some b) := fun w2 val d ps es2 c2 es' clock' hw2 hv hup => by
    obtain ⟨w', h1, h2⟩ := hput val d ps hv
    rw [hup] at h1
    injection h1 with _ h1
    subst h1
    obtain ⟨e1, c1, k1, k2, k3, k4⟩ := h2
    rw [heap_setBlock_same hb] at k1
    injection k1 with k1
    injection k1 with k1 k5
    subst k1 k5
    exact ⟨⟨_, _, heap_setBlock_same hw2 _, k2, k3, k4⟩, ⟨rfl, rfl, rfl, by simp [setBlock], fun i _ hi => heap_setBlock_other hw2 _ (fun e => hi (by rw [e]))⟩⟩
  have hgr : ∀ (o : Obj), w.grownBy (setBlock w b o) (some b) := fun o => ⟨rfl, rfl, rfl, by simp [setBlock], fun i _ hi => heap_setBlock_other hb _ (fun e => hi (by rw [e]))⟩
  rcases K.find w hkey es.toList F.keys with ⟨h1, h2⟩ | ⟨j, e0, h1, h2, h3⟩
  · refine ⟨z, clock, setBlock w b (.map (es.push ⟨key, z, clock⟩) (clock + 1)), _, ?_, heap_setBlock_same hb _, hgr _, fun w2 val d ps hw2 hv => ⟨setBlock w2 b (.map (es.push ⟨key, val, clock⟩) (clock + 1)), ?_, ?_⟩⟩
    · simp [Instr.mapEntry, run_underlying ht, MapKept.run_getObj_map hb, K.check w false hkey, h1, hz, MapKept.run_setObj_map _ hb, Result.andThen, setBlock, goInt]
    · have hidx : (es.push ⟨key, z, clock⟩).findIdx? (fun e => ((e.born : Nat) : Int) == ((clock : Nat) : Int)) = some es.size := by
        rw [WideElems.findIdx_arr]
        exact WideElems.findIdx_born (l := (es.push ⟨key, z, clock⟩).toList) (j := es.size) (e0 := ⟨key, z, clock⟩) (by
          simp only [Array.toList_push, List.map_append, List.map_cons, List.map_nil]
          refine List.nodup_append.2 ⟨s2, by simp, fun a ha c hc e1 => ?_⟩
          simp only [List.mem_singleton] at hc
          obtain ⟨x, hx, rfl⟩ := List.mem_map.1 ha
          have := s1 x hx
          omega) (by simp)
      have hmod : (es.push ⟨key, z, clock⟩).modify es.size (fun e => { e with val := val }) = es.push ⟨key, val, clock⟩ := by
        apply Array.ext'
        rw [Array.toList_modify, Array.toList_push, Array.toList_push, ← Array.length_toList, WideElems.modify_last]
      simp [Instr.entryStore, MapKept.run_getObj_map hw2, asInt, asIntOf, hidx, hmod, MapKept.run_setObj_map _ hw2, Result.andThen, setBlock]
    · refine fin w2 val d ps _ _ _ _ hw2 hv ?_
      simp [Instr.mapUpdate, run_underlying ht, MapKept.run_getObj_map hb, K.check w false hkey, h1, MapKept.run_setObj_map _ hb, Result.andThen, setBlock]
  · have hj : es[j]? = some e0 := by simpa using h2
    have hsame : es.modify j (fun e => { e with key := key }) = es := by
      apply Array.ext'
      rw [Array.toList_modify, modify_eq_set _ _ _ _ h2, show ({ e0 with key := key } : MapEntry) = e0 by rw [← h3]]
      exact WideElems.set_self _ _ _ h2
    refine ⟨e0.val, e0.born, setBlock w b (.map es clock), _, ?_, heap_setBlock_same hb _, hgr _, fun w2 val d ps hw2 hv => ⟨setBlock w2 b (.map (es.modify j (fun e' => { e' with key := key, val := val })) clock), ?_, ?_⟩⟩
    · simp [Instr.mapEntry, run_underlying ht, MapKept.run_getObj_map hb, K.check w false hkey, h1, hj, h3, K.stays w hkey, hsame, MapKept.run_setObj_map _ hb, Result.andThen, setBlock, goInt]
    · have hidx : es.findIdx? (fun e => ((e.born : Nat) : Int) == ((e0.born : Nat) : Int)) = some j := by
        rw [WideElems.findIdx_arr]
        exact WideElems.findIdx_born s2 h2
      have hmod : es.modify j (fun e => { e with val := val }) = es.modify j (fun e' => { e' with key := key, val := val }) := by
        apply Array.ext'
        rw [Array.toList_modify, Array.toList_modify, modify_eq_set _ _ _ _ h2, modify_eq_set _ _ _ _ h2, ← h3]
      simp [Instr.entryStore, MapKept.run_getObj_map hw2, asInt, asIntOf, hidx, hmod, MapKept.run_setObj_map _ hw2, Result.andThen, setBlock]
    · refine fin w2 val d ps _ _ _ _ hw2 hv ?_
      simp [Instr.mapUpdate, run_underlying ht, MapKept.run_getObj_map hb, K.check w false hkey, h1, hj, h3, K.stays w hkey, MapKept.run_setObj_map _ hb, Result.andThen, setBlock]
end Go.Proofs.YtlalpenfgkfkpaaDoor
