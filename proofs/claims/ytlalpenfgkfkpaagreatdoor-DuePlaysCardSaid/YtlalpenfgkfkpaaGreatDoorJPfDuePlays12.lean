/- Lemmas and contracts of functions, strung together out of 10 texts. No condition. -/
import Derived.Test.YtlalpenfgkfkpaaGreatDoorJPfDuePlays11
import Derived.Test.YtlalpenfgkfkpaaGreatDoorJPfDuePlays9
import Derived.Test.YtlalpenfgkfkpaaGreatDoorJPfDuePlays10
/- ref15: Find, Add, Renumber; ref14.Same, ref15.Same. Conditions: the numbers are read. -/
namespace Go.Proofs.YtlalpenfgkfkpaaGreatDoor
open Go.RowKit Go.Shelf
set_option maxRecDepth 100000
/-- A list of numbers that is read. -/
structure RdN (w : World) (a : Option Addr) (n c : Nat) (xs : List Nat) : Prop where
  rd : ReadAt w (.slice a n c) 1 (nums xs)
  len : xs.length = n
section
variable {w w' : World} {a a2 : Option Addr} {n c n2 c2 : Nat} {xs ys tv : List Nat} {M acc : List Td}
theorem RdN.pure (h : RdN w a n c xs) (hp : Pure w w') : RdN w' a n c xs := ⟨h.rd.frame hp (fun _ _ h => h), h.len⟩
theorem RdN.of_row (h : NumRow w a c xs) : RdN w a xs.length c xs := ⟨num_read h, rfl⟩
def FindE (xs : List Nat) (s : Nat) (e : Ending) : Prop := ∃ r : Int, e = .returned (.int .i64 r) ∧ (0 ≤ r ↔ s ∈ xs)
theorem r15find_ok (h : RdN w a n c xs) (hl : n ≤ 4194304) (s : Nat) : Calls Tryz.prog 88 #[.slice a n c, .int .u32 s] w fun e w' => FindE xs s e ∧ w = w' := by
  have HR := Lib.hid h.rd; have HN := Lib.hid h.len
  clear h
  go_enter Tryz.func88, Tryz.ntmps88
  go_upto_region 2 with fail
  go_loopw [5] (fun v5 wr => ∃ j : Nat, v5 = .int .i64 (j : Nat) ∧ j ≤ n ∧ Hid (∀ i y, i < j → xs[i]? = some y → y ≠ s) ∧ w = wr) (fun v5 _ => n - (intOf v5).toNat)
  case atStart => exact ⟨0, rfl, Nat.zero_le _, Lib.hid (fun i y hi => by omega), rfl⟩
  case round =>
    obtain ⟨j, rfl, hj, HA, rfl⟩ := hrel
    by_cases hlt : j < n
    · have hlt' : (j : Int) < (n : Int) := by omega
      have j0 : (0 : Int) ≤ (j : Int) := by omega
      have wj : IntKind.i64.wrap ((j : Int) + 1) = (j : Int) + 1 := IntWalk.i64_in _ (by omega)
      obtain ⟨y, hy⟩ : ∃ y, xs[j]? = some y := ⟨_, List.getElem?_eq_getElem (by rw [HN.out]; exact hlt)⟩
      obtain ⟨ad, rfl, z0⟩ := read_num HR.out hy
      have HY := Lib.hid hy
      clear hy
      by_cases q : y = s
      · have e1 : ((y : Int) == (s : Int)) = true := by simp; omega
        have HQ := Lib.hid q
        clear q
        go_wp2
        go_ret
        exact ⟨⟨j, rfl, ⟨fun _ => by rw [← HQ.out]; exact List.mem_of_getElem? HY.out, fun _ => by omega⟩⟩, rfl⟩
      · have e1 : ((y : Int) == (s : Int)) = false := by simp; omega
        have HQ := Lib.hid q
        clear q
        go_wp2
        go_roundw
        case rel => exact ⟨j + 1, by go_num, hlt, Lib.hid (fun i z hi hz => by
          by_cases e : i = j
          · subst e
            rw [HY.out] at hz
            injection hz with hz
            subst hz
            exact HQ.out
          · exact HA.out i z (by omega) hz), by trivial⟩
        case measure => simp [intOf]; omega
    · have hge : ¬ (j : Int) < (n : Int) := by omega
      go_wp2
      go_ret
      exact ⟨⟨-1, rfl, ⟨fun h => by omega, fun h => by
        obtain ⟨i, hi⟩ := List.getElem?_of_mem h
        have := (List.getElem?_eq_some_iff.1 hi).1
        exact absurd rfl (HA.out i s (by rw [HN.out] at this; omega) hi)⟩⟩, rfl⟩
theorem r14same_ok (h : RdN w a n c xs) (h2 : RdN w a2 n c2 xs) (hl : n ≤ 4194304) : Calls Tryz.prog 45 #[.slice a n c, .slice a2 n c2] w fun e w' => e = .returned (.bool true) ∧ Pure w w' := by
  have HR := Lib.hid h.rd; have HN := Lib.hid h.len; have HR2 := Lib.hid h2.rd
  clear h h2
  go_enter Tryz.func45, Tryz.ntmps45
  go_upto_region 4 with fail
  go_loopw [5] (fun v5 wr => ∃ j : Nat, v5 = .int .i64 (j : Nat) ∧ j ≤ n ∧ Hid (Pure w wr)) (fun v5 _ => n - (intOf v5).toNat)
  case atStart => exact ⟨0, rfl, Nat.zero_le _, Lib.hid (Mod.refl _ _)⟩
  case round =>
    obtain ⟨j, rfl, hj, HP⟩ := hrel
    by_cases hlt : j < n
    · have hlt' : (j : Int) < (n : Int) := by omega
      have j0 : (0 : Int) ≤ (j : Int) := by omega
      have wj : IntKind.i64.wrap ((j : Int) + 1) = (j : Int) + 1 := IntWalk.i64_in _ (by omega)
      obtain ⟨y, hy⟩ : ∃ y, xs[j]? = some y := ⟨_, List.getElem?_eq_getElem (by rw [HN.out]; exact hlt)⟩
      obtain ⟨ad, rfl, z0⟩ := read_num (HR.out.frame HP.out (fun _ _ h => h)) hy
      obtain ⟨ad2, rfl, z2⟩ := read_num (HR2.out.frame HP.out (fun _ _ h => h)) hy
      clear hy
      go_upto_region 6 with fail
      refine wp_region_held_drew (S := fun u => u.cell? (ad.add j) = some (.int .u32 y) ∧ u.cell? (ad2.add j) = some (.int .u32 y)) (by kernel_rfl) ⟨z0, z2⟩ (fun hHeld => ?_)
      ((refine wpAnyH_take (i := 0) (v := ?_) rfl (by kernel_rfl) (by kernel_rfl) (by kernel_rfl) (fun _ _ _ h => h) (Yields.yieldsIf (Or.inl ⟨by rfl, ?_⟩)) hHeld ?_; rotate_left 1; focus (intro w; go_simp; try with_reducible rfl)); try simp only [Act.put, List.getElem_toArray, List.getElem_cons_zero, List.getElem_cons_succ, List.setIfInBounds_toArray, List.set_cons_zero, List.set_cons_succ])
      ((refine wpAnyH_take (i := 1) (v := ?_) rfl (by kernel_rfl) (by kernel_rfl) (by kernel_rfl) (fun _ _ _ h => h) (Yields.yieldsIf (Or.inl ⟨by rfl, ?_⟩)) hHeld ?_; rotate_left 1; focus (intro w; go_simp; try with_reducible rfl)); try simp only [Act.put, List.getElem_toArray, List.getElem_cons_zero, List.getElem_cons_succ, List.setIfInBounds_toArray, List.set_cons_zero, List.set_cons_succ])
      ((refine wpAnyH_take (i := 2) (v := ?_) rfl (by kernel_rfl) (by kernel_rfl) (by kernel_rfl) (fun _ _ _ h => h) (Yields.yieldsIf (Or.inl ⟨by rfl, ?_⟩)) hHeld ?_; rotate_left 1; focus (intro w; go_simp; try with_reducible rfl)); try simp only [Act.put, List.getElem_toArray, List.getElem_cons_zero, List.getElem_cons_succ, List.setIfInBounds_toArray, List.set_cons_zero, List.set_cons_succ])
      ((refine wpAnyH_take (i := 3) (v := ?_) rfl (by kernel_rfl) (by kernel_rfl) (by kernel_rfl) (fun _ _ _ h => h) (Or.inl ⟨by rfl, ?_⟩) hHeld ?_; rotate_left 1; focus (intro w hS; obtain ⟨sa, sb⟩ := hS; go_simp; try with_reducible rfl)); try simp only [Act.put, List.getElem_toArray, List.getElem_cons_zero, List.getElem_cons_succ, List.setIfInBounds_toArray, List.set_cons_zero, List.set_cons_succ])
      ((refine wpAnyH_take (i := 4) (v := ?_) rfl (by kernel_rfl) (by kernel_rfl) (by kernel_rfl) (fun _ _ _ h => h) (Yields.yieldsIf (Or.inl ⟨by rfl, ?_⟩)) hHeld ?_; rotate_left 1; focus (intro w; go_simp; try with_reducible rfl)); try simp only [Act.put, List.getElem_toArray, List.getElem_cons_zero, List.getElem_cons_succ, List.setIfInBounds_toArray, List.set_cons_zero, List.set_cons_succ])
      ((refine wpAnyH_take (i := 5) (v := ?_) rfl (by kernel_rfl) (by kernel_rfl) (by kernel_rfl) (fun _ _ _ h => h) (Yields.yieldsIf (Or.inl ⟨by rfl, ?_⟩)) hHeld ?_; rotate_left 1; focus (intro w; go_simp; try with_reducible rfl)); try simp only [Act.put, List.getElem_toArray, List.getElem_cons_zero, List.getElem_cons_succ, List.setIfInBounds_toArray, List.set_cons_zero, List.set_cons_succ])
      ((refine wpAnyH_take (i := 6) (v := ?_) rfl (by kernel_rfl) (by kernel_rfl) (by kernel_rfl) (fun _ _ _ h => h) (Yields.yieldsIf (Or.inl ⟨by rfl, ?_⟩)) hHeld ?_; rotate_left 1; focus (intro w; go_simp; try with_reducible rfl)); try simp only [Act.put, List.getElem_toArray, List.getElem_cons_zero, List.getElem_cons_succ, List.setIfInBounds_toArray, List.set_cons_zero, List.set_cons_succ])
      ((refine wpAnyH_take (i := 7) (v := ?_) rfl (by kernel_rfl) (by kernel_rfl) (by kernel_rfl) (fun _ _ _ h => h) (Or.inl ⟨by rfl, ?_⟩) hHeld ?_; rotate_left 1; focus (intro w hS; obtain ⟨sa, sb⟩ := hS; go_simp; try with_reducible rfl)); try simp only [Act.put, List.getElem_toArray, List.getElem_cons_zero, List.getElem_cons_succ, List.setIfInBounds_toArray, List.set_cons_zero, List.set_cons_succ])
      ((refine wpAnyH_take (i := 8) (v := ?_) rfl (by kernel_rfl) (by kernel_rfl) (by kernel_rfl) (fun _ _ _ h => h) (Yields.yieldsIf (Or.inl ⟨by rfl, ?_⟩)) hHeld ?_; rotate_left 1; focus (intro w; go_simp; try with_reducible rfl)); try simp only [Act.put, List.getElem_toArray, List.getElem_cons_zero, List.getElem_cons_succ, List.setIfInBounds_toArray, List.set_cons_zero, List.set_cons_succ])
      refine wpAnyH_done (by kernel_rfl) ?_ _
      clear hHeld
      go_wp2
      go_roundw
      case rel => exact ⟨j + 1, by go_num, hlt, Lib.hid HP.out.drew⟩
      case measure => simp [intOf]; omega
    · have hge : ¬ (j : Int) < (n : Int) := by omega
      go_wp2
      go_ret
      exact ⟨rfl, HP.out⟩
theorem r15same_ok (h : RdN w a n c xs) (h2 : RdN w a2 n c2 xs) (hl : n ≤ 4194304) : Calls Tryz.prog 28 #[.slice a n c, .slice a2 n c2] w fun e w' => e = .returned (.bool true) ∧ Pure w w' := by
  have HS := Lib.hid (r14same_ok h h2 hl)
  clear h h2
  go_enter Tryz.func28, Tryz.ntmps28
  go_wp2_with (go_at_call 45; refine Calls.mono HS.out ?_; rintro e w' ⟨rfl, hp⟩)
  go_ret
  exact ⟨rfl, hp⟩
/-- What Add says. -/
def addR (xs : List Nat) (s : Nat) : Int := if s < 4194304 then (if s ∈ xs then 11 else 0) else 2
theorem r15add_no (h : RdN w a n c xs) (hl : n ≤ 4194304) {s : Nat} (he : addR xs s ≠ 0) : Calls Tryz.prog 65 #[.slice a n c, .int .u32 s] w fun e w' => e = .returned (.tuple #[.slice a n c, .int .i64 (addR xs s)]) ∧ w = w' := by
  have HF := Lib.hid (r15find_ok h hl s)
  unfold addR at he ⊢
  clear h
  by_cases hs : s < 4194304
  · rw [if_pos hs] at he ⊢
    have hm : s ∈ xs := by
      apply Classical.byContradiction
      intro c
      rw [if_neg c] at he
      exact he rfl
    rw [if_pos hm]
    have hs' : ¬ (4194304 : Int) ≤ (s : Int) := by omega
    have HM := Lib.hid hm
    clear he hs hm
    go_enter Tryz.func65, Tryz.ntmps65
    go_upto_region 3 with fail
    clear hs'
    go_wp2_with (go_at_call 88; refine Calls.mono HF.out ?_; rintro e w' ⟨⟨r, rfl, hr⟩, rfl⟩; have hr0 : decide ((0 : Int) ≤ r) = true := decide_eq_true (hr.2 HM.out))
    exact bodyPost_ret (v := .tuple #[.slice a n c, .int .i64 11]) (by simp [results, Tryz.results65, go_sem]) rfl ⟨rfl, rfl⟩
  · rw [if_neg hs]
    have hs' : (4194304 : Int) ≤ (s : Int) := by omega
    clear he hs
    go_enter Tryz.func65, Tryz.ntmps65
    go_wp2
    exact bodyPost_ret (v := .tuple #[.slice a n c, .int .i64 2]) (by simp [results, Tryz.results65, go_sem]) rfl ⟨rfl, rfl⟩
set_option maxHeartbeats 1000000 in
theorem r15add_ok (h : RdN w a n c xs) (hl : n ≤ 4194304) {s : Nat} (he : addR xs s = 0) : Calls Tryz.prog 65 #[.slice a n c, .int .u32 s] w fun e w' => ∃ a' c', e = .returned (.tuple #[.slice a' (n + 1) c', .int .i64 0]) ∧ NumRow w' a' c' (xs ++ [s]) ∧ FreshV w (.slice a' (n + 1) c') ∧ Pure w w' := by
  have HF := Lib.hid (r15find_ok h hl s)
  unfold addR at he
  have hs : s < 4194304 := by
    apply Classical.byContradiction
    intro c
    rw [if_neg c] at he
    cases he
  rw [if_pos hs] at he
  have hm : ¬ s ∈ xs := by
    intro c
    rw [if_pos c] at he
    cases he
  have hs' : ¬ (4194304 : Int) ≤ (s : Int) := by omega
  have HM := Lib.hid hm; have HR := Lib.hid h
  clear he hs hm h
  obtain ⟨i0, hi, iz0, iz1, iz2⟩ := info_parts info_n32
  go_enter Tryz.func65, Tryz.ntmps65
  go_upto_region 3 with fail
  clear hs'
  go_upto_region 5 with (go_at_call 88; refine Calls.mono HF.out ?_; rintro e w' ⟨⟨r, rfl, hr⟩, rfl⟩; have hr0 : decide ((0 : Int) ≤ r) = false := decide_eq_false (fun c => HM.out (hr.1 c)))
  have V1 : True := trivial
  go_wp2_with (first
    | (at_builtin; clear V1; refine wpList_append_read _ rfl _ _ 36 rfl 33 i0 _ 1 4 Tryz.underlying36 hi iz0 iz1 iz2 rfl (by decide) (.slice none 0 0) 0 [] rfl (World.ownsRow_nil _ _ _ _) (.slice a n c) _ n rfl HR.out.rd (by rw [nums_length, HR.out.len, Nat.mul_one]) (by unfold maxLen; omega) (by omega) ?_; intro a8 c8 w7 hr8 hg8 hb8
       rw [Nat.zero_add] at hr8 hb8 ⊢
       rw [List.nil_append] at hr8
       have p7 : Pure w w7 := Mod.of_grown hg8 (fun k e _ => by cases e)
       have HR8 := Lib.hid hr8; have HB8 := Lib.hid hb8; have HP7 := Lib.hid p7
       clear hr8 hg8 hb8 p7)
    | (at_builtin; refine wpList_append_read _ rfl _ _ 36 rfl 33 i0 _ 1 4 Tryz.underlying36 hi iz0 iz1 iz2 rfl (by decide) (.slice a8 n c8) n _ rfl (owns_mod HR8.out ((Mod.refl (fun _ => False) w7).alloc _) (fun _ _ h => h)) _ [.int .u32 s] 1 rfl (ReadAt.of_block 1 1 1 (heap_new rfl) (by rfl) (by simp [Value.oneCell'])) rfl (by unfold maxLen; omega) (by omega) ?_; intro a9 c9 w9 hr9 hg9 hb9
       have p9 : Mod (fun k => (Value.slice a8 n c8).ownBlock = some k) w7 w9 := ((Mod.refl _ w7).alloc _).then (Mod.of_grown (S := fun k' => (Value.slice a8 n c8).ownBlock = some k') hg9 (fun k e _ => e)) (fun _ _ h => h)
       have HR9 := Lib.hid hr9; have HB9 := Lib.hid hb9; have HP9 := Lib.hid p9
       clear hr9 hg9 hb9 p9))
  have h8f : ∀ g, (Value.slice a8 n c8).ownBlock = some g → w.heap.size ≤ g := fun g hg => by
    rcases HB8.out with e | e
    · rw [e] at hg; cases hg
    · rw [e] at hg; injection hg with hg; omega
  have hs7 := HP7.out.size
  have h9f : FreshV w (.slice a9 (n + 1) c9) := fun g hg => by
    rcases HB9.out with e | e
    · exact h8f g (e ▸ hg)
    · rw [e] at hg; injection hg with hg; simp at hg; omega
  have pf : Pure w w9 := HP7.out.then HP9.out (fun k hk e => by have := h8f k e; omega)
  refine bodyPost_ret (v := .tuple #[.slice a9 (n + 1) c9, .int .i64 0]) (by simp [results, Tryz.results65, go_sem]) rfl ⟨a9, c9, rfl, ?_, h9f, pf⟩
  show World.ownsRow _ 0 _ 1 (.slice a9 (xs ++ [s]).length c9) (xs ++ [s]).length (nums (xs ++ [s]))
  rw [List.length_append, HR.out.len, nums_append]
  exact HR9.out
end
end Go.Proofs.YtlalpenfgkfkpaaGreatDoor

/- ref15: Renumber. Conditions: the numbers are read. -/
namespace Go.Proofs.YtlalpenfgkfkpaaGreatDoor
open Go.RowKit Go.Shelf
set_option maxRecDepth 100000
section
variable {w w' : World} {a a2 : Option Addr} {n c n2 c2 : Nat} {xs ys tv : List Nat} {M acc : List Td}
def R15E (tv : List Nat) (M : List Td) (a : Option Addr) (n c : Nat) (w' : World) (e : Ending) : Prop :=
  (renL tv [] M = none ∧ e = .returned (.tuple #[.slice a n c, .int .i64 2])) ∨ (∃ B a' c', renL tv [] M = some B ∧ e = .returned (.tuple #[.slice a' n c', .int .i64 0]) ∧ RdN w' a' n c' (B.map Td.slot))
theorem mem_slots {t : Nat} : t ∈ acc.map Td.slot ↔ hasB acc t = true := by
  rw [hasB_iff, List.mem_map]
theorem ren_step {x : Td} {j t : Nat} (hM : renL tv [] M = renL tv acc (M.drop j)) (hx : M[j]? = some x) (ht : tv[x.slot]? = some t) (ha : addR (acc.map Td.slot) t = 0) : renL tv [] M = renL tv (acc ++ [⟨t, x.dl, x.birth⟩]) (M.drop (j + 1)) := by
  have hj : j < M.length := (List.getElem?_eq_some_iff.1 hx).1
  have hxe : M[j] = x := (List.getElem?_eq_some_iff.1 hx).2
  rw [hM, List.drop_eq_getElem_cons hj, hxe]
  conv => lhs; unfold renL
  rw [ht]
  simp only
  unfold addR at ha
  split at ha
  · split at ha
    · cases ha
    · rename_i h1 h2
      rw [mem_slots] at h2
      rw [if_pos ⟨h1, by simpa using h2⟩]
  · cases ha
theorem ren_stop {x : Td} {j : Nat} (hM : renL tv [] M = renL tv acc (M.drop j)) (hx : M[j]? = some x) (hb : ∀ t, tv[x.slot]? = some t → addR (acc.map Td.slot) t ≠ 0) : renL tv [] M = none := by
  have hj : j < M.length := (List.getElem?_eq_some_iff.1 hx).1
  have hxe : M[j] = x := (List.getElem?_eq_some_iff.1 hx).2
  rw [hM, List.drop_eq_getElem_cons hj, hxe]
  unfold renL
  split
  · rename_i t ht
    have := hb t ht
    rw [if_neg]
    rintro ⟨h1, h2⟩
    unfold addR at this
    rw [if_pos h1, if_neg (by rw [mem_slots, h2]; decide)] at this
    exact this rfl
  · rfl
set_option maxHeartbeats 2000000 in
theorem r15ren_ok (h : RdN w a n c (M.map Td.slot)) (ht : RdN w a2 n2 c2 tv) (hl : n ≤ 4194304) (h32 : ∀ x ∈ M, x.slot ≤ 4294967295) :
    Calls Tryz.prog 44 #[.slice a n c, .slice a2 n2 c2] w fun e w' => R15E tv M a n c w' e ∧ Pure w w' := by
  have hn : M.length = n := by have := h.len; simpa using this
  have HR := Lib.hid h; have HT := Lib.hid ht; have HN := Lib.hid hn; have H32 := Lib.hid h32
  clear h ht hn h32
  go_enter Tryz.func44, Tryz.ntmps44
  go_upto_region 3 with fail
  go_loopw [6, 7] (fun v6 v7 wr => ∃ (j : Nat) (ao : Option Addr) (co : Nat) (acc : List Td), v7 = .int .i64 (j : Nat) ∧ j ≤ n ∧ v6 = .slice ao j co ∧ Hid (RdN wr ao j co (acc.map Td.slot)) ∧ Hid (renL tv [] M = renL tv acc (M.drop j)) ∧ Hid (Pure w wr)) (fun _ v7 _ => n - (intOf v7).toNat)
  case atStart => exact ⟨0, none, 0, [], rfl, Nat.zero_le _, rfl, Lib.hid ⟨ReadAt.nil _ _, rfl⟩, Lib.hid rfl, Lib.hid (Mod.refl _ _)⟩
  case round =>
    obtain ⟨j, ao, co, acc, rfl, hj, rfl, HO, HE, HP⟩ := hrel
    by_cases hlt : j < n
    · have hlt' : (j : Int) < (n : Int) := by omega
      have j0 : (0 : Int) ≤ (j : Int) := by omega
      have wj : IntKind.i64.wrap ((j : Int) + 1) = (j : Int) + 1 := IntWalk.i64_in _ (by omega)
      obtain ⟨x, hx⟩ : ∃ x, M[j]? = some x := ⟨_, List.getElem?_eq_getElem (by rw [HN.out]; exact hlt)⟩
      have hxs : (M.map Td.slot)[j]? = some x.slot := by rw [List.getElem?_map, hx]; rfl
      obtain ⟨ad, had, z0⟩ := read_num (HR.out.pure HP.out).rd hxs
      subst had
      have hs32 := H32.out x (List.mem_of_getElem? hx)
      have HX := Lib.hid hx
      clear hx hxs
      obtain ⟨sl, hsl⟩ : ∃ sl, x.slot = sl := ⟨_, rfl⟩
      rw [hsl] at z0 hs32
      have HSl := Lib.hid hsl
      clear hsl
      have ws : IntKind.i64.wrap (sl : Int) = (sl : Int) := IntWalk.i64_in _ (by omega)
      by_cases hb : sl < n2
      · have hb1 : decide ((n2 : Int) ≤ (sl : Int)) = false := decide_eq_false (by omega)
        have hb2 : decide (n2 ≤ sl) = false := decide_eq_false (by omega)
        obtain ⟨t, htt⟩ : ∃ t, tv[sl]? = some t := ⟨_, List.getElem?_eq_getElem (by rw [HT.out.len]; exact hb)⟩
        obtain ⟨ad2, had, y0⟩ := read_num (HT.out.pure HP.out).rd htt
        subst had
        have x0 : (0 : Int) ≤ (sl : Int) := by omega
        have x1 : (sl : Int) < (n2 : Int) := by omega
        have xn : (sl : Int).toNat = sl := by omega
        have HTt := Lib.hid htt
        clear htt hb hs32
        by_cases ha : addR (acc.map Td.slot) t = 0
        · have had := r15add_ok HO.out (by omega) ha
          have HAd := Lib.hid had; have HA0 := Lib.hid ha
          clear had ha
          go_wp2_with (go_at_call 65; refine Calls.mono HAd.out ?_; rintro e w5 ⟨a5, c5, rfl, hr5, hf5, hp5⟩)
          have hr5b := RdN.of_row hr5
          have hl5 : (acc.map Td.slot ++ [t]).length = j + 1 := by rw [List.length_append, HO.out.len]; rfl
          rw [hl5] at hr5b
          have hs5 : (acc ++ [(⟨t, x.dl, x.birth⟩ : Td)]).map Td.slot = acc.map Td.slot ++ [t] := by simp
          have HR5 := Lib.hid hr5b; have HP5 := Lib.hid hp5; have HS5 := Lib.hid hs5
          clear hr5 hf5 hp5 hr5b hl5 hs5
          go_roundw
          case rel => exact ⟨j + 1, a5, c5, acc ++ [⟨t, x.dl, x.birth⟩], by go_num, hlt, by go_num, Lib.hid (by rw [HS5.out]; exact HR5.out), Lib.hid (ren_step HE.out HX.out (by rw [HSl.out]; exact HTt.out) HA0.out), Lib.hid (HP.out.trans HP5.out)⟩
          case measure => simp [intOf]; omega
        · have had := r15add_no HO.out (by omega) ha
          have HAd := Lib.hid had; have HA0 := Lib.hid ha
          obtain ⟨er, her⟩ : ∃ er, addR (acc.map Td.slot) t = er := ⟨_, rfl⟩
          rw [her] at HAd ha
          have e1 : (er != 0) = true := by simpa using ha
          clear had ha her
          go_wp2_with (go_at_call 65; refine Calls.mono HAd.out ?_; rintro e w5 ⟨rfl, rfl⟩)
          exact bodyPost_ret (v := .tuple #[.slice (some ad) n c, .int .i64 2]) (by simp [results, Tryz.results44, go_sem]) rfl ⟨.inl ⟨ren_stop HE.out HX.out (fun t' ht' => by rw [HSl.out, HTt.out] at ht'; injection ht' with ht'; subst ht'; exact HA0.out), rfl⟩, HP.out⟩
      · have hb1 : decide ((n2 : Int) ≤ (sl : Int)) = true := decide_eq_true (by omega)
        have hb2 : decide (n2 ≤ sl) = true := decide_eq_true (by omega)
        have HNo := Lib.hid (show tv[x.slot]? = none by rw [HSl.out]; exact List.getElem?_eq_none (by rw [HT.out.len]; omega))
        clear hb
        go_wp2
        exact bodyPost_ret (v := .tuple #[.slice (some ad) n c, .int .i64 2]) (by simp [results, Tryz.results44, go_sem]) rfl ⟨.inl ⟨ren_stop HE.out HX.out (fun t' ht' => by rw [HNo.out] at ht'; cases ht'), rfl⟩, HP.out⟩
    · have hge : ¬ (j : Int) < (n : Int) := by omega
      have e : j = n := by omega
      subst e
      have hdn : M.drop j = [] := List.drop_of_length_le (by rw [HN.out]; exact Nat.le_refl _)
      have hfin : renL tv [] M = some acc := by rw [HE.out, hdn]; rfl
      have HF := Lib.hid hfin
      clear hdn hfin
      go_wp2
      exact bodyPost_ret (v := .tuple #[.slice ao j co, .int .i64 0]) (by simp [results, Tryz.results44, go_sem]) rfl ⟨.inr ⟨acc, ao, co, HF.out, rfl, HO.out⟩, HP.out⟩
end
end Go.Proofs.YtlalpenfgkfkpaaGreatDoor

/- ref21: Next, Timed, Remove. Conditions: the list is read. -/
namespace Go.Proofs.YtlalpenfgkfkpaaGreatDoor
open Go.RowKit Go.Shelf
set_option maxRecDepth 100000
section
variable {w w' : World} {a : Option Addr} {n c now tt : Nat} {L M : List Td} {x : Td}
theorem r21next_ok (h : RdL w a n c L) : Calls Tryz.prog 21 #[whV now a n c] w fun e w' => e = .returned (.int .u64 (nextD L)) ∧ Pure w w' := by
  unfold whV
  have hal : Pure w (w.alloc (.cells #[.int .u64 now, .slice a n c] 31)) := (Mod.refl _ w).alloc _
  have hn := h.len
  cases hL : L with
  | nil =>
    have e0 : n = 0 := by rw [← hn, hL]; rfl
    subst e0
    have HAL := Lib.hid hal
    clear h hn hL hal
    go_enter Tryz.func21, Tryz.ntmps21
    go_wp2
    go_ret
    exact ⟨rfl, HAL.out⟩
  | cons x L' =>
    have hx : L[0]? = some x := by rw [hL]; rfl
    obtain ⟨ad, had, z0, z1, z2⟩ := td_read (h.pure hal).rd hx
    have hn0 : 0 < n := by rw [← hn, hL]; simp
    have e0 : ((n : Int) == 0) = false := by simp; omega
    have c0 : (0 : Int) < (n : Int) := by omega
    subst had
    rw [Nat.zero_mul, addr_zero] at z0 z1 z2
    have HAL := Lib.hid hal
    clear h hn hL hx hal
    go_enter Tryz.func21, Tryz.ntmps21
    go_wp2
    go_ret
    exact ⟨rfl, HAL.out⟩
theorem timed_take {k : Nat} (hx : L[k]? = some x) : (timedL (L.take (k + 1))).length = (timedL (L.take k)).length + (if x.dl = 18446744073709551615 then 0 else 1) := by
  have hk : k < L.length := (List.getElem?_eq_some_iff.1 hx).1
  have he : L[k] = x := (List.getElem?_eq_some_iff.1 hx).2
  rw [List.take_succ_eq_append_getElem hk, he]
  unfold timedL
  rw [List.filter_append, List.length_append]
  by_cases c : x.dl = 18446744073709551615
  · rw [if_pos c]; simp [c]
  · rw [if_neg c]; simp [c]
theorem r21timed_ok (h : RdL w a n c L) (hl : n ≤ 4194304) : Calls Tryz.prog 22 #[whV now a n c] w fun e w' => e = .returned (.int .i64 (timedL L).length) ∧ Pure w w' := by
  unfold whV
  have hal : Pure w (w.alloc (.cells #[.int .u64 now, .slice a n c] 31)) := (Mod.refl _ w).alloc _
  have h1 := heap_new (w := w) (o := .cells #[.int .u64 now, .slice a n c] 31 (0, 0)) rfl
  have hb := whbox h1
  have HH := Lib.hid (h.pure hal); have HAL := Lib.hid hal; have HN := Lib.hid h.len
  clear h hal
  obtain ⟨x0, x1⟩ := hb
  have hlt0 := lt_of_block h1
  clear h1
  go_enter Tryz.func22, Tryz.ntmps22
  go_upto_region 3 with fail
  generalize w.alloc (.cells #[.int .u64 now, .slice a n c] 31) = W1 at *
  generalize w.heap.size = b1 at *
  go_loopw [3, 4] (fun v3 v4 wr => ∃ k : Nat, v4 = .int .i64 (k : Nat) ∧ k ≤ n ∧ v3 = .int .i64 ((timedL (L.take k)).length : Nat) ∧ W1 = wr) (fun _ v4 _ => n - (intOf v4).toNat)
  case atStart => exact ⟨0, rfl, Nat.zero_le _, rfl, rfl⟩
  case round =>
    obtain ⟨k, rfl, hk, rfl, rfl⟩ := hrel
    by_cases hlt : k < n
    · have hlt' : (k : Int) < (n : Int) := by omega
      have k0 : (0 : Int) ≤ (k : Int) := by omega
      have wk : IntKind.i64.wrap ((k : Int) + 1) = (k : Int) + 1 := IntWalk.i64_in _ (by omega)
      obtain ⟨x, hx⟩ : ∃ x, L[k]? = some x := ⟨_, List.getElem?_eq_getElem (by rw [HN.out]; exact hlt)⟩
      obtain ⟨ad, had, z0, z1, z2⟩ := td_read HH.out.rd hx
      subst had
      have htk := timed_take hx
      have hle : (timedL (L.take k)).length ≤ k := Nat.le_trans (List.length_filter_le _ _) (by rw [List.length_take]; omega)
      obtain ⟨m, hm⟩ : ∃ m, (timedL (L.take k)).length = m := ⟨_, rfl⟩
      rw [hm] at htk hle ⊢
      have wm : IntKind.i64.wrap ((m : Int) + 1) = (m : Int) + 1 := IntWalk.i64_in _ (by omega)
      by_cases hd : x.dl = 18446744073709551615
      · rw [if_pos hd] at htk
        have HT := Lib.hid htk
        have e1 : ((x.dl : Int) != 18446744073709551615) = false := by simp; omega
        clear htk hx hm z0 z2 hd
        go_wp2
        go_roundw
        case rel => exact ⟨k + 1, by go_num, hlt, by rw [HT.out]; rfl, by trivial⟩
        case measure => simp [intOf]; omega
      · rw [if_neg hd] at htk
        have HT := Lib.hid htk
        have e1 : ((x.dl : Int) != 18446744073709551615) = true := by simp; omega
        clear htk hx hm z0 z2 hd
        go_wp2
        go_roundw
        case rel => exact ⟨k + 1, by go_num, hlt, by rw [HT.out]; rfl, by trivial⟩
        case measure => simp [intOf]; omega
    · have hge : ¬ (k : Int) < (n : Int) := by omega
      have e : k = n := by omega
      subst e
      have ht : L.take k = L := List.take_of_length_le (by rw [HN.out]; exact Nat.le_refl _)
      rw [ht]
      clear ht
      go_wp2
      go_ret
      exact ⟨rfl, HAL.out⟩
end
end Go.Proofs.YtlalpenfgkfkpaaGreatDoor

/- ref21: Remove. Conditions: the list is read. -/
namespace Go.Proofs.YtlalpenfgkfkpaaGreatDoor
open Go.RowKit Go.Shelf
set_option maxRecDepth 100000
section
variable {w w' : World} {a : Option Addr} {n c now tt : Nat} {L M : List Td} {x : Td}
def boxU (w : World) (now : Nat) (a : Option Addr) (n c : Nat) : World := (w.alloc (.cells #[.int .u64 now, .slice a n c] 31)).alloc (.cells #[.int .u64 0, .slice none 0 0] 31)
structure BoxU (w W : World) (b0 b1 : Nat) (now : Nat) (a : Option Addr) (n c : Nat) : Prop where
  pure : Pure w W
  z0 : w.heap.size ≤ b0
  z1 : w.heap.size ≤ b1
  h0 : W.heap[b0]? = some (.cells #[.int .u64 now, .slice a n c] 31 (0, 0))
  h1 : W.heap[b1]? = some (.cells #[.int .u64 0, .slice none 0 0] 31 (0, 0))
  ne01 : b0 ≠ b1
theorem boxU_ok : ∃ W b0 b1, boxU w now a n c = W ∧ w.heap.size = b0 ∧ w.heap.size + 1 = b1 ∧ BoxU w W b0 b1 now a n c := by
  refine ⟨_, _, _, rfl, rfl, rfl, ?_⟩
  have p1 := (Mod.refl (fun _ => False) w).alloc (.cells #[.int .u64 now, .slice a n c] 31)
  have p2 := (Mod.refl (fun _ => False) (w.alloc (.cells #[.int .u64 now, .slice a n c] 31))).alloc (.cells #[.int .u64 0, .slice none 0 0] 31)
  refine ⟨p1.trans p2, Nat.le_refl _, by omega, ?_, ?_, by omega⟩
  · exact p2.heap (fun h => h) (heap_new rfl)
  · exact heap_new (by simp)
theorem mod_w2 {W : World} {b : Nat} (v0 v1 : Value) : Mod (fun k => k = b) W ((W.setCell ⟨b, 0, none⟩ v0).setCell ⟨b, 1, none⟩ v1) :=
  ((Mod.refl (fun k => k = b) W).setCell (p := ⟨b, 0, none⟩) (fun _ => rfl) _).setCell (p := ⟨b, 1, none⟩) (fun _ => rfl) _
set_option maxHeartbeats 1000000 in
theorem r21rem_no (h : RdL w a n c L) (hl : n ≤ 4194304) {s : Nat} {er : Int} (he : getT L s = (zTd, er)) (hne : er ≠ 0) :
    Calls Tryz.prog 25 #[whV now a n c, .int .u32 s] w fun e w' => e = .returned (.tuple #[whV now a n c, .int .i64 er]) ∧ Pure w w' := by
  unfold whV
  obtain ⟨W1, b0, b1, hW, e0, e1, hB⟩ := boxU_ok (w := w) (now := now) (a := a) (n := n) (c := c)
  unfold boxU at hW
  have hr := h.pure hB.pure
  have hfi := rfind_ok hr.rd hr.len (by omega) s
  have h0 := hB.h0; have h1 := hB.h1
  have HB := Lib.hid hB; have HW := Lib.hid hW; have E0 := Lib.hid e0; have E1 := Lib.hid e1
  clear hB hW e0 e1 h hr
  have h0_0 := cell_of_row _ _ 0 _ _ _ h0; have h0_1 := cell_of_row _ _ 1 _ _ _ h0; have h0_f := (fun j => frozen_of_row _ _ j _ _ h0); have h0_l := lt_of_block h0; simp at h0_0 h0_1; have H_h0 := Lib.hid h0; clear h0
  have h1_0 := cell_of_row _ _ 0 _ _ _ h1; have h1_1 := cell_of_row _ _ 1 _ _ _ h1; have h1_f := (fun j => frozen_of_row _ _ j _ _ h1); have h1_l := lt_of_block h1; simp at h1_0 h1_1; have H_h1 := Lib.hid h1; clear h1
  have fin : Pure w ((W1.setCell ⟨b1, 0, none⟩ (.int .u64 now)).setCell ⟨b1, 1, none⟩ (.slice a n c)) :=
    HB.out.pure.then (mod_w2 _ _) (fun k hk e => by have := HB.out.z1; omega)
  have HFin := Lib.hid fin
  clear fin
  by_cases hs : s < 4194304
  · have hh : hasB L s = false := by
      cases hh : hasB L s with
      | false => rfl
      | true =>
        obtain ⟨x, h1, h2, h3, h4⟩ := findI_get (findI_lt.2 hh)
        rw [getT_hit hs h3] at he
        injection he with he1 he2
        exact absurd he2.symm hne
    have e9 : er = 9 := by
      rw [getT_miss hs (find_none hh)] at he
      injection he with he1 he2
      exact he2.symm
    subst e9
    rw [findR_neg hh] at hfi
    have HFi := Lib.hid hfi
    have hs' : ¬ (4194304 : Int) ≤ (s : Int) := by omega
    clear hfi hh he hne
    go_enter Tryz.func25, Tryz.ntmps25
    go_upto_region 1 with fail
    rw [HW.out, E1.out, E0.out]
    go_wp2_with (go_at_call 23; refine Calls.mono HFi.out ?_; rintro e w' ⟨rfl, rfl⟩)
    refine bodyPost_ret (v := .tuple #[.agg #[.int .u64 now, .slice a n c], .int .i64 9]) (by simp [results, Tryz.results25, go_sem, h1_0, h1_1, h1_l]) rfl ⟨rfl, HFin.out⟩
  · have e2 : er = 2 := by
      rw [getT_arg hs] at he
      injection he with he1 he2
      exact he2.symm
    subst e2
    have hs' : (4194304 : Int) ≤ (s : Int) := by omega
    clear hfi he hne
    go_enter Tryz.func25, Tryz.ntmps25
    go_upto_region 1 with fail
    rw [HW.out, E1.out, E0.out]
    go_wp2
    refine bodyPost_ret (v := .tuple #[.agg #[.int .u64 now, .slice a n c], .int .i64 2]) (by simp [results, Tryz.results25, go_sem, h1_0, h1_1, h1_l]) rfl ⟨rfl, HFin.out⟩
set_option maxHeartbeats 1000000 in
theorem r21rem_hit (h : RdL w a n c L) (hl : n ≤ 4194304) {s : Nat} (hs : s < 4194304) (hh : hasB L s = true) :
    Calls Tryz.prog 25 #[whV now a n c, .int .u32 s] w fun e w' => ∃ a' c', e = .returned (.tuple #[whV now a' (n - 1) c', .int .i64 0]) ∧ TdRow w' a' c' (outI L s) ∧ FreshV w (.slice a' (n - 1) c') ∧ Pure w w' := by
  unfold whV
  obtain ⟨i, hi⟩ : ∃ i, findI L s = i := ⟨_, rfl⟩
  have hfi' : findR L s = (i : Nat) := by unfold findR; rw [if_pos hh, hi]
  have hin : i < n := by have := findI_lt.2 hh; rw [hi, h.len] at this; exact this
  unfold outI
  rw [hi]
  obtain ⟨W1, b0, b1, hW, e0, e1, hB⟩ := boxU_ok (w := w) (now := now) (a := a) (n := n) (c := c)
  unfold boxU at hW
  have hr := h.pure hB.pure
  have hfi := rfind_ok hr.rd hr.len (by omega) s
  rw [hfi'] at hfi
  have hou := rout_ok (i := i) hr.rd hr.len hl hr.cap hin
  have i0 : ¬ (i : Int) < 0 := by omega
  have hs' : ¬ (4194304 : Int) ≤ (s : Int) := by omega
  obtain ⟨m, hm⟩ : ∃ m, n - 1 = m := ⟨_, rfl⟩
  rw [hm] at hou ⊢
  have hel : (L.eraseIdx i).length = m := by rw [List.length_eraseIdx, h.len, if_pos hin, hm]
  have h0 := hB.h0
  have HB := Lib.hid hB; have HW := Lib.hid hW; have E0 := Lib.hid e0; have E1 := Lib.hid e1; have HFi := Lib.hid hfi; have HOu := Lib.hid hou; have HEl := Lib.hid hel
  clear hB hW e0 e1 h hr hfi hfi' hi hh hou hel hm hin
  go_enter Tryz.func25, Tryz.ntmps25
  go_upto_region 1 with fail
  rw [HW.out, E1.out, E0.out]
  clear HW E0 E1
  have h0_0 := cell_of_row _ _ 0 _ _ _ h0; have h0_1 := cell_of_row _ _ 1 _ _ _ h0; have h0_f := (fun j => frozen_of_row _ _ j _ _ h0); have h0_l := lt_of_block h0; simp at h0_0 h0_1; have H_h0 := Lib.hid h0; clear h0
  go_upto_region 3 with fail
  clear hs'
  go_upto_region 7 with (first
    | (go_at_call 23; refine Calls.mono HFi.out ?_; rintro e w' ⟨rfl, rfl⟩)
    | (go_at_call 42; refine Calls.mono HOu.out ?_; rintro e w7 ⟨a7, c7, rfl, hr7, hf7, hp7⟩
       have h07 := hp7.heap (fun h => h) HB.out.h0
       have HR7 := Lib.hid hr7; have HF7 := Lib.hid hf7; have HP7 := Lib.hid hp7; have H07 := Lib.hid h07
       clear hr7 hf7 hp7
       clear h0_0 h0_1 h0_f h0_l
       clear H_h0 HFi HOu i0
       have h07_0 := cell_of_row _ _ 0 _ _ _ h07; have h07_1 := cell_of_row _ _ 1 _ _ _ h07; have h07_f := (fun j => frozen_of_row _ _ j _ _ h07); have h07_l := lt_of_block h07; simp at h07_0 h07_1; have H_h07 := Lib.hid h07; clear h07))
  have h17 := HP7.out.heap (fun h => h) HB.out.h1
  have p7 := HB.out.pure.trans HP7.out
  have hl7 : ∀ k, k < W1.heap.size → (Value.slice a7 m c7).ownBlock = some k → False := fun k hk e => by have := HF7.out k e; omega
  have hb0 := lt_of_block HB.out.h0; have hb1 := lt_of_block HB.out.h1
  have hr8 := owns_mod HR7.out (Mod.set1 (w := w7) b0 1 (.slice a7 m c7)) (fun k hk e => by subst e; exact hl7 _ hb0 (by rw [← HEl.out]; exact hk))
  have p8 : Pure w (w7.setCell ⟨b0, 1, none⟩ (.slice a7 m c7)) := p7.then (Mod.set1 b0 1 _) (fun k hk e => by have := HB.out.z0; omega)
  have h08 : (w7.setCell ⟨b0, 1, none⟩ (.slice a7 m c7)).heap[b0]? = some (.cells #[.int .u64 now, .slice a7 m c7] 31 (0, 0)) := by
    rw [heap_setCell_same w7 b0 1 _ _ (.slice a7 m c7) H07.out]; rfl
  have h18 := (Mod.set1 (w := w7) b0 1 (.slice a7 m c7)).heap (fun e => HB.out.ne01 e.symm) h17
  clear h07_0 h07_1 h07_f h07_l
  clear H_h07
  generalize w7.setCell ⟨b0, 1, none⟩ (.slice a7 m c7) = w8 at *
  have p9 := p8.then (mod_w2 (W := w8) (b := b1) (.int .u64 now) (.slice a7 m c7)) (fun k hk e => by have := HB.out.z1; omega)
  have hr9 := owns_mod (w := w8) hr8 (mod_w2 (b := b1) (.int .u64 now) (.slice a7 m c7)) (fun k hk e => by subst e; exact hl7 _ hb1 (by rw [← HEl.out]; exact hk))
  have hfr : FreshV w (.slice a7 m c7) := fun k hk => Nat.le_trans HB.out.pure.size (HF7.out k hk)
  have HR9 := Lib.hid hr9; have HFr := Lib.hid hfr; have HP9 := Lib.hid p9
  clear h17 p7 hl7 hb0 hb1 hr8 p8 p9 hr9 hfr
  have h08_0 := cell_of_row _ _ 0 _ _ _ h08; have h08_1 := cell_of_row _ _ 1 _ _ _ h08; have h08_f := (fun j => frozen_of_row _ _ j _ _ h08); have h08_l := lt_of_block h08; simp at h08_0 h08_1; have H_h08 := Lib.hid h08; clear h08
  have h18_0 := cell_of_row _ _ 0 _ _ _ h18; have h18_1 := cell_of_row _ _ 1 _ _ _ h18; have h18_f := (fun j => frozen_of_row _ _ j _ _ h18); have h18_l := lt_of_block h18; simp at h18_0 h18_1; have H_h18 := Lib.hid h18; clear h18
  go_wp2
  exact bodyPost_ret (v := .tuple #[.agg #[.int .u64 now, .slice a7 m c7], .int .i64 0]) (by simp [results, Tryz.results25, go_sem, h18_0, h18_1, h18_l]) rfl ⟨a7, c7, rfl, HR9.out, HFr.out, HP9.out⟩
theorem r21rem_ok (h : RdL w a n c L) (hl : n ≤ 4194304) {s : Nat} :
    Calls Tryz.prog 25 #[whV now a n c, .int .u32 s] w fun e w' => ∃ a' n' c', e = .returned (.tuple #[whV now a' n' c', .int .i64 (getT L s).2]) ∧ RdL w' a' n' c' (canL L s) ∧ Kept w a n c a' n' c' ∧ Pure w w' := by
  rcases getT_cases L s with ⟨hs, hh, x, e1, _, _, _, e4⟩ | ⟨_, er, e1, e2⟩
  · unfold canL
    rw [e1]
    dsimp only
    rw [if_pos rfl]
    refine (r21rem_hit h hl hs hh).mono ?_
    rintro e w' ⟨a', c', rfl, hr, hf, hp⟩
    have hel : (outI L s).length = n - 1 := by have := e4.length_eq; rw [h.len] at this; simp at this; omega
    have := RdL.of_row hr
    rw [hel] at this
    exact ⟨a', n - 1, c', rfl, this, .inr hf, hp⟩
  · unfold canL
    rw [e1]
    dsimp only
    rw [if_neg e2]
    refine (r21rem_no h hl e1 e2).mono ?_
    rintro e w' ⟨rfl, hp⟩
    exact ⟨a, n, c, rfl, h.pure hp, .inl ⟨rfl, rfl, rfl⟩, hp⟩
end
end Go.Proofs.YtlalpenfgkfkpaaGreatDoor

/- ref21: Set. Conditions: the list is read. -/
namespace Go.Proofs.YtlalpenfgkfkpaaGreatDoor
open Go.RowKit Go.Shelf
set_option maxRecDepth 100000
section
variable {w w' : World} {a : Option Addr} {n c now tt : Nat} {L M : List Td} {x : Td} {b0 b1 : Nat}
/-- The end: the list is stored, the box is copied to the result. -/
theorem u_fin {W1 w9 : World} {K : List Td} {a9 : Option Addr} {c9 : Nat} (hB : BoxU w W1 b0 b1 now a n c) (hm : Mod (fun k => k = b0) W1 w9) (hr : TdRow w9 a9 c9 K) (hf : ∀ k, (Value.slice a9 K.length c9).ownBlock = some k → W1.heap.size ≤ k) (u v : Value) :
    TdRow (((w9.setCell ⟨b0, 1, none⟩ u).setCell ⟨b1, 0, none⟩ (.int .u64 now)).setCell ⟨b1, 1, none⟩ v) a9 c9 K ∧ Pure w (((w9.setCell ⟨b0, 1, none⟩ u).setCell ⟨b1, 0, none⟩ (.int .u64 now)).setCell ⟨b1, 1, none⟩ v) ∧ FreshV w (.slice a9 K.length c9) := by
  have hb0 := lt_of_block hB.h0; have hb1 := lt_of_block hB.h1
  have m2 : Mod (fun k => k = b0 ∨ k = b1) w9 (((w9.setCell ⟨b0, 1, none⟩ u).setCell ⟨b1, 0, none⟩ (.int .u64 now)).setCell ⟨b1, 1, none⟩ v) :=
    ((Mod.set1 b0 1 u).mono (fun _ _ h => .inl h)).trans ((mod_w2 _ _).mono (fun _ _ h => .inr h))
  refine ⟨owns_mod hr m2 (fun k hk e => ?_), (hB.pure.then hm (fun k hk e => by have := hB.z0; omega)).then m2 (fun k hk e => by have := hB.z0; have := hB.z1; rcases e with e | e <;> omega), fun k hk => Nat.le_trans hB.pure.size (hf k hk)⟩
  have := hf k hk
  rcases e with e | e <;> omega
set_option maxHeartbeats 2000000 in
theorem r21set_e2 {s dl b : Nat} (he : ¬ (s < 4194304 ∧ b ≠ 0)) :
    Calls Tryz.prog 24 #[whV now a n c, .int .u32 s, .int .u64 dl, .int .u64 b] w fun e w' => e = .returned (.tuple #[whV now a n c, .int .i64 2]) ∧ Pure w w' := by
  unfold whV
  obtain ⟨W1, b0, b1, hW, e0, e1, hB⟩ := boxU_ok (w := w) (now := now) (a := a) (n := n) (c := c)
  unfold boxU at hW
  have h0 := hB.h0; have h1 := hB.h1
  have HB := Lib.hid hB; have HW := Lib.hid hW; have E0 := Lib.hid e0; have E1 := Lib.hid e1
  clear hB hW e0 e1
  have h0_0 := cell_of_row _ _ 0 _ _ _ h0; have h0_1 := cell_of_row _ _ 1 _ _ _ h0; have h0_f := (fun j => frozen_of_row _ _ j _ _ h0); have h0_l := lt_of_block h0; simp at h0_0 h0_1; have H_h0 := Lib.hid h0; clear h0
  have h1_0 := cell_of_row _ _ 0 _ _ _ h1; have h1_1 := cell_of_row _ _ 1 _ _ _ h1; have h1_f := (fun j => frozen_of_row _ _ j _ _ h1); have h1_l := lt_of_block h1; simp at h1_0 h1_1; have H_h1 := Lib.hid h1; clear h1
  have fin : Pure w ((W1.setCell ⟨b1, 0, none⟩ (.int .u64 now)).setCell ⟨b1, 1, none⟩ (.slice a n c)) :=
    HB.out.pure.then (mod_w2 _ _) (fun k hk e => by have := HB.out.z1; omega)
  have HFin := Lib.hid fin
  clear fin
  by_cases hs : s < 4194304
  · have hb : b = 0 := by omega
    subst hb
    have hs' : ¬ (4194304 : Int) ≤ (s : Int) := by omega
    clear he
    go_enter Tryz.func24, Tryz.ntmps24
    go_upto_region 1 with fail
    rw [HW.out, E1.out, E0.out]
    go_wp2
    refine bodyPost_ret (v := .tuple #[.agg #[.int .u64 now, .slice a n c], .int .i64 2]) (by simp [results, Tryz.results24, go_sem, h1_0, h1_1, h1_l]) rfl ⟨rfl, HFin.out⟩
  · have hs' : (4194304 : Int) ≤ (s : Int) := by omega
    clear he
    go_enter Tryz.func24, Tryz.ntmps24
    go_upto_region 1 with fail
    rw [HW.out, E1.out, E0.out]
    go_wp2
    refine bodyPost_ret (v := .tuple #[.agg #[.int .u64 now, .slice a n c], .int .i64 2]) (by simp [results, Tryz.results24, go_sem, h1_0, h1_1, h1_l]) rfl ⟨rfl, HFin.out⟩
set_option maxHeartbeats 2000000 in
theorem r21set_e3 {s dl b : Nat} (hs : s < 4194304) (hb : b ≠ 0) (g1 : dl ≤ now) (g2 : dl ≠ 18446744073709551615) :
    Calls Tryz.prog 24 #[whV now a n c, .int .u32 s, .int .u64 dl, .int .u64 b] w fun e w' => e = .returned (.tuple #[whV now a n c, .int .i64 3]) ∧ Pure w w' := by
  unfold whV
  obtain ⟨W1, b0, b1, hW, e0, e1, hB⟩ := boxU_ok (w := w) (now := now) (a := a) (n := n) (c := c)
  unfold boxU at hW
  have h0 := hB.h0; have h1 := hB.h1
  have HB := Lib.hid hB; have HW := Lib.hid hW; have E0 := Lib.hid e0; have E1 := Lib.hid e1
  clear hB hW e0 e1
  have h0_0 := cell_of_row _ _ 0 _ _ _ h0; have h0_1 := cell_of_row _ _ 1 _ _ _ h0; have h0_f := (fun j => frozen_of_row _ _ j _ _ h0); have h0_l := lt_of_block h0; simp at h0_0 h0_1; have H_h0 := Lib.hid h0; clear h0
  have h1_0 := cell_of_row _ _ 0 _ _ _ h1; have h1_1 := cell_of_row _ _ 1 _ _ _ h1; have h1_f := (fun j => frozen_of_row _ _ j _ _ h1); have h1_l := lt_of_block h1; simp at h1_0 h1_1; have H_h1 := Lib.hid h1; clear h1
  have fin : Pure w ((W1.setCell ⟨b1, 0, none⟩ (.int .u64 now)).setCell ⟨b1, 1, none⟩ (.slice a n c)) :=
    HB.out.pure.then (mod_w2 _ _) (fun k hk e => by have := HB.out.z1; omega)
  have HFin := Lib.hid fin
  have hs' : ¬ (4194304 : Int) ≤ (s : Int) := by omega
  have f0 : ((b : Int) == 0) = false := by simp; omega
  have f1 : decide ((dl : Int) ≤ (now : Int)) = true := decide_eq_true (by omega)
  have f1n : decide (dl ≤ now) = true := decide_eq_true g1
  have f2 : ((dl : Int) != 18446744073709551615) = true := by simp; omega
  clear fin hs hb g1 g2
  go_enter Tryz.func24, Tryz.ntmps24
  go_upto_region 1 with fail
  rw [HW.out, E1.out, E0.out]
  go_upto_region 3 with fail
  clear hs'
  go_wp2
  refine bodyPost_ret (v := .tuple #[.agg #[.int .u64 now, .slice a n c], .int .i64 3]) (by simp [results, Tryz.results24, go_sem, h1_0, h1_1, h1_l]) rfl ⟨rfl, HFin.out⟩
/-- Nothing is busy among the first j. -/
def okU (L : List Td) (s b j : Nat) : Prop := ∀ i y, i < j → L[i]? = some y → (y.slot = s ↔ y.birth = b)
theorem okU_next {s b j : Nat} {y : Td} (h : okU L s b j) (hy : L[j]? = some y) (h2 : y.slot = s ↔ y.birth = b) : okU L s b (j + 1) := fun i z hi hz => by
  by_cases e : i = j
  · subst e
    rw [hy] at hz
    injection hz with hz
    subst hz
    exact h2
  · exact h i z (by omega) hz
theorem okU_busy {s b : Nat} (h : okU L s b L.length) : busyB L s b = false := by
  cases hb : busyB L s b with
  | false => rfl
  | true =>
    obtain ⟨y, hy, e⟩ := busyB_iff.1 hb
    obtain ⟨i, hi⟩ := List.getElem?_of_mem hy
    have h1 := h i y (List.getElem?_eq_some_iff.1 hi).1 hi
    rcases e with ⟨e1, e2⟩ | ⟨e1, e2⟩
    · exact absurd (h1.1 e1) e2
    · exact absurd (h1.2 e2) e1
theorem busyU {s b j : Nat} {y : Td} (hy : L[j]? = some y) (h : (y.slot = s ∧ y.birth ≠ b) ∨ (y.slot ≠ s ∧ y.birth = b)) : busyB L s b = true := busyB_iff.2 ⟨y, List.mem_of_getElem? hy, h⟩
set_option maxHeartbeats 4000000 in
theorem r21set_go (h : RdL w a n c L) (hl : n ≤ 4194304) {s dl b : Nat} (hs : s < 4194304) (hb : b ≠ 0) (hd : dl ≤ 18446744073709551615) (hb64 : b ≤ 18446744073709551615) (hr : ¬ (dl ≤ now ∧ dl ≠ 18446744073709551615)) :
    Calls Tryz.prog 24 #[whV now a n c, .int .u32 s, .int .u64 dl, .int .u64 b] w fun e w' => (busyB L s b = true ∧ e = .returned (.tuple #[whV now a n c, .int .i64 11]) ∧ Pure w w') ∨
      (busyB L s b = false ∧ ∃ a' c', e = .returned (.tuple #[whV now a' (putL (outB L s) ⟨s, dl, b⟩).length c', .int .i64 0]) ∧ TdRow w' a' c' (putL (outB L s) ⟨s, dl, b⟩) ∧ FreshV w (.slice a' (putL (outB L s) ⟨s, dl, b⟩).length c') ∧ Pure w w') := by
  unfold whV
  obtain ⟨W1, b0, b1, hW, e0, e1, hB⟩ := boxU_ok (w := w) (now := now) (a := a) (n := n) (c := c)
  unfold boxU at hW
  have hR := h.pure hB.pure
  have h0 := hB.h0
  have HB := Lib.hid hB; have HW := Lib.hid hW; have E0 := Lib.hid e0; have E1 := Lib.hid e1; have HR := Lib.hid hR; have HN := Lib.hid h.len
  have hs' : ¬ (4194304 : Int) ≤ (s : Int) := by omega
  have f0 : ((b : Int) == 0) = false := by simp; omega
  have HS := Lib.hid hs
  clear hB hW e0 e1 h hR
  have hcs : (decide ((dl : Int) ≤ (now : Int)) = false ∧ decide (dl ≤ now) = false) ∨ (decide ((dl : Int) ≤ (now : Int)) = true ∧ decide (dl ≤ now) = true ∧ ((dl : Int) != 18446744073709551615) = false) := by
    by_cases hv : dl ≤ now
    · exact .inr ⟨decide_eq_true (by omega), decide_eq_true hv, by simp; omega⟩
    · exact .inl ⟨decide_eq_false (by omega), decide_eq_false hv⟩
  clear hr hs hb
  go_enter Tryz.func24, Tryz.ntmps24
  go_upto_region 1 with fail
  rw [HW.out, E1.out, E0.out]
  clear HW E0 E1
  have h0_0 := cell_of_row _ _ 0 _ _ _ h0; have h0_1 := cell_of_row _ _ 1 _ _ _ h0; have h0_f := (fun j => frozen_of_row _ _ j _ _ h0); have h0_l := lt_of_block h0; simp at h0_0 h0_1; have H_h0 := Lib.hid h0; clear h0
  go_upto_region 3 with fail
  clear hs' f0
  rcases hcs with ⟨f1, f1n⟩ | ⟨f1, f1n, f2⟩
  all_goals
    go_upto_region 6 with fail
    clear f1 f1n
    (try clear f2)
    clear h0_0 h0_1 h0_f h0_l
    clear H_h0
    go_loopw [10] (fun v10 wr => ∃ j : Nat, v10 = .int .i64 (j : Nat) ∧ j ≤ n ∧ Hid (okU L s b j) ∧ Hid (Pure W1 wr)) (fun v10 _ => n - (intOf v10).toNat)
    case atStart => exact ⟨0, rfl, Nat.zero_le _, Lib.hid (fun i y hi => by omega), Lib.hid (Mod.refl _ _)⟩
    case round =>
      obtain ⟨j, rfl, hj, HO, HP⟩ := hrel
      have h0r := HP.out.heap (fun h => h) HB.out.h0
      have h1r := HP.out.heap (fun h => h) HB.out.h1
      by_cases hlt : j < n
      · have hlt' : (j : Int) < (n : Int) := by omega
        have j0 : (0 : Int) ≤ (j : Int) := by omega
        have wj : IntKind.i64.wrap ((j : Int) + 1) = (j : Int) + 1 := IntWalk.i64_in _ (by omega)
        obtain ⟨y, hy⟩ : ∃ y, L[j]? = some y := ⟨_, List.getElem?_eq_getElem (by rw [HN.out]; exact hlt)⟩
        obtain ⟨ad, had, z0, z1, z2⟩ := td_read (HR.out.pure HP.out).rd hy
        subst had
        have HY := Lib.hid hy
        have H1r := Lib.hid h1r
        clear z1 hy h1r
        have h0r_0 := cell_of_row _ _ 0 _ _ _ h0r; have h0r_1 := cell_of_row _ _ 1 _ _ _ h0r; have h0r_f := (fun j => frozen_of_row _ _ j _ _ h0r); have h0r_l := lt_of_block h0r; simp at h0r_0 h0r_1; have H_h0r := Lib.hid h0r; clear h0r
        have hcy : (((y.slot : Int) == (s : Int)) = true ∧ ((y.birth : Int) == (b : Int)) = true ∧ (y.slot = s ↔ y.birth = b)) ∨ (((y.slot : Int) == (s : Int)) = false ∧ ((y.birth : Int) == (b : Int)) = false ∧ (y.slot = s ↔ y.birth = b)) ∨ (((y.slot : Int) == (s : Int)) = true ∧ ((y.birth : Int) == (b : Int)) = false ∧ ((y.slot = s ∧ y.birth ≠ b) ∨ (y.slot ≠ s ∧ y.birth = b))) ∨ (((y.slot : Int) == (s : Int)) = false ∧ ((y.birth : Int) == (b : Int)) = true ∧ ((y.slot = s ∧ y.birth ≠ b) ∨ (y.slot ≠ s ∧ y.birth = b))) := by
          by_cases q1 : y.slot = s <;> by_cases q2 : y.birth = b
          · exact .inl ⟨by simp; omega, by simp; omega, by simp [q1, q2]⟩
          · exact .inr (.inr (.inl ⟨by simp; omega, by simp; omega, .inl ⟨q1, q2⟩⟩))
          · exact .inr (.inr (.inr ⟨by simp; omega, by simp; omega, .inr ⟨q1, q2⟩⟩))
          · exact .inr (.inl ⟨by simp; omega, by simp; omega, by simp [q1, q2]⟩)
        have hHS : wr.cell? ⟨b0, 1, none⟩ = some (.slice (some ad) n c) ∧ wr.cell? (ad.add (j * 3)) = some (.int .u32 y.slot) ∧ wr.cell? ⟨(ad.add (j * 3)).block, (ad.add (j * 3)).off + 2, none⟩ = some (.int .u64 y.birth) := ⟨h0r_1, z0, z2⟩
        have HHS := Lib.hid hHS
        rcases hcy with ⟨g1, g2, g3⟩ | ⟨g1, g2, g3⟩ | ⟨g1, g2, g3⟩ | ⟨g1, g2, g3⟩
        · have HG := Lib.hid g3
          clear g3
          go_upto_region 8 with fail
          refine wp_region_held_drew (S := fun u => u.cell? ⟨b0, 1, none⟩ = some (.slice (some ad) n c) ∧ u.cell? (ad.add (j * 3)) = some (.int .u32 y.slot) ∧ u.cell? ⟨(ad.add (j * 3)).block, (ad.add (j * 3)).off + 2, none⟩ = some (.int .u64 y.birth)) (by kernel_rfl) HHS.out (fun hHeld => ?_)
          ((refine wpAnyH_take (i := 0) (v := ?_) rfl (by kernel_rfl) (by kernel_rfl) (by kernel_rfl) (fun _ _ _ h => h) (Yields.yieldsIf (Or.inl ⟨by rfl, ?_⟩)) hHeld ?_; rotate_left 1; focus (intro w; go_simp; try with_reducible rfl)); try simp only [Act.put, List.getElem_toArray, List.getElem_cons_zero, List.getElem_cons_succ, List.setIfInBounds_toArray, List.set_cons_zero, List.set_cons_succ])
          ((refine wpAnyH_take (i := 1) (v := ?_) rfl (by kernel_rfl) (by kernel_rfl) (by kernel_rfl) (fun _ _ _ h => h) (Or.inl ⟨by rfl, ?_⟩) hHeld ?_; rotate_left 1; focus (intro w hS; obtain ⟨sa, sb, sc⟩ := hS; go_simp; try with_reducible rfl)); try simp only [Act.put, List.getElem_toArray, List.getElem_cons_zero, List.getElem_cons_succ, List.setIfInBounds_toArray, List.set_cons_zero, List.set_cons_succ])
          ((refine wpAnyH_take (i := 2) (v := ?_) rfl (by kernel_rfl) (by kernel_rfl) (by kernel_rfl) (fun _ _ _ h => h) (Yields.yieldsIf (Or.inl ⟨by rfl, ?_⟩)) hHeld ?_; rotate_left 1; focus (intro w; go_simp; try with_reducible rfl)); try simp only [Act.put, List.getElem_toArray, List.getElem_cons_zero, List.getElem_cons_succ, List.setIfInBounds_toArray, List.set_cons_zero, List.set_cons_succ])
          ((refine wpAnyH_take (i := 3) (v := ?_) rfl (by kernel_rfl) (by kernel_rfl) (by kernel_rfl) (fun _ _ _ h => h) (Yields.yieldsIf (Or.inl ⟨by rfl, ?_⟩)) hHeld ?_; rotate_left 1; focus (intro w; go_simp; try with_reducible rfl)); try simp only [Act.put, List.getElem_toArray, List.getElem_cons_zero, List.getElem_cons_succ, List.setIfInBounds_toArray, List.set_cons_zero, List.set_cons_succ])
          ((refine wpAnyH_take (i := 4) (v := ?_) rfl (by kernel_rfl) (by kernel_rfl) (by kernel_rfl) (fun _ _ _ h => h) (Yields.yieldsIf (Or.inl ⟨by rfl, ?_⟩)) hHeld ?_; rotate_left 1; focus (intro w; go_simp; try with_reducible rfl)); try simp only [Act.put, List.getElem_toArray, List.getElem_cons_zero, List.getElem_cons_succ, List.setIfInBounds_toArray, List.set_cons_zero, List.set_cons_succ])
          ((refine wpAnyH_take (i := 5) (v := ?_) rfl (by kernel_rfl) (by kernel_rfl) (by kernel_rfl) (fun _ _ _ h => h) (Or.inl ⟨by rfl, ?_⟩) hHeld ?_; rotate_left 1; focus (intro w hS; obtain ⟨sa, sb, sc⟩ := hS; go_simp; try with_reducible rfl)); try simp only [Act.put, List.getElem_toArray, List.getElem_cons_zero, List.getElem_cons_succ, List.setIfInBounds_toArray, List.set_cons_zero, List.set_cons_succ])
          ((refine wpAnyH_take (i := 6) (v := ?_) rfl (by kernel_rfl) (by kernel_rfl) (by kernel_rfl) (fun _ _ _ h => h) (Yields.yieldsIf (Or.inl ⟨by rfl, ?_⟩)) hHeld ?_; rotate_left 1; focus (intro w; go_simp; try with_reducible rfl)); try simp only [Act.put, List.getElem_toArray, List.getElem_cons_zero, List.getElem_cons_succ, List.setIfInBounds_toArray, List.set_cons_zero, List.set_cons_succ])
          ((refine wpAnyH_take (i := 7) (v := ?_) rfl (by kernel_rfl) (by kernel_rfl) (by kernel_rfl) (fun _ _ _ h => h) (Yields.yieldsIf (Or.inl ⟨by rfl, ?_⟩)) hHeld ?_; rotate_left 1; focus (intro w; go_simp; try with_reducible rfl)); try simp only [Act.put, List.getElem_toArray, List.getElem_cons_zero, List.getElem_cons_succ, List.setIfInBounds_toArray, List.set_cons_zero, List.set_cons_succ])
          ((refine wpAnyH_take (i := 8) (v := ?_) rfl (by kernel_rfl) (by kernel_rfl) (by kernel_rfl) (fun _ _ _ h => h) (Yields.yieldsIf (Or.inl ⟨by rfl, ?_⟩)) hHeld ?_; rotate_left 1; focus (intro w; go_simp; try with_reducible rfl)); try simp only [Act.put, List.getElem_toArray, List.getElem_cons_zero, List.getElem_cons_succ, List.setIfInBounds_toArray, List.set_cons_zero, List.set_cons_succ])
          ((refine wpAnyH_take (i := 9) (v := ?_) rfl (by kernel_rfl) (by kernel_rfl) (by kernel_rfl) (fun _ _ _ h => h) (Or.inl ⟨by rfl, ?_⟩) hHeld ?_; rotate_left 1; focus (intro w hS; obtain ⟨sa, sb, sc⟩ := hS; go_simp; try with_reducible rfl)); try simp only [Act.put, List.getElem_toArray, List.getElem_cons_zero, List.getElem_cons_succ, List.setIfInBounds_toArray, List.set_cons_zero, List.set_cons_succ])
          ((refine wpAnyH_take (i := 10) (v := ?_) rfl (by kernel_rfl) (by kernel_rfl) (by kernel_rfl) (fun _ _ _ h => h) (Yields.yieldsIf (Or.inl ⟨by rfl, ?_⟩)) hHeld ?_; rotate_left 1; focus (intro w; go_simp; try with_reducible rfl)); try simp only [Act.put, List.getElem_toArray, List.getElem_cons_zero, List.getElem_cons_succ, List.setIfInBounds_toArray, List.set_cons_zero, List.set_cons_succ])
          ((refine wpAnyH_take (i := 11) (v := ?_) rfl (by kernel_rfl) (by kernel_rfl) (by kernel_rfl) (fun _ _ _ h => h) (Yields.yieldsIf (Or.inl ⟨by rfl, ?_⟩)) hHeld ?_; rotate_left 1; focus (intro w; go_simp; try with_reducible rfl)); try simp only [Act.put, List.getElem_toArray, List.getElem_cons_zero, List.getElem_cons_succ, List.setIfInBounds_toArray, List.set_cons_zero, List.set_cons_succ])
          ((refine wpAnyH_take (i := 12) (v := ?_) rfl (by kernel_rfl) (by kernel_rfl) (by kernel_rfl) (fun _ _ _ h => h) (Yields.yieldsIf (Or.inl ⟨by rfl, ?_⟩)) hHeld ?_; rotate_left 1; focus (intro w; go_simp; try with_reducible rfl)); try simp only [Act.put, List.getElem_toArray, List.getElem_cons_zero, List.getElem_cons_succ, List.setIfInBounds_toArray, List.set_cons_zero, List.set_cons_succ])
          ((refine wpAnyH_take (i := 13) (v := ?_) rfl (by kernel_rfl) (by kernel_rfl) (by kernel_rfl) (fun _ _ _ h => h) (Or.inl ⟨by rfl, ?_⟩) hHeld ?_; rotate_left 1; focus (intro w hS; obtain ⟨sa, sb, sc⟩ := hS; go_simp; try with_reducible rfl)); try simp only [Act.put, List.getElem_toArray, List.getElem_cons_zero, List.getElem_cons_succ, List.setIfInBounds_toArray, List.set_cons_zero, List.set_cons_succ])
          ((refine wpAnyH_take (i := 14) (v := ?_) rfl (by kernel_rfl) (by kernel_rfl) (by kernel_rfl) (fun _ _ _ h => h) (Yields.yieldsIf (Or.inl ⟨by rfl, ?_⟩)) hHeld ?_; rotate_left 1; focus (intro w; go_simp; try with_reducible rfl)); try simp only [Act.put, List.getElem_toArray, List.getElem_cons_zero, List.getElem_cons_succ, List.setIfInBounds_toArray, List.set_cons_zero, List.set_cons_succ])
          ((refine wpAnyH_take (i := 15) (v := ?_) rfl (by kernel_rfl) (by kernel_rfl) (by kernel_rfl) (fun _ _ _ h => h) (Yields.yieldsIf (Or.inl ⟨by rfl, ?_⟩)) hHeld ?_; rotate_left 1; focus (intro w; go_simp; try with_reducible rfl)); try simp only [Act.put, List.getElem_toArray, List.getElem_cons_zero, List.getElem_cons_succ, List.setIfInBounds_toArray, List.set_cons_zero, List.set_cons_succ])
          ((refine wpAnyH_take (i := 16) (v := ?_) rfl (by kernel_rfl) (by kernel_rfl) (by kernel_rfl) (fun _ _ _ h => h) (Yields.yieldsIf (Or.inl ⟨by rfl, ?_⟩)) hHeld ?_; rotate_left 1; focus (intro w; go_simp; try with_reducible rfl)); try simp only [Act.put, List.getElem_toArray, List.getElem_cons_zero, List.getElem_cons_succ, List.setIfInBounds_toArray, List.set_cons_zero, List.set_cons_succ])
          refine wpAnyH_done (by kernel_rfl) ?_ _
          clear hHeld
          go_wp2
          go_roundw
          case rel => exact ⟨j + 1, by go_num, hlt, Lib.hid (okU_next HO.out HY.out HG.out), Lib.hid HP.out.drew⟩
          case measure => simp [intOf]; omega
        · have HG := Lib.hid g3
          clear g3
          go_upto_region 8 with fail
          refine wp_region_held_drew (S := fun u => u.cell? ⟨b0, 1, none⟩ = some (.slice (some ad) n c) ∧ u.cell? (ad.add (j * 3)) = some (.int .u32 y.slot) ∧ u.cell? ⟨(ad.add (j * 3)).block, (ad.add (j * 3)).off + 2, none⟩ = some (.int .u64 y.birth)) (by kernel_rfl) HHS.out (fun hHeld => ?_)
          ((refine wpAnyH_take (i := 0) (v := ?_) rfl (by kernel_rfl) (by kernel_rfl) (by kernel_rfl) (fun _ _ _ h => h) (Yields.yieldsIf (Or.inl ⟨by rfl, ?_⟩)) hHeld ?_; rotate_left 1; focus (intro w; go_simp; try with_reducible rfl)); try simp only [Act.put, List.getElem_toArray, List.getElem_cons_zero, List.getElem_cons_succ, List.setIfInBounds_toArray, List.set_cons_zero, List.set_cons_succ])
          ((refine wpAnyH_take (i := 1) (v := ?_) rfl (by kernel_rfl) (by kernel_rfl) (by kernel_rfl) (fun _ _ _ h => h) (Or.inl ⟨by rfl, ?_⟩) hHeld ?_; rotate_left 1; focus (intro w hS; obtain ⟨sa, sb, sc⟩ := hS; go_simp; try with_reducible rfl)); try simp only [Act.put, List.getElem_toArray, List.getElem_cons_zero, List.getElem_cons_succ, List.setIfInBounds_toArray, List.set_cons_zero, List.set_cons_succ])
          ((refine wpAnyH_take (i := 2) (v := ?_) rfl (by kernel_rfl) (by kernel_rfl) (by kernel_rfl) (fun _ _ _ h => h) (Yields.yieldsIf (Or.inl ⟨by rfl, ?_⟩)) hHeld ?_; rotate_left 1; focus (intro w; go_simp; try with_reducible rfl)); try simp only [Act.put, List.getElem_toArray, List.getElem_cons_zero, List.getElem_cons_succ, List.setIfInBounds_toArray, List.set_cons_zero, List.set_cons_succ])
          ((refine wpAnyH_take (i := 3) (v := ?_) rfl (by kernel_rfl) (by kernel_rfl) (by kernel_rfl) (fun _ _ _ h => h) (Yields.yieldsIf (Or.inl ⟨by rfl, ?_⟩)) hHeld ?_; rotate_left 1; focus (intro w; go_simp; try with_reducible rfl)); try simp only [Act.put, List.getElem_toArray, List.getElem_cons_zero, List.getElem_cons_succ, List.setIfInBounds_toArray, List.set_cons_zero, List.set_cons_succ])
          ((refine wpAnyH_take (i := 4) (v := ?_) rfl (by kernel_rfl) (by kernel_rfl) (by kernel_rfl) (fun _ _ _ h => h) (Yields.yieldsIf (Or.inl ⟨by rfl, ?_⟩)) hHeld ?_; rotate_left 1; focus (intro w; go_simp; try with_reducible rfl)); try simp only [Act.put, List.getElem_toArray, List.getElem_cons_zero, List.getElem_cons_succ, List.setIfInBounds_toArray, List.set_cons_zero, List.set_cons_succ])
          ((refine wpAnyH_take (i := 5) (v := ?_) rfl (by kernel_rfl) (by kernel_rfl) (by kernel_rfl) (fun _ _ _ h => h) (Or.inl ⟨by rfl, ?_⟩) hHeld ?_; rotate_left 1; focus (intro w hS; obtain ⟨sa, sb, sc⟩ := hS; go_simp; try with_reducible rfl)); try simp only [Act.put, List.getElem_toArray, List.getElem_cons_zero, List.getElem_cons_succ, List.setIfInBounds_toArray, List.set_cons_zero, List.set_cons_succ])
          ((refine wpAnyH_take (i := 6) (v := ?_) rfl (by kernel_rfl) (by kernel_rfl) (by kernel_rfl) (fun _ _ _ h => h) (Yields.yieldsIf (Or.inl ⟨by rfl, ?_⟩)) hHeld ?_; rotate_left 1; focus (intro w; go_simp; try with_reducible rfl)); try simp only [Act.put, List.getElem_toArray, List.getElem_cons_zero, List.getElem_cons_succ, List.setIfInBounds_toArray, List.set_cons_zero, List.set_cons_succ])
          ((refine wpAnyH_take (i := 7) (v := ?_) rfl (by kernel_rfl) (by kernel_rfl) (by kernel_rfl) (fun _ _ _ h => h) (Yields.yieldsIf (Or.inl ⟨by rfl, ?_⟩)) hHeld ?_; rotate_left 1; focus (intro w; go_simp; try with_reducible rfl)); try simp only [Act.put, List.getElem_toArray, List.getElem_cons_zero, List.getElem_cons_succ, List.setIfInBounds_toArray, List.set_cons_zero, List.set_cons_succ])
          ((refine wpAnyH_take (i := 8) (v := ?_) rfl (by kernel_rfl) (by kernel_rfl) (by kernel_rfl) (fun _ _ _ h => h) (Yields.yieldsIf (Or.inl ⟨by rfl, ?_⟩)) hHeld ?_; rotate_left 1; focus (intro w; go_simp; try with_reducible rfl)); try simp only [Act.put, List.getElem_toArray, List.getElem_cons_zero, List.getElem_cons_succ, List.setIfInBounds_toArray, List.set_cons_zero, List.set_cons_succ])
          ((refine wpAnyH_take (i := 9) (v := ?_) rfl (by kernel_rfl) (by kernel_rfl) (by kernel_rfl) (fun _ _ _ h => h) (Or.inl ⟨by rfl, ?_⟩) hHeld ?_; rotate_left 1; focus (intro w hS; obtain ⟨sa, sb, sc⟩ := hS; go_simp; try with_reducible rfl)); try simp only [Act.put, List.getElem_toArray, List.getElem_cons_zero, List.getElem_cons_succ, List.setIfInBounds_toArray, List.set_cons_zero, List.set_cons_succ])
          ((refine wpAnyH_take (i := 10) (v := ?_) rfl (by kernel_rfl) (by kernel_rfl) (by kernel_rfl) (fun _ _ _ h => h) (Yields.yieldsIf (Or.inl ⟨by rfl, ?_⟩)) hHeld ?_; rotate_left 1; focus (intro w; go_simp; try with_reducible rfl)); try simp only [Act.put, List.getElem_toArray, List.getElem_cons_zero, List.getElem_cons_succ, List.setIfInBounds_toArray, List.set_cons_zero, List.set_cons_succ])
          ((refine wpAnyH_take (i := 11) (v := ?_) rfl (by kernel_rfl) (by kernel_rfl) (by kernel_rfl) (fun _ _ _ h => h) (Yields.yieldsIf (Or.inl ⟨by rfl, ?_⟩)) hHeld ?_; rotate_left 1; focus (intro w; go_simp; try with_reducible rfl)); try simp only [Act.put, List.getElem_toArray, List.getElem_cons_zero, List.getElem_cons_succ, List.setIfInBounds_toArray, List.set_cons_zero, List.set_cons_succ])
          ((refine wpAnyH_take (i := 12) (v := ?_) rfl (by kernel_rfl) (by kernel_rfl) (by kernel_rfl) (fun _ _ _ h => h) (Yields.yieldsIf (Or.inl ⟨by rfl, ?_⟩)) hHeld ?_; rotate_left 1; focus (intro w; go_simp; try with_reducible rfl)); try simp only [Act.put, List.getElem_toArray, List.getElem_cons_zero, List.getElem_cons_succ, List.setIfInBounds_toArray, List.set_cons_zero, List.set_cons_succ])
          ((refine wpAnyH_take (i := 13) (v := ?_) rfl (by kernel_rfl) (by kernel_rfl) (by kernel_rfl) (fun _ _ _ h => h) (Or.inl ⟨by rfl, ?_⟩) hHeld ?_; rotate_left 1; focus (intro w hS; obtain ⟨sa, sb, sc⟩ := hS; go_simp; try with_reducible rfl)); try simp only [Act.put, List.getElem_toArray, List.getElem_cons_zero, List.getElem_cons_succ, List.setIfInBounds_toArray, List.set_cons_zero, List.set_cons_succ])
          ((refine wpAnyH_take (i := 14) (v := ?_) rfl (by kernel_rfl) (by kernel_rfl) (by kernel_rfl) (fun _ _ _ h => h) (Yields.yieldsIf (Or.inl ⟨by rfl, ?_⟩)) hHeld ?_; rotate_left 1; focus (intro w; go_simp; try with_reducible rfl)); try simp only [Act.put, List.getElem_toArray, List.getElem_cons_zero, List.getElem_cons_succ, List.setIfInBounds_toArray, List.set_cons_zero, List.set_cons_succ])
          ((refine wpAnyH_take (i := 15) (v := ?_) rfl (by kernel_rfl) (by kernel_rfl) (by kernel_rfl) (fun _ _ _ h => h) (Yields.yieldsIf (Or.inl ⟨by rfl, ?_⟩)) hHeld ?_; rotate_left 1; focus (intro w; go_simp; try with_reducible rfl)); try simp only [Act.put, List.getElem_toArray, List.getElem_cons_zero, List.getElem_cons_succ, List.setIfInBounds_toArray, List.set_cons_zero, List.set_cons_succ])
          ((refine wpAnyH_take (i := 16) (v := ?_) rfl (by kernel_rfl) (by kernel_rfl) (by kernel_rfl) (fun _ _ _ h => h) (Yields.yieldsIf (Or.inl ⟨by rfl, ?_⟩)) hHeld ?_; rotate_left 1; focus (intro w; go_simp; try with_reducible rfl)); try simp only [Act.put, List.getElem_toArray, List.getElem_cons_zero, List.getElem_cons_succ, List.setIfInBounds_toArray, List.set_cons_zero, List.set_cons_succ])
          refine wpAnyH_done (by kernel_rfl) ?_ _
          clear hHeld
          go_wp2
          go_roundw
          case rel => exact ⟨j + 1, by go_num, hlt, Lib.hid (okU_next HO.out HY.out HG.out), Lib.hid HP.out.drew⟩
          case measure => simp [intOf]; omega
        · have HG := Lib.hid g3
          have h1r := H1r.out
          have h1r_0 := cell_of_row _ _ 0 _ _ _ h1r; have h1r_1 := cell_of_row _ _ 1 _ _ _ h1r; have h1r_f := (fun j => frozen_of_row _ _ j _ _ h1r); have h1r_l := lt_of_block h1r; simp at h1r_0 h1r_1; have H_h1r := Lib.hid h1r; clear h1r
          clear g3
          go_upto_region 8 with fail
          refine wp_region_held_drew (S := fun u => u.cell? ⟨b0, 1, none⟩ = some (.slice (some ad) n c) ∧ u.cell? (ad.add (j * 3)) = some (.int .u32 y.slot) ∧ u.cell? ⟨(ad.add (j * 3)).block, (ad.add (j * 3)).off + 2, none⟩ = some (.int .u64 y.birth)) (by kernel_rfl) HHS.out (fun hHeld => ?_)
          ((refine wpAnyH_take (i := 0) (v := ?_) rfl (by kernel_rfl) (by kernel_rfl) (by kernel_rfl) (fun _ _ _ h => h) (Yields.yieldsIf (Or.inl ⟨by rfl, ?_⟩)) hHeld ?_; rotate_left 1; focus (intro w; go_simp; try with_reducible rfl)); try simp only [Act.put, List.getElem_toArray, List.getElem_cons_zero, List.getElem_cons_succ, List.setIfInBounds_toArray, List.set_cons_zero, List.set_cons_succ])
          ((refine wpAnyH_take (i := 1) (v := ?_) rfl (by kernel_rfl) (by kernel_rfl) (by kernel_rfl) (fun _ _ _ h => h) (Or.inl ⟨by rfl, ?_⟩) hHeld ?_; rotate_left 1; focus (intro w hS; obtain ⟨sa, sb, sc⟩ := hS; go_simp; try with_reducible rfl)); try simp only [Act.put, List.getElem_toArray, List.getElem_cons_zero, List.getElem_cons_succ, List.setIfInBounds_toArray, List.set_cons_zero, List.set_cons_succ])
          ((refine wpAnyH_take (i := 2) (v := ?_) rfl (by kernel_rfl) (by kernel_rfl) (by kernel_rfl) (fun _ _ _ h => h) (Yields.yieldsIf (Or.inl ⟨by rfl, ?_⟩)) hHeld ?_; rotate_left 1; focus (intro w; go_simp; try with_reducible rfl)); try simp only [Act.put, List.getElem_toArray, List.getElem_cons_zero, List.getElem_cons_succ, List.setIfInBounds_toArray, List.set_cons_zero, List.set_cons_succ])
          ((refine wpAnyH_take (i := 3) (v := ?_) rfl (by kernel_rfl) (by kernel_rfl) (by kernel_rfl) (fun _ _ _ h => h) (Yields.yieldsIf (Or.inl ⟨by rfl, ?_⟩)) hHeld ?_; rotate_left 1; focus (intro w; go_simp; try with_reducible rfl)); try simp only [Act.put, List.getElem_toArray, List.getElem_cons_zero, List.getElem_cons_succ, List.setIfInBounds_toArray, List.set_cons_zero, List.set_cons_succ])
          ((refine wpAnyH_take (i := 4) (v := ?_) rfl (by kernel_rfl) (by kernel_rfl) (by kernel_rfl) (fun _ _ _ h => h) (Yields.yieldsIf (Or.inl ⟨by rfl, ?_⟩)) hHeld ?_; rotate_left 1; focus (intro w; go_simp; try with_reducible rfl)); try simp only [Act.put, List.getElem_toArray, List.getElem_cons_zero, List.getElem_cons_succ, List.setIfInBounds_toArray, List.set_cons_zero, List.set_cons_succ])
          ((refine wpAnyH_take (i := 5) (v := ?_) rfl (by kernel_rfl) (by kernel_rfl) (by kernel_rfl) (fun _ _ _ h => h) (Or.inl ⟨by rfl, ?_⟩) hHeld ?_; rotate_left 1; focus (intro w hS; obtain ⟨sa, sb, sc⟩ := hS; go_simp; try with_reducible rfl)); try simp only [Act.put, List.getElem_toArray, List.getElem_cons_zero, List.getElem_cons_succ, List.setIfInBounds_toArray, List.set_cons_zero, List.set_cons_succ])
          ((refine wpAnyH_take (i := 6) (v := ?_) rfl (by kernel_rfl) (by kernel_rfl) (by kernel_rfl) (fun _ _ _ h => h) (Yields.yieldsIf (Or.inl ⟨by rfl, ?_⟩)) hHeld ?_; rotate_left 1; focus (intro w; go_simp; try with_reducible rfl)); try simp only [Act.put, List.getElem_toArray, List.getElem_cons_zero, List.getElem_cons_succ, List.setIfInBounds_toArray, List.set_cons_zero, List.set_cons_succ])
          ((refine wpAnyH_take (i := 7) (v := ?_) rfl (by kernel_rfl) (by kernel_rfl) (by kernel_rfl) (fun _ _ _ h => h) (Yields.yieldsIf (Or.inl ⟨by rfl, ?_⟩)) hHeld ?_; rotate_left 1; focus (intro w; go_simp; try with_reducible rfl)); try simp only [Act.put, List.getElem_toArray, List.getElem_cons_zero, List.getElem_cons_succ, List.setIfInBounds_toArray, List.set_cons_zero, List.set_cons_succ])
          ((refine wpAnyH_take (i := 8) (v := ?_) rfl (by kernel_rfl) (by kernel_rfl) (by kernel_rfl) (fun _ _ _ h => h) (Yields.yieldsIf (Or.inl ⟨by rfl, ?_⟩)) hHeld ?_; rotate_left 1; focus (intro w; go_simp; try with_reducible rfl)); try simp only [Act.put, List.getElem_toArray, List.getElem_cons_zero, List.getElem_cons_succ, List.setIfInBounds_toArray, List.set_cons_zero, List.set_cons_succ])
          ((refine wpAnyH_take (i := 9) (v := ?_) rfl (by kernel_rfl) (by kernel_rfl) (by kernel_rfl) (fun _ _ _ h => h) (Or.inl ⟨by rfl, ?_⟩) hHeld ?_; rotate_left 1; focus (intro w hS; obtain ⟨sa, sb, sc⟩ := hS; go_simp; try with_reducible rfl)); try simp only [Act.put, List.getElem_toArray, List.getElem_cons_zero, List.getElem_cons_succ, List.setIfInBounds_toArray, List.set_cons_zero, List.set_cons_succ])
          ((refine wpAnyH_take (i := 10) (v := ?_) rfl (by kernel_rfl) (by kernel_rfl) (by kernel_rfl) (fun _ _ _ h => h) (Yields.yieldsIf (Or.inl ⟨by rfl, ?_⟩)) hHeld ?_; rotate_left 1; focus (intro w; go_simp; try with_reducible rfl)); try simp only [Act.put, List.getElem_toArray, List.getElem_cons_zero, List.getElem_cons_succ, List.setIfInBounds_toArray, List.set_cons_zero, List.set_cons_succ])
          ((refine wpAnyH_take (i := 11) (v := ?_) rfl (by kernel_rfl) (by kernel_rfl) (by kernel_rfl) (fun _ _ _ h => h) (Yields.yieldsIf (Or.inl ⟨by rfl, ?_⟩)) hHeld ?_; rotate_left 1; focus (intro w; go_simp; try with_reducible rfl)); try simp only [Act.put, List.getElem_toArray, List.getElem_cons_zero, List.getElem_cons_succ, List.setIfInBounds_toArray, List.set_cons_zero, List.set_cons_succ])
          ((refine wpAnyH_take (i := 12) (v := ?_) rfl (by kernel_rfl) (by kernel_rfl) (by kernel_rfl) (fun _ _ _ h => h) (Yields.yieldsIf (Or.inl ⟨by rfl, ?_⟩)) hHeld ?_; rotate_left 1; focus (intro w; go_simp; try with_reducible rfl)); try simp only [Act.put, List.getElem_toArray, List.getElem_cons_zero, List.getElem_cons_succ, List.setIfInBounds_toArray, List.set_cons_zero, List.set_cons_succ])
          ((refine wpAnyH_take (i := 13) (v := ?_) rfl (by kernel_rfl) (by kernel_rfl) (by kernel_rfl) (fun _ _ _ h => h) (Or.inl ⟨by rfl, ?_⟩) hHeld ?_; rotate_left 1; focus (intro w hS; obtain ⟨sa, sb, sc⟩ := hS; go_simp; try with_reducible rfl)); try simp only [Act.put, List.getElem_toArray, List.getElem_cons_zero, List.getElem_cons_succ, List.setIfInBounds_toArray, List.set_cons_zero, List.set_cons_succ])
          ((refine wpAnyH_take (i := 14) (v := ?_) rfl (by kernel_rfl) (by kernel_rfl) (by kernel_rfl) (fun _ _ _ h => h) (Yields.yieldsIf (Or.inl ⟨by rfl, ?_⟩)) hHeld ?_; rotate_left 1; focus (intro w; go_simp; try with_reducible rfl)); try simp only [Act.put, List.getElem_toArray, List.getElem_cons_zero, List.getElem_cons_succ, List.setIfInBounds_toArray, List.set_cons_zero, List.set_cons_succ])
          ((refine wpAnyH_take (i := 15) (v := ?_) rfl (by kernel_rfl) (by kernel_rfl) (by kernel_rfl) (fun _ _ _ h => h) (Yields.yieldsIf (Or.inl ⟨by rfl, ?_⟩)) hHeld ?_; rotate_left 1; focus (intro w; go_simp; try with_reducible rfl)); try simp only [Act.put, List.getElem_toArray, List.getElem_cons_zero, List.getElem_cons_succ, List.setIfInBounds_toArray, List.set_cons_zero, List.set_cons_succ])
          ((refine wpAnyH_take (i := 16) (v := ?_) rfl (by kernel_rfl) (by kernel_rfl) (by kernel_rfl) (fun _ _ _ h => h) (Yields.yieldsIf (Or.inl ⟨by rfl, ?_⟩)) hHeld ?_; rotate_left 1; focus (intro w; go_simp; try with_reducible rfl)); try simp only [Act.put, List.getElem_toArray, List.getElem_cons_zero, List.getElem_cons_succ, List.setIfInBounds_toArray, List.set_cons_zero, List.set_cons_succ])
          refine wpAnyH_done (by kernel_rfl) ?_ _
          clear hHeld
          have fin : Pure w ((wr.drew.setCell ⟨b1, 0, none⟩ (.int .u64 now)).setCell ⟨b1, 1, none⟩ (.slice (some ad) n c)) := (HB.out.pure.trans HP.out.drew).then (mod_w2 _ _) (fun k hk e => by have := HB.out.z1; omega)
          have HFin := Lib.hid fin
          clear fin
          go_wp2
          exact bodyPost_ret (v := .tuple #[.agg #[.int .u64 now, .slice (some ad) n c], .int .i64 11]) (by simp [results, Tryz.results24, go_sem, h1r_0, h1r_1, h1r_l]) rfl (.inl ⟨busyU HY.out HG.out, rfl, HFin.out⟩)
        · have HG := Lib.hid g3
          have h1r := H1r.out
          have h1r_0 := cell_of_row _ _ 0 _ _ _ h1r; have h1r_1 := cell_of_row _ _ 1 _ _ _ h1r; have h1r_f := (fun j => frozen_of_row _ _ j _ _ h1r); have h1r_l := lt_of_block h1r; simp at h1r_0 h1r_1; have H_h1r := Lib.hid h1r; clear h1r
          clear g3
          go_upto_region 8 with fail
          refine wp_region_held_drew (S := fun u => u.cell? ⟨b0, 1, none⟩ = some (.slice (some ad) n c) ∧ u.cell? (ad.add (j * 3)) = some (.int .u32 y.slot) ∧ u.cell? ⟨(ad.add (j * 3)).block, (ad.add (j * 3)).off + 2, none⟩ = some (.int .u64 y.birth)) (by kernel_rfl) HHS.out (fun hHeld => ?_)
          ((refine wpAnyH_take (i := 0) (v := ?_) rfl (by kernel_rfl) (by kernel_rfl) (by kernel_rfl) (fun _ _ _ h => h) (Yields.yieldsIf (Or.inl ⟨by rfl, ?_⟩)) hHeld ?_; rotate_left 1; focus (intro w; go_simp; try with_reducible rfl)); try simp only [Act.put, List.getElem_toArray, List.getElem_cons_zero, List.getElem_cons_succ, List.setIfInBounds_toArray, List.set_cons_zero, List.set_cons_succ])
          ((refine wpAnyH_take (i := 1) (v := ?_) rfl (by kernel_rfl) (by kernel_rfl) (by kernel_rfl) (fun _ _ _ h => h) (Or.inl ⟨by rfl, ?_⟩) hHeld ?_; rotate_left 1; focus (intro w hS; obtain ⟨sa, sb, sc⟩ := hS; go_simp; try with_reducible rfl)); try simp only [Act.put, List.getElem_toArray, List.getElem_cons_zero, List.getElem_cons_succ, List.setIfInBounds_toArray, List.set_cons_zero, List.set_cons_succ])
          ((refine wpAnyH_take (i := 2) (v := ?_) rfl (by kernel_rfl) (by kernel_rfl) (by kernel_rfl) (fun _ _ _ h => h) (Yields.yieldsIf (Or.inl ⟨by rfl, ?_⟩)) hHeld ?_; rotate_left 1; focus (intro w; go_simp; try with_reducible rfl)); try simp only [Act.put, List.getElem_toArray, List.getElem_cons_zero, List.getElem_cons_succ, List.setIfInBounds_toArray, List.set_cons_zero, List.set_cons_succ])
          ((refine wpAnyH_take (i := 3) (v := ?_) rfl (by kernel_rfl) (by kernel_rfl) (by kernel_rfl) (fun _ _ _ h => h) (Yields.yieldsIf (Or.inl ⟨by rfl, ?_⟩)) hHeld ?_; rotate_left 1; focus (intro w; go_simp; try with_reducible rfl)); try simp only [Act.put, List.getElem_toArray, List.getElem_cons_zero, List.getElem_cons_succ, List.setIfInBounds_toArray, List.set_cons_zero, List.set_cons_succ])
          ((refine wpAnyH_take (i := 4) (v := ?_) rfl (by kernel_rfl) (by kernel_rfl) (by kernel_rfl) (fun _ _ _ h => h) (Yields.yieldsIf (Or.inl ⟨by rfl, ?_⟩)) hHeld ?_; rotate_left 1; focus (intro w; go_simp; try with_reducible rfl)); try simp only [Act.put, List.getElem_toArray, List.getElem_cons_zero, List.getElem_cons_succ, List.setIfInBounds_toArray, List.set_cons_zero, List.set_cons_succ])
          ((refine wpAnyH_take (i := 5) (v := ?_) rfl (by kernel_rfl) (by kernel_rfl) (by kernel_rfl) (fun _ _ _ h => h) (Or.inl ⟨by rfl, ?_⟩) hHeld ?_; rotate_left 1; focus (intro w hS; obtain ⟨sa, sb, sc⟩ := hS; go_simp; try with_reducible rfl)); try simp only [Act.put, List.getElem_toArray, List.getElem_cons_zero, List.getElem_cons_succ, List.setIfInBounds_toArray, List.set_cons_zero, List.set_cons_succ])
          ((refine wpAnyH_take (i := 6) (v := ?_) rfl (by kernel_rfl) (by kernel_rfl) (by kernel_rfl) (fun _ _ _ h => h) (Yields.yieldsIf (Or.inl ⟨by rfl, ?_⟩)) hHeld ?_; rotate_left 1; focus (intro w; go_simp; try with_reducible rfl)); try simp only [Act.put, List.getElem_toArray, List.getElem_cons_zero, List.getElem_cons_succ, List.setIfInBounds_toArray, List.set_cons_zero, List.set_cons_succ])
          ((refine wpAnyH_take (i := 7) (v := ?_) rfl (by kernel_rfl) (by kernel_rfl) (by kernel_rfl) (fun _ _ _ h => h) (Yields.yieldsIf (Or.inl ⟨by rfl, ?_⟩)) hHeld ?_; rotate_left 1; focus (intro w; go_simp; try with_reducible rfl)); try simp only [Act.put, List.getElem_toArray, List.getElem_cons_zero, List.getElem_cons_succ, List.setIfInBounds_toArray, List.set_cons_zero, List.set_cons_succ])
          ((refine wpAnyH_take (i := 8) (v := ?_) rfl (by kernel_rfl) (by kernel_rfl) (by kernel_rfl) (fun _ _ _ h => h) (Yields.yieldsIf (Or.inl ⟨by rfl, ?_⟩)) hHeld ?_; rotate_left 1; focus (intro w; go_simp; try with_reducible rfl)); try simp only [Act.put, List.getElem_toArray, List.getElem_cons_zero, List.getElem_cons_succ, List.setIfInBounds_toArray, List.set_cons_zero, List.set_cons_succ])
          ((refine wpAnyH_take (i := 9) (v := ?_) rfl (by kernel_rfl) (by kernel_rfl) (by kernel_rfl) (fun _ _ _ h => h) (Or.inl ⟨by rfl, ?_⟩) hHeld ?_; rotate_left 1; focus (intro w hS; obtain ⟨sa, sb, sc⟩ := hS; go_simp; try with_reducible rfl)); try simp only [Act.put, List.getElem_toArray, List.getElem_cons_zero, List.getElem_cons_succ, List.setIfInBounds_toArray, List.set_cons_zero, List.set_cons_succ])
          ((refine wpAnyH_take (i := 10) (v := ?_) rfl (by kernel_rfl) (by kernel_rfl) (by kernel_rfl) (fun _ _ _ h => h) (Yields.yieldsIf (Or.inl ⟨by rfl, ?_⟩)) hHeld ?_; rotate_left 1; focus (intro w; go_simp; try with_reducible rfl)); try simp only [Act.put, List.getElem_toArray, List.getElem_cons_zero, List.getElem_cons_succ, List.setIfInBounds_toArray, List.set_cons_zero, List.set_cons_succ])
          ((refine wpAnyH_take (i := 11) (v := ?_) rfl (by kernel_rfl) (by kernel_rfl) (by kernel_rfl) (fun _ _ _ h => h) (Yields.yieldsIf (Or.inl ⟨by rfl, ?_⟩)) hHeld ?_; rotate_left 1; focus (intro w; go_simp; try with_reducible rfl)); try simp only [Act.put, List.getElem_toArray, List.getElem_cons_zero, List.getElem_cons_succ, List.setIfInBounds_toArray, List.set_cons_zero, List.set_cons_succ])
          ((refine wpAnyH_take (i := 12) (v := ?_) rfl (by kernel_rfl) (by kernel_rfl) (by kernel_rfl) (fun _ _ _ h => h) (Yields.yieldsIf (Or.inl ⟨by rfl, ?_⟩)) hHeld ?_; rotate_left 1; focus (intro w; go_simp; try with_reducible rfl)); try simp only [Act.put, List.getElem_toArray, List.getElem_cons_zero, List.getElem_cons_succ, List.setIfInBounds_toArray, List.set_cons_zero, List.set_cons_succ])
          ((refine wpAnyH_take (i := 13) (v := ?_) rfl (by kernel_rfl) (by kernel_rfl) (by kernel_rfl) (fun _ _ _ h => h) (Or.inl ⟨by rfl, ?_⟩) hHeld ?_; rotate_left 1; focus (intro w hS; obtain ⟨sa, sb, sc⟩ := hS; go_simp; try with_reducible rfl)); try simp only [Act.put, List.getElem_toArray, List.getElem_cons_zero, List.getElem_cons_succ, List.setIfInBounds_toArray, List.set_cons_zero, List.set_cons_succ])
          ((refine wpAnyH_take (i := 14) (v := ?_) rfl (by kernel_rfl) (by kernel_rfl) (by kernel_rfl) (fun _ _ _ h => h) (Yields.yieldsIf (Or.inl ⟨by rfl, ?_⟩)) hHeld ?_; rotate_left 1; focus (intro w; go_simp; try with_reducible rfl)); try simp only [Act.put, List.getElem_toArray, List.getElem_cons_zero, List.getElem_cons_succ, List.setIfInBounds_toArray, List.set_cons_zero, List.set_cons_succ])
          ((refine wpAnyH_take (i := 15) (v := ?_) rfl (by kernel_rfl) (by kernel_rfl) (by kernel_rfl) (fun _ _ _ h => h) (Yields.yieldsIf (Or.inl ⟨by rfl, ?_⟩)) hHeld ?_; rotate_left 1; focus (intro w; go_simp; try with_reducible rfl)); try simp only [Act.put, List.getElem_toArray, List.getElem_cons_zero, List.getElem_cons_succ, List.setIfInBounds_toArray, List.set_cons_zero, List.set_cons_succ])
          ((refine wpAnyH_take (i := 16) (v := ?_) rfl (by kernel_rfl) (by kernel_rfl) (by kernel_rfl) (fun _ _ _ h => h) (Yields.yieldsIf (Or.inl ⟨by rfl, ?_⟩)) hHeld ?_; rotate_left 1; focus (intro w; go_simp; try with_reducible rfl)); try simp only [Act.put, List.getElem_toArray, List.getElem_cons_zero, List.getElem_cons_succ, List.setIfInBounds_toArray, List.set_cons_zero, List.set_cons_succ])
          refine wpAnyH_done (by kernel_rfl) ?_ _
          clear hHeld
          have fin : Pure w ((wr.drew.setCell ⟨b1, 0, none⟩ (.int .u64 now)).setCell ⟨b1, 1, none⟩ (.slice (some ad) n c)) := (HB.out.pure.trans HP.out.drew).then (mod_w2 _ _) (fun k hk e => by have := HB.out.z1; omega)
          have HFin := Lib.hid fin
          clear fin
          go_wp2
          exact bodyPost_ret (v := .tuple #[.agg #[.int .u64 now, .slice (some ad) n c], .int .i64 11]) (by simp [results, Tryz.results24, go_sem, h1r_0, h1r_1, h1r_l]) rfl (.inl ⟨busyU HY.out HG.out, rfl, HFin.out⟩)
      · have e : j = n := by omega
        subst e
        have hbz := okU_busy (L := L) (s := s) (b := b) (by rw [HN.out]; exact HO.out)
        have HBu := Lib.hid hbz
        clear hbz
        have hRr := HR.out.pure HP.out
        have hfi := rfind_ok hRr.rd hRr.len (by omega) s
        by_cases hh : hasB L s = true
        · obtain ⟨i, hi⟩ : ∃ i, findI L s = i := ⟨_, rfl⟩
          have hin : i < j := by have := findI_lt.2 hh; rw [hi, HN.out] at this; exact this
          rw [show findR L s = (i : Nat) by unfold findR; rw [if_pos hh, hi]] at hfi
          have hob : outB L s = L.eraseIdx i := by unfold outB outI; rw [if_pos hh, hi]
          have HOb := Lib.hid hob
          obtain ⟨m, hm⟩ : ∃ m, j - 1 = m := ⟨_, rfl⟩
          have hou := rout_ok (i := i) hRr.rd hRr.len hl hRr.cap hin
          rw [hm] at hou
          have hel : (L.eraseIdx i).length = m := by rw [List.length_eraseIdx, HN.out, if_pos hin, hm]
          have i0 : (0 : Int) ≤ (i : Int) := by omega
          have HFi := Lib.hid hfi; have HOu := Lib.hid hou; have HQl := Lib.hid hel; have H1r := Lib.hid h1r; have H0r := Lib.hid h0r
          have hmj : m ≤ 4194304 := by omega
          clear hfi hou hel h1r hob hi hh hRr hm hin
          have h0r_0 := cell_of_row _ _ 0 _ _ _ h0r; have h0r_1 := cell_of_row _ _ 1 _ _ _ h0r; have h0r_f := (fun j => frozen_of_row _ _ j _ _ h0r); have h0r_l := lt_of_block h0r; simp at h0r_0 h0r_1; have H_h0r := Lib.hid h0r; clear h0r
          go_upto_region 13 with (first
            | (go_at_call 23; refine Calls.mono HFi.out ?_; rintro e w' ⟨rfl, rfl⟩)
            | (go_at_call 42; refine Calls.mono HOu.out ?_; rintro e w7 ⟨a7, c7, rfl, hr7, hf7, hp7⟩
               have h07 := hp7.heap (fun h => h) H0r.out
               have HR7 := Lib.hid hr7; have HF7 := Lib.hid hf7; have HP7 := Lib.hid hp7; have H07 := Lib.hid h07
               clear hr7 hf7 hp7
               clear h0r_0 h0r_1 h0r_f h0r_l
               clear H_h0r HFi HOu
               have h07_0 := cell_of_row _ _ 0 _ _ _ h07; have h07_1 := cell_of_row _ _ 1 _ _ _ h07; have h07_f := (fun j => frozen_of_row _ _ j _ _ h07); have h07_l := lt_of_block h07; simp at h07_0 h07_1; have H_h07 := Lib.hid h07; clear h07))
          have h17 := HP7.out.heap (fun h => h) H1r.out
          have hsz7 := (HP.out.trans HP7.out).size
          have hb0 := lt_of_block HB.out.h0
          have hr8 := owns_mod HR7.out (Mod.set1 (w := w7) b0 1 (.slice a7 m c7)) (fun k hk e => by have := HF7.out k (by rw [← HQl.out]; exact hk); have := HP.out.size; omega)
          have hA0 : (w7.setCell ⟨b0, 1, none⟩ (.slice a7 m c7)).heap[b0]? = some (.cells #[.int .u64 now, .slice a7 m c7] 31 (0, 0)) := by rw [heap_setCell_same w7 b0 1 _ _ (.slice a7 m c7) H07.out]; rfl
          have hA1 := (Mod.set1 (w := w7) b0 1 (.slice a7 m c7)).heap (fun e => HB.out.ne01 e.symm) h17
          have hmA : Mod (fun k => k = b0) W1 (w7.setCell ⟨b0, 1, none⟩ (.slice a7 m c7)) := (Mod.of_pure' (HP.out.trans HP7.out)).trans (Mod.set1 b0 1 _)
          clear h07_0 h07_1 h07_f h07_l
          clear H_h07 h17 hsz7 hb0
          generalize w7.setCell ⟨b0, 1, none⟩ (.slice a7 m c7) = w8 at *
          have hQ := RdL.of_row hr8
          rw [HQl.out] at hQ
          clear hr8
          have hpu := fun (W : World) (hW : Pure w8 W) => rput_ok (hQ.pure hW) (by omega) ⟨s, dl, b⟩
          unfold tdV at hpu
          dsimp only at hpu
          have HPu := Lib.hid hpu
          have HA0 := Lib.hid hA0; have HA1 := Lib.hid hA1; have HMA := Lib.hid hmA
          clear hpu hQ
          have hA0_0 := cell_of_row _ _ 0 _ _ _ hA0; have hA0_1 := cell_of_row _ _ 1 _ _ _ hA0; have hA0_f := (fun j => frozen_of_row _ _ j _ _ hA0); have hA0_l := lt_of_block hA0; simp at hA0_0 hA0_1; have H_hA0 := Lib.hid hA0; clear hA0
          go_upto_region 14 with (go_at_call 43; refine Calls.mono (HPu.out _ (Mod.refl _ _)) ?_; rintro e w9 ⟨a9, c9, rfl, hr9, hf9, hp9⟩; have hB0 := hp9.heap (fun h => h) HA0.out; have HR9 := Lib.hid hr9; have HF9 := Lib.hid hf9; have HP9 := Lib.hid hp9; clear hr9 hf9 hp9; clear hA0_0 hA0_1 hA0_f hA0_l; clear H_hA0 HPu; have hB0_0 := cell_of_row _ _ 0 _ _ _ hB0; have hB0_1 := cell_of_row _ _ 1 _ _ _ hB0; have hB0_f := (fun j => frozen_of_row _ _ j _ _ hB0); have hB0_l := lt_of_block hB0; simp at hB0_0 hB0_1; have H_hB0 := Lib.hid hB0; clear hB0)
          have hB1 := HP9.out.heap (fun h => h) HA1.out
          have hpl : (putL (L.eraseIdx i) ⟨s, dl, b⟩).length = m + 1 := by rw [putL_length, HQl.out]
          obtain ⟨f1r, f2r, f3r⟩ := u_fin HB.out (HMA.out.trans (Mod.of_pure' HP9.out)) HR9.out (fun k hk => Nat.le_trans HMA.out.size (HF9.out k (by rw [← hpl]; exact hk))) (.slice a9 (m + 1) c9) (.slice a9 (m + 1) c9)
          have HF1 := Lib.hid f1r; have HF2 := Lib.hid f2r; have HF3 := Lib.hid f3r; have HPL := Lib.hid hpl
          have n01 := HB.out.ne01; have n10 := HB.out.ne01.symm
          clear f1r f2r f3r hpl
          have hB1_0 := cell_of_row _ _ 0 _ _ _ hB1; have hB1_1 := cell_of_row _ _ 1 _ _ _ hB1; have hB1_f := (fun j => frozen_of_row _ _ j _ _ hB1); have hB1_l := lt_of_block hB1; simp at hB1_0 hB1_1; have H_hB1 := Lib.hid hB1; clear hB1
          go_wp2
          exact bodyPost_ret (v := .tuple #[.agg #[.int .u64 now, .slice a9 (m + 1) c9], .int .i64 0]) (by simp [results, Tryz.results24, go_sem, hB0_0, hB0_1, hB0_l, hB1_0, hB1_1, hB1_l, n01, n10]) rfl (.inr ⟨HBu.out, a9, c9, by rw [HOb.out, HPL.out], by rw [HOb.out]; exact HF1.out, by rw [HOb.out]; exact HF3.out, HF2.out⟩)
        · have hh0 : hasB L s = false := by simpa using hh
          rw [findR_neg hh0] at hfi
          have HOb : Hid (outB L s = L) := Lib.hid (by unfold outB; rw [hh0]; rfl)
          have HFi := Lib.hid hfi; have HQl := HN
          have hmA : Mod (fun k => k = b0) W1 wr := Mod.of_pure' HP.out
          have hA0 := h0r
          have hA1 := h1r
          have hQ := hRr
          clear hfi hh hh0 h0r h1r hRr
          have hpu := fun (W : World) (hW : Pure wr W) => rput_ok (hQ.pure hW) (by omega) ⟨s, dl, b⟩
          unfold tdV at hpu
          dsimp only at hpu
          have HPu := Lib.hid hpu
          have HA0 := Lib.hid hA0; have HA1 := Lib.hid hA1; have HMA := Lib.hid hmA
          clear hpu hQ
          have hA0_0 := cell_of_row _ _ 0 _ _ _ hA0; have hA0_1 := cell_of_row _ _ 1 _ _ _ hA0; have hA0_f := (fun j => frozen_of_row _ _ j _ _ hA0); have hA0_l := lt_of_block hA0; simp at hA0_0 hA0_1; have H_hA0 := Lib.hid hA0; clear hA0
          go_upto_region 14 with (first
            | (go_at_call 23; refine Calls.mono HFi.out ?_; rintro e w' ⟨rfl, rfl⟩)
            | (go_at_call 43; refine Calls.mono (HPu.out _ (Mod.refl _ _)) ?_; rintro e w9 ⟨a9, c9, rfl, hr9, hf9, hp9⟩; have hB0 := hp9.heap (fun h => h) HA0.out; have HR9 := Lib.hid hr9; have HF9 := Lib.hid hf9; have HP9 := Lib.hid hp9; clear hr9 hf9 hp9; clear hA0_0 hA0_1 hA0_f hA0_l; clear H_hA0 HPu; have hB0_0 := cell_of_row _ _ 0 _ _ _ hB0; have hB0_1 := cell_of_row _ _ 1 _ _ _ hB0; have hB0_f := (fun j => frozen_of_row _ _ j _ _ hB0); have hB0_l := lt_of_block hB0; simp at hB0_0 hB0_1; have H_hB0 := Lib.hid hB0; clear hB0))
          have hB1 := HP9.out.heap (fun h => h) HA1.out
          have hpl : (putL L ⟨s, dl, b⟩).length = j + 1 := by rw [putL_length, HQl.out]
          obtain ⟨f1r, f2r, f3r⟩ := u_fin HB.out (HMA.out.trans (Mod.of_pure' HP9.out)) HR9.out (fun k hk => Nat.le_trans HMA.out.size (HF9.out k (by rw [← hpl]; exact hk))) (.slice a9 (j + 1) c9) (.slice a9 (j + 1) c9)
          have HF1 := Lib.hid f1r; have HF2 := Lib.hid f2r; have HF3 := Lib.hid f3r; have HPL := Lib.hid hpl
          have n01 := HB.out.ne01; have n10 := HB.out.ne01.symm
          clear f1r f2r f3r hpl
          have hB1_0 := cell_of_row _ _ 0 _ _ _ hB1; have hB1_1 := cell_of_row _ _ 1 _ _ _ hB1; have hB1_f := (fun j => frozen_of_row _ _ j _ _ hB1); have hB1_l := lt_of_block hB1; simp at hB1_0 hB1_1; have H_hB1 := Lib.hid hB1; clear hB1
          go_wp2
          exact bodyPost_ret (v := .tuple #[.agg #[.int .u64 now, .slice a9 (j + 1) c9], .int .i64 0]) (by simp [results, Tryz.results24, go_sem, hB0_0, hB0_1, hB0_l, hB1_0, hB1_1, hB1_l, n01, n10]) rfl (.inr ⟨HBu.out, a9, c9, by rw [HOb.out, HPL.out], by rw [HOb.out]; exact HF1.out, by rw [HOb.out]; exact HF3.out, HF2.out⟩)
end
end Go.Proofs.YtlalpenfgkfkpaaGreatDoor

/- ref21: Renumber. Conditions: the list and the numbers are read. -/
namespace Go.Proofs.YtlalpenfgkfkpaaGreatDoor
open Go.RowKit Go.Shelf
set_option maxRecDepth 100000
section
variable {w w' : World} {a a2 : Option Addr} {n c n2 c2 now : Nat} {xs ys tv : List Nat} {L M B acc : List Td} {x : Td}
theorem key_at {i : Nat} {x y : Td} (h : keyL L = keyL B) (hx : L[i]? = some x) (hy : B[i]? = some y) : y.dl = x.dl ∧ y.birth = x.birth := by
  have h1 : (keyL L)[i]? = some (x.dl, x.birth) := by unfold keyL; rw [List.getElem?_map, hx]; rfl
  have h2 : (keyL B)[i]? = some (y.dl, y.birth) := by unfold keyL; rw [List.getElem?_map, hy]; rfl
  rw [h, h2] at h1
  injection h1 with h1
  injection h1 with e1 e2
  exact ⟨e1, e2⟩
structure R2I (WB wr : World) (now b9 : Nat) (B : List Td) (al : Option Addr) (cl i : Nat) : Prop where
  row : TdRow wr al cl (B.take i)
  box : wr.heap[b9]? = some (.cells #[.int .u64 now, .slice al i cl] 31 (0, 0))
  fr : ∀ g, (Value.slice al i cl).ownBlock = some g → WB.heap.size < g
  pu : Pure WB wr
structure R1I (w wr : World) (L : List Td) (ao : Option Addr) (co j : Nat) : Prop where
  row : NumRow wr ao co ((L.take j).map Td.slot)
  fr : ∀ g, (Value.slice ao j co).ownBlock = some g → w.heap.size ≤ g
  pu : Pure w wr
set_option maxHeartbeats 4000000 in
theorem r21ren_ok (h : RdL w a n c L) (ht : RdN w a2 n2 c2 tv) (hl : n ≤ 4194304) (h32 : ∀ x ∈ L, x.slot ≤ 4294967295) :
    Calls Tryz.prog 27 #[whV now a n c, .slice a2 n2 c2] w fun e w' => ∃ a' c', e = .returned (.tuple #[whV now a' n c', .int .i64 (renR tv L)]) ∧ RdL w' a' n c' (renM tv L) ∧ Kept w a n c a' n c' ∧ Pure w w' := by
  unfold whV
  obtain ⟨W1, b0, b1, hW, e0, e1, hB⟩ := boxU_ok (w := w) (now := now) (a := a) (n := n) (c := c)
  unfold boxU at hW
  have HB := Lib.hid hB; have HW := Lib.hid hW; have E0 := Lib.hid e0; have E1 := Lib.hid e1; have HR := Lib.hid (h.pure hB.pure); have HT := Lib.hid (ht.pure hB.pure); have HN := Lib.hid h.len; have H32 := Lib.hid h32; have HR0 := Lib.hid h
  have h0 := hB.h0
  clear hB hW e0 e1 h ht h32
  obtain ⟨i0, hi, iz0, iz1, iz2⟩ := info_parts info_n32
  obtain ⟨j0, hj, jz0, jz1, jz2⟩ := info_parts info_td
  go_enter Tryz.func27, Tryz.ntmps27
  go_upto_region 1 with fail
  rw [HW.out, E1.out, E0.out]
  clear HW E0 E1
  have h0_0 := cell_of_row _ _ 0 _ _ _ h0; have h0_1 := cell_of_row _ _ 1 _ _ _ h0; have h0_f := (fun j => frozen_of_row _ _ j _ _ h0); have h0_l := lt_of_block h0; simp at h0_0 h0_1; have H_h0 := Lib.hid h0; clear h0
  go_upto_region 3 with fail
  clear h0_0 h0_1 h0_f h0_l
  clear H_h0
  go_loopw [6, 7] (fun v6 v7 wr => ∃ (j : Nat) (ao : Option Addr) (co : Nat), v7 = .int .i64 (j : Nat) ∧ j ≤ n ∧ v6 = .slice ao j co ∧ Hid (R1I W1 wr L ao co j)) (fun _ v7 _ => n - (intOf v7).toNat)
  case atStart => exact ⟨0, none, 0, rfl, Nat.zero_le _, rfl, Lib.hid ⟨World.ownsRow_nil _ _ _ _, (fun g hg => by cases hg), Mod.refl _ _⟩⟩
  case round =>
    obtain ⟨j, ao, co, rfl, hjn, rfl, HI⟩ := hrel
    have h0r := HI.out.pu.heap (fun h => h) HB.out.h0
    by_cases hlt : j < n
    · have hlt' : (j : Int) < (n : Int) := by omega
      have k0 : (0 : Int) ≤ (j : Int) := by omega
      have wj : IntKind.i64.wrap ((j : Int) + 1) = (j : Int) + 1 := IntWalk.i64_in _ (by omega)
      obtain ⟨x, hx⟩ : ∃ x, L[j]? = some x := ⟨_, List.getElem?_eq_getElem (by rw [HN.out]; exact hlt)⟩
      obtain ⟨ad, had, z0, z1, z2⟩ := td_read (HR.out.pure HI.out.pu).rd hx
      subst had
      have HX := Lib.hid hx
      have htl : ((L.take j).map Td.slot).length = j := by rw [List.length_map, List.length_take, HN.out]; omega
      have hro := HI.out.row
      unfold NumRow at hro
      rw [htl] at hro
      have HRo := Lib.hid hro; have HTL := Lib.hid htl
      obtain ⟨sl, hsl⟩ : ∃ sl, x.slot = sl := ⟨_, rfl⟩
      rw [hsl] at z0
      have HSl := Lib.hid hsl
      clear hx z1 z2 hro htl hsl
      have h0r_0 := cell_of_row _ _ 0 _ _ _ h0r; have h0r_1 := cell_of_row _ _ 1 _ _ _ h0r; have h0r_f := (fun j => frozen_of_row _ _ j _ _ h0r); have h0r_l := lt_of_block h0r; simp at h0r_0 h0r_1; have H_h0r := Lib.hid h0r; clear h0r
      go_wp2_with (at_builtin; refine wpList_append_read _ rfl _ _ 36 rfl 33 i0 _ 1 4 Tryz.underlying36 hi iz0 iz1 iz2 rfl (by decide) (.slice ao j co) j _ rfl (owns_mod HRo.out ((Mod.refl (fun _ => False) wr).alloc _) (fun _ _ h => h)) _ [.int .u32 sl] 1 rfl (ReadAt.of_block 1 1 1 (heap_new rfl) (by rfl) (by simp [Value.oneCell'])) rfl (by unfold maxLen; omega) (by omega) ?_; intro a9 c9 w9 hr9 hg9 hb9)
      have p9 : Mod (fun k => (Value.slice ao j co).ownBlock = some k) wr w9 := ((Mod.refl _ wr).alloc _).then (Mod.of_grown (S := fun k' => (Value.slice ao j co).ownBlock = some k') hg9 (fun k e _ => e)) (fun _ _ h => h)
      have hsw := HI.out.pu.size
      have hI9 : R1I W1 w9 L a9 c9 (j + 1) := ⟨by
        have hj1 : j < L.length := by rw [HN.out]; exact hlt
        have hxe : L[j] = x := (List.getElem?_eq_some_iff.1 HX.out).2
        have e1 : (L.take (j + 1)).map Td.slot = (L.take j).map Td.slot ++ [sl] := by rw [List.take_succ_eq_append_getElem hj1, hxe, List.map_append, ← HSl.out]; rfl
        show World.ownsRow _ 0 _ 1 (.slice a9 ((L.take (j + 1)).map Td.slot).length c9) ((L.take (j + 1)).map Td.slot).length (nums ((L.take (j + 1)).map Td.slot))
        rw [e1, List.length_append, HTL.out, nums_append]
        exact hr9, fun g hg => (by
        rcases hb9 with e | e
        · exact HI.out.fr g (e ▸ hg)
        · have hg' : (Value.slice a9 (j + 1) c9).ownBlock = some g := hg
          rw [e] at hg'; injection hg' with hg'; simp at hg'; omega), HI.out.pu.then p9 (fun k hk e => by have := HI.out.fr k e; omega)⟩
      have HI9 := Lib.hid hI9
      clear hr9 hg9 hb9 p9 hsw hI9
      go_roundw
      case rel => exact ⟨j + 1, a9, c9, by go_num, hlt, by go_num, HI9⟩
      case measure => simp [intOf]; omega
    · have hge : ¬ (j : Int) < (n : Int) := by omega
      have e : j = n := by omega
      subst e
      have ht : L.take j = L := List.take_of_length_le (by rw [HN.out]; exact Nat.le_refl _)
      have hro := HI.out.row
      rw [ht] at hro
      have hrn := RdN.of_row hro
      rw [List.length_map, HN.out] at hrn
      have hre := r15ren_ok hrn (HT.out.pure HI.out.pu) hl H32.out
      have HRe := Lib.hid hre
      clear ht hro hrn hre
      have h0r_0 := cell_of_row _ _ 0 _ _ _ h0r; have h0r_1 := cell_of_row _ _ 1 _ _ _ h0r; have h0r_f := (fun j => frozen_of_row _ _ j _ _ h0r); have h0r_l := lt_of_block h0r; simp at h0r_0 h0r_1; have H_h0r := Lib.hid h0r; clear h0r
      go_upto_region 7 with (go_at_call 44; refine Calls.mono HRe.out ?_; rintro e w5 ⟨(⟨hnone, rfl⟩ | ⟨B, a5, c5, hsome, rfl, hr5⟩), hp5⟩)
      · have h05 := (HI.out.pu.trans hp5).heap (fun h => h) HB.out.h0
        have h15 := (HI.out.pu.trans hp5).heap (fun h => h) HB.out.h1
        have fin : Pure w ((w5.setCell ⟨b1, 0, none⟩ (.int .u64 now)).setCell ⟨b1, 1, none⟩ (.slice a j c)) := (HB.out.pure.trans (HI.out.pu.trans hp5)).then (mod_w2 _ _) (fun k hk e => by have := HB.out.z1; omega)
        have hRM : renR tv L = 2 ∧ renM tv L = L := by unfold renR renM; rw [hnone]; exact ⟨rfl, rfl⟩
        have HFin := Lib.hid fin; have HRM := Lib.hid hRM
        clear h0r_0 h0r_1 h0r_f h0r_l
        clear H_h0r fin hRM hnone hp5 HRe
        have h05_0 := cell_of_row _ _ 0 _ _ _ h05; have h05_1 := cell_of_row _ _ 1 _ _ _ h05; have h05_f := (fun j => frozen_of_row _ _ j _ _ h05); have h05_l := lt_of_block h05; simp at h05_0 h05_1; have H_h05 := Lib.hid h05; clear h05
        have h15_0 := cell_of_row _ _ 0 _ _ _ h15; have h15_1 := cell_of_row _ _ 1 _ _ _ h15; have h15_f := (fun j => frozen_of_row _ _ j _ _ h15); have h15_l := lt_of_block h15; simp at h15_0 h15_1; have H_h15 := Lib.hid h15; clear h15
        go_wp2
        exact bodyPost_ret (v := .tuple #[.agg #[.int .u64 now, .slice a j c], .int .i64 2]) (by simp [results, Tryz.results27, go_sem, h15_0, h15_1, h15_l]) rfl ⟨a, c, by rw [HRM.out.1], by rw [HRM.out.2]; exact HR0.out.pure HFin.out, .inl ⟨rfl, rfl, rfl⟩, HFin.out⟩
      · have hk : keyL L = keyL B := by rw [renL_key hsome]; rfl
        have hBl : B.length = j := by have := congrArg List.length hk; unfold keyL at this; rw [List.length_map, List.length_map, HN.out] at this; omega
        have h05 := (HI.out.pu.trans hp5).heap (fun h => h) HB.out.h0
        have h96 := heap_new (w := w5) (o := .cells #[.int .u64 now, .slice none 0 0] 31 (0, 0)) rfl
        have hal6 : Pure w5 (w5.alloc (.cells #[.int .u64 now, .slice none 0 0] 31)) := (Mod.refl _ w5).alloc _
        have HK := Lib.hid hk; have HBl := Lib.hid hBl; have HP5 := Lib.hid (HI.out.pu.trans hp5); have HR5 := Lib.hid hr5
        have hRM : renR tv L = 0 ∧ renM tv L = B := by unfold renR renM; rw [hsome]; exact ⟨rfl, rfl⟩
        have HRM := Lib.hid hRM
        clear h0r_0 h0r_1 h0r_f h0r_l
        clear H_h0r hk hBl hp5 hr5 hRM HRe hsome
        have h05_0 := cell_of_row _ _ 0 _ _ _ h05; have h05_1 := cell_of_row _ _ 1 _ _ _ h05; have h05_f := (fun j => frozen_of_row _ _ j _ _ h05); have h05_l := lt_of_block h05; simp at h05_0 h05_1; have H_h05 := Lib.hid h05; clear h05
        go_upto_region 10 with fail
        have hI6 : R2I w5 (w5.alloc (.cells #[.int .u64 now, .slice none 0 0] 31)) now w5.heap.size B none 0 0 := ⟨World.ownsRow_nil _ _ _ _, h96, (fun g hg => by cases hg), hal6⟩
        have HI6 := Lib.hid hI6
        clear hI6 h96 hal6
        generalize w5.alloc (.cells #[.int .u64 now, .slice none 0 0] 31) = W6 at *
        obtain ⟨b9, hb9⟩ : ∃ b9, w5.heap.size = b9 := ⟨_, rfl⟩
        rw [hb9] at HI6 ⊢
        have HB9 := Lib.hid hb9
        clear h05_0 h05_1 h05_f h05_l
        clear H_h05 hb9
        go_upto_region 11 with fail
        go_loopw [10] (fun v10 wr => ∃ (i : Nat) (al : Option Addr) (cl : Nat), v10 = .int .i64 (i : Nat) ∧ i ≤ j ∧ Hid (R2I w5 wr now b9 B al cl i)) (fun v10 _ => j - (intOf v10).toNat)
        case atStart => exact ⟨0, none, 0, rfl, Nat.zero_le _, HI6⟩
        case round =>
          obtain ⟨i, al, cl, rfl, hij, HJ⟩ := hrel
          have h0q := (HP5.out.trans HJ.out.pu).heap (fun h => h) HB.out.h0
          have h9q := HJ.out.box
          by_cases hlt2 : i < j
          · have hlt2' : (i : Int) < (j : Int) := by omega
            have k0 : (0 : Int) ≤ (i : Int) := by omega
            have wi : IntKind.i64.wrap ((i : Int) + 1) = (i : Int) + 1 := IntWalk.i64_in _ (by omega)
            obtain ⟨x, hx⟩ : ∃ x, L[i]? = some x := ⟨_, List.getElem?_eq_getElem (by rw [HN.out]; exact hlt2)⟩
            obtain ⟨y, hy⟩ : ∃ y, B[i]? = some y := ⟨_, List.getElem?_eq_getElem (by rw [HBl.out]; exact hlt2)⟩
            obtain ⟨yd, yb⟩ := key_at HK.out hx hy
            obtain ⟨ad, had, z0, z1, z2⟩ := td_read (HR.out.pure (HP5.out.trans HJ.out.pu)).rd hx
            subst had
            obtain ⟨ad5, had, y0⟩ := read_num (HR5.out.pure HJ.out.pu).rd (show (B.map Td.slot)[i]? = some y.slot by rw [List.getElem?_map, hy]; rfl)
            subst had
            have htl : (B.take i).length = i := by rw [List.length_take, HBl.out]; omega
            have hro := HJ.out.row
            unfold TdRow at hro
            rw [htl] at hro
            have HRo := Lib.hid hro; have HTL := Lib.hid htl; have HY := Lib.hid hy
            have hbl := lt_of_block h9q
            have H9q := Lib.hid h9q
            have hal : Pure wr (wr.alloc (.cells #[.int .u32 x.slot, .int .u64 x.dl, .int .u64 x.birth] 45)) := (Mod.refl _ wr).alloc _
            have h11 := heap_new (w := wr) (o := .cells #[.int .u32 x.slot, .int .u64 x.dl, .int .u64 x.birth] 45 (0, 0)) rfl
            have HAL := Lib.hid hal
            have HYD := Lib.hid (And.intro yd yb)
            have y0' := hal.cell (fun h => h) y0
            clear hx hy hro htl hal
            have h0q_0 := cell_of_row _ _ 0 _ _ _ h0q; have h0q_1 := cell_of_row _ _ 1 _ _ _ h0q; have h0q_f := (fun j => frozen_of_row _ _ j _ _ h0q); have h0q_l := lt_of_block h0q; simp at h0q_0 h0q_1; have H_h0q := Lib.hid h0q; clear h0q
            go_upto_region 14 with fail
            clear h0q_0 h0q_1 h0q_f h0q_l
            clear H_h0q y0 z0 z1 z2
            generalize wr.alloc (.cells #[.int .u32 x.slot, .int .u64 x.dl, .int .u64 x.birth] 45) = W7 at *
            obtain ⟨b11, hb11⟩ : ∃ b11, wr.heap.size = b11 := ⟨_, rfl⟩
            rw [hb11] at h11 ⊢
            have HB11 := Lib.hid hb11
            have H11 := Lib.hid h11
            clear hb11 yd yb
            have h11_0 := cell_of_row _ _ 0 _ _ _ h11; have h11_1 := cell_of_row _ _ 1 _ _ _ h11; have h11_2 := cell_of_row _ _ 2 _ _ _ h11; have h11_f := (fun j => frozen_of_row _ _ j _ _ h11); have h11_l := lt_of_block h11; simp at h11_0 h11_1 h11_2; have H_h11 := Lib.hid h11; clear h11
            go_upto_region 15 with fail
            have h11s := heap_setCell_same W7 b11 0 _ _ (.int .u32 y.slot) H11.out
            have h118 : (W7.setCell ⟨b11, 0, none⟩ (.int .u32 y.slot)).heap[b11]? = some (.cells #[.int .u32 y.slot, .int .u64 x.dl, .int .u64 x.birth] 45 (0, 0)) := by rw [h11s]; rfl
            have hm8 : Mod (fun k => k = b11) wr (W7.setCell ⟨b11, 0, none⟩ (.int .u32 y.slot)) := (Mod.of_pure' HAL.out).trans (Mod.set1 b11 0 _)
            have h98 := hm8.heap (fun e => by have := HB11.out; omega) H9q.out
            have hro8 := owns_mod HRo.out hm8 (fun g hg e => by have := owns_lt HRo.out hg; have := HB11.out; omega)
            have HM8 := Lib.hid hm8; have HRo8 := Lib.hid hro8; have H98 := Lib.hid h98
            clear h11_0 h11_1 h11_2 h11_f h11_l
            clear H_h11 H11 h11s hm8 hro8 y0'
            generalize W7.setCell ⟨b11, 0, none⟩ (.int .u32 y.slot) = W8 at *
            have h118_0 := cell_of_row _ _ 0 _ _ _ h118; have h118_1 := cell_of_row _ _ 1 _ _ _ h118; have h118_2 := cell_of_row _ _ 2 _ _ _ h118; have h118_f := (fun j => frozen_of_row _ _ j _ _ h118); have h118_l := lt_of_block h118; simp at h118_0 h118_1 h118_2; have H_h118 := Lib.hid h118; clear h118
            have h98_0 := cell_of_row _ _ 0 _ _ _ h98; have h98_1 := cell_of_row _ _ 1 _ _ _ h98; have h98_f := (fun j => frozen_of_row _ _ j _ _ h98); have h98_l := lt_of_block h98; simp at h98_0 h98_1; have H_h98 := Lib.hid h98; clear h98
            go_upto_region 12 with (first
              | (at_builtin; refine wpList_append_read _ rfl _ _ 29 rfl 45 j0 _ 3 24 Tryz.underlying29 hj jz0 jz1 jz2 rfl (by decide) (.slice al i cl) i _ rfl (owns_mod HRo8.out ((Mod.refl (fun _ => False) W8).alloc _) (fun _ _ h => h)) _ [.int .u32 y.slot, .int .u64 x.dl, .int .u64 x.birth] 1 rfl (ReadAt.of_block 1 1 3 (heap_new rfl) (by rfl) (by simp [Value.oneCell'])) rfl (by unfold maxLen; omega) (by omega) ?_; intro a8 c8 w6 hr8 hg8 hb8
                 have hmg : Mod (fun k => (Value.slice al i cl).ownBlock = some k) W8 w6 := (((Mod.refl (fun _ => False) W8).alloc _).mono (fun _ _ h => h.elim)).then (Mod.of_grown (S := fun k' => (Value.slice al i cl).ownBlock = some k') hg8 (fun k e _ => e)) (fun _ _ h => h)
                 have h96 := hmg.heap (fun e => by have := HJ.out.fr b9 e; have := HB9.out; omega) H98.out
                 have HMG := Lib.hid hmg; have HR8 := Lib.hid hr8; have HB8 := Lib.hid hb8; have H96 := Lib.hid h96
                 clear hmg hr8 hg8 hb8
                 clear h98_0 h98_1 h98_f h98_l
                 clear H_h98
                 have h96_0 := cell_of_row _ _ 0 _ _ _ h96; have h96_1 := cell_of_row _ _ 1 _ _ _ h96; have h96_f := (fun j => frozen_of_row _ _ j _ _ h96); have h96_l := lt_of_block h96; simp at h96_0 h96_1; have H_h96 := Lib.hid h96; clear h96))
            have r1 : TdRow (w6.setCell ⟨b9, 1, none⟩ (.slice a8 (i + 1) c8)) a8 c8 (B.take (i + 1)) := by
              have hj1 : i < B.length := by rw [HBl.out]; exact hlt2
              have hxe : B[i] = y := (List.getElem?_eq_some_iff.1 HY.out).2
              have e1 : B.take (i + 1) = B.take i ++ [y] := by rw [List.take_succ_eq_append_getElem hj1, hxe]
              show World.ownsRow _ 0 _ 3 (.slice a8 (B.take (i + 1)).length c8) (B.take (i + 1)).length ((B.take (i + 1)).flatMap tdC)
              have ety : [y].flatMap tdC = [.int .u32 y.slot, .int .u64 x.dl, .int .u64 x.birth] := by simp [tdC, HYD.out.1, HYD.out.2]
              rw [e1, List.length_append, HTL.out, List.flatMap_append, ety]
              refine owns_mod HR8.out (Mod.set1 (w := w6) b9 1 (.slice a8 (i + 1) c8)) (fun g hg e => ?_)
              rcases HB8.out with e2 | e2
              · have := HJ.out.fr g (e2 ▸ hg); have := HB9.out; omega
              · have hg' : (Value.slice a8 (i + 1) c8).ownBlock = some g := hg
                rw [e2] at hg'; injection hg' with hg'
                have := HM8.out.size; have := HB9.out; simp at hg'; omega
            have r2 : (w6.setCell ⟨b9, 1, none⟩ (.slice a8 (i + 1) c8)).heap[b9]? = some (.cells #[.int .u64 now, .slice a8 (i + 1) c8] 31 (0, 0)) := by rw [heap_setCell_same w6 b9 1 _ _ (.slice a8 (i + 1) c8) H96.out]; rfl
            have r3 : ∀ g, (Value.slice a8 (i + 1) c8).ownBlock = some g → w5.heap.size < g := fun g hg => by
              rcases HB8.out with e2 | e2
              · exact HJ.out.fr g (e2 ▸ hg)
              · rw [e2] at hg; injection hg with hg
                have := HM8.out.size; have := HB9.out; simp at hg; omega
            have r4 : Pure w5 (w6.setCell ⟨b9, 1, none⟩ (.slice a8 (i + 1) c8)) := ((HJ.out.pu.then HM8.out (fun k hk e => by have := HB11.out; have := HJ.out.pu.size; omega)).then HMG.out (fun k hk e => by have := HJ.out.fr k e; omega)).then (Mod.set1 b9 1 _) (fun k hk e => by have := HB9.out; omega)
            have HJ2 := Lib.hid (⟨r1, r2, r3, r4⟩ : R2I w5 (w6.setCell ⟨b9, 1, none⟩ (.slice a8 (i + 1) c8)) now b9 B a8 c8 (i + 1))
            clear r1 r2 r3 r4
            go_wp2
            go_roundw
            case rel => exact ⟨i + 1, a8, c8, by go_num, hlt2, HJ2⟩
            case measure => simp [intOf]; omega
          · have hge2 : ¬ (i : Int) < (j : Int) := by omega
            have e : i = j := by omega
            subst e
            have htB : B.take i = B := List.take_of_length_le (by rw [HBl.out]; exact Nat.le_refl _)
            have hro := HJ.out.row
            rw [htB] at hro
            have hrl := RdL.of_row hro
            rw [HBl.out] at hrl
            have h1q := (HP5.out.trans HJ.out.pu).heap (fun h => h) HB.out.h1
            have hms : Mod (fun k => k = b1) wr ((wr.setCell ⟨b1, 0, none⟩ (.int .u64 now)).setCell ⟨b1, 1, none⟩ (.slice al i cl)) := mod_w2 _ _
            have hb1l := lt_of_block HB.out.h1
            have fin : Pure w ((wr.setCell ⟨b1, 0, none⟩ (.int .u64 now)).setCell ⟨b1, 1, none⟩ (.slice al i cl)) := (HB.out.pure.trans (HP5.out.trans HJ.out.pu)).then hms (fun k hk e => by have := HB.out.z1; omega)
            have hsz5 := HP5.out.size
            have hszw := HB.out.pure.size
            have hrf : RdL ((wr.setCell ⟨b1, 0, none⟩ (.int .u64 now)).setCell ⟨b1, 1, none⟩ (.slice al i cl)) al i cl B := hrl.frame hms (fun g hg e => by have := HJ.out.fr g (rdBlock_own hg); omega)
            have hkp : Kept w a i c al i cl := .inr (fun g hg => by have := HJ.out.fr g hg; omega)
            have HF := Lib.hid fin; have HRf := Lib.hid hrf; have HKp := Lib.hid hkp
            have n91 : b9 ≠ b1 := by have := HB9.out; omega
            clear htB hro hrl hms fin hrf hkp hsz5 hszw hb1l
            have h0q_0 := cell_of_row _ _ 0 _ _ _ h0q; have h0q_1 := cell_of_row _ _ 1 _ _ _ h0q; have h0q_f := (fun j => frozen_of_row _ _ j _ _ h0q); have h0q_l := lt_of_block h0q; simp at h0q_0 h0q_1; have H_h0q := Lib.hid h0q; clear h0q
            have h9q_0 := cell_of_row _ _ 0 _ _ _ h9q; have h9q_1 := cell_of_row _ _ 1 _ _ _ h9q; have h9q_f := (fun j => frozen_of_row _ _ j _ _ h9q); have h9q_l := lt_of_block h9q; simp at h9q_0 h9q_1; have H_h9q := Lib.hid h9q; clear h9q
            have h1q_0 := cell_of_row _ _ 0 _ _ _ h1q; have h1q_1 := cell_of_row _ _ 1 _ _ _ h1q; have h1q_f := (fun j => frozen_of_row _ _ j _ _ h1q); have h1q_l := lt_of_block h1q; simp at h1q_0 h1q_1; have H_h1q := Lib.hid h1q; clear h1q
            go_wp2
            exact bodyPost_ret (v := .tuple #[.agg #[.int .u64 now, .slice al i cl], .int .i64 0]) (by simp [results, Tryz.results27, go_sem, h1q_0, h1q_1, h1q_l, n91]) rfl ⟨al, cl, by rw [HRM.out.1], by rw [HRM.out.2]; exact HRf.out, HKp.out, HF.out⟩
end
end Go.Proofs.YtlalpenfgkfkpaaGreatDoor

/- ref21: Set as a whole, Expire. Conditions: the list is read. -/
namespace Go.Proofs.YtlalpenfgkfkpaaGreatDoor
open Go.RowKit Go.Shelf
set_option maxRecDepth 100000
section
variable {w w' : World} {a : Option Addr} {n c now tt : Nat} {L M : List Td} {x : Td} {b0 b1 : Nat}
theorem run_fromU {a : Option Addr} {n c j : Nat} (hj : j ≤ n) (W : World) : (Instr.slice 29 (.slice a n c) (some (.int .i64 (j : Int))) none none).run Tryz.prog W = .ok (.slice (if c = j then a else a.map (·.add (j * 3))) (n - j) (c - j)) W := by
  have hb : (0 : Int) ≤ (j : Int) ∧ (j : Int) ≤ (n : Int) := by omega
  have hs := sizeOf_td W
  simp [Instr.slice, run_underlying Tryz.underlying29, Instr.sliceBounds, Instr.sliceBound, asIntOf, hb, hs, hj, Result.andThen]
theorem run_toU {a : Option Addr} {n c j : Nat} (hj : j ≤ c) (W : World) : (Instr.slice 29 (.slice a n c) none (some (.int .i64 (j : Int))) none).run Tryz.prog W = .ok (.slice a j c) W := by
  have hb : (0 : Int) ≤ (j : Int) ∧ (j : Int) ≤ (c : Int) := by omega
  have hs := sizeOf_td W
  simp [Instr.slice, run_underlying Tryz.underlying29, Instr.sliceBounds, Instr.sliceBound, asIntOf, hb, hs, hj, Result.andThen]
  cases a <;> simp [addr_zero]
theorem rd_partU {a : Option Addr} {n c j : Nat} (h : RdL w a n c M) (hj : j ≤ n) : ∃ s, (∀ W, (Instr.slice 29 (.slice a n c) (some (.int .i64 (j : Int))) none none).run Tryz.prog W = .ok (.slice s (n - j) (c - j)) W) ∧ ReadAt w (.slice s (n - j) (c - j)) 3 ((M.drop j).flatMap tdC) := by
  refine ⟨_, run_fromU hj, ?_⟩
  cases a with
  | none =>
    obtain ⟨h1, h2, h3⟩ := h.zero
    subst h1 h2 h3
    have : j = 0 := by omega
    subst this
    exact ReadAt.nil _ _
  | some ad => exact rd_sufI h.rd hj h.cap
theorem h_ltU (h : RdL w a n c L) {g : Nat} (hg : rdBlock (.slice a n c) = some g) : g < w.heap.size := h.lt hg
theorem r21set_ok (h : RdL w a n c L) (hl : n ≤ 4194304) {s dl b : Nat} (hd : dl ≤ 18446744073709551615) (hb : b ≤ 18446744073709551615) :
    Calls Tryz.prog 24 #[whV now a n c, .int .u32 s, .int .u64 dl, .int .u64 b] w fun e w' => ∃ a' n' c', e = .returned (.tuple #[whV now a' n' c', .int .i64 (setR now L s dl b)]) ∧ RdL w' a' n' c' (setL now L s dl b) ∧ Kept w a n c a' n' c' ∧ Pure w w' := by
  unfold setL
  by_cases c1 : s < 4194304 ∧ b ≠ 0
  · by_cases c2 : dl ≤ now ∧ dl ≠ 18446744073709551615
    · have er : setR now L s dl b = 3 := by unfold setR; rw [if_pos c1, if_pos c2]
      rw [er, if_neg (by decide)]
      refine (r21set_e3 c1.1 c1.2 c2.1 c2.2).mono ?_
      rintro e w' ⟨rfl, hp⟩
      exact ⟨a, n, c, rfl, h.pure hp, .inl ⟨rfl, rfl, rfl⟩, hp⟩
    · refine (r21set_go h hl c1.1 c1.2 hd hb c2).mono ?_
      rintro e w' (⟨hy, rfl, hp⟩ | ⟨hy, a', c', rfl, hr, hf, hp⟩)
      · have er : setR now L s dl b = 11 := by unfold setR; rw [if_pos c1, if_neg c2, if_pos hy]
        rw [er, if_neg (by decide)]
        exact ⟨a, n, c, rfl, h.pure hp, .inl ⟨rfl, rfl, rfl⟩, hp⟩
      · have er : setR now L s dl b = 0 := by unfold setR; rw [if_pos c1, if_neg c2, hy]; rfl
        rw [er, if_pos rfl]
        exact ⟨a', _, c', rfl, RdL.of_row hr, .inr hf, hp⟩
  · have er : setR now L s dl b = 2 := by unfold setR; rw [if_neg c1]
    rw [er, if_neg (by decide)]
    refine (r21set_e2 c1).mono ?_
    rintro e w' ⟨rfl, hp⟩
    exact ⟨a, n, c, rfl, h.pure hp, .inl ⟨rfl, rfl, rfl⟩, hp⟩
set_option maxHeartbeats 4000000 in
theorem r21exp_ok (h : RdL w a n c L) (hl : n ≤ 4194304) {t0 : Nat} (htt : max now t0 = tt) (ht : tt ≤ 18446744073709551615) :
    Calls Tryz.prog 26 #[whV now a n c, .int .u64 t0] w fun e w' => ∃ a1 c1 a2 c2, e = .returned (.tuple #[whV tt a1 (restE tt L).length c1, .slice a2 (dueE tt L).length c2]) ∧ TdRow w' a1 c1 (restE tt L) ∧ TdRow w' a2 c2 (dueE tt L) ∧ FreshV w (.slice a1 (restE tt L).length c1) ∧ FreshV w (.slice a2 (dueE tt L).length c2) ∧ Pure w w' := by
  unfold whV
  obtain ⟨W1, b0, b1, hW, e0, e1, hB⟩ := boxU_ok (w := w) (now := now) (a := a) (n := n) (c := c)
  unfold boxU at hW
  have hR := h.pure hB.pure
  have h0 := hB.h0
  have hcap := h.cap
  have HB := Lib.hid hB; have HW := Lib.hid hW; have E0 := Lib.hid e0; have E1 := Lib.hid e1; have HR := Lib.hid hR; have HN := Lib.hid h.len; have HR0 := Lib.hid h
  clear hB hW e0 e1 h hR
  obtain ⟨j0, hj, jz0, jz1, jz2⟩ := info_parts info_td
  have h0_0 := cell_of_row _ _ 0 _ _ _ h0; have h0_1 := cell_of_row _ _ 1 _ _ _ h0; have h0_f := (fun j => frozen_of_row _ _ j _ _ h0); have h0_l := lt_of_block h0; simp at h0_0 h0_1; have H_h0 := Lib.hid h0; clear h0
  have m1 : max (now : Int) (t0 : Int) = (tt : Int) := by omega
  clear htt
  go_enter Tryz.func26, Tryz.ntmps26
  go_upto_region 1 with fail
  rw [HW.out, E1.out, E0.out]
  clear HW E0 E1
  go_upto_region 2 with fail
  clear m1
  have h02 : (W1.setCell ⟨b0, 0, none⟩ (.int .u64 tt)).heap[b0]? = some (.cells #[.int .u64 tt, .slice a n c] 31 (0, 0)) := by rw [heap_setCell_same W1 b0 0 _ _ (.int .u64 tt) HB.out.h0]; rfl
  have hm2 : Mod (fun k => k = b0) W1 (W1.setCell ⟨b0, 0, none⟩ (.int .u64 tt)) := Mod.set1 b0 0 _
  have hR2 : RdL (W1.setCell ⟨b0, 0, none⟩ (.int .u64 tt)) a n c L := ⟨HR.out.rd.frame hm2 (fun g hg e => by have e1 := h_ltU HR0.out hg; have := HB.out.z0; omega), HR.out.len, HR.out.cap, HR.out.nil⟩
  have h12 := hm2.heap (fun e => HB.out.ne01 e.symm) HB.out.h1
  have hpw : Pure w (W1.setCell ⟨b0, 0, none⟩ (.int .u64 tt)) := HB.out.pure.then hm2 (fun k hk e => by have := HB.out.z0; omega)
  have hz2 : (W1.setCell ⟨b0, 0, none⟩ (.int .u64 tt)).heap.size = W1.heap.size := by simp
  have H02 := Lib.hid h02; have H12 := Lib.hid h12; have HR2 := Lib.hid hR2; have HPW := Lib.hid hpw; have HB0 := Lib.hid HB.out.z1
  clear h0_0 h0_1 h0_f h0_l
  clear H_h0 hm2 hR2 hpw h12 h02 hz2 HR
  generalize W1.setCell ⟨b0, 0, none⟩ (.int .u64 tt) = W2 at *
  go_upto_region 3 with fail
  go_loopw [6] (fun v6 wr => ∃ k : Nat, v6 = .int .i64 (k : Nat) ∧ k ≤ n ∧ Hid (∀ i y, i < k → L[i]? = some y → expP tt y = true) ∧ Hid (Pure W2 wr)) (fun v6 _ => n - (intOf v6).toNat)
  case atStart => exact ⟨0, rfl, Nat.zero_le _, Lib.hid (fun i y hi => by omega), Lib.hid (Mod.refl _ _)⟩
  case round =>
    obtain ⟨k, rfl, hk, HA, HP⟩ := hrel
    have h0r := HP.out.heap (fun h => h) H02.out
    have H0r := Lib.hid h0r
    have h0r_0 := cell_of_row _ _ 0 _ _ _ h0r; have h0r_1 := cell_of_row _ _ 1 _ _ _ h0r; have h0r_f := (fun j => frozen_of_row _ _ j _ _ h0r); have h0r_l := lt_of_block h0r; simp at h0r_0 h0r_1; have H_h0r := Lib.hid h0r; clear h0r
    by_cases hlt : k < n
    · have hlt' : (k : Int) < (n : Int) := by omega
      have k0 : (0 : Int) ≤ (k : Int) := by omega
      have dkn : decide (k < n) = true := decide_eq_true hlt
      have wk : IntKind.i64.wrap ((k : Int) + 1) = (k : Int) + 1 := IntWalk.i64_in _ (by omega)
      obtain ⟨y, hy⟩ : ∃ y, L[k]? = some y := ⟨_, List.getElem?_eq_getElem (by rw [HN.out]; exact hlt)⟩
      obtain ⟨ad, had, z0, z1, z2⟩ := td_read (HR2.out.pure HP.out).rd hy
      subst had
      have HY := Lib.hid hy
      have HHS := Lib.hid (show (wr.cell? ⟨b0, 0, none⟩ = some (.int .u64 tt) ∧ wr.cell? ⟨b0, 1, none⟩ = some (.slice (some ad) n c)) ∧ wr.cell? ⟨(ad.add (k * 3)).block, (ad.add (k * 3)).off + 1, none⟩ = some (.int .u64 y.dl) from ⟨⟨h0r_0, h0r_1⟩, z1⟩)
      clear z0 z2 hy
      by_cases hv : y.dl = 18446744073709551615
      · have f1 : ((y.dl : Int) != 18446744073709551615) = false := by simp; omega
        have hex : expP tt y = false := by unfold expP; simp [hv]
        have HEX := Lib.hid hex
        clear hv hex
        go_upto_region 3 with fail
        refine wp_region_held_drew (S := fun u => (u.cell? ⟨b0, 0, none⟩ = some (.int .u64 tt) ∧ u.cell? ⟨b0, 1, none⟩ = some (.slice (some ad) n c)) ∧ u.cell? ⟨(ad.add (k * 3)).block, (ad.add (k * 3)).off + 1, none⟩ = some (.int .u64 y.dl)) (by kernel_rfl) HHS.out (fun hHeld => ?_)
        ((refine wpAnyH_take (i := 0) (v := ?_) rfl (by kernel_rfl) (by kernel_rfl) (by kernel_rfl) (fun _ _ _ h => h) (Yields.yieldsIf (Or.inl ⟨by rfl, ?_⟩)) hHeld ?_; rotate_left 1; focus (intro w; go_simp; try with_reducible rfl)); try simp only [Act.put, List.getElem_toArray, List.getElem_cons_zero, List.getElem_cons_succ, List.setIfInBounds_toArray, List.set_cons_zero, List.set_cons_succ])
        ((refine wpAnyH_take (i := 1) (v := ?_) rfl (by kernel_rfl) (by kernel_rfl) (by kernel_rfl) (fun _ _ _ h => h) (Yields.yieldsIf (Or.inl ⟨by rfl, ?_⟩)) hHeld ?_; rotate_left 1; focus (intro w; go_simp; try with_reducible rfl)); try simp only [Act.put, List.getElem_toArray, List.getElem_cons_zero, List.getElem_cons_succ, List.setIfInBounds_toArray, List.set_cons_zero, List.set_cons_succ])
        ((refine wpAnyH_take (i := 2) (v := ?_) rfl (by kernel_rfl) (by kernel_rfl) (by kernel_rfl) (fun _ _ _ h => h) (Or.inl ⟨by rfl, ?_⟩) hHeld ?_; rotate_left 1; focus (intro w hS; obtain ⟨⟨sa, sb⟩, sc⟩ := hS; go_simp; try with_reducible rfl)); try simp only [Act.put, List.getElem_toArray, List.getElem_cons_zero, List.getElem_cons_succ, List.setIfInBounds_toArray, List.set_cons_zero, List.set_cons_succ])
        ((refine wpAnyH_take (i := 3) (v := ?_) rfl (by kernel_rfl) (by kernel_rfl) (by kernel_rfl) (fun _ _ _ h => h) (Yields.yieldsIf (Or.inl ⟨by rfl, ?_⟩)) hHeld ?_; rotate_left 1; focus (intro w; go_simp; try with_reducible rfl)); try simp only [Act.put, List.getElem_toArray, List.getElem_cons_zero, List.getElem_cons_succ, List.setIfInBounds_toArray, List.set_cons_zero, List.set_cons_succ])
        ((refine wpAnyH_take (i := 4) (v := ?_) rfl (by kernel_rfl) (by kernel_rfl) (by kernel_rfl) (fun _ _ _ h => h) (Yields.yieldsIf (Or.inl ⟨by rfl, ?_⟩)) hHeld ?_; rotate_left 1; focus (intro w; go_simp; try with_reducible rfl)); try simp only [Act.put, List.getElem_toArray, List.getElem_cons_zero, List.getElem_cons_succ, List.setIfInBounds_toArray, List.set_cons_zero, List.set_cons_succ])
        ((refine wpAnyH_take (i := 5) (v := ?_) rfl (by kernel_rfl) (by kernel_rfl) (by kernel_rfl) (fun _ _ _ h => h) (Yields.yieldsIf (Or.inl ⟨by rfl, ?_⟩)) hHeld ?_; rotate_left 1; focus (intro w; go_simp; try with_reducible rfl)); try simp only [Act.put, List.getElem_toArray, List.getElem_cons_zero, List.getElem_cons_succ, List.setIfInBounds_toArray, List.set_cons_zero, List.set_cons_succ])
        ((refine wpAnyH_take (i := 6) (v := ?_) rfl (by kernel_rfl) (by kernel_rfl) (by kernel_rfl) (fun _ _ _ h => h) (Yields.yieldsIf (Or.inl ⟨by rfl, ?_⟩)) hHeld ?_; rotate_left 1; focus (intro w; go_simp; try with_reducible rfl)); try simp only [Act.put, List.getElem_toArray, List.getElem_cons_zero, List.getElem_cons_succ, List.setIfInBounds_toArray, List.set_cons_zero, List.set_cons_succ])
        ((refine wpAnyH_take (i := 7) (v := ?_) rfl (by kernel_rfl) (by kernel_rfl) (by kernel_rfl) (fun _ _ _ h => h) (Or.inl ⟨by rfl, ?_⟩) hHeld ?_; rotate_left 1; focus (intro w hS; obtain ⟨⟨sa, sb⟩, sc⟩ := hS; go_simp; try with_reducible rfl)); try simp only [Act.put, List.getElem_toArray, List.getElem_cons_zero, List.getElem_cons_succ, List.setIfInBounds_toArray, List.set_cons_zero, List.set_cons_succ])
        ((refine wpAnyH_take (i := 8) (v := ?_) rfl (by kernel_rfl) (by kernel_rfl) (by kernel_rfl) (fun _ _ _ h => h) (Yields.yieldsIf (Or.inl ⟨by rfl, ?_⟩)) hHeld ?_; rotate_left 1; focus (intro w; go_simp; try with_reducible rfl)); try simp only [Act.put, List.getElem_toArray, List.getElem_cons_zero, List.getElem_cons_succ, List.setIfInBounds_toArray, List.set_cons_zero, List.set_cons_succ])
        ((refine wpAnyH_take (i := 9) (v := ?_) rfl (by kernel_rfl) (by kernel_rfl) (by kernel_rfl) (fun _ _ _ h => h) (Yields.yieldsIf (Or.inl ⟨by rfl, ?_⟩)) hHeld ?_; rotate_left 1; focus (intro w; go_simp; try with_reducible rfl)); try simp only [Act.put, List.getElem_toArray, List.getElem_cons_zero, List.getElem_cons_succ, List.setIfInBounds_toArray, List.set_cons_zero, List.set_cons_succ])
        ((refine wpAnyH_take (i := 10) (v := ?_) rfl (by kernel_rfl) (by kernel_rfl) (by kernel_rfl) (fun _ _ _ h => h) (Yields.yieldsIf (Or.inl ⟨by rfl, ?_⟩)) hHeld ?_; rotate_left 1; focus (intro w; go_simp; try with_reducible rfl)); try simp only [Act.put, List.getElem_toArray, List.getElem_cons_zero, List.getElem_cons_succ, List.setIfInBounds_toArray, List.set_cons_zero, List.set_cons_succ])
        ((refine wpAnyH_take (i := 11) (v := ?_) rfl (by kernel_rfl) (by kernel_rfl) (by kernel_rfl) (fun _ _ _ h => h) (Or.inl ⟨by rfl, ?_⟩) hHeld ?_; rotate_left 1; focus (intro w hS; obtain ⟨⟨sa, sb⟩, sc⟩ := hS; go_simp; try with_reducible rfl)); try simp only [Act.put, List.getElem_toArray, List.getElem_cons_zero, List.getElem_cons_succ, List.setIfInBounds_toArray, List.set_cons_zero, List.set_cons_succ])
        ((refine wpAnyH_take (i := 12) (v := ?_) rfl (by kernel_rfl) (by kernel_rfl) (by kernel_rfl) (fun _ _ _ h => h) (Yields.yieldsIf (Or.inl ⟨by rfl, ?_⟩)) hHeld ?_; rotate_left 1; focus (intro w; go_simp; try with_reducible rfl)); try simp only [Act.put, List.getElem_toArray, List.getElem_cons_zero, List.getElem_cons_succ, List.setIfInBounds_toArray, List.set_cons_zero, List.set_cons_succ])
        ((refine wpAnyH_take (i := 13) (v := ?_) rfl (by kernel_rfl) (by kernel_rfl) (by kernel_rfl) (fun _ _ _ h => h) (Yields.yieldsIf (Or.inl ⟨by rfl, ?_⟩)) hHeld ?_; rotate_left 1; focus (intro w; go_simp; try with_reducible rfl)); try simp only [Act.put, List.getElem_toArray, List.getElem_cons_zero, List.getElem_cons_succ, List.setIfInBounds_toArray, List.set_cons_zero, List.set_cons_succ])
        ((refine wpAnyH_take (i := 14) (v := ?_) rfl (by kernel_rfl) (by kernel_rfl) (by kernel_rfl) (fun _ _ _ h => h) (Yields.yieldsIf (Or.inl ⟨by rfl, ?_⟩)) hHeld ?_; rotate_left 1; focus (intro w; go_simp; try with_reducible rfl)); try simp only [Act.put, List.getElem_toArray, List.getElem_cons_zero, List.getElem_cons_succ, List.setIfInBounds_toArray, List.set_cons_zero, List.set_cons_succ])
        (refine wpAnyH_take (i := 15) (v := undef) rfl (by kernel_rfl) (by kernel_rfl) (by kernel_rfl) (fun _ _ _ h => h) (Or.inr ⟨by rfl, rfl⟩) hHeld ?_; try simp only [Act.put, List.getElem_toArray, List.getElem_cons_zero, List.getElem_cons_succ, List.setIfInBounds_toArray, List.set_cons_zero, List.set_cons_succ])
        (refine wpAnyH_take (i := 16) (v := undef) rfl (by kernel_rfl) (by kernel_rfl) (by kernel_rfl) (fun _ _ _ h => h) (Or.inr ⟨by rfl, rfl⟩) hHeld ?_; try simp only [Act.put, List.getElem_toArray, List.getElem_cons_zero, List.getElem_cons_succ, List.setIfInBounds_toArray, List.set_cons_zero, List.set_cons_succ])
        (refine wpAnyH_take (i := 17) (v := undef) rfl (by kernel_rfl) (by kernel_rfl) (by kernel_rfl) (fun _ _ _ h => h) (Or.inr ⟨by rfl, rfl⟩) hHeld ?_; try simp only [Act.put, List.getElem_toArray, List.getElem_cons_zero, List.getElem_cons_succ, List.setIfInBounds_toArray, List.set_cons_zero, List.set_cons_succ])
        (refine wpAnyH_take (i := 18) (v := undef) rfl (by kernel_rfl) (by kernel_rfl) (by kernel_rfl) (fun _ _ _ h => h) (Or.inr ⟨by rfl, rfl⟩) hHeld ?_; try simp only [Act.put, List.getElem_toArray, List.getElem_cons_zero, List.getElem_cons_succ, List.setIfInBounds_toArray, List.set_cons_zero, List.set_cons_succ])
        (refine wpAnyH_take (i := 19) (v := undef) rfl (by kernel_rfl) (by kernel_rfl) (by kernel_rfl) (fun _ _ _ h => h) (Or.inr ⟨by rfl, rfl⟩) hHeld ?_; try simp only [Act.put, List.getElem_toArray, List.getElem_cons_zero, List.getElem_cons_succ, List.setIfInBounds_toArray, List.set_cons_zero, List.set_cons_succ])
        (refine wpAnyH_take (i := 20) (v := undef) rfl (by kernel_rfl) (by kernel_rfl) (by kernel_rfl) (fun _ _ _ h => h) (Or.inr ⟨by rfl, rfl⟩) hHeld ?_; try simp only [Act.put, List.getElem_toArray, List.getElem_cons_zero, List.getElem_cons_succ, List.setIfInBounds_toArray, List.set_cons_zero, List.set_cons_succ])
        (refine wpAnyH_take (i := 21) (v := undef) rfl (by kernel_rfl) (by kernel_rfl) (by kernel_rfl) (fun _ _ _ h => h) (Or.inr ⟨by rfl, rfl⟩) hHeld ?_; try simp only [Act.put, List.getElem_toArray, List.getElem_cons_zero, List.getElem_cons_succ, List.setIfInBounds_toArray, List.set_cons_zero, List.set_cons_succ])
        (refine wpAnyH_take (i := 22) (v := undef) rfl (by kernel_rfl) (by kernel_rfl) (by kernel_rfl) (fun _ _ _ h => h) (Or.inr ⟨by rfl, rfl⟩) hHeld ?_; try simp only [Act.put, List.getElem_toArray, List.getElem_cons_zero, List.getElem_cons_succ, List.setIfInBounds_toArray, List.set_cons_zero, List.set_cons_succ])
        (refine wpAnyH_take (i := 23) (v := undef) rfl (by kernel_rfl) (by kernel_rfl) (by kernel_rfl) (fun _ _ _ h => h) (Or.inr ⟨by rfl, rfl⟩) hHeld ?_; try simp only [Act.put, List.getElem_toArray, List.getElem_cons_zero, List.getElem_cons_succ, List.setIfInBounds_toArray, List.set_cons_zero, List.set_cons_succ])
        ((refine wpAnyH_take (i := 24) (v := ?_) rfl (by kernel_rfl) (by kernel_rfl) (by kernel_rfl) (fun _ _ _ h => h) (Yields.yieldsIf (Or.inl ⟨by rfl, ?_⟩)) hHeld ?_; rotate_left 1; focus (intro w; go_simp; try with_reducible rfl)); try simp only [Act.put, List.getElem_toArray, List.getElem_cons_zero, List.getElem_cons_succ, List.setIfInBounds_toArray, List.set_cons_zero, List.set_cons_succ])
        refine wpAnyH_done (by kernel_rfl) ?_ _
        clear hHeld
        have htw := tw_gen (p := expP tt) (k := k) HA.out (fun y' hy' => by rw [HY.out] at hy'; injection hy' with hy'; subst hy'; exact HEX.out) (by rw [HN.out]; omega)
        have HTw := Lib.hid htw
        clear htw
        have hRr := HR2.out.pure HP.out
        obtain ⟨sv, hfr, hsuf⟩ := rd_partU hRr hk
        have hpre := rd_pre hRr.rd hk
        have hto := fun W => run_toU (a := (some ad)) (n := n) (Nat.le_trans hk hcap) W
        have hpl : (dueE tt L).length = k := by unfold dueE; rw [← HTw.out.1, List.length_take, HN.out]; omega
        have hsl : (restE tt L).length = n - k := by unfold restE; rw [← HTw.out.2, List.length_drop, HN.out]
        rw [HTw.out.1] at hpre
        rw [HTw.out.2] at hsuf
        have HSuf := Lib.hid (hsuf.frame (Mod.refl (fun _ => False) wr).drew (fun _ _ h => h)); have HPre := Lib.hid (hpre.frame (Mod.refl (fun _ => False) wr).drew (fun _ _ h => h)); have HPL := Lib.hid hpl; have HSL := Lib.hid hsl
        have hP2 : Pure W2 wr.drew := HP.out.drew
        have HPd := Lib.hid hP2
        clear hsuf hpre hpl hsl hRr hP2
        have V1 : True := trivial
        go_upto_region 7 with (first
          | (at_builtin; clear V1; refine wpList_append_read _ rfl _ _ 29 rfl 45 j0 _ 3 24 Tryz.underlying29 hj jz0 jz1 jz2 rfl (by decide) (.slice none 0 0) 0 [] rfl (World.ownsRow_nil _ _ _ _) (.slice (some ad) k c) _ k rfl HPre.out (by rw [flat_length tdC 3 (fun _ => rfl)]; exact congrArg (· * 3) HPL.out) (by unfold maxLen; omega) (by omega) ?_; intro a8 c8 w7 hr8 hg8 hb8
             rw [Nat.zero_add] at hr8 hb8 ⊢
             rw [List.nil_append] at hr8
             have p7 : Pure wr.drew w7 := Mod.of_grown hg8 (fun k e _ => by cases e)
             have HR8 := Lib.hid hr8; have HB8 := Lib.hid hb8; have HP7 := Lib.hid p7
             have x1 := p7.cell (a := ⟨b0, 1, none⟩) (fun h => h) h0r_1
             clear hr8 hg8 hb8 p7)
          | (at_builtin; refine wpList_append_read _ rfl _ _ 29 rfl 45 j0 _ 3 24 Tryz.underlying29 hj jz0 jz1 jz2 rfl (by decide) (.slice none 0 0) 0 [] rfl (World.ownsRow_nil _ _ _ _) (.slice sv (n - k) (c - k)) _ (n - k) rfl (HSuf.out.frame HP7.out (fun _ _ h => h)) (by rw [flat_length tdC 3 (fun _ => rfl)]; exact congrArg (· * 3) HSL.out) (by unfold maxLen; omega) (by omega) ?_; intro a9 c9 w8 hr9 hg9 hb9
             rw [Nat.zero_add] at hr9 hb9 ⊢
             rw [List.nil_append] at hr9
             have p8 : Pure wr.drew w8 := HP7.out.trans (Mod.of_grown hg9 (fun k e _ => by cases e))
             have hC0 := (HPd.out.trans p8).heap (fun h => h) H02.out
             have HR9 := Lib.hid hr9; have HB9 := Lib.hid hb9; have HP8 := Lib.hid p8; have HG9 := Lib.hid hg9
             clear hr9 hg9 hb9 p8 x1
             have hC0_0 := cell_of_row _ _ 0 _ _ _ hC0; have hC0_1 := cell_of_row _ _ 1 _ _ _ hC0; have hC0_f := (fun j => frozen_of_row _ _ j _ _ hC0); have hC0_l := lt_of_block hC0; simp at hC0_0 hC0_1; have H_hC0 := Lib.hid hC0; clear hC0))
        have hC1 := (HPd.out.trans HP8.out).heap (fun h => h) H12.out
        have hsw : W2.heap.size ≤ wr.drew.heap.size := HPd.out.size
        have hs7 : wr.drew.heap.size ≤ w7.heap.size := HP7.out.size
        have h8f : ∀ g, (Value.slice a8 k c8).ownBlock = some g → W2.heap.size ≤ g := fun g hg => by
          rcases HB8.out with e | e
          · rw [e] at hg; cases hg
          · rw [e] at hg; injection hg with hg; omega
        have h9f : ∀ g, (Value.slice a9 (n - k) c9).ownBlock = some g → W2.heap.size ≤ g := fun g hg => by
          rcases HB9.out with e | e
          · rw [e] at hg; cases hg
          · rw [e] at hg; injection hg with hg; omega
        have hb0 := lt_of_block H02.out; have hb1 := lt_of_block H12.out; have hww := HPW.out.size
        have hzb0 := HB.out.z0; have hzb1 := HB.out.z1
        have m2 : Mod (fun q => q = b0 ∨ q = b1) w8 (((w8.setCell ⟨b0, 1, none⟩ (.slice a9 (n - k) c9)).setCell ⟨b1, 0, none⟩ (.int .u64 tt)).setCell ⟨b1, 1, none⟩ (.slice a9 (n - k) c9)) := ((Mod.set1 b0 1 _).mono (fun _ _ h => .inl h)).trans ((mod_w2 _ _).mono (fun _ _ h => .inr h))
        have r9 := owns_mod HR9.out m2 (fun g hg e => by have := h9f g hg; rcases e with e | e <;> omega)
        have r8 := owns_mod (owns_mod HR8.out (Mod.of_grown (S := fun _ => False) HG9.out (fun k e _ => by cases e)) (fun _ _ h => h)) m2 (fun g hg e => by have := h8f g hg; rcases e with e | e <;> omega)
        have pf : Pure w _ := (HPW.out.trans (HPd.out.trans HP8.out)).then m2 (fun g hg e => by rcases e with e | e <;> omega)
        have R9 := Lib.hid r9; have R8 := Lib.hid r8; have PF := Lib.hid pf; have H8F := Lib.hid h8f; have H9F := Lib.hid h9f; have HWW := Lib.hid hww
        have n01 := HB.out.ne01; have n10 := HB.out.ne01.symm
        clear r9 r8 pf h8f h9f hsw hs7 hb0 hb1 hww hzb0 hzb1 m2
        have hC1_0 := cell_of_row _ _ 0 _ _ _ hC1; have hC1_1 := cell_of_row _ _ 1 _ _ _ hC1; have hC1_f := (fun j => frozen_of_row _ _ j _ _ hC1); have hC1_l := lt_of_block hC1; simp at hC1_0 hC1_1; have H_hC1 := Lib.hid hC1; clear hC1
        go_wp2
        refine bodyPost_ret (v := .tuple #[.agg #[.int .u64 tt, .slice a9 (n - k) c9], .slice a8 k c8]) (by simp [results, Tryz.results26, go_sem, hC0_0, hC0_1, hC0_l, hC1_0, hC1_1, hC1_l, n01, n10]) rfl ⟨a9, c9, a8, c8, by rw [HPL.out, HSL.out], ?_, ?_, ?_, ?_, PF.out⟩
        · show World.ownsRow _ 0 _ 3 (.slice a9 (restE tt L).length c9) (restE tt L).length ((restE tt L).flatMap tdC)
          rw [HSL.out]
          exact R9.out
        · show World.ownsRow _ 0 _ 3 (.slice a8 (dueE tt L).length c8) (dueE tt L).length ((dueE tt L).flatMap tdC)
          rw [HPL.out]
          exact R8.out
        · rw [HSL.out]; exact fun g hg => Nat.le_trans HWW.out (H9F.out g hg)
        · rw [HPL.out]; exact fun g hg => Nat.le_trans HWW.out (H8F.out g hg)
      · have f1 : ((y.dl : Int) != 18446744073709551615) = true := by simp; omega
        by_cases hd : y.dl ≤ tt
        · have f2 : decide ((y.dl : Int) ≤ (tt : Int)) = true := decide_eq_true (by omega)
          have f2n : decide (y.dl ≤ tt) = true := decide_eq_true hd
          have hex : expP tt y = true := by unfold expP; simp [hv, hd]
          have HEX := Lib.hid hex
          clear hv hex hd
          go_upto_region 3 with fail
          refine wp_region_held_drew (S := fun u => (u.cell? ⟨b0, 0, none⟩ = some (.int .u64 tt) ∧ u.cell? ⟨b0, 1, none⟩ = some (.slice (some ad) n c)) ∧ u.cell? ⟨(ad.add (k * 3)).block, (ad.add (k * 3)).off + 1, none⟩ = some (.int .u64 y.dl)) (by kernel_rfl) HHS.out (fun hHeld => ?_)
          ((refine wpAnyH_take (i := 0) (v := ?_) rfl (by kernel_rfl) (by kernel_rfl) (by kernel_rfl) (fun _ _ _ h => h) (Yields.yieldsIf (Or.inl ⟨by rfl, ?_⟩)) hHeld ?_; rotate_left 1; focus (intro w; go_simp; try with_reducible rfl)); try simp only [Act.put, List.getElem_toArray, List.getElem_cons_zero, List.getElem_cons_succ, List.setIfInBounds_toArray, List.set_cons_zero, List.set_cons_succ])
          ((refine wpAnyH_take (i := 1) (v := ?_) rfl (by kernel_rfl) (by kernel_rfl) (by kernel_rfl) (fun _ _ _ h => h) (Yields.yieldsIf (Or.inl ⟨by rfl, ?_⟩)) hHeld ?_; rotate_left 1; focus (intro w; go_simp; try with_reducible rfl)); try simp only [Act.put, List.getElem_toArray, List.getElem_cons_zero, List.getElem_cons_succ, List.setIfInBounds_toArray, List.set_cons_zero, List.set_cons_succ])
          ((refine wpAnyH_take (i := 2) (v := ?_) rfl (by kernel_rfl) (by kernel_rfl) (by kernel_rfl) (fun _ _ _ h => h) (Or.inl ⟨by rfl, ?_⟩) hHeld ?_; rotate_left 1; focus (intro w hS; obtain ⟨⟨sa, sb⟩, sc⟩ := hS; go_simp; try with_reducible rfl)); try simp only [Act.put, List.getElem_toArray, List.getElem_cons_zero, List.getElem_cons_succ, List.setIfInBounds_toArray, List.set_cons_zero, List.set_cons_succ])
          ((refine wpAnyH_take (i := 3) (v := ?_) rfl (by kernel_rfl) (by kernel_rfl) (by kernel_rfl) (fun _ _ _ h => h) (Yields.yieldsIf (Or.inl ⟨by rfl, ?_⟩)) hHeld ?_; rotate_left 1; focus (intro w; go_simp; try with_reducible rfl)); try simp only [Act.put, List.getElem_toArray, List.getElem_cons_zero, List.getElem_cons_succ, List.setIfInBounds_toArray, List.set_cons_zero, List.set_cons_succ])
          ((refine wpAnyH_take (i := 4) (v := ?_) rfl (by kernel_rfl) (by kernel_rfl) (by kernel_rfl) (fun _ _ _ h => h) (Yields.yieldsIf (Or.inl ⟨by rfl, ?_⟩)) hHeld ?_; rotate_left 1; focus (intro w; go_simp; try with_reducible rfl)); try simp only [Act.put, List.getElem_toArray, List.getElem_cons_zero, List.getElem_cons_succ, List.setIfInBounds_toArray, List.set_cons_zero, List.set_cons_succ])
          ((refine wpAnyH_take (i := 5) (v := ?_) rfl (by kernel_rfl) (by kernel_rfl) (by kernel_rfl) (fun _ _ _ h => h) (Yields.yieldsIf (Or.inl ⟨by rfl, ?_⟩)) hHeld ?_; rotate_left 1; focus (intro w; go_simp; try with_reducible rfl)); try simp only [Act.put, List.getElem_toArray, List.getElem_cons_zero, List.getElem_cons_succ, List.setIfInBounds_toArray, List.set_cons_zero, List.set_cons_succ])
          ((refine wpAnyH_take (i := 6) (v := ?_) rfl (by kernel_rfl) (by kernel_rfl) (by kernel_rfl) (fun _ _ _ h => h) (Yields.yieldsIf (Or.inl ⟨by rfl, ?_⟩)) hHeld ?_; rotate_left 1; focus (intro w; go_simp; try with_reducible rfl)); try simp only [Act.put, List.getElem_toArray, List.getElem_cons_zero, List.getElem_cons_succ, List.setIfInBounds_toArray, List.set_cons_zero, List.set_cons_succ])
          ((refine wpAnyH_take (i := 7) (v := ?_) rfl (by kernel_rfl) (by kernel_rfl) (by kernel_rfl) (fun _ _ _ h => h) (Or.inl ⟨by rfl, ?_⟩) hHeld ?_; rotate_left 1; focus (intro w hS; obtain ⟨⟨sa, sb⟩, sc⟩ := hS; go_simp; try with_reducible rfl)); try simp only [Act.put, List.getElem_toArray, List.getElem_cons_zero, List.getElem_cons_succ, List.setIfInBounds_toArray, List.set_cons_zero, List.set_cons_succ])
          ((refine wpAnyH_take (i := 8) (v := ?_) rfl (by kernel_rfl) (by kernel_rfl) (by kernel_rfl) (fun _ _ _ h => h) (Yields.yieldsIf (Or.inl ⟨by rfl, ?_⟩)) hHeld ?_; rotate_left 1; focus (intro w; go_simp; try with_reducible rfl)); try simp only [Act.put, List.getElem_toArray, List.getElem_cons_zero, List.getElem_cons_succ, List.setIfInBounds_toArray, List.set_cons_zero, List.set_cons_succ])
          ((refine wpAnyH_take (i := 9) (v := ?_) rfl (by kernel_rfl) (by kernel_rfl) (by kernel_rfl) (fun _ _ _ h => h) (Yields.yieldsIf (Or.inl ⟨by rfl, ?_⟩)) hHeld ?_; rotate_left 1; focus (intro w; go_simp; try with_reducible rfl)); try simp only [Act.put, List.getElem_toArray, List.getElem_cons_zero, List.getElem_cons_succ, List.setIfInBounds_toArray, List.set_cons_zero, List.set_cons_succ])
          ((refine wpAnyH_take (i := 10) (v := ?_) rfl (by kernel_rfl) (by kernel_rfl) (by kernel_rfl) (fun _ _ _ h => h) (Yields.yieldsIf (Or.inl ⟨by rfl, ?_⟩)) hHeld ?_; rotate_left 1; focus (intro w; go_simp; try with_reducible rfl)); try simp only [Act.put, List.getElem_toArray, List.getElem_cons_zero, List.getElem_cons_succ, List.setIfInBounds_toArray, List.set_cons_zero, List.set_cons_succ])
          ((refine wpAnyH_take (i := 11) (v := ?_) rfl (by kernel_rfl) (by kernel_rfl) (by kernel_rfl) (fun _ _ _ h => h) (Or.inl ⟨by rfl, ?_⟩) hHeld ?_; rotate_left 1; focus (intro w hS; obtain ⟨⟨sa, sb⟩, sc⟩ := hS; go_simp; try with_reducible rfl)); try simp only [Act.put, List.getElem_toArray, List.getElem_cons_zero, List.getElem_cons_succ, List.setIfInBounds_toArray, List.set_cons_zero, List.set_cons_succ])
          ((refine wpAnyH_take (i := 12) (v := ?_) rfl (by kernel_rfl) (by kernel_rfl) (by kernel_rfl) (fun _ _ _ h => h) (Yields.yieldsIf (Or.inl ⟨by rfl, ?_⟩)) hHeld ?_; rotate_left 1; focus (intro w; go_simp; try with_reducible rfl)); try simp only [Act.put, List.getElem_toArray, List.getElem_cons_zero, List.getElem_cons_succ, List.setIfInBounds_toArray, List.set_cons_zero, List.set_cons_succ])
          ((refine wpAnyH_take (i := 13) (v := ?_) rfl (by kernel_rfl) (by kernel_rfl) (by kernel_rfl) (fun _ _ _ h => h) (Yields.yieldsIf (Or.inl ⟨by rfl, ?_⟩)) hHeld ?_; rotate_left 1; focus (intro w; go_simp; try with_reducible rfl)); try simp only [Act.put, List.getElem_toArray, List.getElem_cons_zero, List.getElem_cons_succ, List.setIfInBounds_toArray, List.set_cons_zero, List.set_cons_succ])
          ((refine wpAnyH_take (i := 14) (v := ?_) rfl (by kernel_rfl) (by kernel_rfl) (by kernel_rfl) (fun _ _ _ h => h) (Yields.yieldsIf (Or.inl ⟨by rfl, ?_⟩)) hHeld ?_; rotate_left 1; focus (intro w; go_simp; try with_reducible rfl)); try simp only [Act.put, List.getElem_toArray, List.getElem_cons_zero, List.getElem_cons_succ, List.setIfInBounds_toArray, List.set_cons_zero, List.set_cons_succ])
          ((refine wpAnyH_take (i := 15) (v := ?_) rfl (by kernel_rfl) (by kernel_rfl) (by kernel_rfl) (fun _ _ _ h => h) (Yields.yieldsIf (Or.inl ⟨by rfl, ?_⟩)) hHeld ?_; rotate_left 1; focus (intro w; go_simp; try with_reducible rfl)); try simp only [Act.put, List.getElem_toArray, List.getElem_cons_zero, List.getElem_cons_succ, List.setIfInBounds_toArray, List.set_cons_zero, List.set_cons_succ])
          ((refine wpAnyH_take (i := 16) (v := ?_) rfl (by kernel_rfl) (by kernel_rfl) (by kernel_rfl) (fun _ _ _ h => h) (Or.inl ⟨by rfl, ?_⟩) hHeld ?_; rotate_left 1; focus (intro w hS; obtain ⟨⟨sa, sb⟩, sc⟩ := hS; go_simp; try with_reducible rfl)); try simp only [Act.put, List.getElem_toArray, List.getElem_cons_zero, List.getElem_cons_succ, List.setIfInBounds_toArray, List.set_cons_zero, List.set_cons_succ])
          ((refine wpAnyH_take (i := 17) (v := ?_) rfl (by kernel_rfl) (by kernel_rfl) (by kernel_rfl) (fun _ _ _ h => h) (Yields.yieldsIf (Or.inl ⟨by rfl, ?_⟩)) hHeld ?_; rotate_left 1; focus (intro w; go_simp; try with_reducible rfl)); try simp only [Act.put, List.getElem_toArray, List.getElem_cons_zero, List.getElem_cons_succ, List.setIfInBounds_toArray, List.set_cons_zero, List.set_cons_succ])
          ((refine wpAnyH_take (i := 18) (v := ?_) rfl (by kernel_rfl) (by kernel_rfl) (by kernel_rfl) (fun _ _ _ h => h) (Yields.yieldsIf (Or.inl ⟨by rfl, ?_⟩)) hHeld ?_; rotate_left 1; focus (intro w; go_simp; try with_reducible rfl)); try simp only [Act.put, List.getElem_toArray, List.getElem_cons_zero, List.getElem_cons_succ, List.setIfInBounds_toArray, List.set_cons_zero, List.set_cons_succ])
          ((refine wpAnyH_take (i := 19) (v := ?_) rfl (by kernel_rfl) (by kernel_rfl) (by kernel_rfl) (fun _ _ _ h => h) (Yields.yieldsIf (Or.inl ⟨by rfl, ?_⟩)) hHeld ?_; rotate_left 1; focus (intro w; go_simp; try with_reducible rfl)); try simp only [Act.put, List.getElem_toArray, List.getElem_cons_zero, List.getElem_cons_succ, List.setIfInBounds_toArray, List.set_cons_zero, List.set_cons_succ])
          ((refine wpAnyH_take (i := 20) (v := ?_) rfl (by kernel_rfl) (by kernel_rfl) (by kernel_rfl) (fun _ _ _ h => h) (Or.inl ⟨by rfl, ?_⟩) hHeld ?_; rotate_left 1; focus (intro w hS; obtain ⟨⟨sa, sb⟩, sc⟩ := hS; go_simp; try with_reducible rfl)); try simp only [Act.put, List.getElem_toArray, List.getElem_cons_zero, List.getElem_cons_succ, List.setIfInBounds_toArray, List.set_cons_zero, List.set_cons_succ])
          ((refine wpAnyH_take (i := 21) (v := ?_) rfl (by kernel_rfl) (by kernel_rfl) (by kernel_rfl) (fun _ _ _ h => h) (Yields.yieldsIf (Or.inl ⟨by rfl, ?_⟩)) hHeld ?_; rotate_left 1; focus (intro w; go_simp; try with_reducible rfl)); try simp only [Act.put, List.getElem_toArray, List.getElem_cons_zero, List.getElem_cons_succ, List.setIfInBounds_toArray, List.set_cons_zero, List.set_cons_succ])
          ((refine wpAnyH_take (i := 22) (v := ?_) rfl (by kernel_rfl) (by kernel_rfl) (by kernel_rfl) (fun _ _ _ h => h) (Or.inl ⟨by rfl, ?_⟩) hHeld ?_; rotate_left 1; focus (intro w hS; obtain ⟨⟨sa, sb⟩, sc⟩ := hS; go_simp; try with_reducible rfl)); try simp only [Act.put, List.getElem_toArray, List.getElem_cons_zero, List.getElem_cons_succ, List.setIfInBounds_toArray, List.set_cons_zero, List.set_cons_succ])
          ((refine wpAnyH_take (i := 23) (v := ?_) rfl (by kernel_rfl) (by kernel_rfl) (by kernel_rfl) (fun _ _ _ h => h) (Yields.yieldsIf (Or.inl ⟨by rfl, ?_⟩)) hHeld ?_; rotate_left 1; focus (intro w; go_simp; try with_reducible rfl)); try simp only [Act.put, List.getElem_toArray, List.getElem_cons_zero, List.getElem_cons_succ, List.setIfInBounds_toArray, List.set_cons_zero, List.set_cons_succ])
          ((refine wpAnyH_take (i := 24) (v := ?_) rfl (by kernel_rfl) (by kernel_rfl) (by kernel_rfl) (fun _ _ _ h => h) (Yields.yieldsIf (Or.inl ⟨by rfl, ?_⟩)) hHeld ?_; rotate_left 1; focus (intro w; go_simp; try with_reducible rfl)); try simp only [Act.put, List.getElem_toArray, List.getElem_cons_zero, List.getElem_cons_succ, List.setIfInBounds_toArray, List.set_cons_zero, List.set_cons_succ])
          refine wpAnyH_done (by kernel_rfl) ?_ _
          clear hHeld
          go_wp2
          go_roundw
          case rel => exact ⟨k + 1, by go_num, hlt, Lib.hid (fun i z hi hz => by
            by_cases e : i = k
            · subst e
              rw [HY.out] at hz
              injection hz with hz
              subst hz
              exact HEX.out
            · exact HA.out i z (by omega) hz), Lib.hid HP.out.drew⟩
          case measure => simp [intOf]; omega
        · have f2 : decide ((y.dl : Int) ≤ (tt : Int)) = false := decide_eq_false (by omega)
          have f2n : decide (y.dl ≤ tt) = false := decide_eq_false hd
          have hex : expP tt y = false := by unfold expP; simp [hd]
          have HEX := Lib.hid hex
          clear hv hex hd
          go_upto_region 3 with fail
          refine wp_region_held_drew (S := fun u => (u.cell? ⟨b0, 0, none⟩ = some (.int .u64 tt) ∧ u.cell? ⟨b0, 1, none⟩ = some (.slice (some ad) n c)) ∧ u.cell? ⟨(ad.add (k * 3)).block, (ad.add (k * 3)).off + 1, none⟩ = some (.int .u64 y.dl)) (by kernel_rfl) HHS.out (fun hHeld => ?_)
          ((refine wpAnyH_take (i := 0) (v := ?_) rfl (by kernel_rfl) (by kernel_rfl) (by kernel_rfl) (fun _ _ _ h => h) (Yields.yieldsIf (Or.inl ⟨by rfl, ?_⟩)) hHeld ?_; rotate_left 1; focus (intro w; go_simp; try with_reducible rfl)); try simp only [Act.put, List.getElem_toArray, List.getElem_cons_zero, List.getElem_cons_succ, List.setIfInBounds_toArray, List.set_cons_zero, List.set_cons_succ])
          ((refine wpAnyH_take (i := 1) (v := ?_) rfl (by kernel_rfl) (by kernel_rfl) (by kernel_rfl) (fun _ _ _ h => h) (Yields.yieldsIf (Or.inl ⟨by rfl, ?_⟩)) hHeld ?_; rotate_left 1; focus (intro w; go_simp; try with_reducible rfl)); try simp only [Act.put, List.getElem_toArray, List.getElem_cons_zero, List.getElem_cons_succ, List.setIfInBounds_toArray, List.set_cons_zero, List.set_cons_succ])
          ((refine wpAnyH_take (i := 2) (v := ?_) rfl (by kernel_rfl) (by kernel_rfl) (by kernel_rfl) (fun _ _ _ h => h) (Or.inl ⟨by rfl, ?_⟩) hHeld ?_; rotate_left 1; focus (intro w hS; obtain ⟨⟨sa, sb⟩, sc⟩ := hS; go_simp; try with_reducible rfl)); try simp only [Act.put, List.getElem_toArray, List.getElem_cons_zero, List.getElem_cons_succ, List.setIfInBounds_toArray, List.set_cons_zero, List.set_cons_succ])
          ((refine wpAnyH_take (i := 3) (v := ?_) rfl (by kernel_rfl) (by kernel_rfl) (by kernel_rfl) (fun _ _ _ h => h) (Yields.yieldsIf (Or.inl ⟨by rfl, ?_⟩)) hHeld ?_; rotate_left 1; focus (intro w; go_simp; try with_reducible rfl)); try simp only [Act.put, List.getElem_toArray, List.getElem_cons_zero, List.getElem_cons_succ, List.setIfInBounds_toArray, List.set_cons_zero, List.set_cons_succ])
          ((refine wpAnyH_take (i := 4) (v := ?_) rfl (by kernel_rfl) (by kernel_rfl) (by kernel_rfl) (fun _ _ _ h => h) (Yields.yieldsIf (Or.inl ⟨by rfl, ?_⟩)) hHeld ?_; rotate_left 1; focus (intro w; go_simp; try with_reducible rfl)); try simp only [Act.put, List.getElem_toArray, List.getElem_cons_zero, List.getElem_cons_succ, List.setIfInBounds_toArray, List.set_cons_zero, List.set_cons_succ])
          ((refine wpAnyH_take (i := 5) (v := ?_) rfl (by kernel_rfl) (by kernel_rfl) (by kernel_rfl) (fun _ _ _ h => h) (Yields.yieldsIf (Or.inl ⟨by rfl, ?_⟩)) hHeld ?_; rotate_left 1; focus (intro w; go_simp; try with_reducible rfl)); try simp only [Act.put, List.getElem_toArray, List.getElem_cons_zero, List.getElem_cons_succ, List.setIfInBounds_toArray, List.set_cons_zero, List.set_cons_succ])
          ((refine wpAnyH_take (i := 6) (v := ?_) rfl (by kernel_rfl) (by kernel_rfl) (by kernel_rfl) (fun _ _ _ h => h) (Yields.yieldsIf (Or.inl ⟨by rfl, ?_⟩)) hHeld ?_; rotate_left 1; focus (intro w; go_simp; try with_reducible rfl)); try simp only [Act.put, List.getElem_toArray, List.getElem_cons_zero, List.getElem_cons_succ, List.setIfInBounds_toArray, List.set_cons_zero, List.set_cons_succ])
          ((refine wpAnyH_take (i := 7) (v := ?_) rfl (by kernel_rfl) (by kernel_rfl) (by kernel_rfl) (fun _ _ _ h => h) (Or.inl ⟨by rfl, ?_⟩) hHeld ?_; rotate_left 1; focus (intro w hS; obtain ⟨⟨sa, sb⟩, sc⟩ := hS; go_simp; try with_reducible rfl)); try simp only [Act.put, List.getElem_toArray, List.getElem_cons_zero, List.getElem_cons_succ, List.setIfInBounds_toArray, List.set_cons_zero, List.set_cons_succ])
          ((refine wpAnyH_take (i := 8) (v := ?_) rfl (by kernel_rfl) (by kernel_rfl) (by kernel_rfl) (fun _ _ _ h => h) (Yields.yieldsIf (Or.inl ⟨by rfl, ?_⟩)) hHeld ?_; rotate_left 1; focus (intro w; go_simp; try with_reducible rfl)); try simp only [Act.put, List.getElem_toArray, List.getElem_cons_zero, List.getElem_cons_succ, List.setIfInBounds_toArray, List.set_cons_zero, List.set_cons_succ])
          ((refine wpAnyH_take (i := 9) (v := ?_) rfl (by kernel_rfl) (by kernel_rfl) (by kernel_rfl) (fun _ _ _ h => h) (Yields.yieldsIf (Or.inl ⟨by rfl, ?_⟩)) hHeld ?_; rotate_left 1; focus (intro w; go_simp; try with_reducible rfl)); try simp only [Act.put, List.getElem_toArray, List.getElem_cons_zero, List.getElem_cons_succ, List.setIfInBounds_toArray, List.set_cons_zero, List.set_cons_succ])
          ((refine wpAnyH_take (i := 10) (v := ?_) rfl (by kernel_rfl) (by kernel_rfl) (by kernel_rfl) (fun _ _ _ h => h) (Yields.yieldsIf (Or.inl ⟨by rfl, ?_⟩)) hHeld ?_; rotate_left 1; focus (intro w; go_simp; try with_reducible rfl)); try simp only [Act.put, List.getElem_toArray, List.getElem_cons_zero, List.getElem_cons_succ, List.setIfInBounds_toArray, List.set_cons_zero, List.set_cons_succ])
          ((refine wpAnyH_take (i := 11) (v := ?_) rfl (by kernel_rfl) (by kernel_rfl) (by kernel_rfl) (fun _ _ _ h => h) (Or.inl ⟨by rfl, ?_⟩) hHeld ?_; rotate_left 1; focus (intro w hS; obtain ⟨⟨sa, sb⟩, sc⟩ := hS; go_simp; try with_reducible rfl)); try simp only [Act.put, List.getElem_toArray, List.getElem_cons_zero, List.getElem_cons_succ, List.setIfInBounds_toArray, List.set_cons_zero, List.set_cons_succ])
          ((refine wpAnyH_take (i := 12) (v := ?_) rfl (by kernel_rfl) (by kernel_rfl) (by kernel_rfl) (fun _ _ _ h => h) (Yields.yieldsIf (Or.inl ⟨by rfl, ?_⟩)) hHeld ?_; rotate_left 1; focus (intro w; go_simp; try with_reducible rfl)); try simp only [Act.put, List.getElem_toArray, List.getElem_cons_zero, List.getElem_cons_succ, List.setIfInBounds_toArray, List.set_cons_zero, List.set_cons_succ])
          ((refine wpAnyH_take (i := 13) (v := ?_) rfl (by kernel_rfl) (by kernel_rfl) (by kernel_rfl) (fun _ _ _ h => h) (Yields.yieldsIf (Or.inl ⟨by rfl, ?_⟩)) hHeld ?_; rotate_left 1; focus (intro w; go_simp; try with_reducible rfl)); try simp only [Act.put, List.getElem_toArray, List.getElem_cons_zero, List.getElem_cons_succ, List.setIfInBounds_toArray, List.set_cons_zero, List.set_cons_succ])
          ((refine wpAnyH_take (i := 14) (v := ?_) rfl (by kernel_rfl) (by kernel_rfl) (by kernel_rfl) (fun _ _ _ h => h) (Yields.yieldsIf (Or.inl ⟨by rfl, ?_⟩)) hHeld ?_; rotate_left 1; focus (intro w; go_simp; try with_reducible rfl)); try simp only [Act.put, List.getElem_toArray, List.getElem_cons_zero, List.getElem_cons_succ, List.setIfInBounds_toArray, List.set_cons_zero, List.set_cons_succ])
          ((refine wpAnyH_take (i := 15) (v := ?_) rfl (by kernel_rfl) (by kernel_rfl) (by kernel_rfl) (fun _ _ _ h => h) (Yields.yieldsIf (Or.inl ⟨by rfl, ?_⟩)) hHeld ?_; rotate_left 1; focus (intro w; go_simp; try with_reducible rfl)); try simp only [Act.put, List.getElem_toArray, List.getElem_cons_zero, List.getElem_cons_succ, List.setIfInBounds_toArray, List.set_cons_zero, List.set_cons_succ])
          ((refine wpAnyH_take (i := 16) (v := ?_) rfl (by kernel_rfl) (by kernel_rfl) (by kernel_rfl) (fun _ _ _ h => h) (Or.inl ⟨by rfl, ?_⟩) hHeld ?_; rotate_left 1; focus (intro w hS; obtain ⟨⟨sa, sb⟩, sc⟩ := hS; go_simp; try with_reducible rfl)); try simp only [Act.put, List.getElem_toArray, List.getElem_cons_zero, List.getElem_cons_succ, List.setIfInBounds_toArray, List.set_cons_zero, List.set_cons_succ])
          ((refine wpAnyH_take (i := 17) (v := ?_) rfl (by kernel_rfl) (by kernel_rfl) (by kernel_rfl) (fun _ _ _ h => h) (Yields.yieldsIf (Or.inl ⟨by rfl, ?_⟩)) hHeld ?_; rotate_left 1; focus (intro w; go_simp; try with_reducible rfl)); try simp only [Act.put, List.getElem_toArray, List.getElem_cons_zero, List.getElem_cons_succ, List.setIfInBounds_toArray, List.set_cons_zero, List.set_cons_succ])
          ((refine wpAnyH_take (i := 18) (v := ?_) rfl (by kernel_rfl) (by kernel_rfl) (by kernel_rfl) (fun _ _ _ h => h) (Yields.yieldsIf (Or.inl ⟨by rfl, ?_⟩)) hHeld ?_; rotate_left 1; focus (intro w; go_simp; try with_reducible rfl)); try simp only [Act.put, List.getElem_toArray, List.getElem_cons_zero, List.getElem_cons_succ, List.setIfInBounds_toArray, List.set_cons_zero, List.set_cons_succ])
          ((refine wpAnyH_take (i := 19) (v := ?_) rfl (by kernel_rfl) (by kernel_rfl) (by kernel_rfl) (fun _ _ _ h => h) (Yields.yieldsIf (Or.inl ⟨by rfl, ?_⟩)) hHeld ?_; rotate_left 1; focus (intro w; go_simp; try with_reducible rfl)); try simp only [Act.put, List.getElem_toArray, List.getElem_cons_zero, List.getElem_cons_succ, List.setIfInBounds_toArray, List.set_cons_zero, List.set_cons_succ])
          ((refine wpAnyH_take (i := 20) (v := ?_) rfl (by kernel_rfl) (by kernel_rfl) (by kernel_rfl) (fun _ _ _ h => h) (Or.inl ⟨by rfl, ?_⟩) hHeld ?_; rotate_left 1; focus (intro w hS; obtain ⟨⟨sa, sb⟩, sc⟩ := hS; go_simp; try with_reducible rfl)); try simp only [Act.put, List.getElem_toArray, List.getElem_cons_zero, List.getElem_cons_succ, List.setIfInBounds_toArray, List.set_cons_zero, List.set_cons_succ])
          ((refine wpAnyH_take (i := 21) (v := ?_) rfl (by kernel_rfl) (by kernel_rfl) (by kernel_rfl) (fun _ _ _ h => h) (Yields.yieldsIf (Or.inl ⟨by rfl, ?_⟩)) hHeld ?_; rotate_left 1; focus (intro w; go_simp; try with_reducible rfl)); try simp only [Act.put, List.getElem_toArray, List.getElem_cons_zero, List.getElem_cons_succ, List.setIfInBounds_toArray, List.set_cons_zero, List.set_cons_succ])
          ((refine wpAnyH_take (i := 22) (v := ?_) rfl (by kernel_rfl) (by kernel_rfl) (by kernel_rfl) (fun _ _ _ h => h) (Or.inl ⟨by rfl, ?_⟩) hHeld ?_; rotate_left 1; focus (intro w hS; obtain ⟨⟨sa, sb⟩, sc⟩ := hS; go_simp; try with_reducible rfl)); try simp only [Act.put, List.getElem_toArray, List.getElem_cons_zero, List.getElem_cons_succ, List.setIfInBounds_toArray, List.set_cons_zero, List.set_cons_succ])
          ((refine wpAnyH_take (i := 23) (v := ?_) rfl (by kernel_rfl) (by kernel_rfl) (by kernel_rfl) (fun _ _ _ h => h) (Yields.yieldsIf (Or.inl ⟨by rfl, ?_⟩)) hHeld ?_; rotate_left 1; focus (intro w; go_simp; try with_reducible rfl)); try simp only [Act.put, List.getElem_toArray, List.getElem_cons_zero, List.getElem_cons_succ, List.setIfInBounds_toArray, List.set_cons_zero, List.set_cons_succ])
          ((refine wpAnyH_take (i := 24) (v := ?_) rfl (by kernel_rfl) (by kernel_rfl) (by kernel_rfl) (fun _ _ _ h => h) (Yields.yieldsIf (Or.inl ⟨by rfl, ?_⟩)) hHeld ?_; rotate_left 1; focus (intro w; go_simp; try with_reducible rfl)); try simp only [Act.put, List.getElem_toArray, List.getElem_cons_zero, List.getElem_cons_succ, List.setIfInBounds_toArray, List.set_cons_zero, List.set_cons_succ])
          refine wpAnyH_done (by kernel_rfl) ?_ _
          clear hHeld
          have htw := tw_gen (p := expP tt) (k := k) HA.out (fun y' hy' => by rw [HY.out] at hy'; injection hy' with hy'; subst hy'; exact HEX.out) (by rw [HN.out]; omega)
          have HTw := Lib.hid htw
          clear htw
          have hRr := HR2.out.pure HP.out
          obtain ⟨sv, hfr, hsuf⟩ := rd_partU hRr hk
          have hpre := rd_pre hRr.rd hk
          have hto := fun W => run_toU (a := (some ad)) (n := n) (Nat.le_trans hk hcap) W
          have hpl : (dueE tt L).length = k := by unfold dueE; rw [← HTw.out.1, List.length_take, HN.out]; omega
          have hsl : (restE tt L).length = n - k := by unfold restE; rw [← HTw.out.2, List.length_drop, HN.out]
          rw [HTw.out.1] at hpre
          rw [HTw.out.2] at hsuf
          have HSuf := Lib.hid (hsuf.frame (Mod.refl (fun _ => False) wr).drew (fun _ _ h => h)); have HPre := Lib.hid (hpre.frame (Mod.refl (fun _ => False) wr).drew (fun _ _ h => h)); have HPL := Lib.hid hpl; have HSL := Lib.hid hsl
          have hP2 : Pure W2 wr.drew := HP.out.drew
          have HPd := Lib.hid hP2
          clear hsuf hpre hpl hsl hRr hP2
          have V1 : True := trivial
          go_upto_region 7 with (first
            | (at_builtin; clear V1; refine wpList_append_read _ rfl _ _ 29 rfl 45 j0 _ 3 24 Tryz.underlying29 hj jz0 jz1 jz2 rfl (by decide) (.slice none 0 0) 0 [] rfl (World.ownsRow_nil _ _ _ _) (.slice (some ad) k c) _ k rfl HPre.out (by rw [flat_length tdC 3 (fun _ => rfl)]; exact congrArg (· * 3) HPL.out) (by unfold maxLen; omega) (by omega) ?_; intro a8 c8 w7 hr8 hg8 hb8
               rw [Nat.zero_add] at hr8 hb8 ⊢
               rw [List.nil_append] at hr8
               have p7 : Pure wr.drew w7 := Mod.of_grown hg8 (fun k e _ => by cases e)
               have HR8 := Lib.hid hr8; have HB8 := Lib.hid hb8; have HP7 := Lib.hid p7
               have x1 := p7.cell (a := ⟨b0, 1, none⟩) (fun h => h) h0r_1
               clear hr8 hg8 hb8 p7)
            | (at_builtin; refine wpList_append_read _ rfl _ _ 29 rfl 45 j0 _ 3 24 Tryz.underlying29 hj jz0 jz1 jz2 rfl (by decide) (.slice none 0 0) 0 [] rfl (World.ownsRow_nil _ _ _ _) (.slice sv (n - k) (c - k)) _ (n - k) rfl (HSuf.out.frame HP7.out (fun _ _ h => h)) (by rw [flat_length tdC 3 (fun _ => rfl)]; exact congrArg (· * 3) HSL.out) (by unfold maxLen; omega) (by omega) ?_; intro a9 c9 w8 hr9 hg9 hb9
               rw [Nat.zero_add] at hr9 hb9 ⊢
               rw [List.nil_append] at hr9
               have p8 : Pure wr.drew w8 := HP7.out.trans (Mod.of_grown hg9 (fun k e _ => by cases e))
               have hC0 := (HPd.out.trans p8).heap (fun h => h) H02.out
               have HR9 := Lib.hid hr9; have HB9 := Lib.hid hb9; have HP8 := Lib.hid p8; have HG9 := Lib.hid hg9
               clear hr9 hg9 hb9 p8 x1
               have hC0_0 := cell_of_row _ _ 0 _ _ _ hC0; have hC0_1 := cell_of_row _ _ 1 _ _ _ hC0; have hC0_f := (fun j => frozen_of_row _ _ j _ _ hC0); have hC0_l := lt_of_block hC0; simp at hC0_0 hC0_1; have H_hC0 := Lib.hid hC0; clear hC0))
          have hC1 := (HPd.out.trans HP8.out).heap (fun h => h) H12.out
          have hsw : W2.heap.size ≤ wr.drew.heap.size := HPd.out.size
          have hs7 : wr.drew.heap.size ≤ w7.heap.size := HP7.out.size
          have h8f : ∀ g, (Value.slice a8 k c8).ownBlock = some g → W2.heap.size ≤ g := fun g hg => by
            rcases HB8.out with e | e
            · rw [e] at hg; cases hg
            · rw [e] at hg; injection hg with hg; omega
          have h9f : ∀ g, (Value.slice a9 (n - k) c9).ownBlock = some g → W2.heap.size ≤ g := fun g hg => by
            rcases HB9.out with e | e
            · rw [e] at hg; cases hg
            · rw [e] at hg; injection hg with hg; omega
          have hb0 := lt_of_block H02.out; have hb1 := lt_of_block H12.out; have hww := HPW.out.size
          have hzb0 := HB.out.z0; have hzb1 := HB.out.z1
          have m2 : Mod (fun q => q = b0 ∨ q = b1) w8 (((w8.setCell ⟨b0, 1, none⟩ (.slice a9 (n - k) c9)).setCell ⟨b1, 0, none⟩ (.int .u64 tt)).setCell ⟨b1, 1, none⟩ (.slice a9 (n - k) c9)) := ((Mod.set1 b0 1 _).mono (fun _ _ h => .inl h)).trans ((mod_w2 _ _).mono (fun _ _ h => .inr h))
          have r9 := owns_mod HR9.out m2 (fun g hg e => by have := h9f g hg; rcases e with e | e <;> omega)
          have r8 := owns_mod (owns_mod HR8.out (Mod.of_grown (S := fun _ => False) HG9.out (fun k e _ => by cases e)) (fun _ _ h => h)) m2 (fun g hg e => by have := h8f g hg; rcases e with e | e <;> omega)
          have pf : Pure w _ := (HPW.out.trans (HPd.out.trans HP8.out)).then m2 (fun g hg e => by rcases e with e | e <;> omega)
          have R9 := Lib.hid r9; have R8 := Lib.hid r8; have PF := Lib.hid pf; have H8F := Lib.hid h8f; have H9F := Lib.hid h9f; have HWW := Lib.hid hww
          have n01 := HB.out.ne01; have n10 := HB.out.ne01.symm
          clear r9 r8 pf h8f h9f hsw hs7 hb0 hb1 hww hzb0 hzb1 m2
          have hC1_0 := cell_of_row _ _ 0 _ _ _ hC1; have hC1_1 := cell_of_row _ _ 1 _ _ _ hC1; have hC1_f := (fun j => frozen_of_row _ _ j _ _ hC1); have hC1_l := lt_of_block hC1; simp at hC1_0 hC1_1; have H_hC1 := Lib.hid hC1; clear hC1
          go_wp2
          refine bodyPost_ret (v := .tuple #[.agg #[.int .u64 tt, .slice a9 (n - k) c9], .slice a8 k c8]) (by simp [results, Tryz.results26, go_sem, hC0_0, hC0_1, hC0_l, hC1_0, hC1_1, hC1_l, n01, n10]) rfl ⟨a9, c9, a8, c8, by rw [HPL.out, HSL.out], ?_, ?_, ?_, ?_, PF.out⟩
          · show World.ownsRow _ 0 _ 3 (.slice a9 (restE tt L).length c9) (restE tt L).length ((restE tt L).flatMap tdC)
            rw [HSL.out]
            exact R9.out
          · show World.ownsRow _ 0 _ 3 (.slice a8 (dueE tt L).length c8) (dueE tt L).length ((dueE tt L).flatMap tdC)
            rw [HPL.out]
            exact R8.out
          · rw [HSL.out]; exact fun g hg => Nat.le_trans HWW.out (H9F.out g hg)
          · rw [HPL.out]; exact fun g hg => Nat.le_trans HWW.out (H8F.out g hg)
    · have hge : ¬ (k : Int) < (n : Int) := by omega
      have dkn : decide (k < n) = false := decide_eq_false hlt
      have HHS := Lib.hid (show (wr.cell? ⟨b0, 0, none⟩ = some (.int .u64 tt) ∧ wr.cell? ⟨b0, 1, none⟩ = some (.slice a n c)) from ⟨h0r_0, h0r_1⟩)
      go_upto_region 3 with fail
      refine wp_region_held_drew (S := fun u => (u.cell? ⟨b0, 0, none⟩ = some (.int .u64 tt) ∧ u.cell? ⟨b0, 1, none⟩ = some (.slice a n c))) (by kernel_rfl) HHS.out (fun hHeld => ?_)
      ((refine wpAnyH_take (i := 0) (v := ?_) rfl (by kernel_rfl) (by kernel_rfl) (by kernel_rfl) (fun _ _ _ h => h) (Yields.yieldsIf (Or.inl ⟨by rfl, ?_⟩)) hHeld ?_; rotate_left 1; focus (intro w; go_simp; try with_reducible rfl)); try simp only [Act.put, List.getElem_toArray, List.getElem_cons_zero, List.getElem_cons_succ, List.setIfInBounds_toArray, List.set_cons_zero, List.set_cons_succ])
      ((refine wpAnyH_take (i := 1) (v := ?_) rfl (by kernel_rfl) (by kernel_rfl) (by kernel_rfl) (fun _ _ _ h => h) (Yields.yieldsIf (Or.inl ⟨by rfl, ?_⟩)) hHeld ?_; rotate_left 1; focus (intro w; go_simp; try with_reducible rfl)); try simp only [Act.put, List.getElem_toArray, List.getElem_cons_zero, List.getElem_cons_succ, List.setIfInBounds_toArray, List.set_cons_zero, List.set_cons_succ])
      ((refine wpAnyH_take (i := 2) (v := ?_) rfl (by kernel_rfl) (by kernel_rfl) (by kernel_rfl) (fun _ _ _ h => h) (Or.inl ⟨by rfl, ?_⟩) hHeld ?_; rotate_left 1; focus (intro w hS; obtain ⟨sa, sb⟩ := hS; go_simp; try with_reducible rfl)); try simp only [Act.put, List.getElem_toArray, List.getElem_cons_zero, List.getElem_cons_succ, List.setIfInBounds_toArray, List.set_cons_zero, List.set_cons_succ])
      ((refine wpAnyH_take (i := 3) (v := ?_) rfl (by kernel_rfl) (by kernel_rfl) (by kernel_rfl) (fun _ _ _ h => h) (Yields.yieldsIf (Or.inl ⟨by rfl, ?_⟩)) hHeld ?_; rotate_left 1; focus (intro w; go_simp; try with_reducible rfl)); try simp only [Act.put, List.getElem_toArray, List.getElem_cons_zero, List.getElem_cons_succ, List.setIfInBounds_toArray, List.set_cons_zero, List.set_cons_succ])
      ((refine wpAnyH_take (i := 4) (v := ?_) rfl (by kernel_rfl) (by kernel_rfl) (by kernel_rfl) (fun _ _ _ h => h) (Yields.yieldsIf (Or.inl ⟨by rfl, ?_⟩)) hHeld ?_; rotate_left 1; focus (intro w; go_simp; try with_reducible rfl)); try simp only [Act.put, List.getElem_toArray, List.getElem_cons_zero, List.getElem_cons_succ, List.setIfInBounds_toArray, List.set_cons_zero, List.set_cons_succ])
      ((refine wpAnyH_take (i := 5) (v := ?_) rfl (by kernel_rfl) (by kernel_rfl) (by kernel_rfl) (fun _ _ _ h => h) (Yields.yieldsIf (Or.inl ⟨by rfl, ?_⟩)) hHeld ?_; rotate_left 1; focus (intro w; go_simp; try with_reducible rfl)); try simp only [Act.put, List.getElem_toArray, List.getElem_cons_zero, List.getElem_cons_succ, List.setIfInBounds_toArray, List.set_cons_zero, List.set_cons_succ])
      (refine wpAnyH_take (i := 6) (v := undef) rfl (by kernel_rfl) (by kernel_rfl) (by kernel_rfl) (fun _ _ _ h => h) (Or.inr ⟨by rfl, rfl⟩) hHeld ?_; try simp only [Act.put, List.getElem_toArray, List.getElem_cons_zero, List.getElem_cons_succ, List.setIfInBounds_toArray, List.set_cons_zero, List.set_cons_succ])
      (refine wpAnyH_take (i := 7) (v := undef) rfl (by kernel_rfl) (by kernel_rfl) (by kernel_rfl) (fun _ _ _ h => h) (Or.inr ⟨by rfl, rfl⟩) hHeld ?_; try simp only [Act.put, List.getElem_toArray, List.getElem_cons_zero, List.getElem_cons_succ, List.setIfInBounds_toArray, List.set_cons_zero, List.set_cons_succ])
      (refine wpAnyH_take (i := 8) (v := undef) rfl (by kernel_rfl) (by kernel_rfl) (by kernel_rfl) (fun _ _ _ h => h) (Or.inr ⟨by rfl, rfl⟩) hHeld ?_; try simp only [Act.put, List.getElem_toArray, List.getElem_cons_zero, List.getElem_cons_succ, List.setIfInBounds_toArray, List.set_cons_zero, List.set_cons_succ])
      (refine wpAnyH_take (i := 9) (v := undef) rfl (by kernel_rfl) (by kernel_rfl) (by kernel_rfl) (fun _ _ _ h => h) (Or.inr ⟨by rfl, rfl⟩) hHeld ?_; try simp only [Act.put, List.getElem_toArray, List.getElem_cons_zero, List.getElem_cons_succ, List.setIfInBounds_toArray, List.set_cons_zero, List.set_cons_succ])
      (refine wpAnyH_take (i := 10) (v := undef) rfl (by kernel_rfl) (by kernel_rfl) (by kernel_rfl) (fun _ _ _ h => h) (Or.inr ⟨by rfl, rfl⟩) hHeld ?_; try simp only [Act.put, List.getElem_toArray, List.getElem_cons_zero, List.getElem_cons_succ, List.setIfInBounds_toArray, List.set_cons_zero, List.set_cons_succ])
      (refine wpAnyH_take (i := 11) (v := undef) rfl (by kernel_rfl) (by kernel_rfl) (by kernel_rfl) (fun _ _ _ h => h) (Or.inr ⟨by rfl, rfl⟩) hHeld ?_; try simp only [Act.put, List.getElem_toArray, List.getElem_cons_zero, List.getElem_cons_succ, List.setIfInBounds_toArray, List.set_cons_zero, List.set_cons_succ])
      (refine wpAnyH_take (i := 12) (v := undef) rfl (by kernel_rfl) (by kernel_rfl) (by kernel_rfl) (fun _ _ _ h => h) (Or.inr ⟨by rfl, rfl⟩) hHeld ?_; try simp only [Act.put, List.getElem_toArray, List.getElem_cons_zero, List.getElem_cons_succ, List.setIfInBounds_toArray, List.set_cons_zero, List.set_cons_succ])
      ((refine wpAnyH_take (i := 13) (v := ?_) rfl (by kernel_rfl) (by kernel_rfl) (by kernel_rfl) (fun _ _ _ h => h) (Yields.yieldsIf (Or.inl ⟨by rfl, ?_⟩)) hHeld ?_; rotate_left 1; focus (intro w; go_simp; try with_reducible rfl)); try simp only [Act.put, List.getElem_toArray, List.getElem_cons_zero, List.getElem_cons_succ, List.setIfInBounds_toArray, List.set_cons_zero, List.set_cons_succ])
      ((refine wpAnyH_take (i := 14) (v := ?_) rfl (by kernel_rfl) (by kernel_rfl) (by kernel_rfl) (fun _ _ _ h => h) (Yields.yieldsIf (Or.inl ⟨by rfl, ?_⟩)) hHeld ?_; rotate_left 1; focus (intro w; go_simp; try with_reducible rfl)); try simp only [Act.put, List.getElem_toArray, List.getElem_cons_zero, List.getElem_cons_succ, List.setIfInBounds_toArray, List.set_cons_zero, List.set_cons_succ])
      (refine wpAnyH_take (i := 15) (v := undef) rfl (by kernel_rfl) (by kernel_rfl) (by kernel_rfl) (fun _ _ _ h => h) (Or.inr ⟨by rfl, rfl⟩) hHeld ?_; try simp only [Act.put, List.getElem_toArray, List.getElem_cons_zero, List.getElem_cons_succ, List.setIfInBounds_toArray, List.set_cons_zero, List.set_cons_succ])
      (refine wpAnyH_take (i := 16) (v := undef) rfl (by kernel_rfl) (by kernel_rfl) (by kernel_rfl) (fun _ _ _ h => h) (Or.inr ⟨by rfl, rfl⟩) hHeld ?_; try simp only [Act.put, List.getElem_toArray, List.getElem_cons_zero, List.getElem_cons_succ, List.setIfInBounds_toArray, List.set_cons_zero, List.set_cons_succ])
      (refine wpAnyH_take (i := 17) (v := undef) rfl (by kernel_rfl) (by kernel_rfl) (by kernel_rfl) (fun _ _ _ h => h) (Or.inr ⟨by rfl, rfl⟩) hHeld ?_; try simp only [Act.put, List.getElem_toArray, List.getElem_cons_zero, List.getElem_cons_succ, List.setIfInBounds_toArray, List.set_cons_zero, List.set_cons_succ])
      (refine wpAnyH_take (i := 18) (v := undef) rfl (by kernel_rfl) (by kernel_rfl) (by kernel_rfl) (fun _ _ _ h => h) (Or.inr ⟨by rfl, rfl⟩) hHeld ?_; try simp only [Act.put, List.getElem_toArray, List.getElem_cons_zero, List.getElem_cons_succ, List.setIfInBounds_toArray, List.set_cons_zero, List.set_cons_succ])
      (refine wpAnyH_take (i := 19) (v := undef) rfl (by kernel_rfl) (by kernel_rfl) (by kernel_rfl) (fun _ _ _ h => h) (Or.inr ⟨by rfl, rfl⟩) hHeld ?_; try simp only [Act.put, List.getElem_toArray, List.getElem_cons_zero, List.getElem_cons_succ, List.setIfInBounds_toArray, List.set_cons_zero, List.set_cons_succ])
      (refine wpAnyH_take (i := 20) (v := undef) rfl (by kernel_rfl) (by kernel_rfl) (by kernel_rfl) (fun _ _ _ h => h) (Or.inr ⟨by rfl, rfl⟩) hHeld ?_; try simp only [Act.put, List.getElem_toArray, List.getElem_cons_zero, List.getElem_cons_succ, List.setIfInBounds_toArray, List.set_cons_zero, List.set_cons_succ])
      (refine wpAnyH_take (i := 21) (v := undef) rfl (by kernel_rfl) (by kernel_rfl) (by kernel_rfl) (fun _ _ _ h => h) (Or.inr ⟨by rfl, rfl⟩) hHeld ?_; try simp only [Act.put, List.getElem_toArray, List.getElem_cons_zero, List.getElem_cons_succ, List.setIfInBounds_toArray, List.set_cons_zero, List.set_cons_succ])
      (refine wpAnyH_take (i := 22) (v := undef) rfl (by kernel_rfl) (by kernel_rfl) (by kernel_rfl) (fun _ _ _ h => h) (Or.inr ⟨by rfl, rfl⟩) hHeld ?_; try simp only [Act.put, List.getElem_toArray, List.getElem_cons_zero, List.getElem_cons_succ, List.setIfInBounds_toArray, List.set_cons_zero, List.set_cons_succ])
      (refine wpAnyH_take (i := 23) (v := undef) rfl (by kernel_rfl) (by kernel_rfl) (by kernel_rfl) (fun _ _ _ h => h) (Or.inr ⟨by rfl, rfl⟩) hHeld ?_; try simp only [Act.put, List.getElem_toArray, List.getElem_cons_zero, List.getElem_cons_succ, List.setIfInBounds_toArray, List.set_cons_zero, List.set_cons_succ])
      ((refine wpAnyH_take (i := 24) (v := ?_) rfl (by kernel_rfl) (by kernel_rfl) (by kernel_rfl) (fun _ _ _ h => h) (Yields.yieldsIf (Or.inl ⟨by rfl, ?_⟩)) hHeld ?_; rotate_left 1; focus (intro w; go_simp; try with_reducible rfl)); try simp only [Act.put, List.getElem_toArray, List.getElem_cons_zero, List.getElem_cons_succ, List.setIfInBounds_toArray, List.set_cons_zero, List.set_cons_succ])
      refine wpAnyH_done (by kernel_rfl) ?_ _
      clear hHeld
      have e : k = n := by omega
      have htw := tw_gen (p := expP tt) (k := k) HA.out (fun y' hy' => by have := (List.getElem?_eq_some_iff.1 hy').1; rw [HN.out] at this; omega) (by rw [HN.out]; omega)
      clear e
      have HTw := Lib.hid htw
      clear htw
      have hRr := HR2.out.pure HP.out
      obtain ⟨sv, hfr, hsuf⟩ := rd_partU hRr hk
      have hpre := rd_pre hRr.rd hk
      have hto := fun W => run_toU (a := a) (n := n) (Nat.le_trans hk hcap) W
      have hpl : (dueE tt L).length = k := by unfold dueE; rw [← HTw.out.1, List.length_take, HN.out]; omega
      have hsl : (restE tt L).length = n - k := by unfold restE; rw [← HTw.out.2, List.length_drop, HN.out]
      rw [HTw.out.1] at hpre
      rw [HTw.out.2] at hsuf
      have HSuf := Lib.hid (hsuf.frame (Mod.refl (fun _ => False) wr).drew (fun _ _ h => h)); have HPre := Lib.hid (hpre.frame (Mod.refl (fun _ => False) wr).drew (fun _ _ h => h)); have HPL := Lib.hid hpl; have HSL := Lib.hid hsl
      have hP2 : Pure W2 wr.drew := HP.out.drew
      have HPd := Lib.hid hP2
      clear hsuf hpre hpl hsl hRr hP2
      have V1 : True := trivial
      go_upto_region 7 with (first
        | (at_builtin; clear V1; refine wpList_append_read _ rfl _ _ 29 rfl 45 j0 _ 3 24 Tryz.underlying29 hj jz0 jz1 jz2 rfl (by decide) (.slice none 0 0) 0 [] rfl (World.ownsRow_nil _ _ _ _) (.slice a k c) _ k rfl HPre.out (by rw [flat_length tdC 3 (fun _ => rfl)]; exact congrArg (· * 3) HPL.out) (by unfold maxLen; omega) (by omega) ?_; intro a8 c8 w7 hr8 hg8 hb8
           rw [Nat.zero_add] at hr8 hb8 ⊢
           rw [List.nil_append] at hr8
           have p7 : Pure wr.drew w7 := Mod.of_grown hg8 (fun k e _ => by cases e)
           have HR8 := Lib.hid hr8; have HB8 := Lib.hid hb8; have HP7 := Lib.hid p7
           have x1 := p7.cell (a := ⟨b0, 1, none⟩) (fun h => h) h0r_1
           clear hr8 hg8 hb8 p7)
        | (at_builtin; refine wpList_append_read _ rfl _ _ 29 rfl 45 j0 _ 3 24 Tryz.underlying29 hj jz0 jz1 jz2 rfl (by decide) (.slice none 0 0) 0 [] rfl (World.ownsRow_nil _ _ _ _) (.slice sv (n - k) (c - k)) _ (n - k) rfl (HSuf.out.frame HP7.out (fun _ _ h => h)) (by rw [flat_length tdC 3 (fun _ => rfl)]; exact congrArg (· * 3) HSL.out) (by unfold maxLen; omega) (by omega) ?_; intro a9 c9 w8 hr9 hg9 hb9
           rw [Nat.zero_add] at hr9 hb9 ⊢
           rw [List.nil_append] at hr9
           have p8 : Pure wr.drew w8 := HP7.out.trans (Mod.of_grown hg9 (fun k e _ => by cases e))
           have hC0 := (HPd.out.trans p8).heap (fun h => h) H02.out
           have HR9 := Lib.hid hr9; have HB9 := Lib.hid hb9; have HP8 := Lib.hid p8; have HG9 := Lib.hid hg9
           clear hr9 hg9 hb9 p8 x1
           have hC0_0 := cell_of_row _ _ 0 _ _ _ hC0; have hC0_1 := cell_of_row _ _ 1 _ _ _ hC0; have hC0_f := (fun j => frozen_of_row _ _ j _ _ hC0); have hC0_l := lt_of_block hC0; simp at hC0_0 hC0_1; have H_hC0 := Lib.hid hC0; clear hC0))
      have hC1 := (HPd.out.trans HP8.out).heap (fun h => h) H12.out
      have hsw : W2.heap.size ≤ wr.drew.heap.size := HPd.out.size
      have hs7 : wr.drew.heap.size ≤ w7.heap.size := HP7.out.size
      have h8f : ∀ g, (Value.slice a8 k c8).ownBlock = some g → W2.heap.size ≤ g := fun g hg => by
        rcases HB8.out with e | e
        · rw [e] at hg; cases hg
        · rw [e] at hg; injection hg with hg; omega
      have h9f : ∀ g, (Value.slice a9 (n - k) c9).ownBlock = some g → W2.heap.size ≤ g := fun g hg => by
        rcases HB9.out with e | e
        · rw [e] at hg; cases hg
        · rw [e] at hg; injection hg with hg; omega
      have hb0 := lt_of_block H02.out; have hb1 := lt_of_block H12.out; have hww := HPW.out.size
      have hzb0 := HB.out.z0; have hzb1 := HB.out.z1
      have m2 : Mod (fun q => q = b0 ∨ q = b1) w8 (((w8.setCell ⟨b0, 1, none⟩ (.slice a9 (n - k) c9)).setCell ⟨b1, 0, none⟩ (.int .u64 tt)).setCell ⟨b1, 1, none⟩ (.slice a9 (n - k) c9)) := ((Mod.set1 b0 1 _).mono (fun _ _ h => .inl h)).trans ((mod_w2 _ _).mono (fun _ _ h => .inr h))
      have r9 := owns_mod HR9.out m2 (fun g hg e => by have := h9f g hg; rcases e with e | e <;> omega)
      have r8 := owns_mod (owns_mod HR8.out (Mod.of_grown (S := fun _ => False) HG9.out (fun k e _ => by cases e)) (fun _ _ h => h)) m2 (fun g hg e => by have := h8f g hg; rcases e with e | e <;> omega)
      have pf : Pure w _ := (HPW.out.trans (HPd.out.trans HP8.out)).then m2 (fun g hg e => by rcases e with e | e <;> omega)
      have R9 := Lib.hid r9; have R8 := Lib.hid r8; have PF := Lib.hid pf; have H8F := Lib.hid h8f; have H9F := Lib.hid h9f; have HWW := Lib.hid hww
      have n01 := HB.out.ne01; have n10 := HB.out.ne01.symm
      clear r9 r8 pf h8f h9f hsw hs7 hb0 hb1 hww hzb0 hzb1 m2
      have hC1_0 := cell_of_row _ _ 0 _ _ _ hC1; have hC1_1 := cell_of_row _ _ 1 _ _ _ hC1; have hC1_f := (fun j => frozen_of_row _ _ j _ _ hC1); have hC1_l := lt_of_block hC1; simp at hC1_0 hC1_1; have H_hC1 := Lib.hid hC1; clear hC1
      go_wp2
      refine bodyPost_ret (v := .tuple #[.agg #[.int .u64 tt, .slice a9 (n - k) c9], .slice a8 k c8]) (by simp [results, Tryz.results26, go_sem, hC0_0, hC0_1, hC0_l, hC1_0, hC1_1, hC1_l, n01, n10]) rfl ⟨a9, c9, a8, c8, by rw [HPL.out, HSL.out], ?_, ?_, ?_, ?_, PF.out⟩
      · show World.ownsRow _ 0 _ 3 (.slice a9 (restE tt L).length c9) (restE tt L).length ((restE tt L).flatMap tdC)
        rw [HSL.out]
        exact R9.out
      · show World.ownsRow _ 0 _ 3 (.slice a8 (dueE tt L).length c8) (dueE tt L).length ((dueE tt L).flatMap tdC)
        rw [HPL.out]
        exact R8.out
      · rw [HSL.out]; exact fun g hg => Nat.le_trans HWW.out (H9F.out g hg)
      · rw [HPL.out]; exact fun g hg => Nat.le_trans HWW.out (H8F.out g hg)
end
end Go.Proofs.YtlalpenfgkfkpaaGreatDoor

/- law21.is: it returns true. Conditions: the deadlines lie in memory, the list is read. -/
namespace Go.Proofs.YtlalpenfgkfkpaaGreatDoor
open Go.RowKit Go.Shelf
set_option maxRecDepth 100000
section
variable {w w' : World} {D : Nat → Prop} {a : Option Addr} {n c p now tt : Nat} {L M : List Td} {x : Td}
theorem getT_er {s : Nat} {er : Int} (h : getT M s = (zTd, er)) (hne : er ≠ 0) : findR M s = -1 ∨ ¬ s < 4194304 := by
  by_cases hs : s < 4194304
  · left
    refine findR_neg ?_
    cases hh : hasB M s with
    | false => rfl
    | true =>
      obtain ⟨x, h1, h2, h3, h4⟩ := findI_get (findI_lt.2 hh)
      rw [getT_hit hs h3] at h
      injection h with h1 h2
      exact absurd h2.symm hne
  · exact .inr hs
set_option maxHeartbeats 4000000 in
theorem is21_ok (h : DueT w D p now M) (hr : RdL w a n c M) {s : Nat} (h32 : s ≤ 4294967295) :
    Calls Tryz.prog 7 #[lkP p, whV now a n c, .int .u32 s] w fun e w' => e = .returned (.bool true) ∧ Pure w w' := by
  unfold whV
  have hal : Pure w (w.alloc (.cells #[.int .u64 now, .slice a n c] 31)) := (Mod.refl _ w).alloc _
  have h4 := heap_new (w := w) (o := .cells #[.int .u64 now, .slice a n c] 31 (0, 0)) rfl
  have hn := hr.len
  have hcn : n ≤ 4194304 := by rw [← hn]; exact h.at_.law.count
  have HH := Lib.hid (h.pure hal); have HR := Lib.hid (hr.pure hal); have HAL := Lib.hid hal; have HN := Lib.hid hn
  clear h hr hal hn
  go_enter Tryz.func7, Tryz.ntmps7
  go_upto_region 1 with fail
  generalize w.alloc (.cells #[.int .u64 now, .slice a n c] 31) = W1 at *
  generalize w.heap.size = b4 at *
  have HB := Lib.hid h4
  have hA := Lib.hid (fun (W : World) (hW : Pure W1 W) => (HH.out.pure hW).at_.all)
  have hNx := Lib.hid (fun (W : World) (hW : Pure W1 W) => (HH.out.pure hW).at_.next (HH.out.pure hW).tab)
  have hRn := Lib.hid (fun (W : World) (hW : Pure W1 W) => r21next_ok (now := now) (HR.out.pure hW))
  have hNw := Lib.hid (fun (W : World) (hW : Pure W1 W) => (HH.out.pure hW).at_.now_)
  have hTm := Lib.hid (fun (W : World) (hW : Pure W1 W) => r21timed_ok (now := now) (HR.out.pure hW) hcn)
  have hLn := Lib.hid (fun (W : World) (hW : Pure W1 W) => lens_ok (HH.out.pure hW).at_ HN.out rfl)
  have hSm := Lib.hid (fun (W : World) a5 c5 (hW : Pure W1 W) (h5 : ReadAt W (.slice a5 n c5) 3 (M.flatMap tdC)) => rsame_ok h5 (HR.out.pure hW).rd HN.out hcn)
  unfold whV at hRn hTm
  rw [HN.out] at hA
  have hKK : ∀ W, Pure W1 W → W.cell? ⟨b4, 0, none⟩ = some (.int .u64 now) ∧ W.cell? ⟨b4, 1, none⟩ = some (.slice a n c) := fun W hW => whbox (hW.heap (fun h => h) HB.out)
  have HKK := Lib.hid hKK
  obtain ⟨x0, x1⟩ := hKK W1 (Mod.refl _ _)
  clear h4 hKK
  have p0 : Pure W1 W1.drew := (Mod.refl _ _).drew
  refine wp_region_held_drew (S := fun u => u.cell? ⟨b4, 0, none⟩ = some (.int .u64 now) ∧ u.cell? ⟨b4, 1, none⟩ = some (.slice a n c)) (by kernel_rfl) ⟨x0, x1⟩ (fun hHeld => ?_)
  ((refine wpAnyH_take (i := 0) (v := ?_) rfl (by kernel_rfl) (by kernel_rfl) (by kernel_rfl) (fun _ _ _ h => h) (Yields.yieldsIf (Or.inl ⟨by rfl, ?_⟩)) hHeld ?_; rotate_left 1; focus (intro w; go_simp; try with_reducible rfl)); try simp only [Act.put, List.getElem_toArray, List.getElem_cons_zero, List.getElem_cons_succ, List.setIfInBounds_toArray, List.set_cons_zero, List.set_cons_succ])
  ((refine wpAnyH_take (i := 2) (v := ?_) rfl (by kernel_rfl) (by kernel_rfl) (by kernel_rfl) (fun _ _ _ h => h) (Yields.yieldsIf (Or.inl ⟨by rfl, ?_⟩)) hHeld ?_; rotate_left 1; focus (intro w; go_simp; try with_reducible rfl)); try simp only [Act.put, List.getElem_toArray, List.getElem_cons_zero, List.getElem_cons_succ, List.setIfInBounds_toArray, List.set_cons_zero, List.set_cons_succ])
  ((refine wpAnyH_take (i := 3) (v := ?_) rfl (by kernel_rfl) (by kernel_rfl) (by kernel_rfl) (fun _ _ _ h => h) (Or.inl ⟨by rfl, ?_⟩) hHeld ?_; rotate_left 1; focus (intro w hS; obtain ⟨sa, sb⟩ := hS; go_simp; try with_reducible rfl)); try simp only [Act.put, List.getElem_toArray, List.getElem_cons_zero, List.getElem_cons_succ, List.setIfInBounds_toArray, List.set_cons_zero, List.set_cons_succ])
  ((refine wpAnyH_ready (rs := [1]) (by kernel_rfl) (by simp) ?_; refine AllReadyH.cons rfl (fun K hK => ?_) AllReadyH.nil; go_simp; refine Calls.mono (hA.out _ p0) ?_; rintro e w1 ⟨a1, c1, rfl, hr1, hf1, hp1⟩; refine hK.out _ _ ?_ (fun hHeld => ?_); (· exact HKK.out _ (p0.trans hp1)); clear hK K); try simp only [Act.put, List.getElem_toArray, List.getElem_cons_zero, List.getElem_cons_succ, List.setIfInBounds_toArray, List.set_cons_zero, List.set_cons_succ])
  have p1 := p0.trans hp1
  have hq1 := RdL.of_row hr1
  rw [HN.out] at hq1
  ((refine wpAnyH_ready (rs := [4]) (by kernel_rfl) (by simp) ?_; refine AllReadyH.cons rfl (fun K hK => ?_) AllReadyH.nil; go_simp; refine Calls.mono (hSm.out _ a1 c1 p1 hq1.rd) ?_; rintro e w2 ⟨rfl, hp2⟩; refine hK.out _ _ ?_ (fun hHeld => ?_); (· exact HKK.out _ (p1.trans hp2)); clear hK K); try simp only [Act.put, List.getElem_toArray, List.getElem_cons_zero, List.getElem_cons_succ, List.setIfInBounds_toArray, List.set_cons_zero, List.set_cons_succ])
  have p2 := p1.trans hp2
  ((refine wpAnyH_take (i := 5) (v := ?_) rfl (by kernel_rfl) (by kernel_rfl) (by kernel_rfl) (fun _ _ _ h => h) (Yields.yieldsIf (Or.inl ⟨by rfl, ?_⟩)) hHeld ?_; rotate_left 1; focus (intro w; go_simp; try with_reducible rfl)); try simp only [Act.put, List.getElem_toArray, List.getElem_cons_zero, List.getElem_cons_succ, List.setIfInBounds_toArray, List.set_cons_zero, List.set_cons_succ])
  ((refine wpAnyH_take (i := 6) (v := ?_) rfl (by kernel_rfl) (by kernel_rfl) (by kernel_rfl) (fun _ _ _ h => h) (Yields.yieldsIf (Or.inl ⟨by rfl, ?_⟩)) hHeld ?_; rotate_left 1; focus (intro w; go_simp; try with_reducible rfl)); try simp only [Act.put, List.getElem_toArray, List.getElem_cons_zero, List.getElem_cons_succ, List.setIfInBounds_toArray, List.set_cons_zero, List.set_cons_succ])
  ((refine wpAnyH_take (i := 7) (v := ?_) rfl (by kernel_rfl) (by kernel_rfl) (by kernel_rfl) (fun _ _ _ h => h) (Yields.yieldsIf (Or.inl ⟨by rfl, ?_⟩)) hHeld ?_; rotate_left 1; focus (intro w; go_simp; try with_reducible rfl)); try simp only [Act.put, List.getElem_toArray, List.getElem_cons_zero, List.getElem_cons_succ, List.setIfInBounds_toArray, List.set_cons_zero, List.set_cons_succ])
  ((refine wpAnyH_take (i := 9) (v := ?_) rfl (by kernel_rfl) (by kernel_rfl) (by kernel_rfl) (fun _ _ _ h => h) (Or.inl ⟨by rfl, ?_⟩) hHeld ?_; rotate_left 1; focus (intro w hS; obtain ⟨sa, sb⟩ := hS; go_simp; try with_reducible rfl)); try simp only [Act.put, List.getElem_toArray, List.getElem_cons_zero, List.getElem_cons_succ, List.setIfInBounds_toArray, List.set_cons_zero, List.set_cons_succ])
  ((refine wpAnyH_ready (rs := [8]) (by kernel_rfl) (by simp) ?_; refine AllReadyH.cons rfl (fun K hK => ?_) AllReadyH.nil; go_simp; refine Calls.mono (hNx.out _ p2) ?_; rintro e w3 ⟨rfl, hp3⟩; refine hK.out _ _ ?_ (fun hHeld => ?_); (· exact HKK.out _ (p2.trans hp3)); clear hK K); try simp only [Act.put, List.getElem_toArray, List.getElem_cons_zero, List.getElem_cons_succ, List.setIfInBounds_toArray, List.set_cons_zero, List.set_cons_succ])
  have p3 := p2.trans hp3
  ((refine wpAnyH_ready (rs := [10]) (by kernel_rfl) (by simp) ?_; refine AllReadyH.cons rfl (fun K hK => ?_) AllReadyH.nil; go_simp; refine Calls.mono (hRn.out _ p3) ?_; rintro e w4 ⟨rfl, hp4⟩; refine hK.out _ _ ?_ (fun hHeld => ?_); (· exact HKK.out _ (p3.trans hp4)); clear hK K); try simp only [Act.put, List.getElem_toArray, List.getElem_cons_zero, List.getElem_cons_succ, List.setIfInBounds_toArray, List.set_cons_zero, List.set_cons_succ])
  have p4 := p3.trans hp4
  ((refine wpAnyH_take (i := 11) (v := ?_) rfl (by kernel_rfl) (by kernel_rfl) (by kernel_rfl) (fun _ _ _ h => h) (Yields.yieldsIf (Or.inl ⟨by rfl, ?_⟩)) hHeld ?_; rotate_left 1; focus (intro w; go_simp; try with_reducible rfl)); try simp only [Act.put, List.getElem_toArray, List.getElem_cons_zero, List.getElem_cons_succ, List.setIfInBounds_toArray, List.set_cons_zero, List.set_cons_succ])
  ((refine wpAnyH_take (i := 12) (v := ?_) rfl (by kernel_rfl) (by kernel_rfl) (by kernel_rfl) (fun _ _ _ h => h) (Yields.yieldsIf (Or.inl ⟨by rfl, ?_⟩)) hHeld ?_; rotate_left 1; focus (intro w; go_simp; try with_reducible rfl)); try simp only [Act.put, List.getElem_toArray, List.getElem_cons_zero, List.getElem_cons_succ, List.setIfInBounds_toArray, List.set_cons_zero, List.set_cons_succ])
  ((refine wpAnyH_take (i := 13) (v := ?_) rfl (by kernel_rfl) (by kernel_rfl) (by kernel_rfl) (fun _ _ _ h => h) (Yields.yieldsIf (Or.inl ⟨by rfl, ?_⟩)) hHeld ?_; rotate_left 1; focus (intro w; go_simp; try with_reducible rfl)); try simp only [Act.put, List.getElem_toArray, List.getElem_cons_zero, List.getElem_cons_succ, List.setIfInBounds_toArray, List.set_cons_zero, List.set_cons_succ])
  ((refine wpAnyH_take (i := 14) (v := ?_) rfl (by kernel_rfl) (by kernel_rfl) (by kernel_rfl) (fun _ _ _ h => h) (Yields.yieldsIf (Or.inl ⟨by rfl, ?_⟩)) hHeld ?_; rotate_left 1; focus (intro w; go_simp; try with_reducible rfl)); try simp only [Act.put, List.getElem_toArray, List.getElem_cons_zero, List.getElem_cons_succ, List.setIfInBounds_toArray, List.set_cons_zero, List.set_cons_succ])
  ((refine wpAnyH_take (i := 16) (v := ?_) rfl (by kernel_rfl) (by kernel_rfl) (by kernel_rfl) (fun _ _ _ h => h) (Yields.yieldsIf (Or.inl ⟨by rfl, ?_⟩)) hHeld ?_; rotate_left 1; focus (intro w; go_simp; try with_reducible rfl)); try simp only [Act.put, List.getElem_toArray, List.getElem_cons_zero, List.getElem_cons_succ, List.setIfInBounds_toArray, List.set_cons_zero, List.set_cons_succ])
  ((refine wpAnyH_take (i := 17) (v := ?_) rfl (by kernel_rfl) (by kernel_rfl) (by kernel_rfl) (fun _ _ _ h => h) (Or.inl ⟨by rfl, ?_⟩) hHeld ?_; rotate_left 1; focus (intro w hS; obtain ⟨sa, sb⟩ := hS; go_simp; try with_reducible rfl)); try simp only [Act.put, List.getElem_toArray, List.getElem_cons_zero, List.getElem_cons_succ, List.setIfInBounds_toArray, List.set_cons_zero, List.set_cons_succ])
  ((refine wpAnyH_ready (rs := [15]) (by kernel_rfl) (by simp) ?_; refine AllReadyH.cons rfl (fun K hK => ?_) AllReadyH.nil; go_simp; refine Calls.mono (hNw.out _ p4) ?_; rintro e w5 ⟨rfl, rfl⟩; refine hK.out _ _ ?_ (fun hHeld => ?_); (· exact HKK.out _ p4); clear hK K); try simp only [Act.put, List.getElem_toArray, List.getElem_cons_zero, List.getElem_cons_succ, List.setIfInBounds_toArray, List.set_cons_zero, List.set_cons_succ])
  ((refine wpAnyH_take (i := 18) (v := ?_) rfl (by kernel_rfl) (by kernel_rfl) (by kernel_rfl) (fun _ _ _ h => h) (Yields.yieldsIf (Or.inl ⟨by rfl, ?_⟩)) hHeld ?_; rotate_left 1; focus (intro w; go_simp; try with_reducible rfl)); try simp only [Act.put, List.getElem_toArray, List.getElem_cons_zero, List.getElem_cons_succ, List.setIfInBounds_toArray, List.set_cons_zero, List.set_cons_succ])
  ((refine wpAnyH_take (i := 19) (v := ?_) rfl (by kernel_rfl) (by kernel_rfl) (by kernel_rfl) (fun _ _ _ h => h) (Yields.yieldsIf (Or.inl ⟨by rfl, ?_⟩)) hHeld ?_; rotate_left 1; focus (intro w; go_simp; try with_reducible rfl)); try simp only [Act.put, List.getElem_toArray, List.getElem_cons_zero, List.getElem_cons_succ, List.setIfInBounds_toArray, List.set_cons_zero, List.set_cons_succ])
  ((refine wpAnyH_take (i := 20) (v := ?_) rfl (by kernel_rfl) (by kernel_rfl) (by kernel_rfl) (fun _ _ _ h => h) (Yields.yieldsIf (Or.inl ⟨by rfl, ?_⟩)) hHeld ?_; rotate_left 1; focus (intro w; go_simp; try with_reducible rfl)); try simp only [Act.put, List.getElem_toArray, List.getElem_cons_zero, List.getElem_cons_succ, List.setIfInBounds_toArray, List.set_cons_zero, List.set_cons_succ])
  ((refine wpAnyH_take (i := 21) (v := ?_) rfl (by kernel_rfl) (by kernel_rfl) (by kernel_rfl) (fun _ _ _ h => h) (Yields.yieldsIf (Or.inl ⟨by rfl, ?_⟩)) hHeld ?_; rotate_left 1; focus (intro w; go_simp; try with_reducible rfl)); try simp only [Act.put, List.getElem_toArray, List.getElem_cons_zero, List.getElem_cons_succ, List.setIfInBounds_toArray, List.set_cons_zero, List.set_cons_succ])
  ((refine wpAnyH_take (i := 22) (v := ?_) rfl (by kernel_rfl) (by kernel_rfl) (by kernel_rfl) (fun _ _ _ h => h) (Yields.yieldsIf (Or.inl ⟨by rfl, ?_⟩)) hHeld ?_; rotate_left 1; focus (intro w; go_simp; try with_reducible rfl)); try simp only [Act.put, List.getElem_toArray, List.getElem_cons_zero, List.getElem_cons_succ, List.setIfInBounds_toArray, List.set_cons_zero, List.set_cons_succ])
  ((refine wpAnyH_take (i := 23) (v := ?_) rfl (by kernel_rfl) (by kernel_rfl) (by kernel_rfl) (fun _ _ _ h => h) (Or.inl ⟨by rfl, ?_⟩) hHeld ?_; rotate_left 1; focus (intro w hS; obtain ⟨sa, sb⟩ := hS; go_simp; try with_reducible rfl)); try simp only [Act.put, List.getElem_toArray, List.getElem_cons_zero, List.getElem_cons_succ, List.setIfInBounds_toArray, List.set_cons_zero, List.set_cons_succ])
  ((refine wpAnyH_take (i := 24) (v := ?_) rfl (by kernel_rfl) (by kernel_rfl) (by kernel_rfl) (fun _ _ _ h => h) (Yields.yieldsIf (Or.inl ⟨by rfl, ?_⟩)) hHeld ?_; rotate_left 1; focus (intro w; go_simp; try with_reducible rfl)); try simp only [Act.put, List.getElem_toArray, List.getElem_cons_zero, List.getElem_cons_succ, List.setIfInBounds_toArray, List.set_cons_zero, List.set_cons_succ])
  ((refine wpAnyH_take (i := 25) (v := ?_) rfl (by kernel_rfl) (by kernel_rfl) (by kernel_rfl) (fun _ _ _ h => h) (Or.inl ⟨by rfl, ?_⟩) hHeld ?_; rotate_left 1; focus (intro w hS; obtain ⟨sa, sb⟩ := hS; go_simp; try with_reducible rfl)); try simp only [Act.put, List.getElem_toArray, List.getElem_cons_zero, List.getElem_cons_succ, List.setIfInBounds_toArray, List.set_cons_zero, List.set_cons_succ])
  ((refine wpAnyH_ready (rs := [26]) (by kernel_rfl) (by simp) ?_; refine AllReadyH.cons rfl (fun K hK => ?_) AllReadyH.nil; go_simp; refine Calls.mono (hTm.out _ p4) ?_; rintro e w6 ⟨rfl, hp6⟩; refine hK.out _ _ ?_ (fun hHeld => ?_); (· exact HKK.out _ (p4.trans hp6)); clear hK K); try simp only [Act.put, List.getElem_toArray, List.getElem_cons_zero, List.getElem_cons_succ, List.setIfInBounds_toArray, List.set_cons_zero, List.set_cons_succ])
  have p6 := p4.trans hp6
  ((refine wpAnyH_ready (rs := [27]) (by kernel_rfl) (by simp) ?_; refine AllReadyH.cons rfl (fun K hK => ?_) AllReadyH.nil; go_simp; refine Calls.mono (hLn.out _ p6) ?_; rintro e w7 ⟨rfl, hp7⟩; refine hK.out _ _ ?_ (fun hHeld => ?_); (· exact HKK.out _ (p6.trans hp7)); clear hK K); try simp only [Act.put, List.getElem_toArray, List.getElem_cons_zero, List.getElem_cons_succ, List.setIfInBounds_toArray, List.set_cons_zero, List.set_cons_succ])
  have p7 := p6.trans hp7
  ((refine wpAnyH_take (i := 28) (v := ?_) rfl (by kernel_rfl) (by kernel_rfl) (by kernel_rfl) (fun _ _ _ h => h) (Yields.yieldsIf (Or.inl ⟨by rfl, ?_⟩)) hHeld ?_; rotate_left 1; focus (intro w; go_simp; try with_reducible rfl)); try simp only [Act.put, List.getElem_toArray, List.getElem_cons_zero, List.getElem_cons_succ, List.setIfInBounds_toArray, List.set_cons_zero, List.set_cons_succ])
  ((refine wpAnyH_take (i := 29) (v := ?_) rfl (by kernel_rfl) (by kernel_rfl) (by kernel_rfl) (fun _ _ _ h => h) (Yields.yieldsIf (Or.inl ⟨by rfl, ?_⟩)) hHeld ?_; rotate_left 1; focus (intro w; go_simp; try with_reducible rfl)); try simp only [Act.put, List.getElem_toArray, List.getElem_cons_zero, List.getElem_cons_succ, List.setIfInBounds_toArray, List.set_cons_zero, List.set_cons_succ])
  refine wpAnyH_done (by kernel_rfl) ?_ _
  clear hHeld
  have HP7 := Lib.hid p7
  obtain ⟨y0, y1⟩ := HKK.out _ p7
  clear x0 x1 p0 hr1 hf1 hp1 p1 hq1 hp2 p2 hp3 p3 hp4 p4 hp6 p6 hp7 p7 hA hNx hRn hNw hTm hLn hSm
  have hfi := Lib.hid (rfind_ok (HR.out.pure HP7.out).rd HN.out hcn s)
  have HG := Lib.hid (fun (W : World) (hW : Pure W1 W) => (fun {dl b : Nat} {er : Int} h1 h2 h3 => gets_ok (HH.out.pure hW).at_ (s := s) (dl := dl) (b := b) (er := er) h32 h1 h2 h3))
  by_cases hh : hasB M s = true
  · obtain ⟨x, k1, k2, k3, k4⟩ := findI_get (findI_lt.2 hh)
    have hs : s < 4194304 := by have := (HH.out.at_.law.rng x (List.mem_of_getElem? k1)).1; rw [k2] at this; exact this
    obtain ⟨i, hi⟩ : ∃ i, findI M s = i := ⟨_, rfl⟩
    rw [show findR M s = (i : Nat) by unfold findR; rw [if_pos hh, hi]] at hfi
    rw [hi] at k1
    have hin : i < n := by have := (List.getElem?_eq_some_iff.1 k1).1; rw [HN.out] at this; exact this
    obtain ⟨ad, had, z0, z1, z2⟩ := td_read (HR.out.pure HP7.out).rd k1
    subst had
    have hg := getT_hit hs k3
    have HGx := Lib.hid (fun (W : World) (hW : Pure W1 W) => HG.out W hW (dl := x.dl) (b := x.birth) (er := 0) (by rw [hg]) (by rw [hg]) (by rw [hg]))
    have i0 : (0 : Int) ≤ (i : Int) := by omega
    have i1 : (i : Int) < (n : Int) := by omega
    clear hh hi k1 k2 k3 k4 hg hs z0 hin
    go_upto_region 5 with (go_at_call 23; refine Calls.mono hfi.out ?_; rintro e w' ⟨rfl, rfl⟩)
    refine wp_region_held_drew (S := fun u => u.cell? ⟨b4, 1, none⟩ = some (.slice (some ad) n c) ∧ u.cell? ⟨(ad.add (i * 3)).block, (ad.add (i * 3)).off + 1, none⟩ = some (.int .u64 x.dl) ∧ u.cell? ⟨(ad.add (i * 3)).block, (ad.add (i * 3)).off + 2, none⟩ = some (.int .u64 x.birth)) (by kernel_rfl) ⟨y1, z1, z2⟩ (fun hHeld => ?_)
    ((refine wpAnyH_take (i := 0) (v := ?_) rfl (by kernel_rfl) (by kernel_rfl) (by kernel_rfl) (fun _ _ _ h => h) (Yields.yieldsIf (Or.inl ⟨by rfl, ?_⟩)) hHeld ?_; rotate_left 1; focus (intro w; go_simp; try with_reducible rfl)); try simp only [Act.put, List.getElem_toArray, List.getElem_cons_zero, List.getElem_cons_succ, List.setIfInBounds_toArray, List.set_cons_zero, List.set_cons_succ])
    ((refine wpAnyH_take (i := 1) (v := ?_) rfl (by kernel_rfl) (by kernel_rfl) (by kernel_rfl) (fun _ _ _ h => h) (Yields.yieldsIf (Or.inl ⟨by rfl, ?_⟩)) hHeld ?_; rotate_left 1; focus (intro w; go_simp; try with_reducible rfl)); try simp only [Act.put, List.getElem_toArray, List.getElem_cons_zero, List.getElem_cons_succ, List.setIfInBounds_toArray, List.set_cons_zero, List.set_cons_succ])
    ((refine wpAnyH_take (i := 2) (v := ?_) rfl (by kernel_rfl) (by kernel_rfl) (by kernel_rfl) (fun _ _ _ h => h) (Yields.yieldsIf (Or.inl ⟨by rfl, ?_⟩)) hHeld ?_; rotate_left 1; focus (intro w; go_simp; try with_reducible rfl)); try simp only [Act.put, List.getElem_toArray, List.getElem_cons_zero, List.getElem_cons_succ, List.setIfInBounds_toArray, List.set_cons_zero, List.set_cons_succ])
    ((refine wpAnyH_take (i := 3) (v := ?_) rfl (by kernel_rfl) (by kernel_rfl) (by kernel_rfl) (fun _ _ _ h => h) (Or.inl ⟨by rfl, ?_⟩) hHeld ?_; rotate_left 1; focus (intro w hS; obtain ⟨sa, sb, sc⟩ := hS; go_simp; try with_reducible rfl)); try simp only [Act.put, List.getElem_toArray, List.getElem_cons_zero, List.getElem_cons_succ, List.setIfInBounds_toArray, List.set_cons_zero, List.set_cons_succ])
    ((refine wpAnyH_take (i := 4) (v := ?_) rfl (by kernel_rfl) (by kernel_rfl) (by kernel_rfl) (fun _ _ _ h => h) (Yields.yieldsIf (Or.inl ⟨by rfl, ?_⟩)) hHeld ?_; rotate_left 1; focus (intro w; go_simp; try with_reducible rfl)); try simp only [Act.put, List.getElem_toArray, List.getElem_cons_zero, List.getElem_cons_succ, List.setIfInBounds_toArray, List.set_cons_zero, List.set_cons_succ])
    ((refine wpAnyH_take (i := 5) (v := ?_) rfl (by kernel_rfl) (by kernel_rfl) (by kernel_rfl) (fun _ _ _ h => h) (Yields.yieldsIf (Or.inl ⟨by rfl, ?_⟩)) hHeld ?_; rotate_left 1; focus (intro w; go_simp; try with_reducible rfl)); try simp only [Act.put, List.getElem_toArray, List.getElem_cons_zero, List.getElem_cons_succ, List.setIfInBounds_toArray, List.set_cons_zero, List.set_cons_succ])
    ((refine wpAnyH_take (i := 6) (v := ?_) rfl (by kernel_rfl) (by kernel_rfl) (by kernel_rfl) (fun _ _ _ h => h) (Yields.yieldsIf (Or.inl ⟨by rfl, ?_⟩)) hHeld ?_; rotate_left 1; focus (intro w; go_simp; try with_reducible rfl)); try simp only [Act.put, List.getElem_toArray, List.getElem_cons_zero, List.getElem_cons_succ, List.setIfInBounds_toArray, List.set_cons_zero, List.set_cons_succ])
    ((refine wpAnyH_take (i := 7) (v := ?_) rfl (by kernel_rfl) (by kernel_rfl) (by kernel_rfl) (fun _ _ _ h => h) (Or.inl ⟨by rfl, ?_⟩) hHeld ?_; rotate_left 1; focus (intro w hS; obtain ⟨sa, sb, sc⟩ := hS; go_simp; try with_reducible rfl)); try simp only [Act.put, List.getElem_toArray, List.getElem_cons_zero, List.getElem_cons_succ, List.setIfInBounds_toArray, List.set_cons_zero, List.set_cons_succ])
    ((refine wpAnyH_take (i := 8) (v := ?_) rfl (by kernel_rfl) (by kernel_rfl) (by kernel_rfl) (fun _ _ _ h => h) (Yields.yieldsIf (Or.inl ⟨by rfl, ?_⟩)) hHeld ?_; rotate_left 1; focus (intro w; go_simp; try with_reducible rfl)); try simp only [Act.put, List.getElem_toArray, List.getElem_cons_zero, List.getElem_cons_succ, List.setIfInBounds_toArray, List.set_cons_zero, List.set_cons_succ])
    ((refine wpAnyH_take (i := 9) (v := ?_) rfl (by kernel_rfl) (by kernel_rfl) (by kernel_rfl) (fun _ _ _ h => h) (Or.inl ⟨by rfl, ?_⟩) hHeld ?_; rotate_left 1; focus (intro w hS; obtain ⟨sa, sb, sc⟩ := hS; go_simp; try with_reducible rfl)); try simp only [Act.put, List.getElem_toArray, List.getElem_cons_zero, List.getElem_cons_succ, List.setIfInBounds_toArray, List.set_cons_zero, List.set_cons_succ])
    ((refine wpAnyH_take (i := 10) (v := ?_) rfl (by kernel_rfl) (by kernel_rfl) (by kernel_rfl) (fun _ _ _ h => h) (Yields.yieldsIf (Or.inl ⟨by rfl, ?_⟩)) hHeld ?_; rotate_left 1; focus (intro w; go_simp; try with_reducible rfl)); try simp only [Act.put, List.getElem_toArray, List.getElem_cons_zero, List.getElem_cons_succ, List.setIfInBounds_toArray, List.set_cons_zero, List.set_cons_succ])
    ((refine wpAnyH_take (i := 11) (v := ?_) rfl (by kernel_rfl) (by kernel_rfl) (by kernel_rfl) (fun _ _ _ h => h) (Yields.yieldsIf (Or.inl ⟨by rfl, ?_⟩)) hHeld ?_; rotate_left 1; focus (intro w; go_simp; try with_reducible rfl)); try simp only [Act.put, List.getElem_toArray, List.getElem_cons_zero, List.getElem_cons_succ, List.setIfInBounds_toArray, List.set_cons_zero, List.set_cons_succ])
    ((refine wpAnyH_take (i := 12) (v := ?_) rfl (by kernel_rfl) (by kernel_rfl) (by kernel_rfl) (fun _ _ _ h => h) (Yields.yieldsIf (Or.inl ⟨by rfl, ?_⟩)) hHeld ?_; rotate_left 1; focus (intro w; go_simp; try with_reducible rfl)); try simp only [Act.put, List.getElem_toArray, List.getElem_cons_zero, List.getElem_cons_succ, List.setIfInBounds_toArray, List.set_cons_zero, List.set_cons_succ])
    ((refine wpAnyH_take (i := 13) (v := ?_) rfl (by kernel_rfl) (by kernel_rfl) (by kernel_rfl) (fun _ _ _ h => h) (Or.inl ⟨by rfl, ?_⟩) hHeld ?_; rotate_left 1; focus (intro w hS; obtain ⟨sa, sb, sc⟩ := hS; go_simp; try with_reducible rfl)); try simp only [Act.put, List.getElem_toArray, List.getElem_cons_zero, List.getElem_cons_succ, List.setIfInBounds_toArray, List.set_cons_zero, List.set_cons_succ])
    ((refine wpAnyH_ready (rs := [14]) (by kernel_rfl) (by simp) ?_; refine AllReadyH.cons rfl (fun K hK => ?_) AllReadyH.nil; go_simp; refine Calls.mono (HGx.out _ HP7.out.drew) ?_; rintro e w8 ⟨rfl, hp8⟩; refine hK.out _ _ ?_ (fun hHeld => ?_); (· exact ⟨hp8.cell (a := ⟨b4, 1, none⟩) (fun h => h) y1, hp8.cell (a := ⟨(ad.add (i * 3)).block, (ad.add (i * 3)).off + 1, none⟩) (fun h => h) z1, hp8.cell (a := ⟨(ad.add (i * 3)).block, (ad.add (i * 3)).off + 2, none⟩) (fun h => h) z2⟩); clear hK K); try simp only [Act.put, List.getElem_toArray, List.getElem_cons_zero, List.getElem_cons_succ, List.setIfInBounds_toArray, List.set_cons_zero, List.set_cons_succ])
    ((refine wpAnyH_take (i := 15) (v := ?_) rfl (by kernel_rfl) (by kernel_rfl) (by kernel_rfl) (fun _ _ _ h => h) (Yields.yieldsIf (Or.inl ⟨by rfl, ?_⟩)) hHeld ?_; rotate_left 1; focus (intro w; go_simp; try with_reducible rfl)); try simp only [Act.put, List.getElem_toArray, List.getElem_cons_zero, List.getElem_cons_succ, List.setIfInBounds_toArray, List.set_cons_zero, List.set_cons_succ])
    refine wpAnyH_done (by kernel_rfl) ?_ _
    clear hHeld
    have hpf := HAL.out.trans (HP7.out.drew.trans hp8)
    have HPF := Lib.hid hpf
    clear hpf hp8
    go_wp2
    go_ret
    exact ⟨rfl, HPF.out⟩
  · have hh0 : hasB M s = false := by simpa using hh
    rw [findR_neg hh0] at hfi
    by_cases hs : s < 4194304
    · have hg := getT_miss hs (find_none hh0)
      have HGx := Lib.hid (fun (W : World) (hW : Pure W1 W) => HG.out W hW (dl := 0) (b := 0) (er := 9) (by rw [hg]; try rfl) (by rw [hg]; try rfl) (by rw [hg]))
      have hs' : decide ((4194304 : Int) ≤ (s : Int)) = false := decide_eq_false (by omega)
      have HS4 := Lib.hid hs'
      clear hh hh0 hg hs hs'
      go_upto_region 7 with (go_at_call 23; refine Calls.mono hfi.out ?_; rintro e w' ⟨rfl, rfl⟩)
      have hs4 := HS4.out
      go_upto_region 9 with fail
      clear hs4
      go_wp2_with (go_at_call 17; refine Calls.mono (HGx.out _ HP7.out) ?_; rintro e w8 ⟨rfl, hp8⟩)
      have hpf := HAL.out.trans (HP7.out.trans hp8)
      go_ret
      exact ⟨rfl, hpf⟩
    · have hg := getT_arg (M := M) hs
      have HGx := Lib.hid (fun (W : World) (hW : Pure W1 W) => HG.out W hW (dl := 0) (b := 0) (er := 2) (by rw [hg]; try rfl) (by rw [hg]; try rfl) (by rw [hg]))
      have hs' : decide ((4194304 : Int) ≤ (s : Int)) = true := decide_eq_true (by omega)
      have HS4 := Lib.hid hs'
      clear hh hh0 hg hs hs'
      go_upto_region 7 with (go_at_call 23; refine Calls.mono hfi.out ?_; rintro e w' ⟨rfl, rfl⟩)
      have hs4 := HS4.out
      go_upto_region 9 with fail
      clear hs4
      go_wp2_with (go_at_call 17; refine Calls.mono (HGx.out _ HP7.out) ?_; rintro e w8 ⟨rfl, hp8⟩)
      have hpf := HAL.out.trans (HP7.out.trans hp8)
      go_ret
      exact ⟨rfl, hpf⟩
end
end Go.Proofs.YtlalpenfgkfkpaaGreatDoor

/- due: Copy. Conditions: the deadlines lie in memory. -/
namespace Go.Proofs.YtlalpenfgkfkpaaGreatDoor
open Go.RowKit Go.Shelf
set_option maxRecDepth 100000
section
variable {w w' : World} {D : Nat → Prop} {p now q bb bs : Nat} {Dc : Nat → Prop} {Db Ds : DataW Unit} {M M' L : List Td}
structure DCpI (w wr : World) (M : List Td) (bs rb n : Nat) (Ds : DataW Unit) (left : Lit → Bool) (cnt : Nat) (p2 now : Nat) (D2 : Nat → Prop) (M2 : List Td) : Prop where
  rg : wr.ranges Tryz.prog 33 tdElem bs rb n Ds left cnt
  has : ∀ kl, left kl = true → Maps.has Ds kl = true
  mem : DueAt wr D2 p2 now M2
  sub : ∀ x ∈ M2, x ∈ M
  todo : ∀ x ∈ M, left (kS x.slot) = true ↔ x ∉ M2
  fresh : ∀ k, D2 k → w.heap.size ≤ k
  rb2 : ¬ D2 rb
  pure : Pure w wr
set_option maxHeartbeats 2000000 in
theorem DueAt.copy (h : DueAt w D p now M) : Calls Tryz.prog 29 #[lkP p] w fun e w' => ∃ p2 D2, e = .returned (lkP p2) ∧ DueAt w' D2 p2 now M ∧ Pure w w' ∧ ∀ k, D2 k → w.heap.size ≤ k := by
  have hnow := h.now64
  obtain ⟨q, bb, bs, Dc, Db, Ds, h1, h2⟩ := h
  have HCk := Lib.hid (dcheck0 h1)
  have HNw := Lib.hid h1.cas.now_
  have HNew := Lib.hid (fun W => dunew_ok W hnow)
  obtain ⟨c0, c1, c2⟩ := h1.cells
  have HC := Lib.hid h1; have HI := Lib.hid h2
  clear h1 h2 c1 hnow
  go_enter Tryz.func29, Tryz.ntmps29
  go_upto_region 4 with (first
    | (go_at_call 30; refine Calls.mono HCk.out ?_; rintro e w' ⟨rfl, rfl⟩)
    | (go_at_call 31; refine Calls.mono HNw.out ?_; rintro e w' ⟨rfl, rfl⟩)
    | (go_at_call 6; refine Calls.mono (HNew.out _) ?_; rintro e w1 ⟨p2, D2, rfl, hc2, hp2, hf2⟩))
  have hb1 := (HC.out.pure hp2).cells
  obtain ⟨c0', c1', c2'⟩ := hb1
  have HC1 := Lib.hid (HC.out.pure hp2)
  have HC2 := Lib.hid hc2; have HP2 := Lib.hid hp2; have HF2 := Lib.hid hf2
  clear hc2 hp2 hf2 c0 c2 c0' c1'
  go_upto_region 5 with (at_range; refine wpList_range_own _ rfl _ 56 rfl 33 45 keyedS Tryz.underlying56 tdElem bs M.length Ds rfl HC1.out.slots.own ?_; intro wg hrg hgr hsz; go_frame)
  have hpg : Pure w1 wg := Mod.of_grown hgr (fun i e _ => by cases e)
  have hr1 : ¬ D2 w1.heap.size := fun e => by have := HC2.out.lt e; omega
  have hI : DCpI w wg M bs w1.heap.size M.length Ds (Maps.has Ds) (Maps.size Ds) p2 now D2 [] :=
    ⟨hrg, fun _ h => h, HC2.out.pure hpg, (fun x hx => by cases hx), fun x hx => ⟨fun _ c => (by cases c), fun _ => HC1.out.slots.has_mem hx⟩, HF2.out, hr1, HP2.out.trans hpg⟩
  have hszr : w.heap.size ≤ w1.heap.size := HP2.out.size
  have HI0 := Lib.hid hI
  clear hrg hgr hsz hpg hr1 hI c2' HC1 HC2 HF2 HP2 HNw HNew
  generalize w1.heap.size = rb at *
  have hbs : bs < w.heap.size := HC.out.slots.own.lt
  go_loopw [] (fun wr => ∃ left cnt D2 M2, DCpI w wr M bs rb M.length Ds left cnt p2 now D2 M2) (fun wr => wr.rangeLeft bs rb)
  case atStart => exact ⟨_, _, _, _, HI0.out⟩
  case round =>
    obtain ⟨left, cnt, D2, M2, hI⟩ := hrel
    have HIr := Lib.hid hI
    clear hI
    go_wp2_with (at_next; refine wpList_next_ranges _ rfl _ rfl 33 keyedS tdElem (fun x : Int => Value.int .u32 x) tdV (fun key kl hkey => by obtain ⟨x, rfl, _⟩ := Maps.keyOf_int_inv Tryz.underlying33 hkey; exact ⟨x, rfl⟩) (fun v y hv => by obtain ⟨c, rfl, _⟩ := tdElem_inv hv; exact ⟨c, rfl⟩) bs rb M.length Ds left cnt rfl HIr.out.rg ?_ ?_)
    · intro hc0 hl0
      have hp : M2.Perm M := by
        rw [List.perm_ext_iff_of_nodup HIr.out.mem.law.nd HI.out.nd]
        intro x
        refine ⟨HIr.out.sub x, fun hx => ?_⟩
        apply Classical.byContradiction
        intro hn
        have := (HIr.out.todo x hx).2 hn
        rw [hl0] at this
        cases this
      have hfin : DueAt wr D2 p2 now M := by rw [← sorted_uniq HIr.out.mem.law.ord HI.out.ord hp]; exact HIr.out.mem
      have HFin := Lib.hid hfin
      clear hc0 hl0 hp hfin
      go_wp2
      go_ret
      exact ⟨p2, D2, rfl, HFin.out, HIr.out.pure, HIr.out.fresh⟩
    · intro x c5 kl y1 y2 w3 cnt1 hkey hlk hv hat hrg1 hlt1 hg1 hs1 hen
      obtain ⟨s, rfl, rfl, hs32⟩ := key_inv hkey
      obtain ⟨z, hz, hzs⟩ := HC.out.slots.has s (HIr.out.has _ hlk)
      have hcz : c5 = z := by
        have e1 := hat (.lit (.int .u32 0))
        rw [← hzs, HC.out.slots.at_ z hz] at e1
        have e5 := tdElem_mk c5
        rw [hv] at e5
        injection e5 with e5
        have e6 : y1 = tdD c5 := congrArg Prod.fst e5
        exact tdD_inj (e6.symm.trans e1.symm)
      subst hcz
      subst hzs
      have hm3 : Mod (fun k => k = rb) wr w3 := Mod.of_grown hg1 (fun i e _ => by cases e; rfl)
      have hn2 : c5 ∉ M2 := (HIr.out.todo c5 hz).1 hlk
      have n1 : ∀ y ∈ M2, y.slot ≠ c5.slot := fun y hy e => hn2 (by rw [← HI.out.slots y (HIr.out.sub y hy) c5 hz e]; exact hy)
      have n2 : ∀ y ∈ M2, y.birth ≠ c5.birth := fun y hy e => hn2 (by rw [← HI.out.births y (HIr.out.sub y hy) c5 hz e]; exact hy)
      have k3 := HIr.out.mem.frame hm3 (fun k hk e => HIr.out.rb2 (e ▸ hk))
      have hpu := fun (W : World) (hW : Pure w3 W) => (k3.pure hW).put n1 n2 (HI.out.rng c5 hz)
      have hsz3 : w3.heap.size = wr.heap.size := hs1
      have hpw3 : Pure w w3 := HIr.out.pure.then hm3 (fun k hk e => by omega)
      unfold tdV at hpu hen
      have HPu := Lib.hid hpu; have HZ := Lib.hid hz; have HN2 := Lib.hid hn2; have HSZ3 := Lib.hid hsz3; have HRG := Lib.hid hrg1; have HLT := Lib.hid hlt1; have HPW3 := Lib.hid hpw3
      clear hpu hz hn2 hrg1 hlt1 k3 n1 n2 hkey hat hv hlk hg1 hs1 hm3 hpw3 hsz3
      have hal : Pure w3 (w3.alloc (.cells #[.int .u32 c5.slot, .int .u64 c5.dl, .int .u64 c5.birth] 45)) := (Mod.refl _ w3).alloc _
      have h5 := heap_new (w := w3) (o := .cells #[.int .u32 c5.slot, .int .u64 c5.dl, .int .u64 c5.birth] 45 (0, 0)) rfl
      have HAL := Lib.hid hal
      go_upto_region 7 with fail
      generalize w3.alloc (.cells #[.int .u32 c5.slot, .int .u64 c5.dl, .int .u64 c5.birth] 45) = W4 at *
      obtain ⟨b5, hb5⟩ : ∃ b5, w3.heap.size = b5 := ⟨_, rfl⟩
      rw [hb5] at h5 ⊢
      have HB5 := Lib.hid hb5
      clear hb5 hal hen
      have h5_0 := cell_of_row _ _ 0 _ _ _ h5; have h5_1 := cell_of_row _ _ 1 _ _ _ h5; have h5_2 := cell_of_row _ _ 2 _ _ _ h5; have h5_f := (fun j => frozen_of_row _ _ j _ _ h5); have h5_l := lt_of_block h5; simp at h5_0 h5_1 h5_2; have H_h5 := Lib.hid h5; clear h5
      go_wp2_with (go_at_call 33; refine Calls.mono (HPu.out _ (by first | exact HAL.out | exact HAL.out.drew)) ?_; rintro e w5 ⟨rfl, ⟨D3, hC3, hg3⟩, hm3⟩)
      have hm5 : Mod D2 w3 w5 := (Mod.of_pure' HAL.out).trans (by first | exact hm3 | exact Mod.of_drew hm3)
      have hg5 : ∀ k, D3 k → D2 k ∨ b5 ≤ k := fun k hk => by
        have e1 := HAL.out.size
        have e2 := HB5.out
        rcases hg3 k hk with e | e
        · exact .inl e
        · have e' : W4.heap.size ≤ k := e
          exact .inr (by omega)
      have hrb : rb < b5 := by have := HRG.out.lt; have := HB5.out; omega
      have hb5w : w.heap.size ≤ b5 := by have := HPW3.out.size; have := HB5.out; omega
      have hrg5 := rgs_mod HRG.out hm5 (fun e => by have := HIr.out.fresh _ e; omega) HIr.out.rb2
      have hI5 : DCpI w w5 M bs rb M.length Ds (fun z => left z && !z.sameKey (kS c5.slot)) cnt1 p2 now D3 (putL M2 c5) := ⟨hrg5, fun kl hk => HIr.out.has kl (by simp at hk; exact hk.1), hC3, fun x hx => (by
          rcases putL_mem.1 hx with e | hx
          · rw [e]; exact HZ.out
          · exact HIr.out.sub x hx), fun x hx => (by
          rw [same_kS, putL_mem, not_or, ← HIr.out.todo x hx]
          simp
          exact ⟨fun k => ⟨fun e => k.2 (by rw [e]), k.1⟩, fun k => ⟨k.2, fun e => k.1 (HI.out.slots x hx c5 HZ.out e)⟩⟩), fun k hk => (by
          rcases hg5 k hk with e | e
          · exact HIr.out.fresh k e
          · omega), fun e => (by
          rcases hg5 rb e with e | e
          · exact HIr.out.rb2 e
          · omega), HPW3.out.then hm5 (fun k hk e => by have := HIr.out.fresh k e; omega)⟩
      have HI5 := Lib.hid hI5
      clear hm5 hg5 hrg5 hI5 hC3 hg3 hm3
      go_wp2
      go_roundw
      case rel => exact ⟨_, _, _, _, HI5.out⟩
      case measure => rw [HI5.out.rg.left_eq, HIr.out.rg.left_eq]; exact HLT.out
end
end Go.Proofs.YtlalpenfgkfkpaaGreatDoor

/- law21.step: what it stands on; Set. Conditions: the deadlines lie in memory, the reference's list is read. Printed by wip/gen_d21s.py. -/
namespace Go.Proofs.YtlalpenfgkfkpaaGreatDoor
open Go.RowKit Go.Shelf
set_option maxRecDepth 100000
section
variable {w0 w w5 w6 : World} {D D' : Nat → Prop} {p p' now now' n c n' c' b2 : Nat} {a a' : Option Addr} {L L' : List Td} {t : Act21}
def act21V (t : Act21) : Value := .agg #[.int .i64 t.what, .int .u32 t.slot, .int .u64 t.birth, .int .u64 t.time, .slice t.ta t.tn t.tc]
theorem KnD.lt (h : KnD w0 w D p now L) {k : Nat} (hk : D k) : k < w.heap.size := h.t.at_.lt hk
theorem KnD.count (h : KnD w0 w D p now L) : L.length ≤ 4194304 := h.t.at_.law.count
/-- The deadlines and the reference's list. -/
structure StD (w0 w : World) (p now : Nat) (a : Option Addr) (n c : Nat) (D : Nat → Prop) (L : List Td) : Prop where
  ks : KnD w0 w D p now L
  rd : RdL w a n c L
  off : ∀ g, rdBlock (.slice a n c) = some g → ¬ D g
theorem StD.pure (h : StD w0 w p now a n c D L) (hp : Pure w w5) : StD w0 w5 p now a n c D L := ⟨h.ks.pure hp, h.rd.pure hp, h.off⟩
def StPD (w0 w : World) (a : Option Addr) (n c : Nat) (D : Nat → Prop) (e : Ending) (w' : World) : Prop :=
  ∃ p' now' a' n' c' D' L', e = .returned (.tuple #[lkP p', whV now' a' n' c', .bool true]) ∧ StD w0 w' p' now' a' n' c' D' L' ∧ grewD D D' w ∧ Kept w a n c a' n' c' ∧ Mod D w w'
theorem StPD.drew {e : Ending} {w' : World} (h : StPD w0 w a n c D e w') : StPD w0 w a n c D e w'.drew := by
  obtain ⟨p', now', a', n', c', D', L', h1, h2, h3, h4, h5⟩ := h
  exact ⟨p', now', a', n', c', D', L', h1, h2.pure (Mod.refl _ _).drew, h3, h4, h5.drew⟩
theorem StD.fin (h : StD w0 w p now a n c D L) (hp : Pure w w5) (hr : RdL w5 a' n' c' L') (hk : Kept w a n c a' n' c') (hks : KnD w0 w6 D' p' now' L') (hg : grewD D D' w5) (hm : Mod D w5 w6) (hb : w.heap.size ≤ b2) (hb5 : b2 < w5.heap.size) (hrb : ∀ g, rdBlock (.slice a' n' c') = some g → g ≠ b2) (v0 v1 : Value) :
    StD w0 ((w6.setCell ⟨b2, 0, none⟩ v0).setCell ⟨b2, 1, none⟩ v1) p' now' a' n' c' D' L' ∧ grewD D D' w ∧ Mod D w ((w6.setCell ⟨b2, 0, none⟩ v0).setCell ⟨b2, 1, none⟩ v1) := by
  have hsz := hp.size
  have hDlt : ∀ k, D k → k < w.heap.size := fun k hk => h.ks.lt hk
  have key : ∀ g, rdBlock (.slice a' n' c') = some g → ¬ D g ∧ g < w5.heap.size := fun g hg' => by
    have hlt := hr.lt hg'
    rcases hk.rd hg' with e | e
    · exact ⟨h.off g e, hlt⟩
    · exact ⟨fun hd => by have := hDlt g hd; omega, hlt⟩
  have nb' : ¬ D' b2 := fun hd => by
    rcases hg b2 hd with e | e
    · have := hDlt _ e; omega
    · omega
  have hms := Mod.set2 (w := w6) b2 0 1 v0 v1
  have hpu := h.ks.pu.size
  have hw0 := h.ks.pu
  have h00 : 0 < w.heap.size := h.ks.t.tab.lt
  refine ⟨⟨⟨hks.t.frame hms (fun k hk e => by subst e; exact nb' hk) (fun e => by omega), hks.ge, hks.pu.then hms (fun k hk e => by omega)⟩, (hr.frame hm (fun g hg' => (key g hg').1)).frame hms (fun g hg' => hrb g hg'), fun g hg' hd => ?_⟩, fun k hd => ?_, ((Mod.of_pure hp).trans hm).then hms (fun k hk e => by omega)⟩
  · rcases hg g hd with e | e
    · exact (key g hg').1 e
    · have := (key g hg').2; omega
  · rcases hg k hd with e | e
    · exact .inl e
    · exact .inr (Nat.le_trans hsz e)
/-- Three boxes: deadlines, an act, the deadlines's result. -/
def boxD (w : World) (now : Nat) (a : Option Addr) (n c : Nat) (t : Act21) : World := ((w.alloc (.cells #[.int .u64 now, .slice a n c] 31)).alloc (.cells #[.int .i64 t.what, .int .u32 t.slot, .int .u64 t.birth, .int .u64 t.time, .slice t.ta t.tn t.tc] 38)).alloc (.cells #[.int .u64 0, .slice none 0 0] 31)
structure BoxD (w W : World) (b0 b1 b2 : Nat) (now : Nat) (a : Option Addr) (n c : Nat) (t : Act21) : Prop where
  pure : Pure w W
  z0 : w.heap.size ≤ b0
  z1 : w.heap.size ≤ b1
  z2 : w.heap.size ≤ b2
  h0 : W.heap[b0]? = some (.cells #[.int .u64 now, .slice a n c] 31 (0, 0))
  h1 : W.heap[b1]? = some (.cells #[.int .i64 t.what, .int .u32 t.slot, .int .u64 t.birth, .int .u64 t.time, .slice t.ta t.tn t.tc] 38 (0, 0))
  h2 : W.heap[b2]? = some (.cells #[.int .u64 0, .slice none 0 0] 31 (0, 0))
  ne12 : b1 ≠ b2
  ne02 : b0 ≠ b2
theorem boxD_ok : ∃ W b0 b1 b2, boxD w now a n c t = W ∧ w.heap.size = b0 ∧ w.heap.size + 1 = b1 ∧ w.heap.size + 1 + 1 = b2 ∧ BoxD w W b0 b1 b2 now a n c t := by
  refine ⟨_, _, _, _, rfl, rfl, rfl, rfl, ?_⟩
  have p1 := (Mod.refl (fun _ => False) w).alloc (.cells #[.int .u64 now, .slice a n c] 31)
  have p2 := (Mod.refl (fun _ => False) (w.alloc (.cells #[.int .u64 now, .slice a n c] 31))).alloc (.cells #[.int .i64 t.what, .int .u32 t.slot, .int .u64 t.birth, .int .u64 t.time, .slice t.ta t.tn t.tc] 38)
  have p3 := (Mod.refl (fun _ => False) ((w.alloc (.cells #[.int .u64 now, .slice a n c] 31)).alloc (.cells #[.int .i64 t.what, .int .u32 t.slot, .int .u64 t.birth, .int .u64 t.time, .slice t.ta t.tn t.tc] 38))).alloc (.cells #[.int .u64 0, .slice none 0 0] 31)
  refine ⟨(p1.trans p2).trans p3, Nat.le_refl _, by omega, by omega, ?_, ?_, ?_, by omega, by omega⟩
  · exact (p2.trans p3).heap (fun h => h) (heap_new rfl)
  · exact p3.heap (fun h => h) (heap_new (by simp))
  · exact heap_new (by simp)
theorem BoxD.cells {W u : World} {b0 b1 b2 : Nat} (h : BoxD w W b0 b1 b2 now a n c t) (hp : Pure W u) : u.cell? ⟨b0, 0, none⟩ = some (.int .u64 now) ∧ u.cell? ⟨b0, 1, none⟩ = some (.slice a n c) ∧ u.cell? ⟨b1, 0, none⟩ = some (.int .i64 t.what) ∧ u.cell? ⟨b1, 1, none⟩ = some (.int .u32 t.slot) ∧ u.cell? ⟨b1, 2, none⟩ = some (.int .u64 t.birth) ∧ u.cell? ⟨b1, 3, none⟩ = some (.int .u64 t.time) ∧ u.cell? ⟨b1, 4, none⟩ = some (.slice t.ta t.tn t.tc) := by
  obtain ⟨x0, x1⟩ := whbox (hp.heap (fun h => h) h.h0)
  have h1 := hp.heap (fun h => h) h.h1
  exact ⟨x0, x1, by rw [cell_of_row _ _ 0 _ _ _ h1]; rfl, by rw [cell_of_row _ _ 1 _ _ _ h1]; rfl, by rw [cell_of_row _ _ 2 _ _ _ h1]; rfl, by rw [cell_of_row _ _ 3 _ _ _ h1]; rfl, by rw [cell_of_row _ _ 4 _ _ _ h1]; rfl⟩
theorem KnD.setM2 (h : KnD w0 w D p now L) {s dl b : Nat} (h32 : s ≤ 4294967295) (hd : dl ≤ 18446744073709551615) (hb : b ≤ 18446744073709551615) :
    Calls Tryz.prog 9 #[lkP p, .int .u32 s, .int .u64 dl, .int .u64 b] w fun e w' => e = .returned (.int .i64 (setR now L s dl b)) ∧ ∃ D', KnD w0 w' D' p now (setL now L s dl b) ∧ grewD D D' w ∧ Mod D w w' := by
  refine (h.t.at_.set h32 hd hb).mono ?_
  rintro e w' ⟨rfl, ⟨D', hc, hg⟩, hm⟩
  exact ⟨rfl, D', h.step hc hg hm, hg, hm⟩
set_option maxHeartbeats 2000000 in
theorem dstep_set (h : StD w0 w p now a n c D L) (ht : A21Ok w0 t) (h0 : t.what = 0) :
    Calls Tryz.prog 8 #[lkP p, whV now a n c, act21V t] w (StPD w0 w a n c D) := by
  unfold whV act21V
  obtain ⟨W1, b0, b1, b2, hW, e0, e1, e2, hB⟩ := boxD_ok (w := w) (now := now) (a := a) (n := n) (c := c) (t := t)
  unfold boxD at hW
  have hx := hB.cells (Mod.refl _ W1)
  have hw0 : (t.what == 0) = true := by rw [h0]; rfl
  have hs1 := h.pure hB.pure
  have hlL := h.ks.count
  rw [h.rd.len] at hlL
  have hca := r21set_ok (now := now) hs1.rd hlL (s := t.slot) ht.d ht.b
  have hcc := fun (W : World) (hp : Pure W1 W) => (hs1.pure hp).ks.setM2 (s := t.slot) (dl := t.time) (b := t.birth) ht.s ht.d ht.b
  obtain ⟨er, her⟩ : ∃ y, setR now L t.slot t.time t.birth = y := ⟨_, rfl⟩
  obtain ⟨Ln, hLn⟩ : ∃ Ln, setL now L t.slot t.time t.birth = Ln := ⟨_, rfl⟩
  rw [her, hLn] at hca
  rw [her, hLn] at hcc
  unfold whV at hca
  have HB := Lib.hid hB; have HW := Lib.hid hW; have E0 := Lib.hid e0; have E1 := Lib.hid e1; have E2 := Lib.hid e2; have HCa := Lib.hid hca; have HCc := Lib.hid hcc; have HH := Lib.hid h
  have HK := Lib.hid (fun (u : World) (hp : Pure W1 u) => hB.cells hp)
  clear hB hW e0 e1 e2 hca hcc hs1 h her hLn hlL ht h0
  go_enter Tryz.func8, Tryz.ntmps8
  go_upto_region 1 with fail
  rw [HW.out, E2.out, E1.out, E0.out]
  clear HW E0 E1 E2
  obtain ⟨x0, x1, y0, y1, y2, y3, y4⟩ := hx
  go_upto_region 4 with (first
    | (go_at_call 24; refine Calls.mono HCa.out ?_; rintro e w4 ⟨a4, n4, c4, rfl, hr4, hk4, hp4⟩
       have HP4 := Lib.hid hp4; have HR4 := Lib.hid hr4; have HK4 := Lib.hid hk4
       clear hp4 hr4 hk4 x0 x1 y0 y1 y2 y3 y4))
  have pa := (Mod.refl (fun _ => False) w4).alloc (.cells #[.int .u64 now, .slice a4 n4 c4] 31)
  have h16 := heap_new (w := w4) (o := .cells #[.int .u64 now, .slice a4 n4 c4] 31 (0, 0)) rfl
  obtain ⟨b16, hb16⟩ : ∃ b, w4.heap.size = b := ⟨_, rfl⟩
  rw [hb16] at h16 ⊢
  generalize w4.alloc (.cells #[.int .u64 now, .slice a4 n4 c4] 31) = W5 at *
  have hlW : ∀ k, D k → k < w.heap.size := fun k hk => HH.out.ks.lt hk
  have hws := HB.out.pure.size
  have hw1s := HP4.out.size
  have hb2 := lt_of_block HB.out.h2
  have n9 : ¬ (D b16 ∨ b16 = b2) := fun e => by
    rcases e with e | e
    · have := hlW _ e; omega
    · omega
  have n1 : ¬ (D b1 ∨ b1 = b2) := fun e => by
    rcases e with e | e
    · have := hlW _ e; have := HB.out.z1; omega
    · exact HB.out.ne12 e
  have n2 : ¬ D b2 := fun e => by have := hlW _ e; have := HB.out.z2; omega
  have p5 := HP4.out.trans pa
  have hkm : ∀ u, Mod (fun k => D k ∨ k = b2) W5 u → u.cell? ⟨b16, 0, none⟩ = some (.int .u64 now) ∧ u.cell? ⟨b16, 1, none⟩ = some (.slice a4 n4 c4) ∧ u.cell? ⟨b1, 1, none⟩ = some (.int .u32 t.slot) ∧ u.cell? ⟨b1, 2, none⟩ = some (.int .u64 t.birth) ∧ u.cell? ⟨b1, 3, none⟩ = some (.int .u64 t.time) := fun u hm => by
    obtain ⟨x0, x1⟩ := whbox (hm.heap n9 h16)
    obtain ⟨_, _, _, y1, y2, y3, _⟩ := HK.out W5 p5
    exact ⟨x0, x1, hm.cell n1 y1, hm.cell n1 y2, hm.cell n1 y3⟩
  have hrb : ∀ g, rdBlock (.slice a4 n4 c4) = some g → g ≠ b2 := fun g hg => by
    rcases HK4.out.rd hg with e | e
    · have := HH.out.rd.lt e; have := HB.out.z2; omega
    · omega
  have hr5 := HR4.out.pure pa
  have HKm := Lib.hid hkm; have HRb := Lib.hid hrb; have HPx := Lib.hid p5; have HRx := Lib.hid hr5; have HN2 := Lib.hid n2; have HB2 := Lib.hid hb2
  have HX := Lib.hid (hkm W5 (Mod.refl _ _))
  clear hkm hrb p5 hr5 n2 n1 n9 hlW hws hw1s hb2 h16 pa hb16
  refine wp_region_held_drew (S := fun u => u.cell? ⟨b16, 0, none⟩ = some (.int .u64 now) ∧ u.cell? ⟨b16, 1, none⟩ = some (.slice a4 n4 c4) ∧ u.cell? ⟨b1, 1, none⟩ = some (.int .u32 t.slot) ∧ u.cell? ⟨b1, 2, none⟩ = some (.int .u64 t.birth) ∧ u.cell? ⟨b1, 3, none⟩ = some (.int .u64 t.time)) (by kernel_rfl) HX.out (fun hHeld => ?_)
  ((refine wpAnyH_take (i := 0) (v := ?_) rfl (by kernel_rfl) (by kernel_rfl) (by kernel_rfl) (fun _ _ _ h => h) (Yields.yieldsIf (Or.inl ⟨by rfl, ?_⟩)) hHeld ?_; rotate_left 1; focus (intro w; go_simp; try with_reducible rfl)); try simp only [Act.put, List.getElem_toArray, List.getElem_cons_zero, List.getElem_cons_succ, List.setIfInBounds_toArray, List.set_cons_zero, List.set_cons_succ])
  ((refine wpAnyH_take (i := 1) (v := ?_) rfl (by kernel_rfl) (by kernel_rfl) (by kernel_rfl) (fun _ _ _ h => h) (Or.inl ⟨by rfl, ?_⟩) hHeld ?_; rotate_left 1; focus (intro w hS; obtain ⟨s0, s1, s2, s3, s4⟩ := hS; go_simp; try with_reducible rfl)); try simp only [Act.put, List.getElem_toArray, List.getElem_cons_zero, List.getElem_cons_succ, List.setIfInBounds_toArray, List.set_cons_zero, List.set_cons_succ])
  ((refine wpAnyH_take (i := 2) (v := ?_) rfl (by kernel_rfl) (by kernel_rfl) (by kernel_rfl) (fun _ _ _ h => h) (Yields.yieldsIf (Or.inl ⟨by rfl, ?_⟩)) hHeld ?_; rotate_left 1; focus (intro w; go_simp; try with_reducible rfl)); try simp only [Act.put, List.getElem_toArray, List.getElem_cons_zero, List.getElem_cons_succ, List.setIfInBounds_toArray, List.set_cons_zero, List.set_cons_succ])
  ((refine wpAnyH_take (i := 3) (v := ?_) rfl (by kernel_rfl) (by kernel_rfl) (by kernel_rfl) (fun _ _ _ h => h) (Yields.yieldsIf (Or.inl ⟨by rfl, ?_⟩)) hHeld ?_; rotate_left 1; focus (intro w; go_simp; try with_reducible rfl)); try simp only [Act.put, List.getElem_toArray, List.getElem_cons_zero, List.getElem_cons_succ, List.setIfInBounds_toArray, List.set_cons_zero, List.set_cons_succ])
  ((refine wpAnyH_take (i := 4) (v := ?_) rfl (by kernel_rfl) (by kernel_rfl) (by kernel_rfl) (fun _ _ _ h => h) (Or.inl ⟨by rfl, ?_⟩) hHeld ?_; rotate_left 1; focus (intro w hS; obtain ⟨s0, s1, s2, s3, s4⟩ := hS; go_simp; try with_reducible rfl)); try simp only [Act.put, List.getElem_toArray, List.getElem_cons_zero, List.getElem_cons_succ, List.setIfInBounds_toArray, List.set_cons_zero, List.set_cons_succ])
  ((refine wpAnyH_take (i := 5) (v := ?_) rfl (by kernel_rfl) (by kernel_rfl) (by kernel_rfl) (fun _ _ _ h => h) (Yields.yieldsIf (Or.inl ⟨by rfl, ?_⟩)) hHeld ?_; rotate_left 1; focus (intro w; go_simp; try with_reducible rfl)); try simp only [Act.put, List.getElem_toArray, List.getElem_cons_zero, List.getElem_cons_succ, List.setIfInBounds_toArray, List.set_cons_zero, List.set_cons_succ])
  ((refine wpAnyH_take (i := 6) (v := ?_) rfl (by kernel_rfl) (by kernel_rfl) (by kernel_rfl) (fun _ _ _ h => h) (Or.inl ⟨by rfl, ?_⟩) hHeld ?_; rotate_left 1; focus (intro w hS; obtain ⟨s0, s1, s2, s3, s4⟩ := hS; go_simp; try with_reducible rfl)); try simp only [Act.put, List.getElem_toArray, List.getElem_cons_zero, List.getElem_cons_succ, List.setIfInBounds_toArray, List.set_cons_zero, List.set_cons_succ])
  ((refine wpAnyH_take (i := 7) (v := ?_) rfl (by kernel_rfl) (by kernel_rfl) (by kernel_rfl) (fun _ _ _ h => h) (Yields.yieldsIf (Or.inl ⟨by rfl, ?_⟩)) hHeld ?_; rotate_left 1; focus (intro w; go_simp; try with_reducible rfl)); try simp only [Act.put, List.getElem_toArray, List.getElem_cons_zero, List.getElem_cons_succ, List.setIfInBounds_toArray, List.set_cons_zero, List.set_cons_succ])
  ((refine wpAnyH_take (i := 8) (v := ?_) rfl (by kernel_rfl) (by kernel_rfl) (by kernel_rfl) (fun _ _ _ h => h) (Or.inl ⟨by rfl, ?_⟩) hHeld ?_; rotate_left 1; focus (intro w hS; obtain ⟨s0, s1, s2, s3, s4⟩ := hS; go_simp; try with_reducible rfl)); try simp only [Act.put, List.getElem_toArray, List.getElem_cons_zero, List.getElem_cons_succ, List.setIfInBounds_toArray, List.set_cons_zero, List.set_cons_succ])
  ((refine wpAnyH_take (i := 10) (v := ?_) rfl (by kernel_rfl) (by kernel_rfl) (by kernel_rfl) (fun _ _ _ h => h) (Yields.yieldsIf (Or.inl ⟨by rfl, ?_⟩)) hHeld ?_; rotate_left 1; focus (intro w; go_simp; try with_reducible rfl)); try simp only [Act.put, List.getElem_toArray, List.getElem_cons_zero, List.getElem_cons_succ, List.setIfInBounds_toArray, List.set_cons_zero, List.set_cons_succ])
  have HQ : Hid (Pure W5 W5.drew) := Lib.hid (Mod.refl _ _).drew
  ((refine wpAnyH_ready (rs := [9]) (by kernel_rfl) (by simp) ?_; refine AllReadyH.cons rfl (fun K hK => ?_) AllReadyH.nil; go_simp; refine Calls.mono (HCc.out _ (HPx.out.trans HQ.out)) ?_; rintro e u2 ⟨rfl, D6, hs6, hg6, hm6⟩; refine hK.out _ _ ?_ (fun hHeld => ?_); (· exact HKm.out _ ((Mod.of_pure HQ.out).trans (hm6.mono (fun _ _ h => .inl h)))); clear hK K); try simp only [Act.put, List.getElem_toArray, List.getElem_cons_zero, List.getElem_cons_succ, List.setIfInBounds_toArray, List.set_cons_zero, List.set_cons_succ])
  have h26 := hm6.heap HN2.out ((HPx.out.trans HQ.out).heap (fun h => h) HB.out.h2)
  have HF := Lib.hid (HH.out.fin (HB.out.pure.trans (HPx.out.trans HQ.out)) (HRx.out.pure HQ.out) (HK4.out.mono HB.out.pure.size) hs6 hg6 hm6 HB.out.z2 (Nat.lt_of_lt_of_le HB2.out (HPx.out.trans HQ.out).size) HRb.out (.int .u64 now) (.slice a4 n4 c4))
  have HM6 := Lib.hid hm6
  clear hs6 hg6 hm6
  have h26_0 := cell_of_row _ _ 0 _ _ _ h26; have h26_1 := cell_of_row _ _ 1 _ _ _ h26; have h26_f := (fun j => frozen_of_row _ _ j _ _ h26); have h26_l := lt_of_block h26; simp at h26_0 h26_1; have H_h26 := Lib.hid h26; clear h26
  ((refine wpAnyH_take (i := 11) (v := ?_) rfl (by kernel_rfl) (by kernel_rfl) (by kernel_rfl) (fun _ _ _ h => h) (Yields.yieldsIf (Or.inl ⟨by rfl, ?_⟩)) hHeld ?_; rotate_left 1; focus (intro w; go_simp; try with_reducible rfl)); try simp only [Act.put, List.getElem_toArray, List.getElem_cons_zero, List.getElem_cons_succ, List.setIfInBounds_toArray, List.set_cons_zero, List.set_cons_succ])
  ((refine wpAnyH_take (i := 12) (v := ?_) rfl (by kernel_rfl) (by kernel_rfl) (by kernel_rfl) (fun _ _ _ h => h) (Yields.yieldsIf (Or.inl ⟨by rfl, ?_⟩)) hHeld ?_; rotate_left 1; focus (intro w; go_simp; try with_reducible rfl)); try simp only [Act.put, List.getElem_toArray, List.getElem_cons_zero, List.getElem_cons_succ, List.setIfInBounds_toArray, List.set_cons_zero, List.set_cons_succ])
  ((refine wpAnyH_ready (rs := [13]) (by kernel_rfl) (by simp) ?_; refine AllReadyH.cons rfl (fun K hK => ?_) AllReadyH.nil; go_simp; skip; refine hK.out _ _ ?_ (fun hHeld => ?_); (· exact HKm.out _ (((Mod.of_pure HQ.out).trans (HM6.out.mono (fun _ _ h => .inl h))).trans ((Mod.set2 b2 0 1 _ _).mono (fun _ _ h => .inr h)))); clear hK K); try simp only [Act.put, List.getElem_toArray, List.getElem_cons_zero, List.getElem_cons_succ, List.setIfInBounds_toArray, List.set_cons_zero, List.set_cons_succ])
  ((refine wpAnyH_take (i := 14) (v := ?_) rfl (by kernel_rfl) (by kernel_rfl) (by kernel_rfl) (fun _ _ _ h => h) (Yields.yieldsIf (Or.inl ⟨by rfl, ?_⟩)) hHeld ?_; rotate_left 1; focus (intro w; go_simp; try with_reducible rfl)); try simp only [Act.put, List.getElem_toArray, List.getElem_cons_zero, List.getElem_cons_succ, List.setIfInBounds_toArray, List.set_cons_zero, List.set_cons_succ])
  refine wpAnyH_done (by kernel_rfl) ?_ _
  clear hHeld
  go_wp2
  refine bodyPost_ret (v := .tuple #[lkP p, .agg #[.int .u64 now, .slice a4 n4 c4], .bool true]) (by simp [results, Tryz.results8, go_sem, h26_0, h26_1, h26_l]) rfl ⟨p, now, a4, n4, c4, D6, Ln, rfl, HF.out.1, HF.out.2.1, HK4.out.mono HB.out.pure.size, HF.out.2.2⟩
end
end Go.Proofs.YtlalpenfgkfkpaaGreatDoor
