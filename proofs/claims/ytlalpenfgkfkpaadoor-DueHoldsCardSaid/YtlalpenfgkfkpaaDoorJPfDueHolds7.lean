/- Lemmas and contracts of functions, strung together out of 10 texts. No condition. -/
import Derived.Test.YtlalpenfgkfkpaaDoorJPfDueHolds6
import Derived.Deep.RegionHeld3
import Derived.Test.YtlalpenfgkfkpaaDoorJPfDueHolds2
import Derived.Test.YtlalpenfgkfkpaaDoorJPfDueHolds5
import Derived.Sort.Grow
import Derived.WalkSpells
import Derived.Shelf.SlLaysF0
import Derived.Test.YtlalpenfgkfkpaaDoorProg
import Derived.Shelf.SlSortCmp.NoneTotal
import Derived.Deep.Slices
/- A region that draws, within a round, by the laws of the plain walk (a condition S on the world that every operation keeps): its reads can be taken first. -/
namespace Go.Proofs.YtlalpenfgkfkpaaDoor
open Go.RowKit Go.Shelf
variable {P : Program}

theorem wpOpIn_of_plain {ops : Array Oper} {Q : Exit → Act → World → Prop} (hL : ¬ LetsOut Q) {i : Nat} {K : Act → World → Prop} {a : Act} {w : World} (h : wpOp P ops Q i K a w) : wpOpIn Fence.wide 0 P ops Q i K a w := by
  unfold wpOp at h
  unfold wpOpIn
  cases ho : ops[i]? with
  | none => rw [ho] at h; exact h
  | some o =>
    rw [ho] at h
    dsimp only at h ⊢
    split
    · rename_i hw
      rw [if_pos hw] at h
      rcases h with h | h
      · unfold Oper.wpIn
        refine ⟨fun f _ => trivial, ?_⟩
        rw [show Fence.wide.round = none from rfl, Oper.semAt_none]
        unfold Oper.wp at h
        generalize (execOp a.eval o).run P w = r at h ⊢
        cases r with
        | ok x w' =>
          cases x <;> simp only [Oper.upon, Oper.uponIn] at h ⊢
          all_goals first | exact h | exact h.elim | exact ⟨fun hc => (by cases hc), callsIn_wide.2 h⟩ | exact ⟨fun hc => (by cases hc), fun c cs _ => let ⟨v, w', r, s⟩ := h c cs; ⟨v, w', r, stepsIn_wide.2 s⟩⟩
        | halt x w' =>
          cases x <;> simp only [Oper.upon, Oper.uponIn] at h ⊢
          all_goals first | exact h | exact h.elim
      · exact absurd h.2 hL
    · rename_i hw
      rw [if_neg hw] at h
      exact ⟨fun f _ => trivial, h⟩
theorem wpAnyIn_of_plain {md : Region.Mode} {ops : Array Oper} {Q : Exit → Act → World → Prop} (hL : ¬ LetsOut Q) : ∀ (fuel : Nat) (listed : Array Bool) (a : Act) (w : World),
    wpAny P md ops Q fuel listed a w → wpAnyIn Fence.wide 0 P md ops Q fuel listed a w
  | 0, _, _, _, h => h
  | fuel + 1, listed, _, _, h => ⟨h.1, fun i hi => wpOpIn_of_plain hL (wpOp_mono (fun _ _ hk => wpAnyIn_of_plain hL fuel _ _ _ hk) (h.2 i hi))⟩
/-- A region that draws, within a round, by a condition on the world. -/
theorem region_held {l id : Nat} {ops : Array Oper} {Q : Exit → Act → World → Prop} {a : Act} {w : World} (S : World → Prop) (hm : P.follows .mixedOrders = true) (hd : noDefer ops = true) (hL : ¬ LetsOut Q) (hS : S w.drew)
    (h : S w.drew → wpAnyH P .any ops Q S ops.size (Array.replicate ops.size false) a w.drew) : (Code.region id ops true).wpIn (Fence.wide.inRound l) 0 P Q a w :=
  region_in hm hd (wpAnyIn_of_plain hL _ _ _ _ (wpAny_of_held _ _ _ _ (h hS)))

/-! ### a function's end behind several ranges over a function -/
def marksOf (ls : List Nat) : List Deferred := ls.map (fun l => { target := .collected l, args := #[] })
theorem bodyPostM_marks {fn : Func} {R : Ending → World → Prop} {tmps : Array Value} {N : Nat} {v : Value} : ∀ {ls : List Nat} {W : World} (_ : ∀ l ∈ ls, W.heap[l]? = some (.deferred (some []))) (_ : ls.Nodup) (_ : ∀ l ∈ ls, N ≤ l)
    (_ : ∀ W', (results fn tmps).run P W' = .ok v W') (_ : ∀ W', Quiet N W W' → R (.returned v) W'), bodyPostM Fence.wide 0 P fn R .ret { tmps := tmps, defers := marksOf ls } W
  | [], W, _, _, _, hr, hR => ⟨v, hr W, hR W (Quiet.refl _ _)⟩
  | l :: ls, W, hm, hn, hN, hr, hR => by
    have hk := hm l (by simp)
    refine ⟨by simp, .inl ⟨_, _, rfl, run_takeDeferred hk, ?_⟩⟩
    have hq : Quiet N W (W.putObj l (.deferred none)) := Quiet.putObj (.deferred none) (hN l (by simp)) hk rfl
    refine bodyPostM_marks (ls := ls) (fun l' hl' => ?_) (List.nodup_cons.1 hn).2 (fun l' hl' => hN l' (by simp [hl'])) hr (fun W' hW' => hR W' (hq.trans hW'))
    have hne : l' ≠ l := fun e => (List.nodup_cons.1 hn).1 (e ▸ hl')
    exact (World.putObj_heap_other hne).trans (hm l' (by simp [hl']))
end Go.Proofs.YtlalpenfgkfkpaaDoor

/- due: deadlines in memory; check, Now, Next. Conditions: they lie in memory. -/
namespace Go.Proofs.YtlalpenfgkfkpaaDoor
open Go.RowKit Go.Shelf
set_option maxRecDepth 100000
/-- Those with a deadline. -/
def timedL (M : List Td) : List Td := M.filter (fun x => decide (x.dl ≠ 18446744073709551615))
/-- What is so of all slots. -/
structure DueL (now : Nat) (M : List Td) : Prop where
  ord : M.Pairwise bef
  slots : ∀ x ∈ M, ∀ y ∈ M, x.slot = y.slot → x = y
  births : ∀ x ∈ M, ∀ y ∈ M, x.birth = y.birth → x = y
  rng : ∀ x ∈ M, x.slot < 4194304 ∧ (now < x.dl ∨ x.dl = 18446744073709551615) ∧ x.dl ≤ 18446744073709551615 ∧ 0 < x.birth ∧ x.birth ≤ 18446744073709551615
structure DueMem (w : World) (D : Nat → Prop) (p now q bb bs : Nat) (Dc : Nat → Prop) (Db Ds : DataW Unit) (M L : List Td) : Prop where
  box : w.heap[p]? = some (.cells #[lkP q, .map (some bb), .map (some bs)] 85 (0, 0))
  cas : CasAt w Dc q now L
  births : NMap w bb M Db
  slots : TMap w bs M Ds
  np : ¬ Dc p
  nbb : ¬ Dc bb
  nbs : ¬ Dc bs
  ne : p ≠ bb ∧ p ≠ bs ∧ bb ≠ bs
  dd : ∀ k, D k ↔ k = p ∨ k = bb ∨ k = bs ∨ Dc k
section
variable {w w' : World} {D : Nat → Prop} {p now q bb bs : Nat} {Dc : Nat → Prop} {Db Ds : DataW Unit} {M L : List Td}
theorem DueMem.frame {S : Nat → Prop} (h : DueMem w D p now q bb bs Dc Db Ds M L) (hm : Mod S w w') (hd : ∀ k, D k → ¬ S k) : DueMem w' D p now q bb bs Dc Db Ds M L :=
  ⟨hm.heap (hd p ((h.dd p).2 (.inl rfl))) h.box, h.cas.frame hm (fun k hk => hd k ((h.dd k).2 (.inr (.inr (.inr hk))))), h.births.mod hm (hd bb ((h.dd bb).2 (.inr (.inl rfl)))), h.slots.mod hm (hd bs ((h.dd bs).2 (.inr (.inr (.inl rfl))))), h.np, h.nbb, h.nbs, h.ne, h.dd⟩
theorem DueMem.pure (h : DueMem w D p now q bb bs Dc Db Ds M L) (hp : Pure w w') : DueMem w' D p now q bb bs Dc Db Ds M L := h.frame hp (fun _ _ h => h)
theorem DueMem.cells (h : DueMem w D p now q bb bs Dc Db Ds M L) : w.cell? ⟨p, 0, none⟩ = some (lkP q) ∧ w.cell? ⟨p, 1, none⟩ = some (.map (some bb)) ∧ w.cell? ⟨p, 2, none⟩ = some (.map (some bs)) :=
  ⟨by rw [cell_of_row _ _ 0 _ _ _ h.box]; rfl, by rw [cell_of_row _ _ 1 _ _ _ h.box]; rfl, by rw [cell_of_row _ _ 2 _ _ _ h.box]; rfl⟩
theorem DueMem.lt (h : DueMem w D p now q bb bs Dc Db Ds M L) {k : Nat} (hk : D k) : k < w.heap.size := by
  rcases (h.dd k).1 hk with rfl | rfl | rfl | e
  · exact lt_of_block h.box
  · exact h.births.own.lt
  · exact h.slots.own.lt
  · exact h.cas.lt e
theorem dcheck_ok (h : DueMem w D p now q bb bs Dc Db Ds M L) {s : Nat} (h32 : s ≤ 4294967295) : Calls Tryd.prog 69 #[lkP p, .int .u32 s] w fun e w' => e = .returned (.int .i64 (if s < 4194304 then 0 else 2)) ∧ w = w' := by
  obtain ⟨c0, c1, c2⟩ := h.cells
  unfold lkP at c0
  by_cases hs : s < 4194304
  · rw [if_pos hs]
    have hs' : ¬ (4194304 : Int) ≤ (s : Int) := by omega
    clear h h32 hs c1 c2
    unfold lkP
    go_enter Tryd.func69, Tryd.ntmps69
    go_wp2
    go_ret
    exact ⟨rfl, rfl⟩
  · rw [if_neg hs]
    have hs' : (4194304 : Int) ≤ (s : Int) := by omega
    clear h h32 hs c1 c2
    unfold lkP
    go_enter Tryd.func69, Tryd.ntmps69
    go_wp2
    go_ret
    exact ⟨rfl, rfl⟩
theorem dcheck0 (h : DueMem w D p now q bb bs Dc Db Ds M L) : Calls Tryd.prog 69 #[lkP p, .int .u32 0] w fun e w' => e = .returned (.int .i64 0) ∧ w = w' := dcheck_ok h (s := 0) (by omega)
theorem dnow_ok (h : DueMem w D p now q bb bs Dc Db Ds M L) : Calls Tryd.prog 38 #[lkP p] w fun e w' => e = .returned (.int .u64 now) ∧ w = w' := by
  obtain ⟨c0, c1, c2⟩ := h.cells
  have HC := Lib.hid (dcheck0 h); have HN := Lib.hid h.cas.now_
  clear h c1 c2
  unfold lkP at c0
  have c0' : w.cell? ⟨p, 0, none⟩ = some (lkP q) := c0
  clear c0
  go_enter Tryd.func38, Tryd.ntmps38
  go_wp2_with (first
    | (go_at_call 69; refine Calls.mono HC.out ?_; rintro e w' ⟨rfl, rfl⟩)
    | (go_at_call 28; refine Calls.mono HN.out ?_; rintro e w' ⟨rfl, rfl⟩))
  go_ret
  exact ⟨rfl, rfl⟩
end
end Go.Proofs.YtlalpenfgkfkpaaDoor

/- cascade.Advance's closure, cmp.Compare, cmp.Or, tick.Due. Conditions: none, but for Or: two numbers lie in a block. -/
namespace Go.Proofs.YtlalpenfgkfkpaaDoor
open Go.RowKit Go.Sort
set_option maxRecDepth 100000
def cmpN (a b : Nat) : Int := if a < b then -1 else if b < a then 1 else 0
theorem cmpN_cases (a b : Nat) : (a < b ∧ cmpN a b = -1) ∨ (b < a ∧ cmpN a b = 1) ∨ (a = b ∧ cmpN a b = 0) := by
  unfold cmpN
  rcases Nat.lt_trichotomy a b with h | h | h
  · exact .inl ⟨h, by rw [if_pos h]⟩
  · exact .inr (.inr ⟨h, by rw [if_neg (by omega), if_neg (by omega)]⟩)
  · exact .inr (.inl ⟨h, by rw [if_neg (by omega), if_pos h]⟩)
theorem isNaN_T (a : Nat) (w : World) : Calls Tryd.prog 82 #[.int .u64 a] w fun e w' => e = .returned (.bool false) ∧ w = w' := by
  go_enter Tryd.func82, Tryd.ntmps82
  go_wp2
  go_ret
  exact ⟨by simp, rfl⟩
theorem isNaN_U (a : Nat) (w : World) : Calls Tryd.prog 83 #[.int .u64 a] w fun e w' => e = .returned (.bool false) ∧ w = w' := by
  go_enter Tryd.func83, Tryd.ntmps83
  go_wp2
  go_ret
  exact ⟨by simp, rfl⟩
theorem Compare_T (a b : Nat) (w : World) : Calls Tryd.prog 56 #[.int .u64 a, .int .u64 b] w fun e w' => e = .returned (.int .i64 (cmpN a b)) ∧ w = w' := by
  rcases cmpN_cases a b with ⟨h, e⟩ | ⟨h, e⟩ | ⟨h, e⟩
  · rw [e]
    have h1 : (a : Int) < (b : Int) := by omega
    clear e
    go_enter Tryd.func56, Tryd.ntmps56
    go_wp2_with (go_at_call 82; refine Calls.mono (isNaN_T _ _) ?_; rintro e w' ⟨rfl, rfl⟩)
    go_ret
    exact ⟨rfl, rfl⟩
  · rw [e]
    have h1 : ¬ (a : Int) < (b : Int) := by omega
    have h2 : (b : Int) < (a : Int) := by omega
    clear e
    go_enter Tryd.func56, Tryd.ntmps56
    go_wp2_with (go_at_call 82; refine Calls.mono (isNaN_T _ _) ?_; rintro e w' ⟨rfl, rfl⟩)
    go_ret
    exact ⟨rfl, rfl⟩
  · subst h
    rw [e]
    clear e
    go_enter Tryd.func56, Tryd.ntmps56
    go_wp2_with (go_at_call 82; refine Calls.mono (isNaN_T _ _) ?_; rintro e w' ⟨rfl, rfl⟩)
    go_ret
    exact ⟨rfl, rfl⟩
theorem Compare_U (a b : Nat) (w : World) : Calls Tryd.prog 57 #[.int .u64 a, .int .u64 b] w fun e w' => e = .returned (.int .i64 (cmpN a b)) ∧ w = w' := by
  rcases cmpN_cases a b with ⟨h, e⟩ | ⟨h, e⟩ | ⟨h, e⟩
  · rw [e]
    have h1 : (a : Int) < (b : Int) := by omega
    clear e
    go_enter Tryd.func57, Tryd.ntmps57
    go_wp2_with (go_at_call 83; refine Calls.mono (isNaN_U _ _) ?_; rintro e w' ⟨rfl, rfl⟩)
    go_ret
    exact ⟨rfl, rfl⟩
  · rw [e]
    have h1 : ¬ (a : Int) < (b : Int) := by omega
    have h2 : (b : Int) < (a : Int) := by omega
    clear e
    go_enter Tryd.func57, Tryd.ntmps57
    go_wp2_with (go_at_call 83; refine Calls.mono (isNaN_U _ _) ?_; rintro e w' ⟨rfl, rfl⟩)
    go_ret
    exact ⟨rfl, rfl⟩
  · subst h
    rw [e]
    clear e
    go_enter Tryd.func57, Tryd.ntmps57
    go_wp2_with (go_at_call 83; refine Calls.mono (isNaN_U _ _) ?_; rintro e w' ⟨rfl, rfl⟩)
    go_ret
    exact ⟨rfl, rfl⟩
/-- tick.Due. -/
theorem due_ok (dl tt : Nat) (hd : dl < 18446744073709551615) (w : World) : Calls Tryd.prog 51 #[.int .u64 dl, .int .u64 tt] w fun e w' => e = .returned (.bool (decide (dl ≤ tt))) ∧ w = w' := by
  have h1 : ((dl : Int) == 18446744073709551615) = false := by simp; omega
  have h2 : ((dl : Int) != 18446744073709551615) = true := by simp; omega
  by_cases h : dl ≤ tt
  · have h3 : (dl : Int) ≤ (tt : Int) := by omega
    rw [decide_eq_true h]
    go_enter Tryd.func51, Tryd.ntmps51
    go_wp2
    go_ret
    exact ⟨by simp [h], rfl⟩
  · have h3 : ¬ (dl : Int) ≤ (tt : Int) := by omega
    rw [decide_eq_false h]
    go_enter Tryd.func51, Tryd.ntmps51
    go_wp2
    go_ret
    exact ⟨by simp [h], rfl⟩
theorem Or_ok {w : World} {B : Nat} {x y : Int} (hx : w.cell? ⟨B, 0, none⟩ = some (.int .i64 x)) (hy : w.cell? ⟨B, 1, none⟩ = some (.int .i64 y)) :
    Calls Tryd.prog 55 #[.slice (some ⟨B, 0, none⟩) 2 2] w fun e w' => e = .returned (.int .i64 (if x = 0 then y else x)) ∧ w = w' := by
  by_cases e1 : x = 0
  · rw [if_pos e1]
    subst e1
    by_cases e2 : y = 0
    · subst e2
      go_enter Tryd.func55, Tryd.ntmps55
      go_upto_region 3 with fail
      refine wp_loop_rounds 3 ?_
      rw [rounds_succ]
      go_wp2
      rw [rounds_succ]
      go_wp2
      rw [rounds_succ]
      go_wp2
      go_ret
      exact ⟨rfl, rfl⟩
    · go_enter Tryd.func55, Tryd.ntmps55
      go_upto_region 3 with fail
      refine wp_loop_rounds 3 ?_
      rw [rounds_succ]
      go_wp2
      rw [rounds_succ]
      have h1 : (y == 0) = false := by simpa using e2
      have h2 : (y != 0) = true := by simpa using e2
      go_wp2
      go_ret
      exact ⟨rfl, rfl⟩
  · rw [if_neg e1]
    have h1 : (x == 0) = false := by simpa using e1
    have h2 : (x != 0) = true := by simpa using e1
    go_enter Tryd.func55, Tryd.ntmps55
    go_upto_region 3 with fail
    refine wp_loop_rounds 3 ?_
    rw [rounds_succ]
    go_wp2
    go_ret
    exact ⟨rfl, rfl⟩
theorem Or_is {w : World} {B : Nat} {x y c : Int} (hc : (if x = 0 then y else x) = c) (hx : w.cell? ⟨B, 0, none⟩ = some (.int .i64 x)) (hy : w.cell? ⟨B, 1, none⟩ = some (.int .i64 y)) :
    Calls Tryd.prog 55 #[.slice (some ⟨B, 0, none⟩) 2 2] w fun e w' => e = .returned (.int .i64 c) ∧ w = w' := by rw [← hc]; exact Or_ok hx hy
/-- The closure's answer. -/
def cfT (x y : Td) : Int := if cmpN x.dl y.dl = 0 then cmpN x.birth y.birth else cmpN x.dl y.dl
/-- What only grows and draws. -/
def Grw (w w' : World) : Prop := ∃ q os, w' = Go.Sort.grow (w.drewN q) os
theorem Grw.refl (w : World) : Grw w w := ⟨0, #[], by simp [World.drewN]⟩
theorem Grw.alloc {w w' : World} (h : Grw w w') (o : Obj) : Grw w (w'.alloc o) := by
  obtain ⟨q, os, rfl⟩ := h
  exact ⟨q, os ++ #[o], by rw [Go.Sort.alloc_eq_grow, Go.Sort.grow_grow]⟩
theorem Grw.drew {w w' : World} (h : Grw w w') : Grw w w'.drew := by
  obtain ⟨q, os, rfl⟩ := h
  exact ⟨q + 1, os, rfl⟩
theorem info_i : (Tryd.prog.info? 3).map (fun i => (i.zero, i.size, i.bytes)) = some (some (.int .i64 0), 1, 8) := by kernel_rfl
theorem keep_cells {W w' : World} {b2 b3 : Nat} {c2 c3 : Array Value} {T : TypeId} (h2 : W.heap[b2]? = some (.cells c2 T (0, 0))) (h3 : W.heap[b3]? = some (.cells c3 T (0, 0))) (hm : Pure W w') : w'.heap[b2]? = some (.cells c2 T (0, 0)) ∧ w'.heap[b3]? = some (.cells c3 T (0, 0)) := ⟨hm.heap (fun h => h) h2, hm.heap (fun h => h) h3⟩
theorem Grw.pure {w w' : World} (h : Grw w w') : Pure w w' := by
  obtain ⟨q, os, rfl⟩ := h
  refine ⟨rfl, rfl, rfl, by simp [Go.Sort.grow, World.drewN], fun k hk _ => ?_⟩
  show (w.heap ++ os)[k]? = w.heap[k]?
  rw [Array.getElem?_append_left hk]
set_option maxHeartbeats 1000000 in
theorem clos_ok (x y : Td) (w : World) : Calls Tryd.prog 54 #[tdV x, tdV y] w fun e w' => e = .returned (.int .i64 (cfT x y)) ∧ Grw w w' := by
  unfold tdV
  have h2 := heap_new (w := w) (o := .cells #[.int .u32 x.slot, .int .u64 x.dl, .int .u64 x.birth] 31 (0, 0)) rfl
  have g1 := (Grw.refl w).alloc (.cells #[.int .u32 x.slot, .int .u64 x.dl, .int .u64 x.birth] 31 (0, 0))
  have h3 := heap_new (w := w.alloc (.cells #[.int .u32 x.slot, .int .u64 x.dl, .int .u64 x.birth] 31 (0, 0))) (o := .cells #[.int .u32 y.slot, .int .u64 y.dl, .int .u64 y.birth] 31 (0, 0)) (n := w.heap.size + 1) (by simp)
  have h2 := ((Mod.refl (fun _ => False) _).alloc (.cells #[.int .u32 y.slot, .int .u64 y.dl, .int .u64 y.birth] 31 (0, 0))).heap (fun h => h) h2
  have g1 := g1.alloc (.cells #[.int .u32 y.slot, .int .u64 y.dl, .int .u64 y.birth] 31 (0, 0))
  obtain ⟨c, hc⟩ : ∃ c, cfT x y = c := ⟨_, rfl⟩
  have HC := Lib.hid hc
  rw [hc]
  clear hc
  obtain ⟨i0, hi, iz0, iz1, iz2⟩ := info_parts info_i
  go_enter Tryd.func54, Tryd.ntmps54
  go_upto_region 1 with fail
  generalize (w.alloc (.cells #[.int .u32 x.slot, .int .u64 x.dl, .int .u64 x.birth] 31)).alloc (.cells #[.int .u32 y.slot, .int .u64 y.dl, .int .u64 y.birth] 31) = W at *
  generalize w.heap.size = b2 at *
  have G1 := Lib.hid g1; have H2 := Lib.hid h2; have H3 := Lib.hid h3
  clear g1
  obtain ⟨c1, hc1⟩ : ∃ c1, cmpN x.dl y.dl = c1 := ⟨_, rfl⟩
  obtain ⟨c2, hc2⟩ : ∃ c2, cmpN x.birth y.birth = c2 := ⟨_, rfl⟩
  have k1 := Compare_T x.dl y.dl
  have k2 := Compare_U x.birth y.birth
  rw [hc1] at k1
  rw [hc2] at k2
  have hcc : (if c1 = 0 then c2 else c1) = c := by rw [← HC.out, ← hc1, ← hc2]; rfl
  have HCC := Lib.hid hcc; have K1 := Lib.hid k1; have K2 := Lib.hid k2
  clear hcc k1 k2 hc1 hc2
  have hK : ∀ W', Pure W W' → W'.cell? ⟨b2, 1, none⟩ = some (.int .u64 x.dl) ∧ W'.cell? ⟨b2 + 1, 1, none⟩ = some (.int .u64 y.dl) ∧ W'.cell? ⟨b2, 2, none⟩ = some (.int .u64 x.birth) ∧ W'.cell? ⟨b2 + 1, 2, none⟩ = some (.int .u64 y.birth) := fun W' hp => by
    obtain ⟨e2, e3⟩ := keep_cells H2.out H3.out hp
    refine ⟨?_, ?_, ?_, ?_⟩ <;> first | (rw [cell_of_row _ _ _ _ _ _ e2]; rfl) | (rw [cell_of_row _ _ _ _ _ _ e3]; rfl)
  have HK := Lib.hid hK
  have hK0 := hK W (Mod.refl _ _)
  obtain ⟨z1, z2, z3, z4⟩ := hK0
  clear hK h2 h3
  go_region_held3 (fun w' => w'.cell? ⟨b2, 1, none⟩ = some (.int .u64 x.dl) ∧ w'.cell? ⟨b2 + 1, 1, none⟩ = some (.int .u64 y.dl) ∧ w'.cell? ⟨b2, 2, none⟩ = some (.int .u64 x.birth) ∧ w'.cell? ⟨b2 + 1, 2, none⟩ = some (.int .u64 y.birth)) (first | go_keep | exact ⟨z1, z2, z3, z4⟩)
    (first
      | (go_at_call 56; refine Calls.mono (K1.out _) ?_; rintro e w' ⟨rfl, rfl⟩)
      | (go_at_call 57; refine Calls.mono (K2.out _) ?_; rintro e w' ⟨rfl, rfl⟩)
      | (go_at_call 55; refine Calls.mono (Or_is (x := c1) (y := c2) HCC.out ((cell_of_row _ _ 0 _ _ _ (heap_new rfl)).trans rfl) ((cell_of_row _ _ 1 _ _ _ (heap_new rfl)).trans rfl)) ?_; rintro e w' ⟨rfl, rfl⟩))
  go_wp2
  go_ret
  exact ⟨rfl, by first | exact (G1.out.alloc _).drew | exact G1.out.alloc _⟩
end Go.Proofs.YtlalpenfgkfkpaaDoor

/- The laying of a library function of this program. No condition. -/
namespace Go.Proofs.YtlalpenfgkfkpaaDoor
open Go.Shelf Go.Proofs
def sortTd_ren : Go.Shelf.Ren := ⟨fun | 6 => 53 | 15 => 81 | 14 => 80 | 28 => 105 | 29 => 78 | 20 => 97 | 21 => 98 | 22 => 99 | 23 => 100 | 24 => 101 | 25 => 102 | 26 => 103 | 27 => 104 | 46 => 116 | 47 => 117 | 48 => 118 | 49 => 119 | 50 => 120 | 57 => 124 | n => n, fun | 22 => 28 | 24 => 31 | 25 => 107 | 3 => 3 | 39 => 137 | 0 => 0 | 53 => 29 | 55 => 22 | 4 => 4 | 46 => 161 | 45 => 160 | 50 => 143 | 5 => 5 | 9 => 9 | 66 => 174 | 70 => 178 | 76 => 182 | 77 => 99 | n => n, fun | n => n⟩
theorem sortTd : Go.Proofs.SlLaysF0.n6 Tryd.prog sortTd_ren := {
  mixed := by kernel_rfl
  f6 := ⟨Tryd.f53.name, by decide, Tryd.func53.trans (congrArg some (by kernel_rfl))⟩
  f14 := ⟨Tryd.f80.name, by decide, Tryd.func80.trans (congrArg some (by kernel_rfl))⟩
  f15 := Tryd.func81.trans (congrArg some (by kernel_rfl))
  f20 := ⟨Tryd.f97.name, by decide, Tryd.func97.trans (congrArg some (by kernel_rfl))⟩
  f21 := ⟨Tryd.f98.name, by decide, Tryd.func98.trans (congrArg some (by kernel_rfl))⟩
  f22 := ⟨Tryd.f99.name, by decide, Tryd.func99.trans (congrArg some (by kernel_rfl))⟩
  f23 := ⟨Tryd.f100.name, by decide, Tryd.func100.trans (congrArg some (by kernel_rfl))⟩
  f24 := ⟨Tryd.f101.name, by decide, Tryd.func101.trans (congrArg some (by kernel_rfl))⟩
  f25 := ⟨Tryd.f102.name, by decide, Tryd.func102.trans (congrArg some (by kernel_rfl))⟩
  f26 := ⟨Tryd.f103.name, by decide, Tryd.func103.trans (congrArg some (by kernel_rfl))⟩
  f27 := ⟨Tryd.f104.name, by decide, Tryd.func104.trans (congrArg some (by kernel_rfl))⟩
  f28 := Tryd.func105.trans (congrArg some (by kernel_rfl))
  f29 := Tryd.func78.trans (congrArg some (by kernel_rfl))
  f46 := ⟨Tryd.f116.name, by decide, Tryd.func116.trans (congrArg some (by kernel_rfl))⟩
  f47 := Tryd.func117.trans (congrArg some (by kernel_rfl))
  f48 := Tryd.func118.trans (congrArg some (by kernel_rfl))
  f49 := ⟨Tryd.f119.name, by decide, Tryd.func119.trans (congrArg some (by kernel_rfl))⟩
  f50 := ⟨Tryd.f120.name, by decide, Tryd.func120.trans (congrArg some (by kernel_rfl))⟩
  f57 := ⟨Tryd.f124.name, by decide, Tryd.func124.trans (congrArg some (by kernel_rfl))⟩
  t0 := Tryd.underlying0
  a0 := Tryd.isAgg0
  z0 := Tryd.sizeOf0
  v0 := Tryd.zeroValue0
  t3 := Tryd.underlying3
  a3 := Tryd.isAgg3
  z3 := Tryd.sizeOf3
  v3 := Tryd.zeroValue3
  t4 := Tryd.underlying4
  a4 := Tryd.isAgg4
  z4 := Tryd.sizeOf4
  v4 := Tryd.zeroValue4
  t5 := Tryd.underlying5
  a5 := Tryd.isAgg5
  z5 := Tryd.sizeOf5
  v5 := Tryd.zeroValue5
  t9 := Tryd.underlying9
  a9 := Tryd.isAgg9
  z9 := Tryd.sizeOf9
  v9 := Tryd.zeroValue9
  t22 := Tryd.underlying28
  a22 := Tryd.isAgg28
  z22 := Tryd.sizeOf28
  v22 := Tryd.zeroValue28
  t25 := Tryd.underlying107
  a25 := Tryd.isAgg107
  z25 := Tryd.sizeOf107
  v25 := Tryd.zeroValue107
  t39 := Tryd.underlying137
  a39 := Tryd.isAgg137
  z39 := Tryd.sizeOf137
  v39 := Tryd.zeroValue137
  t45 := Tryd.underlying160
  a45 := Tryd.isAgg160
  z45 := Tryd.sizeOf160
  v45 := Tryd.zeroValue160
  t46 := Tryd.underlying161
  a46 := Tryd.isAgg161
  z46 := Tryd.sizeOf161
  v46 := Tryd.zeroValue161
  t50 := Tryd.underlying143
  a50 := Tryd.isAgg143
  z50 := Tryd.sizeOf143
  v50 := Tryd.zeroValue143
  t53 := Tryd.underlying29
  a53 := Tryd.isAgg29
  z53 := Tryd.sizeOf29
  v53 := Tryd.zeroValue29
  t55 := Tryd.underlying22
  a55 := Tryd.isAgg22
  z55 := Tryd.sizeOf22
  v55 := Tryd.zeroValue22
  t66 := Tryd.underlying174
  a66 := Tryd.isAgg174
  z66 := Tryd.sizeOf174
  v66 := Tryd.zeroValue174
  t70 := Tryd.underlying178
  a70 := Tryd.isAgg178
  z70 := Tryd.sizeOf178
  v70 := Tryd.zeroValue178
  t76 := Tryd.underlying182
  a76 := Tryd.isAgg182
  z76 := Tryd.sizeOf182
  v76 := Tryd.zeroValue182
  t77 := Tryd.underlying99
  a77 := Tryd.isAgg99
  z77 := Tryd.sizeOf99
  v77 := Tryd.zeroValue99 }
end Go.Proofs.YtlalpenfgkfkpaaDoor

/- slices.SortFunc over what is timed, by its deadline and birth. Conditions: the elements lie in an own row, with births apart. -/
namespace Go.Proofs.YtlalpenfgkfkpaaDoor
open Go.RowKit Go.Sort Go.Shelf
set_option maxRecDepth 100000
instance tdInh : Inhabited Td := ⟨⟨0, 0, 0⟩⟩
def tdC (x : Td) : List Value := [.int .u32 x.slot, .int .u64 x.dl, .int .u64 x.birth]
theorem lt_cfT (x y : Td) : ltOf cfT x y = befB x y := by
  unfold ltOf cfT befB
  rcases cmpN_cases x.dl y.dl with ⟨h, e⟩ | ⟨h, e⟩ | ⟨h, e⟩
  · rw [e]; simp [h]
  · rw [e]
    have h1 : ¬ x.dl < y.dl := by omega
    have h2 : ¬ x.dl = y.dl := by omega
    simp [h1, h2]
  · rw [e, if_pos rfl]
    rcases cmpN_cases x.birth y.birth with ⟨k, f⟩ | ⟨k, f⟩ | ⟨k, f⟩
    · rw [f]; simp [h, k]
    · rw [f]
      have h1 : ¬ x.birth < y.birth := by omega
      simp [h, h1]
    · rw [f]
      have h1 : ¬ x.birth < y.birth := by omega
      simp [h, h1]
theorem swo_cfT : SWO (ltOf cfT) where
  irrefl x := by rw [lt_cfT]; simp [befB]
  trans x y z h1 h2 := by
    rw [lt_cfT] at *
    rw [befB_iff] at *
    unfold bef at *
    omega
  ntrans x y z h1 h2 := by
    rw [lt_cfT] at *
    have n1 : ¬ bef x y := fun c => by rw [befB_iff.2 c] at h1; cases h1
    have n2 : ¬ bef y z := fun c => by rw [befB_iff.2 c] at h2; cases h2
    cases h3 : befB x z with
    | false => rfl
    | true =>
      rw [befB_iff] at h3
      unfold bef at *
      omega
theorem flatK_list (d : Array Td) : (flatK tdC 3 d).toList = d.toList.flatMap tdC := by
  have hl : (d.toList.flatMap tdC).length = d.size * 3 := by rw [flat_length tdC 3 (fun _ => rfl)]; simp
  refine List.ext_getElem? (fun t => ?_)
  by_cases ht : t < d.size * 3
  · have h1 := get_flatK tdC 3 d t ht
    have hi : t / 3 < d.size := by omega
    have hf := flat_get tdC 3 (fun _ => rfl) (t % 3) (by omega) d.toList (t / 3)
    rw [show t / 3 * 3 + t % 3 = t by omega] at hf
    rw [hf]
    have h2 : (flatK tdC 3 d).toList[t]? = some ((flatK tdC 3 d)[t]!) := by
      rw [Array.getElem?_toList, getElem!_pos (flatK tdC 3 d) t (by simpa using ht), Array.getElem?_eq_getElem]
    rw [h2, h1, Array.getElem?_toList, Array.getElem?_eq_getElem hi, getElem!_pos d (t / 3) hi]
    show some _ = (tdC d[t / 3])[t % 3]?
    have hm : t % 3 < 3 := by omega
    rw [getElem!_pos (tdC d[t / 3]) (t % 3) (by simpa [tdC] using hm), List.getElem?_eq_getElem]
  · rw [List.getElem?_eq_none (by simp; omega), List.getElem?_eq_none (by rw [hl]; omega)]
theorem isAgg_td : ∀ w, (isAgg 31).run Tryd.prog w = .ok true w := fun w => by kernel_rfl
theorem sizeOf_td : ∀ w, (Go.sizeOf 31).run Tryd.prog w = .ok 3 w := fun w => by kernel_rfl
theorem clos_lays (blk off size : Nat) (w : World) : CmpLays Tryd.prog 54 #[] tdC 3 cfT blk off size w :=
  fun _ _ _ _ x y => clos_ok x y _
/-- An own row of what is timed. -/
abbrev TdRow (w : World) (a : Option Addr) (c : Nat) (d : List Td) : Prop := w.ownsRow 0 31 3 (.slice a d.length c) d.length (d.flatMap tdC)
theorem heap_sort {w : World} {g m : Nat} {cur : Array Value} {T : TypeId} {F : Array Value} {os : Array Obj} (hg : w.heap[g]? = some (.cells cur T (0, 0))) :
    (grow (putRow id (Go.Sort.ahead w m) g 0 F) os).heap[g]? = some (.cells (putCells id 0 F cur) T (0, 0)) := by
  have hlt := lt_of_block hg
  show ((w.heap.modify g (onCells (putCells id 0 F))) ++ os)[g]? = _
  rw [Array.getElem?_append_left (by simpa using hlt), Array.getElem?_modify, if_pos rfl, hg]
  rfl
theorem mod_sort {w : World} {g m : Nat} {F : Array Value} {os : Array Obj} : Mod (fun k => k = g) w (grow (putRow id (Go.Sort.ahead w m) g 0 F) os) := by
  refine ⟨rfl, rfl, rfl, ?_, fun k hk hn => ?_⟩
  · show w.heap.size ≤ ((w.heap.modify g (onCells (putCells id 0 F))) ++ os).size
    simp
  · show ((w.heap.modify g (onCells (putCells id 0 F))) ++ os)[k]? = _
    rw [Array.getElem?_append_left (by simpa using hk), Array.getElem?_modify, if_neg (fun e => hn e.symm)]
theorem put_take {F cur : Array Value} {n : Nat} (hF : F.size = n) (hc : n ≤ cur.size) : (putCells id 0 F cur).toList.take n = F.toList := by
  refine List.ext_getElem? (fun t => ?_)
  rw [List.getElem?_take]
  by_cases ht : t < n
  · rw [if_pos ht, Array.getElem?_toList, Array.getElem?_toList]
    unfold putCells
    rw [Array.getElem?_mapIdx, Array.getElem?_eq_getElem (show t < cur.size by omega)]
    show some (if 0 ≤ t ∧ t < 0 + F.size then id F[t - 0]! else cur[t]) = _
    rw [if_pos ⟨Nat.zero_le _, by omega⟩, Array.getElem?_eq_getElem (show t < F.size by omega), Nat.sub_zero, getElem!_pos F t (by omega)]
    rfl
  · rw [if_neg ht, List.getElem?_eq_none (by simp; omega)]
theorem sort_ok {w : World} {a : Option Addr} {c : Nat} {d : List Td} (hr : TdRow w a c d) (hl : d.length < 4611686018427387904) (hu : ∀ x ∈ d, ∀ y ∈ d, x.birth = y.birth → x = y) (hnd : d.Nodup) :
    Calls Tryd.prog 53 #[.slice a d.length c, .func (.func 54) #[] #[]] w fun e w' => e = .returned (.tuple #[]) ∧ ∃ d' : List Td, d'.Pairwise bef ∧ d'.Perm d ∧ d'.length = d.length ∧ TdRow w' a c d' ∧ Mod (fun k => (Value.slice a d.length c).ownBlock = some k) w w' := by
  rcases Nat.eq_zero_or_pos d.length with h0 | h0
  · have hd : d = [] := List.length_eq_zero_iff.1 h0
    subst hd
    refine (AnyF.slices_SortFunc_none sortTd a c (.func (.func 54) #[] #[]) w).mono ?_
    rintro e w' ⟨rfl, rfl⟩
    exact ⟨rfl, [], List.Pairwise.nil, List.Perm.refl _, rfl, hr, Mod.refl _ _⟩
  · obtain ⟨g, c', hv, hnc, hlt, hcell, hfz, cur, hg, hcs, ht, hm⟩ := owns_at hr h0
    injection hv with ha hn hc
    subst ha hc
    have eg : ∀ args w, (callFunc 54 args).run Tryd.prog w = .ok (.enter 54 args) w := enters_of Tryd.func54 (by kernel_rfl) rfl
    have hH : HoldsK tdC 3 w g 0 d.toArray := fun j hj => by
      rw [size_flatK] at hj
      rw [Nat.zero_add]
      refine ⟨hcell j _ ?_, hfz j⟩
      rw [← show (flatK tdC 3 d.toArray).toList = d.flatMap tdC from flatK_list d.toArray, Array.getElem?_toList, getElem!_pos (flatK tdC 3 d.toArray) j (by rw [size_flatK]; exact hj), Array.getElem?_eq_getElem]
      rfl
    have hs := AnyQ.slices_SortFunc sortTd 3 isAgg_td sizeOf_td tdC (fun _ => rfl) (fun x v hv => by simp [tdC] at hv; rcases hv with rfl | rfl | rfl <;> rfl) cfT swo_cfT 54 #[] g 0 c d.toArray w eg (clos_lays g 0 _ w) hH hlt (by simpa using hl)
    refine Calls.mono hs ?_
    rintro e w' ⟨rfl, d', m, os, ⟨p1, p2, p3⟩, hso, rfl⟩
    have hsz : d'.size = d.length := by simpa using p1
    have e1 : d'.extract 0 d.toArray.size = d' := by rw [← p1]; exact Array.extract_size
    rw [e1, Array.extract_size] at p3
    have hp : d'.toList.Perm d := p3
    have hF : (flatK tdC 3 d').size = d.length * 3 := by rw [size_flatK, hsz]
    refine ⟨rfl, d'.toList, ?_, hp, by simpa using hsz, ?_, ?_⟩
    · rw [List.pairwise_iff_getElem]
      intro i j hi hj hij
      have hi' : i < d'.size := by simpa using hi
      have hj' : j < d'.size := by simpa using hj
      have h1 := hso i j (Nat.zero_le _) hij (by simpa [hsz] using hj')
      rw [getElem!_pos d' i hi', getElem!_pos d' j hj', lt_cfT] at h1
      have hne : d'[i].birth ≠ d'[j].birth := fun e => by
        have m1 : d'[i] ∈ d := hp.mem_iff.1 (by simp)
        have m2 : d'[j] ∈ d := hp.mem_iff.1 (by simp)
        have heq := hu _ m1 _ m2 e
        have hnd' := hp.nodup_iff.2 hnd
        exact (List.pairwise_iff_getElem.1 hnd') i j hi hj hij (by simpa using heq)
      rcases (show bef d'[i] d'[j] ∨ bef d'[j] d'[i] by unfold bef; omega) with k | k
      · simpa using k
      · rw [befB_iff.2 k] at h1; cases h1
    · have hlen : d'.toList.length = d.length := by simpa using hsz
      show World.ownsRow _ 0 _ 3 (.slice (some ⟨g, 0, none⟩) d'.toList.length c) d'.toList.length (d'.toList.flatMap tdC)
      rw [hlen]
      refine ⟨by rw [flat_length tdC 3 (fun _ => rfl), hlen], .inr ⟨g, c, putCells id 0 (flatK tdC 3 d') cur, rfl, Nat.zero_le _, heap_sort hg, hnc, hm, ?_, ?_⟩⟩
      · rw [← hcs]; simp [putCells]
      · rw [put_take hF (by rw [hcs]; exact Nat.mul_le_mul_right 3 hnc), flatK_list]
    · exact Mod.mono (mod_sort (g := g) (F := flatK tdC 3 d') (m := m) (os := os)) (fun k _ e => by rw [e]; rfl)
end Go.Proofs.YtlalpenfgkfkpaaDoor

/- The reference of cascade: Before, Find, born, Same (of equal lists), Where. Conditions: the lists are read. -/
namespace Go.Proofs.YtlalpenfgkfkpaaDoor
open Go.RowKit
set_option maxRecDepth 100000
/-- A list of what is timed is read. -/
abbrev TdRd (w : World) (a : Option Addr) (c : Nat) (L : List Td) : Prop := ReadAt w (.slice a L.length c) 3 (L.flatMap tdC)
theorem tdC_one (L : List Td) : ∀ u ∈ L.flatMap tdC, u.oneCell' = true := fun u hu => by
  obtain ⟨x, _, hx⟩ := List.mem_flatMap.1 hu
  simp [tdC] at hx
  rcases hx with rfl | rfl | rfl <;> rfl
theorem TdRow.rd {w : World} {a : Option Addr} {c : Nat} {L : List Td} (h : TdRow w a c L) : TdRd w a c L := ReadAt.of_owns h (tdC_one L)
theorem cell_addT {W : World} {ad : Addr} {k j : Nat} {u : Value} (h : W.cell? (ad.add (k + (j + 1))) = some u) : W.cell? ⟨(ad.add k).block, (ad.add k).off + (j + 1), none⟩ = some u := by
  rw [← Go.Deep.add_add] at h
  unfold Addr.add at h ⊢
  rw [if_neg (by omega)] at h
  exact h
theorem td_read {w : World} {a : Option Addr} {n c : Nat} {L : List Td} (h : ReadAt w (.slice a n c) 3 (L.flatMap tdC)) {j : Nat} {x : Td} (hx : L[j]? = some x) :
    ∃ ad, a = some ad ∧ w.cell? (ad.add (j * 3)) = some (.int .u32 x.slot) ∧ w.cell? ⟨(ad.add (j * 3)).block, (ad.add (j * 3)).off + 1, none⟩ = some (.int .u64 x.dl) ∧ w.cell? ⟨(ad.add (j * 3)).block, (ad.add (j * 3)).off + 2, none⟩ = some (.int .u64 x.birth) := by
  obtain ⟨a', n', c', e, hl, _, h0, hc⟩ := h
  injection e with e1 e2 e3
  subst e1 e2 e3
  have hj := (List.getElem?_eq_some_iff.1 hx).1
  cases a with
  | none =>
    have := h0 rfl
    subst this
    rw [flat_length tdC 3 (fun _ => rfl)] at hl
    omega
  | some ad =>
    have g := fun i (hi : i < 3) => flat_get tdC 3 (fun _ => rfl) i hi L j
    have c0 := hc ad rfl (j * 3 + 0) (.int .u32 x.slot) (by rw [g 0 (by omega), hx]; rfl)
    have c1 := hc ad rfl (j * 3 + 1) (.int .u64 x.dl) (by rw [g 1 (by omega), hx]; rfl)
    have c2 := hc ad rfl (j * 3 + 2) (.int .u64 x.birth) (by rw [g 2 (by omega), hx]; rfl)
    exact ⟨ad, rfl, c0, cell_addT (j := 0) c1, cell_addT (j := 1) c2⟩
section
variable {w w' : World} {a : Option Addr} {c n : Nat} {L : List Td}
def findR (L : List Td) (s : Nat) : Int := if hasB L s = true then (findI L s : Nat) else -1
theorem find_spec {L : List Td} {s j : Nat} (h : ∀ (i : Nat) (y : Td), i < j → L[i]? = some y → y.slot ≠ s) {x : Td} (hx : L[j]? = some x) (hs : x.slot = s) : findR L s = (j : Nat) := by
  have hj := (List.getElem?_eq_some_iff.1 hx).1
  have hh : hasB L s = true := hasB_iff.2 ⟨x, List.mem_of_getElem? hx, hs⟩
  unfold findR
  rw [if_pos hh]
  have : findI L s = j := by
    unfold findI
    rw [List.findIdx_eq hj]
    refine ⟨?_, fun i hi => ?_⟩
    · rw [List.getElem?_eq_getElem hj] at hx
      injection hx with hx
      rw [hx]; simpa using hs
    · have := h i L[i] hi (List.getElem?_eq_getElem (by omega))
      simpa using this
  rw [this]
theorem find_spec0 {L : List Td} {s : Nat} (h : ∀ (i : Nat) (y : Td), L[i]? = some y → y.slot ≠ s) : findR L s = -1 := by
  unfold findR
  rw [if_neg]
  intro hh
  obtain ⟨y, hy, e⟩ := hasB_iff.1 hh
  obtain ⟨i, hi⟩ := List.getElem?_of_mem hy
  exact h i y hi e
theorem rfind_ok (h : ReadAt w (.slice a n c) 3 (L.flatMap tdC)) (hn : L.length = n) (hl : n ≤ 4194304) (s : Nat) :
    Calls Tryd.prog 18 #[.slice a n c, .int .u32 s] w fun e w' => e = .returned (.int .i64 (findR L s)) ∧ w = w' := by
  have HR := Lib.hid h; have HN := Lib.hid hn
  clear h hn
  go_enter Tryd.func18, Tryd.ntmps18
  go_upto_region 2 with fail
  go_loopw [5] (fun v5 wr => ∃ j : Nat, v5 = .int .i64 (j : Nat) ∧ j ≤ n ∧ w = wr ∧ ∀ i y, i < j → L[i]? = some y → y.slot ≠ s) (fun v5 _ => n - (intOf v5).toNat)
  case atStart => exact ⟨0, rfl, Nat.zero_le _, rfl, fun i y h => by omega⟩
  case round =>
    obtain ⟨j, rfl, hj, rfl, hno⟩ := hrel
    have HNO := Lib.hid hno
    clear hno
    by_cases hlt : j < n
    · have hlt' : (j : Int) < (n : Int) := by omega
      have j0 : (0 : Int) ≤ (j : Int) := by omega
      have wj : IntKind.i64.wrap ((j : Int) + 1) = (j : Int) + 1 := IntWalk.i64_in _ (by omega)
      obtain ⟨x, hx⟩ : ∃ x, L[j]? = some x := ⟨_, List.getElem?_eq_getElem (by rw [HN.out]; exact hlt)⟩
      obtain ⟨ad, rfl, z0, z1, z2⟩ := td_read HR.out hx
      have HX := Lib.hid hx
      clear hx
      by_cases hs : x.slot = s
      · have hf := find_spec HNO.out HX.out hs
        have HF := Lib.hid hf
        clear hf
        have he : ((x.slot : Int) == (s : Int)) = true := by simp; omega
        subst hs
        go_wp2
        go_ret
        exact ⟨by rw [HF.out]; rfl, rfl⟩
      · have he : ((x.slot : Int) == (s : Int)) = false := by simp; omega
        have hno2 : ∀ i y, i < j + 1 → L[i]? = some y → y.slot ≠ s := fun i y hi hy => by
          rcases Nat.lt_or_ge i j with h | h
          · exact HNO.out i y h hy
          · have : i = j := by omega
            subst this
            rw [HX.out] at hy
            cases hy
            exact hs
        have HNO2 := Lib.hid hno2
        clear hno2
        go_wp2
        go_roundw
        case rel => exact ⟨j + 1, by go_num, hlt, trivial, HNO2.out⟩
        case measure => simp [intOf]; omega
    · have hf := find_spec0 (L := L) (s := s) (fun i y hy => HNO.out i y (by have := (List.getElem?_eq_some_iff.1 hy).1; rw [HN.out] at this; omega) hy)
      have HF := Lib.hid hf
      have hge : ¬ (j : Int) < (n : Int) := by omega
      clear hf
      go_wp2
      go_ret
      exact ⟨by rw [HF.out]; rfl, rfl⟩
theorem born_spec0 {L : List Td} {s : Nat} (h : ∀ (i : Nat) (y : Td), L[i]? = some y → y.birth ≠ s) : bornB L s = false := by
  cases hh : bornB L s with
  | false => rfl
  | true =>
    obtain ⟨y, hy, e⟩ := bornB_iff.1 hh
    obtain ⟨i, hi⟩ := List.getElem?_of_mem hy
    exact absurd e (h i y hi)
theorem rborn_ok (h : ReadAt w (.slice a n c) 3 (L.flatMap tdC)) (hn : L.length = n) (hl : n ≤ 4194304) (s : Nat) :
    Calls Tryd.prog 58 #[.slice a n c, .int .u64 s] w fun e w' => e = .returned (.bool (bornB L s)) ∧ w = w' := by
  have HR := Lib.hid h; have HN := Lib.hid hn
  clear h hn
  go_enter Tryd.func58, Tryd.ntmps58
  go_upto_region 2 with fail
  go_loopw [5] (fun v5 wr => ∃ j : Nat, v5 = .int .i64 (j : Nat) ∧ j ≤ n ∧ w = wr ∧ ∀ i y, i < j → L[i]? = some y → y.birth ≠ s) (fun v5 _ => n - (intOf v5).toNat)
  case atStart => exact ⟨0, rfl, Nat.zero_le _, rfl, fun i y h => by omega⟩
  case round =>
    obtain ⟨j, rfl, hj, rfl, hno⟩ := hrel
    have HNO := Lib.hid hno
    clear hno
    by_cases hlt : j < n
    · have hlt' : (j : Int) < (n : Int) := by omega
      have j0 : (0 : Int) ≤ (j : Int) := by omega
      have wj : IntKind.i64.wrap ((j : Int) + 1) = (j : Int) + 1 := IntWalk.i64_in _ (by omega)
      obtain ⟨x, hx⟩ : ∃ x, L[j]? = some x := ⟨_, List.getElem?_eq_getElem (by rw [HN.out]; exact hlt)⟩
      obtain ⟨ad, rfl, z0, z1, z2⟩ := td_read HR.out hx
      have HX := Lib.hid hx
      clear hx
      by_cases hs : x.birth = s
      · have hf : bornB L s = true := bornB_iff.2 ⟨x, List.mem_of_getElem? HX.out, hs⟩
        have HF := Lib.hid hf
        clear hf
        have he : ((x.birth : Int) == (s : Int)) = true := by simp; omega
        subst hs
        go_wp2
        go_ret
        exact ⟨by rw [HF.out]; rfl, rfl⟩
      · have he : ((x.birth : Int) == (s : Int)) = false := by simp; omega
        have hno2 : ∀ i y, i < j + 1 → L[i]? = some y → y.birth ≠ s := fun i y hi hy => by
          rcases Nat.lt_or_ge i j with h | h
          · exact HNO.out i y h hy
          · have : i = j := by omega
            subst this
            rw [HX.out] at hy
            cases hy
            exact hs
        have HNO2 := Lib.hid hno2
        clear hno2
        go_wp2
        go_roundw
        case rel => exact ⟨j + 1, by go_num, hlt, trivial, HNO2.out⟩
        case measure => simp [intOf]; omega
    · have hf := born_spec0 (L := L) (s := s) (fun i y hy => HNO.out i y (by have := (List.getElem?_eq_some_iff.1 hy).1; rw [HN.out] at this; omega) hy)
      have HF := Lib.hid hf
      have hge : ¬ (j : Int) < (n : Int) := by omega
      clear hf
      go_wp2
      go_ret
      exact ⟨by rw [HF.out]; rfl, rfl⟩
set_option maxHeartbeats 1000000 in
theorem rsame_ok {a2 : Option Addr} {c2 : Nat} (h : ReadAt w (.slice a n c) 3 (L.flatMap tdC)) (h2 : ReadAt w (.slice a2 n c2) 3 (L.flatMap tdC)) (hn : L.length = n) (hl : n ≤ 4194304) :
    Calls Tryd.prog 17 #[.slice a n c, .slice a2 n c2] w fun e w' => e = .returned (.bool true) ∧ Pure w w' := by
  have HR := Lib.hid h; have HR2 := Lib.hid h2; have HN := Lib.hid hn
  clear h h2 hn
  go_enter Tryd.func17, Tryd.ntmps17
  go_upto_region 4 with fail
  go_loopw [5] (fun v5 wr => ∃ j : Nat, v5 = .int .i64 (j : Nat) ∧ j ≤ n ∧ Pure w wr) (fun v5 _ => n - (intOf v5).toNat)
  case atStart => exact ⟨0, rfl, Nat.zero_le _, Mod.refl _ _⟩
  case round =>
    obtain ⟨j, rfl, hj, hp⟩ := hrel
    have HP := Lib.hid hp
    by_cases hlt : j < n
    · have hlt' : (j : Int) < (n : Int) := by omega
      have j0 : (0 : Int) ≤ (j : Int) := by omega
      have wj : IntKind.i64.wrap ((j : Int) + 1) = (j : Int) + 1 := IntWalk.i64_in _ (by omega)
      obtain ⟨x, hx⟩ : ∃ x, L[j]? = some x := ⟨_, List.getElem?_eq_getElem (by rw [HN.out]; exact hlt)⟩
      obtain ⟨ad, rfl, z0, z1, z2⟩ := td_read (HR.out.frame hp (fun _ _ h => h)) hx
      obtain ⟨ad2, rfl, y0, y1, y2⟩ := td_read (HR2.out.frame hp (fun _ _ h => h)) hx
      clear hx hp
      go_upto_region 6 with fail
      go_region_held3 (fun w' => w'.cell? (ad.add (j * 3)) = some (.int .u32 x.slot) ∧ w'.cell? ⟨(ad.add (j * 3)).block, (ad.add (j * 3)).off + 1, none⟩ = some (.int .u64 x.dl) ∧ w'.cell? ⟨(ad.add (j * 3)).block, (ad.add (j * 3)).off + 2, none⟩ = some (.int .u64 x.birth) ∧ w'.cell? (ad2.add (j * 3)) = some (.int .u32 x.slot) ∧ w'.cell? ⟨(ad2.add (j * 3)).block, (ad2.add (j * 3)).off + 1, none⟩ = some (.int .u64 x.dl) ∧ w'.cell? ⟨(ad2.add (j * 3)).block, (ad2.add (j * 3)).off + 2, none⟩ = some (.int .u64 x.birth)) (first | go_keep | exact ⟨z0, z1, z2, y0, y1, y2⟩) (fail)
      go_wp2
      go_roundw
      case rel => exact ⟨j + 1, by go_num, hlt, HP.out.drew⟩
      case measure => simp [intOf]; omega
    · have hge : ¬ (j : Int) < (n : Int) := by omega
      clear hp
      go_wp2
      go_ret
      exact ⟨rfl, HP.out⟩
/-- Where, of what is later. -/
theorem rwhere_ok {now dl : Nat} (hn : now < 18446744073709551616) (hd : dl < 18446744073709551616) (w : World) : Calls Tryd.prog 61 #[.int .u64 dl, .int .u64 now] w fun e w' => e = .returned (.tuple #[.int .i64 (lvl now dl : Nat), .int .i64 (bkt now dl : Nat)]) ∧ w = w' := by
  obtain ⟨s1, s2, s3⟩ := lvl_spec hn hd
  have hb : bkt now dl = dl / 256 ^ lvl now dl % 256 := rfl
  obtain ⟨lv, hlv⟩ : ∃ lv, lvl now dl = lv := ⟨_, rfl⟩
  obtain ⟨bk, hbk⟩ : ∃ bk, bkt now dl = bk := ⟨_, rfl⟩
  rw [hlv] at s1 s2 s3 hb
  rw [hbk] at hb
  rw [hlv, hbk]
  have HS2 := Lib.hid s2; have HS3 := Lib.hid s3; have HB := Lib.hid hb
  clear s2 s3 hlv hbk hb
  go_enter Tryd.func61, Tryd.ntmps61
  go_upto_region 2 with fail
  go_loopw [0, 1, 6] (fun v0 v1 v6 wr => ∃ k d m : Nat, v0 = .int .u64 (d : Nat) ∧ v1 = .int .u64 (m : Nat) ∧ v6 = .int .i64 (k : Nat) ∧ k ≤ lv ∧ d = dl / 256 ^ k ∧ m = now / 256 ^ k ∧ w = wr) (fun _ _ v6 _ => 8 - (intOf v6).toNat)
  case atStart => exact ⟨0, dl, now, rfl, rfl, rfl, Nat.zero_le _, by simp, by simp, rfl⟩
  case round =>
    obtain ⟨k, d, m, rfl, rfl, rfl, hk, hdk, hmk, rfl⟩ := hrel
    have hd64 : d ≤ dl := by rw [hdk]; exact Nat.div_le_self _ _
    have hm64 : m ≤ now := by rw [hmk]; exact Nat.div_le_self _ _
    have e1 : d / 256 = dl / 256 ^ (k + 1) := by rw [hdk, Nat.div_div_eq_div_mul, Nat.pow_succ]
    have e2 : m / 256 = now / 256 ^ (k + 1) := by rw [hmk, Nat.div_div_eq_div_mul, Nat.pow_succ]
    by_cases hlt : k < lv
    · have hne : d / 256 ≠ m / 256 := by rw [e1, e2]; exact HS3.out k hlt
      have hne2 : (((d : Int) / 256) == ((m : Int) / 256)) = false := by simp; omega
      have hne3 : (((d : Int) / 256) != ((m : Int) / 256)) = true := by simp; omega
      have wk : IntKind.i64.wrap ((k : Int) + 1) = (k : Int) + 1 := IntWalk.i64_in _ (by omega)
      have HE1 := Lib.hid e1; have HE2 := Lib.hid e2
      clear e1 e2 hdk hmk
      go_wp2
      go_roundw
      case rel => exact ⟨k + 1, d / 256, m / 256, by go_num, by go_num, by go_num, hlt, HE1.out, HE2.out, trivial⟩
      case measure => simp [intOf]; omega
    · have e : k = lv := by omega
      subst e
      have heq : d / 256 = m / 256 := by rw [e1, e2]; exact HS2.out
      have hne2 : (((d : Int) / 256) == ((m : Int) / 256)) = true := by simp; omega
      have hne3 : (((d : Int) / 256) != ((m : Int) / 256)) = false := by simp; omega
      have hbd : bk = d % 256 := by rw [hdk]; exact HB.out
      clear e1 e2 hdk hmk
      go_wp2
      go_ret2
      exact ⟨by rw [hbd]; go_num, rfl⟩
end
end Go.Proofs.YtlalpenfgkfkpaaDoor

/- cascade: empty. Conditions: the cascade lies in memory, the table too. -/
namespace Go.Proofs.YtlalpenfgkfkpaaDoor
open Go.RowKit
set_option maxRecDepth 100000
theorem firstB_spec {f : Nat → Bool} {n b : Nat} (h : firstB f n = some b) : b < n ∧ f b = true ∧ ∀ j, j < b → f j = false := by
  unfold firstB at h
  rw [List.find?_range_eq_some] at h
  exact ⟨List.mem_range.1 h.2.1, h.1, fun j hj => by have := h.2.2 j hj; simpa using this⟩
theorem firstB_spec0 {f : Nat → Bool} {n : Nat} (h : firstB f n = none) : ∀ j, j < n → f j = false := fun j hj => by
  unfold firstB at h
  rw [List.find?_eq_none] at h
  have := h j (List.mem_range.2 hj)
  simpa using this
/-- What Next says: the first list that is not empty, or none. -/
def nextC (f : Nat → Bool) (b : Nat) (e : Int) : Prop := firstB f 256 = some b ∧ e = 0 ∨ firstB f 256 = none ∧ b = 0 ∧ e = 9
theorem nextE_cases (f : Nat → Bool) : ∃ (b : Nat) (e : Int), nextE f = .tuple #[.int .i64 b, .int .i64 e] ∧ nextC f b e := by
  unfold nextE nextC
  cases firstB f 256 with
  | some b => exact ⟨b, 0, rfl, .inl ⟨rfl, rfl⟩⟩
  | none => exact ⟨0, 9, rfl, .inr ⟨rfl, rfl, rfl⟩⟩
section
variable {w w' : World} {D : Nat → Prop} {p now : Nat} {ws : List Nat} {bm bb : Nat} {Ds : Nat → Nat → Prop} {Dm Db : DataW Unit} {M : List Td} {Lss : List (List (List Nat))}
theorem CasMem.level0 (h : CasMem w D p now ws bm bb Ds Dm Db M Lss) {l q : Nat} {Ls' : List (List Nat)} (hl : l < 8) (hq : ws[l]? = some q) (hw : WhAt w' (Ds l) q Ls') (hm : Mod (Ds l) w w') : CasMem w' D p now ws bm bb Ds Dm Db M (Lss.set l Ls') := by
  obtain ⟨D2, hC, _⟩ := h.level hl hq hw (grewD.refl _ _) hm
  have e1 : setF Ds l (Ds l) = Ds := by
    funext k
    unfold setF
    split
    · rename_i e; rw [e]
    · rfl
  rw [e1] at hC
  have e2 : D2 = D := by
    funext k
    exact propext ((hC.dd k).trans (h.dd k).symm)
  rw [e2] at hC
  exact hC
theorem CasMem.levelD (h : CasMem w D p now ws bm bb Ds Dm Db M Lss) {l : Nat} (hl : l < 8) : Ds l 0 → D 0 := fun k => (h.dd 0).2 (.inr (.inr (.inr ⟨l, hl, k⟩)))
/-- What is so in a round of empty. -/
structure EmI (w wr : World) (D : Nat → Prop) (p now : Nat) (ws : List Nat) (bm bb : Nat) (Ds : Nat → Nat → Prop) (Dm Db : DataW Unit) (M : List Td) (Lss : List (List (List Nat))) (lv n : Nat) (Ls cur : List (List Nat)) (a : Option Addr) (c : Nat) (out : List Nat) : Prop where
  mem : CasMem wr D p now ws bm bb Ds Dm Db M (Lss.set lv cur)
  row : NumRow wr a c out
  fresh : FreshV w (.slice a out.length c)
  mod : Mod D w wr
  sum : out ++ (cur.take n).flatten = flatN Ls n
  rest : cur.drop n = Ls.drop n
  len : cur.length = 256
set_option maxHeartbeats 2000000 in
theorem cempty_ok (h : CasMem w D p now ws bm bb Ds Dm Db M Lss) (hT : TabW w) (h0 : ¬ D 0) {lv m : Nat} (hm : m < 256) (hl8 : lv < 8) {Ls : List (List Nat)} (hL : Lss[lv]? = some Ls) (hb : (flatN Ls (m + 1)).length ≤ 4194304) :
    Calls Tryd.prog 50 #[lkP p, .int .i64 lv, .int .i64 m] w fun e w' => ∃ a c, e = .returned (.slice a (flatN Ls (m + 1)).length c) ∧ NumRow w' a c (flatN Ls (m + 1)) ∧ FreshV w (.slice a (flatN Ls (m + 1)).length c) ∧ CasMem w' D p now ws bm bb Ds Dm Db M (Lss.set lv (emptyL Ls (m + 1))) ∧ Mod D w w' := by
  obtain ⟨q, hq⟩ : ∃ q, ws[lv]? = some q := ⟨_, List.getElem?_eq_getElem (by rw [h.box.len]; exact hl8)⟩
  have hNx := fun (W : World) (cur : List (List Nat)) (hM : CasMem W D p now ws bm bb Ds Dm Db M (Lss.set lv cur)) (hW : Mod D w W) => wnext_ok (hM.lev lv q cur hq (List.getElem?_set_self (by rw [h.len]; exact hl8))) (hT.mod hW h0)
  have hlL : Lss.set lv Ls = Lss := by
    refine List.ext_getElem? (fun j => ?_)
    by_cases e : lv = j
    · subst e; rw [List.getElem?_set_self (by rw [h.len]; exact hl8), hL]
    · rw [List.getElem?_set_ne e]
  have hLs : Ls.length = 256 := (h.lev lv q Ls hq hL).len
  have hI : EmI w w D p now ws bm bb Ds Dm Db M Lss lv (m + 1) Ls Ls none 0 [] := ⟨by rw [hlL]; exact h, World.ownsRow_nil _ _ _ _, (fun g hg => by cases hg), Mod.refl _ _, rfl, rfl, hLs⟩
  obtain ⟨b0, e0, hne, hc0⟩ := nextE_cases (neB Ls)
  have hn0 := hNx w Ls hI.mem (Mod.refl _ _)
  rw [hne] at hn0
  have HN0 := Lib.hid hn0
  have HNx := Lib.hid hNx
  have hcl := h.box.level hq
  obtain ⟨c0, _, _, _, _⟩ := h.box.cells
  have HI := Lib.hid hI; have HQ := Lib.hid hq; have HB := Lib.hid hb; have HC0 := Lib.hid hc0; have HLS := Lib.hid hLs
  have hlss : ∀ cur, (Lss.set lv cur)[lv]? = some cur := fun cur => List.getElem?_set_self (by rw [h.len]; exact hl8)
  have HLSS := Lib.hid hlss
  have hset : ∀ A B, (Lss.set lv A).set lv B = Lss.set lv B := fun A B => List.set_set ..
  have HSET := Lib.hid hset
  have hDlt : ∀ k, D k → k < w.heap.size := fun k hk => h.lt hk
  have hlvD : ∀ k, Ds lv k → D k := fun k hk => (h.dd k).2 (.inr (.inr (.inr ⟨lv, hl8, hk⟩)))
  have HDLT := Lib.hid hDlt; have HLVD := Lib.hid hlvD
  clear h hT h0 hL hq hI hne hn0 hNx hlL hb hc0 hLs hlss hset hDlt hlvD
  have dl8 : decide (lv < 8) = true := decide_eq_true hl8
  have l0 : (0 : Int) ≤ (lv : Int) := by omega
  have l1 : (lv : Int) < 8 := by omega
  obtain ⟨i0, hi, iz0, iz1, iz2⟩ := info_parts info_n32
  go_enter Tryd.func50, Tryd.ntmps50
  go_upto_region 3 with (go_at_call 64; refine Calls.mono HN0.out ?_; rintro e w' ⟨rfl, rfl⟩)
  clear c0 hcl
  go_loopw [7, 8, 9] (fun v7 v8 v9 wr => ∃ cur a c out b er, v7 = .slice a out.length c ∧ v8 = .int .i64 (b : Nat) ∧ v9 = .int .i64 er ∧ nextC (neB cur) b er ∧ EmI w wr D p now ws bm bb Ds Dm Db M Lss lv (m + 1) Ls cur a c out) (fun _ v8 v9 _ => if intOf v9 = 0 then 256 - (intOf v8).toNat else 0)
  case atStart => exact ⟨Ls, none, 0, [], b0, e0, rfl, rfl, rfl, HC0.out, HI.out⟩
  case round =>
    obtain ⟨cur, a, c, out, b, er, rfl, rfl, rfl, hc, hI⟩ := hrel
    have HIr := Lib.hid hI
    have hcl := hI.mem.box.level HQ.out
    obtain ⟨c0, _, _, _, _⟩ := hI.mem.box.cells
    have fin : (∀ i, i < m + 1 → neB cur i = false) → out = flatN Ls (m + 1) ∧ cur = emptyL Ls (m + 1) := fun hz => by
      have e1 := take_flat_none (by rw [hI.len]; omega) hz
      have e2 := hI.sum
      rw [e1, flatten_rep, List.append_nil] at e2
      refine ⟨e2, ?_⟩
      unfold emptyL
      rw [← hI.rest, ← e1, List.take_append_drop]
    have FIN := Lib.hid fin
    clear fin hI
    rcases hc with ⟨hf, rfl⟩ | ⟨hf, rfl, rfl⟩
    · obtain ⟨f1, f2, f3⟩ := firstB_spec hf
      by_cases hbm : b ≤ m
      · have hbm' : (b : Int) ≤ (m : Int) := by omega
        obtain ⟨l, hl⟩ : ∃ l, cur[b]? = some l := ⟨_, List.getElem?_eq_getElem (by rw [HIr.out.len]; exact f1)⟩
        have hTk := wtake_ok (HIr.out.mem.lev lv q cur HQ.out (HLSS.out cur)) hl
        have hfl := take_flat_first (n := m + 1) (by omega) hl f3
        have hsum := HIr.out.sum
        rw [hfl, ← List.append_assoc] at hsum
        have hll : (out ++ l).length ≤ 4194304 := by
          have := HB.out
          rw [← hsum, List.length_append] at this
          omega
        rw [List.length_append] at hll
        have hrest : (cur.set b []).drop (m + 1) = Ls.drop (m + 1) := by
          rw [← HIr.out.rest, List.drop_set_of_lt (by omega)]
        obtain ⟨b1, e1, hne1, hc1⟩ := nextE_cases (neB (cur.set b []))
        have hneb : neB (cur.set b []) = setB (neB cur) b false := neB_set (by rw [HIr.out.len]; exact f1) []
        have hmeas : e1 = 0 → b < b1 ∧ b1 < 256 := fun hz => by
          rcases hc1 with ⟨g1, _⟩ | ⟨_, _, g2⟩
          · obtain ⟨g1, g2, _⟩ := firstB_spec g1
            refine ⟨?_, g1⟩
            rw [hneb] at g2
            unfold setB at g2
            rcases Nat.lt_trichotomy b1 b with k | k | k
            · rw [if_neg (by omega), f3 b1 k] at g2; cases g2
            · rw [if_pos k] at g2; cases g2
            · exact k
          · rw [g2] at hz; cases hz
        have HMEAS := Lib.hid hmeas; have HSUM := Lib.hid hsum; have HREST := Lib.hid hrest; have HC1 := Lib.hid hc1; have HNE1 := Lib.hid hne1
        obtain ⟨nl, hnl⟩ : ∃ nl, l.length = nl := ⟨_, rfl⟩
        obtain ⟨no, hno⟩ : ∃ no, out.length = no := ⟨_, rfl⟩
        rw [hnl] at hTk hll
        rw [hno] at hll ⊢
        have HTk := Lib.hid hTk; have HNL := Lib.hid hnl; have HNO := Lib.hid hno
        have hbl : b < 256 := f1
        clear hf f1 f2 f3 hl hTk hfl hsum hrest hc1 hne1 hneb hmeas hnl hno
        go_upto_region 6 with (go_at_call 79; refine Calls.mono HTk.out ?_; rintro e w2 ⟨a2, c2, rfl, hr2, hf2, hw2, hm2⟩)
        have hmem2 : CasMem w2 D p now ws bm bb Ds Dm Db M (Lss.set lv (cur.set b [])) := by
          have := HIr.out.mem.level0 hl8 HQ.out hw2 hm2
          rw [HSET.out] at this
          exact this
        have hmD2 : Mod D wr w2 := hm2.mono (fun k _ hk => HLVD.out k hk)
        have hro2 : w2.ownsRow 0 29 1 (.slice a no c) no (nums out) := by
          have := HIr.out.row
          unfold NumRow at this
          rw [HNO.out] at this
          exact owns_mod this hmD2 (fun g hg hk => by have := HIr.out.fresh g (by rw [HNO.out]; exact hg); have := HDLT.out g hk; omega)
        have hRD2 : ReadAt w2 (.slice a2 nl c2) 1 (nums l) := by have := num_read hr2; rw [HNL.out] at this; exact this
        have HRO2 := Lib.hid hro2; have HRD2 := Lib.hid hRD2; have HM2 := Lib.hid hmem2; have HMD2 := Lib.hid (HIr.out.mod.trans hmD2)
        clear hr2 hf2 hw2 hm2 hmem2 hmD2 hro2 hRD2 hcl c0
        go_upto_region 4 with (at_builtin; refine wpList_append_read _ rfl _ _ 74 rfl 29 i0 _ 1 4 Tryd.underlying74 hi iz0 iz1 iz2 rfl (by decide) (.slice a no c) no _ rfl HRO2.out _ (nums l) nl rfl HRD2.out (by rw [nums_length, HNL.out, Nat.mul_one]) (by unfold maxLen; omega) (by omega) ?_; intro a7 c7 w5 hr7 hg7 hb7)
        have hmg : Mod (fun k => (Value.slice a no c).ownBlock = some k) w2 w5 := Mod.of_grown (S := fun k' => (Value.slice a no c).ownBlock = some k') hg7 (fun k e _ => e)
        have hfa : ∀ k, (Value.slice a no c).ownBlock = some k → w.heap.size ≤ k := fun k e => HIr.out.fresh k (by rw [HNO.out]; exact e)
        have hmem5 := HM2.out.frame hmg (fun k hk e => by have := hfa k e; have := HDLT.out k hk; omega)
        have hm5 : Mod D w w5 := HMD2.out.then hmg (fun k hk e => by have := hfa k e; omega)
        have hf5 : FreshV w (.slice a7 (no + nl) c7) := fun k hk => by
          rcases hb7 with e | e
          · exact hfa k (e ▸ hk)
          · rw [e] at hk; cases hk; exact HMD2.out.size
        have hno2 : (out ++ l).length = no + nl := by rw [List.length_append, HNO.out, HNL.out]
        have hI5 : EmI w w5 D p now ws bm bb Ds Dm Db M Lss lv (m + 1) Ls (cur.set b []) a7 c7 (out ++ l) := ⟨hmem5, by unfold NumRow; rw [hno2, nums_append]; exact hr7, by rw [hno2]; exact hf5, hm5, HSUM.out, HREST.out, by rw [List.length_set]; exact HIr.out.len⟩
        have hn5 := HNx.out w5 _ hI5.mem hm5
        rw [HNE1.out] at hn5
        have HN5 := Lib.hid hn5; have HI5 := Lib.hid hI5; have HNO2 := Lib.hid hno2
        have hcl := hI5.mem.box.level HQ.out
        obtain ⟨c0, _, _, _, _⟩ := hI5.mem.box.cells
        clear hr7 hg7 hb7 hmg hfa hmem5 hm5 hf5 hno2 hI5 hn5
        go_wp2_with (go_at_call 64; refine Calls.mono HN5.out ?_; rintro e w' ⟨rfl, rfl⟩)
        go_roundw
        case rel => exact ⟨_, a7, c7, _, b1, e1, by rw [HNO2.out], rfl, rfl, HC1.out, HI5.out⟩
        case measure =>
          have hq := HMEAS.out
          by_cases hz : e1 = 0
          · have := hq hz
            simp [intOf, hz]; omega
          · simp [intOf, hz]; omega
      · have hbm' : ¬ ((b : Int) ≤ (m : Int)) := by omega
        obtain ⟨g1, g2⟩ := FIN.out (fun i hi => f3 i (by omega))
        have G1 := Lib.hid g1; have G2 := Lib.hid g2
        clear g1 g2 hf f1 f2 f3 hcl c0
        have hres := HIr.out
        rw [G1.out, G2.out] at hres
        have HRES := Lib.hid hres
        rw [G1.out]
        clear hres
        go_wp2
        go_ret
        exact ⟨a, c, rfl, HRES.out.row, HRES.out.fresh, HRES.out.mem, HRES.out.mod⟩
    · obtain ⟨g1, g2⟩ := FIN.out (fun i hi => firstB_spec0 hf i (by omega))
      have G1 := Lib.hid g1; have G2 := Lib.hid g2
      clear g1 g2 hf hcl c0
      have hres := HIr.out
      rw [G1.out, G2.out] at hres
      have HRES := Lib.hid hres
      rw [G1.out]
      clear hres
      go_wp2
      go_ret
      exact ⟨a, c, rfl, HRES.out.row, HRES.out.fresh, HRES.out.mem, HRES.out.mod⟩
end
end Go.Proofs.YtlalpenfgkfkpaaDoor

/- cascade: what Advance wants: bounds, the new time. Conditions: the cascade lies in memory. -/
namespace Go.Proofs.YtlalpenfgkfkpaaDoor
open Go.RowKit
set_option maxRecDepth 100000
section
variable {w w' : World} {D : Nat → Prop} {p now tt k lv n : Nat} {ws : List Nat} {bm bb : Nat} {Ds : Nat → Nat → Prop} {Dm Db : DataW Unit} {M L : List Td} {Lss : List (List (List Nat))} {P : Nat → Prop} {Ls : List (List Nat)}
theorem PInv.bound (h : PInv now M P Lss) {A : List Nat} (hA : A.Nodup) (hs : ∀ s ∈ A, ∃ l b, slotIn Lss l b s) : A.length ≤ 4194304 :=
  nodup_bound hA (fun s hs' => by
    obtain ⟨l, b, h1⟩ := hs s hs'
    obtain ⟨_, x, hx, e, _⟩ := (h.at_ _ _ _).1 h1
    have := (h.rng x hx).1
    rw [e] at this
    exact this)
theorem PInv.count (h : PInv now M P Lss) : M.length ≤ 4194304 := by
  have h1 : (M.map (fun x => x.slot)).Nodup := by
    unfold List.Nodup
    rw [List.pairwise_map]
    exact h.ndM.imp_of_mem (fun {a b} ha hb hne e => hne (h.slots a ha b hb e))
  have := nodup_bound (N := 4194304) h1 (fun s hs => by
    obtain ⟨x, hx, rfl⟩ := List.mem_map.1 hs
    exact (h.rng x hx).1)
  rw [List.length_map] at this
  exact this
theorem PInv.moved_le (h : PInv now M P Lss) (hL : Lss[lv]? = some Ls) : (movedK Lss lv ++ flatN Ls n).length ≤ 4194304 :=
  h.bound (h.nodup_moved hL) (fun s hs => by
    rcases List.mem_append.1 hs with hs | hs
    · obtain ⟨l, b, _, h1⟩ := mem_movedK.1 hs
      exact ⟨l, b, h1⟩
    · obtain ⟨b, B, _, h1, h2⟩ := mem_flatN.1 hs
      exact ⟨lv, b, Ls, B, hL, h1, h2⟩)
theorem emptyL_all (h : Ls.length = 256) : emptyL Ls 256 = List.replicate 256 [] := by
  unfold emptyL
  rw [List.drop_of_length_le (by omega), List.append_nil]
theorem flatN_all (h : Ls.length = 256) : flatN Ls 256 = Ls.flatten := by
  unfold flatN
  rw [List.take_of_length_le (by omega)]
theorem clearL_zero : clearL Lss 0 = Lss := rfl
theorem movedK_zero : movedK Lss 0 = [] := rfl
theorem CasMem.setNow (h : CasMem w D p now ws bm bb Ds Dm Db M Lss) (ht : tt < 18446744073709551616) : CasMem (w.setCell ⟨p, 0, none⟩ (.int .u64 tt)) D p tt ws bm bb Ds Dm Db M Lss ∧ Mod (fun k => k = p) w (w.setCell ⟨p, 0, none⟩ (.int .u64 tt)) := by
  have hm : Mod (fun k => k = p) w (w.setCell ⟨p, 0, none⟩ (.int .u64 tt)) := (Mod.refl (fun k => k = p) w).setCell (p := ⟨p, 0, none⟩) (fun _ => rfl) _
  obtain ⟨n1, n2, n3⟩ := h.ne
  refine ⟨⟨⟨?_, h.box.len, ht⟩, h.what.mod hm n2, h.births.mod hm n3, h.len, fun l q Ls hq hl => (h.lev l q Ls hq hl).frame hm (fun k hk e => ?_), h.apart, h.own, h.ne, h.dd⟩, hm⟩
  · rw [heap_setCell_same w p 0 _ _ (.int .u64 tt) h.box.box]
    congr 2
  · have hl8 : l < 8 := by have := (List.getElem?_eq_some_iff.1 hl).1; rw [h.len] at this; exact this
    exact (h.own l k hl8 hk).1 e
theorem info_td : (Tryd.prog.info? 31).map (fun i => (i.zero, i.size, i.bytes)) = some (some (.agg #[.int .u32 0, .int .u64 0, .int .u64 0]), 3, 24) := by kernel_rfl
/-- What is due up to a time, and what is left. -/
def dueL (tt : Nat) (L : List Td) : List Td := L.takeWhile (fun x => decide (x.dl ≤ tt))
def restL (tt : Nat) (L : List Td) : List Td := L.dropWhile (fun x => decide (x.dl ≤ tt))
/-- Advance to a time before, or to the time itself. -/
theorem CasAt.adv_no (h : CasAt w D p now L) (ht : tt ≤ now) : Calls Tryd.prog 16 #[lkP p, .int .u64 tt] w fun e w' => e = .returned (.tuple #[.slice none 0 0, .int .i64 (if tt < now then 3 else 0)]) ∧ w = w' := by
  obtain ⟨ws, bm, bb, Ds, Dm, Db, Lss, h1, h2, h3⟩ := h
  have HCk := Lib.hid (ccheck_ok h1.box (s := 0) (by omega))
  obtain ⟨c0, c9, c10, _, _⟩ := h1.box.cells
  clear h1 h2 h3
  by_cases hlt : tt < now
  · rw [if_pos hlt]
    have hlt' : (tt : Int) < (now : Int) := by omega
    clear hlt
    go_enter Tryd.func16, Tryd.ntmps16
    go_wp2_with (go_at_call 46; refine Calls.mono HCk.out ?_; rintro e w' ⟨rfl, rfl⟩)
    go_ret2
    exact ⟨rfl, rfl⟩
  · have e : tt = now := by omega
    subst e
    rw [if_neg hlt]
    have hlt' : ¬ (tt : Int) < (tt : Int) := by omega
    clear hlt
    go_enter Tryd.func16, Tryd.ntmps16
    go_wp2_with (go_at_call 46; refine Calls.mono HCk.out ?_; rintro e w' ⟨rfl, rfl⟩)
    go_ret2
    exact ⟨rfl, rfl⟩
end
end Go.Proofs.YtlalpenfgkfkpaaDoor

/- cascade: Advance to a later time. Conditions: the cascade lies in memory, the table too. -/
namespace Go.Proofs.YtlalpenfgkfkpaaDoor
open Go.RowKit
set_option maxRecDepth 100000
theorem tdC_td (x : Td) : (Value.agg #[.int .u32 x.slot, .int .u64 x.dl, .int .u64 x.birth]) = tdV x := rfl
section
variable {w w' : World} {D : Nat → Prop} {p now tt : Nat} {ws : List Nat} {bm bb : Nat} {Ds : Nat → Nat → Prop} {Dm Db : DataW Unit} {M L : List Td} {Lss : List (List (List Nat))}
/-- What is so while the slots are looked at. -/
structure AvI (w wr : World) (D : Nat → Prop) (p tt : Nat) (L : List Td) (mv : List Nat) (a c) (ad : Option Addr) (cd : Nat) (Mj dj : List Td) (D' : Nat → Prop) (j : Nat) : Prop where
  mem : ∃ ws bm bb Ds Dm Db Lss, CasMem wr D' p tt ws bm bb Ds Dm Db Mj Lss ∧ AdvSt tt L (mv.drop j) Mj dj Lss
  grew : grewD D D' w
  row : NumRow wr a c mv
  off : ∀ g, (Value.slice a mv.length c).ownBlock = some g → ¬ D' g
  due : TdRow wr ad cd dj
  fresh : ∀ g, (Value.slice ad dj.length cd).ownBlock = some g → ¬ D' g ∧ w.heap.size ≤ g
  mod : Mod D w wr
set_option maxHeartbeats 4000000 in
theorem CasAt.adv (h : CasAt w D p now L) (hT : TabW w) (h0 : ¬ D 0) (hn : now < tt) (ht : tt < 18446744073709551616) :
    Calls Tryd.prog 16 #[lkP p, .int .u64 tt] w fun e w' => ∃ a c, e = .returned (.tuple #[.slice a (dueL tt L).length c, .int .i64 0]) ∧ TdRow w' a c (dueL tt L) ∧ (∃ D', CasAt w' D' p tt (restL tt L) ∧ grewD D D' w ∧ ∀ g, (Value.slice a (dueL tt L).length c).ownBlock = some g → ¬ D' g ∧ w.heap.size ≤ g) ∧ Mod D w w' := by
  obtain ⟨ws, bm, bb, Ds, Dm, Db, Lss, h1, h2, h3⟩ := h
  have hnow := h1.box.now
  have hl8 : lvl now tt < 8 := (lvl_spec hnow ht).1
  have hbk : bkt now tt < 256 := bkt_lt
  obtain ⟨Lt, hLt⟩ : ∃ Lt, Lss[lvl now tt]? = some Lt := ⟨_, List.getElem?_eq_getElem (by rw [h2.len]; exact hl8)⟩
  have hA := h2.adv hn ht hLt
  have hle := h2.moved_le (n := bkt now tt + 1) hLt
  have HCk := Lib.hid (ccheck_ok h1.box (s := 0) (by omega))
  have HPl := Lib.hid (cplace_ok h1.box ht (by omega : tt ≠ now))
  obtain ⟨c0, c9, c10, cf, cl⟩ := h1.box.cells
  have hSet := fun (W : World) (hW : Pure w W) => (h1.pure hW).setNow ht
  have hDlt : ∀ k, D k → k < w.heap.size := fun k hk => h1.lt hk
  have hpD : D p := (h1.dd p).2 (.inl rfl)
  have hEm := fun (W : World) (k m : Nat) (Ls : List (List Nat)) (hk : k < 8) (hm : m < 256) (hL : Lss[k]? = some Ls) (hM : CasMem W D p tt ws bm bb Ds Dm Db L (clearL Lss k)) (hW : Mod D w W) (hb : (flatN Ls (m + 1)).length ≤ 4194304) =>
    cempty_ok hM (hT.mod hW h0) h0 hm hk ((clearL_get (Nat.le_refl k)).trans hL) hb
  have HEm := Lib.hid hEm; have HSet := Lib.hid hSet; have HDlt := Lib.hid hDlt; have HA := Lib.hid hA; have HLE := Lib.hid hle; have HP2 := Lib.hid h2; have HS := Lib.hid h3; have HpD := Lib.hid hpD; have HLt := Lib.hid hLt
  clear h1 h2 h3 hEm hSet hDlt hA hle hT h0 hpD hLt
  obtain ⟨tp, htp⟩ : ∃ tp, lvl now tt = tp := ⟨_, rfl⟩
  obtain ⟨dg, hdg⟩ : ∃ dg, bkt now tt = dg := ⟨_, rfl⟩
  rw [htp] at hl8 HPl HA HLE HLt
  rw [hdg] at hbk HPl HA HLE
  clear htp hdg
  have lt1 : ¬ (tt : Int) < (now : Int) := by omega
  have eq1 : ((tt : Int) == (now : Int)) = false := by simp; omega
  obtain ⟨i0, hi, iz0, iz1, iz2⟩ := info_parts info_n32
  go_enter Tryd.func16, Tryd.ntmps16
  go_upto_region 8 with (first
    | (go_at_call 46; refine Calls.mono HCk.out ?_; rintro e w' ⟨rfl, rfl⟩)
    | (go_at_call 49; refine Calls.mono HPl.out ?_; rintro e w1 ⟨rfl, hp1⟩))
  obtain ⟨hC1, hm1⟩ := HSet.out w1 hp1
  have hm1' : Mod D w (w1.setCell ⟨p, 0, none⟩ (.int .u64 tt)) := (Mod.of_pure hp1).then hm1 (fun k _ e => by rw [e]; exact HpD.out)
  have hcp := hp1.cell (a := ⟨p, 0, none⟩) (fun h => h) c0
  have hfp : ∀ i, w1.frozen? ⟨p, i, none⟩ = false := fun i => by rw [hp1.cells.2 p i cl]; exact cf i
  have HC1 := Lib.hid hC1; have HM1 := Lib.hid hm1'
  clear hm1 hm1' hC1 c0 c9 c10 cf HCk HPl
  go_upto_region 11 with fail
  generalize w1.setCell ⟨p, 0, none⟩ (.int .u64 tt) = W1 at *
  clear hcp hfp hp1 HSet
  have tp0 : (0 : Int) ≤ (tp : Int) := by omega
  go_loopw [8, 43] (fun v8 v43 wr => ∃ (k : Nat) (a : Option Addr) (c : Nat), v43 = .int .i64 (k : Nat) ∧ k ≤ tp ∧ v8 = .slice a (movedK Lss k).length c ∧ NumRow wr a c (movedK Lss k) ∧ FreshV w (.slice a (movedK Lss k).length c) ∧ CasMem wr D p tt ws bm bb Ds Dm Db L (clearL Lss k) ∧ Mod D w wr) (fun _ v43 _ => 8 - (intOf v43).toNat)
  case atStart => exact ⟨0, none, 0, rfl, Nat.zero_le _, rfl, World.ownsRow_nil _ _ _ _, (fun g hg => by cases hg), HC1.out, HM1.out⟩
  case round =>
    obtain ⟨k, a, c, rfl, hk, rfl, hr, hf, hC, hm⟩ := hrel
    have HR := Lib.hid hr; have HF := Lib.hid hf; have HC := Lib.hid hC; have HM := Lib.hid hm
    clear hr hf hC hm
    by_cases hlt : k < tp
    · have hlt' : (k : Int) < (tp : Int) := by omega
      have k0 : (0 : Int) ≤ (k : Int) := by omega
      have wk : IntKind.i64.wrap ((k : Int) + 1) = (k : Int) + 1 := IntWalk.i64_in _ (by omega)
      obtain ⟨Ls, hL⟩ : ∃ Ls, Lss[k]? = some Ls := ⟨_, List.getElem?_eq_getElem (by rw [HP2.out.len]; omega)⟩
      have hw := HP2.out.wide k Ls hL
      have hmv := HP2.out.moved_le (n := 256) hL
      rw [List.length_append, flatN_all hw] at hmv
      have he := HEm.out wr k 255 Ls (by omega) (by omega) hL HC.out HM.out (by rw [flatN_all hw]; omega)
      rw [flatN_all hw, emptyL_all hw, ← clearL_succ hL] at he
      have hsucc := movedK_succ hL
      obtain ⟨nl, hnl⟩ : ∃ nl, Ls.flatten.length = nl := ⟨_, rfl⟩
      obtain ⟨no, hno⟩ : ∃ no, (movedK Lss k).length = no := ⟨_, rfl⟩
      rw [hnl] at he hmv
      rw [hno] at hmv ⊢
      have hns : (movedK Lss (k + 1)).length = no + nl := by rw [hsucc, List.length_append, hnl, hno]
      have HE := Lib.hid he; have HSU := Lib.hid hsucc; have HNL := Lib.hid hnl; have HNO := Lib.hid hno; have HNS := Lib.hid hns
      clear hL hw he hsucc hnl hno hns
      go_upto_region 14 with (first
        | (go_at_call 50; refine Calls.mono HE.out ?_; rintro e w2 ⟨a2, c2, rfl, hr2, hf2, hC2, hm2⟩
           have hro : w2.ownsRow 0 29 1 (.slice a no c) no (nums (movedK Lss k)) := (by have := HR.out; unfold NumRow at this; rw [HNO.out] at this; exact owns_mod this hm2 (fun g hg hk => by have := HF.out g (by rw [HNO.out]; exact hg); have := HDlt.out g hk; omega))
           have hrd : ReadAt w2 (.slice a2 nl c2) 1 (nums Ls.flatten) := (by have := num_read hr2; rw [HNL.out] at this; exact this)
           have HRO := Lib.hid hro; have HRD := Lib.hid hrd; have HC2 := Lib.hid hC2; have HM2 := Lib.hid (HM.out.trans hm2)
           clear hr2 hf2 hC2 hm2 hro hrd)
        | (at_builtin; refine wpList_append_read _ rfl _ _ 74 rfl 29 i0 _ 1 4 Tryd.underlying74 hi iz0 iz1 iz2 rfl (by decide) (.slice a no c) no _ rfl HRO.out _ (nums Ls.flatten) nl rfl HRD.out (by rw [nums_length, HNL.out, Nat.mul_one]) (by unfold maxLen; omega) (by omega) ?_; intro a7 c7 w5 hr7 hg7 hb7))
      have hmg : Mod (fun k => (Value.slice a no c).ownBlock = some k) w2 w5 := Mod.of_grown (S := fun k' => (Value.slice a no c).ownBlock = some k') hg7 (fun k e _ => e)
      have hfa : ∀ k', (Value.slice a no c).ownBlock = some k' → w.heap.size ≤ k' := fun k' e => HF.out k' (by rw [HNO.out]; exact e)
      have hC5 := HC2.out.frame hmg (fun k hk e => by have := hfa k e; have := HDlt.out k hk; omega)
      have hm5 : Mod D w w5 := HM2.out.then hmg (fun k hk e => by have := hfa k e; omega)
      have hf5 : FreshV w (.slice a7 (no + nl) c7) := fun k hk => by
        rcases hb7 with e | e
        · exact hfa k (e ▸ hk)
        · rw [e] at hk; cases hk; exact HM2.out.size
      have HC5 := Lib.hid hC5; have HM5 := Lib.hid hm5; have HF5 := Lib.hid hf5; have HR7 := Lib.hid hr7
      clear hr7 hg7 hb7 hmg hfa hC5 hm5 hf5
      go_wp2
      go_roundw
      case rel => exact ⟨k + 1, a7, c7, by go_num, hlt, by rw [HNS.out], by unfold NumRow; rw [HNS.out, HSU.out, nums_append]; exact HR7.out, by rw [HNS.out]; exact HF5.out, HC5.out, HM5.out⟩
      case measure => simp [intOf]; omega
    · have e : k = tp := by omega
      subst e
      have hw := HP2.out.wide k Lt HLt.out
      have hmv := HLE.out
      rw [List.length_append] at hmv
      have he := HEm.out wr k dg Lt (by omega) hbk HLt.out HC.out HM.out (by omega)
      have hleft : (clearL Lss k).set k (emptyL Lt (dg + 1)) = leftL Lss Lt k (dg + 1) := rfl
      rw [hleft] at he
      obtain ⟨nl, hnl⟩ : ∃ nl, (flatN Lt (dg + 1)).length = nl := ⟨_, rfl⟩
      obtain ⟨no, hno⟩ : ∃ no, (movedK Lss k).length = no := ⟨_, rfl⟩
      rw [hnl] at he hmv
      rw [hno] at hmv ⊢
      obtain ⟨mv, hmvq⟩ : ∃ mv, movedK Lss k ++ flatN Lt (dg + 1) = mv := ⟨_, rfl⟩
      have hns : mv.length = no + nl := by rw [← hmvq, List.length_append, hnl, hno]
      have hA := HA.out
      rw [hmvq] at hA
      have HE := Lib.hid he; have HNL := Lib.hid hnl; have HNO := Lib.hid hno; have HNS := Lib.hid hns; have HMV := Lib.hid hmvq; have HA2 := Lib.hid hA
      clear hw he hnl hno hns hmvq hleft hA HA HLE HLt HEm
      go_upto_region 18 with (first
        | (go_at_call 50; refine Calls.mono HE.out ?_; rintro e w2 ⟨a2, c2, rfl, hr2, hf2, hC2, hm2⟩
           have hro : w2.ownsRow 0 29 1 (.slice a no c) no (nums (movedK Lss k)) := (by have := HR.out; unfold NumRow at this; rw [HNO.out] at this; exact owns_mod this hm2 (fun g hg hk => by have := HF.out g (by rw [HNO.out]; exact hg); have := HDlt.out g hk; omega))
           have hrd : ReadAt w2 (.slice a2 nl c2) 1 (nums (flatN Lt (dg + 1))) := (by have := num_read hr2; rw [HNL.out] at this; exact this)
           have HRO := Lib.hid hro; have HRD := Lib.hid hrd; have HC2 := Lib.hid hC2; have HM2 := Lib.hid (HM.out.trans hm2)
           clear hr2 hf2 hC2 hm2 hro hrd)
        | (at_builtin; refine wpList_append_read _ rfl _ _ 74 rfl 29 i0 _ 1 4 Tryd.underlying74 hi iz0 iz1 iz2 rfl (by decide) (.slice a no c) no _ rfl HRO.out _ (nums (flatN Lt (dg + 1))) nl rfl HRD.out (by rw [nums_length, HNL.out, Nat.mul_one]) (by unfold maxLen; omega) (by omega) ?_; intro a7 c7 w5 hr7 hg7 hb7
           have hmg : Mod (fun k => (Value.slice a no c).ownBlock = some k) w2 w5 := Mod.of_grown (S := fun k' => (Value.slice a no c).ownBlock = some k') hg7 (fun k e _ => e)
           have hfa : ∀ k', (Value.slice a no c).ownBlock = some k' → w.heap.size ≤ k' := fun k' e => HF.out k' (by rw [HNO.out]; exact e)
           have hC5 := HC2.out.frame hmg (fun k hk e => by have := hfa k e; have := HDlt.out k hk; omega)
           have hm5 : Mod D w w5 := HM2.out.then hmg (fun k hk e => by have := hfa k e; omega)
           have hf5 : FreshV w (.slice a7 (no + nl) c7) := fun k hk => (by
             rcases hb7 with e | e
             · exact hfa k (e ▸ hk)
             · rw [e] at hk; cases hk; exact HM2.out.size)
           have hI5 : AvI w w5 D p tt L mv a7 c7 none 0 L [] D 0 := ⟨⟨_, _, _, _, _, _, _, hC5, HA2.out⟩, grewD.refl _ _, (by unfold NumRow; rw [HNS.out, ← HMV.out, nums_append]; exact hr7), (by rw [HNS.out]; exact fun g hg hk => by have := hf5 g hg; have := HDlt.out g hk; omega), World.ownsRow_nil _ _ _ _, (fun g hg => by cases hg), hm5⟩
           have HI5 := Lib.hid hI5
           clear hr7 hg7 hb7 hmg hfa hC5 hm5 hf5 hI5))
      have hn63 : no + nl ≤ 4194304 := hmv
      clear HRO HRD HC2 HM2 HE HNL HNO HMV HA2 HR HF HC HM hmv
      obtain ⟨n, hnn⟩ : ∃ n, no + nl = n := ⟨_, rfl⟩
      rw [hnn] at HNS hn63
      have wnn : (no : Int) + (nl : Int) = (n : Int) := by omega
      simp only [hnn, wnn] at *
      clear hnn wnn
      obtain ⟨j0, hj, jz0, jz1, jz2⟩ := info_parts info_td
      go_loopw [10, 60] (fun v10 v60 wr => ∃ (j : Nat) (ad : Option Addr) (cd : Nat) (Mj dj : List Td) (D' : Nat → Prop), v60 = .int .i64 (j : Nat) ∧ j ≤ n ∧ v10 = .slice ad dj.length cd ∧ AvI w wr D p tt L mv a7 c7 ad cd Mj dj D' j) (fun _ v60 _ => n - (intOf v60).toNat)
      case atStart => exact ⟨0, none, 0, L, [], D, rfl, Nat.zero_le _, rfl, HI5.out⟩
      case round =>
        obtain ⟨j, ad, cd, Mj, dj, D', rfl, hjn, rfl, hI⟩ := hrel
        have HI := Lib.hid hI
        obtain ⟨ws', bm', bb', Ds', Dm', Db', Lss', hC, hAv⟩ := hI.mem
        by_cases hlt2 : j < n
        · have hlt' : (j : Int) < (n : Int) := by omega
          have j0' : (0 : Int) ≤ (j : Int) := by omega
          have wj : IntKind.i64.wrap ((j : Int) + 1) = (j : Int) + 1 := IntWalk.i64_in _ (by omega)
          obtain ⟨s, hs⟩ : ∃ s, mv[j]? = some s := ⟨_, List.getElem?_eq_getElem (by rw [HNS.out]; exact hlt2)⟩
          have hdr : mv.drop j = s :: mv.drop (j + 1) := by
            have hjl : j < mv.length := by rw [HNS.out]; exact hlt2
            rw [List.drop_eq_getElem_cons hjl]
            rw [List.getElem?_eq_getElem hjl] at hs
            injection hs with hs
            rw [hs]
          obtain ⟨ad0, had, z0⟩ := read_num (num_read hI.row) hs
          rw [hdr] at hAv
          obtain ⟨x, hx, hxs⟩ := hAv.has s List.mem_cons_self
          subst had
          obtain ⟨r1, r2, r3, r4⟩ := hAv.inv.rng x hx
          subst hxs
          have hlk := hC.what.look1 hx (by omega)
          unfold tdV at hlk
          have hdu := due_ok x.dl tt r2
          have HDU := Lib.hid hdu
          obtain ⟨c0, c9, c10, cf, cl⟩ := hC.box.cells
          have hal : Pure wr (wr.alloc (.cells #[.int .u32 x.slot, .int .u64 x.dl, .int .u64 x.birth] 31)) := (Mod.refl _ wr).alloc _
          have h13 := heap_new (w := wr) (o := .cells #[.int .u32 x.slot, .int .u64 x.dl, .int .u64 x.birth] 31 (0, 0)) rfl
          have HX := Lib.hid hx; have HAv := Lib.hid hAv; have HCm := Lib.hid hC; have HDR := Lib.hid hdr; have HAL := Lib.hid hal
          have hDl : ∀ k, D' k → k < wr.heap.size := fun k hk => hC.lt hk
          have HDL := Lib.hid hDl
          have hmvw : ∀ g, (Value.slice (some ad0) mv.length c7).ownBlock = some g → g < wr.heap.size := fun g hg => owns_lt HI.out.row hg
          have hduw : ∀ g, (Value.slice ad dj.length cd).ownBlock = some g → g < wr.heap.size := fun g hg => owns_lt HI.out.due hg
          have HMVW := Lib.hid hmvw; have HDUW := Lib.hid hduw
          clear hx hAv hC hdr hal hI hDl hmvw hduw
          go_upto_region 21 with fail
          generalize wr.alloc (.cells #[.int .u32 x.slot, .int .u64 x.dl, .int .u64 x.birth] 31) = W3 at *
          obtain ⟨b13, hb13⟩ : ∃ b13, wr.heap.size = b13 := ⟨_, rfl⟩
          rw [hb13] at h13 HDL HMVW HDUW ⊢
          have HB13 := Lib.hid hb13
          have H13 := Lib.hid h13
          clear hlk c0 c9 c10 cf cl z0 hb13 hs
          have h13_0 := cell_of_row _ _ 0 _ _ _ h13; have h13_1 := cell_of_row _ _ 1 _ _ _ h13; have h13_2 := cell_of_row _ _ 2 _ _ _ h13; have h13_f := (fun j => frozen_of_row _ _ j _ _ h13); have h13_l := lt_of_block h13; simp at h13_0 h13_1 h13_2; have H_h13 := Lib.hid h13; clear h13
          by_cases hd : x.dl ≤ tt
          · simp only [decide_eq_true hd] at HDU
            have hp := perm_filter_slot HAv.out.inv HX.out
            obtain ⟨M2, hM2⟩ : ∃ M2, Mj.filter (fun y => y.slot != x.slot) = M2 := ⟨_, rfl⟩
            rw [hM2] at hp
            obtain ⟨_, q1, q2, _, q4⟩ := HAv.out.inv.without hp
            have hgo := HAv.out.go rfl hd hp
            have hfo := fun (W : World) (hW : Pure W3 W) => cforget_ok ((HCm.out.pure HAL.out).pure hW) HX.out (by omega) r4 q1 q2 q4
            unfold tdV at hfo
            have hdl : dj.length + 1 ≤ 4194304 := by
              have e1 := hgo.perm.length_eq
              have e2 := HP2.out.count
              simp at e1
              omega
            obtain ⟨nd, hnd⟩ : ∃ nd, dj.length = nd := ⟨_, rfl⟩
            rw [hnd] at hdl ⊢
            have HND := Lib.hid hnd
            have HFo := Lib.hid hfo; have HGo := Lib.hid hgo
            have hbmD : D' bm' ∧ D' bb' := ⟨(HCm.out.dd bm').2 (.inr (.inl rfl)), (HCm.out.dd bb').2 (.inr (.inr (.inl rfl)))⟩
            have HBD := Lib.hid hbmD
            clear hp hM2 q1 q2 q4 hgo hfo hbmD hnd
            go_upto_region 24 with (first
              | (go_at_call 51; refine Calls.mono (HDU.out _) ?_; rintro e w' ⟨rfl, rfl⟩)
              | (go_at_call 52; refine Calls.mono (HFo.out _ (by first | exact Mod.refl _ _ | exact (Mod.refl _ _).drew)) ?_; rintro e w5 ⟨rfl, ⟨Dm2, Db2, hC2⟩, hm2⟩))
            have hm5 : Mod (fun k => k = bm' ∨ k = bb') W3 w5 := by first | exact hm2 | exact Mod.of_drew hm2
            have h5D : Mod D' W3 w5 := hm5.mono (fun k _ e => by rcases e with rfl | rfl; exact HBD.out.1; exact HBD.out.2)
            have h135 := h5D.heap (fun e => by have := HDL.out b13 e; omega) H13.out
            have hmw : Mod D' wr w5 := (Mod.of_pure HAL.out).trans h5D
            have hrow5 := owns_mod HI.out.row hmw HI.out.off
            have hdue5 := owns_mod HI.out.due hmw (fun g hg => (HI.out.fresh g hg).1)
            rw [HND.out] at hdue5
            have HR5 := Lib.hid hrow5; have HD5 := Lib.hid hdue5; have HMW := Lib.hid hmw; have HC2 := Lib.hid hC2; have H135 := Lib.hid h135
            clear h13_0 h13_1 h13_2 h13_f h13_l
            clear H_h13 hm2 hm5 h5D hmw hrow5 hdue5 hC2
            have h135_0 := cell_of_row _ _ 0 _ _ _ h135; have h135_1 := cell_of_row _ _ 1 _ _ _ h135; have h135_2 := cell_of_row _ _ 2 _ _ _ h135; have h135_f := (fun j => frozen_of_row _ _ j _ _ h135); have h135_l := lt_of_block h135; simp at h135_0 h135_1 h135_2; have H_h135 := Lib.hid h135; clear h135
            go_upto_region 25 with (at_builtin; refine wpList_append_read _ rfl _ _ 28 rfl 31 j0 _ 3 24 Tryd.underlying28 hj jz0 jz1 jz2 rfl (by decide) (.slice ad nd cd) nd _ rfl (owns_mod HD5.out ((Mod.refl (fun _ => False) w5).alloc _) (fun _ _ h => h)) _ [.int .u32 x.slot, .int .u64 x.dl, .int .u64 x.birth] 1 rfl (ReadAt.of_block 1 1 3 (heap_new rfl) (by rfl) (by simp [Value.oneCell'])) rfl (by unfold maxLen; omega) (by omega) ?_; intro a8 c8 w6 hr8 hg8 hb8)
            have hmg : Mod (fun k => (Value.slice ad nd cd).ownBlock = some k) w5 w6 := ((Mod.refl _ w5).alloc _).then (Mod.of_grown (S := fun k' => (Value.slice ad nd cd).ownBlock = some k') hg8 (fun k e _ => e)) (fun _ _ h => h)
            have hfr := HI.out.fresh
            rw [HND.out] at hfr
            have hsz5 := HMW.out.size
            have hszw := HI.out.mod.size
            have hal5 : w5.heap.size < (w5.alloc (.cells #[.int .u32 x.slot, .int .u64 x.dl, .int .u64 x.birth] 31)).heap.size := by simp
            have hI6 : AvI w w6 D p tt L mv (some ad0) c7 a8 c8 M2 (dj ++ [x]) D' (j + 1) := ⟨⟨_, _, _, _, _, _, _, HC2.out.frame hmg (fun k hk e => (hfr k e).1 hk), HGo.out⟩, HI.out.grew,
              owns_mod HR5.out hmg (fun g hg e => owns_apart HR5.out HD5.out (by decide) hg e), HI.out.off,
              (by
                show World.ownsRow _ 0 _ 3 (.slice a8 (dj ++ [x]).length c8) (dj ++ [x]).length ((dj ++ [x]).flatMap tdC)
                rw [List.length_append, HND.out, List.flatMap_append]
                exact hr8), fun g hg => (by
                rw [List.length_append, HND.out] at hg
                rcases hb8 with e | e
                · exact hfr g (e ▸ hg)
                · have hg' : (Value.slice a8 (nd + 1) c8).ownBlock = some g := hg
                  rw [e] at hg'
                  cases hg'
                  refine ⟨fun hk => ?_, by omega⟩
                  have := HDL.out _ hk
                  have := HB13.out
                  omega),
              (HI.out.mod.trans' HMW.out (fun _ _ h => h) (fun k hk h => (by
                rcases HI.out.grew k h with e | e
                · exact e
                · omega))).then hmg (fun k hk e => by have := (hfr k e).2; omega)⟩
            have hnx : (dj ++ [x]).length = nd + 1 := by rw [List.length_append, HND.out]; rfl
            have HI6 := Lib.hid hI6; have HNX := Lib.hid hnx
            clear hr8 hg8 hb8 hmg hfr hsz5 hszw hI6 hnx hal5
            go_wp2
            go_roundw
            case rel => exact ⟨j + 1, a8, c8, M2, dj ++ [x], D', by go_num, hlt2, by rw [HNX.out], HI6.out⟩
            case measure => simp [intOf]; omega
          · simp only [decide_eq_false hd] at HDU
            obtain ⟨Ls, B, hL, hK⟩ := HAv.out.inv.get (lvl_spec ht (dl := x.dl) (by omega)).1 (bkt_lt (now := tt) (dl := x.dl))
            have hst := HAv.out.stay HX.out rfl (by omega) hL hK
            have hpu := fun (W : World) (hW : Pure W3 W) => cput_ok ((HCm.out.pure HAL.out).pure hW) (x := x) (M' := Mj) r1 (by omega) r4 (by omega) (by have := HAv.out.inv.count; unfold maxLen; omega) hL hK (HAv.out.inv.notL (fun y hy e => List.mem_cons_self) hL) (.inr ⟨HX.out, fun y hy e => HAv.out.inv.slots y hy x HX.out e, rfl⟩)
            unfold tdV at hpu
            have HPu := Lib.hid hpu; have HSt := Lib.hid hst
            clear hL hK hst hpu
            go_upto_region 25 with (first
              | (go_at_call 51; refine Calls.mono (HDU.out _) ?_; rintro e w' ⟨rfl, rfl⟩)
              | (go_at_call 48; refine Calls.mono (HPu.out _ (by first | exact Mod.refl _ _ | exact (Mod.refl _ _).drew)) ?_; rintro e w5 ⟨rfl, ⟨D2, Ds2, Dm2, Db2, hC2, hg2⟩, hm2⟩))
            have hm5 : Mod D' W3 w5 := by first | exact hm2 | exact Mod.of_drew hm2
            have hg5 : ∀ k, D2 k → D' k ∨ b13 ≤ k := fun k hk => by
              have e1 := HAL.out.size
              have e2 := HB13.out
              rcases hg2 k hk with e | e
              · exact .inl e
              · have e' : W3.heap.size ≤ k := e
                exact .inr (by omega)
            have hmw : Mod D' wr w5 := (Mod.of_pure HAL.out).trans hm5
            have hszw := HI.out.mod.size
            have hI5 : AvI w w5 D p tt L mv (some ad0) c7 ad cd Mj dj D2 (j + 1) := ⟨⟨_, _, _, _, _, _, _, hC2, HSt.out⟩, fun k hk => (by
                rcases hg5 k hk with e | e
                · exact HI.out.grew k e
                · have := HB13.out; exact .inr (by omega)),
              owns_mod HI.out.row hmw HI.out.off, fun g hg hk => (by
                rcases hg5 g hk with e | e
                · exact HI.out.off g hg e
                · have := HMVW.out g hg; omega),
              owns_mod HI.out.due hmw (fun g hg => (HI.out.fresh g hg).1), fun g hg => ⟨fun hk => (by
                rcases hg5 g hk with e | e
                · exact (HI.out.fresh g hg).1 e
                · have := HDUW.out g hg; omega), (HI.out.fresh g hg).2⟩,
              HI.out.mod.trans' hmw (fun _ _ h => h) (fun k hk h => (by
                rcases HI.out.grew k h with e | e
                · exact e
                · omega))⟩
            have HI5b := Lib.hid hI5
            clear hm2 hg2 hC2 hm5 hg5 hmw hszw hI5
            go_wp2
            go_roundw
            case rel => exact ⟨j + 1, ad, cd, Mj, dj, D2, by go_num, hlt2, rfl, HI5b.out⟩
            case measure => simp [intOf]; omega
        · have e : j = n := by omega
          subst e
          have hd0 : mv.drop j = [] := List.drop_of_length_le (by rw [HNS.out]; exact Nat.le_refl _)
          rw [hd0] at hAv
          obtain ⟨hinv, hrest⟩ := hAv.fin
          obtain ⟨e1, e2⟩ := adv_end HS.out hAv.perm hAv.due hrest
          have hLm : ∀ x ∈ dj, x ∈ L := fun x hx => hAv.perm.mem_iff.1 (List.mem_append_right _ hx)
          have hso := sort_ok hI.due (by have := hAv.perm.length_eq; have := HP2.out.count; simp at *; omega) (fun x hx y hy e => HP2.out.births x (hLm x hx) y (hLm y hy) e) (by
            have := hAv.perm.nodup_iff.2 HP2.out.ndM
            rw [List.nodup_append] at this
            exact this.2.1)
          have HSo := Lib.hid hso; have HCm := Lib.hid hC; have HInv := Lib.hid hinv; have HE1 := Lib.hid e1; have HE2 := Lib.hid e2
          clear hI hC hAv hd0 hinv hrest e1 e2 hLm hso
          go_wp2_with (go_at_call 53; refine Calls.mono HSo.out ?_; rintro e w9 ⟨rfl, d', s1, s2, s3, hr9, hm9⟩)
          have hdq : d' = dueL tt L := sorted_uniq s1 (HS.out.sublist (List.takeWhile_sublist _)) (s2.trans HE1.out)
          rw [hdq] at hr9 s3
          have hmD : Mod D w w9 := HI.out.mod.then hm9 (fun k hk e => by have := (HI.out.fresh k e).2; omega)
          refine bodyPost_ret (v := .tuple #[.slice ad dj.length cd, .int .i64 0]) (by simp [results, Tryd.results16, go_sem]) rfl ⟨ad, cd, by rw [s3], hr9, ⟨D', ⟨_, _, _, _, _, _, _, (HCm.out.frame hm9 (fun k hk e => (HI.out.fresh k e).1 hk)).perm HE2.out, HInv.out.perm HE2.out, HS.out.sublist (List.dropWhile_sublist _)⟩, HI.out.grew, fun g hg => HI.out.fresh g (by rw [← s3]; exact hg)⟩, hmD⟩
end
end Go.Proofs.YtlalpenfgkfkpaaDoor

/- cascade: Next. Conditions: the cascade lies in memory, the table too. -/
namespace Go.Proofs.YtlalpenfgkfkpaaDoor
open Go.RowKit
set_option maxRecDepth 100000
def nextD (L : List Td) : Nat := match L with
  | [] => 18446744073709551615
  | x :: _ => x.dl
theorem idx_law {w : World} {A : Array Value} {i q : Nat} (hi : i < 8) (h : A[i]? = some (lkP q)) : (Instr.index 53 (.agg A) (.int .i64 i)).run Tryd.prog w = .ok (lkP q) w := by
  have h0 : (0 : Int) ≤ (i : Int) := by omega
  have h8 : (i : Int) < 8 := by omega
  have e1 := Tryd.underlying53
  have e2 := Tryd.isAgg52 w
  have e3 := Tryd.sizeOf52 w
  simp [Instr.index, run_underlying e1, asIntOf, part, h0, h8, e2, e3, h, go_sem]
  intro c
  omega
theorem fld_law (a b c : Value) (w : World) : (Instr.field 31 (.agg #[a, b, c]) 1).run Tryd.prog w = .ok b w := by kernel_rfl
section
variable {w w' : World} {D : Nat → Prop} {p now tt : Nat} {ws : List Nat} {bm bb : Nat} {Ds : Nat → Nat → Prop} {Dm Db : DataW Unit} {M L : List Td} {Lss : List (List (List Nat))} {P : Nat → Prop}
theorem lvl_lt_dl {a b : Nat} (hn : now < 18446744073709551616) (ha : a < 18446744073709551616) (hb : b < 18446744073709551616) (h2 : now < b) (h : lvl now a < lvl now b) : a < b := by
  obtain ⟨a1, a2, a3⟩ := lvl_spec hn ha
  have hd := lvl_diff hn hb h2
  have := div_pow_mono a2 (show lvl now a + 1 ≤ lvl now b by omega)
  exact lt_of_div (m := 256 ^ lvl now b) (by rw [this]; exact hd)
theorem bkt_lt_dl {a b : Nat} (hn : now < 18446744073709551616) (ha : a < 18446744073709551616) (hb : b < 18446744073709551616) (e : lvl now a = lvl now b) (h : bkt now a < bkt now b) : a < b := by
  obtain ⟨a1, a2, a3⟩ := lvl_spec hn ha
  obtain ⟨b1, b2, b3⟩ := lvl_spec hn hb
  unfold bkt at h
  rw [← e] at h b2
  have e2 : a / 256 ^ (lvl now a + 1) = b / 256 ^ (lvl now a + 1) := a2.trans b2.symm
  rw [Nat.pow_succ, ← Nat.div_div_eq_div_mul, ← Nat.div_div_eq_div_mul] at e2
  exact lt_of_div (m := 256 ^ lvl now a) (by omega)
/-- The head is in the first list that is not empty. -/
theorem head_in (h : PInv now L (fun _ => False) Lss) (hn : now < 18446744073709551616) (hs : L.Pairwise bef) {l b s : Nat} (h1 : slotIn Lss l b s) (h2 : ∀ b' s', b' < b → ¬ slotIn Lss l b' s') (h3 : ∀ l' b' s', l' < l → ¬ slotIn Lss l' b' s') :
    ∃ z L', L = z :: L' ∧ slotIn Lss l b z.slot ∧ ∀ y ∈ L, z.dl ≤ y.dl := by
  obtain ⟨_, x, hx, e1, e2, e3⟩ := (h.at_ _ _ _).1 h1
  cases L with
  | nil => cases hx
  | cons z L' =>
    have hz : ∀ y ∈ z :: L', z.dl ≤ y.dl := fun y hy => by
      rcases List.mem_cons.1 hy with rfl | hy
      · exact Nat.le_refl _
      · have := (List.pairwise_cons.1 hs).1 y hy
        unfold bef at this
        omega
    have hzm : z ∈ z :: L' := List.mem_cons_self
    have hzi : slotIn Lss (lvl now z.dl) (bkt now z.dl) z.slot := (h.at_ _ _ _).2 ⟨(fun c => c), z, hzm, rfl, rfl, rfl⟩
    have hzx := hz x hx
    obtain ⟨r1, r2, r3⟩ := h.rng x hx
    obtain ⟨t1, t2, t3⟩ := h.rng z hzm
    have hza := h.after z hzm (fun c => c)
    have hl : ¬ lvl now z.dl < l := fun c => h3 _ _ _ c hzi
    have hl2 : ¬ l < lvl now z.dl := fun c => by
      rw [← e2] at c
      have := lvl_lt_dl hn (a := x.dl) (b := z.dl) (by omega) (by omega) hza c
      omega
    have el : lvl now z.dl = l := by omega
    rw [el] at hzi
    have hb : ¬ bkt now z.dl < b := fun c => h2 _ _ c hzi
    have hb2 : ¬ b < bkt now z.dl := fun c => by
      rw [← e3] at c
      have := bkt_lt_dl hn (a := x.dl) (b := z.dl) (by omega) (by omega) (by omega) c
      omega
    have eb : bkt now z.dl = b := by omega
    rw [eb] at hzi
    exact ⟨z, L', rfl, hzi, hz⟩
theorem eight {ws : List Nat} (h : ws.length = 8) : ∃ a b c d e f g i, ws = [a, b, c, d, e, f, g, i] := by
  match ws, h with
  | [a, b, c, d, e, f, g, i], _ => exact ⟨a, b, c, d, e, f, g, i, rfl⟩
set_option maxHeartbeats 2000000 in
theorem CasAt.next (h : CasAt w D p now L) (hT : TabW w) : Calls Tryd.prog 27 #[lkP p] w fun e w' => e = .returned (.int .u64 (nextD L)) ∧ Pure w w' := by
  obtain ⟨ws, bm, bb, Ds, Dm, Db, Lss, h1, h2, h3⟩ := h
  have hnow := h1.box.now
  have HCk := Lib.hid (ccheck_ok h1.box (s := 0) (by omega))
  obtain ⟨c0, c9, c10, cf, cl⟩ := h1.box.cells
  have hlen := h1.box.len
  obtain ⟨q0, q1, q2, q3, q4, q5, q6, q7, hq⟩ := eight hlen
  have hcl := fun (l q : Nat) (hq : ws[l]? = some q) => h1.box.level hq
  have z0 := hcl 0 q0 (by rw [hq]; rfl)
  have z1 := hcl 1 q1 (by rw [hq]; rfl)
  have z2 := hcl 2 q2 (by rw [hq]; rfl)
  have z3 := hcl 3 q3 (by rw [hq]; rfl)
  have z4 := hcl 4 q4 (by rw [hq]; rfl)
  have z5 := hcl 5 q5 (by rw [hq]; rfl)
  have z6 := hcl 6 q6 (by rw [hq]; rfl)
  have z7 := hcl 7 q7 (by rw [hq]; rfl)
  simp only [Nat.reduceAdd] at z0 z1 z2 z3 z4 z5 z6 z7
  have HQ := Lib.hid hq
  have HC := Lib.hid h1; have HI := Lib.hid h2; have HS := Lib.hid h3; have HT := Lib.hid hT; have HLEN := Lib.hid hlen
  clear h1 h2 h3 hcl hq hT hlen
  go_enter Tryd.func27, Tryd.ntmps27
  go_upto_region 5 with (go_at_call 46; refine Calls.mono HCk.out ?_; rintro e w' ⟨rfl, rfl⟩)
  have hA : ∀ i q : Nat, ws[i]? = some q → (#[lkP q0, lkP q1, lkP q2, lkP q3, lkP q4, lkP q5, lkP q6, lkP q7] : Array Value)[i]? = some (lkP q) := fun i q h => by
    rw [HQ.out] at h
    have : (#[lkP q0, lkP q1, lkP q2, lkP q3, lkP q4, lkP q5, lkP q6, lkP q7] : Array Value) = ([q0, q1, q2, q3, q4, q5, q6, q7].map lkP).toArray := rfl
    rw [this, List.getElem?_toArray, List.getElem?_map, h]
    rfl
  have hAs : (#[lkP q0, lkP q1, lkP q2, lkP q3, lkP q4, lkP q5, lkP q6, lkP q7] : Array Value).size = 8 := rfl
  clear z0 z1 z2 z3 z4 z5 z6 z7
  generalize (#[lkP q0, lkP q1, lkP q2, lkP q3, lkP q4, lkP q5, lkP q6, lkP q7] : Array Value) = A at *
  have HA := Lib.hid hA
  clear hA
  go_loopw [3, 20] (fun v3 v20 wr => ∃ i : Nat, v3 = .int .u64 18446744073709551615 ∧ v20 = .int .i64 (i : Nat) ∧ i ≤ 8 ∧ Pure w wr ∧ ∀ l b s, l < i → ¬ slotIn Lss l b s) (fun _ v20 _ => 8 - (intOf v20).toNat)
  case atStart => exact ⟨0, rfl, rfl, Nat.zero_le _, Mod.refl _ _, fun l b s h => by omega⟩
  case round =>
    obtain ⟨i, rfl, rfl, hi8, hpu, hem⟩ := hrel
    have HPU := Lib.hid hpu; have HEM := Lib.hid hem
    by_cases hlt : i < 8
    · have hlt' : (i : Int) < 8 := by omega
      have i0 : (0 : Int) ≤ (i : Int) := by omega
      have wi : IntKind.i64.wrap ((i : Int) + 1) = (i : Int) + 1 := IntWalk.i64_in _ (by omega)
      have dl8 : decide (i < 8) = true := decide_eq_true hlt
      obtain ⟨q, hq⟩ : ∃ q, ws[i]? = some q := ⟨_, List.getElem?_eq_getElem (by rw [HLEN.out]; exact hlt)⟩
      have hAi := HA.out i q hq
      have hAi2 := idx_law (w := wr) hlt hAi
      obtain ⟨Ls, hLs⟩ : ∃ Ls, Lss[i]? = some Ls := ⟨_, List.getElem?_eq_getElem (by rw [HI.out.len]; exact hlt)⟩
      have hWh := (HC.out.pure hpu).lev i q Ls hq hLs
      have hNx := wnext_ok hWh (HT.out.pure hpu)
      obtain ⟨b, er, hne, hnc⟩ := nextE_cases (neB Ls)
      rw [hne] at hNx
      have HNx := Lib.hid hNx; have HNC := Lib.hid hnc; have HWh := Lib.hid hWh; have HLs := Lib.hid hLs
      clear hpu hem hq hNx hne hnc hWh hLs
      rcases HNC.out with ⟨hf, rfl⟩ | ⟨hf, rfl, rfl⟩
      · obtain ⟨f1, f2, f3⟩ := firstB_spec hf
        obtain ⟨l, hl⟩ : ∃ l, Ls[b]? = some l := ⟨_, List.getElem?_eq_getElem (by rw [HWh.out.len]; exact f1)⟩
        have hne : l ≠ [] := fun e => by
          unfold neB at f2
          rw [hl, e] at f2
          cases f2
        obtain ⟨s0, hs0⟩ := List.exists_mem_of_ne_nil l hne
        obtain ⟨z, L', hLz, hzi, hzm⟩ := head_in HI.out hnow HS.out (l := i) (b := b) (s := s0) ⟨Ls, l, HLs.out, hl, hs0⟩ (fun b' s' hb' hsl => by
            obtain ⟨A1, B1, g1, g2, g3⟩ := hsl
            rw [HLs.out] at g1
            cases g1
            have := f3 b' hb'
            unfold neB at this
            rw [g2] at this
            cases B1 with
            | nil => cases g3
            | cons y B1 => simp at this) HEM.out
        have hzl : z.slot ∈ l := by
          obtain ⟨A1, B1, g1, g2, g3⟩ := hzi
          rw [HLs.out] at g1; cases g1
          rw [hl] at g2; cases g2
          exact g3
        have hsl : ∀ s ∈ l, ∃ x ∈ L, x.slot = s := fun s hs => by
          obtain ⟨_, x, hx, e, _⟩ := (HI.out.at_ i b s).1 ⟨Ls, l, HLs.out, hl, hs⟩
          exact ⟨x, hx, e⟩
        have HZM2 := Lib.hid (show z ∈ L by rw [hLz]; exact List.mem_cons_self)
        have hnd : nextD L = z.dl := by rw [hLz]; rfl
        have hzr := HI.out.rng z (by rw [hLz]; exact List.mem_cons_self)
        have hll := (HWh.out.small hl).1
        have hLi := wlist_ok HWh.out hl
        obtain ⟨n, hn⟩ : ∃ n, l.length = n := ⟨_, rfl⟩
        rw [hn] at hLi hll
        have HLi := Lib.hid hLi; have HN := Lib.hid hn; have HZL := Lib.hid hzl; have HZM := Lib.hid hzm; have HSL := Lib.hid hsl; have HND := Lib.hid hnd; have HZR := Lib.hid hzr
        clear hf f1 f2 f3 hl hne hs0 hLz hzi hLi hn hzl hzm hsl hnd hzr HNC
        go_upto_region 11 with (first
          | (go_at_call 64; refine Calls.mono HNx.out ?_; rintro e w' ⟨rfl, rfl⟩)
          | (go_at_call 65; refine Calls.mono HLi.out ?_; rintro e w2 ⟨a, c, rfl, hr2, hf2, hp2⟩))
        have HR2 := Lib.hid hr2; have HP2 := Lib.hid (HPU.out.trans hp2)
        clear hr2 hf2 hp2
        go_loopw [3, 38] (fun v3 v38 wq => ∃ j m : Nat, v3 = .int .u64 (m : Nat) ∧ v38 = .int .i64 (j : Nat) ∧ j ≤ n ∧ z.dl ≤ m ∧ m ≤ 18446744073709551615 ∧ (z.slot ∈ l.take j → m = z.dl) ∧ Pure w wq ∧ NumRow wq a c l) (fun _ v38 _ => n - (intOf v38).toNat)
        case atStart => exact ⟨0, 18446744073709551615, rfl, rfl, Nat.zero_le _, by have := HZR.out.2.1; omega, Nat.le_refl _, (fun h => by simp at h), HP2.out, HR2.out⟩
        case round =>
          obtain ⟨j, m, rfl, rfl, hjn, hzm, hm64, hmz, hpq, hrq⟩ := hrel
          have HPQ := Lib.hid hpq; have HRQ := Lib.hid hrq
          by_cases hltj : j < n
          · have hlt2 : (j : Int) < (n : Int) := by omega
            have j0 : (0 : Int) ≤ (j : Int) := by omega
            have wj : IntKind.i64.wrap ((j : Int) + 1) = (j : Int) + 1 := IntWalk.i64_in _ (by omega)
            obtain ⟨s, hs⟩ : ∃ s, l[j]? = some s := ⟨_, List.getElem?_eq_getElem (by rw [HN.out]; exact hltj)⟩
            obtain ⟨x, hx, rfl⟩ := HSL.out s (List.mem_of_getElem? hs)
            obtain ⟨ad, had, y0⟩ := read_num (num_read hrq) hs
            obtain ⟨r1, r2, r3, r4⟩ := HI.out.rng x hx
            have hCq := HC.out.pure hpq
            have hlk := hCq.what.look1 hx (by omega)
            unfold tdV at hlk
            obtain ⟨c0', c9', c10', cf', cl'⟩ := hCq.box.cells
            have hzx := HZM.out x hx
            have htk : l.take (j + 1) = l.take j ++ [x.slot] := by rw [List.take_add_one, hs]; rfl
            have hxz : x.slot = z.slot → x.dl = z.dl := fun e => by
              rw [HI.out.slots x hx z HZM2.out e]
            have HPX := Lib.hid hxz; have HTK := Lib.hid htk
            subst had
            clear hs hx hxz htk hCq hpq hrq
            have hfl := fld_law (.int .u32 x.slot) (.int .u64 x.dl) (.int .u64 x.birth) wr
            go_wp2
            refine ⟨⟨j + 1, min m x.dl, ?_, by go_num, hltj, by omega, by omega, fun hz => ?_, HPQ.out, HRQ.out⟩, ?_⟩
            · rw [show ((min m x.dl : Nat) : Int) = min (m : Int) (x.dl : Int) by omega]
            · rw [HTK.out] at hz
              rcases List.mem_append.1 hz with hz | hz
              · have := hmz hz; omega
              · rw [List.mem_singleton] at hz
                have := HPX.out hz.symm
                omega
            · simp [intOf]; omega
          · have e : j = n := by omega
            subst e
            have hm : m = z.dl := hmz (by rw [List.take_of_length_le (by rw [HN.out]; exact Nat.le_refl _)]; exact HZL.out)
            have HM := Lib.hid hm
            clear hpq hrq hm hmz hzm
            go_wp2
            go_ret
            exact ⟨by rw [HND.out, HM.out]; rfl, HPQ.out⟩
      · have hz := firstB_spec0 hf
        have hz2 : ∀ b s, ¬ slotIn Lss i b s := fun b s hsl => by
          obtain ⟨A1, B1, g1, g2, g3⟩ := hsl
          rw [HLs.out] at g1
          cases g1
          have hb : b < 256 := by have := (List.getElem?_eq_some_iff.1 g2).1; rw [HWh.out.len] at this; exact this
          have := hz b hb
          unfold neB at this
          rw [g2] at this
          cases B1 with
          | nil => cases g3
          | cons y B1 => simp at this
        have HZ2 := Lib.hid hz2
        clear hf hz hz2 HNC
        go_wp2_with (go_at_call 64; refine Calls.mono HNx.out ?_; rintro e w' ⟨rfl, rfl⟩)
        go_roundw
        case rel => exact ⟨i + 1, rfl, by go_num, hlt, HPU.out, fun l b s hl => by
          rcases Nat.lt_or_ge l i with h | h
          · exact HEM.out l b s h
          · have : l = i := by omega
            subst this
            exact HZ2.out b s⟩
        case measure => simp [intOf]; omega
    · have e : i = 8 := by omega
      subst e
      have hL0 : L = [] := by
        cases hL : L with
        | nil => rfl
        | cons z L' =>
          exfalso
          have hzm : z ∈ L := by rw [hL]; exact List.mem_cons_self
          have hr := HI.out.rng z hzm
          have hz := (HI.out.at_ (lvl now z.dl) (bkt now z.dl) z.slot).2 ⟨(fun c => c), z, hzm, rfl, rfl, rfl⟩
          exact HEM.out _ _ _ (lvl_spec hnow (dl := z.dl) (by omega)).1 hz
      have hnd : nextD L = 18446744073709551615 := by rw [hL0]; rfl
      have HN0 := Lib.hid hnd
      clear hpu hem hL0 hnd
      go_wp2
      go_ret
      exact ⟨by rw [HN0.out]; rfl, HPU.out⟩
end
end Go.Proofs.YtlalpenfgkfkpaaDoor
