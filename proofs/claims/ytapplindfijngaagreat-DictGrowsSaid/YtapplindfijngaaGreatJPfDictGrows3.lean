/- Lemmas and contracts of functions, strung together out of 2 texts. No condition. -/
import Derived.Test.YtapplindfijngaaGreatJPfDictGrows2
import Derived.Test.YtapplindfijngaaGreatJPfDictGrows1
/- The law for a range over a function (XRange), at a loop within a round of another one. -/
namespace Go.Proofs.YtapplindfijngaaGreat
open Go.RowKit Go.Shelf
variable {P : Program}

/-- THE LAW, at a loop within a round of loop l0. -/
theorem wp_range_in {α : Type} {l0 : Nat} {r0 : Loop} {g : Operand} {ps : Array Tmp} {assign body : Code} {Q : Exit → Act → World → Prop} {a : Act} {w : World}
    (hl0 : w.heap[l0]? = some (.loop r0)) {gf : Nat} {lb : Array Value} (hg : a.eval g = .func (.func gf) #[] lb) (eg : ∀ args w, (callFunc gf args).run P w = .ok (.enter gf args) w)
    {encs : α → Array Value} {It : Nat → Prop} {G : List α → α → World → Prop} {S : List α → Prop} (hit : IterOk P gf lb encs It G S w) (hItlt : ∀ k, It k → k < w.heap.size)
    (hps : ∀ x, (encs x).size = ps.size)
    (I : List α → World → Prop) (Ix : Code → List α → World → Prop) (hI : ∀ pre A B, I pre A → Quiet w.heap.size A B → I pre B) (hIx : ∀ c pre A B, Ix c pre A → Quiet w.heap.size A B → Ix c pre B) (h0 : I [] w)
    (Ax : List α → α → Act → World → Prop) (hAx : ∀ pre x a' A B, Ax pre x a' A → Quiet w.heap.size A B → Ax pre x a' B)
    (hassign : ∀ (l : Nat) (pre : List α) (x : α) (W : World) (K : Act → World → Prop), I pre W → G pre x W → (∀ a' W', Pure W W' → Ax pre x a' W' → K a' W') →
      assign.wpIn (Fence.wide.inRound l) 0 P (Exit.then K (fun _ _ _ => False)) { tmps := (ps.zip (encs x)).foldl (fun t (p, v) => t.setIfInBounds p v) a.tmps, defers := [] } W)
    (hbody : ∀ (l : Nat) (pre : List α) (x : α) (a' : Act) (W : World), w.heap.size ≤ l → (∃ r, W.heap[l]? = some (.loop r)) → Ax pre x a' W →
      body.wpIn (Fence.wide.inRound l) 0 P (roundEnd w.heap.size It I Ix (pre ++ [x]) W) a' W)
    (hdone : ∀ (xs : List α) (W : World), S xs → I xs W → Q .normal a W)
    (hstop : ∀ (c : Code) (pre : List α) (W : World), Ix c pre W → c.wpIn (Fence.wide.inRound l0) 0 P Q a W) :
    (Code.rangeFunc g ps assign body).wpIn (Fence.wide.inRound l0) 0 P Q a w := by
  refine wpIn_rangeFunc ?_
  intro fn hfn
  obtain ⟨rec, hrec⟩ : ∃ rec : LoopState → Option Code → Loop, rec = fun st pe => { state := st, pending := pe, fn, tmps := a.tmps, params := ps, assign, body, defers := r0.defers } := ⟨_, rfl⟩
  obtain ⟨W1, hW1⟩ : ∃ W1, w.alloc (.loop (rec .ready none)) = W1 := ⟨_, rfl⟩
  have hL1 : W1.heap[w.heap.size]? = some (.loop (rec .ready none)) := by rw [← hW1]; exact heap_new rfl
  have hP1 : Pure w W1 := by rw [← hW1]; exact (Mod.refl _ w).alloc _
  have hI1 : I [] W1 := hI _ _ _ h0 (Quiet.of_pure hP1)
  refine ⟨w.heap.size, [], W1, { target := .fn (.func gf) lb, args := #[.func (.yield (w.heap.size)) #[] #[]] }, W1, gf,
    #[.func (.yield (w.heap.size)) #[] #[]] ++ lb, W1, ?_, ?_, fun _ _ => trivial, ?_, (fun h => by cases h), ?_⟩
  · rw [← hW1, hrec]; exact run_enterLoop_inner hl0 _ _ _ _ _
  · simp only [resolve, hg]
    simp [go_sem]
  · simp [invoke, go_sem, eg]
  · refine (hit (w.heap.size)
      (fun pre W => I pre W ∧ W.heap[w.heap.size]? = some (.loop (rec .ready none)) ∧ w.heap.size ≤ W.heap.size)
      (fun pre W => ∃ c, Ix c pre W ∧ W.heap[w.heap.size]? = some (.loop (rec .done (some c))))
      W1 hP1
      (fun pre A B hs hp => ⟨hI _ _ _ hs.1 (Quiet.of_pure hp), hp.heap (fun h => h) hs.2.1, Nat.le_trans hs.2.2 hp.size⟩)
      (fun pre A B hs hp => by
        obtain ⟨c, hc, hl⟩ := hs
        exact ⟨c, hIx _ _ _ _ hc (Quiet.of_pure hp), hp.heap (fun h => h) hl⟩)
      ?_ ⟨hI1, hL1, hP1.size⟩).mono ?_
    · rintro pre x W ⟨hi, hl, hsz⟩ hGx
      have hlt : w.heap.size < W.heap.size := (Array.getElem?_eq_some_iff.1 hl).1
      have hy := run_yield (P := P) (args := encs x) hl (by rw [hrec]; exact hps x)
      rw [hrec] at hy
      refine ⟨fn, _, assign, body, hy, roundIn_of_wpIn hfn (hassign _ pre x W _ hi hGx ?_)⟩
      clear hy
      intro a' Wa hpa hax
      have hla : Wa.heap[w.heap.size]? = _ := hpa.heap (fun h => h) hl
      have hlta : w.heap.size < Wa.heap.size := (Array.getElem?_eq_some_iff.1 hla).1
      refine ⟨_, run_beginRound hla (by rw [hrec]), ?_⟩
      have hq2 : Quiet w.heap.size Wa (Wa.putObj (w.heap.size) (.loop { rec .ready none with state := .busy })) := Quiet.putObj _ (by omega) hla rfl
      have hl2 : (Wa.putObj (w.heap.size) (.loop { rec .ready none with state := .busy })).heap[w.heap.size]? = some (.loop { rec .ready none with state := .busy }) := World.putObj_heap_same hlta
      have ha2 := hAx _ _ _ _ _ hax hq2
      have hit2 : KeepsIt It W (Wa.putObj (w.heap.size) (.loop { rec .ready none with state := .busy })) :=
        (KeepsIt.of_pure hpa).trans ⟨by simp, fun k hk _ => World.putObj_heap_other (by have := hItlt k hk; omega)⟩
      refine wpIn_mono (hbody _ pre x a' _ (by omega) ⟨_, hl2⟩ ha2) ?_
      have fin : ∀ (jump : Option Code) (W3 : World), KeepsRec w.heap.size (Wa.putObj (w.heap.size) (.loop { rec .ready none with state := .busy })) W3 →
          (Instr.endRound (w.heap.size) jump).run P W3 = .ok (.bool jump.isNone) (W3.putObj (w.heap.size) (.loop (rec (if jump.isNone then .ready else .done) jump))) ∧
          W3.heap[w.heap.size]? = some (.loop { rec .ready none with state := .busy }) ∧
          (W3.putObj (w.heap.size) (.loop (rec (if jump.isNone then .ready else .done) jump))).heap[w.heap.size]? = some (.loop (rec (if jump.isNone then .ready else .done) jump)) := fun jump W3 hk3 => by
        have hl3 := hk3 _ _ (by omega) hl2 rfl
        have := run_endRound (P := P) jump hl3
        rw [hrec] at this ⊢
        exact ⟨this, by rw [hrec] at hl3; exact hl3, World.putObj_heap_same (Array.getElem?_eq_some_iff.1 hl3).1⟩
      rintro e a3 W3 hp
      cases e with
      | normal =>
        obtain ⟨hk3, hkp3, hi3⟩ := hp
        obtain ⟨hr, hl3, hl4⟩ := fin none W3 hk3
        have hlt3 : w.heap.size < W3.heap.size := (Array.getElem?_eq_some_iff.1 hl3).1
        exact ⟨_, _, hr, .inl ⟨rfl, ⟨hI _ _ _ hi3 (Quiet.putObj _ (by omega) hl3 rfl), hl4, by simp; omega⟩,
          (hit2.trans hkp3).trans ⟨by simp, fun k hk _ => World.putObj_heap_other (by have := hItlt k hk; omega)⟩⟩⟩
      | ret =>
        obtain ⟨hk3, hi3⟩ := hp
        obtain ⟨hr, hl3, hl4⟩ := fin (some .ret) W3 hk3
        exact ⟨_, _, hr, .inr ⟨rfl, .ret, hIx _ _ _ _ hi3 (Quiet.putObj _ (by omega) hl3 rfl), hl4⟩⟩
      | exit id =>
        obtain ⟨hk3, hi3⟩ := hp
        obtain ⟨hr, hl3, hl4⟩ := fin (some (.exit id)) W3 hk3
        exact ⟨_, _, hr, .inr ⟨rfl, .exit id, hIx _ _ _ _ hi3 (Quiet.putObj _ (by omega) hl3 rfl), hl4⟩⟩
      | goto t =>
        obtain ⟨hk3, hi3⟩ := hp
        obtain ⟨hr, hl3, hl4⟩ := fin (some (.goto t)) W3 hk3
        exact ⟨_, _, hr, .inr ⟨rfl, .goto t, hIx _ _ _ _ hi3 (Quiet.putObj _ (by omega) hl3 rfl), hl4⟩⟩
      | panic ch => exact hp.elim
      | outgrown => exact hp.elim
    · rintro e W2 ⟨⟨v, rfl⟩, (⟨xs, hS, hi, hl, _⟩ | ⟨pre, c, hi, hl⟩)⟩
      · exact ⟨none, _, by have := run_endLoop (P := P) hl (by rw [hrec]; simp); rw [hrec] at this; exact this, hdone xs _ hS (hI _ _ _ hi (Quiet.putObj _ (by omega) hl rfl))⟩
      · exact ⟨some c, _, by have := run_endLoop (P := P) hl (by rw [hrec]; simp); rw [hrec] at this; exact this, hstop c pre _ (hIx _ _ _ _ hi (Quiet.putObj _ (by omega) hl rfl))⟩


theorem wp_range_in2 {α : Type} {l0 : Nat} {r0 : Loop} {g : Operand} {ps : Array Tmp} {assign body : Code} {Q : Exit → Act → World → Prop} {a : Act} {w : World}
    (hl0 : w.heap[l0]? = some (.loop r0)) {gf : Nat} {lb : Array Value} (hg : a.eval g = .func (.func gf) #[] lb) (eg : ∀ args w, (callFunc gf args).run P w = .ok (.enter gf args) w)
    {encs : α → Array Value} {It : Nat → Prop} {G : List α → α → World → Prop} {S : List α → Prop} (hit : IterOk P gf lb encs It G S w) (hItlt : ∀ k, It k → k < w.heap.size)
    (hps : ∀ x, (encs x).size = ps.size)
    (I : List α → World → Prop) (Ix : Code → List α → World → Prop) (hI : ∀ pre A B, I pre A → Quiet w.heap.size A B → I pre B) (hIx : ∀ c pre A B, Ix c pre A → Quiet w.heap.size A B → Ix c pre B) (h0 : I [] w)
    (hround : ∀ (l : Nat) (pre : List α) (x : α) (W : World) (K : Act → World → Prop), I pre W → G pre x W →
      (∀ a' W', Pure W W' → (∀ (l' : Nat) (W2 : World), w.heap.size ≤ l' → (∃ r, W2.heap[l']? = some (.loop r)) → Quiet w.heap.size W' W2 → body.wpIn (Fence.wide.inRound l') 0 P (roundEnd w.heap.size It I Ix (pre ++ [x]) W2) a' W2) → K a' W') →
      assign.wpIn (Fence.wide.inRound l) 0 P (Exit.then K (fun _ _ _ => False)) { tmps := (ps.zip (encs x)).foldl (fun t (p, v) => t.setIfInBounds p v) a.tmps, defers := [] } W)
    (hdone : ∀ (xs : List α) (W : World), S xs → I xs W → Q .normal a W)
    (hstop : ∀ (c : Code) (pre : List α) (W : World), Ix c pre W → c.wpIn (Fence.wide.inRound l0) 0 P Q a W) :
    (Code.rangeFunc g ps assign body).wpIn (Fence.wide.inRound l0) 0 P Q a w :=
  wp_range_in hl0 hg eg hit hItlt hps I Ix hI hIx h0
    (fun pre x a' W' => ∀ (l' : Nat) (W2 : World), w.heap.size ≤ l' → (∃ r, W2.heap[l']? = some (.loop r)) → Quiet w.heap.size W' W2 → body.wpIn (Fence.wide.inRound l') 0 P (roundEnd w.heap.size It I Ix (pre ++ [x]) W2) a' W2)
    (fun _ _ _ _ _ h hq l' W2 hl hr hq2 => h l' W2 hl hr (hq.trans hq2)) hround (fun l _ _ _ W hl hr h => h l W hl hr (Quiet.refl _ _)) hdone hstop
end Go.Proofs.YtapplindfijngaaGreat

/- The index in memory: its groups' lanes; what is seen for a hash. -/
namespace Go.Proofs.YtapplindfijngaaGreat
open Go.RowKit Go.Shelf
set_option maxRecDepth 100000

/-- A group: control bytes and slot numbers. -/
abbrev Grp := List Nat × List Nat
def groupCells (c : Grp) : List Value := .int .u64 (word8 c.1) :: (List.range 8).map (fun i => .int .u32 ((c.2.getD i 0 : Nat) : Int))
theorem groupCells_length (c : Grp) : (groupCells c).length = 9 := by simp [groupCells]
theorem groupCells_slot (c : Grp) {j : Nat} (hj : j < 8) : (groupCells c)[j + 1]? = some (.int .u32 ((c.2.getD j 0 : Nat) : Int)) := by
  unfold groupCells
  rw [List.getElem?_cons_succ, List.getElem?_map, List.getElem?_range hj]
  rfl
theorem groupCells_one (Gs : List Grp) : ∀ u ∈ Gs.flatMap groupCells, u.oneCell' = true := by
  intro u hu
  obtain ⟨c, _, hu⟩ := List.mem_flatMap.1 hu
  unfold groupCells at hu
  rcases List.mem_cons.1 hu with rfl | hu
  · rfl
  · obtain ⟨i, _, rfl⟩ := List.mem_map.1 hu; rfl
structure GrpOk (c : Grp) : Prop where
  ctl : Group c.1
  len : c.2.length = 8
  lt : ∀ s ∈ c.2, s ≤ 4294967295
theorem GrpOk.slot {c : Grp} (h : GrpOk c) (j : Nat) : c.2.getD j 0 ≤ 4294967295 := by
  rw [List.getD_eq_getElem?_getD]
  cases hi : c.2[j]? with
  | none => simp
  | some s => exact h.lt s (List.mem_of_getElem? hi)
/-- How many slot numbers there are; how many lanes are deleted. -/
def usedN (Gs : List Grp) : Nat := (Gs.map (fun c => c.1.countP (· < 128))).sum
def tombN (Gs : List Grp) : Nat := (Gs.map (fun c => c.1.countP (· == 254))).sum
structure IxOk (Gs : List Grp) : Prop where
  pow : Pow Gs.length
  grp : ∀ c ∈ Gs, GrpOk c
def grpAt (Gs : List Grp) (i : Nat) : Grp := Gs.getD i ([], [])
theorem grpAt_some {Gs : List Grp} {i : Nat} (h : i < Gs.length) : Gs[i]? = some (grpAt Gs i) := by
  unfold grpAt; rw [List.getD_eq_getElem?_getD, List.getElem?_eq_getElem h]; rfl
theorem IxOk.at {Gs : List Grp} (h : IxOk Gs) {i : Nat} (hi : i < Gs.length) : GrpOk (grpAt Gs i) := h.grp _ (List.mem_of_getElem? (grpAt_some hi))

structure IxRow (w : World) (D : Nat → Prop) (p : Nat) (sv : Value) (Gs : List Grp) : Prop where
  box : w.heap[p]? = some (.cells #[sv, .int .i64 (usedN Gs), .int .i64 (tombN Gs)] 164 (0, 0))
  row : w.ownsRow 0 168 9 sv Gs.length (Gs.flatMap groupCells)
  dd : ∀ k, D k ↔ k = p ∨ sv.ownBlock = some k
  ok : IxOk Gs
theorem IxRow.mod {w w' : World} {D S : Nat → Prop} {p : Nat} {sv : Value} {Gs : List Grp} (h : IxRow w D p sv Gs) (hm : Mod S w w') (hS : ∀ k, D k → ¬ S k) : IxRow w' D p sv Gs :=
  ⟨hm.heap (hS p ((h.dd p).2 (.inl rfl))) h.box, owns_mod h.row hm (fun g hg => hS g ((h.dd g).2 (.inr hg))), h.dd, h.ok⟩
theorem IxRow.pure {w w' : World} {D : Nat → Prop} {p : Nat} {sv : Value} {Gs : List Grp} (h : IxRow w D p sv Gs) (hm : Pure w w') : IxRow w' D p sv Gs := h.mod hm (fun _ _ h => h)
theorem IxRow.quiet {N : Nat} {w w' : World} {D : Nat → Prop} {p : Nat} {sv : Value} {Gs : List Grp} (h : IxRow w D p sv Gs) (hq : Quiet N w w') : IxRow w' D p sv Gs :=
  ⟨hq.cells h.box, hq.owns h.row, h.dd, h.ok⟩
/-- The row's block, its cells. -/
theorem IxRow.at {w : World} {D : Nat → Prop} {p : Nat} {sv : Value} {Gs : List Grp} (h : IxRow w D p sv Gs) :
    ∃ B c, sv = .slice (some ⟨B, 0, none⟩) Gs.length c ∧ Gs.length ≤ c ∧ B < w.heap.size ∧ D B ∧ (∀ j, w.frozen? ⟨B, j, none⟩ = false) ∧
      ∀ i, i < Gs.length → w.cell? ⟨B, i * 9, none⟩ = some (.int .u64 (word8 (grpAt Gs i).1)) ∧ ∀ j, j < 8 → w.cell? ⟨B, i * 9 + (j + 1), none⟩ = some (.int .u32 (((grpAt Gs i).2.getD j 0 : Nat) : Int)) := by
  obtain ⟨B, c, rfl, hc, hB, hcells, hf, _⟩ := owns_at h.row h.ok.pow.pos
  refine ⟨B, c, rfl, hc, hB, (h.dd B).2 (.inr rfl), hf, fun i hi => ⟨?_, fun j hj => ?_⟩⟩
  · have := flat_get groupCells 9 groupCells_length 0 (by omega) Gs i
    rw [grpAt_some hi] at this
    exact hcells _ _ this
  · have := flat_get groupCells 9 groupCells_length (j + 1) (by omega) Gs i
    rw [grpAt_some hi] at this
    exact hcells _ _ (this.trans (groupCells_slot _ hj))

/-! ### what is seen -/
/-- The lanes of a group that have a tag. -/
def seenIn (c : Grp) (tag : Nat) : List Nat := lanesOf (mask (c.1.map (· == tag)))
def blanks (c : Grp) : Bool := c.1.any (· == 128)
def seenFrom (Gs : List Grp) (tag : Nat) : List Nat → List (Nat × Nat)
  | [] => []
  | i :: r => (seenIn (grpAt Gs i) tag).map (fun j => (i, j)) ++ if blanks (grpAt Gs i) then [] else seenFrom Gs tag r
def seenM (Gs : List Grp) (sum : Nat) : List (Nat × Nat) := seenFrom Gs (sum % 128) (probes (sum / 128) Gs.length)
def slotAt (Gs : List Grp) (x : Nat × Nat) : Nat := (grpAt Gs x.1).2.getD x.2 0
/-- The function says false of each one, behind those ahead of it. -/
def falses (f : List Nat → Nat → Bool) (xs : List Nat) : Prop := ∀ a b c, xs = a ++ b :: c → f a b = false
theorem falses_nil (f : List Nat → Nat → Bool) : falses f [] := fun a b c h => by simp at h
theorem falses_snoc {f : List Nat → Nat → Bool} {xs : List Nat} {x : Nat} (h : falses f xs) (hx : f xs x = false) : falses f (xs ++ [x]) := by
  intro a b c e
  rcases List.eq_nil_or_concat c with rfl | ⟨c', y, rfl⟩
  · have : xs = a ∧ x = b := by
      have := List.append_inj' e rfl
      exact ⟨this.1, by simpa using this.2⟩
    rw [← this.1, ← this.2]; exact hx
  · have : xs ++ [x] = (a ++ b :: c') ++ [y] := by rw [e]; simp
    have := (List.append_inj' this rfl).1
    exact h a b c' this
/-- The seen ones: those of the groups that were gone over, and of the lanes of this one. -/
theorem seen_pre {Gs : List Grp} {tag : Nat} : ∀ (pre : List Nat) (i : Nat) (post : List Nat), (∀ k ∈ pre, blanks (grpAt Gs k) = false) →
    seenFrom Gs tag (pre ++ i :: post) = pre.flatMap (fun i => (seenIn (grpAt Gs i) tag).map (fun j => (i, j))) ++ ((seenIn (grpAt Gs i) tag).map (fun j => (i, j)) ++ if blanks (grpAt Gs i) then [] else seenFrom Gs tag post)
  | [], i, post, _ => rfl
  | k :: pre, i, post, h => by
    have hk := h k (by simp)
    simp only [List.cons_append, seenFrom, hk, List.flatMap_cons]
    rw [seen_pre pre i post (fun k' h' => h k' (by simp [h']))]
    simp
theorem seen_all {Gs : List Grp} {tag : Nat} : ∀ (pre : List Nat), (∀ k ∈ pre, blanks (grpAt Gs k) = false) →
    seenFrom Gs tag pre = pre.flatMap (fun i => (seenIn (grpAt Gs i) tag).map (fun j => (i, j)))
  | [], _ => rfl
  | k :: pre, h => by
    have hk := h k (by simp)
    simp only [seenFrom, hk, List.flatMap_cons]
    rw [seen_all pre (fun k' h' => h k' (by simp [h']))]
    simp
end Go.Proofs.YtapplindfijngaaGreat
