/- A law for a range over a function, at an outermost loop of a fence without a list, for an iterator of one's own contract (IterOk). -/
import Derived.Test.YtpafcocciggfpaaGreatBase
import Derived.RangeFuncNested
import Derived.RangeFuncBound
import Derived.RangeFuncCalls
import Derived.RangeFuncLeaves
import Derived.Shelf.Abstract
import Derived.Shelf.RegionOpen
import Derived.OwnWalkIn
import Derived.TacticsInMore
import Derived.LoopNIn
import Derived.LoopIn
namespace Go.Proofs.YtpafcocciggfpaaGreat
open Go.RowKit Go.Shelf

/-! ## A range over a function -/
@[go_sem] theorem wide_fn (f : Nat) : Fence.wide.fn f = True := rfl
@[go_sem] theorem wide_depth : Fence.wide.depth = none := rfl
@[go_sem] theorem wide_round : Fence.wide.round = none := rfl

/-- From A to B only new blocks that hold no cells (numbers from N on) may have turned. -/
def Quiet (N : Nat) (A B : World) : Prop := Mod (fun k => N ≤ k ∧ ∃ o, A.heap[k]? = some o ∧ o.isCells = false) A B
theorem Quiet.of_pure {N : Nat} {A B : World} (h : Pure A B) : Quiet N A B := Mod.of_pure h
theorem Quiet.putObj {N : Nat} {A : World} {l : Nat} {o : Obj} (o' : Obj) (hN : N ≤ l) (hl : A.heap[l]? = some o) (ho : o.isCells = false) : Quiet N A (A.putObj l o') :=
  ⟨rfl, rfl, rfl, by simp, fun k _ hn => World.putObj_heap_other (fun e => hn (by subst e; exact ⟨hN, o, hl, ho⟩))⟩
theorem Quiet.cells {N : Nat} {A B : World} (h : Quiet N A B) {k : Nat} {cs : Array Value} {T : TypeId} {fz : Nat × Nat} (hc : A.heap[k]? = some (.cells cs T fz)) : B.heap[k]? = some (.cells cs T fz) :=
  Mod.heap h (fun ⟨_, o, ho, hn⟩ => by rw [hc] at ho; cases ho; cases hn) hc
theorem Quiet.cell {N : Nat} {A B : World} (h : Quiet N A B) {a : Addr} {v : Value} (hc : A.cell? a = some v) : B.cell? a = some v := by
  refine Mod.cell h ?_ hc
  rintro ⟨_, o, ho, hn⟩
  unfold World.cell? at hc
  rw [ho] at hc
  cases o <;> simp_all [Obj.isCells]
theorem Quiet.owns {N : Nat} {A B : World} (h : Quiet N A B) {T k : Nat} {v : Value} {n : Nat} {xs : List Value} (ho : A.ownsRow 0 T k v n xs) : B.ownsRow 0 T k v n xs :=
  owns_mod ho h (fun g hg hs => by
    obtain ⟨c, e⟩ := owns_type ho hg
    obtain ⟨_, o, ho, hn⟩ := hs
    rw [e] at ho; cases ho; cases hn)
theorem Quiet.mod {N : Nat} {S : Nat → Prop} {w A B : World} (h : Quiet N A B) (hm : Mod S w A) (hN : w.heap.size ≤ N) : Mod S w B :=
  hm.then h (fun i hi hk => by have := hk.1; omega)

/-- A round keeps the records: blocks from N on that hold no cells. -/
def KeepsRec (N : Nat) (A B : World) : Prop := ∀ k o, N ≤ k → A.heap[k]? = some o → o.isCells = false → B.heap[k]? = some o
theorem KeepsRec.of_mod {N : Nat} {S : Nat → Prop} {A B : World} (h : Mod S A B) (hS : ∀ k, N ≤ k → S k → ∀ o, A.heap[k]? = some o → o.isCells = true) : KeepsRec N A B :=
  fun k o hk ho hn => h.heap (fun hs => by have := hS k hk hs o ho; rw [this] at hn; cases hn) ho

/-- What a round has to leave of the iterator's own blocks. -/
def KeepsIt (It : Nat → Prop) (A B : World) : Prop := A.heap.size ≤ B.heap.size ∧ ∀ k, It k → k < A.heap.size → B.heap[k]? = A.heap[k]?
theorem KeepsIt.of_mod {It S : Nat → Prop} {A B : World} (h : Mod S A B) (hS : ∀ k, It k → ¬ S k) : KeepsIt It A B := ⟨h.size, fun k hk hlt => h.block k hlt (hS k hk)⟩
theorem KeepsIt.trans {It : Nat → Prop} {A B C : World} (h : KeepsIt It A B) (k : KeepsIt It B C) : KeepsIt It A C := ⟨Nat.le_trans h.1 k.1, fun i hi hlt => (k.2 i hi (Nat.lt_of_lt_of_le hlt h.1)).trans (h.2 i hi hlt)⟩
theorem KeepsIt.of_pure {It : Nat → Prop} {A B : World} (h : Pure A B) : KeepsIt It A B := KeepsIt.of_mod h (fun _ _ h => h)

/-- THE CONTRACT OF AN ITERATOR (function gf, captured lb) in the world w: its blocks are It; of the x that it hands over behind pre it promises G; all that it hands over meets S; it makes new blocks alone. -/
def IterOk (P : Program) {α : Type} (gf : Nat) (lb : Array Value) (encs : α → Array Value) (It : Nat → Prop) (G : List α → α → World → Prop) (S : List α → Prop) (w : World) : Prop :=
  ∀ (l : Nat) (J Jx : List α → World → Prop) (W : World), Pure w W → (∀ pre A B, J pre A → Pure A B → J pre B) → (∀ pre A B, Jx pre A → Pure A B → Jx pre B) →
    (∀ pre x W1, J pre W1 → G pre x W1 → YieldAt Fence.wide 0 P l (encs x) W1 fun e W' =>
      (e = .returned (.bool true) ∧ J (pre ++ [x]) W' ∧ KeepsIt It W1 W') ∨ (e = .returned (.bool false) ∧ Jx (pre ++ [x]) W')) →
    J [] W →
    CallsIn Fence.wide 0 P gf (#[.func (.yield l) #[] #[]] ++ lb) W fun e W' => (∃ v, e = .returned v) ∧ ((∃ xs, S xs ∧ J xs W') ∨ (∃ pre, Jx pre W'))

/-- HOW THE BODY OF A ROUND MAY BE LEFT. -/
def roundEnd {α : Type} (N : Nat) (It : Nat → Prop) (I : List α → World → Prop) (Ix : Code → List α → World → Prop) (xs : List α) (W : World) : Exit → Act → World → Prop
  | .normal, _, W' => KeepsRec N W W' ∧ KeepsIt It W W' ∧ I xs W'
  | .ret, _, W' => KeepsRec N W W' ∧ Ix .ret xs W'
  | .exit id, _, W' => KeepsRec N W W' ∧ Ix (.exit id) xs W'
  | .goto t, _, W' => KeepsRec N W W' ∧ Ix (.goto t) xs W'
  | .panic _, _, _ => False
  | .outgrown, _, _ => False

variable {P : Program}

/-- THE LAW, at an outermost loop. -/
theorem wp_range {α : Type} {g : Operand} {ps : Array Tmp} {assign body : Code} {Q : Exit → Act → World → Prop} {a : Act} {w : World}
    {gf : Nat} {lb : Array Value} (hg : a.eval g = .func (.func gf) #[] lb) (eg : ∀ args w, (callFunc gf args).run P w = .ok (.enter gf args) w)
    {encs : α → Array Value} {It : Nat → Prop} {G : List α → α → World → Prop} {S : List α → Prop} (hit : IterOk P gf lb encs It G S w) (hItlt : ∀ k, It k → k < w.heap.size)
    (hps : ∀ x, (encs x).size = ps.size)
    (I : List α → World → Prop) (Ix : Code → List α → World → Prop) (hI : ∀ pre A B, I pre A → Quiet w.heap.size A B → I pre B) (hIx : ∀ c pre A B, Ix c pre A → Quiet w.heap.size A B → Ix c pre B) (h0 : I [] w)
    (Ax : List α → α → Act → World → Prop) (hAx : ∀ pre x a' A B, Ax pre x a' A → Quiet w.heap.size A B → Ax pre x a' B)
    (hassign : ∀ (l : Nat) (pre : List α) (x : α) (W : World) (K : Act → World → Prop), I pre W → G pre x W → (∀ a' W', Pure W W' → Ax pre x a' W' → K a' W') →
      assign.wpIn (Fence.wide.inRound l) 0 P (Exit.then K (fun _ _ _ => False)) { tmps := (ps.zip (encs x)).foldl (fun t (p, v) => t.setIfInBounds p v) a.tmps, defers := [] } W)
    (hbody : ∀ (l : Nat) (pre : List α) (x : α) (a' : Act) (W : World), w.heap.size ≤ l → (∃ r, W.heap[l]? = some (.loop r)) → Ax pre x a' W →
      body.wpIn (Fence.wide.inRound l) 0 P (roundEnd w.heap.size It I Ix (pre ++ [x]) W) a' W)
    (hdone : ∀ (D : Nat) (xs : List α) (W : World), w.heap.size ≤ D → S xs → I xs W → W.heap[D]? = some (.deferred (some [])) → Q .normal { a with defers := { target := .collected D, args := #[] } :: a.defers } W)
    (hstop : ∀ (D : Nat) (c : Code) (pre : List α) (W : World), w.heap.size ≤ D → Ix c pre W → W.heap[D]? = some (.deferred (some [])) → c.wpIn Fence.wide 0 P Q { a with defers := { target := .collected D, args := #[] } :: a.defers } W) :
    (Code.rangeFunc g ps assign body).wpIn Fence.wide 0 P Q a w := by
  refine wpIn_rangeFunc ?_
  intro fn hfn
  obtain ⟨rec, hrec⟩ : ∃ rec : LoopState → Option Code → Loop, rec = fun st pe => { state := st, pending := pe, fn, tmps := a.tmps, params := ps, assign, body, defers := w.heap.size } := ⟨_, rfl⟩
  obtain ⟨W1, hW1⟩ : ∃ W1, (w.alloc (.deferred (some []))).alloc (.loop (rec .ready none)) = W1 := ⟨_, rfl⟩
  have hL1 : W1.heap[w.heap.size + 1]? = some (.loop (rec .ready none)) := by rw [← hW1]; exact heap_new (by simp)
  have hK1 : W1.heap[w.heap.size]? = some (.deferred (some [])) := by rw [← hW1]; exact heap_keep (heap_new rfl)
  have hP1 : Pure w W1 := by rw [← hW1]; exact ((Mod.refl _ w).alloc _).alloc _
  have hI1 : I [] W1 := hI _ _ _ h0 (Quiet.of_pure hP1)
  refine ⟨w.heap.size + 1, [{ target := .collected w.heap.size, args := #[] }], W1, { target := .fn (.func gf) lb, args := #[.func (.yield (w.heap.size + 1)) #[] #[]] }, W1, gf,
    #[.func (.yield (w.heap.size + 1)) #[] #[]] ++ lb, W1, ?_, ?_, fun _ _ => trivial, ?_, (fun h => by cases h), ?_⟩
  · rw [← hW1, hrec]; exact run_enterLoop_outer _ _ _ _ _
  · simp only [resolve, hg]
    simp [go_sem]
  · simp [invoke, go_sem, eg]
  · refine (hit (w.heap.size + 1)
      (fun pre W => I pre W ∧ W.heap[w.heap.size + 1]? = some (.loop (rec .ready none)) ∧ W.heap[w.heap.size]? = some (.deferred (some [])) ∧ w.heap.size ≤ W.heap.size)
      (fun pre W => ∃ c, Ix c pre W ∧ W.heap[w.heap.size + 1]? = some (.loop (rec .done (some c))) ∧ W.heap[w.heap.size]? = some (.deferred (some [])))
      W1 hP1
      (fun pre A B hs hp => ⟨hI _ _ _ hs.1 (Quiet.of_pure hp), hp.heap (fun h => h) hs.2.1, hp.heap (fun h => h) hs.2.2.1, Nat.le_trans hs.2.2.2 hp.size⟩)
      (fun pre A B hs hp => by
        obtain ⟨c, hc, hl, hk⟩ := hs
        exact ⟨c, hIx _ _ _ _ hc (Quiet.of_pure hp), hp.heap (fun h => h) hl, hp.heap (fun h => h) hk⟩)
      ?_ ⟨hI1, hL1, hK1, hP1.size⟩).mono ?_
    · rintro pre x W ⟨hi, hl, hk, hsz⟩ hGx
      have hlt : w.heap.size + 1 < W.heap.size := (Array.getElem?_eq_some_iff.1 hl).1
      have hy := run_yield (P := P) (args := encs x) hl (by rw [hrec]; exact hps x)
      rw [hrec] at hy
      refine ⟨fn, _, assign, body, hy, roundIn_of_wpIn hfn (hassign _ pre x W _ hi hGx ?_)⟩
      clear hy
      intro a' Wa hpa hax
      have hla : Wa.heap[w.heap.size + 1]? = _ := hpa.heap (fun h => h) hl
      have hka : Wa.heap[w.heap.size]? = _ := hpa.heap (fun h => h) hk
      have hlta : w.heap.size + 1 < Wa.heap.size := (Array.getElem?_eq_some_iff.1 hla).1
      refine ⟨_, run_beginRound hla (by rw [hrec]), ?_⟩
      have hq2 : Quiet w.heap.size Wa (Wa.putObj (w.heap.size + 1) (.loop { rec .ready none with state := .busy })) := Quiet.putObj _ (by omega) hla rfl
      have hl2 : (Wa.putObj (w.heap.size + 1) (.loop { rec .ready none with state := .busy })).heap[w.heap.size + 1]? = some (.loop { rec .ready none with state := .busy }) := World.putObj_heap_same hlta
      have hk2 : (Wa.putObj (w.heap.size + 1) (.loop { rec .ready none with state := .busy })).heap[w.heap.size]? = some (.deferred (some [])) := (World.putObj_heap_other (by omega)).trans hka
      have ha2 := hAx _ _ _ _ _ hax hq2
      have hit2 : KeepsIt It W (Wa.putObj (w.heap.size + 1) (.loop { rec .ready none with state := .busy })) :=
        (KeepsIt.of_pure hpa).trans ⟨by simp, fun k hk _ => World.putObj_heap_other (by have := hItlt k hk; omega)⟩
      refine wpIn_mono (hbody _ pre x a' _ (by omega) ⟨_, hl2⟩ ha2) ?_
      have fin : ∀ (jump : Option Code) (W3 : World), KeepsRec w.heap.size (Wa.putObj (w.heap.size + 1) (.loop { rec .ready none with state := .busy })) W3 →
          (Instr.endRound (w.heap.size + 1) jump).run P W3 = .ok (.bool jump.isNone) (W3.putObj (w.heap.size + 1) (.loop (rec (if jump.isNone then .ready else .done) jump))) ∧
          W3.heap[w.heap.size + 1]? = some (.loop { rec .ready none with state := .busy }) ∧
          (W3.putObj (w.heap.size + 1) (.loop (rec (if jump.isNone then .ready else .done) jump))).heap[w.heap.size + 1]? = some (.loop (rec (if jump.isNone then .ready else .done) jump)) ∧
          (W3.putObj (w.heap.size + 1) (.loop (rec (if jump.isNone then .ready else .done) jump))).heap[w.heap.size]? = some (.deferred (some [])) := fun jump W3 hk3 => by
        have hl3 := hk3 _ _ (by omega) hl2 rfl
        have := run_endRound (P := P) jump hl3
        rw [hrec] at this ⊢
        exact ⟨this, by rw [hrec] at hl3; exact hl3, World.putObj_heap_same (Array.getElem?_eq_some_iff.1 hl3).1, (World.putObj_heap_other (by omega)).trans (hk3 _ _ (Nat.le_refl _) hk2 rfl)⟩
      rintro e a3 W3 hp
      cases e with
      | normal =>
        obtain ⟨hk3, hkp3, hi3⟩ := hp
        obtain ⟨hr, hl3, hl4, hk4⟩ := fin none W3 hk3
        have hlt3 : w.heap.size + 1 < W3.heap.size := (Array.getElem?_eq_some_iff.1 hl3).1
        exact ⟨_, _, hr, .inl ⟨rfl, ⟨hI _ _ _ hi3 (Quiet.putObj _ (by omega) hl3 rfl), hl4, hk4, by simp; omega⟩,
          (hit2.trans hkp3).trans ⟨by simp, fun k hk _ => World.putObj_heap_other (by have := hItlt k hk; omega)⟩⟩⟩
      | ret =>
        obtain ⟨hk3, hi3⟩ := hp
        obtain ⟨hr, hl3, hl4, hk4⟩ := fin (some .ret) W3 hk3
        exact ⟨_, _, hr, .inr ⟨rfl, .ret, hIx _ _ _ _ hi3 (Quiet.putObj _ (by omega) hl3 rfl), hl4, hk4⟩⟩
      | exit id =>
        obtain ⟨hk3, hi3⟩ := hp
        obtain ⟨hr, hl3, hl4, hk4⟩ := fin (some (.exit id)) W3 hk3
        exact ⟨_, _, hr, .inr ⟨rfl, .exit id, hIx _ _ _ _ hi3 (Quiet.putObj _ (by omega) hl3 rfl), hl4, hk4⟩⟩
      | goto t =>
        obtain ⟨hk3, hi3⟩ := hp
        obtain ⟨hr, hl3, hl4, hk4⟩ := fin (some (.goto t)) W3 hk3
        exact ⟨_, _, hr, .inr ⟨rfl, .goto t, hIx _ _ _ _ hi3 (Quiet.putObj _ (by omega) hl3 rfl), hl4, hk4⟩⟩
      | panic ch => exact hp.elim
      | outgrown => exact hp.elim
    · rintro e W2 ⟨⟨v, rfl⟩, (⟨xs, hS, hi, hl, hk, _⟩ | ⟨pre, c, hi, hl, hk⟩)⟩
      · exact ⟨none, _, by have := run_endLoop (P := P) hl (by rw [hrec]; simp); rw [hrec] at this; exact this, hdone _ xs _ (Nat.le_refl _) hS (hI _ _ _ hi (Quiet.putObj _ (by omega) hl rfl)) ((World.putObj_heap_other (by omega)).trans hk)⟩
      · exact ⟨some c, _, by have := run_endLoop (P := P) hl (by rw [hrec]; simp); rw [hrec] at this; exact this, hstop _ c pre _ (Nat.le_refl _) (hIx _ _ _ _ hi (Quiet.putObj _ (by omega) hl rfl)) ((World.putObj_heap_other (by omega)).trans hk)⟩

/-- append at a fenced list; what is appended is read. -/
theorem wpListIn_append_read {F : Fence} {m0 : Nat} {P : Program} (w : World) {ops : Array Oper} {rest : List Oper} {o : Oper} {a : Act} {Q : Exit → Act → World → Prop} (hgd : o.guard = none) (s x : Operand) (t : TypeId)
    (ho : o.op = .call { callee := .builtin .append, args := #[s, x], argTypes := #[t, t] })
    (e : TypeId) (i : TypeInfo) (z : Value) (k bytes : Nat) (ht : P.underlying t = some (.slice e)) (hi : P.info? e = some i) (hz : i.zero = some z)
    (hsize : i.size = k) (hby : i.bytes = bytes) (hzs : z.cells.size = k) (hsz : 0 < k)
    (v : Value) (n : Nat) (xs : List Value) (hs : a.eval s = v) (hown : w.ownsRow 0 e k v n xs) (xv : Value) (ys : List Value) (m : Nat) (hxv : a.eval x = xv) (hx : ReadAt w xv k ys) (hm : ys.length = m * k)
    (h63 : n + m ≤ maxLen) (hbytes : (n + m) * bytes ≤ 140737488355328)
    (h : ∀ a' c' w', w'.ownsRow 0 e k (.slice a' (n + m) c') (n + m) (xs ++ ys) → w.grownBy w' v.ownBlock → ((Value.slice a' (n + m) c').ownBlock = v.ownBlock ∨ (Value.slice a' (n + m) c').ownBlock = some w.heap.size) → wpListIn F m0 P ops Q rest (a.put o.dst (.slice a' (n + m) c')) w') : wpListIn F m0 P ops Q (o :: rest) a w := by
  refine wpListIn_plain hgd fun K hK' => ?_
  obtain ⟨a', c', w', hr, h2, h3, h4⟩ := run_append_read (P := P) w t o.type e i z k bytes ht hi hz hsize hby hzs hsz v n xs hown xv ys m hx hm h63 hbytes
  unfold Oper.wpIn
  refine ⟨?_, ?_⟩
  · simp [Oper.about, ho, resolve, Target.leads, Sem.run_pure]
  · rw [Oper.semAt_plain F _ _ (by rw [ho]; intro c hc'; cases hc')]
    simp [execOp, ho, resolve, invoke, builtin, hs, hxv, hr, Result.andThen]
    exact hK' _ _ (h a' c' w' h2 h3 h4)
/-- A function's end behind one range over a function that nothing was deferred in. -/
theorem bodyPostM_drained {P : Program} {fn : Func} {R : Ending → World → Prop} {l : Nat} {tmps : Array Value} {w : World} (v : Value) (hK : w.heap[l]? = some (.deferred (some []))) (hr : (results fn tmps).run P (w.putObj l (.deferred none)) = .ok v (w.putObj l (.deferred none)))
    (hR : R (.returned v) (w.putObj l (.deferred none))) : bodyPostM Fence.wide 0 P fn R .ret { tmps := tmps, defers := [{ target := .collected l, args := #[] }] } w :=
  ⟨by simp, .inl ⟨_, _, rfl, run_takeDeferred hK, v, hr, hR⟩⟩
end Go.Proofs.YtpafcocciggfpaaGreat
