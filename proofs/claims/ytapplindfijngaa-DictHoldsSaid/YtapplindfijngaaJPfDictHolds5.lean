/- Lemmas and contracts of functions, strung together out of 2 texts. No condition. -/
import Derived.Test.YtapplindfijngaaJPfDictHolds4
/- probe.All, word.All: the makers of the iterators; word.All's iterator. -/
namespace Go.Proofs.Ytapplindfijngaa
open Go.RowKit Go.Shelf
set_option maxRecDepth 100000
attribute [local go_sem] Oper.semAt_some

/-! ### word.All -/
structure LanesAt (w : World) (B m : Nat) : Prop where
  set : w.heap[B]? = some (.cells #[.int .u8 m] 5 (0, 0))
theorem LanesAt.keeps {w w' : World} {B m : Nat} (h : LanesAt w B m) (hk : KeepsIt (fun k => k = B) w w') : LanesAt w' B m :=
  ⟨(hk.2 B rfl (lt_of_block h.set)).trans h.set⟩
def lanesInv (J : List Nat → World → Prop) (m : Nat) (k : Value) (wr : World) : Prop :=
  ∃ (r : Nat) (pre : List Nat), r < 256 ∧ k = .int .u8 r ∧ J pre wr ∧ lanesOf m = pre ++ lanesOf r
set_option maxHeartbeats 1000000 in
theorem Lanes_iter {w : World} {B m : Nat} (h : LanesAt w B m) (hm : m < 256) :
    IterOk Try.prog 87 #[.pointer (some ⟨B, 0, none⟩)] encN (fun k => k = B) (nextOf (lanesOf m)) (fun xs => xs = lanesOf m) w := by
  intro l J Jx W hW hJ hJx hY h0
  have hA := h.keeps (KeepsIt.of_pure hW)
  have hB := cell_of_row W B 0 _ _ _ hA.set
  simp at hB
  have HY := Lib.hid hY
  have hm0 : (0 : Int) ≤ m := by omega
  have hm1 : (m : Int) ≤ 255 := by omega
  clear hA hY hJ hJx h hW
  refine callsIn_of_wp Try.func87 rfl trivial ?_ rfl
  simp only [Try.ntmps87, List.size_toArray, List.length_cons, List.length_nil, Nat.reduceAdd, Nat.reduceSub, Array.replicate_succ, Array.replicate_zero, List.push_toArray, List.append_toArray, List.nil_append, List.cons_append]
  gi_wp2
  gi_loopw [3] (fun k wr => lanesInv J m k wr)
    (fun k _ => (intOf k).toNat)
  case atStart => exact ⟨m, [], hm, rfl, h0, by simp⟩
  case round =>
    obtain ⟨r, pre, hr, rfl, hJs, hl⟩ := hrel
    by_cases hz : r = 0
    · subst hz
      rw [lanes_zero, List.append_nil] at hl
      have HJS := Lib.hid hJs
      have HL := Lib.hid hl
      clear hJs hl
      gi_wp2
      go_end0
      refine ⟨⟨_, rfl⟩, .inl ⟨pre, ?_, HJS.out⟩⟩
      rw [HL.out]
    · obtain ⟨hs, h8, hlt⟩ := lanes_step r hr hz
      rw [hs] at hl
      have hz2 : ((r : Int) == 0) = false := by simp [hz]
      have hz3 : ((r : Int) != 0) = true := by simp [hz]
      have hr0 : (1 : Int) ≤ r := by omega
      have hr1 : (r : Int) ≤ 255 := by omega
      have e1 := bits_and8 r (r - 1) hr (by omega)
      rw [show ((r - 1 : Nat) : Int) = (r : Int) - 1 by omega] at e1
      have HF := Lib.hid (First_ok r wr hr)
      generalize lane1 r = x at *
      generalize r &&& (r - 1) = q at *
      obtain ⟨fn, tmps, assign, body, hy, hR⟩ := HY.out pre x wr hJs ⟨lanesOf q, hl⟩
      dsimp only [encN] at hy
      have hRR := Lib.hid hR
      have HL := Lib.hid hl
      clear hR hJs hl
      gi_wp2_with (gi_at_call 71; refine (callsIn_wide.2 HF.out).mono ?_; rintro e w1 ⟨rfl, rfl⟩)
      refine hRR.out.mono ?_
      rintro e W' (⟨rfl, hJ', hk⟩ | ⟨rfl, hJx'⟩)
      · have HJ' := Lib.hid hJ'
        clear hJ'
        gi_wp2
        go_roundw
        case rel =>
          unfold lanesInv
          exact ⟨q, pre ++ [x], by omega, by go_num, HJ'.out, by rw [HL.out]; simp⟩
        case measure => simp [intOf]; omega
      · gi_wp2
        refine bodyPost_ret (results_none rfl _ _ _) rfl ?_
        exact ⟨⟨_, rfl⟩, .inr ⟨_, hJx'⟩⟩

def lanesPost (w : World) (m : Nat) (e : Ending) (w' : World) : Prop :=
  ∃ B, e = .returned (.func (.func 87) #[] #[.pointer (some ⟨B, 0, none⟩)]) ∧ LanesAt w' B m ∧ Pure w w' ∧ w.heap.size ≤ B
theorem Lanes_ok (m : Nat) (w : World) : Calls Try.prog 75 #[.int .u8 m] w (lanesPost w m) := by
  go_enter Try.func75, Try.ntmps75
  go_wp2
  go_ret
  exact ⟨w.heap.size, rfl, ⟨heap_new rfl⟩, (Mod.refl _ w).alloc _, Nat.le_refl _⟩

def probePost (w : World) (part g : Nat) (e : Ending) (w' : World) : Prop :=
  ∃ B1 B2 B3, e = .returned (.tuple #[.func (.func 84) #[] #[.pointer (some ⟨B1, 0, none⟩), .pointer (some ⟨B2, 0, none⟩), .pointer (some ⟨B3, 0, none⟩)], .int .i64 0]) ∧ ProbeAt w' B1 B2 B3 part g ∧ Pure w w' ∧ w.heap.size ≤ B1 ∧ w.heap.size ≤ B2 ∧ w.heap.size ≤ B3
theorem probe_end (part g : Nat) (w : World) : probePost w part g (.returned (.tuple #[.func (.func 84) #[] #[.pointer (some ⟨w.heap.size + 1 + 1, 0, none⟩), .pointer (some ⟨w.heap.size, 0, none⟩), .pointer (some ⟨w.heap.size + 1, 0, none⟩)], .int .i64 0]))
    (((w.alloc (.cells #[.int .u64 part] 22)).alloc (.cells #[.int .i64 g] 3)).alloc (.cells #[.int .i64 g] 3)).drew := by
  refine ⟨_, _, _, rfl, ⟨?_, ?_, ?_⟩, ?_, by omega, by omega, by omega⟩
  · exact heap_new (w := (w.alloc (.cells #[.int .u64 part] 22)).alloc (.cells #[.int .i64 g] 3)) (by simp)
  · exact heap_keep (w := (w.alloc (.cells #[.int .u64 part] 22)).alloc (.cells #[.int .i64 g] 3)) (heap_keep (heap_new rfl))
  · exact heap_keep (w := (w.alloc (.cells #[.int .u64 part] 22)).alloc (.cells #[.int .i64 g] 3)) (heap_new (by simp))
  · (repeat' (first | (with_reducible exact Mod.refl _ _) | (with_reducible refine Mod.alloc ?_ _) | (with_reducible refine Mod.drew ?_) | (with_reducible refine Mod.drewN ?_ _) | (with_reducible refine Mod.setCell ?_ ?_ _) | (refine Mod.then ?_ (by with_reducible assumption) ?_)))
set_option maxHeartbeats 400000 in
theorem ProbeAll_ok (part g : Nat) (w : World) (hg : Pow g) : Calls Try.prog 69 #[.int .u64 part, .int .i64 g] w (probePost w part g) := by
  have hq := fun W => check_ok g 0 W hg hg.pos
  have hend := Lib.hid (probe_end part g w)
  go_enter Try.func69, Try.ntmps69
  go_wp2
  go_region_with (go_at_call 83; refine Calls.mono (hq _) ?_; rintro e w1 ⟨rfl, rfl⟩)
  all_goals
    go_wp2
    go_ret2
    exact hend.out
end Go.Proofs.Ytapplindfijngaa

/- The law for a range over a function (XRange), at a loop within a round of another one. -/
namespace Go.Proofs.Ytapplindfijngaa
open Go.RowKit Go.Shelf
variable {P : Program}

/-- THE LAW, at a loop within a round of loop l0. -/
theorem wp_range_in {α : Type} {l0 : Nat} {r0 : Loop} {g : Operand} {ps : Array Tmp} {assign body : Code} {Q : Exit → Act → World → Prop} {a : Act} {w : World}
    (hl0 : w.heap[l0]? = some (.loop r0)) {gf : Nat} {lb : Array Value} (hg : a.eval g = .func (.func gf) #[] lb) (eg : ∀ args w, (callFunc gf args).run P w = .ok (.enter gf args) w)
    {encs : α → Array Value} {It : Nat → Prop} {G : List α → α → World → Prop} {S : List α → Prop} (hit : IterOk P gf lb encs It G S w) (hItlt : ∀ k, It k → k < w.heap.size)
    (hps : ∀ x, (encs x).size = ps.size)
    (I : List α → World → Prop) (Ix : Code → List α → World → Prop) (hI : ∀ pre A B, I pre A → Quiet w.heap.size A B → I pre B) (hIx : ∀ c pre A B, Ix c pre A → Quiet w.heap.size A B → Ix c pre B) (h0 : I [] w)
    (Ax : List α → α → Act → World → Prop) (hAx : ∀ pre x a' A B, Ax pre x a' A → Quiet w.heap.size A B → Ax pre x a' B)
    (hassign : ∀ (l : Nat) (pre : List α) (x : α) (W : World) (K : Act → World → Prop), I pre W → G pre x W → (∀ a' W', Pure W W' → Ax pre x a' W' → K a' W') →
      assign.wpIn (Fence.wide.inRound l) 0 P (Exit.then K (fun _ _ _ => False)) { tmps := (ps.zip (encs x)).foldl (fun t (p, v) => t.setIfInBounds p v) a.tmps, defers := [] } W)
    (hbody : ∀ (l : Nat) (pre : List α) (x : α) (a' : Act) (W : World), w.heap.size ≤ l → (∃ r, W.heap[l]? = some (.loop r)) → Ax pre x a' W →
      body.wpIn (Fence.wide.inRound l) 0 P (roundEnd w.heap.size It I Ix (pre ++ [x]) W) a' W)
    (hdone : ∀ (xs : List α) (W : World), S xs → I xs W → Q .normal a W)
    (hstop : ∀ (c : Code) (pre : List α) (W : World), Ix c pre W → c.wpIn (Fence.wide.inRound l0) 0 P Q a W) :
    (Code.rangeFunc g ps assign body).wpIn (Fence.wide.inRound l0) 0 P Q a w := by
  refine wpIn_rangeFunc ?_
  intro fn hfn
  obtain ⟨rec, hrec⟩ : ∃ rec : LoopState → Option Code → Loop, rec = fun st pe => { state := st, pending := pe, fn, tmps := a.tmps, params := ps, assign, body, defers := r0.defers } := ⟨_, rfl⟩
  obtain ⟨W1, hW1⟩ : ∃ W1, w.alloc (.loop (rec .ready none)) = W1 := ⟨_, rfl⟩
  have hL1 : W1.heap[w.heap.size]? = some (.loop (rec .ready none)) := by rw [← hW1]; exact heap_new rfl
  have hP1 : Pure w W1 := by rw [← hW1]; exact (Mod.refl _ w).alloc _
  have hI1 : I [] W1 := hI _ _ _ h0 (Quiet.of_pure hP1)
  refine ⟨w.heap.size, [], W1, { target := .fn (.func gf) lb, args := #[.func (.yield (w.heap.size)) #[] #[]] }, W1, gf,
    #[.func (.yield (w.heap.size)) #[] #[]] ++ lb, W1, ?_, ?_, fun _ _ => trivial, ?_, (fun h => by cases h), ?_⟩
  · rw [← hW1, hrec]; exact run_enterLoop_inner hl0 _ _ _ _ _
  · simp only [resolve, hg]
    simp [go_sem]
  · simp [invoke, go_sem, eg]
  · refine (hit (w.heap.size)
      (fun pre W => I pre W ∧ W.heap[w.heap.size]? = some (.loop (rec .ready none)) ∧ w.heap.size ≤ W.heap.size)
      (fun pre W => ∃ c, Ix c pre W ∧ W.heap[w.heap.size]? = some (.loop (rec .done (some c))))
      W1 hP1
      (fun pre A B hs hp => ⟨hI _ _ _ hs.1 (Quiet.of_pure hp), hp.heap (fun h => h) hs.2.1, Nat.le_trans hs.2.2 hp.size⟩)
      (fun pre A B hs hp => by
        obtain ⟨c, hc, hl⟩ := hs
        exact ⟨c, hIx _ _ _ _ hc (Quiet.of_pure hp), hp.heap (fun h => h) hl⟩)
      ?_ ⟨hI1, hL1, hP1.size⟩).mono ?_
    · rintro pre x W ⟨hi, hl, hsz⟩ hGx
      have hlt : w.heap.size < W.heap.size := (Array.getElem?_eq_some_iff.1 hl).1
      have hy := run_yield (P := P) (args := encs x) hl (by rw [hrec]; exact hps x)
      rw [hrec] at hy
      refine ⟨fn, _, assign, body, hy, roundIn_of_wpIn hfn (hassign _ pre x W _ hi hGx ?_)⟩
      clear hy
      intro a' Wa hpa hax
      have hla : Wa.heap[w.heap.size]? = _ := hpa.heap (fun h => h) hl
      have hlta : w.heap.size < Wa.heap.size := (Array.getElem?_eq_some_iff.1 hla).1
      refine ⟨_, run_beginRound hla (by rw [hrec]), ?_⟩
      have hq2 : Quiet w.heap.size Wa (Wa.putObj (w.heap.size) (.loop { rec .ready none with state := .busy })) := Quiet.putObj _ (by omega) hla rfl
      have hl2 : (Wa.putObj (w.heap.size) (.loop { rec .ready none with state := .busy })).heap[w.heap.size]? = some (.loop { rec .ready none with state := .busy }) := World.putObj_heap_same hlta
      have ha2 := hAx _ _ _ _ _ hax hq2
      have hit2 : KeepsIt It W (Wa.putObj (w.heap.size) (.loop { rec .ready none with state := .busy })) :=
        (KeepsIt.of_pure hpa).trans ⟨by simp, fun k hk _ => World.putObj_heap_other (by have := hItlt k hk; omega)⟩
      refine wpIn_mono (hbody _ pre x a' _ (by omega) ⟨_, hl2⟩ ha2) ?_
      have fin : ∀ (jump : Option Code) (W3 : World), KeepsRec w.heap.size (Wa.putObj (w.heap.size) (.loop { rec .ready none with state := .busy })) W3 →
          (Instr.endRound (w.heap.size) jump).run P W3 = .ok (.bool jump.isNone) (W3.putObj (w.heap.size) (.loop (rec (if jump.isNone then .ready else .done) jump))) ∧
          W3.heap[w.heap.size]? = some (.loop { rec .ready none with state := .busy }) ∧
          (W3.putObj (w.heap.size) (.loop (rec (if jump.isNone then .ready else .done) jump))).heap[w.heap.size]? = some (.loop (rec (if jump.isNone then .ready else .done) jump)) := fun jump W3 hk3 => by
        have hl3 := hk3 _ _ (by omega) hl2 rfl
        have := run_endRound (P := P) jump hl3
        rw [hrec] at this ⊢
        exact ⟨this, by rw [hrec] at hl3; exact hl3, World.putObj_heap_same (Array.getElem?_eq_some_iff.1 hl3).1⟩
      rintro e a3 W3 hp
      cases e with
      | normal =>
        obtain ⟨hk3, hkp3, hi3⟩ := hp
        obtain ⟨hr, hl3, hl4⟩ := fin none W3 hk3
        have hlt3 : w.heap.size < W3.heap.size := (Array.getElem?_eq_some_iff.1 hl3).1
        exact ⟨_, _, hr, .inl ⟨rfl, ⟨hI _ _ _ hi3 (Quiet.putObj _ (by omega) hl3 rfl), hl4, by simp; omega⟩,
          (hit2.trans hkp3).trans ⟨by simp, fun k hk _ => World.putObj_heap_other (by have := hItlt k hk; omega)⟩⟩⟩
      | ret =>
        obtain ⟨hk3, hi3⟩ := hp
        obtain ⟨hr, hl3, hl4⟩ := fin (some .ret) W3 hk3
        exact ⟨_, _, hr, .inr ⟨rfl, .ret, hIx _ _ _ _ hi3 (Quiet.putObj _ (by omega) hl3 rfl), hl4⟩⟩
      | exit id =>
        obtain ⟨hk3, hi3⟩ := hp
        obtain ⟨hr, hl3, hl4⟩ := fin (some (.exit id)) W3 hk3
        exact ⟨_, _, hr, .inr ⟨rfl, .exit id, hIx _ _ _ _ hi3 (Quiet.putObj _ (by omega) hl3 rfl), hl4⟩⟩
      | goto t =>
        obtain ⟨hk3, hi3⟩ := hp
        obtain ⟨hr, hl3, hl4⟩ := fin (some (.goto t)) W3 hk3
        exact ⟨_, _, hr, .inr ⟨rfl, .goto t, hIx _ _ _ _ hi3 (Quiet.putObj _ (by omega) hl3 rfl), hl4⟩⟩
      | panic ch => exact hp.elim
      | outgrown => exact hp.elim
    · rintro e W2 ⟨⟨v, rfl⟩, (⟨xs, hS, hi, hl, _⟩ | ⟨pre, c, hi, hl⟩)⟩
      · exact ⟨none, _, by have := run_endLoop (P := P) hl (by rw [hrec]; simp); rw [hrec] at this; exact this, hdone xs _ hS (hI _ _ _ hi (Quiet.putObj _ (by omega) hl rfl))⟩
      · exact ⟨some c, _, by have := run_endLoop (P := P) hl (by rw [hrec]; simp); rw [hrec] at this; exact this, hstop c pre _ (hIx _ _ _ _ hi (Quiet.putObj _ (by omega) hl rfl))⟩


theorem wp_range_in2 {α : Type} {l0 : Nat} {r0 : Loop} {g : Operand} {ps : Array Tmp} {assign body : Code} {Q : Exit → Act → World → Prop} {a : Act} {w : World}
    (hl0 : w.heap[l0]? = some (.loop r0)) {gf : Nat} {lb : Array Value} (hg : a.eval g = .func (.func gf) #[] lb) (eg : ∀ args w, (callFunc gf args).run P w = .ok (.enter gf args) w)
    {encs : α → Array Value} {It : Nat → Prop} {G : List α → α → World → Prop} {S : List α → Prop} (hit : IterOk P gf lb encs It G S w) (hItlt : ∀ k, It k → k < w.heap.size)
    (hps : ∀ x, (encs x).size = ps.size)
    (I : List α → World → Prop) (Ix : Code → List α → World → Prop) (hI : ∀ pre A B, I pre A → Quiet w.heap.size A B → I pre B) (hIx : ∀ c pre A B, Ix c pre A → Quiet w.heap.size A B → Ix c pre B) (h0 : I [] w)
    (hround : ∀ (l : Nat) (pre : List α) (x : α) (W : World) (K : Act → World → Prop), I pre W → G pre x W →
      (∀ a' W', Pure W W' → (∀ (l' : Nat) (W2 : World), w.heap.size ≤ l' → (∃ r, W2.heap[l']? = some (.loop r)) → Quiet w.heap.size W' W2 → body.wpIn (Fence.wide.inRound l') 0 P (roundEnd w.heap.size It I Ix (pre ++ [x]) W2) a' W2) → K a' W') →
      assign.wpIn (Fence.wide.inRound l) 0 P (Exit.then K (fun _ _ _ => False)) { tmps := (ps.zip (encs x)).foldl (fun t (p, v) => t.setIfInBounds p v) a.tmps, defers := [] } W)
    (hdone : ∀ (xs : List α) (W : World), S xs → I xs W → Q .normal a W)
    (hstop : ∀ (c : Code) (pre : List α) (W : World), Ix c pre W → c.wpIn (Fence.wide.inRound l0) 0 P Q a W) :
    (Code.rangeFunc g ps assign body).wpIn (Fence.wide.inRound l0) 0 P Q a w :=
  wp_range_in hl0 hg eg hit hItlt hps I Ix hI hIx h0
    (fun pre x a' W' => ∀ (l' : Nat) (W2 : World), w.heap.size ≤ l' → (∃ r, W2.heap[l']? = some (.loop r)) → Quiet w.heap.size W' W2 → body.wpIn (Fence.wide.inRound l') 0 P (roundEnd w.heap.size It I Ix (pre ++ [x]) W2) a' W2)
    (fun _ _ _ _ _ h hq l' W2 hl hr hq2 => h l' W2 hl hr (hq.trans hq2)) hround (fun l _ _ _ W hl hr h => h l W hl hr (Quiet.refl _ _)) hdone hstop
end Go.Proofs.Ytapplindfijngaa
