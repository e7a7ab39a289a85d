/- A region that draws, within a round, by the laws of the plain walk (a condition S on the world that every operation keeps): its reads can be taken first. -/
import Derived.Test.YtpafcocciggfpaaGreatRegOut
import Derived.Deep.RegionHeld3
namespace Go.Proofs.YtpafcocciggfpaaGreat
open Go.RowKit Go.Shelf
variable {P : Program}

theorem wpOpIn_of_plain {ops : Array Oper} {Q : Exit → Act → World → Prop} (hL : ¬ LetsOut Q) {i : Nat} {K : Act → World → Prop} {a : Act} {w : World} (h : wpOp P ops Q i K a w) : wpOpIn Fence.wide 0 P ops Q i K a w := by
  unfold wpOp at h
  unfold wpOpIn
  cases ho : ops[i]? with
  | none => rw [ho] at h; exact h
  | some o =>
    rw [ho] at h
    dsimp only at h ⊢
    split
    · rename_i hw
      rw [if_pos hw] at h
      rcases h with h | h
      · unfold Oper.wpIn
        refine ⟨fun f _ => trivial, ?_⟩
        rw [show Fence.wide.round = none from rfl, Oper.semAt_none]
        unfold Oper.wp at h
        generalize (execOp a.eval o).run P w = r at h ⊢
        cases r with
        | ok x w' =>
          cases x <;> simp only [Oper.upon, Oper.uponIn] at h ⊢
          all_goals first | exact h | exact h.elim | exact ⟨fun hc => (by cases hc), callsIn_wide.2 h⟩ | exact ⟨fun hc => (by cases hc), fun c cs _ => let ⟨v, w', r, s⟩ := h c cs; ⟨v, w', r, stepsIn_wide.2 s⟩⟩
        | halt x w' =>
          cases x <;> simp only [Oper.upon, Oper.uponIn] at h ⊢
          all_goals first | exact h | exact h.elim
      · exact absurd h.2 hL
    · rename_i hw
      rw [if_neg hw] at h
      exact ⟨fun f _ => trivial, h⟩
theorem wpAnyIn_of_plain {md : Region.Mode} {ops : Array Oper} {Q : Exit → Act → World → Prop} (hL : ¬ LetsOut Q) : ∀ (fuel : Nat) (listed : Array Bool) (a : Act) (w : World),
    wpAny P md ops Q fuel listed a w → wpAnyIn Fence.wide 0 P md ops Q fuel listed a w
  | 0, _, _, _, h => h
  | fuel + 1, listed, _, _, h => ⟨h.1, fun i hi => wpOpIn_of_plain hL (wpOp_mono (fun _ _ hk => wpAnyIn_of_plain hL fuel _ _ _ hk) (h.2 i hi))⟩
/-- A region that draws, within a round, by a condition on the world. -/
theorem region_held {l id : Nat} {ops : Array Oper} {Q : Exit → Act → World → Prop} {a : Act} {w : World} (S : World → Prop) (hm : P.follows .mixedOrders = true) (hd : noDefer ops = true) (hL : ¬ LetsOut Q) (hS : S w.drew)
    (h : S w.drew → wpAnyH P .any ops Q S ops.size (Array.replicate ops.size false) a w.drew) : (Code.region id ops true).wpIn (Fence.wide.inRound l) 0 P Q a w :=
  region_in hm hd (wpAnyIn_of_plain hL _ _ _ _ (wpAny_of_held _ _ _ _ (h hS)))

/-! ### a function's end behind several ranges over a function -/
def marksOf (ls : List Nat) : List Deferred := ls.map (fun l => { target := .collected l, args := #[] })
theorem bodyPostM_marks {fn : Func} {R : Ending → World → Prop} {tmps : Array Value} {N : Nat} {v : Value} : ∀ {ls : List Nat} {W : World} (_ : ∀ l ∈ ls, W.heap[l]? = some (.deferred (some []))) (_ : ls.Nodup) (_ : ∀ l ∈ ls, N ≤ l)
    (_ : ∀ W', (results fn tmps).run P W' = .ok v W') (_ : ∀ W', Quiet N W W' → R (.returned v) W'), bodyPostM Fence.wide 0 P fn R .ret { tmps := tmps, defers := marksOf ls } W
  | [], W, _, _, _, hr, hR => ⟨v, hr W, hR W (Quiet.refl _ _)⟩
  | l :: ls, W, hm, hn, hN, hr, hR => by
    have hk := hm l (by simp)
    refine ⟨by simp, .inl ⟨_, _, rfl, run_takeDeferred hk, ?_⟩⟩
    have hq : Quiet N W (W.putObj l (.deferred none)) := Quiet.putObj (.deferred none) (hN l (by simp)) hk rfl
    refine bodyPostM_marks (ls := ls) (fun l' hl' => ?_) (List.nodup_cons.1 hn).2 (fun l' hl' => hN l' (by simp [hl'])) hr (fun W' hW' => hR W' (hq.trans hW'))
    have hne : l' ≠ l := fun e => (List.nodup_cons.1 hn).1 (e ▸ hl')
    exact (World.putObj_heap_other hne).trans (hm l' (by simp [hl']))
end Go.Proofs.YtpafcocciggfpaaGreat
