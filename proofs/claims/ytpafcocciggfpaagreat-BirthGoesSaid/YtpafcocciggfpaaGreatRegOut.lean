/- A region that draws, within a round: its orders as outside one (but for 'defer'), so that what yields in whatever world can be taken first. -/
import Derived.Test.YtpafcocciggfpaaGreatRangeIn
import Derived.Stop.RegionWithIn
namespace Go.Proofs.YtpafcocciggfpaaGreat
open Go.RowKit Go.Shelf
variable {P : Program}

theorem wpOpIn_inRound {l n : Nat} {ops : Array Oper} {Q : Exit → Act → World → Prop} (hd : ∀ (j : Nat) (o : Oper) c, ops[j]? = some o → o.op ≠ .defer c) {i : Nat} {K : Act → World → Prop} {a : Act} {w : World} (h : wpOpIn Fence.wide n P ops Q i K a w) : wpOpIn (Fence.wide.inRound l) n P ops Q i K a w := by
  unfold wpOpIn at *
  cases ho : ops[i]? with
  | none => rw [ho] at h; exact h
  | some o =>
    rw [ho] at h
    dsimp only at h ⊢
    split
    · rename_i hw
      rw [if_pos hw] at h
      unfold Oper.wpIn at *
      refine ⟨h.1, ?_⟩
      have h2 := h.2
      have e : Oper.semAt (Fence.wide.inRound l).round a.eval o = Oper.semAt Fence.wide.round a.eval o := by
        show Oper.semAt (some l) a.eval o = Oper.semAt none a.eval o
        rw [Oper.semAt_some l _ _ (fun c => hd i o c ho), Oper.semAt_none]
      rw [e]
      exact h2
    · rename_i hw
      rw [if_neg hw] at h
      exact h
theorem wpAnyIn_inRound {l n : Nat} {md : Region.Mode} {ops : Array Oper} {Q : Exit → Act → World → Prop} (hd : ∀ (j : Nat) (o : Oper) c, ops[j]? = some o → o.op ≠ .defer c) : ∀ (fuel : Nat) (listed : Array Bool) (a : Act) (w : World),
    wpAnyIn Fence.wide n P md ops Q fuel listed a w → wpAnyIn (Fence.wide.inRound l) n P md ops Q fuel listed a w
  | 0, _, _, _, h => h
  | fuel + 1, listed, _, _, h => ⟨h.1, fun i hi => wpOpIn_inRound hd (wpOpIn_mono (fun _ _ hk => wpAnyIn_inRound hd fuel _ _ _ hk) (h.2 i hi))⟩
def noDefer (ops : Array Oper) : Bool := ops.all (fun o => match o.op with | .defer _ => false | _ => true)
theorem noDefer_spec {ops : Array Oper} (h : noDefer ops = true) (j : Nat) (o : Oper) (ho : ops[j]? = some o) : ∀ c, o.op ≠ .defer c := by
  intro c e
  obtain ⟨hj, rfl⟩ := Array.getElem?_eq_some_iff.1 ho
  have := (Array.all_eq_true.1 h) j hj
  rw [e] at this
  cases this
/-- A region that draws, within a round: all its orders, at the fence that is wide. -/
theorem region_in {l id : Nat} {ops : Array Oper} {Q : Exit → Act → World → Prop} {a : Act} {w : World} (hm : P.follows .mixedOrders = true) (hd : noDefer ops = true)
    (h : wpAnyIn Fence.wide 0 P .any ops Q ops.size (Array.replicate ops.size false) a w.drew) : (Code.region id ops true).wpIn (Fence.wide.inRound l) 0 P Q a w :=
  wpIn_region_any hm (wpAnyIn_inRound (fun j o c ho => noDefer_spec hd j o ho c) _ _ _ _ h)
end Go.Proofs.YtpafcocciggfpaaGreat
