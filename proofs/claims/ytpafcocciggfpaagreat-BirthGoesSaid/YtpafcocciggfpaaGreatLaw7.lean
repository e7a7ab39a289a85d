/- Slices of unsigned integers that came in, as natural numbers that are read. -/
import Derived.Test.YtpafcocciggfpaaGreatLaw
namespace Go.Proofs.YtpafcocciggfpaaGreat
open Go.ChangeShapes Go.WideShapes Go.ChangeAt Go.RowKit

theorem open_nats {H : Type} {enc : TypeId × Value → H} {P : Program} {W : World} {base : Nat} {sp : Nat → Bool} {held : Bool} {r : Reach} {b0 : Nat} {t e : TypeId} {k : IntKind} {v : Value} {d : DataW H} {p : List MemPlace} (M : Nat)
    (hk : ∀ z : Int, (Lit.int k z).wf = true → 0 ≤ z ∧ z < M)
    (ht : P.underlying t = some (.slice e)) (he : P.underlying e = some (.int k)) (hc : P.cellsOf e = 1) (hv : Value.okWide P W r b0 t v) (h : DataW.Trod enc P W base sp held t v d p) :
    ∃ (a : Option Addr) (c : Nat) (gs : List Nat), v = .slice a gs.length c ∧ gs.length ≤ 9223372036854775807 ∧ ReadAt W (.slice a gs.length c) 1 (gs.map (fun x : Nat => (.int k x : Value))) ∧ (∀ z ∈ gs, z < M) := by
  obtain ⟨a, n, c, zs, rfl, h1, h2, rfl, h3, h4⟩ := open_ints_read ht he hc hv h
  have hw : ∀ z ∈ zs, 0 ≤ z ∧ z < M := fun z hz => hk z (h4 z hz)
  have e : (zs.map Int.toNat).map (fun x : Nat => (.int k x : Value)) = zs.map (Value.int k) := by
    rw [List.map_map]
    refine List.map_congr_left (fun z hz => ?_)
    have := hw z hz
    simp only [Function.comp]
    rw [Int.toNat_of_nonneg this.1]
  have hlen : (zs.map Int.toNat).length = zs.length := by simp
  refine ⟨a, c, zs.map Int.toNat, by rw [hlen], by rw [hlen]; unfold maxLen at h2; omega, by rw [e, hlen]; exact h3, fun z hz => ?_⟩
  obtain ⟨y, hy, rfl⟩ := List.mem_map.1 hz
  have := hw y hy
  omega
theorem wf_u64 (z : Int) (h : (Lit.int .u64 z).wf = true) : 0 ≤ z ∧ z < (18446744073709551616 : Nat) := by
  simp [Lit.wf, IntKind.min, IntKind.max, IntKind.signed, IntKind.bits] at h
  omega
theorem wf_u8 (z : Int) (h : (Lit.int .u8 z).wf = true) : 0 ≤ z ∧ z < (256 : Nat) := by
  simp [Lit.wf, IntKind.min, IntKind.max, IntKind.signed, IntKind.bits] at h
  omega
end Go.Proofs.YtpafcocciggfpaaGreat
