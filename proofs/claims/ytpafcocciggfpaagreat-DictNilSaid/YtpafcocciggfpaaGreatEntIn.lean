/- An entry that came in. -/
import Derived.Test.YtpafcocciggfpaaGreatLaw
import Derived.Deep.Slices
import Derived.Lib.SmallJoins
import Derived.ChangeArms
namespace Go.Proofs.YtpafcocciggfpaaGreat
open Go.ChangeShapes Go.WideShapes Go.ChangeAt Go.RowKit Go.Deep Go.Joins

set_option maxRecDepth 100000
theorem entry_of {H : Type} {enc : TypeId × Value → H} {W : World} {base : Nat} {sp : Nat → Bool} {held : Bool} {r : Reach} {b0 : Nat} {v : Value} {d : DataW H} {p : List MemPlace} (hv : Value.okWide Tryz.prog W r b0 42 v) (h : DataW.Trod enc Tryz.prog W base sp held 42 v d p) :
    ∃ (key : ByteArray) (a : Option Addr) (n c : Nat) (dl b : Int), v = .agg #[.string key, .slice a n c, .int .u64 dl, .int .u64 b] ∧ key.size ≤ 9223372036854775807 ∧ n ≤ 9223372036854775807 := by
  obtain ⟨cs, rfl, hsz⟩ := okWide_struct Tryz.underlying42 hv
  obtain ⟨fuel, hf⟩ := h
  have e4 : (Tryz.prog).cellsOf 42 = 4 := by kernel_rfl
  rw [e4] at hsz
  obtain ⟨c0, c1, c2, c3, rfl⟩ := array4 hsz
  obtain ⟨y0, y1, y2, y3, n, _, _, t0, t1, t2, t3⟩ := trod_struct4 Tryz.underlying42 hf
  have k0 : (Tryz.prog).cellsOf 9 = 1 := by kernel_rfl
  have k1 : (Tryz.prog).cellsOf 33 = 1 := by kernel_rfl
  have k2 : (Tryz.prog).cellsOf 40 = 1 := by kernel_rfl
  have k3 : (Tryz.prog).cellsOf 22 = 1 := by kernel_rfl
  simp only [k0, k1, k2, k3, Value.cells, List.drop, List.take] at t0 t1 t2 t3
  obtain ⟨s, es, _, hs⟩ := DataW.trod_string Tryz.underlying9 t0
  cases es
  obtain ⟨z2, f2, _, _⟩ := DataW.trod_int Tryz.underlying40 t2
  obtain ⟨z3, f3, _, _⟩ := DataW.trod_int Tryz.underlying22 t3
  cases f2; cases f3
  have hm : maxLen ≤ 9223372036854775807 := by decide
  rcases open_slice Tryz.underlying33 t1 with ⟨h0, _⟩ | ⟨a, len, cap, m, n', D, Pl, h0, _, hl, hc, _⟩
  · cases h0
    exact ⟨s, none, 0, 0, z2, z3, rfl, Nat.le_trans hs hm, by omega⟩
  · cases h0
    exact ⟨s, some a, len, cap, z2, z3, rfl, Nat.le_trans hs hm, by omega⟩
end Go.Proofs.YtpafcocciggfpaaGreat
