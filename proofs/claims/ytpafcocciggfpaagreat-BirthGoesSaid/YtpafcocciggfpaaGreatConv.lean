/- Bytes as a string. -/
import Derived.Test.YtpafcocciggfpaaGreatEntry
namespace Go.Proofs.YtpafcocciggfpaaGreat
open Go.RowKit
set_option maxRecDepth 100000

theorem conv_bytes {w : World} {a : Option Addr} {n c : Nat} (l : List UInt8) (h : ReadAt w (.slice a n c) 1 (bytesOf l)) :
    (convert 33 9 (.slice a n c)).run Tryz.prog w = .ok (.string ⟨l.toArray⟩) w := by
  obtain ⟨a', n', c', he, hl, _, h0, hc⟩ := h
  cases he
  rw [bytesOf_length, Nat.mul_one] at hl
  subst hl
  cases a with
  | none =>
    have := h0 rfl
    have hn : l = [] := List.eq_nil_of_length_eq_zero this
    subst hn
    rw [run_convert_bytes_string w _ _ _ none (List.length (α := UInt8) []) c Tryz.underlying33 Tryz.underlying5 Tryz.underlying9]
    rfl
  | some ad =>
    exact run_convert_bytes_back w _ _ _ ad c l Tryz.underlying33 Tryz.underlying5 Tryz.underlying9 (fun j hj => hc ad rfl j _ (by simp [bytesOf, hj]))

end Go.Proofs.YtpafcocciggfpaaGreat
