/- The reference's Equal of layer 4, on equal entries. Condition: the bytes are read. -/
import Derived.Test.YtbjiebhbmpafpaaRef4
namespace Go.Proofs.Ytbjiebhbmpafpaa
open Go.RowKit
set_option maxRecDepth 100000

theorem conv_bytes {w : World} {a : Option Addr} {n c : Nat} (l : List UInt8) (h : ReadAt w (.slice a n c) 1 (bytesOf l)) :
    (convert 44 9 (.slice a n c)).run Try.prog w = .ok (.string ⟨l.toArray⟩) w := by
  obtain ⟨a', n', c', he, hl, _, h0, hc⟩ := h
  cases he
  rw [bytesOf_length, Nat.mul_one] at hl
  subst hl
  cases a with
  | none =>
    have := h0 rfl
    have hn : l = [] := List.eq_nil_of_length_eq_zero this
    subst hn
    rw [run_convert_bytes_string w _ _ _ none (List.length (α := UInt8) []) c Try.underlying44 Try.underlying5 Try.underlying9]
    rfl
  | some ad =>
    exact run_convert_bytes_back w _ _ _ ad c l Try.underlying44 Try.underlying5 Try.underlying9 (fun j hj => hc ad rfl j _ (by simp [bytesOf, hj]))

set_option maxHeartbeats 1000000 in
theorem ref_Equal_same {w : World} (x : Ent) (a1 a2 : Option Addr) (n1 n2 c1 c2 : Nat) (h1 : ReadAt w (.slice a1 n1 c1) 1 (bytesOf x.val)) (h2 : ReadAt w (.slice a2 n2 c2) 1 (bytesOf x.val)) :
    Calls Try.prog 29 #[.agg #[.string x.key, .slice a1 n1 c1, .int .u64 x.dl, .int .u64 x.birth], .agg #[.string x.key, .slice a2 n2 c2, .int .u64 x.dl, .int .u64 x.birth]] w fun e w' => e = .returned (.bool true) ∧ Pure w w' := by
  have hp : Pure w ((w.alloc (.cells #[.string x.key, .slice a1 n1 c1, .int .u64 x.dl, .int .u64 x.birth] 48)).alloc (.cells #[.string x.key, .slice a2 n2 c2, .int .u64 x.dl, .int .u64 x.birth] 48)) := ((Mod.refl _ w).alloc _).alloc _
  have k1 := conv_bytes x.val (h1.frame hp (fun _ _ h => h))
  have k2 := conv_bytes x.val (h2.frame hp (fun _ _ h => h))
  have HP := Lib.hid hp
  clear h1 h2 hp
  go_enter Try.func29, Try.ntmps29
  go_wp2
  go_ret
  exact ⟨rfl, HP.out⟩
end Go.Proofs.Ytbjiebhbmpafpaa
