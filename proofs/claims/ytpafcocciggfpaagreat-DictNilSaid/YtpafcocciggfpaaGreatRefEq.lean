/- The reference's Equal of layer 4, on equal entries. Condition: the bytes are read. -/
import Derived.Test.YtpafcocciggfpaaGreatRef4
import Derived.Test.YtpafcocciggfpaaGreatConv
namespace Go.Proofs.YtpafcocciggfpaaGreat
open Go.RowKit
set_option maxRecDepth 100000

set_option maxHeartbeats 1000000 in
theorem ref_Equal_same {w : World} (x : Ent) (a1 a2 : Option Addr) (n1 n2 c1 c2 : Nat) (h1 : ReadAt w (.slice a1 n1 c1) 1 (bytesOf x.val)) (h2 : ReadAt w (.slice a2 n2 c2) 1 (bytesOf x.val)) :
    Calls Tryz.prog 21 #[.agg #[.string x.key, .slice a1 n1 c1, .int .u64 x.dl, .int .u64 x.birth], .agg #[.string x.key, .slice a2 n2 c2, .int .u64 x.dl, .int .u64 x.birth]] w fun e w' => e = .returned (.bool true) ∧ Pure w w' := by
  have hp : Pure w ((w.alloc (.cells #[.string x.key, .slice a1 n1 c1, .int .u64 x.dl, .int .u64 x.birth] 42)).alloc (.cells #[.string x.key, .slice a2 n2 c2, .int .u64 x.dl, .int .u64 x.birth] 42)) := ((Mod.refl _ w).alloc _).alloc _
  have k1 := conv_bytes x.val (h1.frame hp (fun _ _ h => h))
  have k2 := conv_bytes x.val (h2.frame hp (fun _ _ h => h))
  have HP := Lib.hid hp
  clear h1 h2 hp
  go_enter Tryz.func21, Tryz.ntmps21
  go_wp2
  go_ret
  exact ⟨rfl, HP.out⟩
end Go.Proofs.YtpafcocciggfpaaGreat
