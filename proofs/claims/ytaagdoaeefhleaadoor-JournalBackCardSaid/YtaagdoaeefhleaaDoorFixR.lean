/-
  The reference's Fixed.
-/
import Derived.Test.YtaagdoaeefhleaaDoorP3
import Derived.BigQuiet
import Derived.Deep.QuietTactic
namespace Go.Proofs.YtaagdoaeefhleaaDoor
open Go.RowKit


theorem be_bytes (n : Int) (k : Nat) : ofL [byteOf (bits BinOp.and IntKind.i64 (n / 256 ^ k) 255)] ++ ofL (be n k) = ofL (be n (k + 1)) := by
  rw [ofL_app, bitsand255, byteOf_emod, be_cons]; rfl
theorem div256 (n : Int) (k : Nat) : n / 256 ^ k / 256 = n / 256 ^ (k + 1) := by
  rw [Int.ediv_ediv_of_nonneg (Int.le_of_lt (Int.pow_pos (by omega))), ← Int.pow_succ]



end Go.Proofs.YtaagdoaeefhleaaDoor
