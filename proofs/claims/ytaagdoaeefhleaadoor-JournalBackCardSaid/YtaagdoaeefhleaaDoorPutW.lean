/-
  A set's bytes, plainly.
-/
import Derived.Test.YtaagdoaeefhleaaDoorBitP
import Derived.Test.YtaagdoaeefhleaaDoorP1
namespace Go.Proofs.YtaagdoaeefhleaaDoor
open Go.RowKit

/-- A set's bytes. -/
def putW (L : List Bool) (k : Nat) : List UInt8 := (List.range k).flatMap fun j => be (wdN L j : Nat) 8
theorem putW_succ (L : List Bool) (k : Nat) : putW L (k + 1) = putW L k ++ be (wdN L k : Nat) 8 := by simp [putW, List.range_succ]
theorem putW_length (L : List Bool) (k : Nat) : (putW L k).length = 8 * k := by
  induction k with
  | zero => rfl
  | succ k ih => rw [putW_succ, List.length_append, ih, be_length]; omega
end Go.Proofs.YtaagdoaeefhleaaDoor
