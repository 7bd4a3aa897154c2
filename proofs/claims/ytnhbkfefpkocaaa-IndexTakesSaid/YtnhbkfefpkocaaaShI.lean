/-
  An array by value at an index.
-/
import Derived.Test.YtnhbkfefpkocaaaP7
import Derived.ChangeKeysEq
namespace Go.Proofs.Ytnhbkfefpkocaaa
open Go.RowKit
set_option maxHeartbeats 400000 in
theorem run_index_agg (t e : TypeId) (n : Nat) (C : Array Value) (i : Nat) (v : Value) (w : World) (h : Try.prog.underlying t = some (.array n e)) (hsi : (Try.prog.info? e).isSome = true) (hc : Try.prog.cellsOf e = 1) (he : Try.prog.plainKey e = true) (hi : i < n) (hv : C[i]? = some v) :
    (Instr.index t (.agg C) (.int .i64 (i : Int))).run Try.prog w = .ok v w := by
  have hn : (0 ≤ (i : Int) ∧ (i : Int) < (n : Int)) := by omega
  obtain ⟨inf, hinf⟩ := Option.isSome_iff_exists.1 hsi
  unfold Instr.index
  simp only [asIntOf, Sem.run_bind, Sem.run_pure, Result.andThen_ok, run_underlying h, if_pos hn, run_sizeOf _ hinf, hc, Int.toNat_natCast, Nat.mul_one]
  exact run_part_plain _ he hv
end Go.Proofs.Ytnhbkfefpkocaaa
