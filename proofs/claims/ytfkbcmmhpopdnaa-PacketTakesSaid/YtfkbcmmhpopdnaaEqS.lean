/-
  '==' of sets.
-/
import Derived.Test.YtfkbcmmhpopdnaaBitF
namespace Go.Proofs.Ytfkbcmmhpopdnaa
open Go.RowKit

/-- The program's `==` of two arrays of four words. -/
@[go_sem] theorem eq_words (a0 a1 a2 a3 b0 b1 b2 b3 : Int) (w : World) : (Op.equalIn 9999 49 (.agg #[.int .u64 a0, .int .u64 a1, .int .u64 a2, .int .u64 a3]) (.agg #[.int .u64 b0, .int .u64 b1, .int .u64 b2, .int .u64 b3])).run Try.prog w = .ok (a0 == b0 && a1 == b1 && a2 == b2 && a3 == b3) w := by
  have u3 := Try.underlying48
  have a3' := Try.isAgg48
  have z3 := Try.sizeOf48
  rw [show (9999 : Nat) = 9998 + 1 from rfl, Op.equalIn]
  simp only [Sem.run_bind, run_underlying Try.underlying49, Result.andThen_ok]
  simp only [Std.Legacy.Range.forIn_eq_forIn_range', Std.Legacy.Range.size, Nat.sub_zero, Nat.add_sub_cancel, Nat.div_one, List.range'_succ, List.range'_zero, List.forIn_cons, List.forIn_nil]
  go_simp
  by_cases h1 : a0 = b0 <;> by_cases h2 : a1 = b1 <;> by_cases h3 : a2 = b2 <;> by_cases h4 : a3 = b3 <;> simp [h1, h2, h3, h4]
theorem eq_sets (n m a0 a1 a2 a3 b0 b1 b2 b3 : Int) (w : World) : (binOp .eql 51 (.agg #[.int .i64 n, .int .u64 a0, .int .u64 a1, .int .u64 a2, .int .u64 a3]) (.agg #[.int .i64 m, .int .u64 b0, .int .u64 b1, .int .u64 b2, .int .u64 b3])).run Try.prog w = .ok (.bool (n == m && (a0 == b0 && a1 == b1 && a2 == b2 && a3 == b3))) w := by
  have u3 := Try.underlying3
  have u4 := Try.underlying49
  have a3' := Try.isAgg3
  have a4' := Try.isAgg49
  have z3 := Try.sizeOf3
  have z4 := Try.sizeOf49
  have hS : Try.prog.underlying 51 = some (.struct (Try.prog.fieldsOf 51)) := by kernel_rfl
  have hp : Try.prog.stoodInHeld 51 = false := by kernel_rfl
  rw [run_eql_struct, show (10000 : Nat) = 9999 + 1 from rfl, run_equalIn_agg w 9999 51 _ _ hS hp]
  simp only [Program.fieldsOf, Try.underlying51]
  go_simp
  by_cases h0 : n = m <;> by_cases h1 : a0 = b0 <;> by_cases h2 : a1 = b1 <;> by_cases h3 : a2 = b2 <;> by_cases h4 : a3 = b3 <;> simp [h0, h1, h2, h3, h4]
theorem set_test (L M : List Bool) : (((L.length : Nat) : Int) == ((M.length : Nat) : Int) && (((wdN L 0 : Nat) : Int) == ((wdN M 0 : Nat) : Int) && ((wdN L 1 : Nat) : Int) == ((wdN M 1 : Nat) : Int) && ((wdN L 2 : Nat) : Int) == ((wdN M 2 : Nat) : Int) && ((wdN L 3 : Nat) : Int) == ((wdN M 3 : Nat) : Int))) = setEq L M := by
  have h : ∀ a b : Nat, ((a : Int) == (b : Int)) = decide (a = b) := by
    intro a b
    by_cases hab : a = b
    · simp [hab]
    · have : ¬ ((a : Int) = (b : Int)) := by omega
      simp [hab, this]
  rw [h, h, h, h, h, setEq]

end Go.Proofs.Ytfkbcmmhpopdnaa
