/-
  The walk of the law BitsetPuts.
-/
import Derived.Test.YtaagdoaeefhleaaDoorBitT
import Derived.Test.YtaagdoaeefhleaaDoorBitQ
namespace Go.Proofs.YtaagdoaeefhleaaDoor
open Go.RowKit

theorem takeB_put (L : List Bool) (hL : L.length ≤ 256) : takeB (L.length : Nat) (putW L 4) = (L, 0) := by
  rw [takeB_ok L.length _ hL (by rw [putW_length])]
  · rw [put_take L hL]
  · intro j _ h
    rw [bits_put L hL] at h
    exact getD_in h
theorem takeB_cases (n : Int) (s : List UInt8) : takeB n s = ([], 1) ∨ takeB n s = ([], 2) ∨ ∃ M, takeB n s = (M, 0) ∧ M.length ≤ 256 ∧ putW M 4 = s := by
  unfold takeB
  split
  · exact .inl rfl
  · split
    · exact .inr (.inl rfl)
    · split
      · rename_i h1 h2 h3
        exact .inr (.inr ⟨_, rfl, by rw [List.length_take, bitsT_length]; omega, take_put s n.toNat (by omega) h3⟩)
      · exact .inr (.inl rfl)
theorem neq_self (n a0 a1 a2 a3 : Int) (w : World) : (binOp .neq 32 (.agg #[.int .i64 n, .int .u64 a0, .int .u64 a1, .int .u64 a2, .int .u64 a3]) (.agg #[.int .i64 n, .int .u64 a0, .int .u64 a1, .int .u64 a2, .int .u64 a3])).run Tryd.prog w = .ok (.bool false) w := by
  have h := eq_sets n n a0 a1 a2 a3 a0 a1 a2 a3 w
  rw [run_eql_struct] at h
  rw [run_neq_struct]
  revert h
  generalize (Op.equalIn 10000 32 (.agg #[.int .i64 n, .int .u64 a0, .int .u64 a1, .int .u64 a2, .int .u64 a3]) (.agg #[.int .i64 n, .int .u64 a0, .int .u64 a1, .int .u64 a2, .int .u64 a3])).run Tryd.prog w = r
  intro h
  cases r with
  | ok b w1 =>
    simp only [Result.andThen_ok, beq_self_eq_true, Bool.and_self] at h ⊢
    cases h
    rfl
  | halt x w1 => simp [Result.andThen] at h
theorem takeS_is (n : Int) (s : ByteArray) (M : List Bool) (c : Int) (w : World) (hs : s.size ≤ 9223372036854775807) (h : takeB n s.toList = (M, c)) :
    Calls Tryd.prog 28 #[.int .i64 n, .string s] w fun e w' => e = .returned (.tuple #[.agg #[.int .i64 (M.length : Nat), .int .u64 (wdN M 0 : Nat), .int .u64 (wdN M 1 : Nat), .int .u64 (wdN M 2 : Nat), .int .u64 (wdN M 3 : Nat)], .int .i64 c]) ∧ Below w.heap.size w w' := by
  have := take_any n s w hs
  rw [h] at this
  exact this
theorem takeR_is (n : Int) (s : ByteArray) (M : List Bool) (c : Int) (w : World) (hs : s.size ≤ 9223372036854775807) (h : takeB n s.toList = (M, c)) :
    Calls Tryd.prog 32 #[.int .i64 n, .string s] w (RTEnd w M c) := by
  have := takeRef_any n s w hs
  rw [h] at this
  exact this

theorem takeS_err (n : Int) (s : ByteArray) (c : Int) (w : World) (hs : s.size ≤ 9223372036854775807) (h : takeB n s.toList = ([], c)) :
    Calls Tryd.prog 28 #[.int .i64 n, .string s] w fun e w' => e = .returned (.tuple #[.agg #[.int .i64 0, .int .u64 0, .int .u64 0, .int .u64 0, .int .u64 0], .int .i64 c]) ∧ Below w.heap.size w w' := by
  have := take_any n s w hs
  rw [h, setV_nil] at this
  exact this
theorem SetAt.zero (w : World) : ZeroAt (w.alloc (.cells #[.int .i64 0, .int .u64 0, .int .u64 0, .int .u64 0, .int .u64 0] 32)) w.heap.size := Bk.new _ _ _
theorem eq_zero (w : World) : (binOp .eql 32 (.agg #[.int .i64 0, .int .u64 0, .int .u64 0, .int .u64 0, .int .u64 0]) (.agg #[.int .i64 0, .int .u64 0, .int .u64 0, .int .u64 0, .int .u64 0])).run Tryd.prog w = .ok (.bool true) w := by
  rw [eq_sets]; rfl

end Go.Proofs.YtaagdoaeefhleaaDoor
