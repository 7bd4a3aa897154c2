/-
  '==' of records.
-/
import Derived.Test.YtaagdoaeefhleaaDoorP11
import Derived.Test.YtaagdoaeefhleaaDoorP12
import Derived.Test.YtaagdoaeefhleaaDoorP10
namespace Go.Proofs.YtaagdoaeefhleaaDoor
open Go.RowKit

theorem eq_words8 (a0 a1 a2 a3 : Int) (w : World) : (Op.equalIn 9998 30 (.agg #[.int .u64 a0, .int .u64 a1, .int .u64 a2, .int .u64 a3]) (.agg #[.int .u64 a0, .int .u64 a1, .int .u64 a2, .int .u64 a3])).run Tryd.prog w = .ok true w := by
  have u3 := Tryd.underlying29
  have a3' := Tryd.isAgg29
  have z3 := Tryd.sizeOf29
  rw [show (9998 : Nat) = 9997 + 1 from rfl, Op.equalIn]
  simp only [Sem.run_bind, run_underlying Tryd.underlying30, Result.andThen_ok]
  simp only [Std.Legacy.Range.forIn_eq_forIn_range', Std.Legacy.Range.size, Nat.sub_zero, Nat.add_sub_cancel, Nat.div_one, List.range'_succ, List.range'_zero, List.forIn_cons, List.forIn_nil]
  go_simp
theorem eq_set8 (n a0 a1 a2 a3 : Int) (w : World) : (Op.equalIn 9999 32 (.agg #[.int .i64 n, .int .u64 a0, .int .u64 a1, .int .u64 a2, .int .u64 a3]) (.agg #[.int .i64 n, .int .u64 a0, .int .u64 a1, .int .u64 a2, .int .u64 a3])).run Tryd.prog w = .ok true w := by
  have u3 := Tryd.underlying3
  have u4 := Tryd.underlying30
  have a3' := Tryd.isAgg3
  have a4' := Tryd.isAgg30
  have z3 := Tryd.sizeOf3
  have z4 := Tryd.sizeOf30
  have h8 := eq_words8 a0 a1 a2 a3
  have hS : Tryd.prog.underlying 32 = some (.struct (Tryd.prog.fieldsOf 32)) := by kernel_rfl
  have hp : Tryd.prog.stoodInHeld 32 = false := by kernel_rfl
  rw [show (9999 : Nat) = 9998 + 1 from rfl, run_equalIn_agg w 9998 32 _ _ hS hp]
  simp only [Program.fieldsOf, Tryd.underlying32]
  go_simp
theorem eq_hdr8 (id : Int) (sa : ByteArray) (n bs raw : Int) (ro ta : ByteArray) (w : World) : (Op.equalIn 9998 23 (.agg #[.int .i64 id, .string sa, .int .i64 n, .int .i64 bs, .int .i64 raw, .string ro, .string ta]) (.agg #[.int .i64 id, .string sa, .int .i64 n, .int .i64 bs, .int .i64 raw, .string ro, .string ta])).run Tryd.prog w = .ok true w := by
  have u3 := Tryd.underlying3
  have a3' := Tryd.isAgg3
  have z3 := Tryd.sizeOf3
  have u4 := Tryd.underlying9
  have a4' := Tryd.isAgg9
  have z4 := Tryd.sizeOf9
  have hS : Tryd.prog.underlying 23 = some (.struct (Tryd.prog.fieldsOf 23)) := by kernel_rfl
  have hp : Tryd.prog.stoodInHeld 23 = false := by kernel_rfl
  rw [show (9998 : Nat) = 9997 + 1 from rfl, run_equalIn_agg w 9997 23 _ _ hS hp]
  simp only [Program.fieldsOf, Tryd.underlying23]
  go_simp
theorem eq_ext8 (id : Int) (sa : ByteArray) (n bs raw : Int) (ro ta : ByteArray) (ba : Int) (w : World) : (Op.equalIn 9999 25 (.agg #[.int .i64 id, .string sa, .int .i64 n, .int .i64 bs, .int .i64 raw, .string ro, .string ta, .int .i64 ba]) (.agg #[.int .i64 id, .string sa, .int .i64 n, .int .i64 bs, .int .i64 raw, .string ro, .string ta, .int .i64 ba])).run Tryd.prog w = .ok true w := by
  have u3 := Tryd.underlying3
  have a3' := Tryd.isAgg3
  have z3 := Tryd.sizeOf3
  have u4 := Tryd.underlying23
  have a4' := Tryd.isAgg23
  have z4 := Tryd.sizeOf23
  have h8 := eq_hdr8 id sa n bs raw ro ta
  have hS : Tryd.prog.underlying 25 = some (.struct (Tryd.prog.fieldsOf 25)) := by kernel_rfl
  have hp : Tryd.prog.stoodInHeld 25 = false := by kernel_rfl
  rw [show (9999 : Nat) = 9998 + 1 from rfl, run_equalIn_agg w 9998 25 _ _ hS hp]
  simp only [Program.fieldsOf, Tryd.underlying25]
  go_simp
theorem eq_rec9 (id : Int) (sa : ByteArray) (n bs raw : Int) (ro ta : ByteArray) (ba m a0 a1 a2 a3 : Int) (w : World) : (Op.equalIn 10000 37 (.agg #[.int .i64 id, .string sa, .int .i64 n, .int .i64 bs, .int .i64 raw, .string ro, .string ta, .int .i64 ba, .int .i64 m, .int .u64 a0, .int .u64 a1, .int .u64 a2, .int .u64 a3]) (.agg #[.int .i64 id, .string sa, .int .i64 n, .int .i64 bs, .int .i64 raw, .string ro, .string ta, .int .i64 ba, .int .i64 m, .int .u64 a0, .int .u64 a1, .int .u64 a2, .int .u64 a3])).run Tryd.prog w = .ok true w := by
  have u3 := Tryd.underlying25
  have u4 := Tryd.underlying32
  have a3' := Tryd.isAgg25
  have a4' := Tryd.isAgg32
  have z3 := Tryd.sizeOf25
  have z4 := Tryd.sizeOf32
  have h8 := eq_ext8 id sa n bs raw ro ta ba
  have h9 := eq_set8 m a0 a1 a2 a3
  have hS : Tryd.prog.underlying 37 = some (.struct (Tryd.prog.fieldsOf 37)) := by kernel_rfl
  have hp : Tryd.prog.stoodInHeld 37 = false := by kernel_rfl
  rw [show (10000 : Nat) = 9999 + 1 from rfl, run_equalIn_agg w 9999 37 _ _ hS hp]
  simp only [Program.fieldsOf, Tryd.underlying37]
  go_simp
theorem eq_rec (id : Int) (sa : ByteArray) (n bs raw : Int) (ro ta : ByteArray) (ba m a0 a1 a2 a3 : Int) (w : World) : (binOp .eql 37 (.agg #[.int .i64 id, .string sa, .int .i64 n, .int .i64 bs, .int .i64 raw, .string ro, .string ta, .int .i64 ba, .int .i64 m, .int .u64 a0, .int .u64 a1, .int .u64 a2, .int .u64 a3]) (.agg #[.int .i64 id, .string sa, .int .i64 n, .int .i64 bs, .int .i64 raw, .string ro, .string ta, .int .i64 ba, .int .i64 m, .int .u64 a0, .int .u64 a1, .int .u64 a2, .int .u64 a3])).run Tryd.prog w = .ok (.bool true) w := by
  rw [run_eql_struct, eq_rec9]
  rfl
theorem neq_rec (id : Int) (sa : ByteArray) (n bs raw : Int) (ro ta : ByteArray) (ba m a0 a1 a2 a3 : Int) (w : World) : (binOp .neq 37 (.agg #[.int .i64 id, .string sa, .int .i64 n, .int .i64 bs, .int .i64 raw, .string ro, .string ta, .int .i64 ba, .int .i64 m, .int .u64 a0, .int .u64 a1, .int .u64 a2, .int .u64 a3]) (.agg #[.int .i64 id, .string sa, .int .i64 n, .int .i64 bs, .int .i64 raw, .string ro, .string ta, .int .i64 ba, .int .i64 m, .int .u64 a0, .int .u64 a1, .int .u64 a2, .int .u64 a3])).run Tryd.prog w = .ok (.bool false) w := by
  rw [run_neq_struct, eq_rec9]
  rfl
end Go.Proofs.YtaagdoaeefhleaaDoor
