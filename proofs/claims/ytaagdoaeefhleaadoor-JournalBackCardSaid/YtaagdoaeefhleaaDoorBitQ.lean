/-
  The walk of the reference's Put.
-/
import Derived.Test.YtaagdoaeefhleaaDoorP8
import Derived.Test.YtaagdoaeefhleaaDoorBitV
namespace Go.Proofs.YtaagdoaeefhleaaDoor
open Go.RowKit

theorem Tryd.info5' : (Tryd.prog.info? 5).map (fun i => (i.zero, i.size, i.bytes)) = some (some (.int .u8 0), 1, 1) := by kernel_rfl
theorem el_byte : El Tryd.prog 44 5 1 1 := El.mk_ (z := .int .u8 0) Tryd.underlying44 Tryd.info5' (by omega) rfl
/-- The bits of a word from place o + c on, below o + 8. -/
def partW (x o c : Nat) : Nat := x / 2 ^ (o + c) % 2 ^ (8 - c)
theorem partW_8 (x o : Nat) : partW x o 8 = 0 := by simp [partW, Nat.mod_one]
theorem partW_lt (x o c : Nat) : partW x o c < 256 := by
  unfold partW
  have h1 : x / 2 ^ (o + c) % 2 ^ (8 - c) < 2 ^ (8 - c) := Nat.mod_lt _ (Nat.pow_pos (by omega))
  have h2 : 2 ^ (8 - c) ≤ 2 ^ 8 := Nat.pow_le_pow_right (by omega) (by omega)
  omega
theorem partW_step (x o c : Nat) (h : c < 8) (b : Bool) (hb : x.testBit (o + c) = b) : partW x o c = 2 * partW x o (c + 1) + (if b = true then 1 else 0) := by
  unfold partW
  rw [← Nat.add_assoc, Nat.pow_succ, ← Nat.div_div_eq_div_mul, show 8 - c = (8 - (c + 1)) + 1 by omega, Nat.pow_succ, Nat.mul_comm (2 ^ (8 - (c + 1))) 2, Nat.mod_mul]
  rw [Nat.testBit_eq_decide_div_mod_eq] at hb
  cases b with
  | true => have := of_decide_eq_true hb; rw [if_pos rfl]; omega
  | false => have := of_decide_eq_false hb; rw [if_neg (by simp)]; omega
theorem partW_0 (x o : Nat) : partW x o 0 = x / 2 ^ o % 256 := rfl
/-- The bytes of a set when k bytes of word j are still to come. -/
def putK (L : List Bool) (j k : Nat) : List UInt8 := putW L j ++ (be (wdN L j : Nat) 8).take (8 - k)
theorem putK_8 (L : List Bool) (j : Nat) : putK L j 8 = putW L j := by simp [putK]
theorem putK_0 (L : List Bool) (j : Nat) : putK L j 0 = putW L (j + 1) := by rw [putK, putW_succ, List.take_of_length_le (by rw [be_length]; omega)]
theorem putK_step (L : List Bool) (j k : Nat) (h : k < 8) (v : Int) (hv : v = (partW (wdN L j) (8 * k) 0 : Nat)) : byteVals (putK L j (k + 1)) ++ [Value.int .u8 v] = byteVals (putK L j k) := by
  have h1 := be_take (wdN L j : Nat) 8 (8 - (k + 1)) (by omega)
  rw [show 8 - (k + 1) + 1 = 8 - k by omega, show 8 - 1 - (8 - (k + 1)) = k by omega] at h1
  unfold putK
  rw [h1, ← List.append_assoc]
  refine byteVals_snoc _ _ _ ?_
  rw [byteOf_toNat, hv, partW_0]
  have e : (2 : Int) ^ (8 * k) = ((2 ^ (8 * k) : Nat) : Int) := by simp
  rw [e]
  omega
theorem putK_length (L : List Bool) (j k : Nat) (hj : j ≤ 4) : (putK L j k).length ≤ 40 := by
  unfold putK
  rw [List.length_append, putW_length, List.length_take]
  omega

end Go.Proofs.YtaagdoaeefhleaaDoor
