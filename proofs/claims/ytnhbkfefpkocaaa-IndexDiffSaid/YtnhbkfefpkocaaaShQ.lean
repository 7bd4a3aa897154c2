/-
  sha: a block's first 16 words; rows of words. No function in sight.
-/
import Derived.Test.YtnhbkfefpkocaaaShA
namespace Go.Proofs.Ytnhbkfefpkocaaa
open Go.RowKit

theorem shl_or (a b k : Nat) (h : b < 2 ^ k) : a * 2 ^ k ||| b = a * 2 ^ k + b := by
  rw [Nat.mul_comm]
  exact (Nat.two_pow_add_eq_or_of_lt h a).symm
theorem word4_bits (b0 b1 b2 b3 : UInt8) :
    bits .or .u32 (bits .or .u32 (bits .or .u32 ((b0.toNat : Int) % 4294967296 * 16777216 % 4294967296) ((b1.toNat : Int) % 4294967296 * 65536 % 4294967296)) ((b2.toNat : Int) % 4294967296 * 256 % 4294967296)) ((b3.toNat : Int) % 4294967296) = (word4 b0.toNat b1.toNat b2.toNat b3.toNat : Nat) := by
  have h0 := UInt8.toNat_lt b0
  have h1 := UInt8.toNat_lt b1
  have h2 := UInt8.toNat_lt b2
  have h3 := UInt8.toNat_lt b3
  generalize b0.toNat = x0 at *
  generalize b1.toNat = x1 at *
  generalize b2.toNat = x2 at *
  generalize b3.toNat = x3 at *
  rw [show (x0 : Int) % 4294967296 * 16777216 % 4294967296 = ((x0 * 2 ^ 24 : Nat) : Int) by simp only [Nat.reducePow]; omega,
    show (x1 : Int) % 4294967296 * 65536 % 4294967296 = ((x1 * 2 ^ 16 : Nat) : Int) by simp only [Nat.reducePow]; omega,
    show (x2 : Int) % 4294967296 * 256 % 4294967296 = ((x2 * 2 ^ 8 : Nat) : Int) by simp only [Nat.reducePow]; omega,
    show (x3 : Int) % 4294967296 = (x3 : Int) by omega]
  have p24 : (2 : Nat) ^ 24 = 16777216 := rfl
  have p16 : (2 : Nat) ^ 16 = 65536 := rfl
  have p8 : (2 : Nat) ^ 8 = 256 := rfl
  rw [or32 _ _ (by rw [p24]; omega) (by rw [p16]; omega), shl_or x0 _ 24 (by rw [p16, p24]; omega), or32 _ _ (by rw [p24, p16]; omega) (by rw [p8]; omega)]
  rw [show x0 * 2 ^ 24 + x1 * 2 ^ 16 = (x0 * 256 + x1) * 2 ^ 16 by rw [p24, p16]; omega, shl_or _ _ 16 (by rw [p8, p16]; omega), or32 _ _ (by rw [p8, p16]; omega) (by omega)]
  rw [show (x0 * 256 + x1) * 2 ^ 16 + x2 * 2 ^ 8 = ((x0 * 256 + x1) * 256 + x2) * 2 ^ 8 by rw [p16, p8]; omega, shl_or _ _ 8 (by rw [p8]; omega)]
  unfold word4
  rw [p8]
  refine congrArg (fun n : Nat => (n : Int)) ?_
  omega
theorem first16_len : ∀ (i : Nat) (b : List UInt8), 4 * i ≤ b.length → (first16 (b.take (4 * i))).length = i
  | 0, b, _ => by simp [first16]
  | i + 1, x0 :: x1 :: x2 :: x3 :: l, h => by
    rw [show 4 * (i + 1) = 4 * i + 1 + 1 + 1 + 1 by omega]
    simp only [List.take_succ_cons, first16, List.length_cons]
    rw [first16_len i l (by simp at h; omega)]
  | i + 1, [], h | i + 1, [_], h | i + 1, [_, _], h | i + 1, [_, _, _], h => by simp at h <;> omega
theorem first16_step : ∀ (i : Nat) (b : List UInt8) (b0 b1 b2 b3 : UInt8), b[4 * i]? = some b0 → b[4 * i + 1]? = some b1 → b[4 * i + 2]? = some b2 → b[4 * i + 3]? = some b3 →
    first16 (b.take (4 * (i + 1))) = first16 (b.take (4 * i)) ++ [word4 b0.toNat b1.toNat b2.toNat b3.toNat]
  | 0, x0 :: x1 :: x2 :: x3 :: l, b0, b1, b2, b3, h0, h1, h2, h3 => by
    simp at h0 h1 h2 h3
    subst h0 h1 h2 h3
    simp [first16]
  | i + 1, x0 :: x1 :: x2 :: x3 :: l, b0, b1, b2, b3, h0, h1, h2, h3 => by
    have ih := first16_step i l b0 b1 b2 b3
    rw [show 4 * (i + 1) = 4 * i + 1 + 1 + 1 + 1 by omega] at h0 h1 h2 h3
    rw [show 4 * (i + 1 + 1) = 4 * (i + 1) + 1 + 1 + 1 + 1 by omega, show 4 * (i + 1) = 4 * i + 1 + 1 + 1 + 1 by omega]
    simp only [List.take_succ_cons, first16, List.cons_append]
    rw [show 4 * i + 1 + 1 + 1 + 1 = 4 * (i + 1) by omega, ih (by simpa using h0) (by simpa using h1) (by simpa using h2) (by simpa using h3)]
  | i, [], b0, _, _, _, h, _, _, _ => by simp at h
  | i, [_], _, b1, _, _, _, h, _, _ => by rw [List.getElem?_eq_none (by simp)] at h; cases h
  | i, [_, _], _, _, b2, _, _, _, h, _ => by rw [List.getElem?_eq_none (by simp)] at h; cases h
  | i, [_, _, _], _, _, _, b3, _, _, _, h => by rw [List.getElem?_eq_none (by simp)] at h; cases h
end Go.Proofs.Ytnhbkfefpkocaaa
