/-
  Plain arithmetic: how many bits of a word are set, as math/bits reckons it. No program in sight.
-/
import Derived.Test.YtapanifgnpklpaaBase
import Derived.Laws.BitsAllLaws
namespace Go.Proofs.Ytapanifgnpklpaa
open Go.RowKit

theorem and_split (q p r s : Nat) (hr : r < 256) (hs : s < 256) : (256 * q + r) &&& (256 * p + s) = 256 * (q &&& p) + (r &&& s) := by
  have h1 : ((256 * q + r) &&& (256 * p + s)) / 2 ^ 8 = (256 * q + r) / 2 ^ 8 &&& (256 * p + s) / 2 ^ 8 := Nat.and_div_two_pow ..
  have h2 : ((256 * q + r) &&& (256 * p + s)) % 2 ^ 8 = ((256 * q + r) % 2 ^ 8) &&& ((256 * p + s) % 2 ^ 8) := Nat.and_mod_two_pow ..
  simp only [Nat.reducePow] at h1 h2
  rw [show (256 * q + r) / 256 = q by omega, show (256 * p + s) / 256 = p by omega] at h1
  rw [show (256 * q + r) % 256 = r by omega, show (256 * p + s) % 256 = s by omega] at h2
  omega
/-- A mask of m bytes d. -/
def msk (d : Nat) : Nat → Nat
  | 0 => 0
  | m + 1 => 256 * msk d m + d
theorem msk_succ (d m : Nat) : msk d (m + 1) = 256 * msk d m + d := rfl
def s1 (m x : Nat) : Nat := (x / 2 &&& msk 85 m) + (x &&& msk 85 m)
def s2 (m x : Nat) : Nat := (x / 4 &&& msk 51 m) + (x &&& msk 51 m)
def s3 (m x : Nat) : Nat := (x / 16 + x) &&& msk 15 m
def t1 (r : Nat) : Nat := (r / 2 &&& 85) + (r &&& 85)
def t2 (r : Nat) : Nat := (r / 4 &&& 51) + (r &&& 51)
def t3 (r : Nat) : Nat := (r / 16 + r) &&& 15
def cnt8 (r : Nat) : Nat := r % 2 + r / 2 % 2 + r / 4 % 2 + r / 8 % 2 + r / 16 % 2 + r / 32 % 2 + r / 64 % 2 + r / 128 % 2
theorem low85 : ∀ h : Fin 128, ∀ b : Fin 2, (128 * b.val + h.val) &&& 85 = h.val &&& 85 := by decide +kernel
theorem low51 : ∀ h : Fin 64, ∀ b : Fin 4, (64 * b.val + h.val) &&& 51 = h.val &&& 51 := by decide +kernel
theorem t1_lt : ∀ r : Fin 256, t1 r.val < 256 := by decide +kernel
theorem t2_le : ∀ r : Fin 256, t2 r.val ≤ 102 ∧ t2 r.val % 16 ≤ 6 := by decide +kernel
theorem t3_eq : ∀ r : Fin 256, t3 (t2 (t1 r.val)) = cnt8 r.val := by decide +kernel
theorem s1_rec (m q r : Nat) (hr : r < 256) : s1 (m + 1) (256 * q + r) = 256 * s1 m q + t1 r := by
  unfold s1 t1
  rw [msk_succ, show (256 * q + r) / 2 = 256 * (q / 2) + (128 * (q % 2) + r / 2) by omega, and_split _ _ _ _ (by omega) (by omega), and_split _ _ _ _ hr (by omega),
    low85 ⟨r / 2, by omega⟩ ⟨q % 2, by omega⟩]
  simp only
  omega
theorem s2_rec (m q r : Nat) (hr : r < 256) : s2 (m + 1) (256 * q + r) = 256 * s2 m q + t2 r := by
  unfold s2 t2
  rw [msk_succ, show (256 * q + r) / 4 = 256 * (q / 4) + (64 * (q % 4) + r / 4) by omega, and_split _ _ _ _ (by omega) (by omega), and_split _ _ _ _ hr (by omega),
    low51 ⟨r / 4, by omega⟩ ⟨q % 4, by omega⟩]
  simp only
  omega
theorem s2_mod (m x : Nat) : s2 m x % 16 ≤ 6 := by
  cases m with
  | zero => simp [s2, msk]
  | succ m =>
    have h := s2_rec m (x / 256) (x % 256) (by omega)
    rw [show 256 * (x / 256) + x % 256 = x by omega] at h
    have h2 := t2_le ⟨x % 256, by omega⟩
    simp only at h2
    omega
theorem s3_rec (m q r : Nat) (hr : r ≤ 102) (hq : q % 16 ≤ 6) : s3 (m + 1) (256 * q + r) = 256 * s3 m q + t3 r := by
  unfold s3 t3
  rw [msk_succ, show (256 * q + r) / 16 + (256 * q + r) = 256 * (q / 16 + q) + (16 * (q % 16) + (r / 16 + r)) by omega, and_split _ _ _ _ (by omega) (by omega)]
  have e : ∀ a b : Nat, (16 * a + b) &&& 15 = b &&& 15 := by
    intro a b
    have h1 := Nat.and_two_pow_sub_one_eq_mod (16 * a + b) 4
    have h2 := Nat.and_two_pow_sub_one_eq_mod b 4
    simp only [Nat.reducePow, Nat.reduceSub] at h1 h2
    rw [h1, h2]; omega
  rw [e]
def yy (m x : Nat) : Nat := s3 m (s2 m (s1 m x))
theorem yy_rec (m q r : Nat) (hr : r < 256) : yy (m + 1) (256 * q + r) = 256 * yy m q + cnt8 r := by
  have h2 := t2_le ⟨t1 r, t1_lt ⟨r, hr⟩⟩
  simp only at h2
  unfold yy
  rw [s1_rec m q r hr, s2_rec m _ _ (t1_lt ⟨r, hr⟩), s3_rec m _ _ h2.1 (s2_mod _ _)]
  have := t3_eq ⟨r, hr⟩
  simp only at this
  rw [this]
theorem cnt8_le (r : Nat) : cnt8 r ≤ 8 := by unfold cnt8; omega
/-- How many of the lowest 8m bits are set. -/
def popB : Nat → Nat → Nat
  | 0, _ => 0
  | m + 1, x => cnt8 (x % 256) + popB m (x / 256)
theorem yy_step (m x : Nat) : yy (m + 1) x = 256 * yy m (x / 256) + cnt8 (x % 256) := by
  have h := yy_rec m (x / 256) (x % 256) (by omega)
  rwa [show 256 * (x / 256) + x % 256 = x by omega] at h
theorem yy_zero (x : Nat) : yy 0 x = 0 := by simp [yy, s3, msk]
/-- The last three steps. -/
theorem pop_fold (c0 c1 c2 c3 c4 c5 c6 c7 y z u : Nat) (h0 : c0 ≤ 8) (h1 : c1 ≤ 8) (h2 : c2 ≤ 8) (h3 : c3 ≤ 8) (h4 : c4 ≤ 8) (h5 : c5 ≤ 8) (h6 : c6 ≤ 8) (h7 : c7 ≤ 8)
    (hy : y = 256 * (256 * (256 * (256 * (256 * (256 * (256 * c7 + c6) + c5) + c4) + c3) + c2) + c1) + c0) (hz : z = y + y / 256) (hu : u = z + z / 65536) :
    (u + u / 4294967296) % 128 = c0 + (c1 + (c2 + (c3 + (c4 + (c5 + (c6 + c7)))))) ∧ y < 1152921504606846976 ∧ z < 2305843009213693952 ∧ u < 4611686018427387904 := by
  have e1 : y / 256 = 256 * (256 * (256 * (256 * (256 * (256 * c7 + c6) + c5) + c4) + c3) + c2) + c1 := by omega
  have e2 : z = 256 * (256 * (256 * (256 * (256 * (256 * (256 * c7 + (c6 + c7)) + (c5 + c6)) + (c4 + c5)) + (c3 + c4)) + (c2 + c3)) + (c1 + c2)) + (c0 + c1) := by omega
  have e3 : z / 65536 = 256 * (256 * (256 * (256 * (256 * c7 + (c6 + c7)) + (c5 + c6)) + (c4 + c5)) + (c3 + c4)) + (c2 + c3) := by clear hz e1 hy hu; omega
  have e4 : u = 256 * (256 * (256 * (256 * (256 * (256 * (256 * c7 + (c6 + c7)) + (c5 + c6 + c7)) + (c4 + c5 + c6 + c7)) + (c3 + c4 + c5 + c6)) + (c2 + c3 + c4 + c5)) + (c1 + c2 + c3 + c4)) + (c0 + c1 + c2 + c3) := by clear hz e1 hy; omega
  have e5 : u / 4294967296 = 256 * (256 * (256 * c7 + (c6 + c7)) + (c5 + c6 + c7)) + (c4 + c5 + c6 + c7) := by clear hz e1 hy hu e2 e3; omega
  clear hz hu e1 e3
  refine ⟨?_, by omega, by omega, by omega⟩
  clear hy e2
  omega
theorem pop_all (x : Nat) : ∃ y z u, y = yy 8 x ∧ z = y + y / 256 ∧ u = z + z / 65536 ∧ (u + u / 4294967296) % 128 = popB 8 x ∧ y < 1152921504606846976 ∧ z < 2305843009213693952 ∧ u < 4611686018427387904 := by
  refine ⟨_, _, _, rfl, rfl, rfl, ?_⟩
  have hy : yy 8 x = _ := yy_step 7 x
  rw [yy_step 6, yy_step 5, yy_step 4, yy_step 3, yy_step 2, yy_step 1, yy_step 0, yy_zero] at hy
  have h := pop_fold _ _ _ _ _ _ _ _ _ _ _ (cnt8_le _) (cnt8_le _) (cnt8_le _) (cnt8_le _) (cnt8_le _) (cnt8_le _) (cnt8_le _) (cnt8_le _) (hy.trans (by rw [Nat.mul_zero, Nat.zero_add])) rfl rfl
  refine ⟨h.1.trans ?_, h.2⟩
  simp only [popB, Nat.add_zero]
/-- The bits, one by one. -/
def popK (x : Nat) : Nat → Nat
  | 0 => 0
  | k + 1 => popK x k + (if x.testBit k then 1 else 0)
theorem bit_mod (x k : Nat) : (if x.testBit k = true then 1 else 0) = x / 2 ^ k % 2 := by
  rw [Nat.testBit_eq_decide_div_mod_eq]
  by_cases h : x / 2 ^ k % 2 = 1
  · simp [h]
  · have : x / 2 ^ k % 2 = 0 := by omega
    simp [this]
theorem popK_byte (x : Nat) : popK x 8 = cnt8 (x % 256) := by
  simp only [popK, bit_mod, cnt8, Nat.reducePow]
  omega
theorem popK_shift (x k j : Nat) : popK x (k + j) = popK x k + popK (x / 2 ^ k) j := by
  induction j with
  | zero => rfl
  | succ j ih =>
    rw [← Nat.add_assoc, popK, ih, popK, Nat.add_assoc]
    congr 2
    rw [bit_mod, bit_mod, Nat.div_div_eq_div_mul, ← Nat.pow_add]
theorem popB_popK (m x : Nat) : popB m x = popK x (8 * m) := by
  induction m generalizing x with
  | zero => rfl
  | succ m ih =>
    rw [popB, ih, show 8 * (m + 1) = 8 + 8 * m by omega, popK_shift, popK_byte]
theorem popK_le (x k : Nat) : popK x k ≤ k := by
  induction k with
  | zero => simp [popK]
  | succ k ih => rw [popK]; split <;> omega
theorem popB_le (x : Nat) : popB 8 x ≤ 64 := by rw [popB_popK]; exact popK_le x 64
end Go.Proofs.Ytapanifgnpklpaa
