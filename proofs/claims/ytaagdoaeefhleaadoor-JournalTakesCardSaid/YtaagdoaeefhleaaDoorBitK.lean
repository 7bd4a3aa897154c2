/-
  Plain facts of a set's bytes.
-/
import Derived.Test.YtaagdoaeefhleaaDoorP10
import Derived.Test.YtaagdoaeefhleaaDoorPutW
namespace Go.Proofs.YtaagdoaeefhleaaDoor
open Go.RowKit

theorem num_bit (l : List UInt8) (r : Nat) (h : r < 8 * l.length) : (num l).testBit r = (l.getD (l.length - 1 - r / 8) 0).toNat.testBit (r % 8) := by
  suffices H : ∀ n (l : List UInt8), l.length = n → ∀ r, r < 8 * n → (num l).testBit r = (l.getD (n - 1 - r / 8) 0).toNat.testBit (r % 8) from H _ l rfl r h
  intro n
  induction n with
  | zero => intro l _ r hr; omega
  | succ n ih =>
    intro l hl r hr
    have hne : l ≠ [] := by intro e; rw [e] at hl; cases hl
    obtain ⟨m, b, rfl⟩ : ∃ m b, l = m ++ [b] := ⟨l.dropLast, l.getLast hne, (List.dropLast_concat_getLast hne).symm⟩
    have hm : m.length = n := by simpa using hl
    have hb := UInt8.toNat_lt b
    rw [num_snoc, Nat.mul_comm, show (256 : Nat) = 2 ^ 8 from rfl, Nat.testBit_two_pow_mul_add _ hb]
    by_cases h8 : r < 8
    · rw [if_pos h8, show r / 8 = 0 by omega, show r % 8 = r by omega]
      simp [List.getD_eq_getElem?_getD, hm]
    · rw [if_neg h8, ih m hm (r - 8) (by omega), show (r - 8) % 8 = r % 8 by omega, show n - 1 - (r - 8) / 8 = n + 1 - 1 - r / 8 by omega]
      simp only [List.getD_eq_getElem?_getD]
      rw [List.getElem?_append_left (by omega)]

/-- Bit i of a set's bytes. -/
def bitAt (s : List UInt8) (i : Nat) : Bool := (s.getD (8 * (i / 64) + 7 - i % 64 / 8) 0).toNat.testBit (i % 8)
def bitsT (s : List UInt8) : List Bool := (List.range 256).map (bitAt s)
def numW (s : List UInt8) (j : Nat) : Nat := num ((s.drop (8 * j)).take 8)
theorem bitsT_length (s : List UInt8) : (bitsT s).length = 256 := by simp [bitsT]
theorem bitsT_getD (s : List UInt8) (i : Nat) (h : i < 256) : (bitsT s).getD i false = bitAt s i := by
  rw [List.getD_eq_getElem?_getD, List.getElem?_eq_getElem (by rw [bitsT_length]; exact h)]
  simp [bitsT]
theorem chunk_length (s : List UInt8) (j : Nat) (hs : s.length = 32) (hj : j < 4) : ((s.drop (8 * j)).take 8).length = 8 := by
  rw [List.length_take, List.length_drop]; omega
theorem numW_lt (s : List UInt8) (j : Nat) (hs : s.length = 32) (hj : j < 4) : numW s j < 18446744073709551616 := by
  have := num_lt ((s.drop (8 * j)).take 8)
  rw [chunk_length s j hs hj] at this
  exact this
theorem wdN_bits (s : List UInt8) (j : Nat) (hs : s.length = 32) (hj : j < 4) : wdN (bitsT s) j = numW s j := by
  refine wdN_ext (wdN_lt _ _) (numW_lt s j hs hj) fun r hr => ?_
  have hl := chunk_length s j hs hj
  rw [wdN_bit _ _ _ hr, bitsT_getD _ _ (by omega), numW, num_bit _ _ (by rw [hl]; omega), hl, bitAt,
    show (64 * j + r) / 64 = j by omega, show (64 * j + r) % 64 / 8 = r / 8 by omega, show (64 * j + r) % 8 = r % 8 by omega]
  congr 2
  simp only [List.getD_eq_getElem?_getD, List.getElem?_take, List.getElem?_drop]
  rw [if_pos (by omega), show 8 * j + (8 - 1 - r / 8) = 8 * j + 7 - r / 8 by omega]
theorem putW4 (L : List Bool) : putW L 4 = be (wdN L 0 : Nat) 8 ++ be (wdN L 1 : Nat) 8 ++ be (wdN L 2 : Nat) 8 ++ be (wdN L 3 : Nat) 8 := by
  rw [putW_succ, putW_succ, putW_succ, putW_succ]; rfl
theorem be8_num (x : Nat) (h : x < 18446744073709551616) : num (be (x : Int) 8) = x := by
  have := num_be (x : Int) 8
  rw [show (256 : Int) ^ 8 = 18446744073709551616 from by decide] at this
  omega
theorem four (s : List UInt8) (hs : s.length = 32) : s = (s.drop (8 * 0)).take 8 ++ (s.drop (8 * 1)).take 8 ++ (s.drop (8 * 2)).take 8 ++ (s.drop (8 * 3)).take 8 := by
  have h : ∀ k, k ≤ 24 → s.drop k = (s.drop k).take 8 ++ s.drop (k + 8) := by
    intro k _
    rw [← List.drop_drop, List.take_append_drop]
  have h0 := h 0 (by omega)
  have h1 := h 8 (by omega)
  have h2 := h 16 (by omega)
  have h3 := h 24 (by omega)
  have h4 : s.drop 32 = [] := List.drop_eq_nil_of_le (by omega)
  simp only [Nat.zero_add, Nat.reduceAdd, List.drop_zero] at h0 h1 h2 h3
  rw [h4, List.append_nil] at h3
  simp only [Nat.mul_zero, Nat.mul_one, Nat.reduceMul, List.drop_zero]
  rw [List.append_assoc, List.append_assoc, ← h3, ← h2, ← h1, ← h0]
theorem put_back (M : List Bool) (s : List UInt8) (hs : s.length = 32) (h : ∀ j, j < 4 → wdN M j = numW s j) : putW M 4 = s := by
  have hc : ∀ j, j < 4 → be (wdN M j : Nat) 8 = (s.drop (8 * j)).take 8 := by
    intro j hj
    have hl := chunk_length s j hs hj
    have := be_num ((s.drop (8 * j)).take 8)
    rw [hl] at this
    rw [h j hj]
    exact this
  rw [putW4, hc 0 (by omega), hc 1 (by omega), hc 2 (by omega), hc 3 (by omega)]
  exact (four s hs).symm
theorem numW_put (L : List Bool) (j : Nat) (hj : j < 4) : numW (putW L 4) j = wdN L j := by
  have hl : ∀ q, (be (wdN L q : Nat) 8).length = 8 := fun q => be_length _ _
  unfold numW
  rw [putW4]
  have hj4 : j = 0 ∨ j = 1 ∨ j = 2 ∨ j = 3 := by omega
  have e : ∀ (a b : List UInt8), a.length = 8 → (a ++ b).drop 8 = b := fun a b ha => by rw [← ha]; simp
  rcases hj4 with rfl | rfl | rfl | rfl
  · refine (congrArg num ?_).trans (be8_num (wdN L 0) (wdN_lt _ _))
    simp only [Nat.mul_zero, List.drop_zero, List.append_assoc]
    rw [List.take_append_of_le_length (by rw [hl]; omega), List.take_of_length_le (by rw [be_length]; omega)]
  · refine (congrArg num ?_).trans (be8_num (wdN L 1) (wdN_lt _ _))
    simp only [Nat.mul_one, List.append_assoc]
    rw [e _ _ (hl 0), List.take_append_of_le_length (by rw [hl]; omega), List.take_of_length_le (by rw [be_length]; omega)]
  · refine (congrArg num ?_).trans (be8_num (wdN L 2) (wdN_lt _ _))
    simp only [show 8 * 2 = 8 + 8 from rfl, ← List.drop_drop, List.append_assoc]
    rw [e _ _ (hl 0), e _ _ (hl 1), List.take_append_of_le_length (by rw [hl]; omega), List.take_of_length_le (by rw [be_length]; omega)]
  · refine (congrArg num ?_).trans (be8_num (wdN L 3) (wdN_lt _ _))
    simp only [show 8 * 3 = 8 + 8 + 8 from rfl, ← List.drop_drop, List.append_assoc]
    rw [e _ _ (hl 0), e _ _ (hl 1), e _ _ (hl 2), List.take_of_length_le (by rw [be_length]; omega)]

/-- All numbers below n. -/
def fullB (n : Nat) : List Bool := List.replicate n true
theorem fullB_getD (n i : Nat) : (fullB n).getD i false = decide (i < n) := by
  unfold fullB
  rw [List.getD_eq_getElem?_getD, List.getElem?_replicate]
  by_cases h : i < n
  · simp [h]
  · simp [h]
theorem take_getD (T : List Bool) (n i : Nat) : (T.take n).getD i false = (decide (i < n) && T.getD i false) := by
  simp only [List.getD_eq_getElem?_getD, List.getElem?_take]
  by_cases h : i < n
  · simp [h]
  · simp [h]
theorem full_ok (T : List Bool) (n : Nat) (h : wiR T (fullB n) 0 = true) (i : Nat) (hi : T.getD i false = true) : i < n := by
  have := (wiR_iff T (fullB n) 0).1 h i (by omega) hi
  rw [fullB_getD] at this
  exact of_decide_eq_true this
theorem wdN_take (T : List Bool) (n j : Nat) (h : wiR T (fullB n) 0 = true) : wdN (T.take n) j = wdN T j := by
  refine wdN_ext (wdN_lt _ _) (wdN_lt _ _) fun r hr => ?_
  rw [wdN_bit _ _ _ hr, wdN_bit _ _ _ hr, take_getD]
  cases hv : T.getD (64 * j + r) false with
  | false => simp
  | true => simp [full_ok T n h _ hv]
/-- What is put is taken. -/
theorem bits_put (L : List Bool) (hL : L.length ≤ 256) (i : Nat) : (bitsT (putW L 4)).getD i false = L.getD i false := by
  refine words_ext _ _ (by rw [bitsT_length]; omega) hL (fun q hq => ?_) i
  rw [wdN_bits _ _ (by rw [putW_length]) hq, numW_put L q hq]
theorem put_ok (L : List Bool) (hL : L.length ≤ 256) : wiR (bitsT (putW L 4)) (fullB L.length) 0 = true := by
  rw [wiR_iff]
  intro i _ h
  rw [bits_put L hL] at h
  rw [fullB_getD, decide_eq_true_eq]
  exact getD_in h
theorem put_take (L : List Bool) (hL : L.length ≤ 256) : (bitsT (putW L 4)).take L.length = L := by
  refine ext_getD _ _ (by rw [List.length_take, bitsT_length]; omega) fun i => ?_
  rw [take_getD, bits_put L hL]
  cases h : L.getD i false with
  | false => simp
  | true => simp [getD_in h]
/-- What is taken is put. -/
theorem take_put (s : List UInt8) (n : Nat) (hs : s.length = 32) (h : wiR (bitsT s) (fullB n) 0 = true) : putW ((bitsT s).take n) 4 = s :=
  put_back _ s hs fun j hj => by rw [wdN_take _ _ _ h, wdN_bits s j hs hj]
end Go.Proofs.YtaagdoaeefhleaaDoor
