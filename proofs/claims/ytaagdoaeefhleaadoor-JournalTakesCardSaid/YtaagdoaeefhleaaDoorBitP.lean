/-
  Plain facts of chapter 22: a set of some first numbers as a list of yes and no, and as four words. No program in sight.
-/
import Derived.Test.YtaagdoaeefhleaaDoorP1
import Derived.Laws.BitsAllLaws
namespace Go.Proofs.YtaagdoaeefhleaaDoor
open Go.RowKit

/-- The number whose lowest k bits are f. -/
def word (f : Nat → Bool) : Nat → Nat
  | 0 => 0
  | k + 1 => word f k ||| (if f k then 2 ^ k else 0)
theorem word_lt (f : Nat → Bool) (k : Nat) : word f k < 2 ^ k := by
  induction k with
  | zero => simp [word]
  | succ k ih =>
    refine Nat.or_lt_two_pow (Nat.lt_of_lt_of_le ih (Nat.pow_le_pow_right (by omega) (by omega))) ?_
    split
    · exact Nat.pow_lt_pow_right (by omega) (by omega)
    · exact Nat.pow_pos (by omega)
theorem word_bit (f : Nat → Bool) (k i : Nat) : (word f k).testBit i = (decide (i < k) && f i) := by
  induction k with
  | zero => simp [word]
  | succ k ih =>
    rw [word, Nat.testBit_or, ih]
    by_cases h : i = k
    · subst h
      by_cases hf : f i = true
      · simp [hf]
      · simp [hf]
    · have h1 : (if f k = true then 2 ^ k else 0).testBit i = false := by
        split
        · rw [Nat.testBit_two_pow]; simp; omega
        · simp
      rw [h1, Bool.or_false]
      congr 1
      simp only [decide_eq_decide]
      omega
theorem word_congr {f g : Nat → Bool} {k : Nat} (h : ∀ i, i < k → f i = g i) : word f k = word g k := by
  apply Nat.eq_of_testBit_eq
  intro i
  rw [word_bit, word_bit]
  by_cases hi : i < k
  · simp [h i hi]
  · simp [hi]

/-- Word j of a list of yes and no. -/
def wdN (L : List Bool) (j : Nat) : Nat := word (fun i => L.getD (64 * j + i) false) 64
theorem wdN_lt (L : List Bool) (j : Nat) : wdN L j < 18446744073709551616 := word_lt _ 64
theorem wdN_bit (L : List Bool) (j i : Nat) (hi : i < 64) : (wdN L j).testBit i = L.getD (64 * j + i) false := by
  unfold wdN
  rw [word_bit]
  simp [hi]
theorem wdN_ext {a b : Nat} (ha : a < 18446744073709551616) (hb : b < 18446744073709551616) (h : ∀ i, i < 64 → a.testBit i = b.testBit i) : a = b := by
  apply Nat.eq_of_testBit_eq
  intro i
  by_cases hi : i < 64
  · exact h i hi
  · have hp : (2 : Nat) ^ 64 ≤ 2 ^ i := Nat.pow_le_pow_right (by omega) (by omega)
    rw [Nat.testBit_lt_two_pow (Nat.lt_of_lt_of_le ha hp), Nat.testBit_lt_two_pow (Nat.lt_of_lt_of_le hb hp)]

/-- The five cells of a set. -/
def setCells (L : List Bool) : Array Value := #[.int .i64 (L.length : Nat), .int .u64 (wdN L 0 : Nat), .int .u64 (wdN L 1 : Nat), .int .u64 (wdN L 2 : Nat), .int .u64 (wdN L 3 : Nat)]
theorem setList_word (L : List Bool) (q : Nat) (h : q < 4) :
    [Value.int .i64 (L.length : Nat), .int .u64 (wdN L 0 : Nat), .int .u64 (wdN L 1 : Nat), .int .u64 (wdN L 2 : Nat), .int .u64 (wdN L 3 : Nat)][1 + q]? = some (.int .u64 (wdN L q : Nat)) := by
  have : q = 0 ∨ q = 1 ∨ q = 2 ∨ q = 3 := by omega
  rcases this with rfl | rfl | rfl | rfl <;> rfl
theorem setCells_word (L : List Bool) (q : Nat) (h : q < 4) : (setCells L)[1 + q]? = some (.int .u64 (wdN L q : Nat)) := by
  have : q = 0 ∨ q = 1 ∨ q = 2 ∨ q = 3 := by omega
  rcases this with rfl | rfl | rfl | rfl <;> rfl

/-- The list with a place set (or as it is). -/
def setB (L : List Bool) (i : Int) (v : Bool) : List Bool := if 0 ≤ i then L.set i.toNat v else L
def hasB (L : List Bool) (i : Int) : Bool := decide (0 ≤ i) && L.getD i.toNat false
theorem setB_length (L : List Bool) (i : Int) (v : Bool) : (setB L i v).length = L.length := by unfold setB; split <;> simp
theorem getD_set (L : List Bool) (i j : Nat) (v : Bool) (h : i < L.length) : (L.set i v).getD j false = if i = j then v else L.getD j false := by
  simp only [List.getD_eq_getElem?_getD, List.getElem?_set]
  by_cases hij : i = j
  · subst hij; simp [h]
  · simp [hij]

theorem wdN_set (L : List Bool) (i q : Nat) (v : Bool) (h : i < L.length) (hq : q ≠ i / 64) : wdN (L.set i v) q = wdN L q := by
  unfold wdN
  refine word_congr fun r hr => ?_
  rw [getD_set _ _ _ _ h, if_neg (by omega)]
theorem setCells_set (L : List Bool) (i : Nat) (v : Bool) (h : i < L.length) (h4 : i < 256) : (setCells L).setIfInBounds (1 + i / 64) (.int .u64 (wdN (L.set i v) (i / 64) : Nat)) = setCells (L.set i v) := by
  have hq : i / 64 = 0 ∨ i / 64 = 1 ∨ i / 64 = 2 ∨ i / 64 = 3 := by omega
  unfold setCells
  rcases hq with e | e | e | e
  · rw [e, wdN_set L i 1 v h (by omega), wdN_set L i 2 v h (by omega), wdN_set L i 3 v h (by omega)]; simp
  · rw [e, wdN_set L i 0 v h (by omega), wdN_set L i 2 v h (by omega), wdN_set L i 3 v h (by omega)]; simp
  · rw [e, wdN_set L i 0 v h (by omega), wdN_set L i 1 v h (by omega), wdN_set L i 3 v h (by omega)]; simp
  · rw [e, wdN_set L i 0 v h (by omega), wdN_set L i 1 v h (by omega), wdN_set L i 2 v h (by omega)]; simp
/-- 'w |= 1 << (i % 64)'. -/
theorem wdN_with (L : List Bool) (i : Nat) (h : i < L.length) : bits .or .u64 (wdN L (i / 64) : Nat) ((2 ^ (i % 64) : Nat) : Int) = (wdN (L.set i true) (i / 64) : Nat) := by
  have hp : (2 : Nat) ^ (i % 64) < 2 ^ 64 := Nat.pow_lt_pow_right (by omega) (by omega)
  rw [bits_or_u64_nat _ _ (wdN_lt _ _) hp]
  congr 1
  refine wdN_ext (Nat.or_lt_two_pow (n := 64) (wdN_lt _ _) hp) (wdN_lt _ _) fun r hr => ?_
  rw [Nat.testBit_or, wdN_bit _ _ _ hr, wdN_bit _ _ _ hr, Nat.testBit_two_pow, getD_set _ _ _ _ h]
  by_cases hir : i % 64 = r
  · rw [if_pos (by omega)]; simp [hir]
  · rw [if_neg (by omega)]; simp [hir]
/-- 'w &^= 1 << (i % 64)'. -/
theorem wdN_without (L : List Bool) (i : Nat) (h : i < L.length) : bits .andNot .u64 (wdN L (i / 64) : Nat) ((2 ^ (i % 64) : Nat) : Int) = (wdN (L.set i false) (i / 64) : Nat) := by
  have hp : (2 : Nat) ^ (i % 64) < 2 ^ 64 := Nat.pow_lt_pow_right (by omega) (by omega)
  rw [u64_andNot_nat _ _ (wdN_lt _ _) hp]
  congr 1
  refine wdN_ext (Nat.lt_of_le_of_lt Nat.and_le_left (wdN_lt _ _)) (wdN_lt _ _) fun r hr => ?_
  rw [Nat.testBit_and, wdN_bit _ _ _ hr, wdN_bit _ _ _ hr, getD_set _ _ _ _ h]
  have e : (18446744073709551615 - 2 ^ (i % 64)).testBit r = !(2 ^ (i % 64)).testBit r := by
    have := Nat.testBit_two_pow_sub_succ (x := 2 ^ (i % 64)) (n := 64) hp r
    rw [show 2 ^ 64 - (2 ^ (i % 64) + 1) = 18446744073709551615 - 2 ^ (i % 64) from by omega] at this
    rw [this]; simp [hr]
  rw [e, Nat.testBit_two_pow]
  by_cases hir : i % 64 = r
  · rw [if_pos (by omega)]; simp [hir]
  · rw [if_neg (by omega)]; simp [hir]
/-- 'w >> (i % 64) & 1'. -/
theorem wdN_has (L : List Bool) (i : Nat) : bits .and .u64 (((wdN L (i / 64) : Nat) : Int) / ((2 ^ (i % 64) : Nat) : Int)) 1 = if L.getD i false then 1 else 0 := by
  have h1 : (((wdN L (i / 64) : Nat) : Int) / ((2 ^ (i % 64) : Nat) : Int)) = ((wdN L (i / 64) / 2 ^ (i % 64) : Nat) : Int) := by simp
  have hlt : wdN L (i / 64) / 2 ^ (i % 64) < 18446744073709551616 := Nat.lt_of_le_of_lt (Nat.div_le_self _ _) (wdN_lt _ _)
  have e := bits_and_u64_nat (wdN L (i / 64) / 2 ^ (i % 64)) 1 hlt (by omega)
  rw [h1]
  refine (show bits .and .u64 ((wdN L (i / 64) / 2 ^ (i % 64) : Nat) : Int) 1 = _ from e).trans ?_
  rw [Nat.and_one_is_mod]
  have hb := wdN_bit L (i / 64) (i % 64) (by omega)
  rw [show 64 * (i / 64) + i % 64 = i from by omega, Nat.testBit_eq_decide_div_mod_eq] at hb
  by_cases h : L.getD i false = true
  · rw [if_pos h]; rw [h] at hb; have := of_decide_eq_true hb; omega
  · rw [if_neg h]
    have h' : L.getD i false = false := by simpa using h
    rw [h'] at hb
    have := of_decide_eq_false hb
    omega
theorem wrap_pow (k : Nat) : IntKind.u64.wrap (2 ^ (k % 64)) = ((2 ^ (k % 64) : Nat) : Int) := by
  have hp : (2 : Nat) ^ (k % 64) < 2 ^ 64 := Nat.pow_lt_pow_right (by omega) (by omega)
  rw [IntKind.wrap_u64]
  have e : ((2 ^ (k % 64) : Nat) : Int) = (2 : Int) ^ (k % 64) := by simp
  rw [← e]
  generalize 2 ^ (k % 64) = x at *
  simp only [Nat.reducePow] at hp
  omega
theorem list_set (L M : List Bool) (k : Nat) (x : Int) (v : Bool) (h : k < L.length) (h4 : k < 256) (hM : M = L.set k v) (hx : x = (wdN M (k / 64) : Nat)) :
    ([Value.int .i64 (L.length : Nat), .int .u64 (wdN L 0 : Nat), .int .u64 (wdN L 1 : Nat), .int .u64 (wdN L 2 : Nat), .int .u64 (wdN L 3 : Nat)].set (1 + k / 64) (.int .u64 x)).toArray =
      #[Value.int .i64 (M.length : Nat), .int .u64 (wdN M 0 : Nat), .int .u64 (wdN M 1 : Nat), .int .u64 (wdN M 2 : Nat), .int .u64 (wdN M 3 : Nat)] := by
  subst hx
  subst hM
  have := setCells_set L k v h h4
  unfold setCells at this
  rw [← this]
  simp
theorem has_test (L : List Bool) (k : Nat) : (bits .and .u64 ((wdN L (k / 64) : Nat) / 2 ^ (k % 64)) 1 == 1) = hasB L k := by
  have h := wdN_has L k
  have e : ((2 ^ (k % 64) : Nat) : Int) = (2 : Int) ^ (k % 64) := by simp
  rw [e] at h
  rw [h]
  unfold hasB
  have hk : ((k : Int)).toNat = k := by omega
  rw [hk]
  cases L.getD k false <;> simp <;> omega
theorem with_word (L : List Bool) (k : Nat) (h : k < L.length) : bits .or .u64 (wdN L (k / 64) : Nat) (IntKind.u64.wrap (2 ^ (k % 64))) = (wdN (L.set k true) (k / 64) : Nat) := by
  rw [wrap_pow]; exact wdN_with L k h
theorem without_word (L : List Bool) (k : Nat) (h : k < L.length) : bits .andNot .u64 (wdN L (k / 64) : Nat) (IntKind.u64.wrap (2 ^ (k % 64))) = (wdN (L.set k false) (k / 64) : Nat) := by
  rw [wrap_pow]; exact wdN_without L k h
end Go.Proofs.YtaagdoaeefhleaaDoor
