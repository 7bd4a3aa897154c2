/-
  Plain facts of two sets: within one another, together, the same. The walks of Within and Or, the set's and the reference's.
-/
import Derived.Test.YtfkbcmmhpopdnaaSetB
import Derived.Laws.StructEq
namespace Go.Proofs.Ytfkbcmmhpopdnaa
open Go.RowKit

/-- Are all the places of the first list, from k on, in the second one? -/
def wiR (L M : List Bool) (k : Nat) : Bool := if h : k < L.length then (if L.getD k false = true ∧ M.getD k false = false then false else wiR L M (k + 1)) else true
termination_by L.length - k
theorem wiR_end (L M : List Bool) (k : Nat) (h : L.length ≤ k) : wiR L M k = true := by unfold wiR; rw [dif_neg (by omega)]
theorem wiR_bad (L M : List Bool) (k : Nat) (h : k < L.length) (h1 : L.getD k false = true) (h2 : M.getD k false = false) : wiR L M k = false := by unfold wiR; rw [dif_pos h, if_pos ⟨h1, h2⟩]
theorem wiR_no (L M : List Bool) (k : Nat) (h : k < L.length) (h1 : L.getD k false = false) : wiR L M k = wiR L M (k + 1) := by
  rw [wiR, dif_pos h, if_neg]; rintro ⟨h2, _⟩; rw [h1] at h2; cases h2
theorem wiR_yes (L M : List Bool) (k : Nat) (h : k < L.length) (h2 : M.getD k false = true) : wiR L M k = wiR L M (k + 1) := by
  rw [wiR, dif_pos h, if_neg]; rintro ⟨_, h3⟩; rw [h2] at h3; cases h3
theorem getD_out (L : List Bool) (k : Nat) (h : L.length ≤ k) : L.getD k false = false := by rw [List.getD_eq_getElem?_getD, List.getElem?_eq_none h]; rfl
theorem getD_in {L : List Bool} {k : Nat} (h : L.getD k false = true) : k < L.length := by
  rcases Nat.lt_or_ge k L.length with h1 | h1
  · exact h1
  · rw [getD_out L k h1] at h; cases h
theorem wiR_iff (L M : List Bool) (k : Nat) : wiR L M k = true ↔ ∀ i, k ≤ i → L.getD i false = true → M.getD i false = true := by
  suffices h : ∀ d k, L.length - k = d → (wiR L M k = true ↔ ∀ i, k ≤ i → L.getD i false = true → M.getD i false = true) from h _ k rfl
  intro d
  induction d with
  | zero =>
    intro k hk
    rw [wiR_end L M k (by omega)]
    refine ⟨fun _ i hi h => ?_, fun _ => rfl⟩
    have := getD_in h
    omega
  | succ d ih =>
    intro k hk
    have hlt : k < L.length := by omega
    have step : ∀ b : Bool, M.getD k false = b → (L.getD k false = true → b = true) → ((wiR L M (k + 1) = true) ↔ ∀ i, k ≤ i → L.getD i false = true → M.getD i false = true) := by
      intro b hb himp
      rw [ih (k + 1) (by omega)]
      refine ⟨fun h i hi hL => ?_, fun h i hi hL => h i (by omega) hL⟩
      rcases Nat.eq_or_lt_of_le hi with rfl | h2
      · rw [hb]; exact himp hL
      · exact h i h2 hL
    cases h1 : L.getD k false with
    | false => rw [wiR_no L M k hlt h1]; exact step _ rfl (by rw [h1]; intro h; cases h)
    | true =>
      cases h2 : M.getD k false with
      | true => rw [wiR_yes L M k hlt h2]; exact step _ h2 (fun _ => rfl)
      | false =>
        rw [wiR_bad L M k hlt h1 h2]
        refine ⟨fun h => (by cases h), fun h => ?_⟩
        have := h k (Nat.le_refl _) h1
        rw [h2] at this
        cases this

/-- 'w &^ t.w[i]'. -/
def zW (L M : List Bool) (q : Nat) : Int := bits .andNot .u64 (wdN L q : Nat) (wdN M q : Nat)
theorem not_bit (x r : Nat) (hx : x < 18446744073709551616) (hr : r < 64) : (18446744073709551615 - x).testBit r = !x.testBit r := by
  have := Nat.testBit_two_pow_sub_succ (x := x) (n := 64) hx r
  rw [show 2 ^ 64 - (x + 1) = 18446744073709551615 - x from by omega] at this
  rw [this]; simp [hr]
theorem zW_iff (L M : List Bool) (q : Nat) : zW L M q = 0 ↔ ∀ r, r < 64 → L.getD (64 * q + r) false = true → M.getD (64 * q + r) false = true := by
  unfold zW
  rw [u64_andNot_nat _ _ (wdN_lt _ _) (wdN_lt _ _)]
  constructor
  · intro h r hr hL
    have h0 : wdN L q &&& (18446744073709551615 - wdN M q) = 0 := by exact_mod_cast h
    have h1 := congrArg (fun x => Nat.testBit x r) h0
    simp only [Nat.testBit_and, wdN_bit L q r hr, not_bit _ _ (wdN_lt M q) hr, wdN_bit M q r hr, hL, Nat.zero_testBit, Bool.true_and] at h1
    simpa using h1
  · intro h
    have h0 : wdN L q &&& (18446744073709551615 - wdN M q) = 0 := by
      refine wdN_ext (Nat.lt_of_le_of_lt Nat.and_le_left (wdN_lt _ _)) (by omega) fun r hr => ?_
      rw [Nat.testBit_and, wdN_bit L q r hr, not_bit _ _ (wdN_lt M q) hr, wdN_bit M q r hr, Nat.zero_testBit]
      cases hL : L.getD (64 * q + r) false with
      | false => rfl
      | true => rw [h r hr hL]; rfl
    rw [h0]; rfl
theorem wi_true (L M : List Bool) (hL : L.length ≤ 256) (h : ∀ q, q < 4 → zW L M q = 0) : wiR L M 0 = true := by
  rw [wiR_iff]
  intro i _ hi
  have h256 := getD_in hi
  have := (zW_iff L M (i / 64)).1 (h _ (by omega)) (i % 64) (by omega)
  rw [show 64 * (i / 64) + i % 64 = i from by omega] at this
  exact this hi
theorem wi_false (L M : List Bool) (q : Nat) (h : zW L M q ≠ 0) : wiR L M 0 = false := by
  cases hw : wiR L M 0 with
  | false => rfl
  | true => exact absurd ((zW_iff L M q).2 fun r _ hr => (wiR_iff L M 0).1 hw _ (by omega) hr) h
/-- The program's test of two sets. -/
def setEq (L M : List Bool) : Bool := decide (L.length = M.length) && (decide (wdN L 0 = wdN M 0) && decide (wdN L 1 = wdN M 1) && decide (wdN L 2 = wdN M 2) && decide (wdN L 3 = wdN M 3))
theorem words_ext (L M : List Bool) (hL : L.length ≤ 256) (hM : M.length ≤ 256) (h : ∀ q, q < 4 → wdN L q = wdN M q) (i : Nat) : L.getD i false = M.getD i false := by
  rcases Nat.lt_or_ge i 256 with h1 | h1
  · have := congrArg (fun x => Nat.testBit x (i % 64)) (h (i / 64) (by omega))
    simp only [wdN_bit _ _ _ (show i % 64 < 64 by omega), show 64 * (i / 64) + i % 64 = i from by omega] at this
    exact this
  · rw [getD_out L i (by omega), getD_out M i (by omega)]
theorem ext_getD (L M : List Bool) (h : L.length = M.length) (h2 : ∀ i, L.getD i false = M.getD i false) : L = M := by
  refine List.ext_getElem h fun i h3 h4 => ?_
  have := h2 i
  simpa [List.getD_eq_getElem?_getD, List.getElem?_eq_getElem h3, List.getElem?_eq_getElem h4] using this
theorem setEq_iff (L M : List Bool) (hL : L.length ≤ 256) (hM : M.length ≤ 256) : setEq L M = true ↔ L = M := by
  constructor
  · intro h
    unfold setEq at h
    simp only [Bool.and_eq_true, decide_eq_true_eq] at h
    obtain ⟨h0, ⟨⟨h1, h2⟩, h3⟩, h4⟩ := h
    refine ext_getD L M h0 (words_ext L M hL hM fun q hq => ?_)
    have : q = 0 ∨ q = 1 ∨ q = 2 ∨ q = 3 := by omega
    rcases this with rfl | rfl | rfl | rfl <;> assumption
  · rintro rfl; simp [setEq]

/-- Both together. -/
def orB (L M : List Bool) : List Bool := (List.range (max L.length M.length)).map fun i => L.getD i false || M.getD i false
theorem orB_length (L M : List Bool) : (orB L M).length = max L.length M.length := by simp [orB]
theorem orB_getD (L M : List Bool) (i : Nat) : (orB L M).getD i false = (L.getD i false || M.getD i false) := by
  rcases Nat.lt_or_ge i (max L.length M.length) with h | h
  · rw [List.getD_eq_getElem?_getD, List.getElem?_eq_getElem (by rw [orB_length]; exact h)]
    simp [orB]
  · rw [getD_out (orB L M) i (by rw [orB_length]; exact h), getD_out L i (by omega), getD_out M i (by omega)]; rfl
theorem wdN_or (L M : List Bool) (q : Nat) : bits .or .u64 (wdN L q : Nat) (wdN M q : Nat) = (wdN (orB L M) q : Nat) := by
  rw [bits_or_u64_nat _ _ (wdN_lt _ _) (wdN_lt _ _)]
  congr 1
  refine wdN_ext (Nat.or_lt_two_pow (n := 64) (wdN_lt _ _) (wdN_lt _ _)) (wdN_lt _ _) fun r hr => ?_
  rw [Nat.testBit_or, wdN_bit _ _ _ hr, wdN_bit _ _ _ hr, wdN_bit _ _ _ hr, orB_getD]
theorem within_or_left (L M : List Bool) : wiR L (orB L M) 0 = true := by
  rw [wiR_iff]; intro i _ h; rw [orB_getD, h]; rfl
theorem within_or_right (L M : List Bool) : wiR M (orB L M) 0 = true := by
  rw [wiR_iff]; intro i _ h; rw [orB_getD, h]; cases L.getD i false <;> rfl
theorem orB_succ (L M : List Bool) (k : Nat) : (List.range (k + 1)).map (fun i => L.getD i false || M.getD i false) = (List.range k).map (fun i => L.getD i false || M.getD i false) ++ [L.getD k false || M.getD k false] := by
  rw [List.range_succ, List.map_append]; rfl
end Go.Proofs.Ytfkbcmmhpopdnaa
