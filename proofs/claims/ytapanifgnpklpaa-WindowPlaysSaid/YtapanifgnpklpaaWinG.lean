/-
  Windows, the plain law: sets that are a range; what Take and Ack do to them.
-/
import Derived.Test.YtapanifgnpklpaaWinE
namespace Go.Proofs.Ytapanifgnpklpaa
open Go.RowKit

/-- The places from a on, below b, of N. -/
def rng (N a b : Nat) : List Bool := (List.range N).map fun i => decide (a ≤ i ∧ i < b)
theorem rng_length (N a b : Nat) : (rng N a b).length = N := by simp [rng]
theorem rng_getD (N a b i : Nat) : (rng N a b).getD i false = decide (a ≤ i ∧ i < b ∧ i < N) := by
  unfold rng
  rw [List.getD_eq_getElem?_getD, List.getElem?_map]
  by_cases h : i < N
  · rw [List.getElem?_range h]
    simp [h]
  · rw [List.getElem?_eq_none (by simpa using h)]
    simp [h]
theorem rng_empty (N a : Nat) : rng N a a = List.replicate N false := by
  refine ext_getD _ _ (by rw [rng_length, List.length_replicate]) fun i => ?_
  rw [rng_getD, decide_eq_false (by omega), List.getD_eq_getElem?_getD, List.getElem?_replicate]
  split <;> rfl
theorem setB_nat (L : List Bool) (k : Nat) (v : Bool) : setB L (k : Int) v = L.set k v := by unfold setB; rw [if_pos (by omega)]; rfl
theorem rng_put (N a k : Nat) (h1 : a ≤ k) (h2 : k < N) : setB (rng N a k) (k : Int) true = rng N a (k + 1) := by
  refine ext_getD _ _ (by rw [setB_length, rng_length, rng_length]) fun i => ?_
  rw [setB_nat, getD_set _ _ _ _ (by rw [rng_length]; exact h2), rng_getD, rng_getD]
  by_cases h : k = i
  · subst h
    rw [if_pos rfl, decide_eq_true (by omega)]
  · rw [if_neg h]
    congr 1
    exact propext (by omega)
theorem cntP_rng (N a b j : Nat) (h1 : a ≤ b) (h2 : b ≤ N) : cntP (rng N a b) j = min j b - min j a := by
  induction j with
  | zero => simp [cntP]
  | succ j ih =>
    show cntP (rng N a b) j + (if (rng N a b).getD j false then 1 else 0) = _
    rw [ih, rng_getD]
    by_cases h : a ≤ j ∧ j < b ∧ j < N
    · rw [decide_eq_true h]; simp; omega
    · rw [decide_eq_false h]; simp; omega
/-- The numbers from a on, below b. -/
def nums (a b : Nat) : List Int := (List.range (b - a)).map fun i => ((a + i : Nat) : Int)
theorem nums_length (a b : Nat) : (nums a b).length = b - a := by simp [nums]
theorem nums_empty (a : Nat) : nums a a = [] := by simp [nums]
theorem nums_snoc (a b : Nat) (h : a ≤ b) : nums a (b + 1) = nums a b ++ [(b : Int)] := by
  unfold nums
  rw [show b + 1 - a = (b - a) + 1 from by omega, List.range_succ, List.map_append]
  congr 2
  simp
  omega
theorem nums_app (a b c : Nat) (h1 : a ≤ b) (h2 : b ≤ c) : nums a b ++ nums b c = nums a c := by
  obtain ⟨d, rfl⟩ : ∃ d, c = b + d := ⟨c - b, by omega⟩
  clear h2
  induction d with
  | zero => rw [Nat.add_zero, nums_empty, List.append_nil]
  | succ d ih =>
    rw [← Nat.add_assoc, nums_snoc b (b + d) (by omega), nums_snoc a (b + d) (by omega), ← List.append_assoc, ih]
theorem nums_get (a b i : Nat) (h : i < b - a) : (nums a b)[i]'(by rw [nums_length]; exact h) = ((a + i : Nat) : Int) := by simp [nums]

/-- Take, where the first p have come, and none is in flight: the next eight. -/
theorem takeK_rng (now : Int) (N p k : Nat) (T : Nat → Int × Int) (hp : p ≤ N) (hk : k ≤ N) :
    ∃ T1, takeK now (rng N 0 p) (rng N p p) T k = (rng N p (max p (min k (p + 8))), T1, nums p (max p (min k (p + 8)))) := by
  induction k with
  | zero => exact ⟨T, by rw [show max p (min 0 (p + 8)) = p from by omega, nums_empty]; rfl⟩
  | succ k ih =>
    obtain ⟨T1, ih⟩ := ih (by omega)
    show ∃ T1, takeStep now (rng N 0 p) (takeK now (rng N 0 p) (rng N p p) T k) k = _
    rw [ih]
    by_cases h1 : k < p
    · rw [show max p (min (k + 1) (p + 8)) = p from by omega, show max p (min k (p + 8)) = p from by omega]
      exact ⟨T1, step_skipA (by rw [rng_getD]; exact decide_eq_true (by omega))⟩
    · by_cases h2 : k < p + 8
      · rw [show max p (min (k + 1) (p + 8)) = k + 1 from by omega, show max p (min k (p + 8)) = k from by omega]
        refine ⟨upd (upd T1 k (now, 2)) k (now + 2, 4), (step_new (by rw [rng_getD]; exact decide_eq_false (by omega)) (by rw [rng_getD]; exact decide_eq_false (by omega)) (by rw [rng_length, cntP_rng _ _ _ _ (by omega) (by omega)]; omega)).trans ?_⟩
        rw [rng_put N p k (by omega) (by omega), nums_snoc p k (by omega)]
      · rw [show max p (min (k + 1) (p + 8)) = p + 8 from by omega, show max p (min k (p + 8)) = p + 8 from by omega]
        exact ⟨T1, step_skipS (by rw [rng_getD]; exact decide_eq_false (by omega)) (by rw [rng_length, cntP_rng _ _ _ _ (by omega) (by omega)]; omega)⟩

/-- What Ack takes out of flight. -/
theorem offS_getD (S : List Bool) (O : List Bool) (k i : Nat) : (offS S (listR O k)).getD i false = (S.getD i false && !(decide (k ≤ i) && O.getD i false)) := by
  have aux : ∀ (m k : Nat) (S : List Bool), O.length - k ≤ m → (offS S (listR O k)).getD i false = (S.getD i false && !(decide (k ≤ i) && O.getD i false)) := by
    intro m
    induction m with
    | zero =>
      intro k S hk
      rw [listR_end O k (by omega)]
      have : (decide (k ≤ i) && O.getD i false) = false := by
        by_cases h : k ≤ i
        · rw [getD_out O i (by omega)]; simp
        · rw [decide_eq_false h]; rfl
      rw [this]
      simp [offS]
    | succ m ih =>
      intro k S hk
      by_cases hlt : k < O.length
      · by_cases hv : O.getD k false = true
        · rw [listR_hit O k hlt hv]
          show (offS (setB S (k : Int) false) (listR O (k + 1))).getD i false = _
          rw [ih (k + 1) _ (by omega), setB_nat]
          by_cases hki : k = i
          · subst hki
            have e : (S.set k false).getD k false = false := by
              rw [List.getD_eq_getElem?_getD, List.getElem?_set, if_pos rfl]
              split <;> rfl
            rw [e, hv]
            simp
          · have e : (S.set k false).getD i false = S.getD i false := by
              rw [List.getD_eq_getElem?_getD, List.getElem?_set, if_neg hki, ← List.getD_eq_getElem?_getD]
            rw [e]
            congr 3
            exact decide_eq_decide.2 (by omega)
        · rw [listR_miss O k hlt hv, ih (k + 1) _ (by omega)]
          by_cases hki : k = i
          · subst hki
            have : O.getD k false = false := by simpa using hv
            rw [this]
            simp
          · congr 3
            exact decide_eq_decide.2 (by omega)
      · rw [listR_end O k (by omega)]
        have : (decide (k ≤ i) && O.getD i false) = false := by
          by_cases h : k ≤ i
          · rw [getD_out O i (by omega)]; simp
          · rw [decide_eq_false h]; rfl
        rw [this]
        simp [offS]
  exact aux _ k S (Nat.le_refl _)
theorem offS_rng (N p q : Nat) (h : p ≤ q) : offS (rng N p q) (listR (orB (rng N 0 p) (rng N 0 q)) 0) = rng N q q := by
  refine ext_getD _ _ (by rw [offS_length, rng_length, rng_length]) fun i => ?_
  rw [offS_getD, orB_getD, rng_getD, rng_getD, rng_getD, rng_getD, Bool.eq_iff_iff]
  simp
  omega
end Go.Proofs.Ytapanifgnpklpaa
