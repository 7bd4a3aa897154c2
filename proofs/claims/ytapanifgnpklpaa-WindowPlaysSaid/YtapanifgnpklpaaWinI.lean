/-
  Windows, the plain law of what is in flight: never more than 8, and none that has come.
-/
import Derived.Test.YtapanifgnpklpaaWinG
namespace Go.Proofs.Ytapanifgnpklpaa
open Go.RowKit

theorem put_getD (L : List Bool) (i j : Nat) (h : i < L.length) : (setB L (i : Int) true).getD j false = if i = j then true else L.getD j false := by
  rw [setB_nat, getD_set _ _ _ _ h]
theorem cntP_put (L : List Bool) (i j : Nat) (h : i < L.length) (hv : L.getD i false = false) : cntP (setB L (i : Int) true) j = cntP L j + (if i < j then 1 else 0) := by
  induction j with
  | zero => simp [cntP]
  | succ j ih =>
    show cntP (setB L (i : Int) true) j + (if (setB L (i : Int) true).getD j false then 1 else 0) = cntP L j + (if L.getD j false then 1 else 0) + _
    rw [ih, put_getD L i j h]
    by_cases he : i = j
    · subst he
      simp only [hv, if_true]
      simp
    · rw [if_neg he]
      have e : (if i < j + 1 then 1 else 0 : Nat) = if i < j then 1 else 0 := by
        by_cases h1 : i < j
        · simp [h1]; omega
        · simp [h1]; omega
      rw [e]
      omega
theorem put_same (L : List Bool) (i : Nat) (hv : L.getD i false = true) : setB L (i : Int) true = L := by
  have hi := getD_in hv
  refine ext_getD _ _ (setB_length _ _ _) fun j => ?_
  rw [put_getD L i j hi]
  split
  · rename_i e; subst e; exact hv.symm
  · rfl
theorem cntP_mono (L M : List Bool) (h : ∀ i, L.getD i false = true → M.getD i false = true) (j : Nat) : cntP L j ≤ cntP M j := by
  induction j with
  | zero => exact Nat.le_refl _
  | succ j ih =>
    show cntP L j + (if L.getD j false then 1 else 0) ≤ cntP M j + (if M.getD j false then 1 else 0)
    cases hl : L.getD j false with
    | true => rw [h j hl]; simp; exact ih
    | false => simp; omega
theorem cntP_or (L M : List Bool) (h : ∀ i, L.getD i false = true → M.getD i false = false) (j : Nat) : cntP (orB L M) j = cntP L j + cntP M j := by
  induction j with
  | zero => rfl
  | succ j ih =>
    show cntP (orB L M) j + (if (orB L M).getD j false then 1 else 0) = cntP L j + (if L.getD j false then 1 else 0) + (cntP M j + (if M.getD j false then 1 else 0))
    rw [ih, orB_getD]
    cases hl : L.getD j false with
    | true => rw [h j hl]; simp; omega
    | false => cases M.getD j false <;> simp <;> omega

/-- What holds of a window at each moment. -/
def WInv (N : Nat) (A S : List Bool) : Prop := A.length = N ∧ S.length = N ∧ cntP S N ≤ 8 ∧ ∀ i, S.getD i false = true → A.getD i false = false
theorem winv_new (N : Nat) : WInv N (rng N 0 0) (rng N 0 0) := ⟨rng_length _ _ _, rng_length _ _ _, by rw [cntP_rng _ _ _ _ (by omega) (by omega)]; omega, fun i h => by rw [rng_getD, decide_eq_false (by omega)] at h; cases h⟩
theorem winv_take (now : Int) (N : Nat) (A S : List Bool) (T : Nat → Int × Int) (h : WInv N A S) (k : Nat) (hk : k ≤ N) :
    WInv N A (takeK now A S T k).1 ∧ ∀ x ∈ (takeK now A S T k).2.2, ∃ i : Nat, x = i ∧ i < N ∧ (takeK now A S T k).1.getD i false = true := by
  induction k with
  | zero => exact ⟨h, fun x hx => by cases hx⟩
  | succ k ih =>
    obtain ⟨ih1, ih2⟩ := ih (by omega)
    show WInv N A (takeStep now A (takeK now A S T k) k).1 ∧ ∀ x ∈ (takeStep now A (takeK now A S T k) k).2.2, ∃ i : Nat, x = i ∧ i < N ∧ (takeStep now A (takeK now A S T k) k).1.getD i false = true
    generalize takeK now A S T k = st at ih1 ih2
    obtain ⟨S1, T1, l1⟩ := st
    dsimp only at ih1 ih2
    obtain ⟨hA, hS, hc, hd⟩ := ih1
    cases ha : A.getD k false with
    | true => rw [step_skipA ha]; exact ⟨⟨hA, hS, hc, hd⟩, ih2⟩
    | false =>
      cases hs : S1.getD k false with
      | true =>
        rcases hf : fireW (T1 k) now with ⟨r, b⟩
        cases b with
        | true =>
          rw [step_old ha hs hf]
          dsimp only
          rw [put_same S1 k hs]
          refine ⟨⟨hA, hS, hc, hd⟩, fun x hx => ?_⟩
          rcases List.mem_append.1 hx with hx | hx
          · exact ih2 x hx
          · exact ⟨k, by simpa using hx, by omega, hs⟩
        | false => rw [step_wait ha hs hf]; exact ⟨⟨hA, hS, hc, hd⟩, ih2⟩
      | false =>
        by_cases h8 : 8 ≤ cntP S1 S1.length
        · rw [step_skipS hs h8]; exact ⟨⟨hA, hS, hc, hd⟩, ih2⟩
        · rw [step_new ha hs h8]
          dsimp only
          have hkl : k < S1.length := by omega
          refine ⟨⟨hA, by rw [setB_length]; exact hS, ?_, fun i hi => ?_⟩, fun x hx => ?_⟩
          · rw [cntP_put S1 k N hkl hs]
            rw [hS] at h8
            split <;> omega
          · rw [put_getD S1 k i hkl] at hi
            by_cases e : k = i
            · subst e; exact ha
            · rw [if_neg e] at hi; exact hd i hi
          · rcases List.mem_append.1 hx with hx | hx
            · obtain ⟨i, e, hi, hv⟩ := ih2 x hx
              refine ⟨i, e, hi, ?_⟩
              rw [put_getD S1 k i hkl]
              split
              · rfl
              · exact hv
            · refine ⟨k, by simpa using hx, by omega, ?_⟩
              rw [put_getD S1 k k hkl, if_pos rfl]
theorem winv_ack (N : Nat) (A S M : List Bool) (h : WInv N A S) (hM : M.length = N) : WInv N M (offS S (listR (orB A M) 0)) := by
  obtain ⟨hA, hS, hc, hd⟩ := h
  refine ⟨hM, by rw [offS_length]; exact hS, Nat.le_trans (cntP_mono _ S (fun i hi => ?_) N) hc, fun i hi => ?_⟩
  · rw [offS_getD] at hi
    simp at hi
    simpa using hi.1
  · rw [offS_getD, orB_getD] at hi
    simp at hi
    simpa using hi.2.2
end Go.Proofs.Ytapanifgnpklpaa
