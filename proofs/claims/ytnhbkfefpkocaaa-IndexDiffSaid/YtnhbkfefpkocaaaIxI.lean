/-
  The reference's put, plain.
-/
import Derived.Test.YtnhbkfefpkocaaaIxH
namespace Go.Proofs.Ytnhbkfefpkocaaa
open Go.RowKit Go.Sort

/-- One step of the reference's put. -/
def stepR (x : It) (st : List It × Bool) (y : It) : List It × Bool :=
  if y.p = x.p then (st.1 ++ [if x.id < y.id then y else x], true)
  else if x.p.toList < y.p.toList ∧ st.2 = false then (st.1 ++ [x] ++ [y], true) else (st.1 ++ [y], st.2)
def putR (l : List It) (x : It) : List It := if (l.foldl (stepR x) ([], false)).2 = true then (l.foldl (stepR x) ([], false)).1 else (l.foldl (stepR x) ([], false)).1 ++ [x]
theorem fold_low (x : It) : ∀ (A O : List It), (∀ a ∈ A, a.p.toList < x.p.toList) → A.foldl (stepR x) (O, false) = (O ++ A, false)
  | [], O, _ => by simp
  | a :: A, O, h => by
    have ha := h a (by simp)
    have h1 : ¬ a.p = x.p := fun e => by rw [e] at ha; exact lt_irr _ ha
    have h2 : ¬ (x.p.toList < a.p.toList ∧ (O, false).2 = false) := fun e => lt_irr _ (lt_tr ha e.1)
    rw [List.foldl_cons]
    unfold stepR
    rw [if_neg h1, if_neg h2]
    show List.foldl (stepR x) (O ++ [a], false) A = _
    rw [fold_low x A (O ++ [a]) fun b hb => h b (by simp [hb])]
    simp
theorem fold_high (x : It) : ∀ (B O : List It), (∀ b ∈ B, x.p.toList < b.p.toList) → B.foldl (stepR x) (O, true) = (O ++ B, true)
  | [], O, _ => by simp
  | b :: B, O, h => by
    have hb := h b (by simp)
    have h1 : ¬ b.p = x.p := fun e => by rw [e] at hb; exact lt_irr _ hb
    have h2 : ¬ (x.p.toList < b.p.toList ∧ (O, true).2 = false) := fun e => by cases e.2
    rw [List.foldl_cons]
    unfold stepR
    rw [if_neg h1, if_neg h2]
    show List.foldl (stepR x) (O ++ [b], true) B = _
    rw [fold_high x B (O ++ [b]) fun c hc => h c (by simp [hc])]
    simp
theorem putR_eq (x : It) (L : List It) (hS : SrtI L) : putR L x = putI L x := by
  obtain ⟨A, B, hL, _, hA, h⟩ := putI_split x L hS
  have hf : L.foldl (stepR x) ([], false) = B.foldl (stepR x) (A, false) := by
    rw [hL, List.foldl_append, fold_low x A [] hA]
    rfl
  unfold putR
  rw [hf]
  rcases h with ⟨_, y, B', rfl, hy, hB, _, _, hput⟩ | ⟨_, hB, hput⟩
  · rw [hput, List.foldl_cons]
    have e : stepR x (A, false) y = (A ++ [if x.id < y.id then y else x], true) := by unfold stepR; rw [if_pos hy]
    rw [e, fold_high x B' _ hB, if_pos rfl]
    have e2 : (if x.id < y.id then y else x) = if y.id ≤ x.id then x else y := by
      by_cases hlt : x.id < y.id
      · rw [if_pos hlt, if_neg (by omega)]
      · rw [if_neg hlt, if_pos (by omega)]
    simp [e2]
  · rw [hput]
    cases B with
    | nil => simp
    | cons b B' =>
      have hb := hB b (by simp)
      have h1 : ¬ b.p = x.p := fun e => by rw [e] at hb; exact lt_irr _ hb
      rw [List.foldl_cons]
      have e : stepR x (A, false) b = (A ++ [x] ++ [b], true) := by unfold stepR; rw [if_neg h1, if_pos ⟨hb, rfl⟩]
      rw [e, fold_high x B' _ fun c hc => hB c (by simp [hc]), if_pos rfl]
      simp
theorem stepR_len (x : It) (st : List It × Bool) (y : It) : (stepR x st y).1.length ≤ st.1.length + 2 := by
  unfold stepR
  split
  · simp
  · split
    · simp
    · simp
theorem fold_take (x : It) (l : List It) (i : Nat) (y : It) (h : l[i]? = some y) : (l.take (i + 1)).foldl (stepR x) ([], false) = stepR x ((l.take i).foldl (stepR x) ([], false)) y := by
  rw [List.take_add_one, h]
  simp
theorem fold_len (x : It) (l : List It) (i : Nat) : ((l.take i).foldl (stepR x) ([], false)).1.length ≤ 2 * i := by
  induction i with
  | zero => simp
  | succ i ih =>
    cases hy : l[i]? with
    | none =>
      have : l.take (i + 1) = l.take i := by rw [List.take_add_one, hy]; simp
      rw [this]; omega
    | some y =>
      rw [fold_take x l i y hy]
      have := stepR_len x ((l.take i).foldl (stepR x) ([], false)) y
      omega
end Go.Proofs.Ytnhbkfefpkocaaa
