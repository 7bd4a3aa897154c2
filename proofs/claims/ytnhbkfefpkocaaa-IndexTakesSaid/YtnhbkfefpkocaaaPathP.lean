/-
  Plain law: a path's parts. No function in sight.
-/
import Derived.Test.YtnhbkfefpkocaaaP1
import Derived.Lib.IndexLaws
import Derived.Lib.IndexBytes
namespace Go.Proofs.Ytnhbkfefpkocaaa
open Go.RowKit

def stepP (a : List (List UInt8) × List UInt8) (c : UInt8) : List (List UInt8) × List UInt8 := if c = 47 then (a.1 ++ [a.2], []) else (a.1, a.2 ++ [c])
def foldP (p : List UInt8) : List (List UInt8) × List UInt8 := p.foldl stepP ([], [])
/-- A text split at each slash. -/
def spl (p : List UInt8) : List (List UInt8) := (foldP p).1 ++ [(foldP p).2]

theorem foldP_snoc (p : List UInt8) (c : UInt8) : foldP (p ++ [c]) = stepP (foldP p) c := by unfold foldP; rw [List.foldl_append]; rfl
theorem fold_from (r : List UInt8) : ∀ (L : List (List UInt8)) (s : List UInt8), r.foldl stepP (L, s) = (L ++ (r.foldl stepP ([], s)).1, (r.foldl stepP ([], s)).2) := by
  induction r with
  | nil => intro L s; simp
  | cons c r ih =>
    intro L s
    simp only [List.foldl_cons, stepP]
    by_cases hc : c = 47
    · rw [if_pos hc, if_pos hc, ih, ih ([] ++ [s])]
      simp
    · rw [if_neg hc, if_neg hc, ih]
theorem fold_no (b : List UInt8) (h : ∀ x ∈ b, x ≠ 47) : ∀ (L : List (List UInt8)) (s : List UInt8), b.foldl stepP (L, s) = (L, s ++ b) := by
  induction b with
  | nil => intro L s; simp
  | cons c b ih =>
    intro L s
    simp only [List.foldl_cons, stepP]
    rw [if_neg (h c (by simp)), ih (fun x hx => h x (by simp [hx]))]
    simp
theorem spl_none (p : List UInt8) (h : ∀ x ∈ p, x ≠ 47) : spl p = [p] := by
  unfold spl foldP; rw [fold_no p h]; rfl
theorem spl_some (b r : List UInt8) (h : ∀ x ∈ b, x ≠ 47) : spl (b ++ 47 :: r) = b :: spl r := by
  unfold spl foldP
  rw [List.foldl_append, fold_no b h, List.foldl_cons]
  simp only [stepP, if_pos]
  rw [fold_from]
  simp
theorem spl_ne (p : List UInt8) : spl p ≠ [] := by unfold spl; simp

/-- What cutting at the first slash comes to. -/
theorem idx_cases (p : List UInt8) : (Lib.indexByte p 47 = -1 ∧ (∀ x ∈ p, x ≠ 47)) ∨ ∃ i : Nat, Lib.indexByte p 47 = i ∧ i < p.length ∧ (∀ x ∈ p.take i, x ≠ 47) ∧ p = p.take i ++ 47 :: p.drop (i + 1) := by
  by_cases h : Lib.indexByte p 47 = -1
  · refine .inl ⟨h, fun x hx e => ?_⟩
    obtain ⟨k, hk⟩ := List.mem_iff_getElem?.1 hx
    exact Lib.indexByte_none h k (by rw [hk, e])
  · have hg := Lib.indexByte_ge p 47
    obtain ⟨i, hi⟩ : ∃ i : Nat, Lib.indexByte p 47 = i := ⟨(Lib.indexByte p 47).toNat, by omega⟩
    obtain ⟨h1, h2⟩ := Lib.indexByte_some hi
    obtain ⟨hlt, h3⟩ := List.getElem?_eq_some_iff.1 h1
    refine .inr ⟨i, hi, hlt, fun x hx e => ?_, ?_⟩
    · obtain ⟨k, hk⟩ := List.mem_iff_getElem?.1 hx
      rw [List.getElem?_take] at hk
      split at hk
      · rename_i hki
        exact h2 k hki (by rw [hk, e])
      · cases hk
    · rw [← h3, ← List.drop_eq_getElem_cons hlt, List.take_append_drop]

/-- May it be a part? -/
def partOk (x : List UInt8) : Bool := decide (¬ (x = [] ∨ x = [46] ∨ x = [46, 46]))
/-- May it be a path? -/
def pathOk (p : List UInt8) : Bool := decide (p ≠ [] ∧ p.length ≤ 4096 ∧ (∀ x ∈ p, x ≠ 0) ∧ ∀ x ∈ spl p, partOk x = true)

/-- The parts as texts. -/
def splB (s : ByteArray) : List ByteArray := (spl s.toList).map ofL
theorem splB_none (s : ByteArray) (h : ∀ x ∈ s.toList, x ≠ 47) : splB s = [s] := by unfold splB; rw [spl_none _ h]; simp [ofL_toList]
theorem splB_some (s : ByteArray) (i : Nat) (hlt : i < s.size) (h : ∀ x ∈ s.toList.take i, x ≠ 47) (he : s.toList = s.toList.take i ++ 47 :: s.toList.drop (i + 1)) : splB s = s.extract 0 i :: splB (s.extract (i + 1) s.size) := by
  unfold splB
  rw [he, spl_some _ _ h, List.map_cons, toList_suf, ← toList_pre, ofL_toList]
end Go.Proofs.Ytnhbkfefpkocaaa
