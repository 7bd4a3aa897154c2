/-
  Files in the order of their paths: the plain sort. No function in sight.
-/
import Derived.Test.YtbgnbkomckbckaaFmP
namespace Go.Proofs.Ytbgnbkomckbckaa
open Go.RowKit

instance (x y : Fl) : Decidable (ltF x y) := inferInstanceAs (Decidable (x.1.toList < y.1.toList))
/-- A file put behind all that do not stand behind it. -/
def insF (x : Fl) : List Fl → List Fl
  | [] => [x]
  | y :: t => if ltF x y then x :: y :: t else y :: insF x t
def sortF (l : List Fl) : List Fl := l.foldl (fun out x => insF x out) []
theorem insF_split (x : Fl) : ∀ l : List Fl, ∃ A B, l = A ++ B ∧ insF x l = A ++ x :: B ∧ (∀ a ∈ A, ¬ ltF x a) ∧ (∀ b r, B = b :: r → ltF x b)
  | [] => ⟨[], [], rfl, rfl, by simp, by simp⟩
  | y :: t => by
    unfold insF
    by_cases h : ltF x y
    · rw [if_pos h]
      exact ⟨[], y :: t, rfl, rfl, by simp, fun b r e => by cases e; exact h⟩
    · rw [if_neg h]
      obtain ⟨A, B, e1, e2, e3, e4⟩ := insF_split x t
      refine ⟨y :: A, B, by rw [e1]; rfl, by rw [e2]; rfl, fun a ha => ?_, e4⟩
      rcases List.mem_cons.1 ha with rfl | ha
      · exact h
      · exact e3 a ha
theorem insF_law (x : Fl) (l : List Fl) (h : Srt l) : Srt (insF x l) ∧ Stab (l ++ [x]) (insF x l) := by
  obtain ⟨A, B, rfl, e2, e3, e4⟩ := insF_split x l
  rw [e2]
  refine ins_law h e3 fun b hb => ?_
  cases B with
  | nil => cases hb
  | cons y B => exact ltF_le (e4 y B rfl) (srt_head (srt_app.1 h).2.1 b hb)
theorem insF_len (x : Fl) (l : List Fl) : (insF x l).length = l.length + 1 := by
  obtain ⟨A, B, rfl, e2, _⟩ := insF_split x l
  rw [e2]
  simp only [List.length_append, List.length_cons]
  omega
theorem sortF_snoc (l : List Fl) (x : Fl) : sortF (l ++ [x]) = insF x (sortF l) := by unfold sortF; rw [List.foldl_append]; rfl
theorem list_snoc_ind {p : List Fl → Prop} (h0 : p []) (h1 : ∀ l x, p l → p (l ++ [x])) (l : List Fl) : p l := by
  rw [← List.reverse_reverse l]
  induction l.reverse with
  | nil => exact h0
  | cons x t ih => rw [List.reverse_cons]; exact h1 _ _ ih
theorem sortF_law (l : List Fl) : Srt (sortF l) ∧ Stab l (sortF l) ∧ (sortF l).length = l.length := by
  induction l using list_snoc_ind with
  | h0 => exact ⟨List.Pairwise.nil, Stab.rfl' _, rfl⟩
  | h1 l x ih =>
    obtain ⟨h1, h2, h3⟩ := ih
    obtain ⟨k1, k2⟩ := insF_law x _ h1
    rw [sortF_snoc]
    exact ⟨k1, ((h2.app (Stab.rfl' [x])).trans k2), by rw [insF_len, h3, List.length_append]; rfl⟩
theorem sortF_unique {l Z : List Fl} (h1 : Srt Z) (h2 : Stab l Z) : Z = sortF l :=
  srt_unique _ _ h1 (sortF_law l).1 (h2.symm.trans (sortF_law l).2.1)
theorem sortF_mem {l : List Fl} {x : Fl} : x ∈ sortF l ↔ x ∈ l := ⟨fun h => (sortF_law l).2.1.mem h, fun h => (sortF_law l).2.1.symm.mem h⟩
/-- One more, put where the search from behind stops. -/
theorem sortF_step {l A B : List Fl} {x : Fl} (h : sortF l = A ++ B) (h1 : A = [] ∨ ∃ A' y, A = A' ++ [y] ∧ ¬ ltF x y) (h2 : ∀ b ∈ B, ltF x b) : sortF (l ++ [x]) = A ++ x :: B := by
  obtain ⟨k1, k2, _⟩ := sortF_law l
  rw [h] at k1
  have hl := ins_law k1 (x := x) (fun a ha => by
    rcases h1 with rfl | ⟨A', y, rfl, hy⟩
    · cases ha
    · exact leF_trans (srt_last (srt_app.1 k1).1 a ha) hy) h2
  refine (sortF_unique hl.1 ?_).symm
  rw [h] at k2
  exact (k2.app (Stab.rfl' [x])).trans hl.2
end Go.Proofs.Ytbgnbkomckbckaa
