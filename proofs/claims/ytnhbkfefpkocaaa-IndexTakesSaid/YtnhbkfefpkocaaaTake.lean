/-
  Drawn regions with guards and calls, step by step: an operation that is taken first, one that is not wanted, a call that alone may come up. No function in sight.
-/
import Derived.Test.YtnhbkfefpkocaaaP1
import Derived.Deep.RegionHeld3
namespace Go.Proofs.Ytnhbkfefpkocaaa
open Go.RowKit

section
variable {P : Program} {md : Region.Mode} {l : List Oper} {Q : Exit → Act → World → Prop} {S : World → Prop} {fuel : Nat} {listed : Array Bool} {a : Act} {w : World} {i : Nat} {oi : Oper} {rest : List Oper}

theorem getElem_of_drop (hl : l.drop i = oi :: rest) : l.toArray[i]? = some oi := by
  have h := congrArg List.head? hl
  rw [List.head?_drop] at h
  simpa using h

theorem anyH_take {v : Value} (hl : l.drop i = oi :: rest) (hs : Region.noSelect l.toArray = true) (hf : Region.free md l.toArray listed i = true) (hr : (Region.ready md l.toArray listed).contains i = true)
    (hQ : ∀ c a w, Q (.panic c) (a.put oi.dst v) w → Q (.panic c) a w) (hw : Region.wanted oi (yielded l.toArray a.tmps) = true) (hy : ∀ w, S w → (execOp a.eval oi).run P w = .ok (.value v) w) (hS : S w)
    (h : wpAnyH P md l.toArray Q S fuel (listed.setIfInBounds i true) (a.put oi.dst v) w) : wpAnyH P md l.toArray Q S (fuel + 1) listed a w :=
  wpAnyH_take (getElem_of_drop hl) hs hf hr hQ (Or.inl ⟨hw, hy⟩) hS h

theorem anyH_skip (hl : l.drop i = oi :: rest) (hs : Region.noSelect l.toArray = true) (hf : Region.free md l.toArray listed i = true) (hr : (Region.ready md l.toArray listed).contains i = true)
    (hQ : ∀ c a w, Q (.panic c) (a.put oi.dst undef) w → Q (.panic c) a w) (hw : Region.wanted oi (yielded l.toArray a.tmps) = false) (hS : S w)
    (h : wpAnyH P md l.toArray Q S fuel (listed.setIfInBounds i true) (a.put oi.dst undef) w) : wpAnyH P md l.toArray Q S (fuel + 1) listed a w :=
  wpAnyH_take (getElem_of_drop hl) hs hf hr hQ (Or.inr ⟨hw, rfl⟩) hS h

theorem anyH_call (hl : l.drop i = oi :: rest) (hr : Region.ready md l.toArray listed = [i]) (hw : Region.wanted oi (yielded l.toArray a.tmps) = true)
    (h : ∀ K' : Act → World → Prop, Shut (∀ a w, S w → (S w → wpAnyH P md l.toArray Q S fuel (listed.setIfInBounds i true) a w) → K' a w) → Oper.wp P oi a w K' Q) : wpAnyH P md l.toArray Q S (fuel + 1) listed a w :=
  wpAnyH_ready hr (by simp) (AllReadyH.cons (getElem_of_drop hl) (fun K' hK => by rw [if_pos hw]; exact h K' hK) AllReadyH.nil)

theorem anyH_two {j : Nat} {oj : Oper} {rest' : List Oper} (hl : l.drop i = oi :: rest) (hl' : l.drop j = oj :: rest') (hr : Region.ready md l.toArray listed = [i, j]) (hw : Region.wanted oi (yielded l.toArray a.tmps) = true) (hw' : Region.wanted oj (yielded l.toArray a.tmps) = true)
    (h : ∀ K' : Act → World → Prop, Shut (∀ a w, S w → (S w → wpAnyH P md l.toArray Q S fuel (listed.setIfInBounds i true) a w) → K' a w) → Oper.wp P oi a w K' Q)
    (h' : ∀ K' : Act → World → Prop, Shut (∀ a w, S w → (S w → wpAnyH P md l.toArray Q S fuel (listed.setIfInBounds j true) a w) → K' a w) → Oper.wp P oj a w K' Q) : wpAnyH P md l.toArray Q S (fuel + 1) listed a w :=
  wpAnyH_ready hr (by simp) (AllReadyH.cons (getElem_of_drop hl) (fun K' hK => by rw [if_pos hw]; exact h K' hK) (AllReadyH.cons (getElem_of_drop hl') (fun K' hK => by rw [if_pos hw']; exact h' K' hK) AllReadyH.nil))
end
end Go.Proofs.Ytnhbkfefpkocaaa
