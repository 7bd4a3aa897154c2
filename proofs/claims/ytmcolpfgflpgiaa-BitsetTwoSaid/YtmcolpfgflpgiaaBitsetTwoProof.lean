/-
  BitsetTwo: of any two ints and any two lists of ints the law returns true (22.1): Within, Or and == of the two sets are those of the document, and both sets are within the one that Or makes. No condition.
-/
import Derived.Test.YtmcolpfgflpgiaaFrame
import Derived.Test.YtmcolpfgflpgiaaBitJ
namespace Go.Proofs.Ytmcolpfgflpgiaa
open Go.ChangeShapes Go.WideShapes Go.ChangeAt Go.RowKit

set_option maxRecDepth 100000 in
theorem bitsetTwo_lifted (os : Os) (started : os.Started) (H : Type) (enc : TypeId × Value → H) :
    ReturnsInHanded {} Try.checked os 5 .any (Rows.bitsetTwoSpec.pre6 enc Try.prog Try.f5 Rows.bitsetTwoRow.domain false) (Rows.bitsetTwoSpec.post enc Try.prog Try.f5 false true false false) := by
  refine returnsInHanded_of_change_sized (C := Try.checked) Try.own started (by kernel_rfl) Try.func5
    (ChangeSpec.witness6 (enc := enc) (C := Try.checked) false ⟨#[], #[.int .i64 0, .int .i64 0, .slice none 0 0, .slice none 0 0], []⟩ 8 (by kernel_rfl) (by kernel_rfl) (by kernel_rfl) (by kernel_rfl)) ?_
  intro W base args ds gs before hval0 hW hcnd hsz0 hholds
  have hval : ∀ (j : Nat) t v, Try.f5.params[j]? = some t → args[j]? = some v → Value.okWide Try.prog W .any base t v := hval0
  have hW' := hW
  obtain ⟨p, q, hA0, hV, rfl, hfz, hnd⟩ := hW
  have hA : DataW.TrodAll enc Try.prog W 0 (fun _ => true) true Try.f5.params.toList args.toList ds p := hA0
  have hsz : (DataW.weightsEach Try.prog (Try.f5.params.toList ++ Rows.bitsetTwoSpec.plain.varTypes Try.prog) (ds ++ gs)).all (· ≤ reachBytes) = true := hsz0
  rw [Try.params5] at hA hval hsz
  obtain ⟨v0, v1, v2, v3, d0, d1, d2, d3, p0, p1, p2, p3, rfl, rfl, rfl, h0, h1, h2, h3⟩ := trodAll_four hA
  obtain ⟨rfl, rfl⟩ := trodVars_none hV
  clear hA0 hval0 hcnd hfz hnd hsz0 hholds
  simp only [List.append_nil] at hW'
  have hlt0 : ∀ x ∈ p0, x.block < W.heap.size := fun x hx => by simpa using hW'.lt x (by simp [hx])
  have hlt1 : ∀ x ∈ p1, x.block < W.heap.size := fun x hx => by simpa using hW'.lt x (by simp [hx])
  have hlt2 : ∀ x ∈ p2, x.block < W.heap.size := fun x hx => by simpa using hW'.lt x (by simp [hx])
  have hlt3 : ∀ x ∈ p3, x.block < W.heap.size := fun x hx => by simpa using hW'.lt x (by simp [hx])
  obtain ⟨x0, rfl, l0, u0⟩ := arg_int (hval 0 3 v0 rfl rfl) h0 hsz 0 rfl rfl
  obtain ⟨x1, rfl, l1, u1⟩ := arg_int (hval 1 3 v1 rfl rfl) h1 hsz 1 rfl rfl
  obtain ⟨A2, n2, c2, xs2, rfl, hx2, hn2, hc2, hr2⟩ := arg_ints (hval 2 22 v2 rfl rfl) h2 hsz 2 rfl rfl
  obtain ⟨A3, n3, c3, xs3, rfl, hx3, hn3, hc3, hr3⟩ := arg_ints (hval 3 22 v3 rfl rfl) h3 hsz 3 rfl rfl
  refine (bitsetTwo_walk x0 x1 A2 n2 c2 xs2 A3 n3 c3 xs3 W l0 u0 l1 u1 hx2 hr2 hn2 hc2 hx3 hr3 hn3 hc3).mono fun e W' ⟨he, hb⟩ => ?_
  subst he
  exact ⟨_, rfl, yes_post hW' rfl rfl rfl rfl rfl (trodAll_mk4 (Below.trod Try.laidOut (by kernel_rfl) (of_decide_eq_true (by kernel_rfl)) h0 hb (hlt0)) (Below.trod Try.laidOut (by kernel_rfl) (of_decide_eq_true (by kernel_rfl)) h1 hb (hlt1)) (Below.trod Try.laidOut (by kernel_rfl) (of_decide_eq_true (by kernel_rfl)) h2 hb (hlt2)) (Below.trod Try.laidOut (by kernel_rfl) (of_decide_eq_true (by kernel_rfl)) h3 hb (hlt3))) (by first | rfl | simp only [List.append_assoc]) hb⟩

theorem bitsetTwo_holds : Rows.BitsetTwoSaid :=
  OpenClaim.holds_of_wide 5 Try.f5 rfl rfl rfl rfl rfl rfl rfl ⟨rfl, rfl, rfl, rfl, rfl⟩ rfl rfl rfl rfl rfl (by kernel_rfl) Try.func5 (by kernel_rfl)
    (of_decide_eq_true (by kernel_rfl)) (by unfold Func.isWrapper; first | (rw [if_pos (by decide +kernel)]; kernel_rfl) | (rw [if_neg (by decide +kernel)]; exact ⟨rfl, rfl⟩))
    (fun os started H enc _ => bitsetTwo_lifted os started H enc)
#print axioms bitsetTwo_holds
end Go.Proofs.Ytmcolpfgflpgiaa
