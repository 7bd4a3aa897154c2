/-
  The frame of a law's row: a list of texts as an argument.
-/
import Derived.Test.YtfkbcmmhpopdnaaFrame
import Derived.SliceStrings
namespace Go.Proofs.Ytfkbcmmhpopdnaa
open Go.ChangeShapes Go.WideShapes Go.ChangeAt Go.RowKit

theorem rd_of_strings {w : World} {a : Addr} {zs : List ByteArray} {len : Nat} (h : ∀ i, i < zs.length → w.cell? (a.add i) = some (.string (zs.getD i ByteArray.empty))) : Rd w (some a) ((zs.take len).map Value.string) := by
  intro hn
  have h0 : 0 < zs.length := by
    cases zs with
    | nil => simp at hn
    | cons z zs => simp
  obtain ⟨b, o, sp⟩ := a
  have hsp : sp = none := by
    have := h 0 h0
    simp only [Addr.add, if_pos, World.cell?] at this
    cases sp with
    | none => rfl
    | some x => simp at this; split at this <;> simp at this
  subst hsp
  refine ⟨b, o, rfl, fun j u hj => ?_⟩
  rw [List.getElem?_map, List.getElem?_take] at hj
  split at hj
  · rcases hz : zs[j]? with _ | z
    · rw [hz] at hj; simp at hj
    · rw [hz] at hj
      simp at hj
      have hlt := (List.getElem?_eq_some_iff.1 hz).1
      have := h j hlt
      rw [add_mk] at this
      rw [this, ← hj, List.getD_eq_getElem?_getD, hz]
      rfl
  · simp at hj

section
variable {H : Type} {enc : TypeId × Value → H} {w : World} {b0 : Nat} {v : Value} {d : DataW H} {p : List MemPlace} {ts : List TypeId} {ds : List (DataW H)}
/-- A slice of texts. -/
theorem arg_strings (hval : Value.okWide Try.prog w .any b0 22 v) (h : DataW.Trod enc Try.prog w 0 (fun _ => true) true 22 v d p) (_hsz : (DataW.weightsEach Try.prog ts ds).all (· ≤ reachBytes) = true) (j : Nat) (_ht : ts[j]? = some 22) (_hd : ds[j]? = some d) :
    ∃ (A : Option Addr) (n c : Nat) (xs : List ByteArray), v = .slice A n c ∧ xs.length = n ∧ n ≤ c ∧ c ≤ 9223372036854775807 ∧ Rd w A (xs.map Value.string) ∧ ∀ s ∈ xs, s.size ≤ 9223372036854775807 := by
  obtain ⟨a0, len, cap, rfl⟩ := okWide_slice Try.underlying22 hval
  obtain ⟨fuel, hf⟩ := h
  rcases open_strings Try.underlying22 Try.underlying9 (by kernel_rfl) hf with ⟨hcs, _⟩ | ⟨a, len', cap', zs, hcs, _, hl, hm, hz, hx, hcell, hsz⟩
  · simp [Value.cells] at hcs
    obtain ⟨rfl, rfl, rfl⟩ := hcs
    exact ⟨none, 0, 0, [], rfl, rfl, by omega, by omega, Rd.nil _ _, by simp⟩
  · simp [Value.cells] at hcs
    obtain ⟨rfl, rfl, rfl⟩ := hcs
    simp only [if_true] at hz
    have hml : cap ≤ 9223372036854775807 := hm
    exact ⟨some a, len, cap, zs.take len, rfl, by rw [List.length_take]; omega, hl, hml, rd_of_strings hcell, fun s hs => hsz s (List.mem_of_mem_take hs)⟩
end
end Go.Proofs.Ytfkbcmmhpopdnaa
