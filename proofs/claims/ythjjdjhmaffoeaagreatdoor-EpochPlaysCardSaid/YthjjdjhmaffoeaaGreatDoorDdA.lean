/-
  Deeds on a disk in a row: their cells. No function in sight.
-/
import Derived.Test.YthjjdjhmaffoeaaGreatDoorBase
namespace Go.Proofs.YthjjdjhmaffoeaaGreatDoor
open Go.RowKit

structure Dd where
  k : Int
  i : Int
  s : ByteArray
/-- The cells of deeds. -/
def dl : List Dd → List Value
  | [] => []
  | x :: l => .int .i64 x.k :: .int .i64 x.i :: .string x.s :: dl l
theorem dl_len (l : List Dd) : (dl l).length = l.length * 3 := by
  induction l with
  | nil => rfl
  | cons x l ih => simp only [dl, List.length_cons, ih]; omega
theorem dl_app (a b : List Dd) : dl (a ++ b) = dl a ++ dl b := by
  induction a with
  | nil => rfl
  | cons x a ih => simp only [List.cons_append, dl, ih]
theorem dl_one (l : List Dd) : ∀ u ∈ dl l, u.oneCell' = true := by
  induction l with
  | nil => intro u hu; cases hu
  | cons x l ih =>
    intro u hu
    simp only [dl, List.mem_cons] at hu
    rcases hu with rfl | rfl | rfl | hu
    · rfl
    · rfl
    · rfl
    · exact ih u hu
theorem dl_get0 (l : List Dd) (i : Nat) : (dl l)[i * 3]? = l[i]?.map fun x => Value.int .i64 x.k := by
  induction l generalizing i with
  | nil => simp [dl]
  | cons x l ih =>
    cases i with
    | zero => rfl
    | succ i => rw [show (i + 1) * 3 = i * 3 + 1 + 1 + 1 by omega]; simp only [dl, List.getElem?_cons_succ]; exact ih i
theorem dl_get1 (l : List Dd) (i : Nat) : (dl l)[i * 3 + 1]? = l[i]?.map fun x => Value.int .i64 x.i := by
  induction l generalizing i with
  | nil => simp [dl]
  | cons x l ih =>
    cases i with
    | zero => rfl
    | succ i => rw [show (i + 1) * 3 + 1 = i * 3 + 1 + 1 + 1 + 1 by omega]; simp only [dl, List.getElem?_cons_succ]; exact ih i
theorem dl_get2 (l : List Dd) (i : Nat) : (dl l)[i * 3 + 2]? = l[i]?.map fun x => Value.string x.s := by
  induction l generalizing i with
  | nil => simp [dl]
  | cons x l ih =>
    cases i with
    | zero => rfl
    | succ i => rw [show (i + 1) * 3 + 2 = i * 3 + 2 + 1 + 1 + 1 by omega]; simp only [dl, List.getElem?_cons_succ]; exact ih i
theorem Rd.deed {w : World} {A : Option Addr} {l : List Dd} (h : Rd w A (dl l)) {i : Nat} {x : Dd} (hx : l[i]? = some x) :
    ∃ b o, A = some ⟨b, o, none⟩ ∧ w.cell? ⟨b, o + i * 3, none⟩ = some (.int .i64 x.k) ∧ w.cell? ⟨b, o + i * 3 + 1, none⟩ = some (.int .i64 x.i) ∧ w.cell? ⟨b, o + i * 3 + 2, none⟩ = some (.string x.s) := by
  have hi : i < l.length := (List.getElem?_eq_some_iff.1 hx).1
  obtain ⟨b, o, e, hc⟩ := h (by intro e; have := dl_len l; rw [e] at this; simp at this; omega)
  have h0 := hc (i * 3) (.int .i64 x.k) (by rw [dl_get0, hx]; rfl)
  have h1 := hc (i * 3 + 1) (.int .i64 x.i) (by rw [dl_get1, hx]; rfl)
  have h2 := hc (i * 3 + 2) (.string x.s) (by rw [dl_get2, hx]; rfl)
  rw [← Nat.add_assoc] at h1 h2
  exact ⟨b, o, e, h0, h1, h2⟩
/-- A deed's numbers are numbers, its text is one. -/
def Dd.ok (x : Dd) : Prop := (-9223372036854775808 ≤ x.k ∧ x.k ≤ 9223372036854775807) ∧ (-9223372036854775808 ≤ x.i ∧ x.i ≤ 9223372036854775807) ∧ x.s.size ≤ 9223372036854775807
/-- The text is cut. -/
def Dd.cut (x : Dd) : Dd := { x with s := if 300 < x.s.size then x.s.extract 0 300 else x.s }
theorem Dd.cut_ok {x : Dd} (h : x.ok) : x.cut.ok ∧ x.cut.s.size ≤ 300 := by
  unfold Dd.cut Dd.ok at *
  obtain ⟨h1, h2, h3⟩ := h
  simp only
  split
  · rename_i hs
    have : (x.s.extract 0 300).size ≤ 300 := by rw [ByteArray.size_extract]; omega
    exact ⟨⟨h1, h2, by omega⟩, this⟩
  · exact ⟨⟨h1, h2, h3⟩, by omega⟩
/-- Not too many, nor with great texts. -/
def fewD (l : List Dd) : List Dd := (l.take 60).map Dd.cut
theorem fewD_len (l : List Dd) : (fewD l).length ≤ 60 := by unfold fewD; simp; omega
theorem fewD_ok {l : List Dd} (h : ∀ x ∈ l, x.ok) : ∀ x ∈ fewD l, x.ok ∧ x.s.size ≤ 300 := by
  intro x hx
  unfold fewD at hx
  obtain ⟨y, hy, rfl⟩ := List.mem_map.1 hx
  exact Dd.cut_ok (h y (List.mem_of_mem_take hy))
end Go.Proofs.YthjjdjhmaffoeaaGreatDoor
