/-
  Entries in a row: catalog.Room.
-/
import Derived.Test.YtachmdfabnigpaaDoorCatE
namespace Go.Proofs.YtachmdfabnigpaaDoor
open Go.RowKit Go.Sort

/-- The first sector from 'at' on that is free of entries in their order, or where none is left. -/
def roomA (n : Int) : Int → List Ent → Int
  | a, [] => a
  | a, x :: l => if n ≤ x.ba - a then a else roomA n (max a (x.ba + x.n)) l
theorem roomA_take (n : Int) (l : List Ent) (a : Int) : a ≤ roomA n a l := by
  induction l generalizing a with
  | nil => exact Int.le_refl _
  | cons x l ih => 
    unfold roomA
    split
    · exact Int.le_refl _
    · exact Int.le_trans (Int.le_max_left _ _) (ih _)
theorem roomA_le (n : Int) (l : List Ent) (a : Int) (h : a ≤ 4000) : roomA n a l ≤ 4000 := by
  induction l generalizing a with
  | nil => exact h
  | cons x l ih => 
    unfold roomA
    split
    · exact h
    · have := x.hb; have := x.hn
      exact ih _ (by omega)
/-- The cells of an entry in a row. -/
theorem Ents.cells {w : World} {g : Nat} {l : List Ent} (h : Ents w g l) {i : Nat} {x : Ent} (hx : l[i]? = some x) :
    w.cell? ⟨g, i * 8, none⟩ = some (.int .i64 x.id) ∧ w.cell? ⟨g, i * 8 + 1, none⟩ = some (.string x.sa) ∧ w.cell? ⟨g, i * 8 + 2, none⟩ = some (.int .i64 x.n) ∧ w.cell? ⟨g, i * 8 + 3, none⟩ = some (.int .i64 x.bs) ∧
    w.cell? ⟨g, i * 8 + 4, none⟩ = some (.int .i64 x.raw) ∧ w.cell? ⟨g, i * 8 + 5, none⟩ = some (.string x.ro) ∧ w.cell? ⟨g, i * 8 + 6, none⟩ = some (.string x.ta) ∧ w.cell? ⟨g, i * 8 + 7, none⟩ = some (.int .i64 x.ba) := by
  have hi : i < l.length := (List.getElem?_eq_some_iff.1 hx).1
  have hg := HoldsK.cells h.2 Ent.len (i := i) (by simpa using hi)
  have e : l.toArray[i]! = x := by
    rw [getElem!_pos _ i (by simpa using hi)]
    simpa using (List.getElem?_eq_some_iff.1 hx).2
  rw [e] at hg
  have H := fun c v hv => hg c v hv
  simp only [Addr.add_lit, Nat.zero_add] at H
  exact ⟨H 0 _ rfl, H 1 _ rfl, H 2 _ rfl, H 3 _ rfl, H 4 _ rfl, H 5 _ rfl, H 6 _ rfl, H 7 _ rfl⟩
theorem Ents.below {w w' : World} {g : Nat} {l : List Ent} (h : Ents w g l) (hb : Below w.heap.size w w') : Ents w' g l :=
  ⟨Nat.lt_of_lt_of_le h.1 hb.size, fun j hj => by
    obtain ⟨h1, h2⟩ := h.2 j hj
    exact ⟨(hb.cell h.1).trans h1, (hb.frozen h.1).trans h2⟩⟩
end Go.Proofs.YtachmdfabnigpaaDoor
