/-
  The reference's disk: Clone.
-/
import Derived.Test.YthjjdjhmaffoeaaGreatDoorDkW
namespace Go.Proofs.YthjjdjhmaffoeaaGreatDoor
open Go.RowKit

theorem Row.cells {w : World} {q : Nat} {l : List ByteArray} (h : Row w q l) : ∀ j u, (strs l)[j]? = some u → w.cell? ((⟨q, 0, none⟩ : Addr).add j) = some u := fun j u hj => by
  unfold strs at hj
  rw [List.getElem?_map] at hj
  rcases hl : l[j]? with _ | t
  · rw [hl] at hj; cases hj
  · rw [hl] at hj
    cases hj
    rw [add_mk, Nat.zero_add]
    exact (h.at_ hl).1
theorem RowB.cells {w : World} {q : Nat} {l : List Bool} (h : RowB w q l) : ∀ j u, (bools l)[j]? = some u → w.cell? ((⟨q, 0, none⟩ : Addr).add j) = some u := fun j u hj => by
  unfold bools at hj
  rw [List.getElem?_map] at hj
  rcases hl : l[j]? with _ | t
  · rw [hl] at hj; cases hj
  · rw [hl] at hj
    cases hj
    rw [add_mk, Nat.zero_add]
    exact (h.at_ hl).1
theorem grown_drew {w w' : World} {row : Option Nat} (hg : w.drew.grownBy w' row) : w.grownBy w' row := ⟨hg.os, hg.tape, hg.output, hg.size, hg.block⟩
theorem below_toDrew {w w' : World} {B : Nat} (h : Below B w w') : Below B w w'.drew := ⟨h.os, h.tape, h.output, h.size, h.block⟩
theorem strs_one (l : List ByteArray) : ∀ u ∈ strs l, u.oneCell' = true := fun u hu => by
  unfold strs at hu
  obtain ⟨x, _, rfl⟩ := List.mem_map.1 hu
  rfl
theorem bools_one (l : List Bool) : ∀ u ∈ bools l, u.oneCell' = true := fun u hu => by
  unfold bools at hu
  obtain ⟨x, _, rfl⟩ := List.mem_map.1 hu
  rfl

end Go.Proofs.YthjjdjhmaffoeaaGreatDoor
