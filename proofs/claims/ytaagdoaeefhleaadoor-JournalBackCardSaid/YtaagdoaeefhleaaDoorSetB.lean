/-
  A boxed set.
-/
import Derived.Test.YtaagdoaeefhleaaDoorP7
namespace Go.Proofs.YtaagdoaeefhleaaDoor
open Go.RowKit

/-- The five cells of a boxed set. -/
def SetAt (w : World) (g : Nat) (L : List Bool) : Prop := Bk w g 32 #[.int .i64 (L.length : Nat), .int .u64 (wdN L 0 : Nat), .int .u64 (wdN L 1 : Nat), .int .u64 (wdN L 2 : Nat), .int .u64 (wdN L 3 : Nat)]
theorem SetAt.new (w : World) (L : List Bool) : SetAt (w.alloc (.cells #[.int .i64 (L.length : Nat), .int .u64 (wdN L 0 : Nat), .int .u64 (wdN L 1 : Nat), .int .u64 (wdN L 2 : Nat), .int .u64 (wdN L 3 : Nat)] 32)) w.heap.size L := Bk.new _ _ _
theorem SetAt.cells {w : World} {g : Nat} {L : List Bool} (h : SetAt w g L) : w.cell? ⟨g, 0, none⟩ = some (.int .i64 (L.length : Nat)) ∧ w.cell? ⟨g, 1, none⟩ = some (.int .u64 (wdN L 0 : Nat)) ∧ w.cell? ⟨g, 2, none⟩ = some (.int .u64 (wdN L 1 : Nat)) ∧ w.cell? ⟨g, 3, none⟩ = some (.int .u64 (wdN L 2 : Nat)) ∧ w.cell? ⟨g, 4, none⟩ = some (.int .u64 (wdN L 3 : Nat)) :=
  ⟨Bk.cell h 0, Bk.cell h 1, Bk.cell h 2, Bk.cell h 3, Bk.cell h 4⟩
theorem SetAt.below' {w w' : World} {g : Nat} {L : List Bool} (h : SetAt w g L) (hb : Below w.heap.size w w') : SetAt w' g L := Bk.below' h hb

theorem rd_bool {w : World} {A : Option Addr} {L : List Bool} (h : Rd w A (L.map Value.bool)) (k : Nat) (hk : k < L.length) : ∃ b o, A = some ⟨b, o, none⟩ ∧ w.cell? ⟨b, o + k, none⟩ = some (.bool (L.getD k false)) := by
  obtain ⟨b, o, e, hc⟩ := h.at_ (k := k) (by simpa using hk)
  refine ⟨b, o, e, ?_⟩
  rw [hc, List.getElem_map, List.getD_eq_getElem?_getD, List.getElem?_eq_getElem hk]
  rfl

/-- A set's block that nobody has written. -/
def ZeroAt (w : World) (g : Nat) : Prop := Bk w g 32 #[.int .i64 0, .int .u64 0, .int .u64 0, .int .u64 0, .int .u64 0]
theorem SetAt.cells_drew {w w1 : World} {g : Nat} {L : List Bool} (h : SetAt w g L) (hb : Below w.drew.heap.size w.drew w1) : w1.cell? ⟨g, 0, none⟩ = some (.int .i64 (L.length : Nat)) ∧ w1.cell? ⟨g, 1, none⟩ = some (.int .u64 (wdN L 0 : Nat)) ∧ w1.cell? ⟨g, 2, none⟩ = some (.int .u64 (wdN L 1 : Nat)) ∧ w1.cell? ⟨g, 3, none⟩ = some (.int .u64 (wdN L 2 : Nat)) ∧ w1.cell? ⟨g, 4, none⟩ = some (.int .u64 (wdN L 3 : Nat)) :=
  SetAt.cells (h.below' (below_of_drew hb))
theorem SetAt.free_drew {w w1 : World} {g : Nat} {L : List Bool} (h : SetAt w g L) (hb : Below w.drew.heap.size w.drew w1) : w1.frozen? ⟨g, 0, none⟩ = false ∧ w1.frozen? ⟨g, 1, none⟩ = false ∧ w1.frozen? ⟨g, 2, none⟩ = false ∧ w1.frozen? ⟨g, 3, none⟩ = false ∧ w1.frozen? ⟨g, 4, none⟩ = false :=
  have h1 := h.below' (below_of_drew hb)
  ⟨Bk.frozen h1 0, Bk.frozen h1 1, Bk.frozen h1 2, Bk.frozen h1 3, Bk.frozen h1 4⟩
theorem SetAt.lt' {w : World} {g : Nat} {L : List Bool} (h : SetAt w g L) : g < w.heap.size := Bk.lt h
theorem SetAt.put {w : World} {g : Nat} {L : List Bool} (h : SetAt w g L) (M : List Bool) : SetAt (((((w.setCell ⟨g, 0, none⟩ (.int .i64 (M.length : Nat))).setCell ⟨g, 1, none⟩ (.int .u64 (wdN M 0 : Nat))).setCell ⟨g, 2, none⟩ (.int .u64 (wdN M 1 : Nat))).setCell ⟨g, 3, none⟩ (.int .u64 (wdN M 2 : Nat))).setCell ⟨g, 4, none⟩ (.int .u64 (wdN M 3 : Nat))) g M := by
  have h5 := ((((Bk.set_ h 0 (.int .i64 (M.length : Nat))).set_ 1 (.int .u64 (wdN M 0 : Nat))).set_ 2 (.int .u64 (wdN M 1 : Nat))).set_ 3 (.int .u64 (wdN M 2 : Nat))).set_ 4 (.int .u64 (wdN M 3 : Nat))
  exact h5
theorem ZeroAt.put {w : World} {g : Nat} (h : ZeroAt w g) (M : List Bool) : SetAt (((((w.setCell ⟨g, 0, none⟩ (.int .i64 (M.length : Nat))).setCell ⟨g, 1, none⟩ (.int .u64 (wdN M 0 : Nat))).setCell ⟨g, 2, none⟩ (.int .u64 (wdN M 1 : Nat))).setCell ⟨g, 3, none⟩ (.int .u64 (wdN M 2 : Nat))).setCell ⟨g, 4, none⟩ (.int .u64 (wdN M 3 : Nat))) g M := by
  have h5 := ((((Bk.set_ h 0 (.int .i64 (M.length : Nat))).set_ 1 (.int .u64 (wdN M 0 : Nat))).set_ 2 (.int .u64 (wdN M 1 : Nat))).set_ 3 (.int .u64 (wdN M 2 : Nat))).set_ 4 (.int .u64 (wdN M 3 : Nat))
  exact h5
theorem put_only (w : World) (g : Nat) (M : List Bool) : w.grownBy (((((w.setCell ⟨g, 0, none⟩ (.int .i64 (M.length : Nat))).setCell ⟨g, 1, none⟩ (.int .u64 (wdN M 0 : Nat))).setCell ⟨g, 2, none⟩ (.int .u64 (wdN M 1 : Nat))).setCell ⟨g, 3, none⟩ (.int .u64 (wdN M 2 : Nat))).setCell ⟨g, 4, none⟩ (.int .u64 (wdN M 3 : Nat))) (some g) :=
  only_trans (only_trans (only_trans (only_trans (only_set _ _ _ _) (only_set _ _ _ _)) (only_set _ _ _ _)) (only_set _ _ _ _)) (only_set _ _ _ _)
theorem ZeroAt.cells {w : World} {g : Nat} (h : ZeroAt w g) : w.cell? ⟨g, 0, none⟩ = some (.int .i64 0) ∧ w.cell? ⟨g, 1, none⟩ = some (.int .u64 0) ∧ w.cell? ⟨g, 2, none⟩ = some (.int .u64 0) ∧ w.cell? ⟨g, 3, none⟩ = some (.int .u64 0) ∧ w.cell? ⟨g, 4, none⟩ = some (.int .u64 0) :=
  ⟨Bk.cell h 0, Bk.cell h 1, Bk.cell h 2, Bk.cell h 3, Bk.cell h 4⟩
theorem ZeroAt.free {w : World} {g : Nat} (h : ZeroAt w g) : w.frozen? ⟨g, 0, none⟩ = false ∧ w.frozen? ⟨g, 1, none⟩ = false ∧ w.frozen? ⟨g, 2, none⟩ = false ∧ w.frozen? ⟨g, 3, none⟩ = false ∧ w.frozen? ⟨g, 4, none⟩ = false :=
  ⟨Bk.frozen h 0, Bk.frozen h 1, Bk.frozen h 2, Bk.frozen h 3, Bk.frozen h 4⟩
end Go.Proofs.YtaagdoaeefhleaaDoor
