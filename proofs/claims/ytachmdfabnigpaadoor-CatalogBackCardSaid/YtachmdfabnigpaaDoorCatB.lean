/-
  An entry of a catalog: do two meet (catalog.Meet, the reference's); the law's zeros, at and light.
-/
import Derived.Test.YtachmdfabnigpaaDoorCatA
import Derived.Test.YtachmdfabnigpaaDoorFrame
namespace Go.Proofs.YtachmdfabnigpaaDoor
open Go.RowKit

/-- Do two places meet? -/
def meetB (b1 n1 b2 n2 : Int) : Bool := decide (b1 < b2 + n2 ∧ b2 < b1 + n1)
theorem meet_sym (b1 n1 b2 n2 : Int) : meetB b2 n2 b1 n1 = meetB b1 n1 b2 n2 := by
  unfold meetB; rw [decide_eq_decide]; exact And.comm
theorem meet_self (b n : Int) (h : 1 ≤ n) : meetB b n b n = true := decide_eq_true ⟨by omega, by omega⟩
theorem extOk_num {id : Int} {sa : ByteArray} {n bs raw : Int} {ro ta : ByteArray} {ba : Int} (h : extOk id sa n bs raw ro ta ba = true) : 1 ≤ n ∧ n ≤ 256 ∧ 0 ≤ ba ∧ ba ≤ 1024 - n := by
  have h1 := hdrOk_parts (extOk_hdr h)
  unfold extOk at h
  rw [Bool.and_eq_true] at h
  have h2 := of_decide_eq_true h.2
  omega


end Go.Proofs.YtachmdfabnigpaaDoor
