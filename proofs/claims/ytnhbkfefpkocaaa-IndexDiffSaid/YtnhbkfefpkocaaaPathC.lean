/-
  Chapter 11's examples (awake); cut.
-/
import Derived.Test.YtnhbkfefpkocaaaPathB
namespace Go.Proofs.Ytnhbkfefpkocaaa
open Go.RowKit

theorem okP_lit (l : List UInt8) : okP ⟨l.toArray⟩ = if pathOk l then 0 else 5 := by unfold okP; rw [mk_ofL, toList_ofL]
theorem check_k (p : ByteArray) (k : Int) (h : okP p = k) (hs : p.size ≤ 9223372036854775807) (w : World) :
    Calls Try.prog 36 #[.string p] w fun e w' => e = .returned (.int .i64 k) ∧ Below w.heap.size w w' := by subst h; exact check_any p w hs


/-- A text of at most 5000 bytes out of any one. -/
def cutL (s : ByteArray) : ByteArray := ofL (s.toList.take 5000)
theorem cutL_size (s : ByteArray) : (cutL s).size ≤ 5000 := by unfold cutL; rw [size_ofL, List.length_take]; omega
end Go.Proofs.Ytnhbkfefpkocaaa
