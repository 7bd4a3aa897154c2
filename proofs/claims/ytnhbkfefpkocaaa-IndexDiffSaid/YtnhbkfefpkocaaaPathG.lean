/-
  The walk of the law PathUnder.
-/
import Derived.Test.YtnhbkfefpkocaaaPathF
namespace Go.Proofs.Ytnhbkfefpkocaaa
open Go.RowKit

theorem under_k (p f : ByteArray) (k : Bool) (h : und p.toList f.toList = k) (hp : p.size ≤ 100000000) (hf : f.size ≤ 100000000) (w : World) :
    Calls Try.prog 55 #[.string p, .string f] w fun e w' => e = .returned (.bool k) ∧ w' = w := by subst h; exact under_any p f w hp hf
theorem underR_k (p f : ByteArray) (k : Bool) (h : und p.toList f.toList = k) (hp : p.size ≤ 100000000) (hf : f.size ≤ 100000000) (w : World) :
    Calls Try.prog 56 #[.string p, .string f] w fun e w' => e = .returned (.bool k) ∧ w' = w := by subst h; exact underR_any p f w hp hf

end Go.Proofs.Ytnhbkfefpkocaaa
