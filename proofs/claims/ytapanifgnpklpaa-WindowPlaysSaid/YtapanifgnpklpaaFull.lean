/-
  The walk of Full.
-/
import Derived.Test.YtapanifgnpklpaaBitC
import Derived.Deep.RegionWith
namespace Go.Proofs.Ytapanifgnpklpaa
open Go.RowKit

set_option maxHeartbeats 400000 in
theorem full_any (L : List Bool) (w : World) (hL : L.length ≤ 256) : Calls Try.prog 18 #[setV L] w fun e w' => e = .returned (.bool ((cntP L L.length : Int) == (L.length : Int))) ∧ Below w.heap.size w w' := by
  have hS := SetAt.new w L
  unfold setV
  go_enter Try.func18, Try.ntmps18
  go_wp2_with fail
  go_region_with (go_at_call 28; refine (count_any L _ hL).mono ?_; rintro e w1 ⟨rfl, hb1⟩; obtain ⟨f0, f1, f2, f3, f4⟩ := SetAt.cells_drew hS hb1)
  all_goals
    go_wp2
    go_ret
    exact ⟨rfl, below_of_alloc (below_of_drew hb1)⟩

theorem cntP_step (L : List Bool) (k : Nat) : cntP L (k + 1) = cntP L k + (if L.getD k false then 1 else 0) := rfl

end Go.Proofs.Ytapanifgnpklpaa
