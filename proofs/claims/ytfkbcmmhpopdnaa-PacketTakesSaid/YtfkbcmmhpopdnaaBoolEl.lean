/-
  Lists of yes and no as cells.
-/
import Derived.Test.YtfkbcmmhpopdnaaBit
namespace Go.Proofs.Ytfkbcmmhpopdnaa
open Go.RowKit

theorem Try.info4 : (Try.prog.info? 4).map (fun i => (i.zero, i.size, i.bytes)) = some (some (.bool false), 1, 1) := by kernel_rfl
theorem el_bool : El Try.prog 77 4 1 1 := El.mk_ (z := .bool false) Try.underlying77 Try.info4 (by omega) rfl
theorem one_of_bools (L : List Bool) : ∀ u ∈ L.map Value.bool, u.oneCell' = true := by
  intro u hu
  obtain ⟨b, _, rfl⟩ := List.mem_map.1 hu
  rfl

end Go.Proofs.Ytfkbcmmhpopdnaa
