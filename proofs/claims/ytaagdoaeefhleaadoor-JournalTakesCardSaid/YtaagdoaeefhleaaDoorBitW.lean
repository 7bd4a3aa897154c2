/-
  A set's Has and Without.
-/
import Derived.Test.YtaagdoaeefhleaaDoorP7
namespace Go.Proofs.YtaagdoaeefhleaaDoor
open Go.RowKit

set_option maxHeartbeats 400000 in
theorem has_any (L : List Bool) (i : Int) (w : World) (hL : L.length ≤ 256) :
    Calls Tryd.prog 44 #[setV L, .int .i64 i] w fun e w' => e = .returned (.bool (hasB L i)) ∧ Below w.heap.size w w' := by
  unfold setV
  by_cases h0 : i < 0
  · have H := Lib.hid (show hasB L i = false by unfold hasB; simp; omega)
    go_enter Tryd.func44, Tryd.ntmps44
    go_wp2
    go_ret
    exact ⟨by rw [H.out]; rfl, (Below.refl _ _).alloc (Nat.le_refl _) _⟩
  · obtain ⟨k, rfl⟩ : ∃ k : Nat, i = k := ⟨i.toNat, by omega⟩
    by_cases h1 : (L.length : Int) ≤ (k : Int)
    · have H := Lib.hid (show hasB L k = false by unfold hasB; simp [List.getD_eq_getElem?_getD, List.getElem?_eq_none (show L.length ≤ k by omega)])
      go_enter Tryd.func44, Tryd.ntmps44
      go_wp2
      go_ret
      exact ⟨by rw [H.out]; rfl, (Below.refl _ _).alloc (Nat.le_refl _) _⟩
    · have hw := setList_word L (k / 64) (by omega)
      go_enter Tryd.func44, Tryd.ntmps44
      go_wp2
      go_ret
      exact ⟨ret_bool (has_test L k), (Below.refl _ _).alloc (Nat.le_refl _) _⟩

end Go.Proofs.YtaagdoaeefhleaaDoor
