/-
  The walks of Size and of the reference's Has.
-/
import Derived.Test.YtaagdoaeefhleaaBitO
namespace Go.Proofs.Ytaagdoaeefhleaa
open Go.RowKit

set_option maxHeartbeats 400000 in
theorem size_any (L : List Bool) (w : World) : Calls Try.prog 23 #[setV L] w fun e w' => e = .returned (.int .i64 (L.length : Nat)) ∧ Below w.heap.size w w' := by
  unfold setV
  go_enter Try.func23, Try.ntmps23
  go_wp2
  go_ret
  exact ⟨rfl, (Below.refl _ _).alloc (Nat.le_refl _) _⟩

set_option maxHeartbeats 400000 in
theorem hasRef_any (A : Option Addr) (n c : Nat) (L : List Bool) (i : Int) (w : World) (hL : L.length = n) (_hn : n ≤ 1000000) (hr : Rd w A (L.map Value.bool)) :
    Calls Try.prog 28 #[.slice A n c, .int .i64 i] w fun e w' => e = .returned (.bool (hasB L i)) ∧ w = w' := by
  have HL := Lib.hid hL
  clear hL
  by_cases h0 : i < 0
  · have H := Lib.hid (show hasB L i = false by unfold hasB; simp; omega)
    go_enter Try.func28, Try.ntmps28
    go_wp2
    go_ret
    exact ⟨by rw [H.out]; rfl, rfl⟩
  · obtain ⟨k, rfl⟩ : ∃ k : Nat, i = k := ⟨i.toNat, by omega⟩
    by_cases h1 : (n : Int) ≤ (k : Int)
    · have H := Lib.hid (show hasB L k = false by unfold hasB; simp [List.getD_eq_getElem?_getD, List.getElem?_eq_none (show L.length ≤ k by rw [HL.out]; omega)])
      go_enter Try.func28, Try.ntmps28
      go_wp2
      go_ret
      exact ⟨by rw [H.out]; rfl, rfl⟩
    · obtain ⟨b, o, rfl, hcell⟩ := rd_bool hr k (by rw [HL.out]; omega)
      have H := Lib.hid (show hasB L k = L.getD k false by unfold hasB; simp)
      go_enter Try.func28, Try.ntmps28
      go_wp2
      go_ret
      exact ⟨by rw [H.out]; simp [List.getD_eq_getElem?_getD], rfl⟩

theorem hasRef_val (A : Option Addr) (n c : Nat) (L : List Bool) (k : Nat) (b : Bool) (w : World) (hL : L.length = n) (hn : n ≤ 1000000) (hr : Rd w A (L.map Value.bool)) (hb : L.getD k false = b) :
    Calls Try.prog 28 #[.slice A n c, .int .i64 k] w fun e w' => e = .returned (.bool b) ∧ w = w' := by
  have h := hasRef_any A n c L (k : Nat) w hL hn hr
  rw [show hasB L (k : Nat) = b by unfold hasB; rw [← hb]; simp] at h
  exact h

theorem hasRef_int (A : Option Addr) (n c : Nat) (L : List Bool) (i : Int) (k : Nat) (b : Bool) (w : World) (hi : i = k) (hL : L.length = n) (hn : n ≤ 1000000) (hr : Rd w A (L.map Value.bool)) (hb : L.getD k false = b) :
    Calls Try.prog 28 #[.slice A n c, .int .i64 i] w fun e w' => e = .returned (.bool b) ∧ w = w' := by
  subst hi
  exact hasRef_val A n c L k b w hL hn hr hb
end Go.Proofs.Ytaagdoaeefhleaa
