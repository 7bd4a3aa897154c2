/-
  A set's Has and Without.
-/
import Derived.Test.YtapanifgnpklpaaBit
namespace Go.Proofs.Ytapanifgnpklpaa
open Go.RowKit

set_option maxHeartbeats 400000 in
theorem has_any (L : List Bool) (i : Int) (w : World) (hL : L.length ≤ 256) :
    Calls Try.prog 27 #[setV L, .int .i64 i] w fun e w' => e = .returned (.bool (hasB L i)) ∧ Below w.heap.size w w' := by
  unfold setV
  by_cases h0 : i < 0
  · have H := Lib.hid (show hasB L i = false by unfold hasB; simp; omega)
    go_enter Try.func27, Try.ntmps27
    go_wp2
    go_ret
    exact ⟨by rw [H.out]; rfl, (Below.refl _ _).alloc (Nat.le_refl _) _⟩
  · obtain ⟨k, rfl⟩ : ∃ k : Nat, i = k := ⟨i.toNat, by omega⟩
    by_cases h1 : (L.length : Int) ≤ (k : Int)
    · have H := Lib.hid (show hasB L k = false by unfold hasB; simp [List.getD_eq_getElem?_getD, List.getElem?_eq_none (show L.length ≤ k by omega)])
      go_enter Try.func27, Try.ntmps27
      go_wp2
      go_ret
      exact ⟨by rw [H.out]; rfl, (Below.refl _ _).alloc (Nat.le_refl _) _⟩
    · have hw := setList_word L (k / 64) (by omega)
      go_enter Try.func27, Try.ntmps27
      go_wp2
      go_ret
      exact ⟨ret_bool (has_test L k), (Below.refl _ _).alloc (Nat.le_refl _) _⟩

set_option maxHeartbeats 400000 in
theorem without_any (L : List Bool) (i : Int) (w : World) (hL : L.length ≤ 256) :
    Calls Try.prog 32 #[setV L, .int .i64 i] w fun e w' => e = .returned (setV (setB L i false)) ∧ Below w.heap.size w w' := by
  unfold setV
  by_cases h0 : i < 0
  · have H := Lib.hid (show setB L i false = L by unfold setB; rw [if_neg (by omega)])
    rw [H.out]
    go_enter Try.func32, Try.ntmps32
    go_wp2
    exact bodyPost_ret (v := setV L) (by unfold setV; simp [results, Try.results32, go_sem]) rfl ⟨rfl, ((Below.refl _ _).alloc (Nat.le_refl _) _).alloc (by simp) _⟩
  · obtain ⟨k, rfl⟩ : ∃ k : Nat, i = k := ⟨i.toNat, by omega⟩
    by_cases h1 : (L.length : Int) ≤ (k : Int)
    · have H := Lib.hid (show setB L k false = L by unfold setB; rw [if_pos (by omega)]; exact List.set_eq_of_length_le (by omega))
      rw [H.out]
      go_enter Try.func32, Try.ntmps32
      go_wp2
      exact bodyPost_ret (v := setV L) (by unfold setV; simp [results, Try.results32, go_sem]) rfl ⟨rfl, ((Below.refl _ _).alloc (Nat.le_refl _) _).alloc (by simp) _⟩
    · have hw := setList_word L (k / 64) (by omega)
      obtain ⟨M, hM⟩ : ∃ M, M = L.set k false := ⟨_, rfl⟩
      have Hset := Lib.hid (list_set L M k _ false (by omega) (by omega) hM ((without_word L k (by omega)).trans (by rw [hM])))
      have H := Lib.hid (show setB L k false = M by unfold setB; rw [if_pos (by omega), hM]; rfl)
      clear hM
      rw [H.out]
      go_enter Try.func32, Try.ntmps32
      go_wp2
      go_region
      rw [Hset.out]
      go_wp2
      exact bodyPost_ret (v := setV M) (by unfold setV; simp [results, Try.results32, go_sem]) rfl ⟨rfl, (((Below.refl _ _).alloc (Nat.le_refl _) _).alloc (by simp) _).drew⟩
end Go.Proofs.Ytapanifgnpklpaa
