/-
  The walks of package bitset and of its reference (chapter 22), the small ones.
-/
import Derived.Test.YtfkbcmmhpopdnaaChecked
import Derived.Test.YtfkbcmmhpopdnaaBitP
import Derived.Lib.Hide
import Derived.Deep.DeepMust
import Derived.RegionTactic
import Derived.BigRegion
namespace Go.Proofs.Ytfkbcmmhpopdnaa
open Go.RowKit

def setV (L : List Bool) : Value := .agg #[.int .i64 (L.length : Nat), .int .u64 (wdN L 0 : Nat), .int .u64 (wdN L 1 : Nat), .int .u64 (wdN L 2 : Nat), .int .u64 (wdN L 3 : Nat)]
def clampB (n : Int) : Nat := min n.toNat 256
def newB (n : Int) : List Bool := List.replicate (clampB n) false
theorem newB_length (n : Int) : (newB n).length = clampB n := by simp [newB]
theorem clampB_le (n : Int) : clampB n ≤ 256 := by unfold clampB; omega
theorem newB_word (n : Int) (q : Nat) : wdN (newB n) q = 0 := by
  refine wdN_ext (wdN_lt _ _) (by omega) fun i hi => ?_
  rw [wdN_bit _ _ _ hi]
  simp [newB, List.getD_eq_getElem?_getD, List.getElem?_replicate]
  split <;> rfl
theorem setV_new (n : Int) : setV (newB n) = .agg #[.int .i64 (clampB n : Nat), .int .u64 0, .int .u64 0, .int .u64 0, .int .u64 0] := by
  unfold setV
  rw [newB_word, newB_word, newB_word, newB_word, newB_length]; rfl

set_option maxHeartbeats 400000 in
theorem new_any (n : Int) (w : World) :
    Calls Try.prog 41 #[.int .i64 n] w fun e w' => e = .returned (setV (newB n)) ∧ Below w.heap.size w w' := by
  have Hv := Lib.hid (setV_new n)
  have hc : clampB n = min n.toNat 256 := rfl
  by_cases h1 : n < 0
  · have Hk := Lib.hid (show ((clampB n : Nat) : Int) = 0 by omega)
    clear hc
    go_enter Try.func41, Try.ntmps41
    go_wp2
    exact bodyPost_ret (v := setV (newB n)) (by rw [Hv.out, Hk.out]; simp [results, Try.results41, go_sem]) rfl ⟨rfl, (Below.refl _ _).alloc (Nat.le_refl _) _⟩
  · by_cases h2 : 256 < n
    · have Hk := Lib.hid (show ((clampB n : Nat) : Int) = 256 by omega)
      clear hc
      go_enter Try.func41, Try.ntmps41
      go_wp2
      exact bodyPost_ret (v := setV (newB n)) (by rw [Hv.out, Hk.out]; simp [results, Try.results41, go_sem]) rfl ⟨rfl, (Below.refl _ _).alloc (Nat.le_refl _) _⟩
    · have Hk := Lib.hid (show ((clampB n : Nat) : Int) = n by omega)
      clear hc
      go_enter Try.func41, Try.ntmps41
      go_wp2
      exact bodyPost_ret (v := setV (newB n)) (by rw [Hv.out, Hk.out]; simp [results, Try.results41, go_sem]) rfl ⟨rfl, (Below.refl _ _).alloc (Nat.le_refl _) _⟩

set_option maxHeartbeats 400000 in
theorem with_any (L : List Bool) (i : Int) (w : World) (hL : L.length ≤ 256) :
    Calls Try.prog 42 #[setV L, .int .i64 i] w fun e w' => e = .returned (setV (setB L i true)) ∧ Below w.heap.size w w' := by
  unfold setV
  by_cases h0 : i < 0
  · have H := Lib.hid (show setB L i true = L by unfold setB; rw [if_neg (by omega)])
    rw [H.out]
    go_enter Try.func42, Try.ntmps42
    go_wp2
    exact bodyPost_ret (v := setV L) (by unfold setV; simp [results, Try.results42, go_sem]) rfl ⟨rfl, ((Below.refl _ _).alloc (Nat.le_refl _) _).alloc (by simp) _⟩
  · obtain ⟨k, rfl⟩ : ∃ k : Nat, i = k := ⟨i.toNat, by omega⟩
    by_cases h1 : (L.length : Int) ≤ (k : Int)
    · have H := Lib.hid (show setB L k true = L by unfold setB; rw [if_pos (by omega)]; exact List.set_eq_of_length_le (by omega))
      rw [H.out]
      go_enter Try.func42, Try.ntmps42
      go_wp2
      exact bodyPost_ret (v := setV L) (by unfold setV; simp [results, Try.results42, go_sem]) rfl ⟨rfl, ((Below.refl _ _).alloc (Nat.le_refl _) _).alloc (by simp) _⟩
    · have hw := setList_word L (k / 64) (by omega)
      obtain ⟨M, hM⟩ : ∃ M, M = L.set k true := ⟨_, rfl⟩
      have Hset := Lib.hid (list_set L M k _ true (by omega) (by omega) hM ((with_word L k (by omega)).trans (by rw [hM])))
      have H := Lib.hid (show setB L k true = M by unfold setB; rw [if_pos (by omega), hM]; rfl)
      clear hM
      rw [H.out]
      go_enter Try.func42, Try.ntmps42
      go_wp2
      go_region
      rw [Hset.out]
      go_wp2
      exact bodyPost_ret (v := setV M) (by unfold setV; simp [results, Try.results42, go_sem]) rfl ⟨rfl, (((Below.refl _ _).alloc (Nat.le_refl _) _).alloc (by simp) _).drew⟩
end Go.Proofs.Ytfkbcmmhpopdnaa
