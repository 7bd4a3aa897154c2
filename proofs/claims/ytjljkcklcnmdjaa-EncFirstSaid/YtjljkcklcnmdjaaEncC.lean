/-
  The walks of sledgeref01.PutAll, enc.TakeNum, sledgeref01.TakeNum, the texts, Fixed and Take.
-/
import Derived.Test.YtjljkcklcnmdjaaEncB
namespace Go.Proofs.Ytjljkcklcnmdjaa
open Go.RowKit

set_option maxHeartbeats 1000000 in
theorem putAll_any (A : Option Addr) (n c : Nat) (xs : List Int) (w : World) (hx : xs.length = n) (hr : Rd w A (xs.map (Value.int .i64))) (hn : n ≤ 1000000000000) :
    Calls Try.prog 11 #[.slice A n c] w fun e w' => e = .returned (.string (ofL (putNums xs))) ∧ Below w.heap.size w w' := by
  go_enter Try.func11, Try.ntmps11
  go_wp2
  go_loopw [3, 4] (fun s i wr => ∃ k : Nat, k ≤ n ∧ i = .int .i64 k ∧ s = .string (ofL (putNums (xs.take k))) ∧ Below w.heap.size w wr) (fun _ i _ => n - (intOf i).toNat)
  case atStart => exact ⟨0, by omega, rfl, rfl, Below.refl _ _⟩
  case round =>
    obtain ⟨k, hk, rfl, rfl, hb⟩ := hrel
    have hsz := hb.size
    by_cases hlt : k < n
    · obtain ⟨bb, oo, rfl, hcell⟩ := (hr.below hb).at_ (k := k) (by simp; omega)
      have hsn : putNums (xs.take (k + 1)) = putNums (xs.take k) ++ putN (clampN xs[k]) := by rw [take_snoc _ _ (by omega), putNums_snoc]
      have hlen : (putNums (xs.take k)).length ≤ 9 * n := by have := putNums_length (xs.take k); have := List.length_take_le k xs; omega
      rw [List.getElem_map] at hcell
      generalize xs[k] = x at hcell hsn
      have Hsn := Lib.hid hsn
      clear hsn
      generalize putNums (xs.take k) = L at hlen Hsn ⊢
      have hs1 : (ofL L).size ≤ 9 * n := by rw [size_ofL]; omega
      have hs2 : (ofL (putN (clampN x))).size ≤ 9 := by rw [size_ofL]; exact putN_length _
      go_wp2_with (go_at_call 15; refine (put_any _ _).mono ?_; rintro e w1 ⟨rfl, hb1⟩)
      go_roundw
      case rel => exact ⟨k + 1, by omega, by go_num, by rw [Hsn.out, ofL_app], below_then hb hb1 hsz⟩
      case measure => simp [intOf]; omega
    · go_wp2
      go_ret
      exact ⟨ret_str (by rw [List.take_of_length_le (by omega)]), hb⟩

end Go.Proofs.Ytjljkcklcnmdjaa
