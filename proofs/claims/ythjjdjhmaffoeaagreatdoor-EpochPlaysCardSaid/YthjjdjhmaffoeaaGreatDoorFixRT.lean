/-
  The reference's Take.
-/
import Derived.Test.YthjjdjhmaffoeaaGreatDoorFixT
import Derived.Test.YthjjdjhmaffoeaaGreatDoorFixR
import Derived.BigQuiet
import Derived.Deep.QuietTactic
namespace Go.Proofs.YthjjdjhmaffoeaaGreatDoor
open Go.RowKit

set_option maxHeartbeats 400000 in
theorem number_any (s : ByteArray) (w : World) (hs : s.size ≤ 8) :
    Calls Tryz.prog 57 #[.string s] w fun e w' => e = .returned (.int .i64 (wrap64 (num s.toList))) ∧ w = w' := by
  go_enter Tryz.func57, Tryz.ntmps57
  go_wp2
  go_loop [3, 4] (fun n i => ∃ k : Nat, k ≤ s.size ∧ i = .int .i64 k ∧ n = .int .i64 (wrap64 (num (s.toList.take k)))) (fun _ i => s.size - (intOf i).toNat)
  case atStart => exact ⟨0, by omega, rfl, by simp [num, wrap64]⟩
  case round =>
    obtain ⟨k, h1, rfl, rfl⟩ := hrel
    by_cases hlt : k < s.size
    · go_wp2
      go_round
      case rel =>
        refine ⟨k + 1, by omega, by go_num, ?_⟩
        have hb := UInt8.toNat_lt s[k]
        rw [List.take_succ_eq_append_getElem (by rw [size_toList]; exact hlt), num_snoc, ← getElem_toList, wrap64_mul256_wrap, wrap64_id (s[k].toNat : Int) (by omega) (by omega), wrap64_add_wrap]
        rfl
      case measure => simp [intOf]; omega
    · obtain rfl : k = s.size := by omega
      go_wp2
      go_ret
      exact ⟨ret_int (by rw [List.take_of_length_le (by rw [size_toList]; omega)]), rfl⟩


set_option maxHeartbeats 1000000 in
theorem takeFRef_any (s : ByteArray) (m : Int) (w : World) (_hs : s.size ≤ 9223372036854775807) :
    Calls Tryz.prog 32 #[.string s, .int .i64 m] w fun e w' => FixEnd s.toList m e ∧ Below w.heap.size w w' := by
  by_cases h1 : m < 1
  · have Ht := Lib.hid (show takeF s.toList m = (0, [], 1) by unfold takeF; rw [if_pos (by omega)])
    go_enter Tryz.func32, Tryz.ntmps32
    go_wp2
    go_ret3
    exact ⟨FixEnd.mk_ (by rw [toList_nil]; exact Ht.out), Below.refl _ _⟩
  · by_cases h2 : 8 < m
    · have Ht := Lib.hid (show takeF s.toList m = (0, [], 1) by unfold takeF; rw [if_pos (by omega)])
      go_enter Tryz.func32, Tryz.ntmps32
      go_wp2
      go_ret3
      exact ⟨FixEnd.mk_ (by rw [toList_nil]; exact Ht.out), Below.refl _ _⟩
    · by_cases h3 : (s.size : Int) < m
      · have Ht := Lib.hid (show takeF s.toList m = (0, [], 2) by unfold takeF; rw [if_neg (by omega), if_pos (by rw [size_toList]; omega)])
        go_enter Tryz.func32, Tryz.ntmps32
        go_wp2
        go_ret3
        exact ⟨FixEnd.mk_ (by rw [toList_nil]; exact Ht.out), Below.refl _ _⟩
      · obtain ⟨k, rfl⟩ : ∃ k : Nat, m = k := ⟨m.toNat, by omega⟩
        have Ht := Lib.hid (show takeF s.toList k = (wrap64 (num (s.toList.take k)), s.toList.drop k, 0) by unfold takeF; rw [if_neg (by omega), if_neg (by rw [size_toList]; omega)]; rfl)
        go_enter Tryz.func32, Tryz.ntmps32
        go_wp2_with fail
        go_quiet ((go_at_call 57; exact quiet_sym (number_any _ _ (by rw [← size_toList, toList_pre, List.length_take]; omega))))
        go_wp2
        go_ret3
        exact ⟨FixEnd.mk_ (by rw [toList_pre, toList_suf]; exact Ht.out), below_drewN (Below.refl _ _) _⟩

theorem takeFR_is (s r : ByteArray) (m n k : Int) (w : World) (hs : s.size ≤ 9223372036854775807) (h : takeF s.toList m = (n, r.toList, k)) :
    Calls Tryz.prog 32 #[.string s, .int .i64 m] w fun e w' => e = .returned (.tuple #[.int .i64 n, .string r, .int .i64 k]) ∧ Below w.heap.size w w' :=
  (takeFRef_any s m w hs).mono fun e w' ⟨he, hb⟩ => ⟨by rw [he, h]; simp only [ofL_toList], hb⟩
end Go.Proofs.YthjjdjhmaffoeaaGreatDoor
