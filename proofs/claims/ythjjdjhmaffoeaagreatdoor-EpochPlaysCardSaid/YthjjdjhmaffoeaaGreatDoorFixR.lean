/-
  The reference's Fixed.
-/
import Derived.Test.YthjjdjhmaffoeaaGreatDoorFix
import Derived.BigQuiet
import Derived.Deep.QuietTactic
namespace Go.Proofs.YthjjdjhmaffoeaaGreatDoor
open Go.RowKit

set_option maxHeartbeats 400000 in
theorem one_any (a : Int) (w : World) :
    Calls Tryz.prog 65 #[.int .i64 a] w fun e w' => e = .returned (.string (ofL [byteOf a])) ∧ Below w.heap.size w w' := by
  have hconv := conv_back (P := Tryz.prog) (w.alloc (.cells #[.int .u8 (a % 256)] 5)) 77 9 5 ⟨w.heap.size, 0, none⟩ 1 [byteOf a] 1 rfl Tryz.underlying77 Tryz.underlying5 Tryz.underlying9
    (by
      intro j u hj
      match j, hj with
      | 0, hj => simp only [List.map_cons, List.getElem?_cons_zero, Option.some.injEq, byteOf_toNat] at hj; subst hj; go_simp)
  go_enter Tryz.func65, Tryz.ntmps65
  go_wp2
  go_ret
  exact ⟨rfl, (Below.refl _ _).alloc (Nat.le_refl _) _⟩

theorem be_bytes (n : Int) (k : Nat) : ofL [byteOf (bits BinOp.and IntKind.i64 (n / 256 ^ k) 255)] ++ ofL (be n k) = ofL (be n (k + 1)) := by
  rw [ofL_app, bitsand255, byteOf_emod, be_cons]; rfl
theorem div256 (n : Int) (k : Nat) : n / 256 ^ k / 256 = n / 256 ^ (k + 1) := by
  rw [Int.ediv_ediv_of_nonneg (Int.le_of_lt (Int.pow_pos (by omega))), ← Int.pow_succ]

set_option maxHeartbeats 400000 in
theorem bytes_any (n : Int) (m : Nat) (w : World) (hm : m ≤ 8) :
    Calls Tryz.prog 48 #[.int .i64 n, .int .i64 m] w fun e w' => e = .returned (.string (ofL (be n m))) ∧ Below w.heap.size w w' := by
  go_enter Tryz.func48, Tryz.ntmps48
  go_wp2
  go_loopw [0, 5, 6] (fun v s i wr => ∃ k : Nat, k ≤ m ∧ i = .int .i64 k ∧ v = .int .i64 (n / 256 ^ k) ∧ s = .string (ofL (be n k)) ∧ Below w.heap.size w wr) (fun _ _ i _ => m - (intOf i).toNat)
  case atStart => exact ⟨0, by omega, rfl, by simp, rfl, Below.refl _ _⟩
  case round =>
    obtain ⟨k, h1, rfl, rfl, rfl, hb⟩ := hrel
    by_cases hlt : k < m
    · have hs1 : (ofL [byteOf (bits BinOp.and IntKind.i64 (n / 256 ^ k) 255)]).size ≤ 1 := by rw [size_ofL]; simp
      have hs2 : (ofL (be n k)).size ≤ 8 := by rw [size_ofL, be_length]; omega
      go_wp2_with (go_at_call 65; refine (one_any _ _).mono ?_; rintro e w1 ⟨rfl, hb1⟩)
      go_roundw
      case rel => exact ⟨k + 1, by omega, by go_num, by rw [div256], by rw [be_bytes], below_then hb hb1 hb.size⟩
      case measure => simp [intOf]; omega
    · obtain rfl : k = m := by omega
      go_wp2
      go_ret
      exact ⟨rfl, hb⟩

set_option maxHeartbeats 400000 in
theorem fixedRef_any (n m : Int) (w : World) :
    Calls Tryz.prog 25 #[.int .i64 n, .int .i64 m] w fun e w' => e = .returned (.string (ofL (be n (fixK m)))) ∧ Below w.heap.size w w' := by
  have hk := fixK_le m
  by_cases h1 : m < 0
  · have e : fixK m = 0 := by unfold fixK; omega
    rw [e]
    go_enter Tryz.func25, Tryz.ntmps25
    go_wp2_with fail
    refine (bytes_any n 0 _ (by omega)).mono ?_
    rintro e w1 ⟨rfl, hb1⟩
    go_wp2
    go_ret
    exact ⟨rfl, hb1⟩
  · by_cases h2 : 8 < m
    · have e : fixK m = 8 := by unfold fixK; omega
      rw [e]
      go_enter Tryz.func25, Tryz.ntmps25
      go_wp2_with fail
      refine (bytes_any n 8 _ (by omega)).mono ?_
      rintro e w1 ⟨rfl, hb1⟩
      go_wp2
      go_ret
      exact ⟨rfl, hb1⟩
    · obtain ⟨k, rfl⟩ : ∃ k : Nat, m = k := ⟨m.toNat, by omega⟩
      have e : fixK (k : Int) = k := by unfold fixK; omega
      have E := Lib.hid e
      clear e
      rw [E.out] at hk ⊢
      go_enter Tryz.func25, Tryz.ntmps25
      go_wp2_with fail
      refine (bytes_any n k _ hk).mono ?_
      rintro e w1 ⟨rfl, hb1⟩
      go_wp2
      go_ret
      exact ⟨rfl, hb1⟩

end Go.Proofs.YthjjdjhmaffoeaaGreatDoor
