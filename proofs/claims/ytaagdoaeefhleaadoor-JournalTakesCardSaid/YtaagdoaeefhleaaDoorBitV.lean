/-
  The walk of a set's Put.
-/
import Derived.Test.YtaagdoaeefhleaaDoorP8
import Derived.Test.YtaagdoaeefhleaaDoorP3
import Derived.Test.YtaagdoaeefhleaaDoorPutW
namespace Go.Proofs.YtaagdoaeefhleaaDoor
open Go.RowKit

theorem fix8 (n : Nat) : ofL (be (wrap64 (n : Int)) (fixK 8)) = ofL (be (n : Int) 8) := by
  rw [show fixK 8 = 8 from by decide, be_congr (wrap64_mod _ 8 (by omega))]

set_option maxHeartbeats 1000000 in
theorem putS_any (L : List Bool) (w : World) : Calls Tryd.prog 23 #[setV L] w fun e w' => e = .returned (.string (ofL (putW L 4))) ∧ Below w.heap.size w w' := by
  obtain ⟨x0, h0⟩ : ∃ x0 : Nat, x0 = wdN L 0 := ⟨_, rfl⟩
  obtain ⟨x1, h1⟩ : ∃ x1 : Nat, x1 = wdN L 1 := ⟨_, rfl⟩
  obtain ⟨x2, h2⟩ : ∃ x2 : Nat, x2 = wdN L 2 := ⟨_, rfl⟩
  obtain ⟨x3, h3⟩ : ∃ x3 : Nat, x3 = wdN L 3 := ⟨_, rfl⟩
  unfold setV
  rw [← h0, ← h1, ← h2, ← h3]
  have i0 : ∀ w, (Instr.index 30 (.agg #[.int .u64 (x0 : Nat), .int .u64 (x1 : Nat), .int .u64 (x2 : Nat), .int .u64 (x3 : Nat)]) (.int .i64 0)).run Tryd.prog w = .ok (.int .u64 (x0 : Nat)) w := fun _ => by kernel_rfl
  have i1 : ∀ w, (Instr.index 30 (.agg #[.int .u64 (x0 : Nat), .int .u64 (x1 : Nat), .int .u64 (x2 : Nat), .int .u64 (x3 : Nat)]) (.int .i64 1)).run Tryd.prog w = .ok (.int .u64 (x1 : Nat)) w := fun _ => by kernel_rfl
  have i2 : ∀ w, (Instr.index 30 (.agg #[.int .u64 (x0 : Nat), .int .u64 (x1 : Nat), .int .u64 (x2 : Nat), .int .u64 (x3 : Nat)]) (.int .i64 2)).run Tryd.prog w = .ok (.int .u64 (x2 : Nat)) w := fun _ => by kernel_rfl
  have i3 : ∀ w, (Instr.index 30 (.agg #[.int .u64 (x0 : Nat), .int .u64 (x1 : Nat), .int .u64 (x2 : Nat), .int .u64 (x3 : Nat)]) (.int .i64 3)).run Tryd.prog w = .ok (.int .u64 (x3 : Nat)) w := fun _ => by kernel_rfl
  have H0 := Lib.hid h0
  have H1 := Lib.hid h1
  have H2 := Lib.hid h2
  have H3 := Lib.hid h3
  clear h0 h1 h2 h3
  go_enter Tryd.func23, Tryd.ntmps23
  go_wp2
  go_loopw [3, 5, 8] (fun s x i wr => ∃ k : Nat, k ≤ 4 ∧ i = .int .i64 k ∧ s = .string (ofL (putW L k)) ∧ Below w.heap.size w wr) (fun _ _ i _ => 4 - (intOf i).toNat)
  case atStart => exact ⟨0, by omega, rfl, rfl, (Below.refl _ _).alloc (Nat.le_refl _) _⟩
  case round =>
    obtain ⟨k, hk, rfl, rfl, hb⟩ := hrel
    by_cases hlt : k < 4
    · have hs1 : (ofL (putW L k)).size ≤ 32 := by rw [size_ofL, putW_length]; omega
      have hsz := hb.size
      have hkk : k = 0 ∨ k = 1 ∨ k = 2 ∨ k = 3 := by omega
      rcases hkk with rfl | rfl | rfl | rfl
      · have hs2 : (ofL (be (wrap64 (x0 : Int)) (fixK 8))).size ≤ 8 := by rw [size_ofL, be_length]; exact fixK_le 8
        go_wp2_with (go_at_call 22; go_must (refine (fixed_any _ 8 _).mono ?_); rintro e w1 ⟨rfl, hb1⟩)
        go_roundw
        case rel => exact ⟨1, by omega, by go_num, by rw [fix8, ofL_app, H0.out, ← putW_succ], below_then hb hb1 hsz⟩
        case measure => simp [intOf]
      · have hs2 : (ofL (be (wrap64 (x1 : Int)) (fixK 8))).size ≤ 8 := by rw [size_ofL, be_length]; exact fixK_le 8
        go_wp2_with (go_at_call 22; go_must (refine (fixed_any _ 8 _).mono ?_); rintro e w1 ⟨rfl, hb1⟩)
        go_roundw
        case rel => exact ⟨2, by omega, by go_num, by rw [fix8, ofL_app, H1.out, ← putW_succ], below_then hb hb1 hsz⟩
        case measure => simp [intOf]
      · have hs2 : (ofL (be (wrap64 (x2 : Int)) (fixK 8))).size ≤ 8 := by rw [size_ofL, be_length]; exact fixK_le 8
        go_wp2_with (go_at_call 22; go_must (refine (fixed_any _ 8 _).mono ?_); rintro e w1 ⟨rfl, hb1⟩)
        go_roundw
        case rel => exact ⟨3, by omega, by go_num, by rw [fix8, ofL_app, H2.out, ← putW_succ], below_then hb hb1 hsz⟩
        case measure => simp [intOf]
      · have hs2 : (ofL (be (wrap64 (x3 : Int)) (fixK 8))).size ≤ 8 := by rw [size_ofL, be_length]; exact fixK_le 8
        go_wp2_with (go_at_call 22; go_must (refine (fixed_any _ 8 _).mono ?_); rintro e w1 ⟨rfl, hb1⟩)
        go_roundw
        case rel => exact ⟨4, by omega, by go_num, by rw [fix8, ofL_app, H3.out, ← putW_succ], below_then hb hb1 hsz⟩
        case measure => simp [intOf]
    · obtain rfl : k = 4 := by omega
      go_wp2
      go_ret
      exact ⟨rfl, hb⟩

end Go.Proofs.YtaagdoaeefhleaaDoor
