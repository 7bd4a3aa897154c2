/-
  The walk of the reference's Put.
-/
import Derived.Test.YtaagdoaeefhleaaBitY
import Derived.Test.YtaagdoaeefhleaaBitV
namespace Go.Proofs.Ytaagdoaeefhleaa
open Go.RowKit

theorem Try.info5' : (Try.prog.info? 5).map (fun i => (i.zero, i.size, i.bytes)) = some (some (.int .u8 0), 1, 1) := by kernel_rfl
theorem el_byte : El Try.prog 56 5 1 1 := El.mk_ (z := .int .u8 0) Try.underlying56 Try.info5' (by omega) rfl
/-- The bits of a word from place o + c on, below o + 8. -/
def partW (x o c : Nat) : Nat := x / 2 ^ (o + c) % 2 ^ (8 - c)
theorem partW_8 (x o : Nat) : partW x o 8 = 0 := by simp [partW, Nat.mod_one]
theorem partW_lt (x o c : Nat) : partW x o c < 256 := by
  unfold partW
  have h1 : x / 2 ^ (o + c) % 2 ^ (8 - c) < 2 ^ (8 - c) := Nat.mod_lt _ (Nat.pow_pos (by omega))
  have h2 : 2 ^ (8 - c) ≤ 2 ^ 8 := Nat.pow_le_pow_right (by omega) (by omega)
  omega
theorem partW_step (x o c : Nat) (h : c < 8) (b : Bool) (hb : x.testBit (o + c) = b) : partW x o c = 2 * partW x o (c + 1) + (if b = true then 1 else 0) := by
  unfold partW
  rw [← Nat.add_assoc, Nat.pow_succ, ← Nat.div_div_eq_div_mul, show 8 - c = (8 - (c + 1)) + 1 by omega, Nat.pow_succ, Nat.mul_comm (2 ^ (8 - (c + 1))) 2, Nat.mod_mul]
  rw [Nat.testBit_eq_decide_div_mod_eq] at hb
  cases b with
  | true => have := of_decide_eq_true hb; rw [if_pos rfl]; omega
  | false => have := of_decide_eq_false hb; rw [if_neg (by simp)]; omega
theorem partW_0 (x o : Nat) : partW x o 0 = x / 2 ^ o % 256 := rfl
/-- The bytes of a set when k bytes of word j are still to come. -/
def putK (L : List Bool) (j k : Nat) : List UInt8 := putW L j ++ (be (wdN L j : Nat) 8).take (8 - k)
theorem putK_8 (L : List Bool) (j : Nat) : putK L j 8 = putW L j := by simp [putK]
theorem putK_0 (L : List Bool) (j : Nat) : putK L j 0 = putW L (j + 1) := by rw [putK, putW_succ, List.take_of_length_le (by rw [be_length]; omega)]
theorem putK_step (L : List Bool) (j k : Nat) (h : k < 8) (v : Int) (hv : v = (partW (wdN L j) (8 * k) 0 : Nat)) : byteVals (putK L j (k + 1)) ++ [Value.int .u8 v] = byteVals (putK L j k) := by
  have h1 := be_take (wdN L j : Nat) 8 (8 - (k + 1)) (by omega)
  rw [show 8 - (k + 1) + 1 = 8 - k by omega, show 8 - 1 - (8 - (k + 1)) = k by omega] at h1
  unfold putK
  rw [h1, ← List.append_assoc]
  refine byteVals_snoc _ _ _ ?_
  rw [byteOf_toNat, hv, partW_0]
  have e : (2 : Int) ^ (8 * k) = ((2 ^ (8 * k) : Nat) : Int) := by simp
  rw [e]
  omega
theorem putK_length (L : List Bool) (j k : Nat) (hj : j ≤ 4) : (putK L j k).length ≤ 40 := by
  unfold putK
  rw [List.length_append, putW_length, List.length_take]
  omega

set_option maxHeartbeats 2000000 in
theorem putRef_any (A : Option Addr) (n c : Nat) (L : List Bool) (w : World) (hL : L.length = n) (hn : n ≤ 1000000) (hr : Rd w A (L.map Value.bool)) :
    Calls Try.prog 21 #[.slice A n c] w fun e w' => e = .returned (.string (ofL (putW L 4))) ∧ Below w.heap.size w w' := by
  have HL := Lib.hid hL
  clear hL
  go_enter Try.func21, Try.ntmps21
  go_wp2
  go_loopw [3, 4, 5, 6, 7] (fun v j _ _ _ wr => ∃ q : Nat, q ≤ 4 ∧ j = .int .i64 q ∧ wr.ownsRow w.heap.size 5 1 v (putW L q).length (byteVals (putW L q)) ∧ Below w.heap.size w wr) (fun _ j _ _ _ _ => 4 - (intOf j).toNat)
  case atStart => exact ⟨0, by omega, rfl, World.ownsRow_nil _ _ _ _, Below.refl _ _⟩
  case round =>
    obtain ⟨q, hq, rfl, hown, hb⟩ := hrel
    by_cases hlt : (q : Int) < 4
    · go_wp2
      go_loopw [3, 5, 6, 7] (fun v i _ _ wx => ∃ k : Nat, k ≤ 8 ∧ i = .int .i64 ((k : Int) - 1) ∧ wx.ownsRow w.heap.size 5 1 v (putK L q k).length (byteVals (putK L q k)) ∧ Below w.heap.size w wx) (fun _ i _ _ _ => ((intOf i) + 1).toNat)
      case atStart => exact ⟨8, by omega, rfl, by rw [putK_8]; exact hown, hb⟩
      case round =>
        clear hown hb
        obtain ⟨k, hk, rfl, hown, hb⟩ := hrel
        have hsz := hb.size
        rcases k with _ | k
        · rw [show (((0 : Nat) : Int) - 1) = -1 from rfl]
          rw [putK_0] at hown
          go_wp2
          go_roundw
          case rel => exact ⟨q + 1, by omega, by go_num, hown, hb⟩
          case measure => simp [intOf]; omega
        · rw [show (((k + 1 : Nat) : Int) - 1) = (k : Int) by omega]
          have hk7 : k ≤ 7 := by omega
          have hrx := hr.below hb
          go_wp2
          go_loop [6, 7] (fun y z => ∃ (c : Nat) (v : Nat), c ≤ 8 ∧ z = .int .i64 ((c : Int) - 1) ∧ y = .int .i64 (v : Nat) ∧ v < 256 ∧ Hid (v = partW (wdN L q) (8 * k) c)) (fun _ z => ((intOf z) + 1).toNat)
          case atStart => exact ⟨8, 0, by omega, rfl, rfl, by omega, (partW_8 _ _).symm⟩
          case round =>
            obtain ⟨d, v, hd, rfl, rfl, hv, Hv⟩ := hrel
            rcases d with _ | d
            · rw [show (((0 : Nat) : Int) - 1) = -1 from rfl]
              have Hst := Lib.hid (putK_step L q k (by omega) (v : Nat) (by rw [Hv.out]))
              have hlen := putK_length L q (k + 1) (by omega)
              have hlen2 : (putK L q (k + 1)).length + 1 = (putK L q k).length := by have := congrArg List.length Hst.out; simp [byteVals_length] at this; omega
              go_wp2_with (at_builtin; go_must (refine wpList_append_new _ rfl (.tmp 33) (.tmp 36) 56 rfl w.heap.size 5 1 1 el_byte _ _ _ hown rfl _ rfl rfl (by intro u hu; simp at hu; subst hu; rfl) (by unfold maxLen; omega) (by omega) hsz ?_); intro v2 w2 hown2 hb2)
              go_roundw
              case rel => exact ⟨k, by omega, by go_num, by rw [← hlen2, ← Hst.out]; exact hown2, hb.trans hb2⟩
              case measure => simp [intOf]
            · rw [show (((d + 1 : Nat) : Int) - 1) = (d : Int) by omega]
              have hbit := wdN_bit L q (8 * k + d) (by omega)
              rcases hval : L.getD (64 * q + (8 * k + d)) false with _ | _
              all_goals
                rw [hval] at hbit
                have Hs := Lib.hid (partW_step (wdN L q) (8 * k) d (by omega) _ hbit)
                have Hval := Lib.hid hval
                have hv2 := partW_lt (wdN L q) (8 * k) d
                rw [Hs.out, ← Hv.out] at hv2
                clear hval hbit
                go_wp2_with (go_at_call 28; refine (hasRef_int A _ c L _ (64 * q + (8 * k + d)) _ _ (by omega) HL.out (by omega) hrx Hval.out).mono ?_; rintro e w4 ⟨rfl, rfl⟩)
                go_round
                case rel => exact ⟨d, _, by omega, by go_num, by go_num, hv2, by rw [Hs.out, ← Hv.out]; rfl⟩
                case measure => simp [intOf]
    · obtain rfl : q = 4 := by omega
      have hcv := conv_own hown 56 9 5 Try.underlying56 Try.underlying5 Try.underlying9
      go_wp2
      go_ret
      exact ⟨rfl, hb⟩
end Go.Proofs.Ytaagdoaeefhleaa
