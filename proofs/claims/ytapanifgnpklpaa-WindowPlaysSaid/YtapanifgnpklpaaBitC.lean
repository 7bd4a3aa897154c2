/-
  The walks of OnesCount64, Count, Full, and of the reference's Count, List, Has; of 'same'.
-/
import Derived.Test.YtapanifgnpklpaaBitL
import Derived.Test.YtapanifgnpklpaaPop
namespace Go.Proofs.Ytapanifgnpklpaa
open Go.RowKit

theorem msk85 : msk 85 8 = 6148914691236517205 := by decide
theorem msk51 : msk 51 8 = 3689348814741910323 := by decide
theorem msk15 : msk 15 8 = 1085102592571150095 := by decide
theorem band (a b : Nat) (ha : a < 18446744073709551616) (hb : b < 18446744073709551616) : bits .and .u64 (a : Int) (b : Int) = ((a &&& b : Nat) : Int) := bits_and_u64_nat a b ha hb

theorem i64_and127 (u : Int) : bits .and .i64 u 127 = u % 128 := by
  show IntKind.i64.wrap ((BitVec.ofInt 64 u &&& BitVec.ofInt 64 127).toNat : Int) = _
  rw [BitVec.toNat_and, show (BitVec.ofInt 64 127).toNat = 2 ^ 7 - 1 from rfl, Nat.and_two_pow_sub_one_eq_mod, BitVec.toNat_ofInt, IntKind.wrap_i64]
  simp only [Nat.reducePow]
  omega

set_option maxRecDepth 20000 in
set_option maxHeartbeats 1000000 in
theorem ones_any (x : Nat) (w : World) (hx : x < 18446744073709551616) :
    Calls Try.prog 35 #[.int .u64 x] w fun e w' => e = .returned (.int .i64 (popB 8 x : Nat)) ∧ w = w' := by
  obtain ⟨y, z, u, hy, hz, hu, hp, hy60, hz61, hu62⟩ := pop_all x
  obtain ⟨a, ha⟩ : ∃ a, a = x / 2 &&& 6148914691236517205 := ⟨_, rfl⟩
  obtain ⟨b, hb⟩ : ∃ b, b = x &&& 6148914691236517205 := ⟨_, rfl⟩
  have hal : a ≤ 6148914691236517205 := by rw [ha]; exact Nat.and_le_right
  have hbl : b ≤ 6148914691236517205 := by rw [hb]; exact Nat.and_le_right
  obtain ⟨c, hc⟩ : ∃ c, c = (a + b) / 4 &&& 3689348814741910323 := ⟨_, rfl⟩
  obtain ⟨d, hd⟩ : ∃ d, d = (a + b) &&& 3689348814741910323 := ⟨_, rfl⟩
  have hcl : c ≤ 3689348814741910323 := by rw [hc]; exact Nat.and_le_right
  have hdl : d ≤ 3689348814741910323 := by rw [hd]; exact Nat.and_le_right
  have hy2 : y = ((c + d) / 16 + (c + d)) &&& 1085102592571150095 := by
    rw [hy, hc, hd, ha, hb]
    unfold yy s3 s2 s1
    rw [msk85, msk51, msk15]
  have A1 : bits .and .u64 ((x : Int) / 2) 6148914691236517205 = (a : Int) := by
    rw [ha, ← band (x / 2) 6148914691236517205 (by omega) (by omega)]; rfl
  have A2 : bits .and .u64 (x : Int) 6148914691236517205 = (b : Int) := by
    rw [hb, ← band x 6148914691236517205 (by omega) (by omega)]; rfl
  have A3 : bits .and .u64 (((a : Int) + (b : Int)) / 4) 3689348814741910323 = (c : Int) := by
    rw [hc, ← band ((a + b) / 4) 3689348814741910323 (by omega) (by omega)]; rfl
  have A4 : bits .and .u64 ((a : Int) + (b : Int)) 3689348814741910323 = (d : Int) := by
    rw [hd, ← band (a + b) 3689348814741910323 (by omega) (by omega)]; rfl
  have A5 : bits .and .u64 (((c : Int) + (d : Int)) / 16 + ((c : Int) + (d : Int))) 1085102592571150095 = (y : Int) := by
    rw [hy2, ← band ((c + d) / 16 + (c + d)) 1085102592571150095 (by omega) (by omega)]; rfl
  have e4 : (y : Int) + (y : Int) / 256 = (z : Int) := by omega
  have e5 : (z : Int) + (z : Int) / 65536 = (u : Int) := by omega
  have H4 := Lib.hid e4
  have H5 := Lib.hid e5
  have Hp := Lib.hid hp
  have bal : (a : Int) ≤ 6148914691236517205 := by omega
  have bbl : (b : Int) ≤ 6148914691236517205 := by omega
  have bcl : (c : Int) ≤ 3689348814741910323 := by omega
  have bdl : (d : Int) ≤ 3689348814741910323 := by omega
  have byl : (y : Int) ≤ 1152921504606846976 := by omega
  have bzl : (z : Int) ≤ 2305843009213693952 := by omega
  have bul : (u : Int) ≤ 4611686018427387904 := by omega
  have bx : (x : Int) ≤ 18446744073709551615 := by omega
  clear hy hz hu hp hy60 hz61 hu62 ha hb hal hbl hc hd hcl hdl hy2 e4 e5 hx
  go_enter Try.func35, Try.ntmps35
  go_wp2
  go_ret
  exact ⟨ret_int (by rw [H4.out, H5.out, i64_and127]; have := Hp.out; omega), rfl⟩

/-- How many of the first k places hold yes. -/
def cntP (L : List Bool) : Nat → Nat
  | 0 => 0
  | k + 1 => cntP L k + (if L.getD k false then 1 else 0)
theorem cntP_le (L : List Bool) (k : Nat) : cntP L k ≤ k := by
  induction k with
  | zero => simp [cntP]
  | succ k ih => rw [cntP]; split <;> omega
theorem cntP_ge (L : List Bool) (k : Nat) (h : L.length ≤ k) : cntP L k = cntP L L.length := by
  obtain ⟨d, rfl⟩ : ∃ d, k = L.length + d := ⟨k - L.length, by omega⟩
  clear h
  induction d with
  | zero => rfl
  | succ d ih =>
    rw [← Nat.add_assoc, cntP, ih, List.getD_eq_getElem?_getD, List.getElem?_eq_none (by omega)]
    rfl
theorem cntP_word (L : List Bool) (q j : Nat) (h : j ≤ 64) : cntP L (64 * q + j) = cntP L (64 * q) + popK (wdN L q) j := by
  induction j with
  | zero => rfl
  | succ j ih =>
    rw [← Nat.add_assoc, cntP, ih (by omega), popK, wdN_bit _ _ _ (by omega), Nat.add_assoc]
theorem cnt_words (L : List Bool) (h : L.length ≤ 256) : popB 8 (wdN L 0) + popB 8 (wdN L 1) + popB 8 (wdN L 2) + popB 8 (wdN L 3) = cntP L L.length := by
  rw [popB_popK, popB_popK, popB_popK, popB_popK, ← cntP_ge L 256 h]
  have h0 := cntP_word L 0 64 (by omega)
  have h1 := cntP_word L 1 64 (by omega)
  have h2 := cntP_word L 2 64 (by omega)
  have h3 := cntP_word L 3 64 (by omega)
  simp only [Nat.mul_zero, Nat.zero_add, Nat.mul_one, Nat.reduceMul, Nat.reduceAdd] at h0 h1 h2 h3 ⊢
  have hz : cntP L 0 = 0 := rfl
  omega

set_option maxHeartbeats 1000000 in
theorem count_any (L : List Bool) (w : World) (hL : L.length ≤ 256) : Calls Try.prog 28 #[setV L] w fun e w' => e = .returned (.int .i64 (cntP L L.length : Nat)) ∧ Below w.heap.size w w' := by
  have Hc := Lib.hid (cnt_words L hL)
  have hb0 := popB_le (wdN L 0)
  have hb1 := popB_le (wdN L 1)
  have hb2 := popB_le (wdN L 2)
  have hb3 := popB_le (wdN L 3)
  have hl0 := wdN_lt L 0
  have hl1 := wdN_lt L 1
  have hl2 := wdN_lt L 2
  have hl3 := wdN_lt L 3
  unfold setV
  obtain ⟨x0, h0⟩ : ∃ x0 : Nat, x0 = wdN L 0 := ⟨_, rfl⟩
  obtain ⟨x1, h1⟩ : ∃ x1 : Nat, x1 = wdN L 1 := ⟨_, rfl⟩
  obtain ⟨x2, h2⟩ : ∃ x2 : Nat, x2 = wdN L 2 := ⟨_, rfl⟩
  obtain ⟨x3, h3⟩ : ∃ x3 : Nat, x3 = wdN L 3 := ⟨_, rfl⟩
  rw [← h0, ← h1, ← h2, ← h3] at Hc
  rw [← h0] at hb0 hl0
  rw [← h1] at hb1 hl1
  rw [← h2] at hb2 hl2
  rw [← h3] at hb3 hl3
  rw [← h0, ← h1, ← h2, ← h3]
  have i0 : ∀ w, (Instr.index 37 (.agg #[.int .u64 (x0 : Nat), .int .u64 (x1 : Nat), .int .u64 (x2 : Nat), .int .u64 (x3 : Nat)]) (.int .i64 0)).run Try.prog w = .ok (.int .u64 (x0 : Nat)) w := fun _ => by kernel_rfl
  have i1 : ∀ w, (Instr.index 37 (.agg #[.int .u64 (x0 : Nat), .int .u64 (x1 : Nat), .int .u64 (x2 : Nat), .int .u64 (x3 : Nat)]) (.int .i64 1)).run Try.prog w = .ok (.int .u64 (x1 : Nat)) w := fun _ => by kernel_rfl
  have i2 : ∀ w, (Instr.index 37 (.agg #[.int .u64 (x0 : Nat), .int .u64 (x1 : Nat), .int .u64 (x2 : Nat), .int .u64 (x3 : Nat)]) (.int .i64 2)).run Try.prog w = .ok (.int .u64 (x2 : Nat)) w := fun _ => by kernel_rfl
  have i3 : ∀ w, (Instr.index 37 (.agg #[.int .u64 (x0 : Nat), .int .u64 (x1 : Nat), .int .u64 (x2 : Nat), .int .u64 (x3 : Nat)]) (.int .i64 3)).run Try.prog w = .ok (.int .u64 (x3 : Nat)) w := fun _ => by kernel_rfl
  have Hl0 := Lib.hid hl0
  have Hl1 := Lib.hid hl1
  have Hl2 := Lib.hid hl2
  have Hl3 := Lib.hid hl3
  clear h0 h1 h2 h3 hl0 hl1 hl2 hl3
  generalize hp0 : popB 8 x0 = y0 at hb0 Hc
  generalize hp1 : popB 8 x1 = y1 at hb1 Hc
  generalize hp2 : popB 8 x2 = y2 at hb2 Hc
  generalize hp3 : popB 8 x3 = y3 at hb3 Hc
  have Hp0 := Lib.hid hp0
  have Hp1 := Lib.hid hp1
  have Hp2 := Lib.hid hp2
  have Hp3 := Lib.hid hp3
  clear hp0 hp1 hp2 hp3
  go_enter Try.func28, Try.ntmps28
  go_wp2
  go_loopw [3, 5, 8] (fun s x i wr => ∃ k : Nat, k ≤ 4 ∧ i = .int .i64 k ∧ s = .int .i64 ((if k = 0 then 0 else if k = 1 then y0 else if k = 2 then y0 + y1 else if k = 3 then y0 + y1 + y2 else y0 + y1 + y2 + y3 : Nat)) ∧ Below w.heap.size w wr) (fun _ _ i _ => 4 - (intOf i).toNat)
  case atStart => exact ⟨0, by omega, rfl, rfl, (Below.refl _ _).alloc (Nat.le_refl _) _⟩
  case round =>
    obtain ⟨k, hk, rfl, rfl, hb⟩ := hrel
    by_cases hlt : k < 4
    · have hkk : k = 0 ∨ k = 1 ∨ k = 2 ∨ k = 3 := by omega
      rcases hkk with rfl | rfl | rfl | rfl
      · go_wp2_with (go_at_call 35; go_must (refine (ones_any x0 _ Hl0.out).mono ?_); rintro e w1 ⟨rfl, rfl⟩)
        rw [Hp0.out]
        go_wp2
        go_roundw
        case rel => exact ⟨1, by omega, by go_num, by simp; exact wrap64_id _ (by omega) (by omega), hb⟩
        case measure => simp [intOf]
      · go_wp2_with (go_at_call 35; go_must (refine (ones_any x1 _ Hl1.out).mono ?_); rintro e w1 ⟨rfl, rfl⟩)
        rw [Hp1.out]
        go_wp2
        go_roundw
        case rel => exact ⟨2, by omega, by go_num, by simp; exact wrap64_id _ (by omega) (by omega), hb⟩
        case measure => simp [intOf]
      · go_wp2_with (go_at_call 35; go_must (refine (ones_any x2 _ Hl2.out).mono ?_); rintro e w1 ⟨rfl, rfl⟩)
        rw [Hp2.out]
        go_wp2
        go_roundw
        case rel => exact ⟨3, by omega, by go_num, by simp; exact wrap64_id _ (by omega) (by omega), hb⟩
        case measure => simp [intOf]
      · go_wp2_with (go_at_call 35; go_must (refine (ones_any x3 _ Hl3.out).mono ?_); rintro e w1 ⟨rfl, rfl⟩)
        rw [Hp3.out]
        go_wp2
        go_roundw
        case rel => exact ⟨4, by omega, by go_num, by simp; exact wrap64_id _ (by omega) (by omega), hb⟩
        case measure => simp [intOf]
    · obtain rfl : k = 4 := by omega
      go_wp2
      go_ret
      exact ⟨ret_int (by rw [← Hc.out]), hb⟩
end Go.Proofs.Ytapanifgnpklpaa
