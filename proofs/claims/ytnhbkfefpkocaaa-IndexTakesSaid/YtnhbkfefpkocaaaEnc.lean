/-
  The walks of package enc and of its reference (chapter 1): each function once, by contract.
-/
import Derived.Test.YtnhbkfefpkocaaaChecked
import Derived.Test.YtnhbkfefpkocaaaEncP
import Derived.Lib.Hide
import Derived.BigQuiet
import Derived.Deep.QuietTactic
namespace Go.Proofs.Ytnhbkfefpkocaaa
open Go.RowKit

theorem wid_int (n k : Nat) (h1 : 1 ≤ k) (h2 : k ≤ wid n) (h7 : wid n ≤ 7) : (k < wid n → (0 : Int) < (n : Int) / 2 ^ (8 * k)) ∧ (¬ k < wid n → (n : Int) / 2 ^ (8 * k) ≤ 0) := by
  have h := wid_step n k h1 (by omega)
  have e : ((n / 2 ^ (8 * k) : Nat) : Int) = (n : Int) / 2 ^ (8 * k) := by simp
  rw [← e]
  omega

set_option maxHeartbeats 400000 in
theorem width_any (n : Nat) (w : World) (hn : n ≤ 72057594037927935) :
    Calls Try.prog 69 #[.int .i64 n] w fun e w' => e = .returned (.int .i64 (wid n)) ∧ w = w' := by
  have h7 := wid_le7 n hn
  have hp := wid_pos n
  go_enter Try.func69, Try.ntmps69
  go_wp2
  go_loop [3] (fun v => ∃ k : Nat, 1 ≤ k ∧ k ≤ wid n ∧ v = .int .i64 k) (fun v => wid n - (intOf v).toNat)
  case atStart => exact ⟨1, by omega, hp, rfl⟩
  case round =>
    obtain ⟨k, h1, h2, rfl⟩ := hrel
    have hk := wid_int n k h1 h2 h7
    by_cases hlt : k < wid n
    · have h0 := hk.1 hlt
      clear hk
      go_wp2
      go_round
      case rel => exact ⟨k + 1, by omega, by omega, by go_num⟩
      case measure => simp [intOf]; omega
    · have h0 := hk.2 hlt
      obtain rfl : k = wid n := by omega
      clear hk
      go_wp2
      go_ret
      exact ⟨rfl, rfl⟩

set_option maxHeartbeats 400000 in
theorem one_any (a : Int) (w : World) :
    Calls Try.prog 74 #[.int .i64 a] w fun e w' => e = .returned (.string (ofL [byteOf a])) ∧ Below w.heap.size w w' := by
  have hconv := conv_back (P := Try.prog) (w.alloc (.cells #[.int .u8 (a % 256)] 5)) 80 9 5 ⟨w.heap.size, 0, none⟩ 1 [byteOf a] 1 rfl Try.underlying80 Try.underlying5 Try.underlying9
    (by
      intro j u hj
      match j, hj with
      | 0, hj => simp only [List.map_cons, List.getElem?_cons_zero, Option.some.injEq, byteOf_toNat] at hj; subst hj; go_simp)
  go_enter Try.func74, Try.ntmps74
  go_wp2
  go_ret
  exact ⟨rfl, (Below.refl _ _).alloc (Nat.le_refl _) _⟩

theorem be_bytes (n : Int) (k : Nat) : ofL [byteOf (bits BinOp.and IntKind.i64 (n / 256 ^ k) 255)] ++ ofL (be n k) = ofL (be n (k + 1)) := by
  rw [ofL_app, bitsand255, byteOf_emod, be_cons]; rfl
theorem div256 (n : Int) (k : Nat) : n / 256 ^ k / 256 = n / 256 ^ (k + 1) := by
  rw [Int.ediv_ediv_of_nonneg (Int.le_of_lt (Int.pow_pos (by omega))), ← Int.pow_succ]

set_option maxHeartbeats 400000 in
theorem bytes_any (n : Int) (m : Nat) (w : World) (hm : m ≤ 8) :
    Calls Try.prog 75 #[.int .i64 n, .int .i64 m] w fun e w' => e = .returned (.string (ofL (be n m))) ∧ Below w.heap.size w w' := by
  go_enter Try.func75, Try.ntmps75
  go_wp2
  go_loopw [0, 5, 6] (fun v s i wr => ∃ k : Nat, k ≤ m ∧ i = .int .i64 k ∧ v = .int .i64 (n / 256 ^ k) ∧ s = .string (ofL (be n k)) ∧ Below w.heap.size w wr) (fun _ _ i _ => m - (intOf i).toNat)
  case atStart => exact ⟨0, by omega, rfl, by simp, rfl, Below.refl _ _⟩
  case round =>
    obtain ⟨k, h1, rfl, rfl, rfl, hb⟩ := hrel
    by_cases hlt : k < m
    · have hs1 : (ofL [byteOf (bits BinOp.and IntKind.i64 (n / 256 ^ k) 255)]).size ≤ 1 := by rw [size_ofL]; simp
      have hs2 : (ofL (be n k)).size ≤ 8 := by rw [size_ofL, be_length]; omega
      go_wp2_with (go_at_call 74; refine (one_any _ _).mono ?_; rintro e w1 ⟨rfl, hb1⟩)
      go_roundw
      case rel => exact ⟨k + 1, by omega, by go_num, by rw [div256], by rw [be_bytes], below_then hb hb1 hb.size⟩
      case measure => simp [intOf]; omega
    · obtain rfl : k = m := by omega
      go_wp2
      go_ret
      exact ⟨rfl, hb⟩

set_option maxHeartbeats 400000 in
theorem number_any (s : ByteArray) (w : World) (hs : s.size ≤ 8) :
    Calls Try.prog 76 #[.string s] w fun e w' => e = .returned (.int .i64 (wrap64 (num s.toList))) ∧ w = w' := by
  go_enter Try.func76, Try.ntmps76
  go_wp2
  go_loop [3, 4] (fun n i => ∃ k : Nat, k ≤ s.size ∧ i = .int .i64 k ∧ n = .int .i64 (wrap64 (num (s.toList.take k)))) (fun _ i => s.size - (intOf i).toNat)
  case atStart => exact ⟨0, by omega, rfl, by simp [num, wrap64]⟩
  case round =>
    obtain ⟨k, h1, rfl, rfl⟩ := hrel
    by_cases hlt : k < s.size
    · go_wp2
      go_round
      case rel =>
        refine ⟨k + 1, by omega, by go_num, ?_⟩
        have hb := UInt8.toNat_lt s[k]
        rw [List.take_succ_eq_append_getElem (by rw [size_toList]; exact hlt), num_snoc, ← getElem_toList, wrap64_mul256_wrap, wrap64_id (s[k].toNat : Int) (by omega) (by omega), wrap64_add_wrap]
        rfl
      case measure => simp [intOf]; omega
    · obtain rfl : k = s.size := by omega
      go_wp2
      go_ret
      exact ⟨ret_int (by rw [List.take_of_length_le (by rw [size_toList]; omega)]), rfl⟩


set_option maxHeartbeats 800000 in
theorem put_mid (n : Int) (w : World) (h1 : 248 ≤ n) (h2 : n ≤ 72057594037927935) :
    Calls Try.prog 48 #[.int .i64 n] w fun e w' => e = .returned (.string (ofL (putN n.toNat))) ∧ Below w.heap.size w w' := by
  have h7 := wid_le7 n.toNat (by omega)
  have hp := wid_pos n.toNat
  go_enter Try.func48, Try.ntmps48
  go_wp2_with fail
  go_loop [3, 4] (fun v t => ∃ k : Nat, 1 ≤ k ∧ k ≤ wid n.toNat ∧ v = .int .i64 k ∧ t = .int .i64 (p256 k : Nat)) (fun v _ => wid n.toNat - (intOf v).toNat)
  case atStart => exact ⟨1, by omega, hp, rfl, rfl⟩
  case round =>
    obtain ⟨k, hk1, hk2, rfl, rfl⟩ := hrel
    have hpk := wid_p n.toNat k hk1 (by omega) hk2
    have hp7 := p256_7
    have hple := p256_le k 7 (by omega)
    have hpl : (p256 k : Int) ≤ 72057594037927936 := by omega
    by_cases hlt : k < wid n.toNat
    · have h3 : (p256 k : Int) ≤ n := by have := hpk.1 hlt; omega
      have h4 : k < 7 := by omega
      have hpl6 : (p256 k : Int) ≤ 281474976710656 := by have := p256_6; have := p256_le k 6 (by omega); omega
      have H5 := Lib.hid (p256_succ k)
      clear hpk hp7 hple
      go_wp2
      go_round
      case rel => exact ⟨k + 1, by omega, by omega, by go_num, by rw [H5.out]; go_num⟩
      case measure => simp [intOf]; omega
    · have h3 : n < (p256 k : Int) := by have := hpk.2; omega
      have hk : k = wid n.toNat := by omega
      have hs1 : (ofL [byteOf (247 + (k : Nat) : Int)]).size ≤ 1 := by rw [size_ofL]; simp
      have hs2 : (ofL (be n k)).size ≤ 8 := by rw [size_ofL, be_length]; omega
      have hfin : ofL [byteOf (247 + (k : Nat) : Int)] ++ ofL (be n k) = ofL (putN n.toNat) := by
        rw [ofL_app, putN_mid _ (by omega), ← hk, show ((n.toNat : Nat) : Int) = n from by omega]; rfl
      have Hfin := Lib.hid hfin
      have h8 : k ≤ 7 := by omega
      clear hpk hp7 hple hfin hk hlt
      by_cases h9 : k < 7
      all_goals
        go_wp2_with fail
        refine (one_any _ _).mono ?_
        rintro e w1 ⟨rfl, hb1⟩
        go_wp2_with fail
        refine (bytes_any _ _ _ (by omega)).mono ?_
        rintro e w2 ⟨rfl, hb2⟩
        go_wp2
        go_ret
        exact ⟨by rw [← Hfin.out]; rfl, below_then hb1 hb2 hb1.size⟩

theorem wid_max : wid 72057594037927935 = 7 := by decide
theorem putN_max (k : Nat) (h : k = 7) : ofL [byteOf (247 + (k : Nat) : Int)] ++ ofL (be 72057594037927935 k) = ofL (putN 72057594037927935) := by
  rw [ofL_app, putN_mid _ (by omega), wid_max, h]; rfl

set_option maxHeartbeats 800000 in
theorem put_big (n : Int) (w : World) (h2 : 72057594037927935 < n) :
    Calls Try.prog 48 #[.int .i64 n] w fun e w' => e = .returned (.string (ofL (putN 72057594037927935))) ∧ Below w.heap.size w w' := by
  go_enter Try.func48, Try.ntmps48
  go_wp2_with fail
  go_loop [3, 4] (fun v t => ∃ k : Nat, 1 ≤ k ∧ k ≤ 7 ∧ v = .int .i64 k ∧ t = .int .i64 (p256 k : Nat)) (fun v _ => 7 - (intOf v).toNat)
  case atStart => exact ⟨1, by omega, by omega, rfl, rfl⟩
  case round =>
    obtain ⟨k, hk1, hk2, rfl, rfl⟩ := hrel
    by_cases hlt : k < 7
    · have hpl6 : (p256 k : Int) ≤ 281474976710656 := by have := p256_6; have := p256_le k 6 (by omega); omega
      have H5 := Lib.hid (p256_succ k)
      go_wp2
      go_round
      case rel => exact ⟨k + 1, by omega, by omega, by go_num, by rw [H5.out]; go_num⟩
      case measure => simp [intOf]; omega
    · have hs1 : (ofL [byteOf (247 + (k : Nat) : Int)]).size ≤ 1 := by rw [size_ofL]; simp
      have hs2 : (ofL (be 72057594037927935 k)).size ≤ 8 := by rw [size_ofL, be_length]; omega
      have Hfin := Lib.hid (putN_max k (by omega))
      go_wp2_with fail
      refine (one_any _ _).mono ?_
      rintro e w1 ⟨rfl, hb1⟩
      go_wp2_with fail
      refine (bytes_any _ _ _ (by omega)).mono ?_
      rintro e w2 ⟨rfl, hb2⟩
      go_wp2
      go_ret
      exact ⟨by rw [← Hfin.out]; rfl, below_then hb1 hb2 hb1.size⟩

set_option maxHeartbeats 800000 in
theorem put_lo (n : Int) (w : World) (h2 : n < 248) :
    Calls Try.prog 48 #[.int .i64 n] w fun e w' => e = .returned (.string (ofL (putN n.toNat))) ∧ Below w.heap.size w w' := by
  have hfin : putN n.toNat = [byteOf (if n < 0 then 0 else n)] := by
    rw [putN_lo _ (by omega)]
    congr 2
    split <;> omega
  by_cases h0 : n < 0
  · rw [if_pos h0] at hfin
    have Hfin := Lib.hid hfin
    clear hfin
    go_enter Try.func48, Try.ntmps48
    go_wp2_with fail
    refine (one_any _ _).mono ?_
    rintro e w1 ⟨rfl, hb1⟩
    go_wp2
    go_ret
    exact ⟨by rw [Hfin.out]; rfl, hb1⟩
  · rw [if_neg h0] at hfin
    have Hfin := Lib.hid hfin
    clear hfin
    go_enter Try.func48, Try.ntmps48
    go_wp2_with fail
    refine (one_any _ _).mono ?_
    rintro e w1 ⟨rfl, hb1⟩
    go_wp2
    go_ret
    exact ⟨by rw [Hfin.out]; rfl, hb1⟩

theorem put_any (n : Int) (w : World) :
    Calls Try.prog 48 #[.int .i64 n] w fun e w' => e = .returned (.string (ofL (putN (clampN n)))) ∧ Below w.heap.size w w' := by
  by_cases h1 : n < 248
  · have : clampN n = n.toNat := by unfold clampN; omega
    rw [this]
    exact put_lo n w h1
  · by_cases h2 : n ≤ 72057594037927935
    · rw [clampN_mid n (by omega) h2]
      exact put_mid n w (by omega) h2
    · rw [clampN_hi n (by omega)]
      exact put_big n w (by omega)
end Go.Proofs.Ytnhbkfefpkocaaa
