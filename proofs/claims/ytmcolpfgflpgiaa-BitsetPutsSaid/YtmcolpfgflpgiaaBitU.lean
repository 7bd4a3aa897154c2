/-
  The walk of the law BitsetPuts.
-/
import Derived.Test.YtmcolpfgflpgiaaBitT
import Derived.Test.YtmcolpfgflpgiaaBitQ
namespace Go.Proofs.Ytmcolpfgflpgiaa
open Go.RowKit

theorem takeB_put (L : List Bool) (hL : L.length ≤ 256) : takeB (L.length : Nat) (putW L 4) = (L, 0) := by
  rw [takeB_ok L.length _ hL (by rw [putW_length])]
  · rw [put_take L hL]
  · intro j _ h
    rw [bits_put L hL] at h
    exact getD_in h
theorem takeB_cases (n : Int) (s : List UInt8) : takeB n s = ([], 1) ∨ takeB n s = ([], 2) ∨ ∃ M, takeB n s = (M, 0) ∧ M.length ≤ 256 ∧ putW M 4 = s := by
  unfold takeB
  split
  · exact .inl rfl
  · split
    · exact .inr (.inl rfl)
    · split
      · rename_i h1 h2 h3
        exact .inr (.inr ⟨_, rfl, by rw [List.length_take, bitsT_length]; omega, take_put s n.toNat (by omega) h3⟩)
      · exact .inr (.inl rfl)
theorem neq_self (n a0 a1 a2 a3 : Int) (w : World) : (binOp .neq 26 (.agg #[.int .i64 n, .int .u64 a0, .int .u64 a1, .int .u64 a2, .int .u64 a3]) (.agg #[.int .i64 n, .int .u64 a0, .int .u64 a1, .int .u64 a2, .int .u64 a3])).run Try.prog w = .ok (.bool false) w := by
  have h := eq_sets n n a0 a1 a2 a3 a0 a1 a2 a3 w
  rw [run_eql_struct] at h
  rw [run_neq_struct]
  revert h
  generalize (Op.equalIn 10000 26 (.agg #[.int .i64 n, .int .u64 a0, .int .u64 a1, .int .u64 a2, .int .u64 a3]) (.agg #[.int .i64 n, .int .u64 a0, .int .u64 a1, .int .u64 a2, .int .u64 a3])).run Try.prog w = r
  intro h
  cases r with
  | ok b w1 =>
    simp only [Result.andThen_ok, beq_self_eq_true, Bool.and_self] at h ⊢
    cases h
    rfl
  | halt x w1 => simp [Result.andThen] at h
theorem takeS_is (n : Int) (s : ByteArray) (M : List Bool) (c : Int) (w : World) (hs : s.size ≤ 9223372036854775807) (h : takeB n s.toList = (M, c)) :
    Calls Try.prog 24 #[.int .i64 n, .string s] w fun e w' => e = .returned (.tuple #[.agg #[.int .i64 (M.length : Nat), .int .u64 (wdN M 0 : Nat), .int .u64 (wdN M 1 : Nat), .int .u64 (wdN M 2 : Nat), .int .u64 (wdN M 3 : Nat)], .int .i64 c]) ∧ Below w.heap.size w w' := by
  have := take_any n s w hs
  rw [h] at this
  exact this
theorem takeR_is (n : Int) (s : ByteArray) (M : List Bool) (c : Int) (w : World) (hs : s.size ≤ 9223372036854775807) (h : takeB n s.toList = (M, c)) :
    Calls Try.prog 27 #[.int .i64 n, .string s] w (RTEnd w M c) := by
  have := takeRef_any n s w hs
  rw [h] at this
  exact this

theorem takeS_err (n : Int) (s : ByteArray) (c : Int) (w : World) (hs : s.size ≤ 9223372036854775807) (h : takeB n s.toList = ([], c)) :
    Calls Try.prog 24 #[.int .i64 n, .string s] w fun e w' => e = .returned (.tuple #[.agg #[.int .i64 0, .int .u64 0, .int .u64 0, .int .u64 0, .int .u64 0], .int .i64 c]) ∧ Below w.heap.size w w' := by
  have := take_any n s w hs
  rw [h, setV_nil] at this
  exact this
theorem SetAt.zero (w : World) : ZeroAt (w.alloc (.cells #[.int .i64 0, .int .u64 0, .int .u64 0, .int .u64 0, .int .u64 0] 26)) w.heap.size := Bk.new _ _ _
theorem eq_zero (w : World) : (binOp .eql 26 (.agg #[.int .i64 0, .int .u64 0, .int .u64 0, .int .u64 0, .int .u64 0]) (.agg #[.int .i64 0, .int .u64 0, .int .u64 0, .int .u64 0, .int .u64 0])).run Try.prog w = .ok (.bool true) w := by
  rw [eq_sets]; rfl

set_option maxRecDepth 100000 in
set_option maxHeartbeats 4000000 in
theorem bitsetPuts_walk (n : Int) (A : Option Addr) (a ca : Nat) (xs : List Int) (m : Int) (s : ByteArray) (w : World) (_l : -9223372036854775808 ≤ n) (_u : n ≤ 9223372036854775807)
    (hx : xs.length = a) (hr : Rd w A (xs.map (Value.int .i64))) (_ha : a ≤ ca) (hca : ca * 8 ≤ 140737488351232) (_l2 : -9223372036854775808 ≤ m) (_u2 : m ≤ 9223372036854775807) (z : s.size ≤ 140737488351232) :
    Calls Try.prog 6 #[.int .i64 n, .slice A a ca, .int .i64 m, .string s] w (Yes w) := by
  have Hx := Lib.hid hx
  clear hx
  go_enter Try.func6, Try.ntmps6
  go_wp2_with fail
  refine (of_any n _ _ _ xs _ Hx.out hr (by omega)).mono ?_
  have hL : (ofB n xs).length ≤ 256 := by rw [ofB_length]; exact clampB_le n
  generalize ofB n xs = L at hL ⊢
  rintro e w1 ⟨A1, c1, rfl, hn1, hm1, hr1, hb1⟩
  obtain ⟨N, hN⟩ : ∃ N, L.length = N := ⟨_, rfl⟩
  have HN := Lib.hid hN
  rw [hN] at hn1 hL ⊢
  clear hN
  have hbox := (Below.refl w1.heap.size w1).alloc (Nat.le_refl _) (.cells #[.int .i64 (L.length : Nat), .int .u64 (wdN L 0 : Nat), .int .u64 (wdN L 1 : Nat), .int .u64 (wdN L 2 : Nat), .int .u64 (wdN L 3 : Nat)] 26)
  have hS1 := SetAt.new w1 L
  have hrA := hr1.below hbox
  have hB := bl hb1 hbox
  obtain ⟨B, hBB⟩ : ∃ B, ofL (putW L 4) = B := ⟨_, rfl⟩
  have hBl : B.toList = putW L 4 := by rw [← hBB, toList_ofL]
  have HB := Lib.hid hBB
  have hBs : B.size ≤ 9223372036854775807 := by rw [← size_toList, hBl, putW_length]; omega
  have Htk := Lib.hid (show takeB (L.length : Nat) B.toList = (L, 0) by rw [hBl]; exact takeB_put L (by rw [HN.out]; exact hL))
  clear hBB hBl hr1 hb1 hbox
  obtain ⟨hc0, hc1, hc2, hc3, hc4⟩ := hS1.cells
  unfold setV
  go_wp2_with fail
  refine (putS_any L _).mono ?_
  rw [HB.out]
  rintro e w2 ⟨rfl, hb2⟩
  have hS2 := hS1.below' hb2
  have hrA2 := hrA.below hb2
  have hB2 := bl hB hb2
  clear hc0 hc1 hc2 hc3 hc4 hS1 hrA hB
  obtain ⟨hc0, hc1, hc2, hc3, hc4⟩ := hS2.cells
  go_wp2_with fail
  refine (size_any L _).mono ?_
  rintro e w3 ⟨rfl, hb3⟩
  have hS3 := hS2.below' hb3
  have hrA3 := hrA2.below hb3
  have hB3 := bl hB2 hb3
  clear hc0 hc1 hc2 hc3 hc4 hS2 hrA2 hB2
  go_wp2_with fail
  with_reducible refine (takeS_is (L.length : Nat) B L 0 _ hBs Htk.out).mono ?_
  rintro e w4 ⟨rfl, hb4⟩
  have hbox := (Below.refl w4.heap.size w4).alloc (Nat.le_refl _) (.cells #[.int .i64 (L.length : Nat), .int .u64 (wdN L 0 : Nat), .int .u64 (wdN L 1 : Nat), .int .u64 (wdN L 2 : Nat), .int .u64 (wdN L 3 : Nat)] 26)
  have hS5 := (hS3.below' hb4).below' hbox
  have hT5 := SetAt.new w4 L
  have hrA5 := (hrA3.below hb4).below hbox
  have hB5 := bl (bl hB3 hb4) hbox
  clear hS3 hrA3 hB3 hb4 hbox hb3 hb2
  go_wp2_with fail
  refine (putRef_any A1 N c1 L _ HN.out (by omega) hrA5).mono ?_
  rw [HB.out]
  rintro e w6 ⟨rfl, hb6⟩
  have hS6 := hS5.below' hb6
  have hT6 := hT5.below' hb6
  have hB6 := bl hB5 hb6
  clear hS5 hT5 hrA5 hB5 hb6
  obtain ⟨hc0, hc1, hc2, hc3, hc4⟩ := hS6.cells
  obtain ⟨d0, d1, d2, d3, d4⟩ := hT6.cells
  have hnq := neq_self (L.length : Nat) (wdN L 0 : Nat) (wdN L 1 : Nat) (wdN L 2 : Nat) (wdN L 3 : Nat)
  by_cases h100 : (100 : Int) < (s.size : Int)
  · go_upto_region 8 with (fail)
    have hz2 : (s.extract 0 100).size ≤ 9223372036854775807 := by rw [← size_toList, toList_pre, List.length_take]; omega
    clear hc0 hc1 hc2 hc3 hc4 d0 d1 d2 d3 d4 h100
    generalize s.extract 0 100 = s2 at hz2 ⊢
    rcases takeB_cases m s2.toList with ht | ht | ⟨M, ht, hM, hp⟩
    · have Ht := Lib.hid ht
      clear ht
      go_wp2_with fail
      with_reducible refine (takeS_err m s2 1 _ hz2 Ht.out).mono ?_
      rintro e w7 ⟨rfl, hb7⟩
      have hbox := (Below.refl w7.heap.size w7).alloc (Nat.le_refl _) (.cells #[.int .i64 0, .int .u64 0, .int .u64 0, .int .u64 0, .int .u64 0] 26)
      have hZ8 := SetAt.zero w7
      have hB8 := bl (bl hB6 hb7) hbox
      clear hb7 hbox
      go_wp2_with fail
      with_reducible refine (takeR_is m s2 [] 1 _ hz2 Ht.out).mono ?_
      rintro e w8 ⟨A8, c8, rfl, hn8, hm8, hr8, hb8⟩
      have hZ9 := Bk.below' hZ8 hb8
      have hB9 := bl hB8 hb8
      have hq0 := eq_zero
      have z0 := hZ9.cell 0
      have z1 := hZ9.cell 1
      have z2 := hZ9.cell 2
      have z3 := hZ9.cell 3
      have z4 := hZ9.cell 4
      simp only [List.getElem?_toArray, List.getElem?_cons_succ, List.getElem?_cons_zero] at z0 z1 z2 z3 z4
      go_wp2_with fail
      refine (awake_any _).mono ?_
      rintro e w9 ⟨rfl, hb9⟩
      go_wp2_with fail
      go_ret
      exact ⟨rfl, bl hB9 hb9⟩
    · have Ht := Lib.hid ht
      clear ht
      go_wp2_with fail
      with_reducible refine (takeS_err m s2 2 _ hz2 Ht.out).mono ?_
      rintro e w7 ⟨rfl, hb7⟩
      have hbox := (Below.refl w7.heap.size w7).alloc (Nat.le_refl _) (.cells #[.int .i64 0, .int .u64 0, .int .u64 0, .int .u64 0, .int .u64 0] 26)
      have hZ8 := SetAt.zero w7
      have hB8 := bl (bl hB6 hb7) hbox
      clear hb7 hbox
      go_wp2_with fail
      with_reducible refine (takeR_is m s2 [] 2 _ hz2 Ht.out).mono ?_
      rintro e w8 ⟨A8, c8, rfl, hn8, hm8, hr8, hb8⟩
      have hZ9 := Bk.below' hZ8 hb8
      have hB9 := bl hB8 hb8
      have hq0 := eq_zero
      have z0 := hZ9.cell 0
      have z1 := hZ9.cell 1
      have z2 := hZ9.cell 2
      have z3 := hZ9.cell 3
      have z4 := hZ9.cell 4
      simp only [List.getElem?_toArray, List.getElem?_cons_succ, List.getElem?_cons_zero] at z0 z1 z2 z3 z4
      go_wp2_with fail
      refine (awake_any _).mono ?_
      rintro e w9 ⟨rfl, hb9⟩
      go_wp2_with fail
      go_ret
      exact ⟨rfl, bl hB9 hb9⟩
    · have Ht := Lib.hid ht
      have hps : ofL (putW M 4) = s2 := str_eq (by rw [toList_ofL]; exact hp)
      have Hps := Lib.hid hps
      clear ht hps hp
      go_wp2_with fail
      with_reducible refine (takeS_is m s2 M 0 _ hz2 Ht.out).mono ?_
      rintro e w7 ⟨rfl, hb7⟩
      have hbox := (Below.refl w7.heap.size w7).alloc (Nat.le_refl _) (.cells #[.int .i64 (M.length : Nat), .int .u64 (wdN M 0 : Nat), .int .u64 (wdN M 1 : Nat), .int .u64 (wdN M 2 : Nat), .int .u64 (wdN M 3 : Nat)] 26)
      have hZ8 := SetAt.new w7 M
      have hB8 := bl (bl hB6 hb7) hbox
      clear hb7 hbox
      go_wp2_with fail
      with_reducible refine (takeR_is m s2 M 0 _ hz2 Ht.out).mono ?_
      rintro e w8 ⟨A8, c8, rfl, hn8, hm8, hr8, hb8⟩
      have hZ9 := hZ8.below' hb8
      have hB9 := bl hB8 hb8
      obtain ⟨z0, z1, z2, z3, z4⟩ := hZ9.cells
      go_wp2_with fail
      refine (sameSet_any A8 M.length c8 M _ rfl hM hr8).mono ?_
      rintro e w9 ⟨rfl, hb9⟩
      have hZ10 := hZ9.below' hb9
      clear z0 z1 z2 z3 z4
      obtain ⟨z0, z1, z2, z3, z4⟩ := hZ10.cells
      go_wp2_with fail
      refine (putS_any M _).mono ?_
      rw [Hps.out]
      rintro e w10 ⟨rfl, hb10⟩
      go_wp2_with fail
      refine (awake_any _).mono ?_
      rintro e w11 ⟨rfl, hb11⟩
      go_wp2_with fail
      go_ret
      exact ⟨rfl, bl (bl (bl hB9 hb9) hb10) hb11⟩
  · go_upto_region 8 with (fail)
    have hz2 : s.size ≤ 9223372036854775807 := by omega
    clear hc0 hc1 hc2 hc3 hc4 d0 d1 d2 d3 d4 h100
    generalize s = s2 at *
    rcases takeB_cases m s2.toList with ht | ht | ⟨M, ht, hM, hp⟩
    · have Ht := Lib.hid ht
      clear ht
      go_wp2_with fail
      with_reducible refine (takeS_err m s2 1 _ hz2 Ht.out).mono ?_
      rintro e w7 ⟨rfl, hb7⟩
      have hbox := (Below.refl w7.heap.size w7).alloc (Nat.le_refl _) (.cells #[.int .i64 0, .int .u64 0, .int .u64 0, .int .u64 0, .int .u64 0] 26)
      have hZ8 := SetAt.zero w7
      have hB8 := bl (bl hB6 hb7) hbox
      clear hb7 hbox
      go_wp2_with fail
      with_reducible refine (takeR_is m s2 [] 1 _ hz2 Ht.out).mono ?_
      rintro e w8 ⟨A8, c8, rfl, hn8, hm8, hr8, hb8⟩
      have hZ9 := Bk.below' hZ8 hb8
      have hB9 := bl hB8 hb8
      have hq0 := eq_zero
      have z0 := hZ9.cell 0
      have z1 := hZ9.cell 1
      have z2 := hZ9.cell 2
      have z3 := hZ9.cell 3
      have z4 := hZ9.cell 4
      simp only [List.getElem?_toArray, List.getElem?_cons_succ, List.getElem?_cons_zero] at z0 z1 z2 z3 z4
      go_wp2_with fail
      refine (awake_any _).mono ?_
      rintro e w9 ⟨rfl, hb9⟩
      go_wp2_with fail
      go_ret
      exact ⟨rfl, bl hB9 hb9⟩
    · have Ht := Lib.hid ht
      clear ht
      go_wp2_with fail
      with_reducible refine (takeS_err m s2 2 _ hz2 Ht.out).mono ?_
      rintro e w7 ⟨rfl, hb7⟩
      have hbox := (Below.refl w7.heap.size w7).alloc (Nat.le_refl _) (.cells #[.int .i64 0, .int .u64 0, .int .u64 0, .int .u64 0, .int .u64 0] 26)
      have hZ8 := SetAt.zero w7
      have hB8 := bl (bl hB6 hb7) hbox
      clear hb7 hbox
      go_wp2_with fail
      with_reducible refine (takeR_is m s2 [] 2 _ hz2 Ht.out).mono ?_
      rintro e w8 ⟨A8, c8, rfl, hn8, hm8, hr8, hb8⟩
      have hZ9 := Bk.below' hZ8 hb8
      have hB9 := bl hB8 hb8
      have hq0 := eq_zero
      have z0 := hZ9.cell 0
      have z1 := hZ9.cell 1
      have z2 := hZ9.cell 2
      have z3 := hZ9.cell 3
      have z4 := hZ9.cell 4
      simp only [List.getElem?_toArray, List.getElem?_cons_succ, List.getElem?_cons_zero] at z0 z1 z2 z3 z4
      go_wp2_with fail
      refine (awake_any _).mono ?_
      rintro e w9 ⟨rfl, hb9⟩
      go_wp2_with fail
      go_ret
      exact ⟨rfl, bl hB9 hb9⟩
    · have Ht := Lib.hid ht
      have hps : ofL (putW M 4) = s2 := str_eq (by rw [toList_ofL]; exact hp)
      have Hps := Lib.hid hps
      clear ht hps hp
      go_wp2_with fail
      with_reducible refine (takeS_is m s2 M 0 _ hz2 Ht.out).mono ?_
      rintro e w7 ⟨rfl, hb7⟩
      have hbox := (Below.refl w7.heap.size w7).alloc (Nat.le_refl _) (.cells #[.int .i64 (M.length : Nat), .int .u64 (wdN M 0 : Nat), .int .u64 (wdN M 1 : Nat), .int .u64 (wdN M 2 : Nat), .int .u64 (wdN M 3 : Nat)] 26)
      have hZ8 := SetAt.new w7 M
      have hB8 := bl (bl hB6 hb7) hbox
      clear hb7 hbox
      go_wp2_with fail
      with_reducible refine (takeR_is m s2 M 0 _ hz2 Ht.out).mono ?_
      rintro e w8 ⟨A8, c8, rfl, hn8, hm8, hr8, hb8⟩
      have hZ9 := hZ8.below' hb8
      have hB9 := bl hB8 hb8
      obtain ⟨z0, z1, z2, z3, z4⟩ := hZ9.cells
      go_wp2_with fail
      refine (sameSet_any A8 M.length c8 M _ rfl hM hr8).mono ?_
      rintro e w9 ⟨rfl, hb9⟩
      have hZ10 := hZ9.below' hb9
      clear z0 z1 z2 z3 z4
      obtain ⟨z0, z1, z2, z3, z4⟩ := hZ10.cells
      go_wp2_with fail
      refine (putS_any M _).mono ?_
      rw [Hps.out]
      rintro e w10 ⟨rfl, hb10⟩
      go_wp2_with fail
      refine (awake_any _).mono ?_
      rintro e w11 ⟨rfl, hb11⟩
      go_wp2_with fail
      go_ret
      exact ⟨rfl, bl (bl (bl hB9 hb9) hb10) hb11⟩
end Go.Proofs.Ytmcolpfgflpgiaa
