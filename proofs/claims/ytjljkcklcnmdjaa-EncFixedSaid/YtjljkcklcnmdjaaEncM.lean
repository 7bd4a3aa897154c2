/-
  The walks of the laws of chapter 1, the others.
-/
import Derived.Test.YtjljkcklcnmdjaaEncL
namespace Go.Proofs.Ytjljkcklcnmdjaa
open Go.RowKit

theorem takeNum_is (s r : ByteArray) (n : Int) (w : World) (hsz : s.size ≤ 9223372036854775807) (h0 : 0 ≤ n) (h : takeN s.toList = some (n.toNat, r.toList)) :
    Calls Try.prog 13 #[.string s] w fun e w' => e = .returned (.tuple #[.int .i64 n, .string r, .int .i64 0]) ∧ Below w.heap.size w w' :=
  (takeNum_some s w hsz _ _ h).mono fun e w' ⟨he, hb⟩ => ⟨by rw [he, ofL_toList, show ((n.toNat : Nat) : Int) = n from by omega], hb⟩

set_option maxHeartbeats 1000000 in
theorem encBack_walk (n : Int) (s : ByteArray) (w : World) (_l : -9223372036854775808 ≤ n) (_u : n ≤ 9223372036854775807) (_z : s.size ≤ 140737488351232) : Calls Try.prog 5 #[.int .i64 n, .string s] w (Yes w) := by
  by_cases h1 : n < 0
  · go_enter Try.func5, Try.ntmps5
    go_wp2_with fail
    refine (awake_any _).mono ?_
    rintro e w3 ⟨rfl, hb3⟩
    go_wp2
    go_ret
    exact ⟨rfl, hb3⟩
  · by_cases h2 : 72057594037927935 < n
    · go_enter Try.func5, Try.ntmps5
      go_wp2_with fail
      refine (awake_any _).mono ?_
      rintro e w3 ⟨rfl, hb3⟩
      go_wp2
      go_ret
      exact ⟨rfl, hb3⟩
    · by_cases h3 : (100000 : Int) < (s.size : Int)
      · go_enter Try.func5, Try.ntmps5
        go_wp2_with fail
        refine (awake_any _).mono ?_
        rintro e w3 ⟨rfl, hb3⟩
        go_wp2
        go_ret
        exact ⟨rfl, hb3⟩
      · have h9 : (ofL (putN (clampN n))).size ≤ 9 := by rw [size_ofL]; exact putN_length _
        have ht : takeN (ofL (putN (clampN n)) ++ s).toList = some (n.toNat, s.toList) := by
          rw [toList_app, toList_ofL, clampN_mid n (by omega) (by omega)]
          exact takeN_put _ _ (by omega)
        have hsz : (ofL (putN (clampN n)) ++ s).size ≤ 9223372036854775807 := by rw [← size_toList, toList_app, List.length_append, size_toList, size_toList]; omega
        have Ht := Lib.hid ht
        have Hsz := Lib.hid hsz
        clear ht hsz
        go_enter Try.func5, Try.ntmps5
        go_wp2_with fail
        refine (putNum_one _ _).mono ?_
        rintro e w1 ⟨rfl, hb1⟩
        go_wp2_with fail
        refine (takeNum_is _ s n _ Hsz.out (by omega) Ht.out).mono ?_
        rintro e w2 ⟨rfl, hb2⟩
        go_wp2_with fail
        refine (awake_any _).mono ?_
        rintro e w3 ⟨rfl, hb3⟩
        go_wp2
        go_ret
        exact ⟨rfl, bl (bl hb1 hb2) hb3⟩

set_option maxHeartbeats 1000000 in
theorem encOnly_walk (s : ByteArray) (w : World) (hz : s.size ≤ 140737488351232) : Calls Try.prog 6 #[.string s] w (Yes w) := by
  have hs : s.size ≤ 9223372036854775807 := by omega
  rcases h : takeN s.toList with _ | ⟨n, r⟩
  · have H := Lib.hid h
    clear h
    go_enter Try.func6, Try.ntmps6
    go_wp2_with fail
    refine (takeNum_none _ _ hs H.out).mono ?_
    rintro e w1 ⟨rfl, hb1⟩
    go_wp2_with fail
    refine (awake_any _).mono ?_
    rintro e w3 ⟨rfl, hb3⟩
    go_wp2
    go_ret
    exact ⟨rfl, bl hb1 hb3⟩
  · obtain ⟨hsr, hn⟩ := takeN_some _ _ _ h
    obtain rfl : s = ofL (putN n) ++ ofL r := str_eq (by rw [toList_app, toList_ofL, toList_ofL]; exact hsr)
    have H := Lib.hid h
    have hle : (n : Int) ≤ 72057594037927935 := by omega
    have hsz : (ofL (putN n)).size + (ofL r).size ≤ 9223372036854775807 := by
      rw [← size_toList, toList_app, List.length_append, size_toList, size_toList] at hs
      exact hs
    have hcl : ofL (putN (clampN (n : Int))) = ofL (putN n) := by rw [clampN_mid _ (by omega) hle]; rfl
    have Hcl := Lib.hid hcl
    clear h hcl hsr hn
    go_enter Try.func6, Try.ntmps6
    go_wp2_with fail
    refine (takeNum_some _ _ hs _ _ H.out).mono ?_
    rintro e w1 ⟨rfl, hb1⟩
    go_wp2_with fail
    refine (putNum_lit (n : Int) _ Hcl.out _).mono ?_
    rintro e w2 ⟨rfl, hb2⟩
    go_wp2_with fail
    refine (awake_any _).mono ?_
    rintro e w3 ⟨rfl, hb3⟩
    go_wp2
    go_ret
    exact ⟨rfl, bl (bl hb1 hb2) hb3⟩

theorem put_lit (n : Int) (b : ByteArray) (h : ofL (putN (clampN n)) = b) (w : World) : Calls Try.prog 15 #[.int .i64 n] w fun e w' => e = .returned (.string b) ∧ Below w.heap.size w w' := by
  subst h
  exact put_any n w

set_option maxHeartbeats 1000000 in
theorem encFirst_same (n m : Int) (a : ByteArray) (w : World) (ha : ofL (putN (clampN n)) = a) (hb : ofL (putN (clampN m)) = a) : Calls Try.prog 7 #[.int .i64 n, .int .i64 m] w (Yes w) := by
  have Ha := Lib.hid ha
  have Hb := Lib.hid hb
  clear ha hb
  go_enter Try.func7, Try.ntmps7
  go_wp2_with fail
  refine (putNum_lit n a Ha.out _).mono ?_
  rintro e w1 ⟨rfl, hb1⟩
  go_wp2_with fail
  refine (putNum_lit m a Hb.out _).mono ?_
  rintro e w2 ⟨rfl, hb2⟩
  go_wp2_with fail
  refine (put_lit n a Ha.out _).mono ?_
  rintro e w3 ⟨rfl, hb3⟩
  go_wp2_with fail
  refine (put_lit m a Hb.out _).mono ?_
  rintro e w4 ⟨rfl, hb4⟩
  go_wp2_with fail
  refine (awake_any _).mono ?_
  rintro e w5 ⟨rfl, hb5⟩
  go_wp2
  go_ret
  exact ⟨rfl, bl (bl (bl (bl hb1 hb2) hb3) hb4) hb5⟩

theorem pre_ne (a b : ByteArray) (N M : Nat) (hN : N ≤ 72057594037927935) (hM : M ≤ 72057594037927935) (ha : a.toList = putN N) (hb : b.toList = putN M) (hne : N ≠ M) : ((b.extract 0 a.size).toList == a.toList) = false := by
  rw [beq_eq_false_iff_ne, toList_pre, ha, hb, ← size_toList, ha]
  intro h
  have e : putN M ++ [] = putN N ++ (putN M).drop (putN N).length := by
    rw [List.append_nil]
    exact (List.take_append_drop (putN N).length (putN M)).symm.trans (by rw [h])
  exact hne (putN_inj M N hM hN _ _ e).1.symm

set_option maxHeartbeats 1000000 in
theorem encFirst_other (n m : Int) (a b : ByteArray) (w : World) (ha : ofL (putN (clampN n)) = a) (hb : ofL (putN (clampN m)) = b) (hne : clampN n ≠ clampN m) : Calls Try.prog 7 #[.int .i64 n, .int .i64 m] w (Yes w) := by
  have hta : a.toList = putN (clampN n) := by rw [← ha, toList_ofL]
  have htb : b.toList = putN (clampN m) := by rw [← hb, toList_ofL]
  have hab : (a.toList == b.toList) = false := by
    rw [beq_eq_false_iff_ne, hta, htb]
    intro h
    exact hne (putN_inj _ _ (clampN_le n) (clampN_le m) [] [] (by rw [h])).1
  have hp1 := pre_ne a b _ _ (clampN_le n) (clampN_le m) hta htb hne
  have hp2 := pre_ne b a _ _ (clampN_le m) (clampN_le n) htb hta (Ne.symm hne)
  have hsa : 0 < a.size := by rw [← size_toList, hta]; exact putN_pos _
  have hsb : 0 < b.size := by rw [← size_toList, htb]; exact putN_pos _
  have Ha := Lib.hid ha
  have Hb := Lib.hid hb
  clear ha hb hta htb hne
  by_cases hlen : (b.size : Int) < (a.size : Int)
  all_goals
    go_enter Try.func7, Try.ntmps7
    go_wp2_with fail
    refine (putNum_lit n a Ha.out _).mono ?_
    rintro e w1 ⟨rfl, hb1⟩
    go_wp2_with fail
    refine (putNum_lit m b Hb.out _).mono ?_
    rintro e w2 ⟨rfl, hb2⟩
    go_wp2_with fail
    refine (put_lit n a Ha.out _).mono ?_
    rintro e w3 ⟨rfl, hb3⟩
    go_wp2_with fail
    refine (put_lit m b Hb.out _).mono ?_
    rintro e w4 ⟨rfl, hb4⟩
    go_wp2_with fail
    refine (awake_any _).mono ?_
    rintro e w5 ⟨rfl, hb5⟩
    go_wp2
    go_ret
    exact ⟨rfl, bl (bl (bl (bl hb1 hb2) hb3) hb4) hb5⟩

theorem encFirst_walk (n m : Int) (w : World) (_l : -9223372036854775808 ≤ n) (_u : n ≤ 9223372036854775807) (_l2 : -9223372036854775808 ≤ m) (_u2 : m ≤ 9223372036854775807) : Calls Try.prog 7 #[.int .i64 n, .int .i64 m] w (Yes w) := by
  by_cases h : clampN n = clampN m
  · exact encFirst_same n m _ w rfl (by rw [h])
  · exact encFirst_other n m _ _ w rfl rfl h
end Go.Proofs.Ytjljkcklcnmdjaa
