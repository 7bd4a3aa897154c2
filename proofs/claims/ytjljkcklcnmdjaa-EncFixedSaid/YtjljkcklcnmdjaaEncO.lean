/-
  The walk of the law EncFixed (1.3).
-/
import Derived.Test.YtjljkcklcnmdjaaEncN
namespace Go.Proofs.Ytjljkcklcnmdjaa
open Go.RowKit

theorem be_emod (x : Int) (k : Nat) : be (x % 256 ^ k) k = be x k := by
  have h := be_num (be x k)
  rw [be_length, num_be] at h
  exact h
theorem be_congr {x y : Int} {k : Nat} (h : x % 256 ^ k = y % 256 ^ k) : be x k = be y k := by rw [← be_emod x, h, be_emod]
theorem wrap64_mod (v : Int) (k : Nat) (h : k ≤ 8) : wrap64 v % 256 ^ k = v % 256 ^ k := by
  unfold wrap64
  have : k = 0 ∨ k = 1 ∨ k = 2 ∨ k = 3 ∨ k = 4 ∨ k = 5 ∨ k = 6 ∨ k = 7 ∨ k = 8 := by omega
  rcases this with rfl | rfl | rfl | rfl | rfl | rfl | rfl | rfl | rfl <;> simp only [Int.reducePow] <;> omega
theorem be_back (n : Int) (k : Nat) (h : k ≤ 8) : be (wrap64 (num (be n k))) k = be n k := by
  rw [be_congr (wrap64_mod _ k h), num_be, be_emod]
theorem be_back8 (n : Int) (h1 : -9223372036854775808 ≤ n) (h2 : n ≤ 9223372036854775807) : wrap64 (num (be n 8)) = n := by
  rw [num_be]
  unfold wrap64
  simp only [Int.reducePow]
  omega
theorem takeF_is (s r : ByteArray) (m n k : Int) (w : World) (hs : s.size ≤ 9223372036854775807) (h : takeF s.toList m = (n, r.toList, k)) :
    Calls Try.prog 21 #[.string s, .int .i64 m] w fun e w' => e = .returned (.tuple #[.int .i64 n, .string r, .int .i64 k]) ∧ Below w.heap.size w w' :=
  (takeF_any s m w hs).mono fun e w' ⟨he, hb⟩ => ⟨by rw [he, h]; simp only [ofL_toList], hb⟩
theorem takeFRef_is (s r : ByteArray) (m n k : Int) (w : World) (hs : s.size ≤ 9223372036854775807) (h : takeF s.toList m = (n, r.toList, k)) :
    Calls Try.prog 22 #[.string s, .int .i64 m] w fun e w' => e = .returned (.tuple #[.int .i64 n, .string r, .int .i64 k]) ∧ Below w.heap.size w w' :=
  (takeFRef_any s m w hs).mono fun e w' ⟨he, hb⟩ => ⟨by rw [he, h]; simp only [ofL_toList], hb⟩
theorem takeF_ex (s : ByteArray) (m : Int) : ∃ (n : Int) (r : ByteArray) (k : Int), takeF s.toList m = (n, r.toList, k) :=
  ⟨(takeF s.toList m).1, ofL (takeF s.toList m).2.1, (takeF s.toList m).2.2, by simp only [toList_ofL]⟩

set_option maxHeartbeats 2000000 in
theorem encFixed_short (n m : Int) (s : ByteArray) (w : World) (hz : s.size ≤ 140737488351232) (h : m < 1 ∨ 8 < m ∨ (100000 : Int) < (s.size : Int)) :
    Calls Try.prog 9 #[.int .i64 n, .int .i64 m, .string s] w (Yes w) := by
  obtain ⟨b, r, k, hk⟩ := takeF_ex s m
  have Hk := Lib.hid hk
  clear hk
  by_cases h1 : m < 1
  rotate_left
  by_cases h2 : 8 < m
  rotate_left
  have h3 : (100000 : Int) < (s.size : Int) := by omega
  all_goals
    clear h
    go_enter Try.func9, Try.ntmps9
    go_wp2_with fail
    refine (fixed_any _ _ _).mono ?_
    rintro e w1 ⟨rfl, hb1⟩
    go_wp2_with fail
    refine (takeF_is _ r m b k _ (by omega) Hk.out).mono ?_
    rintro e w2 ⟨rfl, hb2⟩
    go_wp2_with fail
    refine (takeFRef_is _ r m b k _ (by omega) Hk.out).mono ?_
    rintro e w3 ⟨rfl, hb3⟩
    go_wp2_with fail
    refine (fixedRef_any _ _ _).mono ?_
    rintro e w4 ⟨rfl, hb4⟩
    go_wp2_with fail
    refine (awake_any _).mono ?_
    rintro e w5 ⟨rfl, hb5⟩
    go_wp2
    go_ret
    exact ⟨rfl, bl (bl (bl (bl hb1 hb2) hb3) hb4) hb5⟩

theorem fixed_is (n m : Int) (b : ByteArray) (w : World) (h : be n (fixK m) = b.toList) :
    Calls Try.prog 20 #[.int .i64 n, .int .i64 m] w fun e w' => e = .returned (.string b) ∧ Below w.heap.size w w' :=
  fixed_lit n m b (str_eq (by rw [toList_ofL]; exact h)) w

set_option maxHeartbeats 2000000 in
theorem encFixed_long (n m : Int) (s : ByteArray) (w : World) (hl : -9223372036854775808 ≤ n) (hu : n ≤ 9223372036854775807) (h1 : 1 ≤ m) (h8 : m ≤ 8) (hz : (s.size : Int) ≤ 100000) :
    Calls Try.prog 9 #[.int .i64 n, .int .i64 m, .string s] w (Yes w) := by
  obtain ⟨b, r, k, hk⟩ := takeF_ex s m
  have Hk := Lib.hid hk
  have hfk : fixK m ≤ 8 := fixK_le m
  have hmf : (fixK m : Int) = m := by unfold fixK; omega
  obtain ⟨a, ha⟩ : ∃ a : ByteArray, be n (fixK m) = a.toList := ⟨ofL (be n (fixK m)), by rw [toList_ofL]⟩
  have has : a.size = fixK m := by rw [← size_toList, ← ha, be_length]
  obtain ⟨d, hd⟩ : ∃ d : Int, d = wrap64 (num (be n (fixK m))) := ⟨_, rfl⟩
  have htf : takeF (a ++ s).toList m = (d, s.toList, 0) := by
    have hm : m.toNat = fixK m := by omega
    unfold takeF
    rw [if_neg (by omega), toList_app, List.length_append, ← ha, be_length, if_neg (by omega), hm, List.take_left' (by rw [be_length]), List.drop_left' (by rw [be_length]), hd]
  have hback : be d (fixK m) = a.toList := by rw [hd, be_back n _ hfk, ha]
  have h88 : ¬ m < 8 → d = n := by
    intro h
    have : fixK m = 8 := by omega
    rw [hd, this, be_back8 n hl hu]
  have hps : (a ++ s).size ≤ 9223372036854775807 := by rw [← size_toList, toList_app, List.length_append, size_toList, size_toList]; omega
  have Hps := Lib.hid hps
  have Htf := Lib.hid htf
  have Hback := Lib.hid hback
  have Ha := Lib.hid ha
  have hsum : a.size + s.size ≤ 9223372036854775807 := by omega
  clear hk hmf ha has hd htf hback hps hfk
  by_cases hm8 : m < 8
  rotate_left
  have hdn := h88 hm8
  subst hdn
  all_goals
    clear h88
    go_enter Try.func9, Try.ntmps9
    go_wp2_with fail
    refine (fixed_is _ _ a _ Ha.out).mono ?_
    rintro e w1 ⟨rfl, hb1⟩
    go_wp2_with fail
    refine (takeF_is _ r m b k _ (by omega) Hk.out).mono ?_
    rintro e w2 ⟨rfl, hb2⟩
    go_wp2_with fail
    refine (takeFRef_is _ r m b k _ (by omega) Hk.out).mono ?_
    rintro e w3 ⟨rfl, hb3⟩
    go_wp2_with fail
    refine (fixedRef_any _ _ _).mono ?_
    rintro e w4 ⟨rfl, hb4⟩
    rw [str_eq (show (ofL (be _ (fixK m))).toList = a.toList by rw [toList_ofL]; exact Ha.out)]
    go_wp2_with fail
    refine (takeF_is _ s m _ 0 _ Hps.out Htf.out).mono ?_
    rintro e w5 ⟨rfl, hb5⟩
    go_wp2_with fail
    refine (fixed_is _ _ a _ Hback.out).mono ?_
    rintro e w6 ⟨rfl, hb6⟩
    go_wp2_with fail
    refine (awake_any _).mono ?_
    rintro e w7 ⟨rfl, hb7⟩
    go_wp2
    go_ret
    exact ⟨rfl, bl (bl (bl (bl (bl (bl hb1 hb2) hb3) hb4) hb5) hb6) hb7⟩

theorem encFixed_walk (n m : Int) (s : ByteArray) (w : World) (hl : -9223372036854775808 ≤ n) (hu : n ≤ 9223372036854775807) (_l : -9223372036854775808 ≤ m) (_u : m ≤ 9223372036854775807) (hz : s.size ≤ 140737488351232) :
    Calls Try.prog 9 #[.int .i64 n, .int .i64 m, .string s] w (Yes w) := by
  by_cases h : m < 1 ∨ 8 < m ∨ (100000 : Int) < (s.size : Int)
  · exact encFixed_short n m s w hz h
  · exact encFixed_long n m s w hl hu (by omega) (by omega) (by omega)
end Go.Proofs.Ytjljkcklcnmdjaa
