/-
  The walks of the laws of chapter 1.
-/
import Derived.Test.YtjljkcklcnmdjaaEncG
import Derived.Test.YtjljkcklcnmdjaaFrame
namespace Go.Proofs.Ytjljkcklcnmdjaa
open Go.RowKit

theorem putNum_lit (n : Int) (b : ByteArray) (h : ofL (putN (clampN n)) = b) (w : World) : Calls Try.prog 10 #[.slice (some ⟨w.heap.size, 0, none⟩) 1 1] (w.alloc (.cells #[.int .i64 n] 3)) fun e w' =>
    e = .returned (.string b) ∧ Below w.heap.size w w' := by
  subst h
  exact putNum_one n w
theorem takeNum_lit (s : ByteArray) (hsz : s.size ≤ 100) (h : takeN s.toList = none) (w : World) :
    Calls Try.prog 13 #[.string s] w fun e w' => e = .returned (.tuple #[.int .i64 0, .string ⟨#[]⟩, .int .i64 2]) ∧ Below w.heap.size w w' := takeNum_none s w (by omega) h
theorem putText_lit (s b : ByteArray) (hsz : s.size ≤ 100) (h : ofL (putT s.toList) = b) (w : World) :
    Calls Try.prog 18 #[.string s] w fun e w' => e = .returned (.string b) ∧ Below w.heap.size w w' := by
  subst h
  exact putText_any s w (by omega)
theorem fixed_lit (n m : Int) (b : ByteArray) (h : ofL (be n (fixK m)) = b) (w : World) :
    Calls Try.prog 20 #[.int .i64 n, .int .i64 m] w fun e w' => e = .returned (.string b) ∧ Below w.heap.size w w' := by
  subst h
  exact fixed_any n m w

theorem lit_take : takeN (⟨#[248, 5]⟩ : ByteArray).toList = none := by rw [show (⟨#[248, 5]⟩ : ByteArray) = ofL [248, 5] from rfl, toList_ofL]; decide
theorem lit_5 : ofL (putN (clampN 5)) = ⟨#[5]⟩ := by decide
theorem lit_247 : ofL (putN (clampN 247)) = ⟨#[247]⟩ := by decide
theorem lit_248 : ofL (putN (clampN 248)) = ⟨#[248, 248]⟩ := by decide
theorem lit_65536 : ofL (putN (clampN 65536)) = ⟨#[250, 1, 0, 0]⟩ := by decide
theorem lit_ab : ofL (putT (⟨#[97, 98]⟩ : ByteArray).toList) = ⟨#[2, 97, 98]⟩ := by rw [show (⟨#[97, 98]⟩ : ByteArray) = ofL [97, 98] from rfl, toList_ofL]; decide
theorem lit_258 : ofL (be 258 (fixK 2)) = ⟨#[1, 2]⟩ := by decide

set_option maxHeartbeats 1000000 in
theorem awake_any (w : World) : Calls Try.prog 12 #[] w fun e w' => e = .returned (.bool true) ∧ Below w.heap.size w w' := by
  go_enter Try.func12, Try.ntmps12
  go_wp2_with fail
  refine (takeNum_lit _ (by decide) lit_take _).mono ?_
  rintro e w1 ⟨rfl, hb1⟩
  go_wp2_with fail
  refine (putNum_lit 5 _ lit_5 _).mono ?_
  rintro e w2 ⟨rfl, hb2⟩
  go_wp2_with fail
  refine (putNum_lit 247 _ lit_247 _).mono ?_
  rintro e w3 ⟨rfl, hb3⟩
  go_wp2_with fail
  refine (putNum_lit 248 _ lit_248 _).mono ?_
  rintro e w4 ⟨rfl, hb4⟩
  go_wp2_with fail
  refine (putNum_lit 65536 _ lit_65536 _).mono ?_
  rintro e w5 ⟨rfl, hb5⟩
  go_wp2_with fail
  refine (putText_lit _ _ (by decide) lit_ab _).mono ?_
  rintro e w6 ⟨rfl, hb6⟩
  go_wp2_with fail
  refine (fixed_lit 258 2 _ lit_258 _).mono ?_
  rintro e w7 ⟨rfl, hb7⟩
  go_wp2
  go_ret
  exact ⟨rfl, bl (bl (bl (bl (bl (bl hb1 hb2) hb3) hb4) hb5) hb6) hb7⟩

set_option maxHeartbeats 1000000 in
theorem encPuts_walk (A : Option Addr) (n c : Nat) (xs : List Int) (w : World) (hx : xs.length = n) (hr : Rd w A (xs.map (Value.int .i64))) (hn : n ≤ c) (hc : c * 8 ≤ 140737488351232) :
    Calls Try.prog 3 #[.slice A n c] w (Yes w) := by
  by_cases h : 1000 < n
  · have hr2 : Rd w A ((xs.take 1000).map (Value.int .i64)) := by rw [List.map_take]; exact hr.take 1000
    have hx2 : (xs.take 1000).length = 1000 := by rw [List.length_take]; omega
    have Hx2 := Lib.hid hx2
    have Hx := Lib.hid hx
    clear hx hx2
    go_enter Try.func3, Try.ntmps3
    go_wp2_with fail
    refine (putNum_any _ _ _ (xs.take 1000) _ Hx2.out hr2 (by omega)).mono ?_
    rintro e w1 ⟨rfl, hb1⟩
    go_wp2_with fail
    refine (putAll_any _ _ _ (xs.take 1000) _ Hx2.out (hr2.below hb1) (by omega)).mono ?_
    rintro e w2 ⟨rfl, hb2⟩
    go_wp2_with fail
    refine (awake_any _).mono ?_
    rintro e w3 ⟨rfl, hb3⟩
    go_wp2
    go_ret
    exact ⟨rfl, bl (bl hb1 hb2) hb3⟩
  · have Hx := Lib.hid hx
    clear hx
    go_enter Try.func3, Try.ntmps3
    go_wp2_with fail
    refine (putNum_any _ _ _ xs _ Hx.out hr (by omega)).mono ?_
    rintro e w1 ⟨rfl, hb1⟩
    go_wp2_with fail
    refine (putAll_any _ _ _ xs _ Hx.out (hr.below hb1) (by omega)).mono ?_
    rintro e w2 ⟨rfl, hb2⟩
    go_wp2_with fail
    refine (awake_any _).mono ?_
    rintro e w3 ⟨rfl, hb3⟩
    go_wp2
    go_ret
    exact ⟨rfl, bl (bl hb1 hb2) hb3⟩

set_option maxHeartbeats 1000000 in
theorem encTakes_walk (s : ByteArray) (w : World) (hz : s.size ≤ 140737488351232) : Calls Try.prog 4 #[.string s] w (Yes w) := by
  have hs : s.size ≤ 9223372036854775807 := by omega
  go_enter Try.func4, Try.ntmps4
  go_wp2_with fail
  refine (takeNum_any _ _ hs).mono ?_
  rintro e w1 ⟨rfl, hb1⟩
  go_wp2_with fail
  refine (takeRef_any _ _ hs).mono ?_
  rintro e w2 ⟨rfl, hb2⟩
  go_wp2_with fail
  refine (awake_any _).mono ?_
  rintro e w3 ⟨rfl, hb3⟩
  go_wp2
  go_ret
  exact ⟨rfl, bl (bl hb1 hb2) hb3⟩
end Go.Proofs.Ytjljkcklcnmdjaa
