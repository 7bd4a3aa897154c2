/-
  Chapter 11's examples (awake); cut.
-/
import Derived.Test.YtfgneoalofnmaaaPathB
namespace Go.Proofs.Ytfgneoalofnmaaa
open Go.RowKit

theorem okP_lit (l : List UInt8) : okP ⟨l.toArray⟩ = if pathOk l then 0 else 5 := by unfold okP; rw [mk_ofL, toList_ofL]
theorem check_k (p : ByteArray) (k : Int) (h : okP p = k) (hs : p.size ≤ 9223372036854775807) (w : World) :
    Calls Try.prog 9 #[.string p] w fun e w' => e = .returned (.int .i64 k) ∧ Below w.heap.size w w' := by subst h; exact check_any p w hs

set_option maxRecDepth 20000 in
set_option maxHeartbeats 2000000 in
theorem awakeP_any (w : World) : Calls Try.prog 11 #[] w fun e w' => e = .returned (.bool true) ∧ Below w.heap.size w w' := by
  have a1 := Lib.hid (show okP ⟨#[97, 47, 98, 46, 116, 120, 116]⟩ = 0 by rw [okP_lit]; decide)
  have a2 := Lib.hid (show okP ⟨#[47, 97]⟩ = 5 by rw [okP_lit]; decide)
  have a3 := Lib.hid (show okP ⟨#[97, 47, 47, 98]⟩ = 5 by rw [okP_lit]; decide)
  have a4 := Lib.hid (show okP ⟨#[97, 47]⟩ = 5 by rw [okP_lit]; decide)
  have a5 := Lib.hid (show okP ⟨#[97, 47, 46, 46, 47, 98]⟩ = 5 by rw [okP_lit]; decide)
  have a6 := Lib.hid (show okP ⟨#[]⟩ = 5 by rw [okP_lit]; decide)
  have a7 := Lib.hid (show okP ⟨#[46, 46, 46]⟩ = 0 by rw [okP_lit]; decide)
  go_enter Try.func11, Try.ntmps11
  go_wp2_with fail
  (with_reducible refine (check_k _ _ a1.out (by decide) _).mono ?_)
  rintro e w1 ⟨rfl, h1⟩
  go_wp2_with fail
  (with_reducible refine (check_k _ _ a2.out (by decide) _).mono ?_)
  rintro e w2 ⟨rfl, h2⟩
  have b2 := bl h1 h2
  clear h1 h2
  go_wp2_with fail
  (with_reducible refine (check_k _ _ a3.out (by decide) _).mono ?_)
  rintro e w3 ⟨rfl, h3⟩
  have b3 := bl b2 h3
  clear b2 h3
  go_wp2_with fail
  (with_reducible refine (check_k _ _ a4.out (by decide) _).mono ?_)
  rintro e w4 ⟨rfl, h4⟩
  have b4 := bl b3 h4
  clear b3 h4
  go_wp2_with fail
  (with_reducible refine (check_k _ _ a5.out (by decide) _).mono ?_)
  rintro e w5 ⟨rfl, h5⟩
  have b5 := bl b4 h5
  clear b4 h5
  go_wp2_with fail
  (with_reducible refine (check_k _ _ a6.out (by decide) _).mono ?_)
  rintro e w6 ⟨rfl, h6⟩
  have b6 := bl b5 h6
  clear b5 h6
  go_wp2_with fail
  (with_reducible refine (check_k _ _ a7.out (by decide) _).mono ?_)
  rintro e w7 ⟨rfl, h7⟩
  have b7 := bl b6 h7
  clear b6 h7
  go_wp2_with fail
  go_ret
  exact ⟨rfl, b7⟩

/-- A text of at most 5000 bytes out of any one. -/
def cutL (s : ByteArray) : ByteArray := ofL (s.toList.take 5000)
theorem cutL_size (s : ByteArray) : (cutL s).size ≤ 5000 := by unfold cutL; rw [size_ofL, List.length_take]; omega
theorem cut_any (s : ByteArray) (w : World) (hs : s.size ≤ 9223372036854775807) : Calls Try.prog 8 #[.string s] w fun e w' => e = .returned (.string (cutL s)) ∧ w' = w := by
  by_cases h : 5000 < s.size
  · have h' : (5000 : Int) < (s.size : Int) := by omega
    go_enter Try.func8, Try.ntmps8
    go_wp2
    go_ret
    exact ⟨ret_str (by unfold cutL; rw [toList_ofL, toList_pre]), rfl⟩
  · go_enter Try.func8, Try.ntmps8
    go_wp2
    go_ret
    exact ⟨ret_str (by unfold cutL; rw [toList_ofL, List.take_of_length_le (by rw [size_toList]; omega)]), rfl⟩
end Go.Proofs.Ytfgneoalofnmaaa
