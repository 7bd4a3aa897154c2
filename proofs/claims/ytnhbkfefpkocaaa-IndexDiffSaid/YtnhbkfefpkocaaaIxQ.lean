/-
  The walk of IndexWith.
-/
import Derived.Test.YtnhbkfefpkocaaaIxP
import Derived.Test.YtnhbkfefpkocaaaIxH
namespace Go.Proofs.Ytnhbkfefpkocaaa
open Go.RowKit Go.Sort

theorem without_is (L L2 : List It) (A : Option Addr) (n c : Nat) (hn : L.length = n) (hl : n ≤ 1000000) (id : Int) (h2 : woI id L = L2) (w : World) (hr : Rd w A (itf L)) :
    Calls Try.prog 10 #[.agg #[.slice A n c], .int .i64 id] w fun e w' => ∃ v, e = .returned (.agg #[v]) ∧ SlF w w' v L2 ∧ Below w.heap.size w w' := by
  subst h2
  exact without_any L A n c hn hl id w hr
theorem rwithout_is (L L2 : List It) (A : Option Addr) (n c : Nat) (hn : L.length = n) (hl : n ≤ 1000000) (id : Int) (h2 : woI id L = L2) (w : World) (hr : Rd w A (itf L)) :
    Calls Try.prog 13 #[.slice A n c, .int .i64 id] w fun e w' => ∃ B d, e = .returned (.slice B L2.length d) ∧ L2.length ≤ d ∧ d ≤ maxLen ∧ Rd w' B (itf L2) ∧ Below w.heap.size w w' := by
  subst h2
  exact rwithout_any L A n c hn hl id w hr

set_option maxRecDepth 20000 in
set_option maxHeartbeats 4000000 in
theorem indexWith_walk (A0 : Option Addr) (n0 c0 : Nat) (P0 : List Pt) (id : Int) (w : World) (hn : P0.length = n0) (hnb : n0 ≤ 9223372036854775807) (hr : Rd w A0 (pf P0)) (hok : ∀ x ∈ P0, PtOk w x) (_h1 : -9223372036854775808 ≤ id) (_h2 : id ≤ 9223372036854775807) :
    Calls Try.prog 3 #[.slice A0 n0 c0, .int .i64 id] w fun e w' => e = .returned (.bool true) ∧ Below w.heap.size w w' := by
  have HOF := Lib.hid (of_any P0 A0 n0 c0 hn hnb w hr hok)
  clear hn hr hok _h1 _h2
  go_enter Try.func3, Try.ntmps3
  go_wp2_with fail
  refine HOF.out.mono ?_
  rintro e w2 ⟨L, A, B, c, d, rfl, hc, hcm, hd, hdm, hrA, hrB, hfA, hfB, hG, hb2⟩
  clear HOF
  have hn480 := hG.2.2
  obtain ⟨n, hn⟩ : ∃ n, L.length = n := ⟨_, rfl⟩
  rw [hn] at hc hd hn480 ⊢
  obtain ⟨L2, hL2⟩ : ∃ L2, woI id L = L2 := ⟨_, rfl⟩
  have hl2 : L2.length ≤ 480 := by rw [← hL2]; exact Nat.le_trans (List.length_filter_le _ _) (by omega)
  have HA := Lib.hid (And.intro hn (And.intro hrA (And.intro hrB (And.intro hL2 hl2))))
  obtain ⟨w3, hw3⟩ : ∃ w3, w2.alloc (.cells #[.slice A n c] 25) = w3 := ⟨_, rfl⟩
  have hb3 : Below w2.heap.size w2 w3 := by rw [← hw3]; exact (Below.refl _ _).alloc (Nat.le_refl _) _
  have hk3 : Bk w3 w2.heap.size 25 #[.slice A n c] := by rw [← hw3]; exact Bk.new _ _ _
  have x3 := hk3.cell_ 0 (.slice A n c) rfl
  have H3 := Lib.hid (And.intro (bl hb2 hb3) (And.intro (hrA.below hb3) (And.intro (hrB.below hb3) hk3)))
  have HW3 := Lib.hid hw3
  clear hn hrA hrB hfA hfB hG hb2 hL2 hl2 hb3 hk3 hw3
  go_wp2_with fail
  rw [HW3.out]
  clear HW3
  refine (without_is L L2 A n c HA.out.1 (by omega) id HA.out.2.2.2.1 w3 H3.out.2.1).mono ?_
  rintro e w4 ⟨v4, rfl, ⟨A4, c4, rfl, hc4, hm4, hr4, hf4⟩, hb4⟩
  obtain ⟨n4, hn4⟩ : ∃ n4, L2.length = n4 := ⟨_, rfl⟩
  have hn4b : n4 ≤ 480 := by have := HA.out.2.2.2.2; omega
  rw [hn4] at hc4 ⊢
  obtain ⟨w5, hw5⟩ : ∃ w5, w4.alloc (.cells #[.slice A4 n4 c4] 25) = w5 := ⟨_, rfl⟩
  have hb5 : Below w4.heap.size w4 w5 := by rw [← hw5]; exact (Below.refl _ _).alloc (Nat.le_refl _) _
  have hk5 : Bk w5 w4.heap.size 25 #[.slice A4 n4 c4] := by rw [← hw5]; exact Bk.new _ _ _
  have x5 := hk5.cell_ 0 (.slice A4 n4 c4) rfl
  have H5 := Lib.hid (And.intro (bl hb4 hb5) (And.intro (hr4.below hb5) hn4))
  have HW5 := Lib.hid hw5
  clear hr4 hf4 hb4 hb5 hk5 hw5 hn4 x3
  go_wp2_with fail
  rw [HW5.out]
  clear HW5
  refine (list_any L2 A4 n4 c4 H5.out.2.2 (by omega) w5 H5.out.2.1).mono ?_
  rintro e w6 ⟨B6, d6, rfl, h61, h62, hr6, hb6⟩
  have H6 := Lib.hid (And.intro (bl H5.out.1 hb6) hr6)
  clear hr6 hb6 x5
  go_wp2_with fail
  refine (rwithout_is L L2 B n d HA.out.1 (by omega) id HA.out.2.2.2.1 w6 (H3.out.2.2.1.below H6.out.1)).mono ?_
  rw [H5.out.2.2]
  rintro e w7 ⟨B7, d7, rfl, h71, h72, hr7, hb7⟩
  have H7 := Lib.hid (And.intro (bl H6.out.1 hb7) (And.intro (H6.out.2.below hb7) hr7))
  clear hr7 hb7
  go_wp2_with fail
  refine (sameI_true L2 B6 B7 n4 d6 d7 w7 H5.out.2.2 (by omega) H7.out.2.1 H7.out.2.2).mono ?_
  rintro e w8 ⟨rfl, hb8⟩
  have x8 := (H3.out.2.2.2.below' (bl H7.out.1 hb8)).cell_ 0 (.slice A n c) rfl
  have H8 := Lib.hid (bl H7.out.1 hb8)
  clear hb8
  go_wp2_with fail
  refine (list_any L A n c HA.out.1 (by omega) w8 (H3.out.2.1.below H8.out)).mono ?_
  rintro e w9 ⟨B9, d9, rfl, h91, h92, hr9, hb9⟩
  have H9 := Lib.hid (And.intro (bl H8.out hb9) hr9)
  clear hr9 hb9 x8
  go_wp2_with fail
  refine (sameI_true L B9 B n d9 d w9 HA.out.1 (by omega) H9.out.2 (H3.out.2.2.1.below H9.out.1)).mono ?_
  rintro e w10 ⟨rfl, hb10⟩
  have H10 := Lib.hid (bl H9.out.1 hb10)
  clear hb10
  go_wp2_with fail
  refine (awakeI_any w10).mono ?_
  rintro e w11 ⟨rfl, hb11⟩
  have H11 := Lib.hid (bl H3.out.1 (bl H10.out hb11))
  clear hb11
  go_wp2_with fail
  go_ret
  exact ⟨rfl, H11.out⟩
end Go.Proofs.Ytnhbkfefpkocaaa
