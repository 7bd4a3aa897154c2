/-
  The walks of IndexBack and IndexTakes.
-/
import Derived.Test.YtnhbkfefpkocaaaIxTg
import Derived.Test.YtnhbkfefpkocaaaP13
namespace Go.Proofs.Ytnhbkfefpkocaaa
open Go.RowKit Go.Sort

theorem oneP_len2 (last : List UInt8) (x : It) (h1 : x.p.size ≤ 20000) (h2 : x.sm.size ≤ 32) : (oneP last x).length ≤ 21000 := by
  unfold oneP
  simp only [List.length_append]
  have q1 := putN_length (clampN ((comI last x.p.toList : Nat) : Int))
  have q2 := putN_length (clampN x.id)
  have q3 := putN_length (clampN x.sz)
  have q4 := putT_lenL (x.p.toList.drop (comI last x.p.toList))
  rw [List.length_drop, size_toList] at q4
  rw [size_toList]
  omega
theorem restP_len2 : ∀ (L : List It) (last : List UInt8), (∀ y ∈ L, y.p.size ≤ 20000 ∧ y.sm.size ≤ 32) → (restP last L).length ≤ L.length * 21000
  | [], _, _ => by simp [restP]
  | x :: L, last, h => by
    have h1 := oneP_len2 last x (h x (by simp)).1 (h x (by simp)).2
    have h2 := restP_len2 L x.p.toList (fun y hy => h y (by simp [hy]))
    rw [restP, List.length_append, List.length_cons]
    omega
theorem putX_len2 {L : List It} (h : ∀ y ∈ L, y.p.size ≤ 20000 ∧ y.sm.size ≤ 32) (hl : L.length ≤ 512) : (putX L).length ≤ 100000000 := by
  have h1 := restP_len2 L [] h
  have h2 := putN_length (clampN ((L.length : Nat) : Int))
  unfold putX
  rw [List.length_append]
  omega
theorem good_may {y : It} (h : GoodI y) : MayI y := ⟨h.1, h.2.2.1, h.2.2.2.1, h.2.2.2.2.1, by have := h.2.2.2.2.2.1; omega, h.2.2.2.2.2.2⟩
theorem nil_ltX {p : ByteArray} (h : okP p = 0) : [] < p.toList := by
  have := (okP_le h).1
  cases hp : p.toList with
  | nil => exact absurd hp this
  | cons x l => exact List.nil_lt_cons x l
theorem xtake_is (s0 : ByteArray) (hs0 : s0.size ≤ 1000000000) (k : Int) (L : List It) (hO : takeX s0.toList = (k, L)) (w : World) :
    Calls Try.prog 22 #[.string s0] w fun e w' => ∃ A c, e = .returned (.tuple #[.agg #[.slice A L.length c], .int .i64 k]) ∧ L.length ≤ c ∧ c ≤ maxLen ∧ Rd w' A (itf L) ∧ Below w.heap.size w w' := xtake_any s0 hs0 (k, L) hO w
theorem rtake_isX (s0 : ByteArray) (hs0 : s0.size ≤ 10000000) (k : Int) (L : List It) (hO : takeX s0.toList = (k, L)) (w : World) :
    Calls Try.prog 24 #[.string s0] w fun e w' => ∃ A c, e = .returned (.tuple #[.slice A L.length c, .int .i64 k]) ∧ L.length ≤ c ∧ c ≤ maxLen ∧ Rd w' A (itf L) ∧ Below w.heap.size w w' := rtakeX_any s0 hs0 (k, L) hO w

set_option maxRecDepth 20000 in
set_option maxHeartbeats 8000000 in
theorem indexBack_walk (A0 : Option Addr) (n0 c0 : Nat) (P0 : List Pt) (w : World) (hn : P0.length = n0) (hnb : n0 ≤ 9223372036854775807) (hr : Rd w A0 (pf P0)) (hok : ∀ x ∈ P0, PtOk w x) :
    Calls Try.prog 6 #[.slice A0 n0 c0] w fun e w' => e = .returned (.bool true) ∧ Below w.heap.size w w' := by
  have HOF := Lib.hid (of_any P0 A0 n0 c0 hn hnb w hr hok)
  clear hn hr hok
  go_enter Try.func6, Try.ntmps6
  go_wp2_with fail
  refine HOF.out.mono ?_
  rintro e w2 ⟨L, A, B, c, d, rfl, hc, hcm, hd, hdm, hrA, hrB, hfA, hfB, hG, hb2⟩
  clear HOF
  have hn480 := hG.2.2
  obtain ⟨n, hn⟩ : ∃ n, L.length = n := ⟨_, rfl⟩
  rw [hn] at hc hd hn480 ⊢
  obtain ⟨s, hs, hsl, hsz⟩ := str_of (putX L)
  have hzz : ∀ y ∈ L, y.p.size ≤ 1000000 ∧ y.sm.size ≤ 1000000 := fun y hy => by have := hG.2.1 y hy; exact ⟨by have := this.2.1; omega, by have := this.2.2.2.2.2.2; omega⟩
  have hz2 : s.size ≤ 100000000 := by rw [hsz]; exact putX_len2 (fun y hy => by have := hG.2.1 y hy; exact ⟨this.2.1, by have := this.2.2.2.2.2.2; omega⟩) (by omega)
  have hT : takeX s.toList = (0, L) := by rw [hsl]; exact takeX_put (OrdX.of_srt (fun x hx => good_may (hG.2.1 x hx)) hG.1 (fun x hx => nil_ltX (hG.2.1 x hx).1)) (by omega)
  have HA := Lib.hid (And.intro hn (And.intro hs (And.intro hzz hT)))
  obtain ⟨w3, hw3⟩ : ∃ w3, w2.alloc (.cells #[.slice A n c] 25) = w3 := ⟨_, rfl⟩
  have hb3 : Below w2.heap.size w2 w3 := by rw [← hw3]; exact (Below.refl _ _).alloc (Nat.le_refl _) _
  have hk3 : Bk w3 w2.heap.size 25 #[.slice A n c] := by rw [← hw3]; exact Bk.new _ _ _
  have x3 := hk3.cell_ 0 (.slice A n c) rfl
  have H3 := Lib.hid (And.intro (bl hb2 hb3) (And.intro (hrA.below hb3) (hrB.below hb3)))
  have HW3 := Lib.hid hw3
  clear hn hrA hrB hfA hfB hG hb2 hb3 hk3 hw3 hs hsl hsz hzz hT
  go_upto_region 4 with (fail)
  rw [HW3.out]
  clear HW3
  go_wp2_with fail
  refine (xput_any L A n c HA.out.1 (by omega) HA.out.2.2.1 s HA.out.2.1 w3 H3.out.2.1).mono ?_
  rintro e w4 ⟨rfl, hb4⟩
  have H4 := Lib.hid hb4
  clear hb4 x3
  go_wp2_with fail
  refine (xtake_is s (by omega) 0 L HA.out.2.2.2 w4).mono ?_
  rintro e w5 ⟨A5, c5, rfl, h51, h52, hr5, hb5⟩
  rw [HA.out.1] at h51 ⊢
  obtain ⟨w6, hw6⟩ : ∃ w6, w5.alloc (.cells #[.slice A5 n c5] 25) = w6 := ⟨_, rfl⟩
  have hb6 : Below w5.heap.size w5 w6 := by rw [← hw6]; exact (Below.refl _ _).alloc (Nat.le_refl _) _
  have hk6 : Bk w6 w5.heap.size 25 #[.slice A5 n c5] := by rw [← hw6]; exact Bk.new _ _ _
  have H6 := Lib.hid (And.intro (bl H4.out (bl hb5 hb6)) (And.intro (hr5.below hb6) hk6))
  have HW6 := Lib.hid hw6
  clear hr5 hb5 hb6 hk6 hw6
  go_upto_region 6 with (fail)
  rw [HW6.out]
  clear HW6
  have hss : (s.toList == s.toList) = true := by simp
  go_wp2_with fail
  refine (rputX_any L B n d HA.out.1 (by omega) HA.out.2.2.1 s HA.out.2.1 w6 (H3.out.2.2.below H6.out.1)).mono ?_
  rintro e w7 ⟨rfl, hb7⟩
  have x7 := (H6.out.2.2.below' hb7).cell_ 0 (.slice A5 n c5) rfl
  have H7 := Lib.hid (And.intro (bl H6.out.1 hb7) (H6.out.2.1.below hb7))
  clear hb7
  go_wp2_with fail
  refine (list_any L A5 n c5 HA.out.1 (by omega) w7 H7.out.2).mono ?_
  rintro e w8 ⟨B8, d8, rfl, h81, h82, hr8, hb8⟩
  have H8 := Lib.hid (And.intro (bl H7.out.1 hb8) hr8)
  clear hr8 hb8 x7
  go_wp2_with fail
  refine (sameI_true L B8 B n d8 d w8 HA.out.1 (by omega) H8.out.2 (H3.out.2.2.below H8.out.1)).mono ?_
  rintro e w9 ⟨rfl, hb9⟩
  have H9 := Lib.hid (bl H8.out.1 hb9)
  clear hb9
  go_wp2_with fail
  refine (awakeI_any w9).mono ?_
  rintro e w10 ⟨rfl, hb10⟩
  have H10 := Lib.hid (bl H3.out.1 (bl H9.out hb10))
  clear hb10
  go_wp2_with fail
  go_ret
  exact ⟨rfl, H10.out⟩

set_option maxRecDepth 20000 in
set_option maxHeartbeats 8000000 in
theorem indexTakes_walk (s : ByteArray) (w : World) (hsz : s.size ≤ 140737488351232) :
    Calls Try.prog 7 #[.string s] w fun e w' => e = .returned (.bool true) ∧ Below w.heap.size w w' := by
  obtain ⟨p1, hp1, hp1z⟩ : ∃ p1 : ByteArray, (if 20000 < s.size then s.extract 0 20000 else s) = p1 ∧ p1.size ≤ 20000 := ⟨_, rfl, by
    split
    · rw [ByteArray.size_extract]; omega
    · omega⟩
  obtain ⟨k, L, hO⟩ : ∃ k L, takeX p1.toList = (k, L) := ⟨_, _, rfl⟩
  have hcs := takeX_cases p1.toList
  rw [hO] at hcs
  simp only at hcs
  have hlen : L.length ≤ 512 := by
    rcases hcs with ⟨_, h⟩ | ⟨_, _, _, h⟩
    · rw [h]; simp
    · exact h
  have HO := Lib.hid (And.intro hO hcs)
  clear hO hcs
  go_enter Try.func7, Try.ntmps7
  by_cases hp5 : 20000 < s.size
  case' pos =>
    have hp51 : (20000 : Int) < (s.size : Int) := by omega
    have hp52 : (20000 : Int) ≤ (s.size : Int) := by omega
    have hp53 : 20000 ≤ s.size := by omega
    rw [if_pos hp5] at hp1
    have HP1 := Lib.hid hp1
    clear hp1 hp5
    go_wp2_with fail
    rw [HP1.out]
    clear HP1
  case' neg =>
    have hp51 : ¬ ((20000 : Int) < (s.size : Int)) := by omega
    rw [if_neg hp5] at hp1
    subst s
    clear hp5
    go_wp2_with fail
  all_goals
    refine (xtake_is p1 (by omega) k L HO.out.1 w).mono ?_
    rintro e w1 ⟨A, c, rfl, h11, h12, hr1, hb1⟩
    obtain ⟨n, hn⟩ : ∃ n, L.length = n := ⟨_, rfl⟩
    rw [hn] at h11 hlen ⊢
    obtain ⟨w2, hw2⟩ : ∃ w2, w1.alloc (.cells #[.slice A n c] 25) = w2 := ⟨_, rfl⟩
    have hb2 : Below w1.heap.size w1 w2 := by rw [← hw2]; exact (Below.refl _ _).alloc (Nat.le_refl _) _
    have hk2 : Bk w2 w1.heap.size 25 #[.slice A n c] := by rw [← hw2]; exact Bk.new _ _ _
    have H2 := Lib.hid (And.intro (bl hb1 hb2) (And.intro (hr1.below hb2) (And.intro hk2 hn)))
    have HW2 := Lib.hid hw2
    clear hb1 hb2 hr1 hk2 hw2 hn
    go_wp2_with fail
    rw [HW2.out]
    clear HW2
    refine (rtake_isX p1 (by omega) k L HO.out.1 w2).mono ?_
    rintro e w3 ⟨B, d, rfl, h31, h32, hr3, hb3⟩
    rw [H2.out.2.2.2] at h31 ⊢
    have x3 := (H2.out.2.2.1.below' hb3).cell_ 0 (.slice A n c) rfl
    have H3 := Lib.hid (And.intro hb3 hr3)
    clear hb3 hr3
    go_wp2_with fail
    refine (list_any L A n c H2.out.2.2.2 (by omega) w3 (H2.out.2.1.below H3.out.1)).mono ?_
    rintro e w4 ⟨B4, d4, rfl, h41, h42, hr4, hb4⟩
    have H4 := Lib.hid (And.intro (bl H3.out.1 hb4) (And.intro hr4 (H3.out.2.below hb4)))
    clear hr4 hb4 x3
    go_wp2_with fail
    refine (sameI_true L B4 B n d4 d w4 H2.out.2.2.2 (by omega) H4.out.2.1 H4.out.2.2).mono ?_
    rintro e w5 ⟨rfl, hb5⟩
    have x5 := (H2.out.2.2.1.below' (bl H4.out.1 hb5)).cell_ 0 (.slice A n c) rfl
    have H5 := Lib.hid (bl H4.out.1 hb5)
    have hkk : (k == k) = true := by simp
    clear hb5
    rcases HO.out.2 with ⟨hk0, _⟩ | ⟨hk0, hput, hord, _⟩
    · have e0 : (k == 0) = false := by simp [hk0]
      have e1 : (k != 0) = true := by simp [hk0]
      clear hk0
      go_wp2_with fail
      refine (awakeI_any w5).mono ?_
      rintro e w6 ⟨rfl, hb6⟩
      have H6 := Lib.hid (bl H2.out.1 (bl H5.out hb6))
      clear hb6
      go_wp2_with fail
      go_ret
      exact ⟨rfl, H6.out⟩
    · subst hk0
      have hzz : ∀ y ∈ L, y.p.size ≤ 1000000 ∧ y.sm.size ≤ 1000000 := fun y hy => by
        have hm := hord.may y hy
        have h1 := (okP_le hm.1).2
        rw [size_toList] at h1
        have h2 := hm.2.2.2.2.2
        omega
      have HP := Lib.hid (And.intro hzz (show ofL (putX L) = p1 by rw [hput, ofL_toList]))
      have hss : (p1.toList == p1.toList) = true := by simp
      clear hput hord hzz
      go_wp2_with fail
      refine (xput_any L A n c H2.out.2.2.2 (by omega) HP.out.1 p1 HP.out.2 w5 (H2.out.2.1.below H5.out)).mono ?_
      rintro e w6 ⟨rfl, hb6⟩
      have H6 := Lib.hid (bl H5.out hb6)
      clear hb6 x5
      go_wp2_with fail
      refine (awakeI_any w6).mono ?_
      rintro e w7 ⟨rfl, hb7⟩
      have H7 := Lib.hid (bl H2.out.1 (bl H6.out hb7))
      clear hb7
      go_wp2_with fail
      go_ret
      exact ⟨rfl, H7.out⟩
end Go.Proofs.Ytnhbkfefpkocaaa
