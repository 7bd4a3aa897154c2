/-
  The laws FilemapTakes, FilemapOnly: the walks.
-/
import Derived.Test.YtbgnbkomckbckaaFmZ
namespace Go.Proofs.Ytbgnbkomckbckaa
open Go.RowKit

theorem take_len {s : List UInt8} {X : Int × List Fl} (h : takeFl s = X) : X.2.length ≤ 64 := by
  rcases take_cases s with ⟨_, h2⟩ | ⟨_, h2, _⟩
  · rw [← h, h2]; simp
  · rw [← h]; exact ((check_ok _).1 h2).1
theorem cut_size (s : ByteArray) : (s.extract 0 100000).size ≤ 100000 := by rw [ByteArray.size_extract]; omega

theorem small_of_check {l : List Fl} (h : checkF l = 0) {y : Fl} (hy : y ∈ l) : y.1.size ≤ 100000000 ∧ y.2.size ≤ 100000000 := by
  have h1 := ((check_ok _).1 h).2.1 y hy
  have h2 := h1.1
  unfold okP at h2
  split at h2
  · rename_i h3
    unfold pathOk at h3
    have h4 := (of_decide_eq_true h3).2.1
    rw [size_toList] at h4
    omega
  · cases h2

set_option maxRecDepth 20000 in
set_option maxHeartbeats 4000000 in
theorem filemapTakes_walk (s : ByteArray) (w : World) (hz : s.size ≤ 140737488351232) : Calls Try.prog 6 #[.string s] w (Yes w) := by
  by_cases hbig : (100000 : Int) < (s.size : Int)
  · have hcs := cut_size s
    go_enter Try.func6, Try.ntmps6
    go_wp2_with fail
    generalize s.extract 0 100000 = t at *
    obtain ⟨X, hX⟩ : ∃ X, takeFl t.toList = X := ⟨_, rfl⟩
    have hl := take_len hX
    have HX := Lib.hid hX
    have hs2 : t.size ≤ 100000000 := by omega
    clear hX
    (with_reducible refine (ftake_any t X HX.out _ hs2).mono ?_)
    rintro e w1 ⟨B, c, rfl, q1, q2, hr, hb1⟩
    go_wp2_with fail
    (with_reducible refine (rtake_any t X HX.out _ hs2).mono ?_)
    rintro e w2 ⟨B2, c2, rfl, q3, q4, hr2, hb2⟩
    have hr1 := hr.below hb2
    have hb3 := bl hb1 hb2
    have HSS := Lib.hid (same_is X.2 X.2 B B2 X.2.length X.2.length c c2 true (decide_eq_true rfl) w2 rfl rfl (by omega) hr1 hr2)
    clear hr hr1 hr2 hb1 hb2
    go_wp2_with fail
    refine HSS.out.mono ?_
    rintro e w3 ⟨rfl, hb4⟩
    go_wp2_with fail
    (with_reducible refine (awakeF_any _).mono ?_)
    rintro e w4 ⟨rfl, hb5⟩
    go_wp2_with fail
    go_ret
    exact ⟨rfl, bl (bl hb3 hb4) hb5⟩
  · obtain ⟨X, hX⟩ : ∃ X, takeFl s.toList = X := ⟨_, rfl⟩
    have hl := take_len hX
    have HX := Lib.hid hX
    have hs2 : s.size ≤ 100000000 := by omega
    clear hX
    go_enter Try.func6, Try.ntmps6
    go_wp2_with fail
    (with_reducible refine (ftake_any s X HX.out _ hs2).mono ?_)
    rintro e w1 ⟨B, c, rfl, q1, q2, hr, hb1⟩
    go_wp2_with fail
    (with_reducible refine (rtake_any s X HX.out _ hs2).mono ?_)
    rintro e w2 ⟨B2, c2, rfl, q3, q4, hr2, hb2⟩
    have hr1 := hr.below hb2
    have hb3 := bl hb1 hb2
    have HSS := Lib.hid (same_is X.2 X.2 B B2 X.2.length X.2.length c c2 true (decide_eq_true rfl) w2 rfl rfl (by omega) hr1 hr2)
    clear hr hr1 hr2 hb1 hb2
    go_wp2_with fail
    refine HSS.out.mono ?_
    rintro e w3 ⟨rfl, hb4⟩
    go_wp2_with fail
    (with_reducible refine (awakeF_any _).mono ?_)
    rintro e w4 ⟨rfl, hb5⟩
    go_wp2_with fail
    go_ret
    exact ⟨rfl, bl (bl hb3 hb4) hb5⟩

set_option maxRecDepth 20000 in
set_option maxHeartbeats 4000000 in
theorem filemapOnly_walk (s : ByteArray) (w : World) (hz : s.size ≤ 140737488351232) : Calls Try.prog 7 #[.string s] w (Yes w) := by
  by_cases hbig : (100000 : Int) < (s.size : Int)
  · have hcs := cut_size s
    go_enter Try.func7, Try.ntmps7
    go_wp2_with fail
    generalize s.extract 0 100000 = t at *
    obtain ⟨X, hX⟩ : ∃ X, takeFl t.toList = X := ⟨_, rfl⟩
    have hl := take_len hX
    have HX := Lib.hid hX
    have hs2 : t.size ≤ 100000000 := by omega
    clear hX
    rcases take_cases t.toList with ⟨k1, k2⟩ | ⟨k1, k2, k3⟩
    · obtain ⟨x, hx⟩ : ∃ x, X.1 = x := ⟨_, rfl⟩
      have hx0 : (x == 0) = false := by rw [← hx, ← HX.out]; simpa using k1
      have HE := Lib.hid (show X = (x, []) from Prod.ext hx (by rw [← HX.out]; exact k2))
      clear k1 k2 hx
      (with_reducible refine (ftake_any t X HX.out _ hs2).mono ?_)
      rw [HE.out]
      rintro e w1 ⟨B, c, rfl, q1, q2, hr, hb1⟩
      simp only [List.length_nil]
      go_wp2_with fail
      (with_reducible refine (awakeF_any _).mono ?_)
      rintro e w4 ⟨rfl, hb5⟩
      go_wp2_with fail
      go_ret
      exact ⟨rfl, bl hb1 hb5⟩
    · rw [HX.out] at k1 k2 k3
      obtain ⟨x, l⟩ := X
      simp only at k1 k2 k3 hl
      subst k1
      obtain ⟨L, hL⟩ : ∃ L, l.length = L := ⟨_, rfl⟩
      have HL := Lib.hid hL
      have hL7 : L ≤ 1000 := by omega
      have HK := Lib.hid k2
      have HP := Lib.hid (show putS l = t from by unfold putS; rw [if_pos k2, k3, ofL_toList])
      have HZ := Lib.hid (fun (y : Fl) (hy : y ∈ l) => small_of_check k2 hy)
      have hbe : (t.toList == t.toList) = true := by simp
      clear k2 k3 hl hL
      (with_reducible refine (ftake_any t (0, l) HX.out _ hs2).mono ?_)
      rintro e w1 ⟨B, c, rfl, q1, q2, hr, hb1⟩
      simp only [HL.out]
      simp only [HL.out] at q1
      go_wp2_with fail
      (with_reducible refine (put_any' l B L c 0 t HK.out HP.out HL.out q1 hL7 HZ.out _ hr).mono ?_)
      rintro e w2 ⟨rfl, hb2⟩
      have hb3 := bl hb1 hb2
      go_wp2_with fail
      (with_reducible refine (awakeF_any _).mono ?_)
      rintro e w4 ⟨rfl, hb5⟩
      go_wp2_with fail
      go_ret
      exact ⟨rfl, bl hb3 hb5⟩
  · obtain ⟨X, hX⟩ : ∃ X, takeFl s.toList = X := ⟨_, rfl⟩
    have hl := take_len hX
    have HX := Lib.hid hX
    have hs2 : s.size ≤ 100000000 := by omega
    clear hX
    go_enter Try.func7, Try.ntmps7
    go_wp2_with fail
    rcases take_cases s.toList with ⟨k1, k2⟩ | ⟨k1, k2, k3⟩
    · obtain ⟨x, hx⟩ : ∃ x, X.1 = x := ⟨_, rfl⟩
      have hx0 : (x == 0) = false := by rw [← hx, ← HX.out]; simpa using k1
      have HE := Lib.hid (show X = (x, []) from Prod.ext hx (by rw [← HX.out]; exact k2))
      clear k1 k2 hx
      (with_reducible refine (ftake_any s X HX.out _ hs2).mono ?_)
      rw [HE.out]
      rintro e w1 ⟨B, c, rfl, q1, q2, hr, hb1⟩
      simp only [List.length_nil]
      go_wp2_with fail
      (with_reducible refine (awakeF_any _).mono ?_)
      rintro e w4 ⟨rfl, hb5⟩
      go_wp2_with fail
      go_ret
      exact ⟨rfl, bl hb1 hb5⟩
    · rw [HX.out] at k1 k2 k3
      obtain ⟨x, l⟩ := X
      simp only at k1 k2 k3 hl
      subst k1
      obtain ⟨L, hL⟩ : ∃ L, l.length = L := ⟨_, rfl⟩
      have HL := Lib.hid hL
      have hL7 : L ≤ 1000 := by omega
      have HK := Lib.hid k2
      have HP := Lib.hid (show putS l = s from by unfold putS; rw [if_pos k2, k3, ofL_toList])
      have HZ := Lib.hid (fun (y : Fl) (hy : y ∈ l) => small_of_check k2 hy)
      have hbe : (s.toList == s.toList) = true := by simp
      clear k2 k3 hl hL
      (with_reducible refine (ftake_any s (0, l) HX.out _ hs2).mono ?_)
      rintro e w1 ⟨B, c, rfl, q1, q2, hr, hb1⟩
      simp only [HL.out]
      simp only [HL.out] at q1
      go_wp2_with fail
      (with_reducible refine (put_any' l B L c 0 s HK.out HP.out HL.out q1 hL7 HZ.out _ hr).mono ?_)
      rintro e w2 ⟨rfl, hb2⟩
      have hb3 := bl hb1 hb2
      go_wp2_with fail
      (with_reducible refine (awakeF_any _).mono ?_)
      rintro e w4 ⟨rfl, hb5⟩
      go_wp2_with fail
      go_ret
      exact ⟨rfl, bl hb3 hb5⟩
end Go.Proofs.Ytbgnbkomckbckaa
