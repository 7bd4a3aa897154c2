/-
  The walks of the laws of chapter 1: EncTexts and EncFixed.
-/
import Derived.Test.YtjljkcklcnmdjaaEncM
namespace Go.Proofs.Ytjljkcklcnmdjaa
open Go.RowKit

theorem takeText_is (s a b : ByteArray) (most k : Int) (w : World) (hs : s.size ≤ 9223372036854775807) (h : takeT s.toList most = (a.toList, b.toList, k)) :
    Calls Try.prog 16 #[.string s, .int .i64 most] w fun e w' => e = .returned (.tuple #[.string a, .string b, .int .i64 k]) ∧ Below w.heap.size w w' :=
  (takeText_any s most w hs).mono fun e w' ⟨he, hb⟩ => ⟨by rw [he, h]; simp only [ofL_toList], hb⟩
theorem takeTextRef_is (s a b : ByteArray) (most k : Int) (w : World) (hs : s.size ≤ 9223372036854775807) (h : takeT s.toList most = (a.toList, b.toList, k)) :
    Calls Try.prog 17 #[.string s, .int .i64 most] w fun e w' => e = .returned (.tuple #[.string a, .string b, .int .i64 k]) ∧ Below w.heap.size w w' :=
  (takeTextRef_any s most w hs).mono fun e w' ⟨he, hb⟩ => ⟨by rw [he, h]; simp only [ofL_toList], hb⟩
theorem takeT_ex (s : ByteArray) (most : Int) : ∃ (a b : ByteArray) (k : Int), takeT s.toList most = (a.toList, b.toList, k) :=
  ⟨ofL (takeT s.toList most).1, ofL (takeT s.toList most).2.1, (takeT s.toList most).2.2, by simp only [toList_ofL]⟩

set_option maxHeartbeats 2000000 in
theorem encTexts_walk (s t : ByteArray) (most : Int) (w : World) (hs : s.size ≤ 140737488351232) (ht : t.size ≤ 140737488351232) (_l : -9223372036854775808 ≤ most) (_u : most ≤ 9223372036854775807) :
    Calls Try.prog 8 #[.string s, .string t, .int .i64 most] w (Yes w) := by
  · · by_cases h3 : (100000 : Int) < (s.size : Int) + (t.size : Int)
      · go_enter Try.func8, Try.ntmps8
        go_wp2_with fail
        refine (awake_any _).mono ?_
        rintro e w3 ⟨rfl, hb3⟩
        go_wp2
        go_ret
        exact ⟨rfl, hb3⟩
      · obtain ⟨a, b, k, hk⟩ := takeT_ex s most
        have Hk := Lib.hid hk
        have hpt : (putT s.toList).length ≤ 100009 := by
          unfold putT
          rw [List.length_append, size_toList]
          have := putN_length (clampN (s.toList.length : Int))
          rw [size_toList] at this
          omega
        have hp9 : (ofL (putT s.toList)).size ≤ 100009 := by rw [size_ofL]; exact hpt
        have hps : (ofL (putT s.toList) ++ t).size ≤ 9223372036854775807 := by rw [← size_toList, toList_app, List.length_append, size_toList, size_toList]; omega
        have htk : takeN (ofL (putT s.toList) ++ t).toList = some (s.size, s.toList ++ t.toList) := by
          rw [toList_app, toList_ofL, putT, List.append_assoc, clampN_mid _ (by omega) (by rw [size_toList]; omega), size_toList]
          exact takeN_put _ _ (by omega)
        by_cases hm : most < (s.size : Int)
        · have Hf := Lib.hid (show takeT (ofL (putT s.toList) ++ t).toList most = ((⟨#[]⟩ : ByteArray).toList, (⟨#[]⟩ : ByteArray).toList, 3) by
            unfold takeT
            rw [htk, toList_nil]
            simp [hm])
          have Hps := Lib.hid hps
          clear hk htk hps hpt
          go_enter Try.func8, Try.ntmps8
          go_wp2_with fail
          refine (takeText_is _ a b most k _ (by omega) Hk.out).mono ?_
          rintro e w1 ⟨rfl, hb1⟩
          go_wp2_with fail
          refine (takeTextRef_is _ a b most k _ (by omega) Hk.out).mono ?_
          rintro e w2 ⟨rfl, hb2⟩
          go_wp2_with fail
          refine (putText_any _ _ (by omega)).mono ?_
          rintro e w3 ⟨rfl, hb3⟩
          go_wp2_with fail
          refine (takeText_is _ _ _ most _ _ Hps.out Hf.out).mono ?_
          rintro e w4 ⟨rfl, hb4⟩
          go_wp2_with fail
          refine (putText_any _ _ (by omega)).mono ?_
          rintro e w5 ⟨rfl, hb5⟩
          go_wp2_with fail
          refine (putTextRef_any _ _ (by omega)).mono ?_
          rintro e w6 ⟨rfl, hb6⟩
          go_wp2_with fail
          refine (awake_any _).mono ?_
          rintro e w7 ⟨rfl, hb7⟩
          go_wp2
          go_ret
          exact ⟨rfl, bl (bl (bl (bl (bl (bl hb1 hb2) hb3) hb4) hb5) hb6) hb7⟩
        · have Hf := Lib.hid (show takeT (ofL (putT s.toList) ++ t).toList most = (s.toList, t.toList, 0) by
            have hl := size_toList s
            unfold takeT
            rw [htk]
            show (if most < (s.size : Int) then _ else _) = _
            rw [if_neg hm, if_neg (by rw [List.length_append, hl]; omega), List.take_left' hl, List.drop_left' hl])
          have Hps := Lib.hid hps
          clear hk htk hps hpt
          go_enter Try.func8, Try.ntmps8
          go_wp2_with fail
          refine (takeText_is _ a b most k _ (by omega) Hk.out).mono ?_
          rintro e w1 ⟨rfl, hb1⟩
          go_wp2_with fail
          refine (takeTextRef_is _ a b most k _ (by omega) Hk.out).mono ?_
          rintro e w2 ⟨rfl, hb2⟩
          go_wp2_with fail
          refine (putText_any _ _ (by omega)).mono ?_
          rintro e w3 ⟨rfl, hb3⟩
          go_wp2_with fail
          refine (takeText_is _ _ _ most _ _ Hps.out Hf.out).mono ?_
          rintro e w4 ⟨rfl, hb4⟩
          go_wp2_with fail
          refine (putText_any _ _ (by omega)).mono ?_
          rintro e w5 ⟨rfl, hb5⟩
          go_wp2_with fail
          refine (putTextRef_any _ _ (by omega)).mono ?_
          rintro e w6 ⟨rfl, hb6⟩
          go_wp2_with fail
          refine (awake_any _).mono ?_
          rintro e w7 ⟨rfl, hb7⟩
          go_wp2
          go_ret
          exact ⟨rfl, bl (bl (bl (bl (bl (bl hb1 hb2) hb3) hb4) hb5) hb6) hb7⟩
end Go.Proofs.Ytjljkcklcnmdjaa
