/-
  The walks of sledgeref01.TakeNum and of the texts.
-/
import Derived.Test.YtbgnbkomckbckaaEncD
import Derived.Deep.RegionWith
namespace Go.Proofs.Ytbgnbkomckbckaa
open Go.RowKit

theorem takeNum_any (s : ByteArray) (w : World) (hsz : s.size ≤ 9223372036854775807) :
    Calls Try.prog 32 #[.string s] w fun e w' => TakeEnd s.toList e ∧ Below w.heap.size w w' := by
  by_cases h0 : 0 < s.size
  · by_cases h1 : s[0].toNat < 248
    · exact takeNum_lo s w h0 h1
    · exact takeNum_hi s w h0 (by omega) hsz
  · exact takeNum_nil s w (by have := size_toList s; exact List.eq_nil_of_length_eq_zero (by omega))

theorem takeN_bad_put (b : UInt8) (t : List UInt8) (h1 : 248 ≤ b.toNat) (h2 : b.toNat < 255) (h : putN (num (t.take (b.toNat - 247))) ≠ b :: t.take (b.toNat - 247)) : takeN (b :: t) = none := by
  rw [takeN, if_neg (by omega), if_neg (by omega)]
  by_cases h3 : t.length < b.toNat - 247
  · rw [if_pos h3]
  · rw [if_neg h3, if_neg h]
theorem takeN_good_put (b : UInt8) (t : List UInt8) (h1 : 248 ≤ b.toNat) (h2 : b.toNat < 255) (h3 : b.toNat - 247 ≤ t.length) (h : putN (num (t.take (b.toNat - 247))) = b :: t.take (b.toNat - 247)) :
    takeN (b :: t) = some (num (t.take (b.toNat - 247)), t.drop (b.toNat - 247)) := by
  rw [takeN, if_neg (by omega), if_neg (by omega), if_neg (by omega), if_pos h]

set_option maxRecDepth 20000 in
set_option maxHeartbeats 1000000 in
theorem takeRef_any (s : ByteArray) (w : World) (hsz : s.size ≤ 9223372036854775807) :
    Calls Try.prog 34 #[.string s] w fun e w' => TakeEnd s.toList e ∧ Below w.heap.size w w' := by
  by_cases h0 : 0 < s.size
  · have hb0 := UInt8.toNat_lt s[0]
    have he0 : ((s.size : Int) == 0) = false := beq_eq_false_iff_ne.2 (by omega)
    obtain ⟨t, ht, htl⟩ := toList_of_size s h0
    have Ht := Lib.hid ht
    have Htl := Lib.hid htl
    clear ht htl
    by_cases h255 : s[0].toNat = 255
    · have h1 : ((s[0].toNat : Int) == 255) = true := beq_iff_eq.2 (by omega)
      have H255 := Lib.hid h255
      clear h255
      go_enter Try.func34, Try.ntmps34
      go_wp2
      go_ret3
      exact ⟨TakeEnd.bad (by rw [Ht.out]; exact takeN_short _ _ (by have := H255.out; omega) (.inl H255.out)), Below.refl _ _⟩
    · have h1 : ((s[0].toNat : Int) == 255) = false := beq_eq_false_iff_ne.2 (by omega)
      by_cases hlo : (s[0].toNat : Int) < 248
      · go_enter Try.func34, Try.ntmps34
        go_wp2
        go_quiet (fail)
        go_wp2
        go_ret3
        refine ⟨TakeEnd.good (n := s[0].toNat) (r := t) (by rw [Ht.out, takeN, if_pos (by omega)]) rfl ?_, below_drewN (Below.refl _ _) _⟩
        rw [toList_ext, Ht.out]
        simp only [List.drop_succ_cons, List.drop_zero]
        rw [List.take_of_length_le (by have := Htl.out; omega)]
      · have hlo' : (248 : Int) ≤ (s[0].toNat : Int) := by omega
        by_cases hsh : (s.size : Int) < (1 : Int) + ((s[0].toNat : Int) - (247 : Int))
        · have Hsh := Lib.hid (show t.length < s[0].toNat - 247 by have := Htl.out; omega)
          go_enter Try.func34, Try.ntmps34
          go_wp2
          go_ret3
          exact ⟨TakeEnd.bad (by rw [Ht.out]; exact takeN_short _ _ (by omega) (.inr Hsh.out)), Below.refl _ _⟩
        · have hN : wrap64 (num (s.extract 1 (1 + (s[0].toNat - 247))).toList) = (num (t.take (s[0].toNat - 247)) : Int) := by
            have e : (s.extract 1 (1 + (s[0].toNat - 247))).toList = t.take (s[0].toNat - 247) := by
              rw [toList_ext, Ht.out]
              simp only [List.drop_succ_cons, List.drop_zero]
              congr 1
              omega
            have := num_le7 (t.take (s[0].toNat - 247)) (by rw [List.length_take]; omega)
            rw [e, wrap64_id _ (by omega) (by omega)]
          have HN := Lib.hid hN
          clear hN
          have hcl : clampN (num (t.take (s[0].toNat - 247)) : Int) = num (t.take (s[0].toNat - 247)) := by
            have := num_le7 (t.take (s[0].toNat - 247)) (by rw [List.length_take]; omega)
            rw [clampN_mid _ (by omega) (by omega)]; omega
          have hex : (s.extract 0 (1 + (s[0].toNat - 247))).toList = s[0] :: t.take (s[0].toNat - 247) := by
            rw [toList_ext, Ht.out]
            have hl : ∀ m k, m = k + 1 → ((s[0] :: t).drop 0).take (m - 0) = s[0] :: t.take k := by
              intro m k hm
              subst hm
              simp
            exact hl _ _ (by omega)
          have Hcl := Lib.hid hcl
          have Hex := Lib.hid hex
          clear hcl hex
          go_enter Try.func34, Try.ntmps34
          go_wp2_with fail
          refine (number_any _ _ (by rw [← size_toList, toList_ext, List.length_take]; omega)).mono ?_
          rintro e w1 ⟨rfl, rfl⟩
          rw [HN.out]
          go_wp2_with fail
          have e1 : IntKind.i64.wrap ((1 : Int) + ((s[0].toNat : Int) - (247 : Int))) = (1 : Int) + ((s[0].toNat : Int) - (247 : Int)) := IntWalk.i64_in _ (by omega)
          have e2 : (0 : Int) ≤ IntKind.i64.wrap ((1 : Int) + ((s[0].toNat : Int) - (247 : Int))) := by rw [e1]; omega
          have e4 : IntKind.i64.wrap ((1 : Int) + ((s[0].toNat : Int) - (247 : Int))) ≤ (s.size : Int) := by rw [e1]; omega
          have e3 : (IntKind.i64.wrap ((1 : Int) + ((s[0].toNat : Int) - (247 : Int)))).toNat = 1 + (s[0].toNat - 247) := by rw [e1]; omega
          clear e1
          go_region_with (go_at_call 23; refine (put_any _ _).mono ?_; rintro e w1 ⟨rfl, hb1⟩)
          all_goals
            by_cases hput : putN (num (t.take (s[0].toNat - 247))) = s[0] :: t.take (s[0].toNat - 247)
            · have hne : ((ofL (putN (clampN (num (t.take (s[0].toNat - 247)) : Int)))).toList == (s.extract 0 (1 + (s[0].toNat - 247))).toList) = true := by
                rw [Hcl.out, toList_ofL, hput, Hex.out]; simp
              have Hput := Lib.hid hput
              clear hput
              rw [hne]
              go_wp2
              go_quiet (fail)
              go_wp2
              go_ret3
              have hsh' : s[0].toNat - 247 ≤ t.length := by have := Htl.out; omega
              refine ⟨TakeEnd.good (by rw [Ht.out]; exact takeN_good_put _ _ (by omega) (by omega) hsh' Hput.out) rfl ?_, below_drewN (below_of_drew hb1) _⟩
              rw [toList_ext, Ht.out]
              have hl : ∀ m k, m = k + 1 → ((s[0] :: t).drop m).take (s.size - m) = t.drop k := by
                intro m k hm
                subst hm
                rw [List.drop_succ_cons, List.take_of_length_le (by rw [List.length_drop]; have := Htl.out; omega)]
              exact hl _ _ (by omega)
            · have hne : ((ofL (putN (clampN (num (t.take (s[0].toNat - 247)) : Int)))).toList == (s.extract 0 (1 + (s[0].toNat - 247))).toList) = false := by
                rw [Hcl.out, toList_ofL, Hex.out]; simpa using hput
              have Hput := Lib.hid hput
              clear hput
              rw [hne]
              go_wp2
              go_ret3
              exact ⟨TakeEnd.bad (by rw [Ht.out]; exact takeN_bad_put _ _ (by omega) (by omega) Hput.out), below_of_drew hb1⟩
  · have he : s.toList = [] := by have := size_toList s; exact List.eq_nil_of_length_eq_zero (by omega)
    have he0 : ((s.size : Int) == 0) = true := beq_iff_eq.2 (by omega)
    have He := Lib.hid he
    clear he
    go_enter Try.func34, Try.ntmps34
    go_wp2
    go_ret3
    exact ⟨TakeEnd.bad (by rw [He.out]; rfl), Below.refl _ _⟩
end Go.Proofs.Ytbgnbkomckbckaa
