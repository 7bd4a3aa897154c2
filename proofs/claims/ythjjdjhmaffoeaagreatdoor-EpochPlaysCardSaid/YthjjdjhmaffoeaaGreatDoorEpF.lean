/-
  The reference's epochs: Last, Next.
-/
import Derived.Test.YthjjdjhmaffoeaaGreatDoorEpC
import Derived.Test.YthjjdjhmaffoeaaGreatDoorDkX
import Derived.Test.YthjjdjhmaffoeaaGreatDoorFixRT
namespace Go.Proofs.YthjjdjhmaffoeaaGreatDoor
open Go.RowKit

theorem epM_zero {s : ByteArray} (h : zeroB s = true) : epM s = false := by
  unfold zeroB at h
  unfold epM Lib.hasPrefix
  rw [Bool.eq_false_iff]
  intro hp
  rw [List.isPrefixOf_iff_prefix] at hp
  obtain ⟨t, ht⟩ := hp
  rw [← ht] at h
  simp [markL] at h
theorem epM_ext (s : ByteArray) : epM s = ((s.extract 0 4).toList == [83, 76, 69, 49]) := by
  rw [Bool.eq_iff_iff, beq_iff_eq, toList_pre]
  unfold epM Lib.hasPrefix
  rw [List.isPrefixOf_iff_prefix, List.prefix_iff_eq_take]
  exact ⟨fun h => h.symm, fun h => h.symm⟩

set_option maxRecDepth 20000 in
set_option maxHeartbeats 4000000 in
theorem rlast_any (w : World) (b go gl gf c1 c2 c3 : Nat) (S : St) (n : Nat) (i : Int) (h : RefAt w b go gl gf c1 c2 c3 S n) :
    Calls Tryz.prog 9 #[.pointer (some ⟨b, 0, none⟩), .int .i64 i] w fun e w' => e = .returned (.tuple #[.int .i64 (S.last i).1, .int .i64 (S.last i).2]) ∧ Below w.heap.size w w' := by
  have hok : S.Ok n := h.ok
  obtain ⟨rs, hrs⟩ : ∃ rs, (S.rd i).1 = rs := ⟨_, rfl⟩
  obtain ⟨re, hre⟩ : ∃ re, (S.rd i).2 = re := ⟨_, rfl⟩
  have HRD := Lib.hid (rread_any w b go gl gf c1 c2 c3 S n h i)
  rw [hrs, hre] at HRD
  by_cases h0 : re = 0
  · subst h0
    have hsz : rs.size = 256 := by rw [← hrs]; exact St.rd_size hok hre
    have HL := Lib.hid (show S.last i = lastF rs by unfold St.last; rw [if_pos hre, hrs])
    clear hrs hre hok h
    cases hz : zeroB rs with
    | true =>
      have HF := Lib.hid (show lastF rs = (0, 0) by unfold lastF; rw [epM_zero hz, hz]; rfl)
      have HZ : Hid (∀ w', Calls Tryz.prog 31 #[.string rs] w' fun e w'' => e = .returned (.bool true) ∧ Below w'.heap.size w' w'') := Lib.hid fun w' => zerosR_any rs true hz w' (by omega)
      clear hz hsz
      go_enter Tryz.func9, Tryz.ntmps9
      go_wp2_with fail
      (with_reducible refine HRD.out.mono ?_)
      rintro e w1 ⟨rfl, b1⟩
      go_wp2_with fail
      (with_reducible refine (HZ.out w1).mono ?_)
      rintro e w2 ⟨rfl, b2⟩
      go_wp2_with fail
      go_ret2
      exact ⟨by rw [HL.out, HF.out]; rfl, bl b1 b2⟩
    | false =>
      have HZ : Hid (∀ w', Calls Tryz.prog 31 #[.string rs] w' fun e w'' => e = .returned (.bool false) ∧ Below w'.heap.size w' w'') := Lib.hid fun w' => zerosR_any rs false hz w' (by omega)
      have he4 := epM_ext rs
      cases hm : epM rs with
      | false =>
        rw [hm] at he4
        have hne := he4.symm
        have HF := Lib.hid (show lastF rs = (0, 2) by unfold lastF; rw [hm, hz]; rfl)
        clear hm he4 hz
        go_enter Tryz.func9, Tryz.ntmps9
        go_wp2_with fail
        (with_reducible refine HRD.out.mono ?_)
        rintro e w1 ⟨rfl, b1⟩
        go_wp2_with fail
        (with_reducible refine (HZ.out w1).mono ?_)
        rintro e w2 ⟨rfl, b2⟩
        go_wp2_with fail
        go_ret2
        exact ⟨by rw [HL.out, HF.out]; rfl, bl b1 b2⟩
      | true =>
        rw [hm] at he4
        have hne := he4.symm
        obtain ⟨N, hN⟩ : ∃ N, epN rs = N := ⟨_, rfl⟩
        have hlt := epN_lt rs
        have h8 : (rs.extract 8 256).toList = rs.toList.drop 8 := by rw [toList_ext, List.take_of_length_le (by rw [List.length_drop, size_toList]; omega)]
        have h4 : (rs.extract 4 256).toList = rs.toList.drop 4 := by rw [toList_ext, List.take_of_length_le (by rw [List.length_drop, size_toList]; omega)]
        have hez : epZ rs = zeroB (rs.extract 8 256) := by unfold epZ zeroB; rw [h8]
        have hs8 : (rs.extract 8 256).size ≤ 1000 := by rw [ByteArray.size_extract]; omega
        cases hz8 : zeroB (rs.extract 8 256) with
        | false =>
          have HZ8 : Hid (∀ w', Calls Tryz.prog 31 #[.string (rs.extract 8 256)] w' fun e w'' => e = .returned (.bool false) ∧ Below w'.heap.size w' w'') := Lib.hid fun w' => zerosR_any _ false hz8 w' hs8
          have HF := Lib.hid (show lastF rs = (0, 2) by unfold lastF; rw [hm, if_pos rfl, if_pos (.inr (by rw [hez, hz8]))])
          clear hm he4 hz hN hlt h8 h4 hez hs8 hz8
          go_enter Tryz.func9, Tryz.ntmps9
          go_wp2_with fail
          (with_reducible refine HRD.out.mono ?_)
          rintro e w1 ⟨rfl, b1⟩
          go_wp2_with fail
          (with_reducible refine (HZ.out w1).mono ?_)
          rintro e w2 ⟨rfl, b2⟩
          go_wp2_with fail
          (with_reducible refine (HZ8.out w2).mono ?_)
          rintro e w3 ⟨rfl, b3⟩
          go_wp2_with fail
          go_ret2
          exact ⟨by rw [HL.out, HF.out]; rfl, bl (bl b1 b2) b3⟩
        | true =>
          have HZ8 : Hid (∀ w', Calls Tryz.prog 31 #[.string (rs.extract 8 256)] w' fun e w'' => e = .returned (.bool true) ∧ Below w'.heap.size w' w'') := Lib.hid fun w' => zerosR_any _ true hz8 w' hs8
          have HT : Hid (∀ w', Calls Tryz.prog 32 #[.string (rs.extract 4 256), .int .i64 4] w' fun e w'' => e = .returned (.tuple #[.int .i64 (N : Int), .string (rs.extract 8 256), .int .i64 0]) ∧ Below w'.heap.size w' w'') := Lib.hid fun w' => takeFR_is (rs.extract 4 256) (rs.extract 8 256) 4 N 0 w' (by rw [ByteArray.size_extract]; omega) (by
            unfold takeF
            rw [if_neg (by omega), if_neg (by rw [h4, List.length_drop, size_toList]; omega), h4, h8]
            rw [show (4 : Int).toNat = 4 from rfl, List.drop_drop]
            have e1 : wrap64 (num ((rs.toList.drop 4).take 4) : Int) = (N : Int) := by
              rw [← hN]
              unfold epN at hlt ⊢
              rw [wrap64_id _ (by omega) (by omega)]
            rw [e1])
          by_cases hN0 : N = 0
          · have HF := Lib.hid (show lastF rs = (0, 2) by unfold lastF; rw [hm, if_pos rfl, if_pos (.inl (by rw [hN, hN0]))])
            subst hN0
            clear hm he4 hz hN hlt h8 h4 hez hs8 hz8
            go_enter Tryz.func9, Tryz.ntmps9
            go_wp2_with fail
            (with_reducible refine HRD.out.mono ?_)
            rintro e w1 ⟨rfl, b1⟩
            go_wp2_with fail
            (with_reducible refine (HZ.out w1).mono ?_)
            rintro e w2 ⟨rfl, b2⟩
            go_wp2_with fail
            (with_reducible refine (HZ8.out w2).mono ?_)
            rintro e w3 ⟨rfl, b3⟩
            go_wp2_with fail
            (with_reducible refine (HT.out w3).mono ?_)
            rintro e w4 ⟨rfl, b4⟩
            go_wp2_with fail
            go_ret2
            exact ⟨by rw [HL.out, HF.out]; rfl, bl (bl (bl b1 b2) b3) b4⟩
          · have HF := Lib.hid (show lastF rs = ((N : Int), 0) by unfold lastF; rw [hm, if_pos rfl, if_neg (by rw [hN, hez, hz8]; simp [hN0]), hN])
            have hN1 : ((N : Int) == 0) = false := by simp; omega
            clear hm he4 hz hN hlt h8 h4 hez hs8 hz8 hN0
            go_enter Tryz.func9, Tryz.ntmps9
            go_wp2_with fail
            (with_reducible refine HRD.out.mono ?_)
            rintro e w1 ⟨rfl, b1⟩
            go_wp2_with fail
            (with_reducible refine (HZ.out w1).mono ?_)
            rintro e w2 ⟨rfl, b2⟩
            go_wp2_with fail
            (with_reducible refine (HZ8.out w2).mono ?_)
            rintro e w3 ⟨rfl, b3⟩
            go_wp2_with fail
            (with_reducible refine (HT.out w3).mono ?_)
            rintro e w4 ⟨rfl, b4⟩
            go_wp2_with fail
            go_ret2
            exact ⟨by rw [HL.out, HF.out]; rfl, bl (bl (bl b1 b2) b3) b4⟩
  · have HL := Lib.hid (show S.last i = (0, re) by unfold St.last; rw [hre, if_neg h0])
    have h1 : (re == 0) = false := by simp [h0]
    clear hrs hre hok h h0
    go_enter Tryz.func9, Tryz.ntmps9
    go_wp2_with fail
    (with_reducible refine HRD.out.mono ?_)
    rintro e w1 ⟨rfl, b1⟩
    go_wp2_with fail
    go_ret2
    exact ⟨by rw [HL.out]; rfl, b1⟩

set_option maxRecDepth 20000 in
set_option maxHeartbeats 4000000 in
theorem rnext_any (w : World) (b go gl gf c1 c2 c3 : Nat) (S : St) (n : Nat) (i : Int) (h : RefAt w b go gl gf c1 c2 c3 S n) :
    Calls Tryz.prog 7 #[.pointer (some ⟨b, 0, none⟩), .int .i64 i] w fun e w' => e = .returned (.tuple #[.int .i64 (S.next i).2.1, .int .i64 (S.next i).2.2]) ∧ RefAt w' b go gl gf c1 c2 c3 (S.next i).1 n ∧ Keep4 b go gl gf w w' := by
  obtain ⟨ln, hln⟩ : ∃ l, (S.last i).1 = l := ⟨_, rfl⟩
  obtain ⟨le, hle⟩ : ∃ l, (S.last i).2 = l := ⟨_, rfl⟩
  have HLA := Lib.hid (rlast_any w b go gl gf c1 c2 c3 S n i h)
  rw [hln, hle] at HLA
  have hrg := S.last_range i
  rw [hln] at hrg
  have HD := Lib.hid h
  clear h
  by_cases h0 : le = 0
  · subst h0
    by_cases hmost : ln = 4294967295
    · have HN := Lib.hid (show S.next i = (S, 0, 3) by unfold St.next; rw [hle, if_neg (by simp), hln, if_pos hmost])
      subst hmost
      clear hln hle hrg
      go_enter Tryz.func7, Tryz.ntmps7
      go_wp2_with fail
      (with_reducible refine HLA.out.mono ?_)
      rintro e w1 ⟨rfl, b1⟩
      go_wp2_with fail
      go_ret2
      exact ⟨by rw [HN.out]; rfl, by rw [HN.out]; exact HD.out.below b1, Keep4.of_below b1⟩
    · have hm1 : (ln == 4294967295) = false := by simp [hmost]
      obtain ⟨t, ht⟩ : ∃ t, ofL (be (ln + 1) 4) = t := ⟨_, rfl⟩
      have hts : t.size = 4 := by rw [← ht, size_ofL, be_length]
      have hadd : ¬ (9223372036854775807 < (⟨#[83, 76, 69, 49]⟩ : ByteArray).size + t.size) := by rw [hts]; decide
      have HC : Hid (∀ w', Calls Tryz.prog 25 #[.int .i64 (ln + 1), .int .i64 4] w' fun e w'' => e = .returned (.string t) ∧ Below w'.heap.size w' w'') := Lib.hid fun w' => (fixedRef_any (ln + 1) 4 w').mono fun e w'' ⟨he, hb⟩ => ⟨by rw [he, ← ht]; rfl, hb⟩
      have HT := Lib.hid (show (⟨#[83, 76, 69, 49]⟩ : ByteArray) ++ t = textS (ln + 1) by
        unfold textS
        rw [← ofL_app, ← ht]
        rfl)
      obtain ⟨we, hwe⟩ : ∃ we, (S.wr i (textS (ln + 1))).2 = we := ⟨_, rfl⟩
      obtain ⟨S1, hS1⟩ : ∃ S1, (S.wr i (textS (ln + 1))).1 = S1 := ⟨_, rfl⟩
      have HWR : Hid (∀ w', RefAt w' b go gl gf c1 c2 c3 S n → Calls Tryz.prog 13 #[.pointer (some ⟨b, 0, none⟩), .int .i64 i, .string (⟨#[83, 76, 69, 49]⟩ ++ t)] w' fun e w'' => e = .returned (.int .i64 we) ∧ RefAt w'' b go gl gf c1 c2 c3 S1 n ∧ Keep4 b go gl gf w' w'') := Lib.hid fun w' h' => by rw [← hwe, ← hS1, HT.out]; exact rwrite_any w' b go gl gf c1 c2 c3 S n h' i _
      have hw1 : IntKind.i64.wrap (ln + 1) = ln + 1 := by rw [IntKind.wrap_i64]; omega
      by_cases hwe0 : we = 0
      · subst hwe0
        obtain ⟨se, hse⟩ : ∃ se, S1.sync.2 = se := ⟨_, rfl⟩
        obtain ⟨S2, hS2⟩ : ∃ S2, S1.sync.1 = S2 := ⟨_, rfl⟩
        have HSY : Hid (∀ w', RefAt w' b go gl gf c1 c2 c3 S1 n → Calls Tryz.prog 15 #[.pointer (some ⟨b, 0, none⟩)] w' fun e w'' => e = .returned (.int .i64 se) ∧ RefAt w'' b go gl gf c1 c2 c3 S2 n ∧ Keep4 b go gl gf w' w'') := Lib.hid fun w' h' => by rw [← hse, ← hS2]; exact rsync_any w' b go gl gf c1 c2 c3 S1 n h'
        by_cases hs0 : se = 0
        · subst hs0
          have HNX := Lib.hid (show S.next i = (S2, ln + 1, 0) by unfold St.next; rw [hle, if_neg (by simp), hln, if_neg hmost, hwe, if_neg (by simp), hS1, hse, hS2, if_neg (by simp)])
          clear hln hle hmost ht hts hwe hS1 hse hS2 hrg
          go_enter Tryz.func7, Tryz.ntmps7
          go_wp2_with fail
          (with_reducible refine HLA.out.mono ?_)
          rintro e w1 ⟨rfl, b1⟩
          go_wp2_with fail
          (with_reducible refine (HC.out w1).mono ?_)
          rintro e w2 ⟨rfl, b2⟩
          go_wp2_with fail
          (with_reducible refine (HWR.out w2 ((HD.out.below b1).below b2)).mono ?_)
          rintro e w3 ⟨rfl, hD3, hk3⟩
          go_wp2_with fail
          (with_reducible refine (HSY.out w3 hD3).mono ?_)
          rintro e w4 ⟨rfl, hD4, hk4⟩
          go_wp2_with fail
          go_ret2
          exact ⟨by rw [HNX.out]; rfl, by rw [HNX.out]; exact hD4, (Keep4.of_below (bl b1 b2)).trans (hk3.trans hk4)⟩
        · have HNX := Lib.hid (show S.next i = (S2, 0, se) by unfold St.next; rw [hle, if_neg (by simp), hln, if_neg hmost, hwe, if_neg (by simp), hS1, hse, hS2, if_pos hs0])
          have hs1 : (se == 0) = false := by simp [hs0]
          clear hln hle hmost ht hts hwe hS1 hse hS2 hrg hs0
          go_enter Tryz.func7, Tryz.ntmps7
          go_wp2_with fail
          (with_reducible refine HLA.out.mono ?_)
          rintro e w1 ⟨rfl, b1⟩
          go_wp2_with fail
          (with_reducible refine (HC.out w1).mono ?_)
          rintro e w2 ⟨rfl, b2⟩
          go_wp2_with fail
          (with_reducible refine (HWR.out w2 ((HD.out.below b1).below b2)).mono ?_)
          rintro e w3 ⟨rfl, hD3, hk3⟩
          go_wp2_with fail
          (with_reducible refine (HSY.out w3 hD3).mono ?_)
          rintro e w4 ⟨rfl, hD4, hk4⟩
          go_wp2_with fail
          go_ret2
          exact ⟨by rw [HNX.out]; rfl, by rw [HNX.out]; exact hD4, (Keep4.of_below (bl b1 b2)).trans (hk3.trans hk4)⟩
      · have HNX := Lib.hid (show S.next i = (S1, 0, we) by unfold St.next; rw [hle, if_neg (by simp), hln, if_neg hmost, hwe, hS1, if_pos hwe0])
        have hs1 : (we == 0) = false := by simp [hwe0]
        clear hln hle hmost ht hts hwe hS1 hrg hwe0
        go_enter Tryz.func7, Tryz.ntmps7
        go_wp2_with fail
        (with_reducible refine HLA.out.mono ?_)
        rintro e w1 ⟨rfl, b1⟩
        go_wp2_with fail
        (with_reducible refine (HC.out w1).mono ?_)
        rintro e w2 ⟨rfl, b2⟩
        go_wp2_with fail
        (with_reducible refine (HWR.out w2 ((HD.out.below b1).below b2)).mono ?_)
        rintro e w3 ⟨rfl, hD3, hk3⟩
        go_wp2_with fail
        go_ret2
        exact ⟨by rw [HNX.out]; rfl, by rw [HNX.out]; exact hD3, (Keep4.of_below (bl b1 b2)).trans hk3⟩
  · have HN := Lib.hid (show S.next i = (S, 0, le) by unfold St.next; rw [hle, if_pos h0])
    have hle1 : (le == 0) = false := by simp [h0]
    clear hln hle h0 hrg
    go_enter Tryz.func7, Tryz.ntmps7
    go_wp2_with fail
    (with_reducible refine HLA.out.mono ?_)
    rintro e w1 ⟨rfl, b1⟩
    go_wp2_with fail
    go_ret2
    exact ⟨by rw [HN.out]; rfl, by rw [HN.out]; exact HD.out.below b1, Keep4.of_below b1⟩
end Go.Proofs.YthjjdjhmaffoeaaGreatDoor
