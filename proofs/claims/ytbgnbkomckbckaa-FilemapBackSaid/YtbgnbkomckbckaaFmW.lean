/-
  The laws FilemapOrder and FilemapApart: the walks.
-/
import Derived.Test.YtbgnbkomckbckaaFmV
namespace Go.Proofs.Ytbgnbkomckbckaa
open Go.RowKit

theorem rem_fact (u : Int) (n : Nat) (hn : 0 < n) (hn2 : n ≤ 1000) : ∃ t : Int, Int.tmod u n = t ∧ -1000 ≤ t ∧ t ≤ 1000 ∧ ∃ k : Nat, k < n ∧ Int.tmod (t + n) n = k := by
  have h1 := Int.tmod_lt_of_pos u (show (0 : Int) < n by omega)
  have h2 : -(n : Int) < Int.tmod u n := by
    have := Int.tmod_lt_of_pos (-u) (show (0 : Int) < n by omega)
    rw [Int.neg_tmod] at this
    omega
  refine ⟨_, rfl, by omega, by omega, (Int.tmod (Int.tmod u n + n) n).toNat, ?_, ?_⟩
  · have h3 := Int.tmod_lt_of_pos (Int.tmod u n + n) (show (0 : Int) < n by omega)
    have h4 := Int.tmod_nonneg (n : Int) (show (0 : Int) ≤ Int.tmod u n + n by omega)
    omega
  · have h4 := Int.tmod_nonneg (n : Int) (show (0 : Int) ≤ Int.tmod u n + n by omega)
    omega

theorem same_is (l m : List Fl) (A B : Option Addr) (n k c d : Nat) (t : Bool) (h : decide (l = m) = t) (w : World) (hn : l.length = n) (hk : m.length = k) (hn70 : n ≤ 1000) (hr : Rd w A (fl l)) (hs : Rd w B (fl m)) :
    Calls Try.prog 14 #[.slice A n c, .slice B k d] w fun e w' => e = .returned (.bool t) ∧ Below w.heap.size w w' := by subst h; exact same_any l m A B n k c d w hn hk hn70 hr hs

set_option maxRecDepth 20000 in
set_option maxHeartbeats 8000000 in
theorem filemapOrder_walk (A : Option Addr) (n c : Nat) (l : List Fl) (u : Int) (w : World) (hn : l.length = n) (hc : n ≤ c) (_hm : c ≤ 9223372036854775807) (hr : Rd w A (fl l)) (_l : -9223372036854775808 ≤ u) (_u : u ≤ 9223372036854775807) :
    Calls Try.prog 4 #[.slice A n c, .int .i64 u] w (Yes w) := by
  have Hn := Lib.hid hn
  clear hn
  go_enter Try.func4, Try.ntmps4
  go_wp2_with fail
  (with_reducible refine (few_any l A n c Hn.out hc _ hr).mono ?_)
  rintro e w1 ⟨k, hk, hsm, rfl, hb1⟩
  have hr1 := (hr.takeF k).below hb1
  have HL := Lib.hid (show (l.take k).length = k by rw [List.length_take, Hn.out]; omega)
  obtain ⟨h1, h2⟩ := small_sz hsm
  have HSM := Lib.hid h2
  have hk1 : k ≤ 1000 := by have := HL.out; omega
  have hkc : k ≤ c := by omega
  generalize l.take k = m at *
  clear hr hsm h1 h2
  by_cases hk0 : k = 0
  · subst hk0
    go_wp2_with fail
    (with_reducible refine (awakeF_any _).mono ?_)
    rintro e w2 ⟨rfl, hb2⟩
    go_wp2_with fail
    go_ret
    exact ⟨rfl, bl hb1 hb2⟩
  · have hkp : 0 < k := by omega
    have hke : ((k : Int) == 0) = false := by simp; omega
    obtain ⟨t, ht, ht1, ht2, q, hq, hq2⟩ := rem_fact u k hkp hk1
    have wt : IntKind.i64.wrap t = t := by rw [IntKind.wrap_i64]; omega
    have wt2 : IntKind.i64.wrap (t + (k : Int)) = t + (k : Int) := by rw [IntKind.wrap_i64]; omega
    have wq : IntKind.i64.wrap (q : Int) = (q : Int) := by rw [IntKind.wrap_i64]; omega
    have hcq : ¬ c = q := by omega
    obtain ⟨x0, hx0⟩ : ∃ x, m[0]? = some x := ⟨_, getD_some (by rw [HL.out]; omega)⟩
    obtain ⟨b, o, rfl, _, _⟩ := hr1.file hx0
    have hrD := hr1.dropF q
    have hrK := hr1.takeF q
    have HLD := Lib.hid (show (fl (m.drop q)).length = (k - q) * 2 by rw [fl_len, List.length_drop, HL.out])
    have HLK := Lib.hid (show (fl (m.take q)).length = q * 2 by rw [fl_len, List.length_take, HL.out]; omega)
    clear hx0 hk0
    go_upto_region 7 with (at_builtin; go_must (refine wpList_append_src w1 rfl (.tmp 27) (.tmp 30) 22 rfl w1.heap.size 41 2 32 el_file _ _ _ (World.ownsRow_nil _ _ _ _) rfl _ _ _ (fl (m.drop q)) hrD HLD.out rfl (fl_one _) (by unfold maxLen; omega) (by omega) (Nat.le_refl _) ?_); intro v2 w2 hown2 hb2)
    have hrK2 := hrK.below hb2
    have hs2 := hb2.size
    go_upto_region 8 with (at_builtin; go_must (refine wpList_append_src w2 rfl (.tmp 32) (.tmp 35) 22 rfl w1.heap.size 41 2 32 el_file _ _ _ hown2 rfl _ _ _ (fl (m.take q)) hrK2 HLK.out rfl (fl_one _) (by unfold maxLen; omega) (by omega) hs2 ?_); intro v3 w3 hown3 hb3)
    have hnn : 0 + (k - q) + q = k := by omega
    have hM : [] ++ fl (m.drop q) ++ fl (m.take q) = fl (m.drop q ++ m.take q) := by rw [fl_app]; rfl
    rw [hnn, hM] at hown3
    obtain ⟨_, B, cB, rfl, hkB, hcB, hrB⟩ := Sl.own hown3
    have hr3 := hr1.below (hb2.trans hb3)
    have hbw := bl hb1 (hb2.trans hb3)
    have HPm := Lib.hid (turn_perm m q)
    have HLM := Lib.hid (show (m.drop q ++ m.take q).length = k by rw [← HPm.out.length_eq]; exact HL.out)
    have HSM2 := Lib.hid (fun (x : Fl) (hx : x ∈ m.drop q ++ m.take q) => HSM.out x (HPm.out.mem_iff.2 hx))
    generalize m.drop q ++ m.take q = p at *
    clear hr1 hb1 hb2 hb3 hown2 hown3 hrK hrK2 hrD hs2 hM
    obtain ⟨ke, hke2⟩ : ∃ ke, checkF m = ke := ⟨_, rfl⟩
    obtain ⟨kf, hkf⟩ : ∃ kf, checkF p = kf := ⟨_, rfl⟩
    obtain ⟨s, hs⟩ : ∃ s, putS m = s := ⟨_, rfl⟩
    have HK := Lib.hid hke2
    have HKF := Lib.hid hkf
    have HS := Lib.hid hs
    have HS2 := Lib.hid (show putS p = s by rw [← hs]; exact (put_perm HPm.out).symm)
    have hiff : (ke == 0) = (kf == 0) := by
      have := check_perm HPm.out
      rw [hke2, hkf] at this
      rw [Bool.eq_iff_iff, beq_iff_eq, beq_iff_eq]
      exact this
    obtain ⟨be, hbe⟩ : ∃ be, (kf == 0) = be := ⟨_, rfl⟩
    rw [hbe] at hiff
    clear hke2 hkf hs
    go_wp2_with fail
    (with_reducible refine (put_any' m _ k c ke s HK.out HS.out HL.out hkc hk1 HSM.out _ hr3).mono ?_)
    rintro e w4 ⟨rfl, hb4⟩
    have hr4 := hr3.below hb4
    have hrB4 := hrB.below hb4
    have hb5 := bl hbw hb4
    clear hr3 hrB hbw hb4
    go_wp2_with fail
    (with_reducible refine (put_any' p B k cB kf s HKF.out HS2.out HLM.out hkB hk1 HSM2.out _ hrB4).mono ?_)
    rintro e w6 ⟨rfl, hb6⟩
    have hr6 := hr4.below hb6
    have hb7 := bl hb5 hb6
    clear hr4 hrB4 hb5 hb6
    go_wp2_with fail
    (with_reducible refine (sort_any m _ k c HL.out hk1 _ hr6).mono ?_)
    rintro e w8 ⟨v, rfl, B8, c8, rfl, _, _, hrS, _, hb8⟩
    have hr8 := hr6.below hb8
    have hb9 := bl hb7 hb8
    clear hr6 hb7 hb8
    go_wp2_with fail
    (with_reducible refine (rsort_any m _ k c HL.out hk1 HSM.out _ hr8).mono ?_)
    rintro e w10 ⟨v, rfl, hO, hb10⟩
    obtain ⟨B10, c10, rfl, _, _, hrT⟩ := hO.slice HL.out
    have hrS10 := hrS.below hb10
    have hb11 := bl hb9 hb10
    clear hr8 hb9 hb10 hO hrS
    have HSL := Lib.hid (show (sortF m).length = k by rw [(sortF_law m).2.2]; exact HL.out)
    have HSS := Lib.hid (same_is (sortF m) (sortF m) B8 B10 (sortF m).length k c8 c10 true (decide_eq_true rfl) w10 rfl HSL.out (by rw [HSL.out]; exact hk1) hrS10 hrT)
    go_wp2_with fail
    refine HSS.out.mono ?_
    rintro e w12 ⟨rfl, hb12⟩
    go_wp2_with fail
    (with_reducible refine (awakeF_any _).mono ?_)
    rintro e w13 ⟨rfl, hb13⟩
    go_wp2_with fail
    go_ret
    exact ⟨rfl, bl (bl hb11 hb12) hb13⟩

set_option maxRecDepth 20000 in
set_option maxHeartbeats 8000000 in
theorem filemapApart_walk (A : Option Addr) (n c : Nat) (l : List Fl) (A2 : Option Addr) (n2 c2 : Nat) (l2 : List Fl) (w : World) (hn : l.length = n) (hc : n ≤ c) (_hm : c ≤ 9223372036854775807) (hr : Rd w A (fl l)) (hn2 : l2.length = n2) (hc2 : n2 ≤ c2) (_hm2 : c2 ≤ 9223372036854775807) (hr2 : Rd w A2 (fl l2)) :
    Calls Try.prog 5 #[.slice A n c, .slice A2 n2 c2] w (Yes w) := by
  have Hn := Lib.hid hn
  have Hn2 := Lib.hid hn2
  clear hn hn2
  go_enter Try.func5, Try.ntmps5
  go_wp2_with fail
  (with_reducible refine (few_any l A n c Hn.out hc _ hr).mono ?_)
  rintro e w1 ⟨k, hk, hsm, rfl, hb1⟩
  have hr1 := (hr.takeF k).below hb1
  have hr21 := hr2.below hb1
  have HL := Lib.hid (show (l.take k).length = k by rw [List.length_take, Hn.out]; omega)
  obtain ⟨h1, h2⟩ := small_sz hsm
  have HSM := Lib.hid h2
  have hk1 : k ≤ 1000 := by have := HL.out; omega
  have hkc : k ≤ c := by omega
  generalize l.take k = m at *
  clear hr hr2 hsm h1 h2
  go_wp2_with fail
  (with_reducible refine (few_any l2 A2 n2 c2 Hn2.out hc2 _ hr21).mono ?_)
  rintro e w2 ⟨k2, hk2, hsm, rfl, hb2⟩
  have hr3 := (hr21.takeF k2).below hb2
  have hr4 := hr1.below hb2
  have hb3 := bl hb1 hb2
  have HL2 := Lib.hid (show (l2.take k2).length = k2 by rw [List.length_take, Hn2.out]; omega)
  obtain ⟨h1, h2⟩ := small_sz hsm
  have HSM2 := Lib.hid h2
  have hk21 : k2 ≤ 1000 := by have := HL2.out; omega
  have hkc2 : k2 ≤ c2 := by omega
  generalize l2.take k2 = m2 at *
  clear hr1 hr21 hsm h1 h2 hb1 hb2
  obtain ⟨ke, hke⟩ : ∃ ke, checkF m = ke := ⟨_, rfl⟩
  obtain ⟨kf, hkf⟩ : ∃ kf, checkF m2 = kf := ⟨_, rfl⟩
  obtain ⟨s, hs⟩ : ∃ s, putS m = s := ⟨_, rfl⟩
  obtain ⟨t, ht⟩ : ∃ t, putS m2 = t := ⟨_, rfl⟩
  have HK := Lib.hid hke
  have HKF := Lib.hid hkf
  have HS := Lib.hid hs
  have HT := Lib.hid ht
  have HAP : Hid (ke = 0 → kf = 0 → (s.toList == t.toList) = decide (sortF m = sortF m2)) := Lib.hid fun e1 e2 => by
    rw [beq_str, decide_eq_decide, ← hs, ← ht]
    exact put_apart HSM.out HSM2.out (by rw [HL.out]; exact hk1) (by rw [HL2.out]; exact hk21) (by rw [hke, e1]) (by rw [hkf, e2])
  clear hke hkf hs ht
  by_cases he : ke = 0
  · by_cases hf : kf = 0
    · subst he
      subst hf
      obtain ⟨q, hq⟩ : ∃ q, decide (sortF m = sortF m2) = q := ⟨_, rfl⟩
      have hst : (s.toList == t.toList) = q := by rw [HAP.out rfl rfl, hq]
      have HQ := Lib.hid hq
      clear hq
      go_wp2_with fail
      (with_reducible refine (put_any' m _ k c 0 s HK.out HS.out HL.out hkc hk1 HSM.out _ hr4).mono ?_)
      rintro e w4 ⟨rfl, hb4⟩
      have hr5 := hr4.below hb4
      have hr6 := hr3.below hb4
      have hb5 := bl hb3 hb4
      clear hr4 hr3 hb3 hb4
      go_wp2_with fail
      (with_reducible refine (put_any' m2 _ k2 c2 0 t HKF.out HT.out HL2.out hkc2 hk21 HSM2.out _ hr6).mono ?_)
      rintro e w6 ⟨rfl, hb6⟩
      have hr7 := hr5.below hb6
      have hr8 := hr6.below hb6
      have hb7 := bl hb5 hb6
      clear hr5 hr6 hb5 hb6
      go_wp2_with fail
      (with_reducible refine (rsort_any m _ k c HL.out hk1 HSM.out _ hr7).mono ?_)
      rintro e w8 ⟨v, rfl, hO, hb8⟩
      obtain ⟨B8, c8, rfl, _, _, hrS⟩ := hO.slice HL.out
      have hr9 := hr8.below hb8
      have hb9 := bl hb7 hb8
      clear hr7 hr8 hb7 hb8 hO
      go_wp2_with fail
      (with_reducible refine (rsort_any m2 _ k2 c2 HL2.out hk21 HSM2.out _ hr9).mono ?_)
      rintro e w10 ⟨v, rfl, hO, hb10⟩
      obtain ⟨B10, c10, rfl, _, _, hrT⟩ := hO.slice HL2.out
      have hrS10 := hrS.below hb10
      have hb11 := bl hb9 hb10
      clear hr9 hb9 hb10 hO hrS
      have HSL := Lib.hid (show (sortF m).length = k by rw [(sortF_law m).2.2]; exact HL.out)
      have HSL2 := Lib.hid (show (sortF m2).length = k2 by rw [(sortF_law m2).2.2]; exact HL2.out)
      have HSS := Lib.hid (same_is (sortF m) (sortF m2) B8 B10 k k2 c8 c10 q HQ.out w10 HSL.out HSL2.out hk1 hrS10 hrT)
      go_wp2_with fail
      refine HSS.out.mono ?_
      rintro e w12 ⟨rfl, hb12⟩
      go_wp2_with fail
      (with_reducible refine (awakeF_any _).mono ?_)
      rintro e w13 ⟨rfl, hb13⟩
      go_wp2_with fail
      go_ret
      exact ⟨rfl, bl (bl hb11 hb12) hb13⟩
    · have hf0 : (kf == 0) = false := by simp [hf]
      subst he
      go_wp2_with fail
      (with_reducible refine (put_any' m _ k c 0 s HK.out HS.out HL.out hkc hk1 HSM.out _ hr4).mono ?_)
      rintro e w4 ⟨rfl, hb4⟩
      have hr6 := hr3.below hb4
      have hb5 := bl hb3 hb4
      clear hr4 hr3 hb3 hb4
      go_wp2_with fail
      (with_reducible refine (put_any' m2 _ k2 c2 kf t HKF.out HT.out HL2.out hkc2 hk21 HSM2.out _ hr6).mono ?_)
      rintro e w6 ⟨rfl, hb6⟩
      have hb7 := bl hb5 hb6
      clear hr6 hb5 hb6
      go_wp2_with fail
      (with_reducible refine (awakeF_any _).mono ?_)
      rintro e w13 ⟨rfl, hb13⟩
      go_wp2_with fail
      go_ret
      exact ⟨rfl, bl hb7 hb13⟩
  · have he0 : (ke == 0) = false := by simp [he]
    go_wp2_with fail
    (with_reducible refine (put_any' m _ k c ke s HK.out HS.out HL.out hkc hk1 HSM.out _ hr4).mono ?_)
    rintro e w4 ⟨rfl, hb4⟩
    have hr6 := hr3.below hb4
    have hb5 := bl hb3 hb4
    clear hr4 hr3 hb3 hb4
    go_wp2_with fail
    (with_reducible refine (put_any' m2 _ k2 c2 kf t HKF.out HT.out HL2.out hkc2 hk21 HSM2.out _ hr6).mono ?_)
    rintro e w6 ⟨rfl, hb6⟩
    have hb7 := bl hb5 hb6
    clear hr6 hb5 hb6
    go_wp2_with fail
    (with_reducible refine (awakeF_any _).mono ?_)
    rintro e w13 ⟨rfl, hb13⟩
    go_wp2_with fail
    go_ret
    exact ⟨rfl, bl hb7 hb13⟩
end Go.Proofs.Ytbgnbkomckbckaa
