/-
  The reference's Put.
-/
import Derived.Test.YtbgnbkomckbckaaFmR
namespace Go.Proofs.Ytbgnbkomckbckaa
open Go.RowKit Go.Sort

theorem put_is (n : Int) (s : ByteArray) (h : ofL (putN (clampN n)) = s) (w : World) :
    Calls Try.prog 23 #[.int .i64 n] w fun e w' => e = .returned (.string s) ∧ Below w.heap.size w w' := by subst h; exact put_any n w
theorem OutR.slice {w : World} {l : List Fl} {n : Nat} {v : Value} (hn : l.length = n) (h : OutR w l n v) : ∃ B c, v = .slice B n c ∧ n ≤ c ∧ c ≤ maxLen ∧ Rd w B (fl (sortF l)) := by
  rcases h with ⟨h0, hv⟩ | ⟨g, c, _, hv, h1, h2, hF⟩
  · have : l = [] := List.eq_nil_of_length_eq_zero (by omega)
    subst this
    subst h0
    exact ⟨none, 0, hv, Nat.le_refl _, by unfold maxLen; omega, Rd.nil _ _⟩
  · rw [List.take_of_length_le (by omega)] at hF
    exact ⟨_, c, hv, h1, h2, hF.rd⟩

set_option maxRecDepth 20000 in
set_option maxHeartbeats 8000000 in
theorem rput_any (l : List Fl) (A : Option Addr) (n c : Nat) (k : Int) (s : ByteArray) (hk : checkF l = k) (hs : putS l = s) (hn : l.length = n) (hn70 : n ≤ 1000) (hsz : ∀ x ∈ l, x.1.size ≤ 100000000 ∧ x.2.size ≤ 100000000) (w : World) (hr : Rd w A (fl l)) :
    Calls Try.prog 11 #[.slice A n c] w fun e w' => e = .returned (.tuple #[.string s, .int .i64 k]) ∧ Below w.heap.size w w' := by
  have Hn := Lib.hid hn
  have HZ := Lib.hid hsz
  have mixed : Try.prog.follows Departure.mixedOrders = true := by kernel_rfl
  have HF := Lib.hid (rcheck_any l A n c k hk hn hn70 hsz)
  have HSO := Lib.hid (rsort_any l A n c hn hn70 hsz)
  by_cases h0 : k = 0
  · have HS := Lib.hid (show ofL (putF l) = s by rw [← hs]; unfold putS; rw [if_pos (by rw [hk]; exact h0)])
    subst h0
    clear hs hk hsz
    obtain ⟨s0, hs0⟩ : ∃ s0, ofL (putN (clampN (n : Int))) = s0 := ⟨_, rfl⟩
    have hs0l : s0.toList = putN (clampN (n : Int)) := by rw [← hs0, toList_ofL]
    have hs0z : s0.size ≤ 9 := by rw [← size_toList, hs0l]; exact putN_length _
    have HS0 := Lib.hid hs0
    have HS0L := Lib.hid hs0l
    clear hs0 hs0l hn
    go_enter Try.func11, Try.ntmps11
    go_wp2_with fail
    (with_reducible refine (HF.out _ hr).mono ?_)
    rintro e w1 ⟨rfl, hb1⟩
    have hr1 := hr.below hb1
    clear hr
    go_wp2_with fail
    (with_reducible refine (put_is (n : Int) s0 HS0.out _).mono ?_)
    rintro e w2 ⟨rfl, hb2⟩
    have hr2 := hr1.below hb2
    have hb3 := bl hb1 hb2
    clear hr1 hb1 hb2
    go_wp2_with fail
    (with_reducible refine (HSO.out _ hr2).mono ?_)
    rintro e w4 ⟨v, rfl, hO, hb4⟩
    obtain ⟨B, cB, rfl, q1, q2, hrB⟩ := hO.slice Hn.out
    have hb5 := bl hb3 hb4
    have HSL := Lib.hid (show (sortF l).length = n by rw [(sortF_law l).2.2]; exact Hn.out)
    clear hb3 hb4 hr2 hO
    go_wp2_with fail
    go_loopw [5, 7] (fun v5 vj wr => ∃ (j : Nat) (t : ByteArray), vj = .int .i64 j ∧ v5 = .string t ∧ j ≤ n ∧ Hid (t = s0 ++ ofL (putL ((sortF l).take j))) ∧ t.size ≤ 9 + j * 300000000 ∧ Rd wr B (fl (sortF l)) ∧ Below w.heap.size w wr) (fun _ vj _ => n - (intOf vj).toNat)
    case atStart => exact ⟨0, s0, rfl, rfl, by omega, Lib.hid (str_eq (by rw [toList_app, toList_ofL]; simp [putL])), by omega, hrB, hb5⟩
    case round =>
      clear hrB hb5
      obtain ⟨j, t, rfl, rfl, hj, hT, htl, hrB, hb⟩ := hrel
      by_cases hlt : (j : Int) < (n : Int)
      · have hjl : j < (sortF l).length := by rw [HSL.out]; omega
        obtain ⟨x, hx⟩ : ∃ x, (sortF l)[j]? = some x := ⟨_, getD_some hjl⟩
        obtain ⟨b, o, rfl, q0, q1'⟩ := hrB.file hx
        have hxs := HZ.out x (sortF_mem.1 (List.mem_of_getElem? hx))
        obtain ⟨xp, xd⟩ := x
        rw [show (o + (j * 2 + 1) : Nat) = o + j * 2 + 1 by omega] at q1'
        have hxs1 : xp.size ≤ 100000000 := hxs.1
        have hxs2 : xd.size ≤ 100000000 := hxs.2
        have HX := Lib.hid hx
        obtain ⟨t1, ht1⟩ : ∃ t, ofL (putT xp.toList) = t := ⟨_, rfl⟩
        obtain ⟨t2, ht2⟩ : ∃ t, ofL (putT xd.toList) = t := ⟨_, rfl⟩
        have ht1l : t1.toList = putT xp.toList := by rw [← ht1, toList_ofL]
        have ht2l : t2.toList = putT xd.toList := by rw [← ht2, toList_ofL]
        have hz1 : t1.size ≤ 100000009 := by rw [← size_toList, ht1l]; have := putT_len xp; omega
        have hz2 : t2.size ≤ 100000009 := by rw [← size_toList, ht2l]; have := putT_len xd; omega
        have HT1 := Lib.hid ht1
        have HT2 := Lib.hid ht2
        obtain ⟨u1, hu1⟩ : ∃ u, t ++ t1 = u := ⟨_, rfl⟩
        obtain ⟨u2, hu2⟩ : ∃ u, u1 ++ t2 = u := ⟨_, rfl⟩
        have hu1z : u1.size ≤ 9 + j * 300000000 + 100000009 := by rw [← hu1, ByteArray.size_append]; omega
        have hu2z : u2.size ≤ 9 + (j + 1) * 300000000 := by rw [← hu2, ByteArray.size_append]; omega
        have m1 : ¬ (9223372036854775807 < t.size + t1.size) := by omega
        have m2 : ¬ (9223372036854775807 < u1.size + t2.size) := by omega
        have HU := Lib.hid (show u2 = s0 ++ ofL (putL ((sortF l).take (j + 1))) by
          refine str_eq ?_
          rw [← hu2, ← hu1, hT.out, List.take_add_one, hx, Option.toList_some, putL_snoc]
          simp only [toList_app, toList_ofL, ht1l, ht2l, List.append_assoc])
        have q0G : ∀ d os, (grow (redrawn wr d) os).cell? ⟨b, o + j * 2, none⟩ = some (.string xp) := fun d os => cell_regrown q0 d os
        have q1G : ∀ d os, (grow (redrawn wr d) os).cell? ⟨b, o + j * 2 + 1, none⟩ = some (.string xd) := fun d os => cell_regrown q1' d os
        clear hx hjl hxs ht1 ht2 ht1l ht2l q0 q1'
        go_wp2_with fail
        refine wp_region_quiet_below (by assumption) (by kernel_rfl) ?_
        repeat (quiet_step (first | (go_at_call 24; refine Calls.regrown_of (putTextR_is xp t1 HT1.out _ (by omega))) | (go_at_call 24; refine Calls.regrown_of (putTextR_is xd t2 HT2.out _ (by omega)))))
        refine wpQuiet_nil ?_
        intro _ hw'
        obtain ⟨⟨nq, osq⟩, hw''⟩ := hw'
        subst hw''
        go_wp2_with fail
        have hbg := below_regrown wr nq osq
        go_round
        case rel => exact ⟨j + 1, u2, by first | rfl | go_num, rfl, by omega, HU, hu2z, hrB.below hbg, bl hb hbg⟩
        case measure => simp [intOf]; omega
      · have hT2 : t = s := by
          rw [hT.out, List.take_of_length_le (by rw [HSL.out]; omega), ← HS.out]
          unfold putF
          refine str_eq ?_
          rw [toList_app, toList_ofL, toList_ofL, HS0L.out, Hn.out]
        subst hT2
        go_wp2_with fail
        go_ret2
        exact ⟨rfl, hb⟩
  · have HS := Lib.hid (show s = ⟨#[]⟩ by rw [← hs]; unfold putS; rw [if_neg (by rw [hk]; exact h0)])
    have hk0 : (k == 0) = false := by simp [h0]
    clear hs hk hsz
    go_enter Try.func11, Try.ntmps11
    go_wp2_with fail
    (with_reducible refine (HF.out _ hr).mono ?_)
    rintro e w1 ⟨rfl, hb1⟩
    go_wp2_with fail
    go_ret2
    exact ⟨by rw [HS.out]; rfl, hb1⟩
end Go.Proofs.Ytbgnbkomckbckaa
