/-
  Packets: may one be (packet.Check): acknowledgements and ends.
-/
import Derived.Test.YtfkbcmmhpopdnaaPktB
namespace Go.Proofs.Ytfkbcmmhpopdnaa
open Go.RowKit

set_option maxRecDepth 20000 in
set_option maxHeartbeats 4000000 in
theorem pcheck_3 (fr seq id i n : Int) (text : ByteArray) (A : Option Addr) (pn pc : Nat) (P : List ByteArray) (b : Bool) (w : World) (hb : pktOk 3 fr seq id i n text P = b) (hP : P.length = pn) (hr : Rd w A (P.map Value.string)) (ht : text.size ≤ 9223372036854775807) (hn : pn ≤ 9223372036854775807) :
    Calls Try.prog 11 #[.agg #[.int .i64 3, .int .i64 fr, .int .i64 seq, .int .i64 id, .int .i64 i, .int .i64 n, .string text, .slice A pn pc]] w (PC w b) := by
  have Hb := Lib.hid hb
  have HP := Lib.hid hP
  clear hb hP
  obtain ⟨b1, hb1⟩ : ∃ b, plnB 3 seq id i n pn = b := ⟨_, rfl⟩
  obtain ⟨b2, hb2⟩ : ∃ b, w32 fr 1 = b := ⟨_, rfl⟩
  obtain ⟨b3, hb3⟩ : ∃ b, w32 id 1 = b := ⟨_, rfl⟩
  obtain ⟨b4, hb4⟩ : ∃ b, w32 seq 0 = b := ⟨_, rfl⟩
  have H1 := Lib.hid hb1
  have H2 := Lib.hid hb2
  have H3 := Lib.hid hb3
  have H4 := Lib.hid hb4
  clear hb1 hb2 hb3 hb4
  have hB0 := (Below.refl w.heap.size w).alloc (Nat.le_refl _) (.cells #[.int .i64 3, .int .i64 fr, .int .i64 seq, .int .i64 id, .int .i64 i, .int .i64 n, .string text, .slice A pn pc] 24)
  have hG0 : Bk (w.alloc (.cells #[.int .i64 3, .int .i64 fr, .int .i64 seq, .int .i64 id, .int .i64 i, .int .i64 n, .string text, .slice A pn pc] 24)) w.heap.size 24 #[.int .i64 3, .int .i64 fr, .int .i64 seq, .int .i64 id, .int .i64 i, .int .i64 n, .string text, .slice A pn pc] := Bk.new _ _ _
  go_enter Try.func11, Try.ntmps11
  go_wp2_with fail
  refine (plain_k 3 fr seq id i n text A pn pc b1 H1.out _).mono ?_
  rintro e w1 ⟨rfl, hb1⟩
  have hG := hG0.below' hb1
  have hB := bl hB0 hb1
  have hr1 := hr.below (hB0.trans (hb1.mono (by simp)))
  clear hG0 hB0 hb1 hr
  have g0 := hG.cell 0
  have g1 := hG.cell 1
  have g2 := hG.cell 2
  have g3 := hG.cell 3
  have g4 := hG.cell 4
  have g5 := hG.cell 5
  have g6 := hG.cell 6
  have g7 := hG.cell 7
  simp only [List.getElem?_toArray, List.getElem?_cons_succ, List.getElem?_cons_zero] at g0 g1 g2 g3 g4 g5 g6 g7
  cases b1 with
  | false =>
    go_wp2
    go_ret
    refine PC.no ?_ hB
    have hp := H1.out
    have hb := Hb.out
    rw [plnB_3] at hp
    rw [ok_3] at hb
    have hp' := of_decide_eq_false hp
    rw [← hb, Bool.and_eq_false_iff]
    right
    rw [Bool.and_eq_false_iff]; right
    exact decide_eq_false (fun h => hp' (HP.out ▸ h.2.2.2.2))
  | true =>
    cases b2 with
    | false =>
      have Hno := Lib.hid (pktOk_fr Hb.out H2.out)
      go_wp2_with fail
      (with_reducible refine (numW_any fr 1 false H2.out _).mono ?_)
      rintro e w2 ⟨rfl, rfl⟩
      go_wp2_with fail
      go_ret
      exact PC.no Hno.out hB
    | true =>
      cases b3 with
      | false =>
        have Hno := Lib.hid (pktOk_wd Hb.out (by decide) (.inl H3.out))
        go_wp2_with fail
        (with_reducible refine (numW_any fr 1 true H2.out _).mono ?_)
        rintro e w2 ⟨rfl, rfl⟩
        go_wp2_with fail
        (with_reducible refine (numW_any id 1 false H3.out _).mono ?_)
        rintro e w2 ⟨rfl, rfl⟩
        go_wp2
        go_ret
        exact PC.no Hno.out hB
      | true =>
        cases b4 with
        | false =>
          have Hno := Lib.hid (pktOk_wd Hb.out (by decide) (.inr H4.out))
          go_wp2_with fail
          (with_reducible refine (numW_any fr 1 true H2.out _).mono ?_)
          rintro e w2 ⟨rfl, rfl⟩
          go_wp2_with fail
          (with_reducible refine (numW_any id 1 true H3.out _).mono ?_)
          rintro e w2 ⟨rfl, rfl⟩
          go_wp2_with fail
          (with_reducible refine (numW_any seq 0 false H4.out _).mono ?_)
          rintro e w2 ⟨rfl, rfl⟩
          go_wp2
          go_ret
          exact PC.no Hno.out hB
        | true =>
          go_wp2_with fail
          (with_reducible refine (numW_any fr 1 true H2.out _).mono ?_)
          rintro e w2 ⟨rfl, rfl⟩
          go_wp2_with fail
          (with_reducible refine (numW_any id 1 true H3.out _).mono ?_)
          rintro e w2 ⟨rfl, rfl⟩
          go_wp2_with fail
          (with_reducible refine (numW_any seq 0 true H4.out _).mono ?_)
          rintro e w2 ⟨rfl, rfl⟩
          obtain ⟨he, hhe⟩ : ∃ e, (takeB n text.toList).2 = e := ⟨_, rfl⟩
          have Hh := Lib.hid hhe
          have hp := of_decide_eq_true (plnB_3.symm.trans H1.out)
          have HQ := Lib.hid (show decide (he = 0 ∧ 0 < n ∧ 0 ≤ i ∧ i ≤ n) = b by
            have hb := Hb.out
            rw [ok_3, H2.out, H3.out, H4.out, Bool.true_and, Bool.true_and, Bool.true_and, HP.out, hhe] at hb
            rw [← hb, decide_eq_decide]
            exact ⟨fun h => ⟨h.1, h.2.1, h.2.2.1, h.2.2.2, hp⟩, fun h => ⟨h.1, h.2.1, h.2.2.1, h.2.2.2.1⟩⟩)
          clear hp hhe H1 H2 H3 H4 Hb
          go_wp2_with fail
          (with_reducible refine (take_e n text he Hh.out ht _).mono ?_)
          rintro e w2 ⟨x0, x1, x2, x3, x4, rfl, hb2⟩
          have hB2 := bl hB hb2
          have hG2 := (hG.below' hb2).alloc (.cells #[.int .i64 x0, .int .u64 x1, .int .u64 x2, .int .u64 x3, .int .u64 x4] 51)
          have g4' := hG2.cell 4
          have g5' := hG2.cell 5
          simp only [List.getElem?_toArray, List.getElem?_cons_succ, List.getElem?_cons_zero] at g4' g5'
          clear hG hG2 hb2 hB g0 g1 g2 g3 g4 g5 g6 g7
          go_wp2
          all_goals go_ret
          all_goals first
            | (refine PC.no ?_ (hB2.alloc hB2.size _); rw [← HQ.out]; refine decide_eq_false ?_; clear HQ Hh; intro h; simp_all <;> omega)
            | (refine PC.yes ?_ (hB2.alloc hB2.size _); rw [← HQ.out]; refine decide_eq_true ?_; clear HQ Hh; simp_all <;> omega)

set_option maxRecDepth 20000 in
set_option maxHeartbeats 4000000 in
theorem pcheck_4 (fr seq id i n : Int) (text : ByteArray) (A : Option Addr) (pn pc : Nat) (P : List ByteArray) (b : Bool) (w : World) (hb : pktOk 4 fr seq id i n text P = b) (hP : P.length = pn) (hr : Rd w A (P.map Value.string)) (ht : text.size ≤ 9223372036854775807) (hn : pn ≤ 9223372036854775807) :
    Calls Try.prog 11 #[.agg #[.int .i64 4, .int .i64 fr, .int .i64 seq, .int .i64 id, .int .i64 i, .int .i64 n, .string text, .slice A pn pc]] w (PC w b) := by
  have Hb := Lib.hid hb
  have HP := Lib.hid hP
  clear hb hP
  obtain ⟨b1, hb1⟩ : ∃ b, plnB 4 seq id i n pn = b := ⟨_, rfl⟩
  obtain ⟨b2, hb2⟩ : ∃ b, w32 fr 1 = b := ⟨_, rfl⟩
  obtain ⟨b3, hb3⟩ : ∃ b, w32 id 1 = b := ⟨_, rfl⟩
  obtain ⟨b4, hb4⟩ : ∃ b, w32 seq 0 = b := ⟨_, rfl⟩
  have H1 := Lib.hid hb1
  have H2 := Lib.hid hb2
  have H3 := Lib.hid hb3
  have H4 := Lib.hid hb4
  clear hb1 hb2 hb3 hb4
  have hB0 := (Below.refl w.heap.size w).alloc (Nat.le_refl _) (.cells #[.int .i64 4, .int .i64 fr, .int .i64 seq, .int .i64 id, .int .i64 i, .int .i64 n, .string text, .slice A pn pc] 24)
  have hG0 : Bk (w.alloc (.cells #[.int .i64 4, .int .i64 fr, .int .i64 seq, .int .i64 id, .int .i64 i, .int .i64 n, .string text, .slice A pn pc] 24)) w.heap.size 24 #[.int .i64 4, .int .i64 fr, .int .i64 seq, .int .i64 id, .int .i64 i, .int .i64 n, .string text, .slice A pn pc] := Bk.new _ _ _
  go_enter Try.func11, Try.ntmps11
  go_wp2_with fail
  refine (plain_k 4 fr seq id i n text A pn pc b1 H1.out _).mono ?_
  rintro e w1 ⟨rfl, hb1⟩
  have hG := hG0.below' hb1
  have hB := bl hB0 hb1
  have hr1 := hr.below (hB0.trans (hb1.mono (by simp)))
  clear hG0 hB0 hb1 hr
  have g0 := hG.cell 0
  have g1 := hG.cell 1
  have g2 := hG.cell 2
  have g3 := hG.cell 3
  have g4 := hG.cell 4
  have g5 := hG.cell 5
  have g6 := hG.cell 6
  have g7 := hG.cell 7
  simp only [List.getElem?_toArray, List.getElem?_cons_succ, List.getElem?_cons_zero] at g0 g1 g2 g3 g4 g5 g6 g7
  cases b1 with
  | false =>
    go_wp2
    go_ret
    refine PC.no ?_ hB
    have hp := H1.out
    have hb := Hb.out
    rw [plnB_4] at hp
    rw [ok_4] at hb
    have hp' := of_decide_eq_false hp
    rw [← hb, Bool.and_eq_false_iff]
    right
    rw [Bool.and_eq_false_iff]; right
    exact decide_eq_false (fun h => hp' ⟨h.1, h.2.1, HP.out ▸ h.2.2.1⟩)
  | true =>
    cases b2 with
    | false =>
      have Hno := Lib.hid (pktOk_fr Hb.out H2.out)
      go_wp2_with fail
      (with_reducible refine (numW_any fr 1 false H2.out _).mono ?_)
      rintro e w2 ⟨rfl, rfl⟩
      go_wp2_with fail
      go_ret
      exact PC.no Hno.out hB
    | true =>
      cases b3 with
      | false =>
        have Hno := Lib.hid (pktOk_wd Hb.out (by decide) (.inl H3.out))
        go_wp2_with fail
        (with_reducible refine (numW_any fr 1 true H2.out _).mono ?_)
        rintro e w2 ⟨rfl, rfl⟩
        go_wp2_with fail
        (with_reducible refine (numW_any id 1 false H3.out _).mono ?_)
        rintro e w2 ⟨rfl, rfl⟩
        go_wp2
        go_ret
        exact PC.no Hno.out hB
      | true =>
        cases b4 with
        | false =>
          have Hno := Lib.hid (pktOk_wd Hb.out (by decide) (.inr H4.out))
          go_wp2_with fail
          (with_reducible refine (numW_any fr 1 true H2.out _).mono ?_)
          rintro e w2 ⟨rfl, rfl⟩
          go_wp2_with fail
          (with_reducible refine (numW_any id 1 true H3.out _).mono ?_)
          rintro e w2 ⟨rfl, rfl⟩
          go_wp2_with fail
          (with_reducible refine (numW_any seq 0 false H4.out _).mono ?_)
          rintro e w2 ⟨rfl, rfl⟩
          go_wp2
          go_ret
          exact PC.no Hno.out hB
        | true =>
          go_wp2_with fail
          (with_reducible refine (numW_any fr 1 true H2.out _).mono ?_)
          rintro e w2 ⟨rfl, rfl⟩
          go_wp2_with fail
          (with_reducible refine (numW_any id 1 true H3.out _).mono ?_)
          rintro e w2 ⟨rfl, rfl⟩
          go_wp2_with fail
          (with_reducible refine (numW_any seq 0 true H4.out _).mono ?_)
          rintro e w2 ⟨rfl, rfl⟩
          have hp := of_decide_eq_true (plnB_4.symm.trans H1.out)
          have HQ := Lib.hid (show decide (text.size = 32) = b by
            have hb := Hb.out
            rw [ok_4, H2.out, H3.out, H4.out, Bool.true_and, Bool.true_and, Bool.true_and, HP.out] at hb
            rw [← hb, decide_eq_decide]
            exact ⟨fun h => ⟨hp.1, hp.2.1, hp.2.2, h⟩, fun h => h.2.2.2⟩)
          clear hp H1 H2 H3 H4 Hb
          go_wp2
          all_goals go_ret
          all_goals first
            | (refine PC.no ?_ hB; rw [← HQ.out]; refine decide_eq_false ?_; clear HQ; intro h; simp_all <;> omega)
            | (refine PC.yes ?_ hB; rw [← HQ.out]; refine decide_eq_true ?_; clear HQ; simp_all <;> omega)
end Go.Proofs.Ytfkbcmmhpopdnaa
