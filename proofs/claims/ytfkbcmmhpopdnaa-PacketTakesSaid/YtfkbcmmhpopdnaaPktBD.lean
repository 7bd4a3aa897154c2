/-
  Packets: may one be (packet.Check): data.
-/
import Derived.Test.YtfkbcmmhpopdnaaPktB
namespace Go.Proofs.Ytfkbcmmhpopdnaa
open Go.RowKit

set_option maxRecDepth 20000 in
set_option maxHeartbeats 4000000 in
theorem pcheck_2 (fr seq id i n : Int) (text : ByteArray) (A : Option Addr) (pn pc : Nat) (P : List ByteArray) (b : Bool) (w : World) (hb : pktOk 2 fr seq id i n text P = b) (hP : P.length = pn) (hr : Rd w A (P.map Value.string)) (ht : text.size ≤ 9223372036854775807) (hn : pn ≤ 9223372036854775807) :
    Calls Try.prog 11 #[.agg #[.int .i64 2, .int .i64 fr, .int .i64 seq, .int .i64 id, .int .i64 i, .int .i64 n, .string text, .slice A pn pc]] w (PC w b) := by
  have Hb := Lib.hid hb
  have HP := Lib.hid hP
  clear hb hP
  obtain ⟨b1, hb1⟩ : ∃ b, plnB 2 seq id i n pn = b := ⟨_, rfl⟩
  obtain ⟨b2, hb2⟩ : ∃ b, w32 fr 1 = b := ⟨_, rfl⟩
  obtain ⟨b3, hb3⟩ : ∃ b, w32 id 1 = b := ⟨_, rfl⟩
  obtain ⟨b4, hb4⟩ : ∃ b, w32 seq 0 = b := ⟨_, rfl⟩
  have H1 := Lib.hid hb1
  have H2 := Lib.hid hb2
  have H3 := Lib.hid hb3
  have H4 := Lib.hid hb4
  clear hb1 hb2 hb3 hb4
  have hB0 := (Below.refl w.heap.size w).alloc (Nat.le_refl _) (.cells #[.int .i64 2, .int .i64 fr, .int .i64 seq, .int .i64 id, .int .i64 i, .int .i64 n, .string text, .slice A pn pc] 24)
  have hG0 : Bk (w.alloc (.cells #[.int .i64 2, .int .i64 fr, .int .i64 seq, .int .i64 id, .int .i64 i, .int .i64 n, .string text, .slice A pn pc] 24)) w.heap.size 24 #[.int .i64 2, .int .i64 fr, .int .i64 seq, .int .i64 id, .int .i64 i, .int .i64 n, .string text, .slice A pn pc] := Bk.new _ _ _
  go_enter Try.func11, Try.ntmps11
  go_wp2_with fail
  refine (plain_k 2 fr seq id i n text A pn pc b1 H1.out _).mono ?_
  rintro e w1 ⟨rfl, hb1⟩
  have hG := hG0.below' hb1
  have hB := bl hB0 hb1
  have hr1 := hr.below (hB0.trans (hb1.mono (by simp)))
  clear hG0 hB0 hb1 hr
  have g0 := hG.cell 0
  have g1 := hG.cell 1
  have g2 := hG.cell 2
  have g3 := hG.cell 3
  have g4 := hG.cell 4
  have g5 := hG.cell 5
  have g6 := hG.cell 6
  have g7 := hG.cell 7
  simp only [List.getElem?_toArray, List.getElem?_cons_succ, List.getElem?_cons_zero] at g0 g1 g2 g3 g4 g5 g6 g7
  cases b1 with
  | false =>
    go_wp2
    go_ret
    refine PC.no ?_ hB
    have hp := H1.out
    have hb := Hb.out
    rw [plnB_2] at hp
    rw [ok_2] at hb
    have hp' := of_decide_eq_false hp
    rw [← hb, Bool.and_eq_false_iff]
    right
    rw [Bool.and_eq_false_iff]; right
    exact decide_eq_false (fun h => hp' ⟨h.1, h.2.1⟩)
  | true =>
    cases b2 with
    | false =>
      have Hno := Lib.hid (pktOk_fr Hb.out H2.out)
      go_wp2_with fail
      (with_reducible refine (numW_any fr 1 false H2.out _).mono ?_)
      rintro e w2 ⟨rfl, rfl⟩
      go_wp2_with fail
      go_ret
      exact PC.no Hno.out hB
    | true =>
      cases b3 with
      | false =>
        have Hno := Lib.hid (pktOk_wd Hb.out (by decide) (.inl H3.out))
        go_wp2_with fail
        (with_reducible refine (numW_any fr 1 true H2.out _).mono ?_)
        rintro e w2 ⟨rfl, rfl⟩
        go_wp2_with fail
        (with_reducible refine (numW_any id 1 false H3.out _).mono ?_)
        rintro e w2 ⟨rfl, rfl⟩
        go_wp2
        go_ret
        exact PC.no Hno.out hB
      | true =>
        cases b4 with
        | false =>
          have Hno := Lib.hid (pktOk_wd Hb.out (by decide) (.inr H4.out))
          go_wp2_with fail
          (with_reducible refine (numW_any fr 1 true H2.out _).mono ?_)
          rintro e w2 ⟨rfl, rfl⟩
          go_wp2_with fail
          (with_reducible refine (numW_any id 1 true H3.out _).mono ?_)
          rintro e w2 ⟨rfl, rfl⟩
          go_wp2_with fail
          (with_reducible refine (numW_any seq 0 false H4.out _).mono ?_)
          rintro e w2 ⟨rfl, rfl⟩
          go_wp2
          go_ret
          exact PC.no Hno.out hB
        | true =>
          go_wp2_with fail
          (with_reducible refine (numW_any fr 1 true H2.out _).mono ?_)
          rintro e w2 ⟨rfl, rfl⟩
          go_wp2_with fail
          (with_reducible refine (numW_any id 1 true H3.out _).mono ?_)
          rintro e w2 ⟨rfl, rfl⟩
          go_wp2_with fail
          (with_reducible refine (numW_any seq 0 true H4.out _).mono ?_)
          rintro e w2 ⟨rfl, rfl⟩
          have hp := of_decide_eq_true (plnB_2.symm.trans H1.out)
          have HQ := Lib.hid (show decide (0 ≤ i ∧ i ≤ 255 ∧ text.size = 224 ∧ pn ≤ 8 ∧ szB P = true) = b by
            have hb := Hb.out
            rw [ok_2, H2.out, H3.out, H4.out, Bool.true_and, Bool.true_and, Bool.true_and, HP.out] at hb
            rw [← hb, decide_eq_decide]
            exact ⟨fun h => ⟨hp.1, hp.2, h⟩, fun h => h.2.2⟩)
          clear hp H1 H2 H3 H4 Hb
          go_wp2_with fail
          all_goals
            (go_loop [4, 91] (fun o x => ∃ (k : Nat) (q : Bool), k ≤ pn ∧ x = .int .i64 k ∧ o = .bool q ∧ Hid (q = decide (0 ≤ i ∧ i ≤ 255 ∧ text.size = 224 ∧ pn ≤ 8 ∧ szB (P.take k) = true))) (fun _ x => pn - (intOf x).toNat)
             case atStart =>
               refine ⟨0, _, by omega, rfl, rfl, Lib.hid ?_⟩
               clear HQ
               rw [List.take_zero, szB_nil, Bool.eq_iff_iff]
               simp_all <;> omega
             case round =>
               obtain ⟨k, q, hk, rfl, rfl, hf⟩ := hrel
               have Hf := Lib.hid hf.out
               by_cases hlt : k < pn
               · obtain ⟨b0, o0, rfl, hcell⟩ := hr1.at_ (k := k) (by rw [List.length_map, HP.out]; exact hlt)
                 obtain ⟨x, hx⟩ : ∃ x, P[k]? = some x := ⟨_, List.getElem?_eq_getElem (by rw [HP.out]; exact hlt)⟩
                 have hcell' : w1.cell? ⟨b0, o0 + k, none⟩ = some (.string x) := by
                   rw [hcell, List.getElem_map]
                   congr 2
                   exact Option.some.inj ((List.getElem?_eq_getElem _).symm.trans hx)
                 have Hx := Lib.hid hx
                 clear hcell hx
                 cases q with
                 | false =>
                   go_wp2_with fail
                   go_round
                   case rel => exact ⟨k + 1, false, by omega, by go_num, rfl, Lib.hid (sz_step Hx.out Hf.out)⟩
                   case measure => simp [intOf]; omega
                 | true =>
                   go_wp2_with fail
                   go_round
                   case rel => exact ⟨k + 1, _, by omega, by go_num, rfl, Lib.hid (sz_yes Hx.out Hf.out)⟩
                   case measure => simp [intOf]; omega
               · obtain rfl : k = pn := by omega
                 have HR := Lib.hid (show q = b by rw [Hf.out, ← HQ.out, List.take_of_length_le (by rw [HP.out]; exact Nat.le_refl _)])
                 cases q with
                 | false =>
                   go_wp2
                   go_ret
                   exact PC.no HR.out.symm hB
                 | true =>
                   go_wp2
                   go_ret
                   exact PC.yes HR.out.symm hB)
end Go.Proofs.Ytfkbcmmhpopdnaa
