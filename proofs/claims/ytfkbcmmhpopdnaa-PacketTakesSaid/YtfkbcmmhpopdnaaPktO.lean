/-
  The walk of the law PacketTakes.
-/
import Derived.Test.YtfkbcmmhpopdnaaPktN
import Derived.Test.YtfkbcmmhpopdnaaPktZ
namespace Go.Proofs.Ytfkbcmmhpopdnaa
open Go.RowKit

theorem takeR_is (kind fr seq id i n : Int) (text : ByteArray) (P : List ByteArray) (pn : Nat) (S : ByteArray) (w : World) (hok : pktOk kind fr seq id i n text P = true) (hS : pktS kind fr seq id i n text P = S) (hP : P.length = pn) (hs : S.size ≤ 1000) :
    Calls Try.prog 13 #[.string S] w (TkIs kind fr seq id i n text P pn w) := by
  refine (ptakeR_any S w hs).mono ?_
  rintro e w' (⟨k', fr', sq', id', i', n', x', A, pn', pc, P', h1, h2, h3, h4, h5, h6, h7, rfl, h8⟩ | ⟨h1, rfl, h8⟩)
  · obtain ⟨q0, q1, q2, q3, q4, q5, q6, q7⟩ := pkt_inj hok h1 (by rw [h2, hS])
    subst q0; subst q1; subst q2; subst q3; subst q4; subst q5; subst q6; subst q7; subst hP; subst h4
    exact ⟨A, pc, rfl, h5, h7, h8⟩
  · exact absurd hS (h1 _ _ _ _ _ _ _ _ hok)
theorem takeR_no (S : ByteArray) (w : World) (hno : ∀ (kind fr seq id i n : Int) (text : ByteArray) (P : List ByteArray), pktOk kind fr seq id i n text P = true → ¬ pktS kind fr seq id i n text P = S) (hs : S.size ≤ 1000) :
    Calls Try.prog 13 #[.string S] w fun e w' => e = .returned (.tuple #[.agg #[.int .i64 0, .int .i64 0, .int .i64 0, .int .i64 0, .int .i64 0, .int .i64 0, .string ⟨#[]⟩, .slice none 0 0], .int .i64 2]) ∧ Below w.heap.size w w' := by
  refine (ptakeR_any S w hs).mono ?_
  rintro e w' (⟨k', fr', sq', id', i', n', x', A, pn', pc, P', h1, h2, _⟩ | ⟨h1, rfl, h8⟩)
  · exact absurd h2 (hno _ _ _ _ _ _ _ _ h1)
  · exact ⟨rfl, h8⟩

set_option maxRecDepth 20000 in
set_option maxHeartbeats 8000000 in
theorem packetTakes_in (c : ByteArray) (hc : c.size ≤ 1000) (s : ByteArray) (w : World) (hs : (1000 < s.size ∧ s.extract 0 1000 = c) ∨ (s.size ≤ 1000 ∧ s = c)) :
    Calls Try.prog 4 #[.string s] w (Yes w) := by
  have H0 := Lib.hid (ptake_any c · hc)
  have hi : (((1000 : Int) < (s.size : Int)) ∧ s.extract 0 1000 = c) ∨ (¬ ((1000 : Int) < (s.size : Int)) ∧ s = c) := hs.imp (fun h => ⟨by omega, h.2⟩) (fun h => ⟨by omega, h.2⟩)
  clear hs
  rcases hi with ⟨h1, h2⟩ | ⟨h1, rfl⟩
  all_goals
    go_enter Try.func4, Try.ntmps4
    go_wp2_with fail
    refine (H0.out _).mono ?_
    rintro e w1 (⟨kind, fr, seq, id, i, n, x, A, pn, pc, P, hok, hS, hxs, hP, hpc, hcm, hr, rfl, hb⟩ | ⟨hno, rfl, hb⟩)
    · have Hok := Lib.hid hok
      have HS := Lib.hid hS
      have HP := Lib.hid hP
      have hrA := hr.below ((Below.refl w1.heap.size w1).alloc (Nat.le_refl _) (.cells #[.int .i64 kind, .int .i64 fr, .int .i64 seq, .int .i64 id, .int .i64 i, .int .i64 n, .string x, .slice A pn pc] 24))
      have hbA := hb.alloc hb.size (.cells #[.int .i64 kind, .int .i64 fr, .int .i64 seq, .int .i64 id, .int .i64 i, .int .i64 n, .string x, .slice A pn pc] 24)
      have hG : BkP (w1.alloc (.cells #[.int .i64 kind, .int .i64 fr, .int .i64 seq, .int .i64 id, .int .i64 i, .int .i64 n, .string x, .slice A pn pc] 24)) w1.heap.size kind fr seq id i n x A pn pc := Bk.new _ _ _
      clear hok hS hP hr hb
      go_wp2_with fail
      (with_reducible refine (takeR_is kind fr seq id i n x P pn _ _ Hok.out HS.out HP.out hc).mono ?_)
      rintro e w3 ⟨B, pd, rfl, hpd, hq3, hb3⟩
      have hG3 : BkP w3 w1.heap.size kind fr seq id i n x A pn pc := Bk.below' hG hb3
      have hr3 := hrA.below hb3
      have hB3 := bl hbA hb3
      clear hG hrA hbA hb3
      have hbs := (Below.refl w3.heap.size w3).alloc (Nat.le_refl _) (.cells #[.int .i64 kind, .int .i64 fr, .int .i64 seq, .int .i64 id, .int .i64 i, .int .i64 n, .string x, .slice B pn pd] 24)
      have hG4 : BkP (w3.alloc (.cells #[.int .i64 kind, .int .i64 fr, .int .i64 seq, .int .i64 id, .int .i64 i, .int .i64 n, .string x, .slice B pn pd] 24)) w1.heap.size kind fr seq id i n x A pn pc := Bk.below' hG3 hbs
      have hr4 := hr3.below hbs
      have hq4 := hq3.below hbs
      have hB4 := bl hB3 hbs
      clear hG3 hr3 hq3 hB3 hbs
      obtain ⟨g0, g1, g2, g3, g4, g5, g6, g7⟩ := hG4.cells
      go_wp2_with fail
      (with_reducible refine (sameK_any kind fr seq id i n x A pn pc B pd P _ HP.out hr4 hq4 (by omega)).mono ?_)
      rintro e w5 ⟨rfl, hb5⟩
      have hB5 := bl hB4 hb5
      clear hG4 hr4 hq4 hB4 hb5 g0 g1 g2 g3 g4 g5 g6 g7
      go_wp2_with fail
      (with_reducible refine (awakeK_any _).mono ?_)
      rintro e w6 ⟨rfl, hb6⟩
      go_wp2_with fail
      go_ret
      exact ⟨rfl, bl hB5 hb6⟩
    · have hbA := hb.alloc hb.size (.cells #[.int .i64 0, .int .i64 0, .int .i64 0, .int .i64 0, .int .i64 0, .int .i64 0, .string ⟨#[]⟩, .slice none 0 0] 24)
      have HN := Lib.hid hno
      have hG : BkP (w1.alloc (.cells #[.int .i64 0, .int .i64 0, .int .i64 0, .int .i64 0, .int .i64 0, .int .i64 0, .string ⟨#[]⟩, .slice none 0 0] 24)) w1.heap.size 0 0 0 0 0 0 ⟨#[]⟩ none 0 0 := Bk.new _ _ _
      clear hno hb
      go_wp2_with fail
      (with_reducible refine (takeR_no _ _ HN.out hc).mono ?_)
      rintro e w3 ⟨rfl, hb3⟩
      have hG3 : BkP w3 w1.heap.size 0 0 0 0 0 0 ⟨#[]⟩ none 0 0 := Bk.below' hG hb3
      have hB3 := bl hbA hb3
      clear hG hbA hb3
      have hbs := (Below.refl w3.heap.size w3).alloc (Nat.le_refl _) (.cells #[.int .i64 0, .int .i64 0, .int .i64 0, .int .i64 0, .int .i64 0, .int .i64 0, .string ⟨#[]⟩, .slice none 0 0] 24)
      have hG4 : BkP (w3.alloc (.cells #[.int .i64 0, .int .i64 0, .int .i64 0, .int .i64 0, .int .i64 0, .int .i64 0, .string ⟨#[]⟩, .slice none 0 0] 24)) w1.heap.size 0 0 0 0 0 0 ⟨#[]⟩ none 0 0 := Bk.below' hG3 hbs
      have hB4 := bl hB3 hbs
      clear hG3 hB3 hbs
      obtain ⟨g0, g1, g2, g3, g4, g5, g6, g7⟩ := hG4.cells
      go_wp2_with fail
      (with_reducible refine (sameK_any 0 0 0 0 0 0 ⟨#[]⟩ none 0 0 none 0 [] _ rfl (Rd.nil _ _) (Rd.nil _ _) (by omega)).mono ?_)
      rintro e w5 ⟨rfl, hb5⟩
      have hB5 := bl hB4 hb5
      clear hG4 hB4 hb5 g0 g1 g2 g3 g4 g5 g6 g7
      go_wp2_with fail
      (with_reducible refine (awakeK_any _).mono ?_)
      rintro e w6 ⟨rfl, hb6⟩
      go_wp2_with fail
      go_ret
      exact ⟨rfl, bl hB5 hb6⟩
theorem packetTakes_walk (s : ByteArray) (w : World) (_hs : s.size ≤ 140737488351232) : Calls Try.prog 4 #[.string s] w (Yes w) := by
  by_cases h : 1000 < s.size
  · exact packetTakes_in (s.extract 0 1000) (by rw [pre_size _ _ (by omega)]; omega) s w (.inl ⟨h, rfl⟩)
  · exact packetTakes_in s (by omega) s w (.inr ⟨by omega, rfl⟩)
end Go.Proofs.Ytfkbcmmhpopdnaa
