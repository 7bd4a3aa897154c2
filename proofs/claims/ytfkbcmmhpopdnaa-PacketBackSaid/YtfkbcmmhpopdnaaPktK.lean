/-
  The walk of the law PacketBack.
-/
import Derived.Test.YtfkbcmmhpopdnaaPktN
namespace Go.Proofs.Ytfkbcmmhpopdnaa
open Go.RowKit

set_option maxRecDepth 20000 in
set_option maxHeartbeats 8000000 in
theorem packetBack_walk (kind fr seq id i n : Int) (text : ByteArray) (A : Option Addr) (pn pc : Nat) (P : List ByteArray) (c : Int) (w : World) (hP : P.length = pn) (hpc : pn ≤ pc) (hn : pn ≤ 9223372036854775807) (hr : Rd w A (P.map Value.string)) (hc0 : 0 ≤ c) (hc1 : c ≤ 255) :
    Calls Try.prog 5 #[.agg #[.int .i64 kind, .int .i64 fr, .int .i64 seq, .int .i64 id, .int .i64 i, .int .i64 n, .string text, .slice A pn pc], .int .u8 c] w (Yes w) := by
  have HP := Lib.hid hP
  clear hP
  have hB := (Below.refl w.heap.size w).alloc (Nat.le_refl _) (.cells #[.int .i64 kind, .int .i64 fr, .int .i64 seq, .int .i64 id, .int .i64 i, .int .i64 n, .string text, .slice A pn pc] 24)
  have hG : BkP (w.alloc (.cells #[.int .i64 kind, .int .i64 fr, .int .i64 seq, .int .i64 id, .int .i64 i, .int .i64 n, .string text, .slice A pn pc] 24)) w.heap.size kind fr seq id i n text A pn pc := Bk.new _ _ _
  have hr0 := hr.below hB
  clear hr
  go_enter Try.func5, Try.ntmps5
  go_wp2_with fail
  generalize w.alloc (.cells #[.int .i64 kind, .int .i64 fr, .int .i64 seq, .int .i64 id, .int .i64 i, .int .i64 n, .string text, .slice A pn pc] 24) = w1 at *
  refine (light_any kind fr seq id i n text A pn pc P _ HP.out hr0 hn).mono ?_
  rintro e w2 ⟨l, rfl, hl, hb2⟩
  have hB2 := bl hB hb2
  have hG2 : BkP w2 w.heap.size kind fr seq id i n text A pn pc := Bk.below' hG hb2
  have hr2 := hr0.below hb2
  clear hB hG hr0 hb2
  cases l with
  | false =>
    clear hl
    go_wp2_with fail
    (with_reducible refine (awakeK_any _).mono ?_)
    rintro e w3 ⟨rfl, hb3⟩
    go_wp2_with fail
    go_ret
    exact ⟨rfl, bl hB2 hb3⟩
  | true =>
    have ht := hl rfl
    clear hl
    obtain ⟨g0, g1, g2, g3, g4, g5, g6, g7⟩ := hG2.cells
    cases hok : pktOk kind fr seq id i n text P with
    | false =>
      have Hok := Lib.hid hok
      clear hok
      go_wp2_with fail
      (with_reducible refine (pput_b kind fr seq id i n text A pn pc P false ⟨#[]⟩ 1 _ Hok.out rfl rfl HP.out hpc hr2 ht hn).mono ?_)
      rintro e w3 ⟨rfl, hb3⟩
      have hB3 := bl hB2 hb3
      clear hB2 hG2 hr2 hb3 g0 g1 g2 g3 g4 g5 g6 g7
      go_wp2_with fail
      (with_reducible refine (awakeK_any _).mono ?_)
      rintro e w6 ⟨rfl, hb6⟩
      go_wp2_with fail
      go_ret
      exact ⟨rfl, bl hB3 hb6⟩
    | true =>
      obtain ⟨S, hS⟩ : ∃ S, pktS kind fr seq id i n text P = S := ⟨_, rfl⟩
      have hsz := pkt_size hok
      rw [hS] at hsz
      obtain ⟨hsz1, hsz2⟩ := hsz
      obtain ⟨T1, hT1⟩ : ∃ T, S ++ ofL [byteOf c] = T := ⟨_, rfl⟩
      obtain ⟨T2, hT2⟩ : ∃ T, S.extract 0 (S.size - 1) = T := ⟨_, rfl⟩
      have HN1 := Lib.hid (put_no_more hok hS c hT1)
      have HN2 := Lib.hid (put_no_less hok hS hT2)
      have hz1 : T1.size ≤ 1000 := by rw [← hT1, ByteArray.size_append, size_ofL]; simp; omega
      have hz2 : T2.size ≤ 1000 := by rw [← hT2, pre_size _ _ (by omega)]; omega
      have m1 : ¬ (9223372036854775807 < S.size + (ofL [byteOf c]).size) := by rw [size_ofL]; simp; omega
      have hso : (ofL [byteOf c]).size = 1 := size_ofL _
      have m2 : ¬ (9223372036854775807 < S.size + 1) := by omega
      have Hok := Lib.hid hok
      have HS := Lib.hid hS
      clear hok hS
      have htn : (S.size : Int) - 1 = ((S.size - 1 : Nat) : Int) := by omega
      go_wp2_with fail
      (with_reducible refine (pput_k kind fr seq id i n text A pn pc P S HS.out _ Hok.out HP.out hpc hr2 ht hn).mono ?_)
      rintro e w3 ⟨rfl, hb3⟩
      have hB3 := bl hB2 hb3
      have hG3 : BkP w3 w.heap.size kind fr seq id i n text A pn pc := Bk.below' hG2 hb3
      have hr3 := hr2.below hb3
      clear hB2 hG2 hr2 hb3 g0 g1 g2 g3 g4 g5 g6 g7
      go_wp2_with fail
      (with_reducible refine (take_is kind fr seq id i n text P pn S _ Hok.out HS.out HP.out (by omega)).mono ?_)
      rintro e w4 ⟨A2, pd, rfl, hpd, hq4, hb4⟩
      have hB4 := bl hB3 hb4
      have hG4 : BkP w4 w.heap.size kind fr seq id i n text A pn pc := Bk.below' hG3 hb4
      have hr4 := hr3.below hb4
      clear hB3 hG3 hr3 hb4
      have hQ5 : BkP (w4.alloc (.cells #[.int .i64 kind, .int .i64 fr, .int .i64 seq, .int .i64 id, .int .i64 i, .int .i64 n, .string text, .slice A2 pn pd] 24)) w4.heap.size kind fr seq id i n text A2 pn pd := Bk.new _ _ _
      have hbs := (Below.refl w4.heap.size w4).alloc (Nat.le_refl _) (.cells #[.int .i64 kind, .int .i64 fr, .int .i64 seq, .int .i64 id, .int .i64 i, .int .i64 n, .string text, .slice A2 pn pd] 24)
      have hB5 := bl hB4 hbs
      have hG5 : BkP (w4.alloc (.cells #[.int .i64 kind, .int .i64 fr, .int .i64 seq, .int .i64 id, .int .i64 i, .int .i64 n, .string text, .slice A2 pn pd] 24)) w.heap.size kind fr seq id i n text A pn pc := Bk.below' hG4 hbs
      have hr5 := hr4.below hbs
      have hq5 := hq4.below hbs
      clear hB4 hG4 hr4 hq4 hbs
      go_upto_region 7 with (fail)
      generalize w4.alloc (.cells #[.int .i64 kind, .int .i64 fr, .int .i64 seq, .int .i64 id, .int .i64 i, .int .i64 n, .string text, .slice A2 pn pd] 24) = w5 at *
      generalize w4.heap.size = Q at *
      have hcv := conv_one w5 c hc0 hc1
      go_wp2_with fail
      have hbs := (Below.refl w5.heap.size w5).alloc (Nat.le_refl _) (.cells #[.int .u8 c] 5)
      (with_reducible refine (take_no T1 _ HN1.out hz1).mono ?_)
      rintro e w6 ⟨rfl, hb6⟩
      have hb56 := bl hbs hb6
      have hB6 := bl hB5 hb56
      have hG6 : BkP w6 w.heap.size kind fr seq id i n text A pn pc := Bk.below' hG5 hb56
      have hQ6 : BkP w6 Q kind fr seq id i n text A2 pn pd := Bk.below' hQ5 hb56
      have hr6 := hr5.below hb56
      have hq6 := hq5.below hb56
      clear hB5 hG5 hr5 hq5 hQ5 hbs hb6 hb56 hcv
      have hbs := (Below.refl w6.heap.size w6).alloc (Nat.le_refl _) (.cells #[.int .i64 0, .int .i64 0, .int .i64 0, .int .i64 0, .int .i64 0, .int .i64 0, .string ⟨#[]⟩, .slice none 0 0] 24)
      have hB7 := bl hB6 hbs
      have hG7 : BkP (w6.alloc (.cells #[.int .i64 0, .int .i64 0, .int .i64 0, .int .i64 0, .int .i64 0, .int .i64 0, .string ⟨#[]⟩, .slice none 0 0] 24)) w.heap.size kind fr seq id i n text A pn pc := Bk.below' hG6 hbs
      have hQ7 : BkP (w6.alloc (.cells #[.int .i64 0, .int .i64 0, .int .i64 0, .int .i64 0, .int .i64 0, .int .i64 0, .string ⟨#[]⟩, .slice none 0 0] 24)) Q kind fr seq id i n text A2 pn pd := Bk.below' hQ6 hbs
      have hr7 := hr6.below hbs
      have hq7 := hq6.below hbs
      clear hB6 hG6 hr6 hq6 hQ6 hbs
      go_upto_region 8 with (fail)
      generalize w6.alloc (.cells #[.int .i64 0, .int .i64 0, .int .i64 0, .int .i64 0, .int .i64 0, .int .i64 0, .string ⟨#[]⟩, .slice none 0 0] 24) = w7 at *
      go_wp2_with fail
      (with_reducible refine (take_no T2 _ HN2.out hz2).mono ?_)
      rintro e w8 ⟨rfl, hb8⟩
      have hB8 := bl hB7 hb8
      have hG8 : BkP w8 w.heap.size kind fr seq id i n text A pn pc := Bk.below' hG7 hb8
      have hQ8 : BkP w8 Q kind fr seq id i n text A2 pn pd := Bk.below' hQ7 hb8
      have hr8 := hr7.below hb8
      have hq8 := hq7.below hb8
      clear hB7 hG7 hr7 hq7 hQ7 hb8
      have hbs := (Below.refl w8.heap.size w8).alloc (Nat.le_refl _) (.cells #[.int .i64 0, .int .i64 0, .int .i64 0, .int .i64 0, .int .i64 0, .int .i64 0, .string ⟨#[]⟩, .slice none 0 0] 24)
      have hB9 := bl hB8 hbs
      have hG9 : BkP (w8.alloc (.cells #[.int .i64 0, .int .i64 0, .int .i64 0, .int .i64 0, .int .i64 0, .int .i64 0, .string ⟨#[]⟩, .slice none 0 0] 24)) w.heap.size kind fr seq id i n text A pn pc := Bk.below' hG8 hbs
      have hQ9 : BkP (w8.alloc (.cells #[.int .i64 0, .int .i64 0, .int .i64 0, .int .i64 0, .int .i64 0, .int .i64 0, .string ⟨#[]⟩, .slice none 0 0] 24)) Q kind fr seq id i n text A2 pn pd := Bk.below' hQ8 hbs
      have hr9 := hr8.below hbs
      have hq9 := hq8.below hbs
      clear hB8 hG8 hr8 hq8 hQ8 hbs
      go_upto_region 11 with (fail)
      generalize w8.alloc (.cells #[.int .i64 0, .int .i64 0, .int .i64 0, .int .i64 0, .int .i64 0, .int .i64 0, .string ⟨#[]⟩, .slice none 0 0] 24) = w9 at *
      obtain ⟨g0, g1, g2, g3, g4, g5, g6, g7⟩ := hG9.cells
      obtain ⟨q0, q1, q2, q3, q4, q5, q6, q7⟩ := hQ9.cells
      go_wp2_with fail
      (with_reducible refine (sameK_any kind fr seq id i n text A pn pc A2 pd P _ HP.out hr9 hq9 hn).mono ?_)
      rintro e wa ⟨rfl, hba⟩
      have hBa := bl hB9 hba
      clear hG9 hQ9 hr9 hq9 hba hB9 g0 g1 g2 g3 g4 g5 g6 g7 q0 q1 q2 q3 q4 q5 q6 q7
      go_wp2_with fail
      (with_reducible refine (awakeK_any _).mono ?_)
      rintro e wb ⟨rfl, hbb⟩
      go_wp2_with fail
      go_ret
      exact ⟨rfl, bl hBa hbb⟩
end Go.Proofs.Ytfkbcmmhpopdnaa
