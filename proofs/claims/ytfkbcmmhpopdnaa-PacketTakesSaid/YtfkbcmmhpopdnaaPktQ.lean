/-
  Packets: their bytes, the reference's Put.
-/
import Derived.Test.YtfkbcmmhpopdnaaPktP
import Derived.Test.YtfkbcmmhpopdnaaPktM
namespace Go.Proofs.Ytfkbcmmhpopdnaa
open Go.RowKit

theorem ok_sz {fr seq id i n : Int} {text : ByteArray} {P : List ByteArray} (h : pktOk 2 fr seq id i n text P = true) : szB P = true := by
  rw [ok_2, Bool.and_eq_true, Bool.and_eq_true] at h
  exact (of_decide_eq_true h.2.2).2.2.2.2.2.2
theorem szB_at {P : List ByteArray} {k : Nat} {x : ByteArray} (h : szB P = true) (hx : P[k]? = some x) : x.size = 32 := by
  unfold szB at h
  exact of_decide_eq_true (List.all_eq_true.1 h x (List.mem_of_getElem? hx))
theorem cat_take {P : List ByteArray} {k : Nat} {x : ByteArray} (hx : P[k]? = some x) : cat (P.take (k + 1)) = cat (P.take k) ++ x.toList := by
  rw [List.take_add_one, hx, Option.toList_some, cat_snoc]

set_option maxRecDepth 20000 in
theorem pputR_bad (kind fr seq id i n : Int) (text : ByteArray) (A : Option Addr) (pn pc : Nat) (P : List ByteArray) (w : World) (hb : pktOk kind fr seq id i n text P = false) (hP : P.length = pn) (hr : Rd w A (P.map Value.string)) (ht : text.size ≤ 9223372036854775807) (hn : pn ≤ 9223372036854775807) :
    Calls Try.prog 10 #[.agg #[.int .i64 kind, .int .i64 fr, .int .i64 seq, .int .i64 id, .int .i64 i, .int .i64 n, .string text, .slice A pn pc]] w (PutEnd w ⟨#[]⟩ 1) := by
  have Hb := Lib.hid hb
  have HP := Lib.hid hP
  clear hb hP
  have hB := (Below.refl w.heap.size w).alloc (Nat.le_refl _) (.cells #[.int .i64 kind, .int .i64 fr, .int .i64 seq, .int .i64 id, .int .i64 i, .int .i64 n, .string text, .slice A pn pc] 24)
  have hr0 := hr.below hB
  clear hr
  go_enter Try.func10, Try.ntmps10
  go_wp2_with fail
  (with_reducible refine (pmay_any kind fr seq id i n text A pn pc P false _ Hb.out HP.out hr0 ht hn).mono ?_)
  rintro e w1 ⟨rfl, hb1⟩
  go_wp2_with fail
  go_ret2
  exact ⟨rfl, bl hB hb1⟩

set_option maxRecDepth 20000 in
set_option maxHeartbeats 4000000 in
theorem pputR_1 (fr seq id i n : Int) (text : ByteArray) (A : Option Addr) (pn pc : Nat) (P : List ByteArray) (w : World) (hb : pktOk 1 fr seq id i n text P = true) (hP : P.length = pn) (hpc : pn ≤ pc) (hr : Rd w A (P.map Value.string)) (ht : text.size ≤ 1000) (hn : pn ≤ 9223372036854775807) :
    Calls Try.prog 10 #[.agg #[.int .i64 1, .int .i64 fr, .int .i64 seq, .int .i64 id, .int .i64 i, .int .i64 n, .string text, .slice A pn pc]] w (PutEnd w (pktS 1 fr seq id i n text P) 0) := by
  have Hb := Lib.hid hb
  have HP := Lib.hid hP
  have hpl := ok_proof hb
  rw [hP] at hpl
  have hpl1 := hpl.1
  have hpl2 := hpl.2
  clear hb hP hpl
  obtain ⟨S, hS⟩ : ∃ S, pktS 1 fr seq id i n text P = S := ⟨_, rfl⟩
  rw [hS]
  have zt1 := be1_size 1
  have zt4 := be4_size fr
  have z0 : (⟨#[83, 76, 80, 49]⟩ : ByteArray).size = 4 := rfl
  obtain ⟨c1, ec1⟩ : ∃ c, (⟨#[83, 76, 80, 49]⟩ : ByteArray) ++ ofL (be 1 1) = c := ⟨_, rfl⟩
  have kc1 : c1.size ≤ 5 := by rw [← ec1, ByteArray.size_append]; omega
  have mc1 : ¬ (9223372036854775807 < ((⟨#[83, 76, 80, 49]⟩ : ByteArray)).size + (ofL (be 1 1)).size) := by omega
  obtain ⟨c2, ec2⟩ : ∃ c, c1 ++ ofL (be fr 4) = c := ⟨_, rfl⟩
  have kc2 : c2.size ≤ 9 := by rw [← ec2, ByteArray.size_append]; omega
  have mc2 : ¬ (9223372036854775807 < (c1).size + (ofL (be fr 4)).size) := by omega
  have mc1b : ¬ (9223372036854775807 < 4 + (ofL (be 1 1)).size) := by omega
  obtain ⟨d1, ed1⟩ : ∃ c, c2 ++ text = c := ⟨_, rfl⟩
  have kd1 : d1.size ≤ 1009 := by rw [← ed1, ByteArray.size_append]; omega
  have md1 : ¬ (9223372036854775807 < (c2).size + (text).size) := by omega
  have E := Lib.hid (show S = d1 by rw [← hS, pktS, if_pos rfl, pktH, ec1, ec2, ed1])
  clear z0 zt1 zt4 kc1 kc2 kd1 hS
  have hB := (Below.refl w.heap.size w).alloc (Nat.le_refl _) (.cells #[.int .i64 1, .int .i64 fr, .int .i64 seq, .int .i64 id, .int .i64 i, .int .i64 n, .string text, .slice A pn pc] 24)
  have hG : Bk (w.alloc (.cells #[.int .i64 1, .int .i64 fr, .int .i64 seq, .int .i64 id, .int .i64 i, .int .i64 n, .string text, .slice A pn pc] 24)) w.heap.size 24 #[.int .i64 1, .int .i64 fr, .int .i64 seq, .int .i64 id, .int .i64 i, .int .i64 n, .string text, .slice A pn pc] := Bk.new _ _ _
  have hr0 := hr.below hB
  clear hr
  go_enter Try.func10, Try.ntmps10
  go_wp2_with fail
  (with_reducible refine (pmay_any 1 fr seq id i n text A pn pc P true _ Hb.out HP.out hr0 (by omega) hn).mono ?_)
  rintro e w1 ⟨rfl, hb1⟩
  have hB1 := bl hB hb1
  have hG1 := PHeld.mk_ (hG.below' hb1) (hr0.below hb1)
  clear hB hG hr0 hb1
  have hG1' := hG1
  obtain ⟨hx1, g0, g1, g2, g3, g4, g5, g6, g7, hx2⟩ := hG1'
  clear hx1 hx2
  go_upto_region 3 with (fail)
  clear g0 g1 g2 g3 g4 g5 g6 g7
  have hcw := PHeld.drew hG1
  unfold PHeld at hcw
  go_region_held3 (fun w' => Below w1.heap.size w1 w' ∧ w'.cell? ⟨w.heap.size, 0, none⟩ = some (.int .i64 1) ∧ w'.cell? ⟨w.heap.size, 1, none⟩ = some (.int .i64 fr) ∧ w'.cell? ⟨w.heap.size, 2, none⟩ = some (.int .i64 seq) ∧ w'.cell? ⟨w.heap.size, 3, none⟩ = some (.int .i64 id) ∧ w'.cell? ⟨w.heap.size, 4, none⟩ = some (.int .i64 i) ∧ w'.cell? ⟨w.heap.size, 5, none⟩ = some (.int .i64 n) ∧ w'.cell? ⟨w.heap.size, 6, none⟩ = some (.string text) ∧ w'.cell? ⟨w.heap.size, 7, none⟩ = some (.slice A pn pc) ∧ Rd w' A (P.map Value.string)) (first | exact hcw | assumption)
    (first
      | (go_at_call 18; with_reducible refine (fixedR4 _ _).mono ?_; rintro e w3 ⟨rfl, hb3⟩; have hX := held9 hb3 (by assumption))
      | (go_at_call 18; with_reducible refine (fixedR2 _ _).mono ?_; rintro e w3 ⟨rfl, hb3⟩; have hX := held9 hb3 (by assumption))
      | (go_at_call 18; with_reducible refine (fixedR1 _ _).mono ?_; rintro e w3 ⟨rfl, hb3⟩; have hX := held9 hb3 (by assumption)))
  clear hG1
  go_wp2_with fail
  go_ret2
  exact ⟨by rw [E.out]; rfl, bl hB1 (And.left (by assumption))⟩

set_option maxRecDepth 20000 in
set_option maxHeartbeats 4000000 in
theorem pputR_2 (fr seq id i n : Int) (text : ByteArray) (A : Option Addr) (pn pc : Nat) (P : List ByteArray) (w : World) (hb : pktOk 2 fr seq id i n text P = true) (hP : P.length = pn) (hpc : pn ≤ pc) (hr : Rd w A (P.map Value.string)) (ht : text.size ≤ 1000) (hn : pn ≤ 9223372036854775807) :
    Calls Try.prog 10 #[.agg #[.int .i64 2, .int .i64 fr, .int .i64 seq, .int .i64 id, .int .i64 i, .int .i64 n, .string text, .slice A pn pc]] w (PutEnd w (pktS 2 fr seq id i n text P) 0) := by
  have Hb := Lib.hid hb
  have HP := Lib.hid hP
  have hpl := ok_proof hb
  rw [hP] at hpl
  have hpl1 := hpl.1
  have hpl2 := hpl.2
  clear hb hP hpl
  obtain ⟨S, hS⟩ : ∃ S, pktS 2 fr seq id i n text P = S := ⟨_, rfl⟩
  rw [hS]
  have zt1 := be1_size 2
  have zt4 := be4_size fr
  have z0 : (⟨#[83, 76, 80, 49]⟩ : ByteArray).size = 4 := rfl
  obtain ⟨c1, ec1⟩ : ∃ c, (⟨#[83, 76, 80, 49]⟩ : ByteArray) ++ ofL (be 2 1) = c := ⟨_, rfl⟩
  have kc1 : c1.size ≤ 5 := by rw [← ec1, ByteArray.size_append]; omega
  have mc1 : ¬ (9223372036854775807 < ((⟨#[83, 76, 80, 49]⟩ : ByteArray)).size + (ofL (be 2 1)).size) := by omega
  obtain ⟨c2, ec2⟩ : ∃ c, c1 ++ ofL (be fr 4) = c := ⟨_, rfl⟩
  have kc2 : c2.size ≤ 9 := by rw [← ec2, ByteArray.size_append]; omega
  have mc2 : ¬ (9223372036854775807 < (c1).size + (ofL (be fr 4)).size) := by omega
  have mc1b : ¬ (9223372036854775807 < 4 + (ofL (be 2 1)).size) := by omega
  have zi := be4_size id
  have zj := be2_size i
  have zp := be1_size (pn : Int)
  obtain ⟨d1, ed1⟩ : ∃ c, c2 ++ ofL (be id 4) = c := ⟨_, rfl⟩
  have kd1 : d1.size ≤ 13 := by rw [← ed1, ByteArray.size_append]; omega
  have md1 : ¬ (9223372036854775807 < (c2).size + (ofL (be id 4)).size) := by omega
  obtain ⟨d2, ed2⟩ : ∃ c, d1 ++ ofL (be i 2) = c := ⟨_, rfl⟩
  have kd2 : d2.size ≤ 15 := by rw [← ed2, ByteArray.size_append]; omega
  have md2 : ¬ (9223372036854775807 < (d1).size + (ofL (be i 2)).size) := by omega
  obtain ⟨d3, ed3⟩ : ∃ c, d2 ++ text = c := ⟨_, rfl⟩
  have kd3 : d3.size ≤ 1015 := by rw [← ed3, ByteArray.size_append]; omega
  have md3 : ¬ (9223372036854775807 < (d2).size + (text).size) := by omega
  obtain ⟨d4, ed4⟩ : ∃ c, d3 ++ ofL (be (pn : Int) 1) = c := ⟨_, rfl⟩
  have kd4 : d4.size ≤ 1016 := by rw [← ed4, ByteArray.size_append]; omega
  have md4 : ¬ (9223372036854775807 < (d3).size + (ofL (be (pn : Int) 1)).size) := by omega
  have E := Lib.hid (show S = d4 ++ ofL (cat P) by rw [← hS, pktS, if_neg (by decide), if_pos rfl, HP.out, pktH, ec1, ec2, ed1, ed2, ed3, ed4])
  have HZ := Lib.hid (ok_sz Hb.out)
  clear z0 zt1 zt4 kc1 kc2 kd1 kd2 kd3 zi zj zp hS
  have hB := (Below.refl w.heap.size w).alloc (Nat.le_refl _) (.cells #[.int .i64 2, .int .i64 fr, .int .i64 seq, .int .i64 id, .int .i64 i, .int .i64 n, .string text, .slice A pn pc] 24)
  have hG : Bk (w.alloc (.cells #[.int .i64 2, .int .i64 fr, .int .i64 seq, .int .i64 id, .int .i64 i, .int .i64 n, .string text, .slice A pn pc] 24)) w.heap.size 24 #[.int .i64 2, .int .i64 fr, .int .i64 seq, .int .i64 id, .int .i64 i, .int .i64 n, .string text, .slice A pn pc] := Bk.new _ _ _
  have hr0 := hr.below hB
  clear hr
  go_enter Try.func10, Try.ntmps10
  go_wp2_with fail
  (with_reducible refine (pmay_any 2 fr seq id i n text A pn pc P true _ Hb.out HP.out hr0 (by omega) hn).mono ?_)
  rintro e w1 ⟨rfl, hb1⟩
  have hB1 := bl hB hb1
  have hG1 := PHeld.mk_ (hG.below' hb1) (hr0.below hb1)
  clear hB hG hr0 hb1
  have hG1' := hG1
  obtain ⟨hx1, g0, g1, g2, g3, g4, g5, g6, g7, hx2⟩ := hG1'
  clear hx1 hx2
  go_upto_region 3 with (fail)
  clear g0 g1 g2 g3 g4 g5 g6 g7
  have hcw := PHeld.drew hG1
  unfold PHeld at hcw
  go_region_held3 (fun w' => Below w1.heap.size w1 w' ∧ w'.cell? ⟨w.heap.size, 0, none⟩ = some (.int .i64 2) ∧ w'.cell? ⟨w.heap.size, 1, none⟩ = some (.int .i64 fr) ∧ w'.cell? ⟨w.heap.size, 2, none⟩ = some (.int .i64 seq) ∧ w'.cell? ⟨w.heap.size, 3, none⟩ = some (.int .i64 id) ∧ w'.cell? ⟨w.heap.size, 4, none⟩ = some (.int .i64 i) ∧ w'.cell? ⟨w.heap.size, 5, none⟩ = some (.int .i64 n) ∧ w'.cell? ⟨w.heap.size, 6, none⟩ = some (.string text) ∧ w'.cell? ⟨w.heap.size, 7, none⟩ = some (.slice A pn pc) ∧ Rd w' A (P.map Value.string)) (first | exact hcw | assumption)
    (first
      | (go_at_call 18; with_reducible refine (fixedR4 _ _).mono ?_; rintro e w3 ⟨rfl, hb3⟩; have hX := held9 hb3 (by assumption))
      | (go_at_call 18; with_reducible refine (fixedR2 _ _).mono ?_; rintro e w3 ⟨rfl, hb3⟩; have hX := held9 hb3 (by assumption))
      | (go_at_call 18; with_reducible refine (fixedR1 _ _).mono ?_; rintro e w3 ⟨rfl, hb3⟩; have hX := held9 hb3 (by assumption)))
  clear hG1
  have hq := hX
  clear hcw hb3 hX
  obtain ⟨wq, rfl⟩ : ∃ wq : World, wq = w3 := ⟨_, rfl⟩
  have hB2 := bl hB1 hq.1
  have hcw : PHeld wq w.heap.size 2 fr seq id i n text A pn pc P wq := ⟨Below.refl _ _, hq.2⟩
  obtain ⟨hx1, g0, g1, g2, g3, g4, g5, g6, g7, hx2⟩ := hq
  clear hx1 hx2 hB1
  have hB1 := hB2
  clear hB2
  go_upto_region 7 with (fail)
  clear g0 g1 g2 g3 g4 g5 g6 g7
  have hcw := PHeld.drew hcw
  unfold PHeld at hcw
  go_region_held3 (fun w' => Below wq.heap.size wq w' ∧ w'.cell? ⟨w.heap.size, 0, none⟩ = some (.int .i64 2) ∧ w'.cell? ⟨w.heap.size, 1, none⟩ = some (.int .i64 fr) ∧ w'.cell? ⟨w.heap.size, 2, none⟩ = some (.int .i64 seq) ∧ w'.cell? ⟨w.heap.size, 3, none⟩ = some (.int .i64 id) ∧ w'.cell? ⟨w.heap.size, 4, none⟩ = some (.int .i64 i) ∧ w'.cell? ⟨w.heap.size, 5, none⟩ = some (.int .i64 n) ∧ w'.cell? ⟨w.heap.size, 6, none⟩ = some (.string text) ∧ w'.cell? ⟨w.heap.size, 7, none⟩ = some (.slice A pn pc) ∧ Rd w' A (P.map Value.string)) (first | exact hcw | assumption)
    (first
      | (go_at_call 18; with_reducible refine (fixedR4 _ _).mono ?_; rintro e w3 ⟨rfl, hb3⟩; have hX := held9 hb3 (by assumption))
      | (go_at_call 18; with_reducible refine (fixedR2 _ _).mono ?_; rintro e w3 ⟨rfl, hb3⟩; have hX := held9 hb3 (by assumption))
      | (go_at_call 18; with_reducible refine (fixedR1 _ _).mono ?_; rintro e w3 ⟨rfl, hb3⟩; have hX := held9 hb3 (by assumption)))
  have hq := hX
  clear hcw hb3 hX
  obtain ⟨wq, rfl⟩ : ∃ wq : World, wq = w3 := ⟨_, rfl⟩
  have hB2 := bl hB1 hq.1
  have hcw : PHeld wq w.heap.size 2 fr seq id i n text A pn pc P wq := ⟨Below.refl _ _, hq.2⟩
  obtain ⟨hx1, g0, g1, g2, g3, g4, g5, g6, g7, hx2⟩ := hq
  clear hx1 hx2 hB1
  have hB1 := hB2
  clear hB2
  have hrd : Rd wq A (P.map Value.string) := hcw.2.2.2.2.2.2.2.2.2
  clear g0 g1 g2 g3 g4 g5 g6 hcw
  go_wp2_with fail
  go_loop [4, 5] (fun t x => ∃ (k : Nat) (T : ByteArray), k ≤ pn ∧ x = .int .i64 k ∧ t = .string T ∧ Hid (T.toList = d4.toList ++ cat (P.take k)) ∧ T.size ≤ 2000 + 32 * k) (fun _ x => pn - (intOf x).toNat)
  case atStart => exact ⟨0, d4, by omega, rfl, rfl, Lib.hid (by simp [cat]), by omega⟩
  case round =>
    obtain ⟨k, T, hk, rfl, rfl, hT, hTs⟩ := hrel
    by_cases hlt : k < pn
    · obtain ⟨b0, o0, rfl, hcell⟩ := hrd.at_ (k := k) (by rw [List.length_map, HP.out]; exact hlt)
      obtain ⟨x, hx⟩ : ∃ x, P[k]? = some x := ⟨_, List.getElem?_eq_getElem (by rw [HP.out]; exact hlt)⟩
      have hcell' : wq.cell? ⟨b0, o0 + k, none⟩ = some (.string x) := by
        rw [hcell, List.getElem_map]
        congr 2
        exact Option.some.inj ((List.getElem?_eq_getElem _).symm.trans hx)
      have hz := szB_at HZ.out hx
      obtain ⟨T2, e2⟩ : ∃ c, T ++ x = c := ⟨_, rfl⟩
      have H2 := Lib.hid (show T2.toList = d4.toList ++ cat (P.take (k + 1)) by rw [← e2, toList_app, hT.out, cat_take hx, List.append_assoc])
      have hs2 : T2.size ≤ 2000 + 32 * (k + 1) := by rw [← e2, ByteArray.size_append]; omega
      have m2 : ¬ (9223372036854775807 < T.size + x.size) := by omega
      clear hcell hx hz hT
      go_wp2_with fail
      go_round
      case rel => exact ⟨k + 1, T2, by omega, by go_num, rfl, H2, hs2⟩
      case measure => simp [intOf]; omega
    · obtain rfl : k = pn := by omega
      have HR := Lib.hid (show T = S by
        rw [E.out]
        refine str_eq ?_
        rw [hT.out, toList_app, toList_ofL, List.take_of_length_le (by rw [HP.out]; exact Nat.le_refl _)])
      clear hT
      go_wp2_with fail
      go_ret2
      exact ⟨by rw [← HR.out]; rfl, hB1⟩

set_option maxRecDepth 20000 in
set_option maxHeartbeats 4000000 in
theorem pputR_3 (fr seq id i n : Int) (text : ByteArray) (A : Option Addr) (pn pc : Nat) (P : List ByteArray) (w : World) (hb : pktOk 3 fr seq id i n text P = true) (hP : P.length = pn) (hpc : pn ≤ pc) (hr : Rd w A (P.map Value.string)) (ht : text.size ≤ 1000) (hn : pn ≤ 9223372036854775807) :
    Calls Try.prog 10 #[.agg #[.int .i64 3, .int .i64 fr, .int .i64 seq, .int .i64 id, .int .i64 i, .int .i64 n, .string text, .slice A pn pc]] w (PutEnd w (pktS 3 fr seq id i n text P) 0) := by
  have Hb := Lib.hid hb
  have HP := Lib.hid hP
  have hpl := ok_proof hb
  rw [hP] at hpl
  have hpl1 := hpl.1
  have hpl2 := hpl.2
  clear hb hP hpl
  obtain ⟨S, hS⟩ : ∃ S, pktS 3 fr seq id i n text P = S := ⟨_, rfl⟩
  rw [hS]
  have zt1 := be1_size 3
  have zt4 := be4_size fr
  have z0 : (⟨#[83, 76, 80, 49]⟩ : ByteArray).size = 4 := rfl
  obtain ⟨c1, ec1⟩ : ∃ c, (⟨#[83, 76, 80, 49]⟩ : ByteArray) ++ ofL (be 3 1) = c := ⟨_, rfl⟩
  have kc1 : c1.size ≤ 5 := by rw [← ec1, ByteArray.size_append]; omega
  have mc1 : ¬ (9223372036854775807 < ((⟨#[83, 76, 80, 49]⟩ : ByteArray)).size + (ofL (be 3 1)).size) := by omega
  obtain ⟨c2, ec2⟩ : ∃ c, c1 ++ ofL (be fr 4) = c := ⟨_, rfl⟩
  have kc2 : c2.size ≤ 9 := by rw [← ec2, ByteArray.size_append]; omega
  have mc2 : ¬ (9223372036854775807 < (c1).size + (ofL (be fr 4)).size) := by omega
  have mc1b : ¬ (9223372036854775807 < 4 + (ofL (be 3 1)).size) := by omega
  have zs := be4_size seq
  have zi := be4_size id
  have zj := be2_size i
  have zn := be2_size n
  obtain ⟨d1, ed1⟩ : ∃ c, c2 ++ ofL (be seq 4) = c := ⟨_, rfl⟩
  have kd1 : d1.size ≤ 13 := by rw [← ed1, ByteArray.size_append]; omega
  have md1 : ¬ (9223372036854775807 < (c2).size + (ofL (be seq 4)).size) := by omega
  obtain ⟨d2, ed2⟩ : ∃ c, d1 ++ ofL (be id 4) = c := ⟨_, rfl⟩
  have kd2 : d2.size ≤ 17 := by rw [← ed2, ByteArray.size_append]; omega
  have md2 : ¬ (9223372036854775807 < (d1).size + (ofL (be id 4)).size) := by omega
  obtain ⟨d3, ed3⟩ : ∃ c, d2 ++ ofL (be i 2) = c := ⟨_, rfl⟩
  have kd3 : d3.size ≤ 19 := by rw [← ed3, ByteArray.size_append]; omega
  have md3 : ¬ (9223372036854775807 < (d2).size + (ofL (be i 2)).size) := by omega
  obtain ⟨d4, ed4⟩ : ∃ c, d3 ++ ofL (be n 2) = c := ⟨_, rfl⟩
  have kd4 : d4.size ≤ 21 := by rw [← ed4, ByteArray.size_append]; omega
  have md4 : ¬ (9223372036854775807 < (d3).size + (ofL (be n 2)).size) := by omega
  obtain ⟨d5, ed5⟩ : ∃ c, d4 ++ text = c := ⟨_, rfl⟩
  have kd5 : d5.size ≤ 1021 := by rw [← ed5, ByteArray.size_append]; omega
  have md5 : ¬ (9223372036854775807 < (d4).size + (text).size) := by omega
  have E := Lib.hid (show S = d5 by rw [← hS, pktS, if_neg (by decide), if_neg (by decide), if_pos rfl, pktH, ec1, ec2, ed1, ed2, ed3, ed4, ed5])
  clear z0 zt1 zt4 kc1 kc2 kd1 kd2 kd3 kd4 kd5 zs zi zj zn hS
  have hB := (Below.refl w.heap.size w).alloc (Nat.le_refl _) (.cells #[.int .i64 3, .int .i64 fr, .int .i64 seq, .int .i64 id, .int .i64 i, .int .i64 n, .string text, .slice A pn pc] 24)
  have hG : Bk (w.alloc (.cells #[.int .i64 3, .int .i64 fr, .int .i64 seq, .int .i64 id, .int .i64 i, .int .i64 n, .string text, .slice A pn pc] 24)) w.heap.size 24 #[.int .i64 3, .int .i64 fr, .int .i64 seq, .int .i64 id, .int .i64 i, .int .i64 n, .string text, .slice A pn pc] := Bk.new _ _ _
  have hr0 := hr.below hB
  clear hr
  go_enter Try.func10, Try.ntmps10
  go_wp2_with fail
  (with_reducible refine (pmay_any 3 fr seq id i n text A pn pc P true _ Hb.out HP.out hr0 (by omega) hn).mono ?_)
  rintro e w1 ⟨rfl, hb1⟩
  have hB1 := bl hB hb1
  have hG1 := PHeld.mk_ (hG.below' hb1) (hr0.below hb1)
  clear hB hG hr0 hb1
  have hG1' := hG1
  obtain ⟨hx1, g0, g1, g2, g3, g4, g5, g6, g7, hx2⟩ := hG1'
  clear hx1 hx2
  go_upto_region 3 with (fail)
  clear g0 g1 g2 g3 g4 g5 g6 g7
  have hcw := PHeld.drew hG1
  unfold PHeld at hcw
  go_region_held3 (fun w' => Below w1.heap.size w1 w' ∧ w'.cell? ⟨w.heap.size, 0, none⟩ = some (.int .i64 3) ∧ w'.cell? ⟨w.heap.size, 1, none⟩ = some (.int .i64 fr) ∧ w'.cell? ⟨w.heap.size, 2, none⟩ = some (.int .i64 seq) ∧ w'.cell? ⟨w.heap.size, 3, none⟩ = some (.int .i64 id) ∧ w'.cell? ⟨w.heap.size, 4, none⟩ = some (.int .i64 i) ∧ w'.cell? ⟨w.heap.size, 5, none⟩ = some (.int .i64 n) ∧ w'.cell? ⟨w.heap.size, 6, none⟩ = some (.string text) ∧ w'.cell? ⟨w.heap.size, 7, none⟩ = some (.slice A pn pc) ∧ Rd w' A (P.map Value.string)) (first | exact hcw | assumption)
    (first
      | (go_at_call 18; with_reducible refine (fixedR4 _ _).mono ?_; rintro e w3 ⟨rfl, hb3⟩; have hX := held9 hb3 (by assumption))
      | (go_at_call 18; with_reducible refine (fixedR2 _ _).mono ?_; rintro e w3 ⟨rfl, hb3⟩; have hX := held9 hb3 (by assumption))
      | (go_at_call 18; with_reducible refine (fixedR1 _ _).mono ?_; rintro e w3 ⟨rfl, hb3⟩; have hX := held9 hb3 (by assumption)))
  clear hG1
  have hq := hX
  clear hcw hb3 hX
  obtain ⟨wq, rfl⟩ : ∃ wq : World, wq = w3 := ⟨_, rfl⟩
  have hB2 := bl hB1 hq.1
  have hcw : PHeld wq w.heap.size 3 fr seq id i n text A pn pc P wq := ⟨Below.refl _ _, hq.2⟩
  obtain ⟨hx1, g0, g1, g2, g3, g4, g5, g6, g7, hx2⟩ := hq
  clear hx1 hx2 hB1
  have hB1 := hB2
  clear hB2
  go_upto_region 13 with (fail)
  clear g0 g1 g2 g3 g4 g5 g6 g7
  have hcw := PHeld.drew hcw
  unfold PHeld at hcw
  go_region_held3 (fun w' => Below wq.heap.size wq w' ∧ w'.cell? ⟨w.heap.size, 0, none⟩ = some (.int .i64 3) ∧ w'.cell? ⟨w.heap.size, 1, none⟩ = some (.int .i64 fr) ∧ w'.cell? ⟨w.heap.size, 2, none⟩ = some (.int .i64 seq) ∧ w'.cell? ⟨w.heap.size, 3, none⟩ = some (.int .i64 id) ∧ w'.cell? ⟨w.heap.size, 4, none⟩ = some (.int .i64 i) ∧ w'.cell? ⟨w.heap.size, 5, none⟩ = some (.int .i64 n) ∧ w'.cell? ⟨w.heap.size, 6, none⟩ = some (.string text) ∧ w'.cell? ⟨w.heap.size, 7, none⟩ = some (.slice A pn pc) ∧ Rd w' A (P.map Value.string)) (first | exact hcw | assumption)
    (first
      | (go_at_call 18; with_reducible refine (fixedR4 _ _).mono ?_; rintro e w3 ⟨rfl, hb3⟩; have hX := held9 hb3 (by assumption))
      | (go_at_call 18; with_reducible refine (fixedR2 _ _).mono ?_; rintro e w3 ⟨rfl, hb3⟩; have hX := held9 hb3 (by assumption))
      | (go_at_call 18; with_reducible refine (fixedR1 _ _).mono ?_; rintro e w3 ⟨rfl, hb3⟩; have hX := held9 hb3 (by assumption)))
  have hq := hX
  clear hcw hb3 hX
  obtain ⟨wq, rfl⟩ : ∃ wq : World, wq = w3 := ⟨_, rfl⟩
  have hB2 := bl hB1 hq.1
  have hcw : PHeld wq w.heap.size 3 fr seq id i n text A pn pc P wq := ⟨Below.refl _ _, hq.2⟩
  obtain ⟨hx1, g0, g1, g2, g3, g4, g5, g6, g7, hx2⟩ := hq
  clear hx1 hx2 hB1
  have hB1 := hB2
  clear hB2
  go_upto_region 15 with (fail)
  clear g0 g1 g2 g3 g4 g5 g6 g7
  have hcw := PHeld.drew hcw
  unfold PHeld at hcw
  go_region_held3 (fun w' => Below wq.heap.size wq w' ∧ w'.cell? ⟨w.heap.size, 0, none⟩ = some (.int .i64 3) ∧ w'.cell? ⟨w.heap.size, 1, none⟩ = some (.int .i64 fr) ∧ w'.cell? ⟨w.heap.size, 2, none⟩ = some (.int .i64 seq) ∧ w'.cell? ⟨w.heap.size, 3, none⟩ = some (.int .i64 id) ∧ w'.cell? ⟨w.heap.size, 4, none⟩ = some (.int .i64 i) ∧ w'.cell? ⟨w.heap.size, 5, none⟩ = some (.int .i64 n) ∧ w'.cell? ⟨w.heap.size, 6, none⟩ = some (.string text) ∧ w'.cell? ⟨w.heap.size, 7, none⟩ = some (.slice A pn pc) ∧ Rd w' A (P.map Value.string)) (first | exact hcw | assumption)
    (first
      | (go_at_call 18; with_reducible refine (fixedR4 _ _).mono ?_; rintro e w3 ⟨rfl, hb3⟩; have hX := held9 hb3 (by assumption))
      | (go_at_call 18; with_reducible refine (fixedR2 _ _).mono ?_; rintro e w3 ⟨rfl, hb3⟩; have hX := held9 hb3 (by assumption))
      | (go_at_call 18; with_reducible refine (fixedR1 _ _).mono ?_; rintro e w3 ⟨rfl, hb3⟩; have hX := held9 hb3 (by assumption)))
  have hB3 := bl hB1 hX.1
  clear hcw hX hb3
  go_wp2_with fail
  go_ret2
  exact ⟨by rw [E.out]; rfl, hB3⟩

set_option maxRecDepth 20000 in
set_option maxHeartbeats 4000000 in
theorem pputR_4 (fr seq id i n : Int) (text : ByteArray) (A : Option Addr) (pn pc : Nat) (P : List ByteArray) (w : World) (hb : pktOk 4 fr seq id i n text P = true) (hP : P.length = pn) (hpc : pn ≤ pc) (hr : Rd w A (P.map Value.string)) (ht : text.size ≤ 1000) (hn : pn ≤ 9223372036854775807) :
    Calls Try.prog 10 #[.agg #[.int .i64 4, .int .i64 fr, .int .i64 seq, .int .i64 id, .int .i64 i, .int .i64 n, .string text, .slice A pn pc]] w (PutEnd w (pktS 4 fr seq id i n text P) 0) := by
  have Hb := Lib.hid hb
  have HP := Lib.hid hP
  have hpl := ok_proof hb
  rw [hP] at hpl
  have hpl1 := hpl.1
  have hpl2 := hpl.2
  clear hb hP hpl
  obtain ⟨S, hS⟩ : ∃ S, pktS 4 fr seq id i n text P = S := ⟨_, rfl⟩
  rw [hS]
  have zt1 := be1_size 4
  have zt4 := be4_size fr
  have z0 : (⟨#[83, 76, 80, 49]⟩ : ByteArray).size = 4 := rfl
  obtain ⟨c1, ec1⟩ : ∃ c, (⟨#[83, 76, 80, 49]⟩ : ByteArray) ++ ofL (be 4 1) = c := ⟨_, rfl⟩
  have kc1 : c1.size ≤ 5 := by rw [← ec1, ByteArray.size_append]; omega
  have mc1 : ¬ (9223372036854775807 < ((⟨#[83, 76, 80, 49]⟩ : ByteArray)).size + (ofL (be 4 1)).size) := by omega
  obtain ⟨c2, ec2⟩ : ∃ c, c1 ++ ofL (be fr 4) = c := ⟨_, rfl⟩
  have kc2 : c2.size ≤ 9 := by rw [← ec2, ByteArray.size_append]; omega
  have mc2 : ¬ (9223372036854775807 < (c1).size + (ofL (be fr 4)).size) := by omega
  have mc1b : ¬ (9223372036854775807 < 4 + (ofL (be 4 1)).size) := by omega
  have zs := be4_size seq
  have zi := be4_size id
  obtain ⟨d1, ed1⟩ : ∃ c, c2 ++ ofL (be seq 4) = c := ⟨_, rfl⟩
  have kd1 : d1.size ≤ 13 := by rw [← ed1, ByteArray.size_append]; omega
  have md1 : ¬ (9223372036854775807 < (c2).size + (ofL (be seq 4)).size) := by omega
  obtain ⟨d2, ed2⟩ : ∃ c, d1 ++ ofL (be id 4) = c := ⟨_, rfl⟩
  have kd2 : d2.size ≤ 17 := by rw [← ed2, ByteArray.size_append]; omega
  have md2 : ¬ (9223372036854775807 < (d1).size + (ofL (be id 4)).size) := by omega
  obtain ⟨d3, ed3⟩ : ∃ c, d2 ++ text = c := ⟨_, rfl⟩
  have kd3 : d3.size ≤ 1017 := by rw [← ed3, ByteArray.size_append]; omega
  have md3 : ¬ (9223372036854775807 < (d2).size + (text).size) := by omega
  have E := Lib.hid (show S = d3 by rw [← hS, pktS, if_neg (by decide), if_neg (by decide), if_neg (by decide), pktH, ec1, ec2, ed1, ed2, ed3])
  clear z0 zt1 zt4 kc1 kc2 kd1 kd2 kd3 zs zi hS
  have hB := (Below.refl w.heap.size w).alloc (Nat.le_refl _) (.cells #[.int .i64 4, .int .i64 fr, .int .i64 seq, .int .i64 id, .int .i64 i, .int .i64 n, .string text, .slice A pn pc] 24)
  have hG : Bk (w.alloc (.cells #[.int .i64 4, .int .i64 fr, .int .i64 seq, .int .i64 id, .int .i64 i, .int .i64 n, .string text, .slice A pn pc] 24)) w.heap.size 24 #[.int .i64 4, .int .i64 fr, .int .i64 seq, .int .i64 id, .int .i64 i, .int .i64 n, .string text, .slice A pn pc] := Bk.new _ _ _
  have hr0 := hr.below hB
  clear hr
  go_enter Try.func10, Try.ntmps10
  go_wp2_with fail
  (with_reducible refine (pmay_any 4 fr seq id i n text A pn pc P true _ Hb.out HP.out hr0 (by omega) hn).mono ?_)
  rintro e w1 ⟨rfl, hb1⟩
  have hB1 := bl hB hb1
  have hG1 := PHeld.mk_ (hG.below' hb1) (hr0.below hb1)
  clear hB hG hr0 hb1
  have hG1' := hG1
  obtain ⟨hx1, g0, g1, g2, g3, g4, g5, g6, g7, hx2⟩ := hG1'
  clear hx1 hx2
  go_upto_region 3 with (fail)
  clear g0 g1 g2 g3 g4 g5 g6 g7
  have hcw := PHeld.drew hG1
  unfold PHeld at hcw
  go_region_held3 (fun w' => Below w1.heap.size w1 w' ∧ w'.cell? ⟨w.heap.size, 0, none⟩ = some (.int .i64 4) ∧ w'.cell? ⟨w.heap.size, 1, none⟩ = some (.int .i64 fr) ∧ w'.cell? ⟨w.heap.size, 2, none⟩ = some (.int .i64 seq) ∧ w'.cell? ⟨w.heap.size, 3, none⟩ = some (.int .i64 id) ∧ w'.cell? ⟨w.heap.size, 4, none⟩ = some (.int .i64 i) ∧ w'.cell? ⟨w.heap.size, 5, none⟩ = some (.int .i64 n) ∧ w'.cell? ⟨w.heap.size, 6, none⟩ = some (.string text) ∧ w'.cell? ⟨w.heap.size, 7, none⟩ = some (.slice A pn pc) ∧ Rd w' A (P.map Value.string)) (first | exact hcw | assumption)
    (first
      | (go_at_call 18; with_reducible refine (fixedR4 _ _).mono ?_; rintro e w3 ⟨rfl, hb3⟩; have hX := held9 hb3 (by assumption))
      | (go_at_call 18; with_reducible refine (fixedR2 _ _).mono ?_; rintro e w3 ⟨rfl, hb3⟩; have hX := held9 hb3 (by assumption))
      | (go_at_call 18; with_reducible refine (fixedR1 _ _).mono ?_; rintro e w3 ⟨rfl, hb3⟩; have hX := held9 hb3 (by assumption)))
  clear hG1
  have hq := hX
  clear hcw hb3 hX
  obtain ⟨wq, rfl⟩ : ∃ wq : World, wq = w3 := ⟨_, rfl⟩
  have hB2 := bl hB1 hq.1
  have hcw : PHeld wq w.heap.size 4 fr seq id i n text A pn pc P wq := ⟨Below.refl _ _, hq.2⟩
  obtain ⟨hx1, g0, g1, g2, g3, g4, g5, g6, g7, hx2⟩ := hq
  clear hx1 hx2 hB1
  have hB1 := hB2
  clear hB2
  go_upto_region 13 with (fail)
  clear g0 g1 g2 g3 g4 g5 g6 g7
  have hcw := PHeld.drew hcw
  unfold PHeld at hcw
  go_region_held3 (fun w' => Below wq.heap.size wq w' ∧ w'.cell? ⟨w.heap.size, 0, none⟩ = some (.int .i64 4) ∧ w'.cell? ⟨w.heap.size, 1, none⟩ = some (.int .i64 fr) ∧ w'.cell? ⟨w.heap.size, 2, none⟩ = some (.int .i64 seq) ∧ w'.cell? ⟨w.heap.size, 3, none⟩ = some (.int .i64 id) ∧ w'.cell? ⟨w.heap.size, 4, none⟩ = some (.int .i64 i) ∧ w'.cell? ⟨w.heap.size, 5, none⟩ = some (.int .i64 n) ∧ w'.cell? ⟨w.heap.size, 6, none⟩ = some (.string text) ∧ w'.cell? ⟨w.heap.size, 7, none⟩ = some (.slice A pn pc) ∧ Rd w' A (P.map Value.string)) (first | exact hcw | assumption)
    (first
      | (go_at_call 18; with_reducible refine (fixedR4 _ _).mono ?_; rintro e w3 ⟨rfl, hb3⟩; have hX := held9 hb3 (by assumption))
      | (go_at_call 18; with_reducible refine (fixedR2 _ _).mono ?_; rintro e w3 ⟨rfl, hb3⟩; have hX := held9 hb3 (by assumption))
      | (go_at_call 18; with_reducible refine (fixedR1 _ _).mono ?_; rintro e w3 ⟨rfl, hb3⟩; have hX := held9 hb3 (by assumption)))
  have hB3 := bl hB1 hX.1
  clear hcw hX hb3
  go_wp2_with fail
  go_ret2
  exact ⟨by rw [E.out]; rfl, hB3⟩

theorem pput_any (kind fr seq id i n : Int) (text : ByteArray) (A : Option Addr) (pn pc : Nat) (P : List ByteArray) (w : World) (hb : pktOk kind fr seq id i n text P = true) (hP : P.length = pn) (hpc : pn ≤ pc) (hr : Rd w A (P.map Value.string)) (ht : text.size ≤ 1000) (hn : pn ≤ 9223372036854775807) :
    Calls Try.prog 9 #[.agg #[.int .i64 kind, .int .i64 fr, .int .i64 seq, .int .i64 id, .int .i64 i, .int .i64 n, .string text, .slice A pn pc]] w (PutEnd w (pktS kind fr seq id i n text P) 0) := by
  have h : kind = 1 ∨ kind = 2 ∨ kind = 3 ∨ kind = 4 ∨ (kind < 1 ∨ 4 < kind) := by omega
  rcases h with rfl | rfl | rfl | rfl | h
  · exact pput_1 fr seq id i n text A pn pc P w hb hP hpc hr ht hn
  · exact pput_2 fr seq id i n text A pn pc P w hb hP hpc hr ht hn
  · exact pput_3 fr seq id i n text A pn pc P w hb hP hpc hr ht hn
  · exact pput_4 fr seq id i n text A pn pc P w hb hP hpc hr ht hn
  · have := pktOk_lo hb h
    cases this
theorem pputR_any (kind fr seq id i n : Int) (text : ByteArray) (A : Option Addr) (pn pc : Nat) (P : List ByteArray) (w : World) (hb : pktOk kind fr seq id i n text P = true) (hP : P.length = pn) (hpc : pn ≤ pc) (hr : Rd w A (P.map Value.string)) (ht : text.size ≤ 1000) (hn : pn ≤ 9223372036854775807) :
    Calls Try.prog 10 #[.agg #[.int .i64 kind, .int .i64 fr, .int .i64 seq, .int .i64 id, .int .i64 i, .int .i64 n, .string text, .slice A pn pc]] w (PutEnd w (pktS kind fr seq id i n text P) 0) := by
  have h : kind = 1 ∨ kind = 2 ∨ kind = 3 ∨ kind = 4 ∨ (kind < 1 ∨ 4 < kind) := by omega
  rcases h with rfl | rfl | rfl | rfl | h
  · exact pputR_1 fr seq id i n text A pn pc P w hb hP hpc hr ht hn
  · exact pputR_2 fr seq id i n text A pn pc P w hb hP hpc hr ht hn
  · exact pputR_3 fr seq id i n text A pn pc P w hb hP hpc hr ht hn
  · exact pputR_4 fr seq id i n text A pn pc P w hb hP hpc hr ht hn
  · have := pktOk_lo hb h
    cases this
end Go.Proofs.Ytfkbcmmhpopdnaa
