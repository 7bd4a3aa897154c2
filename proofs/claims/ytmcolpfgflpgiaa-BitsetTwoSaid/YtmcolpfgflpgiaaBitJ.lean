/-
  The walk of the law BitsetTwo.
-/
import Derived.Test.YtmcolpfgflpgiaaBitI
import Derived.Deep.RegionHeld3
import Derived.Deep.Cut
import Derived.Deep.CutRange
namespace Go.Proofs.Ytmcolpfgflpgiaa
open Go.RowKit

def TwoCut (w : World) (E : Bool) (v : Value) (wx : World) : Prop := v = .bool E ∧ Below w.heap.size w wx
theorem within_agg (L M : List Bool) (b : Bool) (w : World) (hL : L.length ≤ 256) (hM : M.length ≤ 256) (hb : wiR L M 0 = b) : Calls Try.prog 20 #[.agg #[.int .i64 ((L).length : Nat), .int .u64 (wdN (L) 0 : Nat), .int .u64 (wdN (L) 1 : Nat), .int .u64 (wdN (L) 2 : Nat), .int .u64 (wdN (L) 3 : Nat)], .agg #[.int .i64 ((M).length : Nat), .int .u64 (wdN (M) 0 : Nat), .int .u64 (wdN (M) 1 : Nat), .int .u64 (wdN (M) 2 : Nat), .int .u64 (wdN (M) 3 : Nat)]] w fun e w' => e = .returned (.bool b) ∧ Below w.heap.size w w' := by
  rw [← hb]
  exact within_any L M w hL hM
theorem or_agg (L M O : List Bool) (w : World) (hL : L.length ≤ 256) (hM : M.length ≤ 256) (hO : orB L M = O) : Calls Try.prog 19 #[.agg #[.int .i64 ((L).length : Nat), .int .u64 (wdN (L) 0 : Nat), .int .u64 (wdN (L) 1 : Nat), .int .u64 (wdN (L) 2 : Nat), .int .u64 (wdN (L) 3 : Nat)], .agg #[.int .i64 ((M).length : Nat), .int .u64 (wdN (M) 0 : Nat), .int .u64 (wdN (M) 1 : Nat), .int .u64 (wdN (M) 2 : Nat), .int .u64 (wdN (M) 3 : Nat)]] w fun e w' => e = .returned (.agg #[.int .i64 ((O).length : Nat), .int .u64 (wdN (O) 0 : Nat), .int .u64 (wdN (O) 1 : Nat), .int .u64 (wdN (O) 2 : Nat), .int .u64 (wdN (O) 3 : Nat)]) ∧ Below w.heap.size w w' := by
  rw [← hO]
  exact or_any L M w hL hM
theorem same_agg (A : Option Addr) (n c : Nat) (L : List Bool) (w : World) (hL : L.length = n) (hn : n ≤ 256) (hr : Rd w A (L.map Value.bool)) :
    Calls Try.prog 11 #[.agg #[.int .i64 ((L).length : Nat), .int .u64 (wdN (L) 0 : Nat), .int .u64 (wdN (L) 1 : Nat), .int .u64 (wdN (L) 2 : Nat), .int .u64 (wdN (L) 3 : Nat)], .slice A n c] w fun e w' => e = .returned (.bool true) ∧ Below w.heap.size w w' := sameSet_any A n c L w hL hn hr
theorem eq_agg (L M : List Bool) (E : Bool) (h : setEq L M = E) (w : World) : (binOp .eql 26 (.agg #[.int .i64 ((L).length : Nat), .int .u64 (wdN (L) 0 : Nat), .int .u64 (wdN (L) 1 : Nat), .int .u64 (wdN (L) 2 : Nat), .int .u64 (wdN (L) 3 : Nat)]) (.agg #[.int .i64 ((M).length : Nat), .int .u64 (wdN (M) 0 : Nat), .int .u64 (wdN (M) 1 : Nat), .int .u64 (wdN (M) 2 : Nat), .int .u64 (wdN (M) 3 : Nat)])).run Try.prog w = .ok (.bool E) w := by
  rw [eq_sets, set_test, h]
theorem setEq_lens (L M : List Bool) (h : L.length ≠ M.length) : setEq L M = false := by simp [setEq, h]
theorem setEq_lists (L M : List Bool) (hL : L.length ≤ 256) (hM : M.length ≤ 256) (h : L.length = M.length) : sameI (listR L 0) (listR M 0) = setEq L M := by
  have h1 := setEq_iff L M hL hM
  unfold sameI
  by_cases h2 : L = M
  · subst h2; simp [h1.2]
  · have h3 : setEq L M = false := by
      cases h4 : setEq L M with
      | false => rfl
      | true => exact absurd (h1.1 h4) h2
    rw [h3, decide_eq_false_iff_not]
    exact fun h4 => h2 (listR_ext L M h h4)

theorem heldF {wr w w1 : World} (hb : Below w.heap.size w w1) {a0 a1 a2 a3 a4 a5 a6 a7 a8 a9 a10 a11 a12 a13 a14 : Addr} {v0 v1 v2 v3 v4 v5 v6 v7 v8 v9 v10 v11 v12 v13 v14 : Value}
    (h : Below wr.heap.size wr w ∧ w.cell? a0 = some v0 ∧ w.cell? a1 = some v1 ∧ w.cell? a2 = some v2 ∧ w.cell? a3 = some v3 ∧ w.cell? a4 = some v4 ∧ w.cell? a5 = some v5 ∧ w.cell? a6 = some v6 ∧ w.cell? a7 = some v7 ∧ w.cell? a8 = some v8 ∧ w.cell? a9 = some v9 ∧ w.cell? a10 = some v10 ∧ w.cell? a11 = some v11 ∧ w.cell? a12 = some v12 ∧ w.cell? a13 = some v13 ∧ w.cell? a14 = some v14) :
    Below wr.heap.size wr w1 ∧ w1.cell? a0 = some v0 ∧ w1.cell? a1 = some v1 ∧ w1.cell? a2 = some v2 ∧ w1.cell? a3 = some v3 ∧ w1.cell? a4 = some v4 ∧ w1.cell? a5 = some v5 ∧ w1.cell? a6 = some v6 ∧ w1.cell? a7 = some v7 ∧ w1.cell? a8 = some v8 ∧ w1.cell? a9 = some v9 ∧ w1.cell? a10 = some v10 ∧ w1.cell? a11 = some v11 ∧ w1.cell? a12 = some v12 ∧ w1.cell? a13 = some v13 ∧ w1.cell? a14 = some v14 := by
  have k : ∀ {a : Addr} {v : Value}, w.cell? a = some v → w1.cell? a = some v := fun h => (hb.cell (World.block_lt_of_cell? w _ h)).trans h
  exact ⟨bl h.1 hb, k h.2.1, k h.2.2.1, k h.2.2.2.1, k h.2.2.2.2.1, k h.2.2.2.2.2.1, k h.2.2.2.2.2.2.1, k h.2.2.2.2.2.2.2.1, k h.2.2.2.2.2.2.2.2.1, k h.2.2.2.2.2.2.2.2.2.1, k h.2.2.2.2.2.2.2.2.2.2.1, k h.2.2.2.2.2.2.2.2.2.2.2.1, k h.2.2.2.2.2.2.2.2.2.2.2.2.1, k h.2.2.2.2.2.2.2.2.2.2.2.2.2.1, k h.2.2.2.2.2.2.2.2.2.2.2.2.2.2.1, k h.2.2.2.2.2.2.2.2.2.2.2.2.2.2.2⟩
theorem withinRef_val (A B : Option Addr) (n m c d : Nat) (L M : List Bool) (b : Bool) (w : World) (hL : L.length = n) (hM : M.length = m) (hn : n ≤ 1000000) (hm : m ≤ 1000000) (hr : Rd w A (L.map Value.bool)) (hs : Rd w B (M.map Value.bool)) (hb : wiR L M 0 = b) :
    Calls Try.prog 21 #[.slice A n c, .slice B m d] w fun e w' => e = .returned (.bool b) ∧ w = w' := by
  rw [← hb]
  exact withinRef_any A B n m c d L M w hL hM hn hm hr hs

set_option maxRecDepth 100000 in
set_option maxHeartbeats 4000000 in
theorem bitsetTwo_walk (n m : Int) (A : Option Addr) (a ca : Nat) (xs : List Int) (B : Option Addr) (b cb : Nat) (ys : List Int) (w : World) (_l : -9223372036854775808 ≤ n) (_u : n ≤ 9223372036854775807) (_l2 : -9223372036854775808 ≤ m) (_u2 : m ≤ 9223372036854775807)
    (hx : xs.length = a) (hr : Rd w A (xs.map (Value.int .i64))) (_ha : a ≤ ca) (hca : ca * 8 ≤ 140737488351232) (hy : ys.length = b) (hs : Rd w B (ys.map (Value.int .i64))) (_hbc : b ≤ cb) (hcb : cb * 8 ≤ 140737488351232) :
    Calls Try.prog 5 #[.int .i64 n, .int .i64 m, .slice A a ca, .slice B b cb] w (Yes w) := by
  have Hx := Lib.hid hx
  have Hy := Lib.hid hy
  clear hx hy
  go_enter Try.func5, Try.ntmps5
  go_wp2_with fail
  refine (of_any n _ _ _ xs _ Hx.out hr (by omega)).mono ?_
  have hL : (ofB n xs).length ≤ 256 := by rw [ofB_length]; exact clampB_le n
  generalize ofB n xs = L at hL ⊢
  rintro e w1 ⟨A1, c1, rfl, hn1, hm1, hr1, hb1⟩
  obtain ⟨N, hN⟩ : ∃ N, L.length = N := ⟨_, rfl⟩
  have HN := Lib.hid hN
  rw [hN] at hn1 hL ⊢
  clear hN
  have hbox := (Below.refl w1.heap.size w1).alloc (Nat.le_refl _) (.cells #[.int .i64 (L.length : Nat), .int .u64 (wdN L 0 : Nat), .int .u64 (wdN L 1 : Nat), .int .u64 (wdN L 2 : Nat), .int .u64 (wdN L 3 : Nat)] 26)
  have hS1 := SetAt.new w1 L
  have hrA1 := hr1.below hbox
  have hs1 := (hs.below hb1).below hbox
  have hB1 := bl hb1 hbox
  unfold setV
  go_wp2_with fail
  refine (of_any m _ _ _ ys _ Hy.out hs1 (by omega)).mono ?_
  have hM : (ofB m ys).length ≤ 256 := by rw [ofB_length]; exact clampB_le m
  generalize ofB m ys = M at hM ⊢
  rintro e w2 ⟨A2, c2, rfl, hn2, hm2, hr2, hb2⟩
  obtain ⟨N2, hN2⟩ : ∃ N2, M.length = N2 := ⟨_, rfl⟩
  have HN2 := Lib.hid hN2
  rw [hN2] at hn2 hM ⊢
  clear hN2
  have hbox2 := (Below.refl w2.heap.size w2).alloc (Nat.le_refl _) (.cells #[.int .i64 (M.length : Nat), .int .u64 (wdN M 0 : Nat), .int .u64 (wdN M 1 : Nat), .int .u64 (wdN M 2 : Nat), .int .u64 (wdN M 3 : Nat)] 26)
  have hSM := SetAt.new w2 M
  have hSL := (hS1.below' hb2).below' hbox2
  have hrA := (hrA1.below hb2).below hbox2
  have hrB := hr2.below hbox2
  have hB2 := bl (bl hB1 hb2) hbox2
  obtain ⟨E, hE⟩ : ∃ E, setEq L M = E := ⟨_, rfl⟩
  have HE := Lib.hid hE
  clear hE hS1 hrA1 hs1 hr1 hr2 hB1 hb1 hb2 hbox hbox2
  unfold setV
  go_upto_region 4 with (fail)
  generalize w2.alloc (.cells #[.int .i64 (M.length : Nat), .int .u64 (wdN M 0 : Nat), .int .u64 (wdN M 1 : Nat), .int .u64 (wdN M 2 : Nat), .int .u64 (wdN M 3 : Nat)] 26) = w3 at *
  go_cut [39] from 27 to 39 (fun v wx => TwoCut w3 (!E) v wx)
  case first =>
    by_cases hne : N = N2
    · subst hne
      have e0 : ((N : Int) != (N : Int)) = false := by simp
      have Hq := Lib.hid (setEq_lists L M (by rw [HN.out]; exact hL) (by rw [HN2.out]; exact hM) (by rw [HN.out, HN2.out]))
      go_wp2_with fail
      refine (listRef_any A1 N c1 L _ HN.out (by omega) hrA).mono ?_
      rintro e w4 ⟨A4, c4, rfl, hn4, hm4, hr4, _, hb4⟩
      go_wp2_with fail
      refine (listRef_any A2 N c2 M _ HN2.out (by omega) (hrB.below hb4)).mono ?_
      rintro e w5 ⟨A5, c5, rfl, hn5, hm5, hr5, _, hb5⟩
      go_wp2_with fail
      refine (same_any A4 A5 _ _ c4 c5 (listR L 0) (listR M 0) _ rfl rfl (hr4.below hb5) hr5 (by have := listR_length L 0; rw [HN.out] at this; omega) (by have := listR_length M 0; rw [HN2.out] at this; omega)).mono ?_
      rw [Hq.out, HE.out]
      rintro e w6 ⟨rfl, hb6⟩
      cases E
      all_goals
        go_wp2_with fail
        go_meet
        exact ⟨rfl, bl (bl hb4 hb5) hb6⟩
    · have e0 : ((N : Int) == (N2 : Int)) = false := beq_eq_false_iff_ne.2 (by omega)
      have e1 : ((N : Int) != (N2 : Int)) = true := by simp [bne, e0]
      have Hq := Lib.hid (setEq_lens L M (by rw [HN.out, HN2.out]; exact hne))
      go_wp2_with fail
      go_meet
      exact ⟨by rw [← HE.out, Hq.out]; rfl, Below.refl _ _⟩
  case rest =>
    obtain ⟨rfl, hbx⟩ := hcut
    have hSL4 := hSL.below' hbx
    have hSM4 := hSM.below' hbx
    have hrA4 := hrA.below hbx
    have hrB4 := hrB.below hbx
    have hB4 := bl hB2 hbx
    clear hSL hSM hrA hrB hB2 hbx
    obtain ⟨hc0, hc1, hc2, hc3, hc4⟩ := hSL4.cells
    obtain ⟨d0, d1, d2, d3, d4⟩ := hSM4.cells
    obtain ⟨O, hO⟩ : ∃ O, orB L M = O := ⟨_, rfl⟩
    have HO := Lib.hid hO
    have hOl : O.length = max N N2 := by rw [← hO, orB_length, HN.out, HN2.out]
    have HOl := Lib.hid hOl
    have Hlo := Lib.hid (show wiR L O 0 = true by rw [← hO]; exact within_or_left L M)
    have Hmo := Lib.hid (show wiR M O 0 = true by rw [← hO]; exact within_or_right L M)
    clear hO hOl
    have hL256 : L.length ≤ 256 := by rw [HN.out]; exact hL
    have hM256 : M.length ≤ 256 := by rw [HN2.out]; exact hM
    cases E
    all_goals
      go_wp2_with fail
      refine (or_agg L M O _ hL256 hM256 HO.out).mono ?_
      rintro e w5 ⟨rfl, hb5⟩
      have hSO := SetAt.new w5 O
      have hbox := (Below.refl w5.heap.size w5).alloc (Nat.le_refl _) (.cells #[.int .i64 (O.length : Nat), .int .u64 (wdN O 0 : Nat), .int .u64 (wdN O 1 : Nat), .int .u64 (wdN O 2 : Nat), .int .u64 (wdN O 3 : Nat)] 26)
      have hSL5 := (hSL4.below' hb5).below' hbox
      have hSM5 := (hSM4.below' hb5).below' hbox
      have hrA5 := (hrA4.below hb5).below hbox
      have hrB5 := (hrB4.below hb5).below hbox
      have hB5 := bl (bl hB4 hb5) hbox
      clear hc0 hc1 hc2 hc3 hc4 d0 d1 d2 d3 d4 hSL4 hSM4 hrA4 hrB4 hB4 hb5 hbox
      obtain ⟨D, hD⟩ : ∃ D, wiR L M 0 = D := ⟨_, rfl⟩
      have HD := Lib.hid hD
      clear hD
      have hDD : (D == D) = true := by simp
      have hq := eq_agg L M _ HE.out
      go_upto_region 7 with (fail)
      generalize w5.alloc (.cells #[.int .i64 (O.length : Nat), .int .u64 (wdN O 0 : Nat), .int .u64 (wdN O 1 : Nat), .int .u64 (wdN O 2 : Nat), .int .u64 (wdN O 3 : Nat)] 26) = w6 at *
      have hcw : (fun w' => Below w6.heap.size w6 w' ∧ w'.cell? ⟨w1.heap.size, 0, none⟩ = some (.int .i64 (L.length : Nat)) ∧ w'.cell? ⟨w1.heap.size, 1, none⟩ = some (.int .u64 (wdN L 0 : Nat)) ∧ w'.cell? ⟨w1.heap.size, 2, none⟩ = some (.int .u64 (wdN L 1 : Nat)) ∧ w'.cell? ⟨w1.heap.size, 3, none⟩ = some (.int .u64 (wdN L 2 : Nat)) ∧ w'.cell? ⟨w1.heap.size, 4, none⟩ = some (.int .u64 (wdN L 3 : Nat)) ∧ w'.cell? ⟨w2.heap.size, 0, none⟩ = some (.int .i64 (M.length : Nat)) ∧ w'.cell? ⟨w2.heap.size, 1, none⟩ = some (.int .u64 (wdN M 0 : Nat)) ∧ w'.cell? ⟨w2.heap.size, 2, none⟩ = some (.int .u64 (wdN M 1 : Nat)) ∧ w'.cell? ⟨w2.heap.size, 3, none⟩ = some (.int .u64 (wdN M 2 : Nat)) ∧ w'.cell? ⟨w2.heap.size, 4, none⟩ = some (.int .u64 (wdN M 3 : Nat)) ∧ w'.cell? ⟨w5.heap.size, 0, none⟩ = some (.int .i64 (O.length : Nat)) ∧ w'.cell? ⟨w5.heap.size, 1, none⟩ = some (.int .u64 (wdN O 0 : Nat)) ∧ w'.cell? ⟨w5.heap.size, 2, none⟩ = some (.int .u64 (wdN O 1 : Nat)) ∧ w'.cell? ⟨w5.heap.size, 3, none⟩ = some (.int .u64 (wdN O 2 : Nat)) ∧ w'.cell? ⟨w5.heap.size, 4, none⟩ = some (.int .u64 (wdN O 3 : Nat))) w6.drew := ⟨(Below.refl _ _).drew, hSL5.cells.1, hSL5.cells.2.1, hSL5.cells.2.2.1, hSL5.cells.2.2.2.1, hSL5.cells.2.2.2.2, hSM5.cells.1, hSM5.cells.2.1, hSM5.cells.2.2.1, hSM5.cells.2.2.2.1, hSM5.cells.2.2.2.2, hSO.cells.1, hSO.cells.2.1, hSO.cells.2.2.1, hSO.cells.2.2.2.1, hSO.cells.2.2.2.2⟩
      go_region_held3 (fun w' => Below w6.heap.size w6 w' ∧ w'.cell? ⟨w1.heap.size, 0, none⟩ = some (.int .i64 (L.length : Nat)) ∧ w'.cell? ⟨w1.heap.size, 1, none⟩ = some (.int .u64 (wdN L 0 : Nat)) ∧ w'.cell? ⟨w1.heap.size, 2, none⟩ = some (.int .u64 (wdN L 1 : Nat)) ∧ w'.cell? ⟨w1.heap.size, 3, none⟩ = some (.int .u64 (wdN L 2 : Nat)) ∧ w'.cell? ⟨w1.heap.size, 4, none⟩ = some (.int .u64 (wdN L 3 : Nat)) ∧ w'.cell? ⟨w2.heap.size, 0, none⟩ = some (.int .i64 (M.length : Nat)) ∧ w'.cell? ⟨w2.heap.size, 1, none⟩ = some (.int .u64 (wdN M 0 : Nat)) ∧ w'.cell? ⟨w2.heap.size, 2, none⟩ = some (.int .u64 (wdN M 1 : Nat)) ∧ w'.cell? ⟨w2.heap.size, 3, none⟩ = some (.int .u64 (wdN M 2 : Nat)) ∧ w'.cell? ⟨w2.heap.size, 4, none⟩ = some (.int .u64 (wdN M 3 : Nat)) ∧ w'.cell? ⟨w5.heap.size, 0, none⟩ = some (.int .i64 (O.length : Nat)) ∧ w'.cell? ⟨w5.heap.size, 1, none⟩ = some (.int .u64 (wdN O 0 : Nat)) ∧ w'.cell? ⟨w5.heap.size, 2, none⟩ = some (.int .u64 (wdN O 1 : Nat)) ∧ w'.cell? ⟨w5.heap.size, 3, none⟩ = some (.int .u64 (wdN O 2 : Nat)) ∧ w'.cell? ⟨w5.heap.size, 4, none⟩ = some (.int .u64 (wdN O 3 : Nat))) (first | exact hcw | assumption)
        (first
          | (go_at_call 21; with_reducible refine (withinRef_val A1 A2 N N2 c1 c2 L M D _ HN.out HN2.out (by omega) (by omega) (hrA5.below (And.left (by assumption))) (hrB5.below (And.left (by assumption))) HD.out).mono ?_; rintro e wa ⟨rfl, rfl⟩)
          | (go_at_call 20; with_reducible refine (within_agg L M D _ hL256 hM256 HD.out).mono ?_; rintro e wb ⟨rfl, hbb⟩; have hX := heldF hbb (by assumption))
          | (go_at_call 20; with_reducible refine (within_agg L O true _ hL256 (by have := HOl.out; omega) Hlo.out).mono ?_; rintro e wb ⟨rfl, hbb⟩; have hX := heldF hbb (by assumption))
          | (go_at_call 20; with_reducible refine (within_agg M O true _ hM256 (by have := HOl.out; omega) Hmo.out).mono ?_; rintro e wb ⟨rfl, hbb⟩; have hX := heldF hbb (by assumption))
          | (go_at_call 22; refine (orRef_any A1 A2 N N2 c1 c2 L M _ HN.out HN2.out (by omega) (by omega) (hrA5.below (And.left (by assumption))) (hrB5.below (And.left (by assumption)))).mono ?_; rw [HO.out]; rintro e wc ⟨Ac, cc, rfl, hnc, hmc, hrc, _, hbc⟩; have hX := heldF hbc (by assumption))
          | (go_at_call 11; with_reducible refine (same_agg _ _ _ O _ HOl.out (by omega) (by assumption)).mono ?_; rintro e wd ⟨rfl, hbd⟩; have hX := heldF hbd (by assumption))
          | (go_at_call 10; refine (awake_any _).mono ?_; rintro e w8 ⟨rfl, hb8⟩; have hX := heldF hb8 (by assumption)))
      go_wp2_with fail
      go_ret
      exact ⟨rfl, bl hB5 (And.left (by assumption))⟩
end Go.Proofs.Ytmcolpfgflpgiaa
