/-
  The laws WindowTimers and WindowNone: the walks.
-/
import Derived.Test.YtapanifgnpklpaaWinE
import Derived.Test.YtapanifgnpklpaaFrame
namespace Go.Proofs.Ytapanifgnpklpaa
open Go.RowKit

theorem eq_zero (w : World) : (binOp .eql 39 (.agg #[.int .i64 0, .int .u64 0, .int .u64 0, .int .u64 0, .int .u64 0]) (.agg #[.int .i64 0, .int .u64 0, .int .u64 0, .int .u64 0, .int .u64 0])).run Try.prog w = .ok (.bool true) w := by
  rw [eq_sets]; rfl
theorem ack_zero (w : World) : Calls Try.prog 17 #[.pointer none, .agg #[.int .i64 0, .int .u64 0, .int .u64 0, .int .u64 0, .int .u64 0]] w fun e w' => e = .returned (.int .i64 8) ∧ Below w.heap.size w w' := ack_none [] w

set_option maxHeartbeats 1000000 in
theorem windowNone_walk (now : Int) (w : World) (_l : -9223372036854775808 ≤ now) (_u : now ≤ 9223372036854775807) : Calls Try.prog 7 #[.int .i64 now] w (Yes w) := by
  have hq := eq_zero
  go_enter Try.func7, Try.ntmps7
  go_wp2_with fail
  refine (ack_zero _).mono ?_
  rintro e w1 ⟨rfl, hb1⟩
  go_wp2_with fail
  refine (take_none _ _).mono ?_
  rintro e w2 ⟨rfl, hb2⟩
  go_wp2_with fail
  refine (acked_is_none _).mono ?_
  rintro e w3 ⟨rfl, hb3⟩
  go_wp2_with fail
  refine (flight_is_none _).mono ?_
  rintro e w4 ⟨rfl, hb4⟩
  go_wp2_with fail
  refine (awake_any _).mono ?_
  rintro e w5 ⟨rfl, hb5⟩
  go_wp2_with fail
  go_ret
  exact ⟨rfl, bl (bl (bl (bl hb1 hb2) hb3) hb4) hb5⟩

theorem held3 {wr w w1 : World} (hb : Below w.heap.size w w1) {a0 a1 a2 : Addr} {v0 v1 v2 : Value}
    (h : Below wr.heap.size wr w ∧ w.cell? a0 = some v0 ∧ w.cell? a1 = some v1 ∧ w.cell? a2 = some v2) :
    Below wr.heap.size wr w1 ∧ w1.cell? a0 = some v0 ∧ w1.cell? a1 = some v1 ∧ w1.cell? a2 = some v2 := by
  have k : ∀ {a : Addr} {v : Value}, w.cell? a = some v → w1.cell? a = some v := fun h => (hb.cell (World.block_lt_of_cell? w _ h)).trans h
  exact ⟨bl h.1 hb, k h.2.1, k h.2.2.1, k h.2.2.2⟩
theorem and31 (u : Int) : bits .and .i64 u 31 = u % 32 := by
  show IntKind.i64.wrap ((BitVec.ofInt 64 u &&& BitVec.ofInt 64 31).toNat : Int) = _
  rw [BitVec.toNat_and, show (BitVec.ofInt 64 31).toNat = 2 ^ 5 - 1 from rfl, Nat.and_two_pow_sub_one_eq_mod, BitVec.toNat_ofInt, IntKind.wrap_i64]
  simp only [Nat.reducePow]
  omega

/-- What holds at each round: the time, the last time it fired, the timer. -/
def TimInv (k : Nat) (now last d c : Int) : Prop := 0 ≤ now ∧ now ≤ 31 * (k : Int) ∧ c ≤ 16 ∧ ((last = -100 ∧ d = 0) ∨ (0 ≤ last ∧ last ≤ now ∧ last + 2 ≤ d ∧ d ≤ last + 16))
theorem fire_no {d c now : Int} (h : now < d) : fireW (d, c) now = ((d, c), false) := if_pos h
theorem fire_yes {d c now : Int} (h : ¬ now < d) : ∃ u v : Int, 2 ≤ u ∧ u ≤ 16 ∧ v ≤ 16 ∧ fireW (d, c) now = ((now + u, v), true) := ⟨min (max c 2) 16, min (2 * min (max c 2) 16) 16, by omega, by omega, by omega, if_neg h⟩
theorem fireR_agg (d c now d' c' : Int) (b : Bool) (hr : fireW (d, c) now = ((d', c'), b)) (w : World) (h1 : -1000000000000 ≤ now) (h2 : now ≤ 1000000000000) (h3 : c ≤ 16) :
    Calls Try.prog 9 #[.agg #[.int .i64 d, .int .i64 c], .int .i64 now] w fun e w' => e = .returned (.tuple #[.agg #[.int .i64 d', .int .i64 c'], .bool b]) ∧ Below w.heap.size w w' := fireR_is d c now _ hr w h1 h2 h3

set_option maxRecDepth 20000 in
set_option maxHeartbeats 4000000 in
theorem windowTimers_walk (A : Option Addr) (m c0 : Nat) (xs : List Int) (w : World) (hx : xs.length = m) (hr : Rd w A (xs.map (Value.int .i64))) (_hmc : m ≤ c0) (_hc : c0 * 8 ≤ 140737488351232) :
    Calls Try.prog 3 #[.slice A m c0] w (Yes w) := by
  have Hx := Lib.hid hx
  clear hx
  have hB0 : Bk ((w.alloc (.cells #[.int .i64 0, .int .i64 0] 24)).alloc (.cells #[.int .i64 0, .int .i64 0] 26)) w.heap.size 24 #[.int .i64 0, .int .i64 0] := Bk.alloc (Bk.new _ _ _) _
  have hC0 : Bk ((w.alloc (.cells #[.int .i64 0, .int .i64 0] 24)).alloc (.cells #[.int .i64 0, .int .i64 0] 26)) (w.heap.size + 1) 26 #[.int .i64 0, .int .i64 0] := by
    have h := Bk.new (w.alloc (.cells #[.int .i64 0, .int .i64 0] 24)) 26 #[.int .i64 0, .int .i64 0]
    rw [show (w.alloc (.cells #[.int .i64 0, .int .i64 0] 24)).heap.size = w.heap.size + 1 from by simp] at h
    exact h
  have hb0 := ((Below.refl w.heap.size w).alloc (Nat.le_refl _) (.cells #[.int .i64 0, .int .i64 0] 24)).alloc (by simp) (.cells #[.int .i64 0, .int .i64 0] 26)
  go_enter Try.func3, Try.ntmps3
  go_upto_region 6 with (fail)
  generalize (w.alloc (.cells #[.int .i64 0, .int .i64 0] 24)).alloc (.cells #[.int .i64 0, .int .i64 0] 26) = w0 at *
  go_loopw [5, 6, 7] (fun nw la i wr => ∃ (k : Nat) (d c now last : Int), k ≤ m ∧ k ≤ 100 ∧ i = .int .i64 k ∧ nw = .int .i64 now ∧ la = .int .i64 last ∧ TimInv k now last d c ∧ Bk wr w.heap.size 24 #[.int .i64 d, .int .i64 c] ∧ Bk wr (w.heap.size + 1) 26 #[.int .i64 d, .int .i64 c] ∧ Below w.heap.size w wr) (fun _ _ i _ => m - (intOf i).toNat)
  case atStart => exact ⟨0, 0, 0, 0, -100, by omega, by omega, rfl, rfl, rfl, ⟨by omega, by omega, by omega, Or.inl ⟨rfl, rfl⟩⟩, hB0, hC0, hb0⟩
  case round =>
    clear hB0 hC0 hb0
    obtain ⟨k, d, c, now, last, hkm, hk100, rfl, rfl, rfl, hinv0, hB, hC, hb⟩ := hrel
    obtain ⟨hn0, hn1, hc16, hor⟩ := hinv0
    by_cases hlt : (k : Int) < (m : Int)
    · by_cases h100 : (k : Int) < 100
      · obtain ⟨bb, oo, rfl, hcell⟩ := (hr.below hb).at_ (k := k) (by rw [List.length_map, Hx.out]; omega)
        rw [List.getElem_map] at hcell
        generalize xs[k]'(by rw [Hx.out]; omega) = x at hcell
        obtain ⟨y, hy, hy0, hy1⟩ : ∃ y, bits .and .i64 x 31 = y ∧ 0 ≤ y ∧ y ≤ 31 := ⟨_, and31 x, by omega, by omega⟩
        by_cases hf : now + y < d
        · obtain ⟨d', hd'⟩ : ∃ d', d = d' := ⟨_, rfl⟩
          obtain ⟨c', hc'⟩ : ∃ c', c = c' := ⟨_, rfl⟩
          have hfr : fireW (d, c) (now + y) = ((d', c'), false) := by rw [fire_no hf, hd', hc']
          have Hf := Lib.hid hfr
          have h16 : now + y - last < 16 := by omega
          have hinv : TimInv (k + 1) (now + y) last d' c' := ⟨by omega, by omega, by omega, by omega⟩
          have hll : -100 ≤ last ∧ last ≤ now := by omega
          clear hfr hd' hc' hor
          have hB3 : Bk wr w.heap.size 24 #[.int .i64 d, .int .i64 c] := hB
          have hC3 : Bk wr (w.heap.size + 1) 26 #[.int .i64 d, .int .i64 c] := hC
          have p0 : wr.cell? ⟨w.heap.size, 0, none⟩ = some (.int .i64 d) := hB3.cell 0
          have p1 : wr.cell? ⟨w.heap.size, 1, none⟩ = some (.int .i64 c) := hB3.cell 1
          go_wp2_with fail
          (with_reducible refine (fire_agg d c (now + y) d' c' false Hf.out _ (by omega) (by omega)).mono ?_)
          rintro e w1 ⟨rfl, hb1⟩
          have ha1 := (Below.refl w1.heap.size w1).alloc (Nat.le_refl _) (.cells #[.int .i64 d', .int .i64 c'] 24)
          have hb1a := bl hb1 ha1
          have hB4 := Bk.below' hB3 hb1a
          have hC4 := Bk.below' hC3 hb1a
          have hL4 : Bk (w1.alloc (.cells #[.int .i64 d', .int .i64 c'] 24)) w1.heap.size 24 #[.int .i64 d', .int .i64 c'] := Bk.new _ _ _
          have hs1 := hb1.size
          have hwlt := hC3.lt
          clear p0 p1 hb1 ha1 hB hC hB3 hC3
          go_upto_region 10 with (fail)
          generalize w1.alloc (.cells #[.int .i64 d', .int .i64 c'] 24) = w2 at *
          generalize w1.heap.size = g2 at *
          have p0 : w2.cell? ⟨w.heap.size + 1, 0, none⟩ = some (.int .i64 d) := hC4.cell 0
          have p1 : w2.cell? ⟨w.heap.size + 1, 1, none⟩ = some (.int .i64 c) := hC4.cell 1
          go_wp2_with fail
          (with_reducible refine (fireR_agg d c (now + y) d' c' false Hf.out _ (by omega) (by omega) hc16).mono ?_)
          rintro e w3 ⟨rfl, hb3⟩
          have ha3 := (Below.refl w3.heap.size w3).alloc (Nat.le_refl _) (.cells #[.int .i64 d', .int .i64 c'] 26)
          have hb3a := bl hb3 ha3
          have hB5 := Bk.below' hB4 hb3a
          have hC5 := Bk.below' hC4 hb3a
          have hL5 := Bk.below' hL4 hb3a
          have hM5 : Bk (w3.alloc (.cells #[.int .i64 d', .int .i64 c'] 26)) w3.heap.size 26 #[.int .i64 d', .int .i64 c'] := Bk.new _ _ _
          have hbb := bl hb1a hb3a
          have hs3 := hb3.size
          have hs2 := hb1a.size
          have hL4lt := hL4.lt
          clear p0 p1 hb3 ha3 hB4 hC4 hL4 hb1a hb3a
          go_upto_region 11 with (fail)
          generalize w3.alloc (.cells #[.int .i64 d', .int .i64 c'] 26) = w4 at *
          generalize w3.heap.size = g3 at *
          have q0 : w4.cell? ⟨g2, 0, none⟩ = some (.int .i64 d') := hL5.cell 0
          have q1 : w4.cell? ⟨g2, 1, none⟩ = some (.int .i64 c') := hL5.cell 1
          have q2 : w4.cell? ⟨g3, 0, none⟩ = some (.int .i64 d') := hM5.cell 0
          have hcw : Below w4.heap.size w4 w4.drew ∧ w4.drew.cell? ⟨g2, 0, none⟩ = some (.int .i64 d') ∧ w4.drew.cell? ⟨g2, 1, none⟩ = some (.int .i64 c') ∧ w4.drew.cell? ⟨g3, 0, none⟩ = some (.int .i64 d') := ⟨(Below.refl _ _).drew, q0, q1, q2⟩
          refine wp_region_held_drew (S := fun w' => Below w4.heap.size w4 w' ∧ w'.cell? ⟨g2, 0, none⟩ = some (.int .i64 d') ∧ w'.cell? ⟨g2, 1, none⟩ = some (.int .i64 c') ∧ w'.cell? ⟨g3, 0, none⟩ = some (.int .i64 d')) (by kernel_rfl) hcw (fun _ => ?_)
          refine anyH_take (i := 0) (v := ?_) rfl (by kernel_rfl) (by kernel_rfl) (by kernel_rfl) (fun _ _ _ h => h) (by rfl) ?_ (by assumption) ?_
          rotate_left
          · intro w' hSw; (try dsimp only at hSw); go_simp; (try with_reducible rfl)
          try simp only [Act.put, List.setIfInBounds_toArray, List.set_cons_zero, List.set_cons_succ]
          refine anyH_take (i := 1) (v := ?_) rfl (by kernel_rfl) (by kernel_rfl) (by kernel_rfl) (fun _ _ _ h => h) (by rfl) ?_ (by assumption) ?_
          rotate_left
          · intro w' hSw; (try dsimp only at hSw); go_simp; (try with_reducible rfl)
          try simp only [Act.put, List.setIfInBounds_toArray, List.set_cons_zero, List.set_cons_succ]
          refine anyH_take (i := 2) (v := ?_) rfl (by kernel_rfl) (by kernel_rfl) (by kernel_rfl) (fun _ _ _ h => h) (by rfl) ?_ (by assumption) ?_
          rotate_left
          · intro w' hSw; (try dsimp only at hSw); go_simp; (try with_reducible rfl)
          try simp only [Act.put, List.setIfInBounds_toArray, List.set_cons_zero, List.set_cons_succ]
          refine anyH_take (i := 3) (v := ?_) rfl (by kernel_rfl) (by kernel_rfl) (by kernel_rfl) (fun _ _ _ h => h) (by rfl) ?_ (by assumption) ?_
          rotate_left
          · intro w' hSw; (try dsimp only at hSw); go_simp; (try with_reducible rfl)
          try simp only [Act.put, List.setIfInBounds_toArray, List.set_cons_zero, List.set_cons_succ]
          refine anyH_take (i := 4) (v := ?_) rfl (by kernel_rfl) (by kernel_rfl) (by kernel_rfl) (fun _ _ _ h => h) (by rfl) ?_ (by assumption) ?_
          rotate_left
          · intro w' hSw; (try dsimp only at hSw); go_simp; (try with_reducible rfl)
          try simp only [Act.put, List.setIfInBounds_toArray, List.set_cons_zero, List.set_cons_succ]
          refine anyH_take (i := 6) (v := ?_) rfl (by kernel_rfl) (by kernel_rfl) (by kernel_rfl) (fun _ _ _ h => h) (by rfl) ?_ (by assumption) ?_
          rotate_left
          · intro w' hSw; (try dsimp only at hSw); go_simp; (try with_reducible rfl)
          try simp only [Act.put, List.setIfInBounds_toArray, List.set_cons_zero, List.set_cons_succ]
          refine anyH_take (i := 7) (v := ?_) rfl (by kernel_rfl) (by kernel_rfl) (by kernel_rfl) (fun _ _ _ h => h) (by rfl) ?_ (by assumption) ?_
          rotate_left
          · intro w' hSw; (try dsimp only at hSw); go_simp; (try with_reducible rfl)
          try simp only [Act.put, List.setIfInBounds_toArray, List.set_cons_zero, List.set_cons_succ]
          refine anyH_call (i := 5) rfl (by kernel_rfl) (by rfl) (fun K hK => ?_)
          go_simp
          go_at_call 10; (with_reducible refine (due_any d' c' _).mono ?_); rintro e wd ⟨rfl, hbd⟩; have hX := held3 hbd (by assumption)
          refine hK.out _ _ hX (fun _ => ?_)
          clear hK K
          try simp only [Act.put, List.setIfInBounds_toArray, List.set_cons_zero, List.set_cons_succ]
          refine anyH_take (i := 8) (v := ?_) rfl (by kernel_rfl) (by kernel_rfl) (by kernel_rfl) (fun _ _ _ h => h) (by rfl) ?_ (by assumption) ?_
          rotate_left
          · intro w' hSw; (try dsimp only at hSw); go_simp; (try with_reducible rfl)
          try simp only [Act.put, List.setIfInBounds_toArray, List.set_cons_zero, List.set_cons_succ]
          refine anyH_take (i := 9) (v := ?_) rfl (by kernel_rfl) (by kernel_rfl) (by kernel_rfl) (fun _ _ _ h => h) (by rfl) ?_ (by assumption) ?_
          rotate_left
          · intro w' hSw; (try dsimp only at hSw); go_simp; (try with_reducible rfl)
          try simp only [Act.put, List.setIfInBounds_toArray, List.set_cons_zero, List.set_cons_succ]
          refine wpAnyH_done (by kernel_rfl) ?_ _
          have hbd4 := hX.1
          have hB6 := Bk.below' hB5 hbd4
          have hC6 := Bk.below' hC5 hbd4
          have hL6 := Bk.below' hL5 hbd4
          have hM6 := Bk.below' hM5 hbd4
          have hbb6 := bl hbb hbd4
          have hwrs := hb.size
          clear hX hcw q0 q1 q2 hbd4 hbd hB5 hC5 hL5 hM5 hbb
          have hwd := hbb6.size
          have hne1 : ¬ g3 = w.heap.size := by omega
          have hne2 : ¬ g3 = w.heap.size + 1 := by omega
          have hne3 : ¬ g2 = w.heap.size := by omega
          have hne4 : ¬ g2 = w.heap.size + 1 := by omega
          have hwr : IntKind.i64.wrap (now + y - last) = now + y - last := by rw [IntKind.wrap_i64]; omega
          go_upto_region 17 with (fail)
          clear hwr
          have q0 : wd.cell? ⟨g2, 0, none⟩ = some (.int .i64 d') := hL6.cell 0
          have q1 : wd.cell? ⟨g2, 1, none⟩ = some (.int .i64 c') := hL6.cell 1
          have p0 : wd.cell? ⟨w.heap.size, 0, none⟩ = some (.int .i64 d) := hB6.cell 0
          have p1 : wd.cell? ⟨w.heap.size, 1, none⟩ = some (.int .i64 c) := hB6.cell 1
          have r0 := hB6.frozen 0
          have r1 := hB6.frozen 1
          have ho := set2_only wd w.heap.size 0 1 (.int .i64 d') (.int .i64 c')
          have hB7 : Bk ((wd.setCell ⟨w.heap.size, 0, none⟩ (.int .i64 d')).setCell ⟨w.heap.size, 1, none⟩ (.int .i64 c')) w.heap.size 24 #[.int .i64 d', .int .i64 c'] := (hB6.set_ 0 (.int .i64 d')).set_ 1 (.int .i64 c')
          have hC7 := hC6.only ho (by omega)
          have hM7 := hM6.only ho (by omega)
          have hb7 := (below_then hb hbb6 hb.size).trans (below_only (B := w.heap.size) ho (Nat.le_refl _) (by omega))
          go_upto_region 18 with (fail)
          generalize (wd.setCell ⟨w.heap.size, 0, none⟩ (.int .i64 d')).setCell ⟨w.heap.size, 1, none⟩ (.int .i64 c') = we at *
          clear q0 q1 p0 p1 r0 r1 hB6 hC6 hL6 hM6 hbb6 ho
          have q2 : we.cell? ⟨g3, 0, none⟩ = some (.int .i64 d') := hM7.cell 0
          have q3 : we.cell? ⟨g3, 1, none⟩ = some (.int .i64 c') := hM7.cell 1
          have p2 : we.cell? ⟨w.heap.size + 1, 0, none⟩ = some (.int .i64 d) := hC7.cell 0
          have p3 : we.cell? ⟨w.heap.size + 1, 1, none⟩ = some (.int .i64 c) := hC7.cell 1
          have r2 := hC7.frozen 0
          have r3 := hC7.frozen 1
          have ho := set2_only we (w.heap.size + 1) 0 1 (.int .i64 d') (.int .i64 c')
          have hC8 : Bk ((we.setCell ⟨w.heap.size + 1, 0, none⟩ (.int .i64 d')).setCell ⟨w.heap.size + 1, 1, none⟩ (.int .i64 c')) (w.heap.size + 1) 26 #[.int .i64 d', .int .i64 c'] := (hC7.set_ 0 (.int .i64 d')).set_ 1 (.int .i64 c')
          have hB8 := hB7.only ho (by omega)
          have hb8 := hb7.trans (below_only (B := w.heap.size) ho (by omega) hb7.size)
          clear hC7 hM7 hB7 hb7 ho
          go_wp2_with fail
          go_roundw
          case rel => exact ⟨k + 1, d', c', now + y, last, by omega, by omega, by go_num, rfl, rfl, hinv, hB8, hC8, hb8⟩
          case measure => simp [intOf]; omega
        · obtain ⟨u, v, hu2, hu16, hv16, hfr⟩ := fire_yes (c := c) hf
          obtain ⟨d', hd'⟩ : ∃ d', now + y + u = d' := ⟨_, rfl⟩
          obtain ⟨c', hc'⟩ : ∃ c', v = c' := ⟨_, rfl⟩
          rw [hd', hc'] at hfr
          have Hf := Lib.hid hfr
          have h16 : 2 ≤ now + y - last := by omega
          have hinv : TimInv (k + 1) (now + y) (now + y) d' c' := ⟨by omega, by omega, by omega, by omega⟩
          have hll : -100 ≤ last ∧ last ≤ now := by omega
          clear hfr hd' hc' hor
          have hB3 : Bk wr w.heap.size 24 #[.int .i64 d, .int .i64 c] := hB
          have hC3 : Bk wr (w.heap.size + 1) 26 #[.int .i64 d, .int .i64 c] := hC
          have p0 : wr.cell? ⟨w.heap.size, 0, none⟩ = some (.int .i64 d) := hB3.cell 0
          have p1 : wr.cell? ⟨w.heap.size, 1, none⟩ = some (.int .i64 c) := hB3.cell 1
          go_wp2_with fail
          (with_reducible refine (fire_agg d c (now + y) d' c' true Hf.out _ (by omega) (by omega)).mono ?_)
          rintro e w1 ⟨rfl, hb1⟩
          have ha1 := (Below.refl w1.heap.size w1).alloc (Nat.le_refl _) (.cells #[.int .i64 d', .int .i64 c'] 24)
          have hb1a := bl hb1 ha1
          have hB4 := Bk.below' hB3 hb1a
          have hC4 := Bk.below' hC3 hb1a
          have hL4 : Bk (w1.alloc (.cells #[.int .i64 d', .int .i64 c'] 24)) w1.heap.size 24 #[.int .i64 d', .int .i64 c'] := Bk.new _ _ _
          have hs1 := hb1.size
          have hwlt := hC3.lt
          clear p0 p1 hb1 ha1 hB hC hB3 hC3
          go_upto_region 10 with (fail)
          generalize w1.alloc (.cells #[.int .i64 d', .int .i64 c'] 24) = w2 at *
          generalize w1.heap.size = g2 at *
          have p0 : w2.cell? ⟨w.heap.size + 1, 0, none⟩ = some (.int .i64 d) := hC4.cell 0
          have p1 : w2.cell? ⟨w.heap.size + 1, 1, none⟩ = some (.int .i64 c) := hC4.cell 1
          go_wp2_with fail
          (with_reducible refine (fireR_agg d c (now + y) d' c' true Hf.out _ (by omega) (by omega) hc16).mono ?_)
          rintro e w3 ⟨rfl, hb3⟩
          have ha3 := (Below.refl w3.heap.size w3).alloc (Nat.le_refl _) (.cells #[.int .i64 d', .int .i64 c'] 26)
          have hb3a := bl hb3 ha3
          have hB5 := Bk.below' hB4 hb3a
          have hC5 := Bk.below' hC4 hb3a
          have hL5 := Bk.below' hL4 hb3a
          have hM5 : Bk (w3.alloc (.cells #[.int .i64 d', .int .i64 c'] 26)) w3.heap.size 26 #[.int .i64 d', .int .i64 c'] := Bk.new _ _ _
          have hbb := bl hb1a hb3a
          have hs3 := hb3.size
          have hs2 := hb1a.size
          have hL4lt := hL4.lt
          clear p0 p1 hb3 ha3 hB4 hC4 hL4 hb1a hb3a
          go_upto_region 11 with (fail)
          generalize w3.alloc (.cells #[.int .i64 d', .int .i64 c'] 26) = w4 at *
          generalize w3.heap.size = g3 at *
          have q0 : w4.cell? ⟨g2, 0, none⟩ = some (.int .i64 d') := hL5.cell 0
          have q1 : w4.cell? ⟨g2, 1, none⟩ = some (.int .i64 c') := hL5.cell 1
          have q2 : w4.cell? ⟨g3, 0, none⟩ = some (.int .i64 d') := hM5.cell 0
          have hcw : Below w4.heap.size w4 w4.drew ∧ w4.drew.cell? ⟨g2, 0, none⟩ = some (.int .i64 d') ∧ w4.drew.cell? ⟨g2, 1, none⟩ = some (.int .i64 c') ∧ w4.drew.cell? ⟨g3, 0, none⟩ = some (.int .i64 d') := ⟨(Below.refl _ _).drew, q0, q1, q2⟩
          refine wp_region_held_drew (S := fun w' => Below w4.heap.size w4 w' ∧ w'.cell? ⟨g2, 0, none⟩ = some (.int .i64 d') ∧ w'.cell? ⟨g2, 1, none⟩ = some (.int .i64 c') ∧ w'.cell? ⟨g3, 0, none⟩ = some (.int .i64 d')) (by kernel_rfl) hcw (fun _ => ?_)
          refine anyH_take (i := 0) (v := ?_) rfl (by kernel_rfl) (by kernel_rfl) (by kernel_rfl) (fun _ _ _ h => h) (by rfl) ?_ (by assumption) ?_
          rotate_left
          · intro w' hSw; (try dsimp only at hSw); go_simp; (try with_reducible rfl)
          try simp only [Act.put, List.setIfInBounds_toArray, List.set_cons_zero, List.set_cons_succ]
          refine anyH_take (i := 1) (v := ?_) rfl (by kernel_rfl) (by kernel_rfl) (by kernel_rfl) (fun _ _ _ h => h) (by rfl) ?_ (by assumption) ?_
          rotate_left
          · intro w' hSw; (try dsimp only at hSw); go_simp; (try with_reducible rfl)
          try simp only [Act.put, List.setIfInBounds_toArray, List.set_cons_zero, List.set_cons_succ]
          refine anyH_take (i := 2) (v := ?_) rfl (by kernel_rfl) (by kernel_rfl) (by kernel_rfl) (fun _ _ _ h => h) (by rfl) ?_ (by assumption) ?_
          rotate_left
          · intro w' hSw; (try dsimp only at hSw); go_simp; (try with_reducible rfl)
          try simp only [Act.put, List.setIfInBounds_toArray, List.set_cons_zero, List.set_cons_succ]
          refine anyH_take (i := 3) (v := ?_) rfl (by kernel_rfl) (by kernel_rfl) (by kernel_rfl) (fun _ _ _ h => h) (by rfl) ?_ (by assumption) ?_
          rotate_left
          · intro w' hSw; (try dsimp only at hSw); go_simp; (try with_reducible rfl)
          try simp only [Act.put, List.setIfInBounds_toArray, List.set_cons_zero, List.set_cons_succ]
          refine anyH_take (i := 4) (v := ?_) rfl (by kernel_rfl) (by kernel_rfl) (by kernel_rfl) (fun _ _ _ h => h) (by rfl) ?_ (by assumption) ?_
          rotate_left
          · intro w' hSw; (try dsimp only at hSw); go_simp; (try with_reducible rfl)
          try simp only [Act.put, List.setIfInBounds_toArray, List.set_cons_zero, List.set_cons_succ]
          refine anyH_take (i := 6) (v := ?_) rfl (by kernel_rfl) (by kernel_rfl) (by kernel_rfl) (fun _ _ _ h => h) (by rfl) ?_ (by assumption) ?_
          rotate_left
          · intro w' hSw; (try dsimp only at hSw); go_simp; (try with_reducible rfl)
          try simp only [Act.put, List.setIfInBounds_toArray, List.set_cons_zero, List.set_cons_succ]
          refine anyH_take (i := 7) (v := ?_) rfl (by kernel_rfl) (by kernel_rfl) (by kernel_rfl) (fun _ _ _ h => h) (by rfl) ?_ (by assumption) ?_
          rotate_left
          · intro w' hSw; (try dsimp only at hSw); go_simp; (try with_reducible rfl)
          try simp only [Act.put, List.setIfInBounds_toArray, List.set_cons_zero, List.set_cons_succ]
          refine anyH_call (i := 5) rfl (by kernel_rfl) (by rfl) (fun K hK => ?_)
          go_simp
          go_at_call 10; (with_reducible refine (due_any d' c' _).mono ?_); rintro e wd ⟨rfl, hbd⟩; have hX := held3 hbd (by assumption)
          refine hK.out _ _ hX (fun _ => ?_)
          clear hK K
          try simp only [Act.put, List.setIfInBounds_toArray, List.set_cons_zero, List.set_cons_succ]
          refine anyH_take (i := 8) (v := ?_) rfl (by kernel_rfl) (by kernel_rfl) (by kernel_rfl) (fun _ _ _ h => h) (by rfl) ?_ (by assumption) ?_
          rotate_left
          · intro w' hSw; (try dsimp only at hSw); go_simp; (try with_reducible rfl)
          try simp only [Act.put, List.setIfInBounds_toArray, List.set_cons_zero, List.set_cons_succ]
          refine anyH_take (i := 9) (v := ?_) rfl (by kernel_rfl) (by kernel_rfl) (by kernel_rfl) (fun _ _ _ h => h) (by rfl) ?_ (by assumption) ?_
          rotate_left
          · intro w' hSw; (try dsimp only at hSw); go_simp; (try with_reducible rfl)
          try simp only [Act.put, List.setIfInBounds_toArray, List.set_cons_zero, List.set_cons_succ]
          refine wpAnyH_done (by kernel_rfl) ?_ _
          have hbd4 := hX.1
          have hB6 := Bk.below' hB5 hbd4
          have hC6 := Bk.below' hC5 hbd4
          have hL6 := Bk.below' hL5 hbd4
          have hM6 := Bk.below' hM5 hbd4
          have hbb6 := bl hbb hbd4
          have hwrs := hb.size
          clear hX hcw q0 q1 q2 hbd4 hbd hB5 hC5 hL5 hM5 hbb
          have hwd := hbb6.size
          have hne1 : ¬ g3 = w.heap.size := by omega
          have hne2 : ¬ g3 = w.heap.size + 1 := by omega
          have hne3 : ¬ g2 = w.heap.size := by omega
          have hne4 : ¬ g2 = w.heap.size + 1 := by omega
          have hwr : IntKind.i64.wrap (now + y - last) = now + y - last := by rw [IntKind.wrap_i64]; omega
          go_upto_region 17 with (fail)
          clear hwr
          have q0 : wd.cell? ⟨g2, 0, none⟩ = some (.int .i64 d') := hL6.cell 0
          have q1 : wd.cell? ⟨g2, 1, none⟩ = some (.int .i64 c') := hL6.cell 1
          have p0 : wd.cell? ⟨w.heap.size, 0, none⟩ = some (.int .i64 d) := hB6.cell 0
          have p1 : wd.cell? ⟨w.heap.size, 1, none⟩ = some (.int .i64 c) := hB6.cell 1
          have r0 := hB6.frozen 0
          have r1 := hB6.frozen 1
          have ho := set2_only wd w.heap.size 0 1 (.int .i64 d') (.int .i64 c')
          have hB7 : Bk ((wd.setCell ⟨w.heap.size, 0, none⟩ (.int .i64 d')).setCell ⟨w.heap.size, 1, none⟩ (.int .i64 c')) w.heap.size 24 #[.int .i64 d', .int .i64 c'] := (hB6.set_ 0 (.int .i64 d')).set_ 1 (.int .i64 c')
          have hC7 := hC6.only ho (by omega)
          have hM7 := hM6.only ho (by omega)
          have hb7 := (below_then hb hbb6 hb.size).trans (below_only (B := w.heap.size) ho (Nat.le_refl _) (by omega))
          go_upto_region 18 with (fail)
          generalize (wd.setCell ⟨w.heap.size, 0, none⟩ (.int .i64 d')).setCell ⟨w.heap.size, 1, none⟩ (.int .i64 c') = we at *
          clear q0 q1 p0 p1 r0 r1 hB6 hC6 hL6 hM6 hbb6 ho
          have q2 : we.cell? ⟨g3, 0, none⟩ = some (.int .i64 d') := hM7.cell 0
          have q3 : we.cell? ⟨g3, 1, none⟩ = some (.int .i64 c') := hM7.cell 1
          have p2 : we.cell? ⟨w.heap.size + 1, 0, none⟩ = some (.int .i64 d) := hC7.cell 0
          have p3 : we.cell? ⟨w.heap.size + 1, 1, none⟩ = some (.int .i64 c) := hC7.cell 1
          have r2 := hC7.frozen 0
          have r3 := hC7.frozen 1
          have ho := set2_only we (w.heap.size + 1) 0 1 (.int .i64 d') (.int .i64 c')
          have hC8 : Bk ((we.setCell ⟨w.heap.size + 1, 0, none⟩ (.int .i64 d')).setCell ⟨w.heap.size + 1, 1, none⟩ (.int .i64 c')) (w.heap.size + 1) 26 #[.int .i64 d', .int .i64 c'] := (hC7.set_ 0 (.int .i64 d')).set_ 1 (.int .i64 c')
          have hB8 := hB7.only ho (by omega)
          have hb8 := hb7.trans (below_only (B := w.heap.size) ho (by omega) hb7.size)
          clear hC7 hM7 hB7 hb7 ho
          go_wp2_with fail
          go_roundw
          case rel => exact ⟨k + 1, d', c', now + y, now + y, by omega, by omega, by go_num, rfl, rfl, hinv, hB8, hC8, hb8⟩
          case measure => simp [intOf]; omega
      · go_wp2_with fail
        refine (awake_any _).mono ?_
        rintro e w9 ⟨rfl, hb9⟩
        go_wp2_with fail
        go_ret
        exact ⟨rfl, below_then hb hb9 hb.size⟩
    · go_wp2_with fail
      refine (awake_any _).mono ?_
      rintro e w9 ⟨rfl, hb9⟩
      go_wp2_with fail
      go_ret
      exact ⟨rfl, below_then hb hb9 hb.size⟩
end Go.Proofs.Ytapanifgnpklpaa
