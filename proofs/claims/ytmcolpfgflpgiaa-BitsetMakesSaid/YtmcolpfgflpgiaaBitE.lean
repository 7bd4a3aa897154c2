/-
  The walk of the law BitsetMakes.
-/
import Derived.Test.YtmcolpfgflpgiaaBitD
import Derived.Deep.RegionHeld3
import Derived.Deep.Cut
import Derived.Deep.CutRange
import Derived.Laws.StructEq
namespace Go.Proofs.Ytmcolpfgflpgiaa
open Go.RowKit

theorem set_box (w : World) (L : List Bool) : w.alloc (.cells #[.int .i64 (L.length : Nat), .int .u64 (wdN L 0 : Nat), .int .u64 (wdN L 1 : Nat), .int .u64 (wdN L 2 : Nat), .int .u64 (wdN L 3 : Nat)] 26) = w.alloc (.cells #[.int .i64 (L.length : Nat), .int .u64 (wdN L 0 : Nat), .int .u64 (wdN L 1 : Nat), .int .u64 (wdN L 2 : Nat), .int .u64 (wdN L 3 : Nat)] 26) := rfl
theorem setB_twice (L : List Bool) (i : Int) (u v : Bool) : setB (setB L i u) i v = setB L i v := by
  unfold setB
  split
  · simp
  · rfl

theorem cell_drew {w w1 : World} {a : Addr} {v : Value} (hb : Below w.drew.heap.size w.drew w1) (h : w.cell? a = some v) : w1.cell? a = some v :=
  ((below_of_drew hb).cell (World.block_lt_of_cell? w _ h)).trans h
theorem held6 {w w1 : World} (hb : Below w.heap.size w w1) {a0 a1 a2 a3 a4 a5 : Addr} {v0 v1 v2 v3 v4 v5 : Value}
    (h : w.cell? a0 = some v0 ∧ w.cell? a1 = some v1 ∧ w.cell? a2 = some v2 ∧ w.cell? a3 = some v3 ∧ w.cell? a4 = some v4 ∧ w.cell? a5 = some v5) :
    w1.cell? a0 = some v0 ∧ w1.cell? a1 = some v1 ∧ w1.cell? a2 = some v2 ∧ w1.cell? a3 = some v3 ∧ w1.cell? a4 = some v4 ∧ w1.cell? a5 = some v5 := by
  have k : ∀ {a : Addr} {v : Value}, w.cell? a = some v → w1.cell? a = some v := fun h => (hb.cell (World.block_lt_of_cell? w _ h)).trans h
  exact ⟨k h.1, k h.2.1, k h.2.2.1, k h.2.2.2.1, k h.2.2.2.2.1, k h.2.2.2.2.2⟩
theorem bel_a {w w1 : World} (h : Below w.drew.heap.size w.drew w1) : Below w.heap.size w w1 := below_of_drew h
theorem bel_b {w w1 : World} {o : Obj} (h : Below (w.alloc o).drew.heap.size (w.alloc o).drew w1) : Below w.heap.size w w1 := below_of_alloc (below_of_drew h)
/-- What the first statement of a round leaves: a new set's block. -/
def MkCut (wr : World) (M : List Bool) (s : Value) (wx : World) : Prop := ∃ h : Nat, s = .pointer (some ⟨h, 0, none⟩) ∧ SetAt wx h M ∧ wr.heap.size ≤ h ∧ Below wr.heap.size wr wx
theorem MkCut.a {wr w3 : World} (hbw : Below wr.heap.size wr w3) (M : List Bool) : MkCut wr M (.pointer (some ⟨w3.heap.size, 0, none⟩)) (w3.alloc (.cells #[.int .i64 (M.length : Nat), .int .u64 (wdN M 0 : Nat), .int .u64 (wdN M 1 : Nat), .int .u64 (wdN M 2 : Nat), .int .u64 (wdN M 3 : Nat)] 26)) :=
  ⟨w3.heap.size, rfl, SetAt.new w3 M, hbw.size, hbw.alloc hbw.size _⟩
theorem MkCut.b {wr w3 : World} (hbw : Below wr.heap.size wr w3) (hz : ZeroAt w3 wr.heap.size) (M : List Bool) : MkCut wr M (.pointer (some ⟨wr.heap.size, 0, none⟩)) (((((w3.setCell ⟨wr.heap.size, 0, none⟩ (.int .i64 (M.length : Nat))).setCell ⟨wr.heap.size, 1, none⟩ (.int .u64 (wdN M 0 : Nat))).setCell ⟨wr.heap.size, 2, none⟩ (.int .u64 (wdN M 1 : Nat))).setCell ⟨wr.heap.size, 3, none⟩ (.int .u64 (wdN M 2 : Nat))).setCell ⟨wr.heap.size, 4, none⟩ (.int .u64 (wdN M 3 : Nat))) :=
  ⟨wr.heap.size, rfl, ZeroAt.put hz M, Nat.le_refl _, hbw.trans (below_only (put_only w3 wr.heap.size M) (Nat.le_refl _) hbw.size)⟩
theorem zero_b {wr w3 : World} (hb3 : Below (wr.alloc (.cells #[.int .i64 0, .int .u64 0, .int .u64 0, .int .u64 0, .int .u64 0] 26)).drew.heap.size (wr.alloc (.cells #[.int .i64 0, .int .u64 0, .int .u64 0, .int .u64 0, .int .u64 0] 26)).drew w3) : ZeroAt w3 wr.heap.size :=
  Bk.below' (Bk.drew (Bk.new wr _ _)) hb3
theorem SetAt.free {w : World} {g : Nat} {L : List Bool} (h : SetAt w g L) : w.frozen? ⟨g, 0, none⟩ = false ∧ w.frozen? ⟨g, 1, none⟩ = false ∧ w.frozen? ⟨g, 2, none⟩ = false ∧ w.frozen? ⟨g, 3, none⟩ = false ∧ w.frozen? ⟨g, 4, none⟩ = false :=
  ⟨Bk.frozen h 0, Bk.frozen h 1, Bk.frozen h 2, Bk.frozen h 3, Bk.frozen h 4⟩
theorem heldB {wr w w1 : World} (hb : Below w.heap.size w w1) {a0 a1 a2 a3 a4 : Addr} {v0 v1 v2 v3 v4 : Value}
    (h : Below wr.heap.size wr w ∧ w.cell? a0 = some v0 ∧ w.cell? a1 = some v1 ∧ w.cell? a2 = some v2 ∧ w.cell? a3 = some v3 ∧ w.cell? a4 = some v4) :
    Below wr.heap.size wr w1 ∧ w1.cell? a0 = some v0 ∧ w1.cell? a1 = some v1 ∧ w1.cell? a2 = some v2 ∧ w1.cell? a3 = some v3 ∧ w1.cell? a4 = some v4 := by
  have k : ∀ {a : Addr} {v : Value}, w.cell? a = some v → w1.cell? a = some v := fun h => (hb.cell (World.block_lt_of_cell? w _ h)).trans h
  exact ⟨bl h.1 hb, k h.2.1, k h.2.2.1, k h.2.2.2.1, k h.2.2.2.2.1, k h.2.2.2.2.2⟩
theorem with_agg (L : List Bool) (i : Int) (w : World) (hL : L.length ≤ 256) : Calls Try.prog 16 #[.agg #[.int .i64 ((L).length : Nat), .int .u64 (wdN (L) 0 : Nat), .int .u64 (wdN (L) 1 : Nat), .int .u64 (wdN (L) 2 : Nat), .int .u64 (wdN (L) 3 : Nat)], .int .i64 i] w fun e w' => e = .returned (.agg #[.int .i64 ((setB L i true).length : Nat), .int .u64 (wdN (setB L i true) 0 : Nat), .int .u64 (wdN (setB L i true) 1 : Nat), .int .u64 (wdN (setB L i true) 2 : Nat), .int .u64 (wdN (setB L i true) 3 : Nat)]) ∧ Below w.heap.size w w' := with_any L i w hL
theorem without_agg (L : List Bool) (i : Int) (w : World) (hL : L.length ≤ 256) : Calls Try.prog 12 #[.agg #[.int .i64 ((L).length : Nat), .int .u64 (wdN (L) 0 : Nat), .int .u64 (wdN (L) 1 : Nat), .int .u64 (wdN (L) 2 : Nat), .int .u64 (wdN (L) 3 : Nat)], .int .i64 i] w fun e w' => e = .returned (.agg #[.int .i64 ((setB L i false).length : Nat), .int .u64 (wdN (setB L i false) 0 : Nat), .int .u64 (wdN (setB L i false) 1 : Nat), .int .u64 (wdN (setB L i false) 2 : Nat), .int .u64 (wdN (setB L i false) 3 : Nat)]) ∧ Below w.heap.size w w' := without_any L i w hL
theorem without_with (L : List Bool) (i : Int) (w : World) (hL : L.length ≤ 256) : Calls Try.prog 12 #[.agg #[.int .i64 ((setB L i true).length : Nat), .int .u64 (wdN (setB L i true) 0 : Nat), .int .u64 (wdN (setB L i true) 1 : Nat), .int .u64 (wdN (setB L i true) 2 : Nat), .int .u64 (wdN (setB L i true) 3 : Nat)], .int .i64 i] w fun e w' => e = .returned (.agg #[.int .i64 ((setB L i false).length : Nat), .int .u64 (wdN (setB L i false) 0 : Nat), .int .u64 (wdN (setB L i false) 1 : Nat), .int .u64 (wdN (setB L i false) 2 : Nat), .int .u64 (wdN (setB L i false) 3 : Nat)]) ∧ Below w.heap.size w w' := by
  have h := without_any (setB L i true) i w (by rw [setB_length]; exact hL)
  rw [setB_twice] at h
  exact h
/-- What holds at each round of the law. -/
def MkRel (w : World) (g n : Nat) (L : List Bool) (A : Option Addr) (c : Nat) (wr : World) : Prop :=
  L.length = n ∧ n ≤ c ∧ c ≤ maxLen ∧ Rd wr A (L.map Value.bool) ∧ Off g A (L.map Value.bool) ∧ SetAt wr g L ∧ w.heap.size ≤ g ∧ Below w.heap.size w wr

/-- The program's `==` of two arrays of four words. -/
@[go_sem] theorem eq_words (a0 a1 a2 a3 b0 b1 b2 b3 : Int) (w : World) : (Op.equalIn 9999 24 (.agg #[.int .u64 a0, .int .u64 a1, .int .u64 a2, .int .u64 a3]) (.agg #[.int .u64 b0, .int .u64 b1, .int .u64 b2, .int .u64 b3])).run Try.prog w = .ok (a0 == b0 && a1 == b1 && a2 == b2 && a3 == b3) w := by
  have u3 := Try.underlying23
  have a3' := Try.isAgg23
  have z3 := Try.sizeOf23
  rw [show (9999 : Nat) = 9998 + 1 from rfl, Op.equalIn]
  simp only [Sem.run_bind, run_underlying Try.underlying24, Result.andThen_ok]
  simp only [Std.Legacy.Range.forIn_eq_forIn_range', Std.Legacy.Range.size, Nat.sub_zero, Nat.add_sub_cancel, Nat.div_one, List.range'_succ, List.range'_zero, List.forIn_cons, List.forIn_nil]
  go_simp
  by_cases h1 : a0 = b0 <;> by_cases h2 : a1 = b1 <;> by_cases h3 : a2 = b2 <;> by_cases h4 : a3 = b3 <;> simp [h1, h2, h3, h4]

set_option maxRecDepth 100000 in
set_option maxHeartbeats 2000000 in
theorem bitsetMakes_walk (n : Int) (A : Option Addr) (m c : Nat) (xs : List Int) (B : Option Addr) (m2 d : Nat) (ys : List Int) (i : Int) (w : World) (_l : -9223372036854775808 ≤ n) (_u : n ≤ 9223372036854775807)
    (hx : xs.length = m) (hr : Rd w A (xs.map (Value.int .i64))) (hm : m ≤ c) (hc : c * 8 ≤ 140737488351232) (hy : ys.length = m2) (hs : Rd w B (ys.map (Value.int .i64))) (_hm2 : m2 ≤ d) (_hd : d * 8 ≤ 140737488351232)
    (_l2 : -9223372036854775808 ≤ i) (_u2 : i ≤ 9223372036854775807) :
    Calls Try.prog 4 #[.int .i64 n, .slice A m c, .slice B m2 d, .int .i64 i] w (Yes w) := by
  have Hx := Lib.hid hx
  have Hy := Lib.hid hy
  clear hx hy
  go_enter Try.func4, Try.ntmps4
  go_wp2_with fail
  refine (of_any n _ _ _ xs _ Hx.out hr (by omega)).mono ?_
  have hL : (ofB n xs).length ≤ 256 := by rw [ofB_length]; exact clampB_le n
  generalize ofB n xs = L0 at hL ⊢
  rintro e w1 ⟨A1, c1, rfl, hn1, hm1, hr1, hb1⟩
  obtain ⟨N, hN⟩ : ∃ N, L0.length = N := ⟨_, rfl⟩
  have HN := Lib.hid hN
  rw [hN] at hn1 hL ⊢
  obtain ⟨g, hg⟩ : ∃ g, g = w1.heap.size := ⟨_, rfl⟩
  have Hg := Lib.hid hg
  have hS := SetAt.new w1 L0
  rw [← hg] at hS
  have hbox := (Below.refl w1.heap.size w1).alloc (Nat.le_refl _) (.cells #[.int .i64 (L0.length : Nat), .int .u64 (wdN L0 0 : Nat), .int .u64 (wdN L0 1 : Nat), .int .u64 (wdN L0 2 : Nat), .int .u64 (wdN L0 3 : Nat)] 26)
  have hrA := hr1.below hbox
  have hgw : w.heap.size ≤ g := by rw [hg]; exact hb1.size
  have hoff : Off g A1 (L0.map Value.bool) := Off.old hr1 (by omega)
  unfold setV
  clear hg hN
  go_wp2_with fail
  refine (sameSet_any A1 N c1 L0 _ HN.out hL hrA).mono ?_
  rintro e w2 ⟨rfl, hb2⟩
  have hrel0 : MkRel w g N L0 A1 c1 w2 := ⟨HN.out, hn1, hm1, hrA.below hb2, hoff, hS.below' hb2, hgw, bl hb1 (below_of_alloc hb2)⟩
  clear hS hbox hrA hoff hr1 hn1 hm1 hb2 hb1
  go_wp2_with fail
  rw [← Hg.out]
  go_loopw [10, 11, 12, 13] (fun x i y z wr => ∃ (k : Nat) (L : List Bool) (A' : Option Addr) (c' : Nat), k ≤ m2 ∧ i = .int .i64 k ∧ x = .slice A' N c' ∧ MkRel w g N L A' c' wr) (fun _ i _ _ _ => m2 - (intOf i).toNat)
  case atStart => exact ⟨0, L0, A1, c1, by omega, rfl, rfl, hrel0⟩
  case round =>
    obtain ⟨k, L, A', c', hkm, rfl, rfl, hR⟩ := hrel
    obtain ⟨hLN, hnc, hcm, hrb, hoff, hS, hgw, hb⟩ := hR
    have HLN := Lib.hid hLN
    have hL256 : L.length ≤ 256 := by omega
    clear hLN hrel0
    obtain ⟨hc0, hc1, hc2, hc3, hc4⟩ := hS.cells
    by_cases hlt : (k : Int) < (m2 : Int)
    · by_cases h300 : (k : Int) < 300
      · obtain ⟨bb, oo, rfl, hcell⟩ := (hs.below hb).at_ (k := k) (by have := Hy.out; simp; omega)
        rw [List.getElem_map] at hcell
        generalize ys[k]'(by have := Hy.out; omega) = x at hcell
        have n0 := World.new_ne wr _ hc0
        have n5 := World.new_ne wr _ hcell
        have l0 := World.block_lt_of_cell? wr _ hc0
        have l5 := World.block_lt_of_cell? wr _ hcell
        simp only at n0 n5 l0 l5
        go_upto_region 7 with (fail)
        go_cut [12] from 24 to 57 (fun s wx => MkCut wr (setB L x false) s wx)
        case first =>
          go_region_with (go_at_call 12; refine (without_any L _ _ hL256).mono ?_; rintro e w3 ⟨rfl, hb3⟩; unfold setV; first | (have hz := zero_b hb3; have hbw := bel_b hb3; obtain ⟨f0, f1, f2, f3, f4⟩ := hz.cells; obtain ⟨z0, z1, z2, z3, z4⟩ := hz.free) | (have hbw := bel_a hb3))
          all_goals
            go_wp2_with fail
            go_meet
            first
              | exact MkCut.b hbw hz _
              | exact MkCut.a hbw _
        case rest =>
          obtain ⟨h, rfl, hSc, hwh, hbw⟩ := hcut
          have hSg := hS.below' hbw
          have hcw := (hbw.cell l5).trans hcell
          have hrw := hrb.below hbw
          have hbW := below_then hb hbw hb.size
          clear hc0 hc1 hc2 hc3 hc4 hcell
          go_wp2_with fail
          refine (setRef_any A' N c' L x false _ HLN.out (by omega) hrw).mono ?_
          rintro e w4 ⟨A4, c4, rfl, hn4, hm4, hr4, hfr4, hb4⟩
          have hSc4 := hSc.below' hb4
          have hSg4 := hSg.below' hb4
          have hrw4 := hrw.below hb4
          have hgl := hSg.lt'
          obtain ⟨hc0, hc1, hc2, hc3, hc4⟩ := hSc4.cells
          go_wp2_with fail
          refine (sameSet_any A4 N c4 (setB L x false) _ (by rw [setB_length]; exact HLN.out) hL hr4).mono ?_
          rintro e w5 ⟨rfl, hb5⟩
          have hSc5 := hSc4.below' hb5
          have hSg5 := hSg4.below' hb5
          have hrw5 := hrw4.below hb5
          clear hc0 hc1 hc2 hc3 hc4
          obtain ⟨hc0, hc1, hc2, hc3, hc4⟩ := hSg5.cells
          go_wp2_with fail
          refine (sameSet_any A' N c' L _ HLN.out hL hrw5).mono ?_
          rintro e w6 ⟨rfl, hb6⟩
          have hSc6 := hSc5.below' hb6
          have hSg6 := hSg5.below' hb6
          clear hc0 hc1 hc2 hc3 hc4
          obtain ⟨hc0, hc1, hc2, hc3, hc4⟩ := hSc6.cells
          obtain ⟨d0, d1, d2, d3, d4⟩ := hSg6.cells
          obtain ⟨z0, z1, z2, z3, z4⟩ := SetAt.free hSg6
          go_wp2_with fail
          have hfin : MkRel w g N (setB L x false) A4 c4 (((((w6.setCell ⟨g, 0, none⟩ (.int .i64 ((setB L x false).length : Nat))).setCell ⟨g, 1, none⟩ (.int .u64 (wdN (setB L x false) 0 : Nat))).setCell ⟨g, 2, none⟩ (.int .u64 (wdN (setB L x false) 1 : Nat))).setCell ⟨g, 3, none⟩ (.int .u64 (wdN (setB L x false) 2 : Nat))).setCell ⟨g, 4, none⟩ (.int .u64 (wdN (setB L x false) 3 : Nat))) := by
            have hon := put_only w6 g (setB L x false)
            have hg6 := hSg6.lt'
            refine ⟨by rw [setB_length]; exact HLN.out, hn4, hm4, ((hr4.below hb5).below hb6).only hon (Off.fresh hfr4 hgl), Off.fresh hfr4 hgl, SetAt.put hSg6 _, hgw, ?_⟩
            exact ((below_then (below_then (below_then hbW hb4 hbW.size) hb5 (by have := hb4.size; have := hbW.size; omega)) hb6 (by have := hb4.size; have := hb5.size; have := hbW.size; omega))).trans (below_only hon hgw (by omega))
          clear hc0 hc1 hc2 hc3 hc4 d0 d1 d2 d3 d4 z0 z1 z2 z3 z4
          go_roundw
          case rel =>
            exact ⟨k + 1, setB L x false, A4, c4, by omega, by go_num, rfl, hfin⟩
          case measure => simp [intOf]; omega
      · have hcw : Below wr.heap.size wr wr.drew ∧ wr.drew.cell? ⟨g, 0, none⟩ = some (.int .i64 (L.length : Nat)) ∧ wr.drew.cell? ⟨g, 1, none⟩ = some (.int .u64 (wdN L 0 : Nat)) ∧ wr.drew.cell? ⟨g, 2, none⟩ = some (.int .u64 (wdN L 1 : Nat)) ∧ wr.drew.cell? ⟨g, 3, none⟩ = some (.int .u64 (wdN L 2 : Nat)) ∧ wr.drew.cell? ⟨g, 4, none⟩ = some (.int .u64 (wdN L 3 : Nat)) := ⟨(Below.refl _ _).drew, hc0, hc1, hc2, hc3, hc4⟩
        go_wp2_with fail
        go_region_held3 (fun w' => Below wr.heap.size wr w' ∧ w'.cell? ⟨g, 0, none⟩ = some (.int .i64 (L.length : Nat)) ∧ w'.cell? ⟨g, 1, none⟩ = some (.int .u64 (wdN L 0 : Nat)) ∧ w'.cell? ⟨g, 2, none⟩ = some (.int .u64 (wdN L 1 : Nat)) ∧ w'.cell? ⟨g, 3, none⟩ = some (.int .u64 (wdN L 2 : Nat)) ∧ w'.cell? ⟨g, 4, none⟩ = some (.int .u64 (wdN L 3 : Nat))) (first | exact hcw | assumption)
          (first
            | (go_at_call 14; refine (has_any L _ _ hL256).mono ?_; rintro e w3 ⟨rfl, hb3⟩; have hX := heldB hb3 (by assumption))
            | (go_at_call 15; refine (hasRef_any A' N c' L _ _ HLN.out (by omega) (hrb.below (And.left (by assumption)))).mono ?_; rintro e w4 ⟨rfl, rfl⟩)
            | (go_at_call 16; with_reducible refine (with_agg L _ _ hL256).mono ?_; rintro e w5 ⟨rfl, hb5⟩; have hX := heldB hb5 (by assumption))
            | (go_at_call 12; with_reducible refine (without_with L _ _ hL256).mono ?_; rintro e w6 ⟨rfl, hb6⟩; have hX := heldB hb6 (by assumption))
            | (go_at_call 12; with_reducible refine (without_agg L _ _ hL256).mono ?_; rintro e w7 ⟨rfl, hb7⟩; have hX := heldB hb7 (by assumption))
            | (go_at_call 10; refine (awake_any _).mono ?_; rintro e w8 ⟨rfl, hb8⟩; have hX := heldB hb8 (by assumption)))
        go_wp2_with fail
        go_ret
        exact ⟨rfl, bl hb (And.left (by assumption))⟩
    · have hcw : Below wr.heap.size wr wr.drew ∧ wr.drew.cell? ⟨g, 0, none⟩ = some (.int .i64 (L.length : Nat)) ∧ wr.drew.cell? ⟨g, 1, none⟩ = some (.int .u64 (wdN L 0 : Nat)) ∧ wr.drew.cell? ⟨g, 2, none⟩ = some (.int .u64 (wdN L 1 : Nat)) ∧ wr.drew.cell? ⟨g, 3, none⟩ = some (.int .u64 (wdN L 2 : Nat)) ∧ wr.drew.cell? ⟨g, 4, none⟩ = some (.int .u64 (wdN L 3 : Nat)) := ⟨(Below.refl _ _).drew, hc0, hc1, hc2, hc3, hc4⟩
      go_wp2_with fail
      go_region_held3 (fun w' => Below wr.heap.size wr w' ∧ w'.cell? ⟨g, 0, none⟩ = some (.int .i64 (L.length : Nat)) ∧ w'.cell? ⟨g, 1, none⟩ = some (.int .u64 (wdN L 0 : Nat)) ∧ w'.cell? ⟨g, 2, none⟩ = some (.int .u64 (wdN L 1 : Nat)) ∧ w'.cell? ⟨g, 3, none⟩ = some (.int .u64 (wdN L 2 : Nat)) ∧ w'.cell? ⟨g, 4, none⟩ = some (.int .u64 (wdN L 3 : Nat))) (first | exact hcw | assumption)
        (first
          | (go_at_call 14; refine (has_any L _ _ hL256).mono ?_; rintro e w3 ⟨rfl, hb3⟩; have hX := heldB hb3 (by assumption))
          | (go_at_call 15; refine (hasRef_any A' N c' L _ _ HLN.out (by omega) (hrb.below (And.left (by assumption)))).mono ?_; rintro e w4 ⟨rfl, rfl⟩)
          | (go_at_call 16; with_reducible refine (with_agg L _ _ hL256).mono ?_; rintro e w5 ⟨rfl, hb5⟩; have hX := heldB hb5 (by assumption))
          | (go_at_call 12; with_reducible refine (without_with L _ _ hL256).mono ?_; rintro e w6 ⟨rfl, hb6⟩; have hX := heldB hb6 (by assumption))
          | (go_at_call 12; with_reducible refine (without_agg L _ _ hL256).mono ?_; rintro e w7 ⟨rfl, hb7⟩; have hX := heldB hb7 (by assumption))
          | (go_at_call 10; refine (awake_any _).mono ?_; rintro e w8 ⟨rfl, hb8⟩; have hX := heldB hb8 (by assumption)))
      go_wp2_with fail
      go_ret
      exact ⟨rfl, bl hb (And.left (by assumption))⟩
end Go.Proofs.Ytmcolpfgflpgiaa
