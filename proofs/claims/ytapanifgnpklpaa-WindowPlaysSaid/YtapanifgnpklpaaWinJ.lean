/-
  The law WindowBound: the walk.
-/
import Derived.Test.YtapanifgnpklpaaWinI
import Derived.Test.YtapanifgnpklpaaWinF
import Derived.Test.YtapanifgnpklpaaFrameD
import Derived.Test.YtapanifgnpklpaaBitO
import Derived.Test.YtapanifgnpklpaaTake
import Derived.Deep.Cut
import Derived.Deep.CutRange
namespace Go.Proofs.Ytapanifgnpklpaa
open Go.RowKit

theorem of_is (n : Int) (A : Option Addr) (m c : Nat) (xs : List Int) (L : List Bool) (hL : ofB n xs = L) (w : World) (hx : xs.length = m) (hr : Rd w A (xs.map (Value.int .i64))) (hm : m ≤ 9223372036854775807) :
    Calls Try.prog 22 #[.int .i64 n, .slice A m c] w (fun e w' => ∃ Ao co, e = .returned (.tuple #[.agg #[.int .i64 (L.length : Nat), .int .u64 (wdN L 0 : Nat), .int .u64 (wdN L 1 : Nat), .int .u64 (wdN L 2 : Nat), .int .u64 (wdN L 3 : Nat)], .slice Ao L.length co]) ∧ L.length ≤ co ∧ co ≤ maxLen ∧ Rd w' Ao (L.map Value.bool) ∧ Below w.heap.size w w') := by
  subst hL
  exact of_any n A m c xs w hx hr hm
theorem heldb {w0 w w1 : World} {a : Addr} {v : Value} (hb : Below w.heap.size w w1) (h : Below w0.heap.size w0 w ∧ w.cell? a = some v) : Below w0.heap.size w0 w1 ∧ w1.cell? a = some v :=
  ⟨bl h.1 hb, (hb.cell (World.block_lt_of_cell? w _ h.2)).trans h.2⟩
theorem heldc {w0 w : World} {a : Addr} {v : Value} (o : Obj) (h : Below w0.heap.size w0 w ∧ w.cell? a = some v) : Below w0.heap.size w0 (w.alloc o) ∧ (w.alloc o).cell? a = some v :=
  heldb ((Below.refl _ _).alloc (Nat.le_refl _) o) h
theorem heldd {w0 w : World} {a : Addr} {v : Value} (L : List Bool) {hq : Nat} (hqb : w0.heap.size ≤ hq) (h : Below w0.heap.size w0 w ∧ w.cell? a = some v) (ha : a.block < w0.heap.size) :
    Below w0.heap.size w0 (((((w.setCell ⟨hq, 0, none⟩ (.int .i64 (L.length : Nat))).setCell ⟨hq, 1, none⟩ (.int .u64 (wdN L 0 : Nat))).setCell ⟨hq, 2, none⟩ (.int .u64 (wdN L 1 : Nat))).setCell ⟨hq, 3, none⟩ (.int .u64 (wdN L 2 : Nat))).setCell ⟨hq, 4, none⟩ (.int .u64 (wdN L 3 : Nat))) ∧
    (((((w.setCell ⟨hq, 0, none⟩ (.int .i64 (L.length : Nat))).setCell ⟨hq, 1, none⟩ (.int .u64 (wdN L 0 : Nat))).setCell ⟨hq, 2, none⟩ (.int .u64 (wdN L 1 : Nat))).setCell ⟨hq, 3, none⟩ (.int .u64 (wdN L 2 : Nat))).setCell ⟨hq, 4, none⟩ (.int .u64 (wdN L 3 : Nat))).cell? a = some v :=
  ⟨h.1.trans (below_only (put_only w hq L) hqb h.1.size), (put_only w hq L).cell h.2 (by simp; omega)⟩

theorem held5 {wr w w1 : World} (hb : Below w.heap.size w w1) {a0 a1 a2 a3 a4 : Addr} {v0 v1 v2 v3 v4 : Value}
    (h : Below wr.heap.size wr w ∧ w.cell? a0 = some v0 ∧ w.cell? a1 = some v1 ∧ w.cell? a2 = some v2 ∧ w.cell? a3 = some v3 ∧ w.cell? a4 = some v4) :
    Below wr.heap.size wr w1 ∧ w1.cell? a0 = some v0 ∧ w1.cell? a1 = some v1 ∧ w1.cell? a2 = some v2 ∧ w1.cell? a3 = some v3 ∧ w1.cell? a4 = some v4 := by
  have k : ∀ {a : Addr} {v : Value}, w.cell? a = some v → w1.cell? a = some v := fun h => (hb.cell (World.block_lt_of_cell? w _ h)).trans h
  exact ⟨bl h.1 hb, k h.2.1, k h.2.2.1, k h.2.2.2.1, k h.2.2.2.2.1, k h.2.2.2.2.2⟩

theorem held5k {w w1 : World} (hb : Below w.heap.size w w1) {a0 a1 a2 a3 a4 : Addr} {v0 v1 v2 v3 v4 : Value} (h : w.cell? a0 = some v0 ∧ w.cell? a1 = some v1 ∧ w.cell? a2 = some v2 ∧ w.cell? a3 = some v3 ∧ w.cell? a4 = some v4) :
    w1.cell? a0 = some v0 ∧ w1.cell? a1 = some v1 ∧ w1.cell? a2 = some v2 ∧ w1.cell? a3 = some v3 ∧ w1.cell? a4 = some v4 :=
  (held5 (wr := w) hb ⟨Below.refl _ _, h⟩).2
theorem held5o {w w1 : World} {g hq : Nat} (ho : w.grownBy w1 (some g)) (hne : hq ≠ g) {v0 v1 v2 v3 v4 : Value} (h : w.cell? ⟨hq, 0, none⟩ = some v0 ∧ w.cell? ⟨hq, 1, none⟩ = some v1 ∧ w.cell? ⟨hq, 2, none⟩ = some v2 ∧ w.cell? ⟨hq, 3, none⟩ = some v3 ∧ w.cell? ⟨hq, 4, none⟩ = some v4) :
    w1.cell? ⟨hq, 0, none⟩ = some v0 ∧ w1.cell? ⟨hq, 1, none⟩ = some v1 ∧ w1.cell? ⟨hq, 2, none⟩ = some v2 ∧ w1.cell? ⟨hq, 3, none⟩ = some v3 ∧ w1.cell? ⟨hq, 4, none⟩ = some v4 :=
  ⟨ho.cell h.1 (by simpa using hne), ho.cell h.2.1 (by simpa using hne), ho.cell h.2.2.1 (by simpa using hne), ho.cell h.2.2.2.1 (by simpa using hne), ho.cell h.2.2.2.2 (by simpa using hne)⟩
theorem neq_self (n a0 a1 a2 a3 : Int) (w : World) : (binOp .neq 39 (.agg #[.int .i64 n, .int .u64 a0, .int .u64 a1, .int .u64 a2, .int .u64 a3]) (.agg #[.int .i64 n, .int .u64 a0, .int .u64 a1, .int .u64 a2, .int .u64 a3])).run Try.prog w = .ok (.bool false) w := by
  have h := eq_sets n n a0 a1 a2 a3 a0 a1 a2 a3 w
  rw [run_eql_struct] at h
  rw [run_neq_struct]
  revert h
  generalize (Op.equalIn 10000 39 (.agg #[.int .i64 n, .int .u64 a0, .int .u64 a1, .int .u64 a2, .int .u64 a3]) (.agg #[.int .i64 n, .int .u64 a0, .int .u64 a1, .int .u64 a2, .int .u64 a3])).run Try.prog w = r
  intro h
  cases r with
  | ok b w1 =>
    simp only [Result.andThen_ok, beq_self_eq_true, Bool.and_self] at h ⊢
    cases h
    rfl
  | halt x w1 => simp [Result.andThen] at h
theorem next_is (L : List Bool) (i : Int) (v : Bool) (r : Int) (h : nextB L i v = r) (w : World) (hL : L.length ≤ 256) : Calls Try.prog 29 #[.agg #[.int .i64 (L.length : Nat), .int .u64 (wdN L 0 : Nat), .int .u64 (wdN L 1 : Nat), .int .u64 (wdN L 2 : Nat), .int .u64 (wdN L 3 : Nat)], .int .i64 i, .bool v] w fun e w' => e = .returned (.int .i64 r) ∧ Below w.heap.size w w' := by subst h; exact next_any L i v w hL
/-- What holds at each round. -/
def BndRel (w : World) (g N : Nat) (k : Nat) (now : Int) (wr : World) : Prop :=
  ∃ A S T, 0 ≤ now ∧ now ≤ 31 * (k : Int) ∧ WinAt wr g (N : Nat) A S T ∧ WInv N A S ∧ Below w.heap.size w wr
/-- What the set of a deed leaves. -/
def SetCut (w : World) (g N : Nat) (A S : List Bool) (T : Nat → Int × Int) (L : List Bool) (v : Value) (wx : World) : Prop :=
  ∃ hq, v = .pointer (some ⟨hq, 0, none⟩) ∧ hq ≠ g ∧ SetAt wx hq L ∧ WinAt wx g (N : Nat) A S T ∧ Below w.heap.size w wx

set_option maxRecDepth 20000 in
set_option maxHeartbeats 8000000 in
theorem windowBound_walk (n : Int) (B : Option Addr) (m c0 : Nat) (w : World) (_l : -9223372036854775808 ≤ n) (_u : n ≤ 9223372036854775807) (hm : m ≤ 9223372036854775807) (hD : DeedsAt w B m) :
    Calls Try.prog 6 #[.int .i64 n, .slice B m c0] w (Yes w) := by
  obtain ⟨N, hN⟩ : ∃ N, clampB n = N := ⟨_, rfl⟩
  have hN256 : N ≤ 256 := by rw [← hN]; exact clampB_le n
  have hL : newB n = rng N 0 0 := by rw [rng_empty, ← hN]; rfl
  have HN := Lib.hid hN
  have HL0 := Lib.hid hL
  clear hN hL
  go_enter Try.func6, Try.ntmps6
  go_wp2_with fail
  (with_reducible refine (wnew_is n N (rng N 0 0) HN.out HL0.out _).mono ?_)
  rintro e w1 ⟨g, rfl, hg, hW1, hb1⟩
  have hrel0 : BndRel w g N 0 0 w1 := ⟨_, _, _, by omega, by omega, hW1, winv_new N, hb1⟩
  clear hW1 hb1
  go_upto_region 4 with (fail)
  go_loopw [6, 7] (fun nw i wr => ∃ (k : Nat) (now : Int), k ≤ m ∧ k ≤ 60 ∧ i = .int .i64 k ∧ nw = .int .i64 now ∧ BndRel w g N k now wr) (fun _ i _ => m - (intOf i).toNat)
  case atStart => exact ⟨0, 0, by omega, by omega, rfl, rfl, hrel0⟩
  case round =>
    clear hrel0
    obtain ⟨k, now, hkm, hk60, rfl, rfl, A, S, T, hn0, hn1, hW, hI, hb⟩ := hrel
    by_cases hlt : (k : Int) < (m : Int)
    · by_cases h60 : (k : Int) < 60
      · obtain ⟨bb, oo, kd, td, sd, LA, ln, lc, xs, rfl, q0, q1, q2, q3, hxl, hln, hrL⟩ := (hD k (by omega)).below hb
        have hab := (Below.refl wr.heap.size wr).alloc (Nat.le_refl _) (.cells #[.int .i64 kd, .int .i64 td, .int .i64 sd, .slice LA ln lc] 50)
        have hX0 : Bk (wr.alloc (.cells #[.int .i64 kd, .int .i64 td, .int .i64 sd, .slice LA ln lc] 50)) wr.heap.size 50 #[.int .i64 kd, .int .i64 td, .int .i64 sd, .slice LA ln lc] := Bk.new _ _ _
        have hW0 := hW.below' hab
        have hrL0 := hrL.below hab
        have hb0 : Below w.heap.size w (wr.alloc (.cells #[.int .i64 kd, .int .i64 td, .int .i64 sd, .slice LA ln lc] 50)) := below_then hb hab hb.size
        have Hxl := Lib.hid hxl
        have hDlt := hX0.lt
        clear hxl hW hb hrL hab
        obtain ⟨bk, hbk⟩ : ∃ bk : Bool, bk = decide (0 ≤ kd ∧ kd ≤ 2) := ⟨_, rfl⟩
        have Hbk := Lib.hid hbk
        clear hbk
        go_upto_region 7 with (fail)
        generalize wr.alloc (.cells #[.int .i64 kd, .int .i64 td, .int .i64 sd, .slice LA ln lc] 50) = w0 at *
        generalize wr.heap.size = hd at *
        clear q0 q1 q2 q3
        have q0 : w0.cell? ⟨hd, 0, none⟩ = some (.int .i64 kd) := hX0.cell 0
        have q1 : w0.cell? ⟨hd, 1, none⟩ = some (.int .i64 td) := hX0.cell 1
        go_cut [37] from 30 to 37 (fun v wx => v = .bool bk ∧ w0 = wx)
        case first =>
          by_cases h1 : kd < 0
          · have e : bk = false := by rw [Hbk.out]; exact decide_eq_false (by omega)
            have E := Lib.hid e
            clear e
            go_wp2_with fail
            go_meet
            case rel => exact ⟨by rw [E.out], rfl⟩
          · by_cases h2 : 2 < kd
            · have e : bk = false := by rw [Hbk.out]; exact decide_eq_false (by omega)
              have E := Lib.hid e
              clear e
              go_wp2_with fail
              go_meet
              case rel => exact ⟨by rw [E.out]; simp; omega, rfl⟩
            · have e : bk = true := by rw [Hbk.out]; exact decide_eq_true (by omega)
              have E := Lib.hid e
              clear e
              go_wp2_with fail
              go_meet
              case rel => exact ⟨by rw [E.out], rfl⟩
        case rest =>
          obtain ⟨rfl, rfl⟩ := hcut
          go_upto_if 37 with (fail)
          go_cut [6] from 16 to 111 (fun nw wx => ∃ now' : Int, nw = .int .i64 now' ∧ BndRel w g N (k + 1) now' wx)
          case first =>
            cases bk with
            | true =>
              clear Hbk
              have q1 : w0.cell? ⟨hd, 1, none⟩ = some (.int .i64 td) := hX0.cell 1
              obtain ⟨y, hy, hy0, hy1⟩ : ∃ y, bits .and .i64 td 31 = y ∧ 0 ≤ y ∧ y ≤ 31 := ⟨_, and31 td, by omega, by omega⟩
              go_wp2_with fail
              refine (take_any g N A S T (now + y) _ hW0 (by rw [hI.1]; exact hN256) (by rw [hI.2.1]; exact hN256) hN256 (by omega) (by omega)).mono ?_
              rintro e w2 ⟨S1, T1, l1, A1, c1, h1, rfl, hc1, hm1, hr1, hf1, hW2, ho2⟩
              have hI1 := winv_take (now + y) N A S T hI N (Nat.le_refl _)
              rw [h1] at hI1
              obtain ⟨hI2, hl1⟩ := hI1
              have hb2 : Below w.heap.size w w2 := hb0.trans (below_only ho2 hg hb0.size)
              have hll : l1.length ≤ 256 := by have := (takeK_len (now + y) A S T N).2; rw [h1] at this; dsimp only at this; omega
              clear h1 ho2 hW0 hX0 hrL0 hb0 hf1 q0 q1
              go_upto_region 11 with (fail)
              go_loopw [10] (fun i wr => ∃ j : Nat, j ≤ l1.length ∧ i = .int .i64 j ∧ Below w2.heap.size w2 wr) (fun i _ => l1.length - (intOf i).toNat)
              case atStart => exact ⟨0, by omega, rfl, Below.refl _ _⟩
              case round =>
                obtain ⟨j, hj, rfl, hbj⟩ := hrel
                have hWl := hW2.below' hbj
                by_cases hltj : (j : Int) < (l1.length : Int)
                · obtain ⟨b1, o1, rfl, hcell⟩ := (hr1.below hbj).at_ (k := j) (by simp only [intVals, List.length_map]; omega)
                  simp only [intVals, List.getElem_map] at hcell
                  obtain ⟨x, hx, hxN, hxS⟩ := hl1 (l1[j]'(by omega)) (List.getElem_mem _)
                  rw [hx] at hcell
                  have Ha := Lib.hid ((hasB_nat A x).trans (hI2.2.2.2 x hxS))
                  have Hs := Lib.hid ((hasB_nat S1 x).trans hxS)
                  have hA : A.length ≤ 256 := by rw [hI2.1]; exact hN256
                  have hS1 : S1.length ≤ 256 := by rw [hI2.2.1]; exact hN256
                  clear hx
                  go_upto_region 13 with (fail)
                  have hcw : Below wr.heap.size wr wr.drew ∧ wr.drew.cell? ⟨b1, o1 + j, none⟩ = some (.int .i64 (x : Nat)) := ⟨(Below.refl _ _).drew, hcell⟩
                  refine wp_region_held_drew (S := fun w' => Below wr.heap.size wr w' ∧ w'.cell? ⟨b1, o1 + j, none⟩ = some (.int .i64 (x : Nat))) (by kernel_rfl) hcw (fun _ => ?_)
                  refine anyH_take (i := 0) (v := ?_) rfl (by kernel_rfl) (by kernel_rfl) (by kernel_rfl) (fun _ _ _ h => h) (by rfl) ?_ (by assumption) ?_
                  rotate_left
                  · intro w' hSw; (try dsimp only at hSw); go_simp; (try with_reducible rfl)
                  try simp only [Act.put, List.setIfInBounds_toArray, List.set_cons_zero, List.set_cons_succ]
                  refine anyH_take (i := 2) (v := ?_) rfl (by kernel_rfl) (by kernel_rfl) (by kernel_rfl) (fun _ _ _ h => h) (by rfl) ?_ (by assumption) ?_
                  rotate_left
                  · intro w' hSw; (try dsimp only at hSw); go_simp; (try with_reducible rfl)
                  try simp only [Act.put, List.setIfInBounds_toArray, List.set_cons_zero, List.set_cons_succ]
                  refine anyH_take (i := 3) (v := ?_) rfl (by kernel_rfl) (by kernel_rfl) (by kernel_rfl) (fun _ _ _ h => h) (by rfl) ?_ (by assumption) ?_
                  rotate_left
                  · intro w' hSw; (try dsimp only at hSw); go_simp; (try with_reducible rfl)
                  try simp only [Act.put, List.setIfInBounds_toArray, List.set_cons_zero, List.set_cons_succ]
                  refine anyH_take (i := 4) (v := ?_) rfl (by kernel_rfl) (by kernel_rfl) (by kernel_rfl) (fun _ _ _ h => h) (by rfl) ?_ (by assumption) ?_
                  rotate_left
                  · intro w' hSw; (try dsimp only at hSw); go_simp; (try with_reducible rfl)
                  try simp only [Act.put, List.setIfInBounds_toArray, List.set_cons_zero, List.set_cons_succ]
                  refine anyH_take (i := 5) (v := ?_) rfl (by kernel_rfl) (by kernel_rfl) (by kernel_rfl) (fun _ _ _ h => h) (by rfl) ?_ (by assumption) ?_
                  rotate_left
                  · intro w' hSw; (try dsimp only at hSw); go_simp; (try with_reducible rfl)
                  try simp only [Act.put, List.setIfInBounds_toArray, List.set_cons_zero, List.set_cons_succ]
                  refine anyH_call (i := 1) rfl (by kernel_rfl) (by rfl) (fun K hK => ?_)
                  go_simp
                  go_at_call 13; (with_reducible refine (acked_is g _ A S1 T1 _ (hWl.below' (And.left (by assumption)))).mono ?_); rintro e wa ⟨rfl, hbx⟩; have hX := heldb hbx (by assumption)
                  refine hK.out _ _ hX (fun _ => ?_)
                  clear hK K
                  try simp only [Act.put, List.setIfInBounds_toArray, List.set_cons_zero, List.set_cons_succ]
                  refine anyH_call (i := 6) rfl (by kernel_rfl) (by rfl) (fun K hK => ?_)
                  go_simp
                  first | (go_at_call 27; (with_reducible refine (has_is A (x : Nat) false Ha.out _ hA).mono ?_); rintro e wa ⟨rfl, hbx⟩; have hX := heldb hbx (by assumption)) | (go_at_call 27; (with_reducible refine (has_is S1 (x : Nat) true Hs.out _ hS1).mono ?_); rintro e wa ⟨rfl, hbx⟩; have hX := heldb hbx (by assumption))
                  refine hK.out _ _ hX (fun _ => ?_)
                  clear hK K
                  try simp only [Act.put, List.setIfInBounds_toArray, List.set_cons_zero, List.set_cons_succ]
                  refine anyH_take (i := 7) (v := ?_) rfl (by kernel_rfl) (by kernel_rfl) (by kernel_rfl) (fun _ _ _ h => h) (by rfl) ?_ (by assumption) ?_
                  rotate_left
                  · intro w' hSw; (try dsimp only at hSw); go_simp; (try with_reducible rfl)
                  try simp only [Act.put, List.setIfInBounds_toArray, List.set_cons_zero, List.set_cons_succ]
                  refine anyH_take (i := 8) (v := ?_) rfl (by kernel_rfl) (by kernel_rfl) (by kernel_rfl) (fun _ _ _ h => h) (by rfl) ?_ (by assumption) ?_
                  rotate_left
                  · intro w' hSw; (try dsimp only at hSw); go_simp; (try with_reducible rfl)
                  try simp only [Act.put, List.setIfInBounds_toArray, List.set_cons_zero, List.set_cons_succ]
                  refine anyH_take (i := 10) (v := ?_) rfl (by kernel_rfl) (by kernel_rfl) (by kernel_rfl) (fun _ _ _ h => h) (by rfl) ?_ (by assumption) ?_
                  rotate_left
                  · intro w' hSw; (try dsimp only at hSw); go_simp; (try with_reducible rfl)
                  try simp only [Act.put, List.setIfInBounds_toArray, List.set_cons_zero, List.set_cons_succ]
                  refine anyH_take (i := 11) (v := ?_) rfl (by kernel_rfl) (by kernel_rfl) (by kernel_rfl) (fun _ _ _ h => h) (by rfl) ?_ (by assumption) ?_
                  rotate_left
                  · intro w' hSw; (try dsimp only at hSw); go_simp; (try with_reducible rfl)
                  try simp only [Act.put, List.setIfInBounds_toArray, List.set_cons_zero, List.set_cons_succ]
                  refine anyH_take (i := 12) (v := ?_) rfl (by kernel_rfl) (by kernel_rfl) (by kernel_rfl) (fun _ _ _ h => h) (by rfl) ?_ (by assumption) ?_
                  rotate_left
                  · intro w' hSw; (try dsimp only at hSw); go_simp; (try with_reducible rfl)
                  try simp only [Act.put, List.setIfInBounds_toArray, List.set_cons_zero, List.set_cons_succ]
                  refine anyH_take (i := 13) (v := ?_) rfl (by kernel_rfl) (by kernel_rfl) (by kernel_rfl) (fun _ _ _ h => h) (by rfl) ?_ (by assumption) ?_
                  rotate_left
                  · intro w' hSw; (try dsimp only at hSw); go_simp; (try with_reducible rfl)
                  try simp only [Act.put, List.setIfInBounds_toArray, List.set_cons_zero, List.set_cons_succ]
                  refine anyH_call (i := 9) rfl (by kernel_rfl) (by rfl) (fun K hK => ?_)
                  go_simp
                  go_at_call 24; (with_reducible refine (flight_is g _ A S1 T1 _ (hWl.below' (And.left (by assumption)))).mono ?_); rintro e wa ⟨rfl, hbx⟩; have hX := heldb hbx (by assumption)
                  refine hK.out _ _ hX (fun _ => ?_)
                  clear hK K
                  try simp only [Act.put, List.setIfInBounds_toArray, List.set_cons_zero, List.set_cons_succ]
                  refine anyH_call (i := 14) rfl (by kernel_rfl) (by rfl) (fun K hK => ?_)
                  go_simp
                  first | (go_at_call 27; (with_reducible refine (has_is A (x : Nat) false Ha.out _ hA).mono ?_); rintro e wa ⟨rfl, hbx⟩; have hX := heldb hbx (by assumption)) | (go_at_call 27; (with_reducible refine (has_is S1 (x : Nat) true Hs.out _ hS1).mono ?_); rintro e wa ⟨rfl, hbx⟩; have hX := heldb hbx (by assumption))
                  refine hK.out _ _ hX (fun _ => ?_)
                  clear hK K
                  try simp only [Act.put, List.setIfInBounds_toArray, List.set_cons_zero, List.set_cons_succ]
                  refine anyH_take (i := 15) (v := ?_) rfl (by kernel_rfl) (by kernel_rfl) (by kernel_rfl) (fun _ _ _ h => h) (by rfl) ?_ (by assumption) ?_
                  rotate_left
                  · intro w' hSw; (try dsimp only at hSw); go_simp; (try with_reducible rfl)
                  try simp only [Act.put, List.setIfInBounds_toArray, List.set_cons_zero, List.set_cons_succ]
                  refine anyH_take (i := 16) (v := ?_) rfl (by kernel_rfl) (by kernel_rfl) (by kernel_rfl) (fun _ _ _ h => h) (by rfl) ?_ (by assumption) ?_
                  rotate_left
                  · intro w' hSw; (try dsimp only at hSw); go_simp; (try with_reducible rfl)
                  try simp only [Act.put, List.setIfInBounds_toArray, List.set_cons_zero, List.set_cons_succ]
                  refine wpAnyH_done (by kernel_rfl) ?_ _
                  have hbj' := bl hbj hX.1
                  clear hX hcw hcell hWl hbj
                  go_wp2_with fail
                  go_roundw
                  case rel => exact ⟨j + 1, by omega, by go_num, hbj'⟩
                  case measure => simp [intOf]; omega
                · have hfin : BndRel w g N (k + 1) (now + y) wr := ⟨A, S1, T1, by omega, by omega, hWl, hI2, below_then hb2 hbj hb2.size⟩
                  go_wp2_with fail
                  go_meet
                  case rel => exact ⟨now + y, rfl, hfin⟩
            | false =>
              clear Hbk q0 q1
              have hAN : (A.length : Int) = (N : Nat) := by rw [hI.1]
              obtain ⟨L, hL⟩ : ∃ L, ofB (N : Nat) xs = L := ⟨_, rfl⟩
              have hLl : L.length = N := by rw [← hL, ofB_length]; unfold clampB; omega
              have HL := Lib.hid hL
              have HAN := Lib.hid hAN
              have HLl := Lib.hid hLl
              have hL256 : L.length ≤ 256 := by omega
              clear hL hAN hLl
              go_upto_region 15 with (fail)
              have q3 : w0.cell? ⟨hd, 3, none⟩ = some (.slice LA ln lc) := hX0.cell 3
              have hcw : Below w0.heap.size w0 w0.drew ∧ w0.drew.cell? ⟨hd, 3, none⟩ = some (.slice LA ln lc) := ⟨(Below.refl _ _).drew, q3⟩
              have hhd : (⟨hd, 3, none⟩ : Addr).block < w0.heap.size := hDlt
              have hgw0 := hW0.lt
              have hrL := hrL0
              go_cut [11] from 16 to 111 (fun sv wx => SetCut w g N A S T L sv wx)
              case first =>
                refine wp_region_held_drew (S := fun w' => Below w0.heap.size w0 w' ∧ w'.cell? ⟨hd, 3, none⟩ = some (.slice LA ln lc)) (by kernel_rfl) hcw (fun _ => ?_)
                refine anyH_take (i := 0) (v := ?_) rfl (by kernel_rfl) (by kernel_rfl) (by kernel_rfl) (fun _ _ _ h => h) (by rfl) ?_ (by assumption) ?_
                rotate_left
                · intro w' hSw; (try dsimp only at hSw); go_simp; (try with_reducible rfl)
                try simp only [Act.put, List.setIfInBounds_toArray, List.set_cons_zero, List.set_cons_succ]
                refine anyH_take (i := 3) (v := ?_) rfl (by kernel_rfl) (by kernel_rfl) (by kernel_rfl) (fun _ _ _ h => h) (by rfl) ?_ (by assumption) ?_
                rotate_left
                · intro w' hSw; (try dsimp only at hSw); go_simp; (try with_reducible rfl)
                try simp only [Act.put, List.setIfInBounds_toArray, List.set_cons_zero, List.set_cons_succ]
                refine anyH_take (i := 4) (v := ?_) rfl (by kernel_rfl) (by kernel_rfl) (by kernel_rfl) (fun _ _ _ h => h) (by rfl) ?_ (by assumption) ?_
                rotate_left
                · intro w' hSw; (try dsimp only at hSw); go_simp; (try with_reducible rfl)
                try simp only [Act.put, List.setIfInBounds_toArray, List.set_cons_zero, List.set_cons_succ]
                refine anyH_two (i := 1) (j := 9) rfl rfl (by kernel_rfl) (by rfl) (by rfl) (fun K hK => ?_) (fun K hK => ?_)
                · go_simp
                  go_at_call 13
                  (with_reducible refine (acked_is g _ A S T _ (hW0.below' (And.left (by assumption)))).mono ?_)
                  rintro e wa ⟨rfl, hbx⟩
                  have hX := heldb hbx (by assumption)
                  refine hK.out _ _ hX (fun _ => ?_)
                  clear hK K hbx
                  try simp only [Act.put, List.setIfInBounds_toArray, List.set_cons_zero, List.set_cons_succ]
                  refine anyH_two (i := 2) (j := 9) rfl rfl (by kernel_rfl) (by rfl) (by rfl) (fun K hK => ?_) (fun K hK => ?_)
                  · go_simp
                    go_at_call 14
                    (with_reducible refine (size_is A (N : Nat) HAN.out _).mono ?_)
                    rintro e ws ⟨rfl, hbx⟩
                    have hX := heldb hbx (by assumption)
                    refine hK.out _ _ hX (fun _ => ?_)
                    clear hK K hbx
                    try simp only [Act.put, List.setIfInBounds_toArray, List.set_cons_zero, List.set_cons_succ]
                    refine anyH_two (i := 5) (j := 9) rfl rfl (by kernel_rfl) (by rfl) (by rfl) (fun K hK => ?_) (fun K hK => ?_)
                    · go_simp
                      go_at_call 22
                      (with_reducible refine (of_is (N : Nat) LA ln lc xs L HL.out _ Hxl.out (hrL.below (And.left (by assumption))) hln).mono ?_)
                      rintro e wo ⟨Ao, co, rfl, hno, hmo, hro, hbx⟩
                      have hX := heldb hbx (by assumption)
                      refine hK.out _ _ hX (fun _ => ?_)
                      clear hK K hbx
                      try simp only [Act.put, List.setIfInBounds_toArray, List.set_cons_zero, List.set_cons_succ]
                      refine anyH_take (i := 6) (v := ?_) rfl (by kernel_rfl) (by kernel_rfl) (by kernel_rfl) (fun _ _ _ h => h) (by rfl) ?_ (by assumption) ?_
                      rotate_left
                      · intro w' hSw; (try dsimp only at hSw); go_simp; (try with_reducible rfl)
                      try simp only [Act.put, List.setIfInBounds_toArray, List.set_cons_zero, List.set_cons_succ]
                      refine anyH_take (i := 7) (v := ?_) rfl (by kernel_rfl) (by kernel_rfl) (by kernel_rfl) (fun _ _ _ h => h) (by rfl) ?_ (by assumption) ?_
                      rotate_left
                      · intro w' hSw; (try dsimp only at hSw); go_simp; (try with_reducible rfl)
                      try simp only [Act.put, List.setIfInBounds_toArray, List.set_cons_zero, List.set_cons_succ]
                      refine anyH_take (i := 8) (v := ?_) rfl (by kernel_rfl) (by kernel_rfl) (by kernel_rfl) (fun _ _ _ h => h) (by rfl) ?_ (by assumption) ?_
                      rotate_left
                      · intro w' hSw; (try dsimp only at hSw); go_simp; (try with_reducible rfl)
                      try simp only [Act.put, List.setIfInBounds_toArray, List.set_cons_zero, List.set_cons_succ]
                      refine anyH_call (i := 9) rfl (by kernel_rfl) (by rfl) (fun K hK => ?_)
                      go_simp
                      have hX := heldc (w := wo) (.cells #[.int .i64 0, .int .u64 0, .int .u64 0, .int .u64 0, .int .u64 0] 39) (by assumption)
                      have hqb : w0.heap.size ≤ wo.heap.size := (And.left (a := Below w0.heap.size w0 wo) (by assumption)).size
                      have hZ : ZeroAt (wo.alloc (.cells #[.int .i64 0, .int .u64 0, .int .u64 0, .int .u64 0, .int .u64 0] 39)) wo.heap.size := Bk.new _ _ _
                      refine hK.out _ _ hX (fun _ => ?_)
                      clear hK K
                      try simp only [Act.put, List.setIfInBounds_toArray, List.set_cons_zero, List.set_cons_succ]
                      refine anyH_call (i := 10) rfl (by kernel_rfl) (by rfl) (fun K hK => ?_)
                      obtain ⟨z0, z1, z2, z3, z4⟩ := ZeroAt.cells hZ
                      obtain ⟨y0, y1, y2, y3, y4⟩ := ZeroAt.free hZ
                      have hXs := heldc (w := wo) (.cells #[.int .i64 (L.length : Nat), .int .u64 (wdN L 0 : Nat), .int .u64 (wdN L 1 : Nat), .int .u64 (wdN L 2 : Nat), .int .u64 (wdN L 3 : Nat)] 39) (by assumption)
                      have hSL := SetAt.new wo L
                      clear hZ
                      go_simp
                      refine hK.out _ _ hXs (fun _ => ?_)
                      clear hK K z0 z1 z2 z3 z4 y0 y1 y2 y3 y4
                      try simp only [Act.put, List.setIfInBounds_toArray, List.set_cons_zero, List.set_cons_succ]
                      refine anyH_take (i := 11) (v := ?_) rfl (by kernel_rfl) (by kernel_rfl) (by kernel_rfl) (fun _ _ _ h => h) (by rfl) ?_ (by assumption) ?_
                      rotate_left
                      · intro w' hSw; (try dsimp only at hSw); go_simp; (try with_reducible rfl)
                      try simp only [Act.put, List.setIfInBounds_toArray, List.set_cons_zero, List.set_cons_succ]
                      refine wpAnyH_done (by kernel_rfl) ?_ _
                      go_wp2_with fail
                      go_meet
                      case rel => exact ⟨wo.heap.size, rfl, by omega, hSL, hW0.below' hXs.1, bl hb0 hXs.1⟩
                    · go_simp
                      have hX := heldc (w := ws) (.cells #[.int .i64 0, .int .u64 0, .int .u64 0, .int .u64 0, .int .u64 0] 39) (by assumption)
                      have hqb : w0.heap.size ≤ ws.heap.size := (And.left (a := Below w0.heap.size w0 ws) (by assumption)).size
                      have hZ : ZeroAt (ws.alloc (.cells #[.int .i64 0, .int .u64 0, .int .u64 0, .int .u64 0, .int .u64 0] 39)) ws.heap.size := Bk.new _ _ _
                      refine hK.out _ _ hX (fun _ => ?_)
                      clear hK K
                      try simp only [Act.put, List.setIfInBounds_toArray, List.set_cons_zero, List.set_cons_succ]
                      refine anyH_call (i := 5) rfl (by kernel_rfl) (by rfl) (fun K hK => ?_)
                      go_simp
                      go_at_call 22
                      (with_reducible refine (of_is (N : Nat) LA ln lc xs L HL.out _ Hxl.out (hrL.below (And.left (by assumption))) hln).mono ?_)
                      rintro e wo ⟨Ao, co, rfl, hno, hmo, hro, hbx⟩
                      have hX := heldb hbx (by assumption)
                      have hZ := Bk.below' hZ hbx
                      refine hK.out _ _ hX (fun _ => ?_)
                      clear hK K hbx
                      try simp only [Act.put, List.setIfInBounds_toArray, List.set_cons_zero, List.set_cons_succ]
                      refine anyH_take (i := 6) (v := ?_) rfl (by kernel_rfl) (by kernel_rfl) (by kernel_rfl) (fun _ _ _ h => h) (by rfl) ?_ (by assumption) ?_
                      rotate_left
                      · intro w' hSw; (try dsimp only at hSw); go_simp; (try with_reducible rfl)
                      try simp only [Act.put, List.setIfInBounds_toArray, List.set_cons_zero, List.set_cons_succ]
                      refine anyH_take (i := 7) (v := ?_) rfl (by kernel_rfl) (by kernel_rfl) (by kernel_rfl) (fun _ _ _ h => h) (by rfl) ?_ (by assumption) ?_
                      rotate_left
                      · intro w' hSw; (try dsimp only at hSw); go_simp; (try with_reducible rfl)
                      try simp only [Act.put, List.setIfInBounds_toArray, List.set_cons_zero, List.set_cons_succ]
                      refine anyH_take (i := 8) (v := ?_) rfl (by kernel_rfl) (by kernel_rfl) (by kernel_rfl) (fun _ _ _ h => h) (by rfl) ?_ (by assumption) ?_
                      rotate_left
                      · intro w' hSw; (try dsimp only at hSw); go_simp; (try with_reducible rfl)
                      try simp only [Act.put, List.setIfInBounds_toArray, List.set_cons_zero, List.set_cons_succ]
                      refine anyH_call (i := 10) rfl (by kernel_rfl) (by rfl) (fun K hK => ?_)
                      obtain ⟨z0, z1, z2, z3, z4⟩ := ZeroAt.cells hZ
                      obtain ⟨y0, y1, y2, y3, y4⟩ := ZeroAt.free hZ
                      have hXs := heldd (w := wo) (hq := ws.heap.size) L hqb (by assumption) hhd
                      have hSL := ZeroAt.put hZ L
                      clear hZ
                      go_simp
                      refine hK.out _ _ hXs (fun _ => ?_)
                      clear hK K z0 z1 z2 z3 z4 y0 y1 y2 y3 y4
                      try simp only [Act.put, List.setIfInBounds_toArray, List.set_cons_zero, List.set_cons_succ]
                      refine anyH_take (i := 11) (v := ?_) rfl (by kernel_rfl) (by kernel_rfl) (by kernel_rfl) (fun _ _ _ h => h) (by rfl) ?_ (by assumption) ?_
                      rotate_left
                      · intro w' hSw; (try dsimp only at hSw); go_simp; (try with_reducible rfl)
                      try simp only [Act.put, List.setIfInBounds_toArray, List.set_cons_zero, List.set_cons_succ]
                      refine wpAnyH_done (by kernel_rfl) ?_ _
                      go_wp2_with fail
                      go_meet
                      case rel => exact ⟨ws.heap.size, rfl, by omega, hSL, hW0.below' hXs.1, bl hb0 hXs.1⟩
                  · go_simp
                    have hX := heldc (w := wa) (.cells #[.int .i64 0, .int .u64 0, .int .u64 0, .int .u64 0, .int .u64 0] 39) (by assumption)
                    have hqb : w0.heap.size ≤ wa.heap.size := (And.left (a := Below w0.heap.size w0 wa) (by assumption)).size
                    have hZ : ZeroAt (wa.alloc (.cells #[.int .i64 0, .int .u64 0, .int .u64 0, .int .u64 0, .int .u64 0] 39)) wa.heap.size := Bk.new _ _ _
                    refine hK.out _ _ hX (fun _ => ?_)
                    clear hK K
                    try simp only [Act.put, List.setIfInBounds_toArray, List.set_cons_zero, List.set_cons_succ]
                    refine anyH_call (i := 2) rfl (by kernel_rfl) (by rfl) (fun K hK => ?_)
                    go_simp
                    go_at_call 14
                    (with_reducible refine (size_is A (N : Nat) HAN.out _).mono ?_)
                    rintro e ws ⟨rfl, hbx⟩
                    have hX := heldb hbx (by assumption)
                    have hZ := Bk.below' hZ hbx
                    refine hK.out _ _ hX (fun _ => ?_)
                    clear hK K hbx
                    try simp only [Act.put, List.setIfInBounds_toArray, List.set_cons_zero, List.set_cons_succ]
                    refine anyH_call (i := 5) rfl (by kernel_rfl) (by rfl) (fun K hK => ?_)
                    go_simp
                    go_at_call 22
                    (with_reducible refine (of_is (N : Nat) LA ln lc xs L HL.out _ Hxl.out (hrL.below (And.left (by assumption))) hln).mono ?_)
                    rintro e wo ⟨Ao, co, rfl, hno, hmo, hro, hbx⟩
                    have hX := heldb hbx (by assumption)
                    have hZ := Bk.below' hZ hbx
                    refine hK.out _ _ hX (fun _ => ?_)
                    clear hK K hbx
                    try simp only [Act.put, List.setIfInBounds_toArray, List.set_cons_zero, List.set_cons_succ]
                    refine anyH_take (i := 6) (v := ?_) rfl (by kernel_rfl) (by kernel_rfl) (by kernel_rfl) (fun _ _ _ h => h) (by rfl) ?_ (by assumption) ?_
                    rotate_left
                    · intro w' hSw; (try dsimp only at hSw); go_simp; (try with_reducible rfl)
                    try simp only [Act.put, List.setIfInBounds_toArray, List.set_cons_zero, List.set_cons_succ]
                    refine anyH_take (i := 7) (v := ?_) rfl (by kernel_rfl) (by kernel_rfl) (by kernel_rfl) (fun _ _ _ h => h) (by rfl) ?_ (by assumption) ?_
                    rotate_left
                    · intro w' hSw; (try dsimp only at hSw); go_simp; (try with_reducible rfl)
                    try simp only [Act.put, List.setIfInBounds_toArray, List.set_cons_zero, List.set_cons_succ]
                    refine anyH_take (i := 8) (v := ?_) rfl (by kernel_rfl) (by kernel_rfl) (by kernel_rfl) (fun _ _ _ h => h) (by rfl) ?_ (by assumption) ?_
                    rotate_left
                    · intro w' hSw; (try dsimp only at hSw); go_simp; (try with_reducible rfl)
                    try simp only [Act.put, List.setIfInBounds_toArray, List.set_cons_zero, List.set_cons_succ]
                    refine anyH_call (i := 10) rfl (by kernel_rfl) (by rfl) (fun K hK => ?_)
                    obtain ⟨z0, z1, z2, z3, z4⟩ := ZeroAt.cells hZ
                    obtain ⟨y0, y1, y2, y3, y4⟩ := ZeroAt.free hZ
                    have hXs := heldd (w := wo) (hq := wa.heap.size) L hqb (by assumption) hhd
                    have hSL := ZeroAt.put hZ L
                    clear hZ
                    go_simp
                    refine hK.out _ _ hXs (fun _ => ?_)
                    clear hK K z0 z1 z2 z3 z4 y0 y1 y2 y3 y4
                    try simp only [Act.put, List.setIfInBounds_toArray, List.set_cons_zero, List.set_cons_succ]
                    refine anyH_take (i := 11) (v := ?_) rfl (by kernel_rfl) (by kernel_rfl) (by kernel_rfl) (fun _ _ _ h => h) (by rfl) ?_ (by assumption) ?_
                    rotate_left
                    · intro w' hSw; (try dsimp only at hSw); go_simp; (try with_reducible rfl)
                    try simp only [Act.put, List.setIfInBounds_toArray, List.set_cons_zero, List.set_cons_succ]
                    refine wpAnyH_done (by kernel_rfl) ?_ _
                    go_wp2_with fail
                    go_meet
                    case rel => exact ⟨wa.heap.size, rfl, by omega, hSL, hW0.below' hXs.1, bl hb0 hXs.1⟩
                · go_simp
                  have hX := heldc (w := w0.drew) (.cells #[.int .i64 0, .int .u64 0, .int .u64 0, .int .u64 0, .int .u64 0] 39) (by assumption)
                  have hqb : w0.heap.size ≤ w0.heap.size := (And.left (a := Below w0.heap.size w0 w0.drew) (by assumption)).size
                  have hZ : ZeroAt (w0.drew.alloc (.cells #[.int .i64 0, .int .u64 0, .int .u64 0, .int .u64 0, .int .u64 0] 39)) w0.heap.size := Bk.new _ _ _
                  refine hK.out _ _ hX (fun _ => ?_)
                  clear hK K
                  try simp only [Act.put, List.setIfInBounds_toArray, List.set_cons_zero, List.set_cons_succ]
                  refine anyH_call (i := 1) rfl (by kernel_rfl) (by rfl) (fun K hK => ?_)
                  go_simp
                  go_at_call 13
                  (with_reducible refine (acked_is g _ A S T _ (hW0.below' (And.left (by assumption)))).mono ?_)
                  rintro e wa ⟨rfl, hbx⟩
                  have hX := heldb hbx (by assumption)
                  have hZ := Bk.below' hZ hbx
                  refine hK.out _ _ hX (fun _ => ?_)
                  clear hK K hbx
                  try simp only [Act.put, List.setIfInBounds_toArray, List.set_cons_zero, List.set_cons_succ]
                  refine anyH_call (i := 2) rfl (by kernel_rfl) (by rfl) (fun K hK => ?_)
                  go_simp
                  go_at_call 14
                  (with_reducible refine (size_is A (N : Nat) HAN.out _).mono ?_)
                  rintro e ws ⟨rfl, hbx⟩
                  have hX := heldb hbx (by assumption)
                  have hZ := Bk.below' hZ hbx
                  refine hK.out _ _ hX (fun _ => ?_)
                  clear hK K hbx
                  try simp only [Act.put, List.setIfInBounds_toArray, List.set_cons_zero, List.set_cons_succ]
                  refine anyH_call (i := 5) rfl (by kernel_rfl) (by rfl) (fun K hK => ?_)
                  go_simp
                  go_at_call 22
                  (with_reducible refine (of_is (N : Nat) LA ln lc xs L HL.out _ Hxl.out (hrL.below (And.left (by assumption))) hln).mono ?_)
                  rintro e wo ⟨Ao, co, rfl, hno, hmo, hro, hbx⟩
                  have hX := heldb hbx (by assumption)
                  have hZ := Bk.below' hZ hbx
                  refine hK.out _ _ hX (fun _ => ?_)
                  clear hK K hbx
                  try simp only [Act.put, List.setIfInBounds_toArray, List.set_cons_zero, List.set_cons_succ]
                  refine anyH_take (i := 6) (v := ?_) rfl (by kernel_rfl) (by kernel_rfl) (by kernel_rfl) (fun _ _ _ h => h) (by rfl) ?_ (by assumption) ?_
                  rotate_left
                  · intro w' hSw; (try dsimp only at hSw); go_simp; (try with_reducible rfl)
                  try simp only [Act.put, List.setIfInBounds_toArray, List.set_cons_zero, List.set_cons_succ]
                  refine anyH_take (i := 7) (v := ?_) rfl (by kernel_rfl) (by kernel_rfl) (by kernel_rfl) (fun _ _ _ h => h) (by rfl) ?_ (by assumption) ?_
                  rotate_left
                  · intro w' hSw; (try dsimp only at hSw); go_simp; (try with_reducible rfl)
                  try simp only [Act.put, List.setIfInBounds_toArray, List.set_cons_zero, List.set_cons_succ]
                  refine anyH_take (i := 8) (v := ?_) rfl (by kernel_rfl) (by kernel_rfl) (by kernel_rfl) (fun _ _ _ h => h) (by rfl) ?_ (by assumption) ?_
                  rotate_left
                  · intro w' hSw; (try dsimp only at hSw); go_simp; (try with_reducible rfl)
                  try simp only [Act.put, List.setIfInBounds_toArray, List.set_cons_zero, List.set_cons_succ]
                  refine anyH_call (i := 10) rfl (by kernel_rfl) (by rfl) (fun K hK => ?_)
                  obtain ⟨z0, z1, z2, z3, z4⟩ := ZeroAt.cells hZ
                  obtain ⟨y0, y1, y2, y3, y4⟩ := ZeroAt.free hZ
                  have hXs := heldd (w := wo) (hq := w0.heap.size) L hqb (by assumption) hhd
                  have hSL := ZeroAt.put hZ L
                  clear hZ
                  go_simp
                  refine hK.out _ _ hXs (fun _ => ?_)
                  clear hK K z0 z1 z2 z3 z4 y0 y1 y2 y3 y4
                  try simp only [Act.put, List.setIfInBounds_toArray, List.set_cons_zero, List.set_cons_succ]
                  refine anyH_take (i := 11) (v := ?_) rfl (by kernel_rfl) (by kernel_rfl) (by kernel_rfl) (fun _ _ _ h => h) (by rfl) ?_ (by assumption) ?_
                  rotate_left
                  · intro w' hSw; (try dsimp only at hSw); go_simp; (try with_reducible rfl)
                  try simp only [Act.put, List.setIfInBounds_toArray, List.set_cons_zero, List.set_cons_succ]
                  refine wpAnyH_done (by kernel_rfl) ?_ _
                  go_wp2_with fail
                  go_meet
                  case rel => exact ⟨w0.heap.size, rfl, by omega, hSL, hW0.below' hXs.1, bl hb0 hXs.1⟩
              case rest =>
                obtain ⟨hq, rfl, hqg, hSL, hWc, hbc⟩ := hcut
                have hA : A.length ≤ 256 := by rw [hI.1]; exact hN256
                have hS1 : S.length ≤ 256 := by rw [hI.2.1]; exact hN256
                have hLN := Lib.hid (show (L.length : Int) = (N : Nat) by rw [HLl.out])
                have hIq := winv_ack N A S L hI HLl.out
                obtain ⟨f0, f1, f2, f3, f4⟩ := hSL.cells
                have hnq := neq_self (L.length : Nat) (wdN L 0 : Nat) (wdN L 1 : Nat) (wdN L 2 : Nat) (wdN L 3 : Nat)
                go_upto_region 16 with (fail)
                have hWd : WinAt wc.drew g (N : Nat) A S T := hWc
                have hcw16 : wc.drew.cell? ⟨hq, 0, none⟩ = some (.int .i64 (L.length : Nat)) ∧ wc.drew.cell? ⟨hq, 1, none⟩ = some (.int .u64 (wdN L 0 : Nat)) ∧ wc.drew.cell? ⟨hq, 2, none⟩ = some (.int .u64 (wdN L 1 : Nat)) ∧ wc.drew.cell? ⟨hq, 3, none⟩ = some (.int .u64 (wdN L 2 : Nat)) ∧ wc.drew.cell? ⟨hq, 4, none⟩ = some (.int .u64 (wdN L 3 : Nat)) := ⟨f0, f1, f2, f3, f4⟩
                refine wp_region_held_drew (S := fun w' => w'.cell? ⟨hq, 0, none⟩ = some (.int .i64 (L.length : Nat)) ∧ w'.cell? ⟨hq, 1, none⟩ = some (.int .u64 (wdN L 0 : Nat)) ∧ w'.cell? ⟨hq, 2, none⟩ = some (.int .u64 (wdN L 1 : Nat)) ∧ w'.cell? ⟨hq, 3, none⟩ = some (.int .u64 (wdN L 2 : Nat)) ∧ w'.cell? ⟨hq, 4, none⟩ = some (.int .u64 (wdN L 3 : Nat))) (by kernel_rfl) hcw16 (fun _ => ?_)
                refine anyH_take (i := 0) (v := ?_) rfl (by kernel_rfl) (by kernel_rfl) (by kernel_rfl) (fun _ _ _ h => h) (by rfl) ?_ (by assumption) ?_
                rotate_left
                · intro w' hSw; (try dsimp only at hSw); go_simp; (try with_reducible rfl)
                try simp only [Act.put, List.setIfInBounds_toArray, List.set_cons_zero, List.set_cons_succ]
                refine anyH_take (i := 1) (v := ?_) rfl (by kernel_rfl) (by kernel_rfl) (by kernel_rfl) (fun _ _ _ h => h) (by rfl) ?_ (by assumption) ?_
                rotate_left
                · intro w' hSw; (try dsimp only at hSw); go_simp; (try with_reducible rfl)
                try simp only [Act.put, List.setIfInBounds_toArray, List.set_cons_zero, List.set_cons_succ]
                refine anyH_call (i := 2) rfl (by kernel_rfl) (by rfl) (fun K hK => ?_)
                go_simp
                go_at_call 17; (with_reducible refine (ack_ok g (N : Nat) A S L T _ hWd hLN.out hA hL256 hS1).mono ?_); rintro e w5 ⟨rfl, hW5, ho5⟩; have hX := held5o ho5 hqg hcw16
                refine hK.out _ _ hX (fun _ => ?_)
                clear hK K
                try simp only [Act.put, List.setIfInBounds_toArray, List.set_cons_zero, List.set_cons_succ]
                refine anyH_take (i := 3) (v := ?_) rfl (by kernel_rfl) (by kernel_rfl) (by kernel_rfl) (fun _ _ _ h => h) (by rfl) ?_ (by assumption) ?_
                rotate_left
                · intro w' hSw; (try dsimp only at hSw); go_simp; (try with_reducible rfl)
                try simp only [Act.put, List.setIfInBounds_toArray, List.set_cons_zero, List.set_cons_succ]
                refine anyH_take (i := 4) (v := ?_) rfl (by kernel_rfl) (by kernel_rfl) (by kernel_rfl) (fun _ _ _ h => h) (by rfl) ?_ (by assumption) ?_
                rotate_left
                · intro w' hSw; (try dsimp only at hSw); go_simp; (try with_reducible rfl)
                try simp only [Act.put, List.setIfInBounds_toArray, List.set_cons_zero, List.set_cons_succ]
                refine anyH_take (i := 5) (v := ?_) rfl (by kernel_rfl) (by kernel_rfl) (by kernel_rfl) (fun _ _ _ h => h) (by rfl) ?_ (by assumption) ?_
                rotate_left
                · intro w' hSw; (try dsimp only at hSw); go_simp; (try with_reducible rfl)
                try simp only [Act.put, List.setIfInBounds_toArray, List.set_cons_zero, List.set_cons_succ]
                refine anyH_take (i := 7) (v := ?_) rfl (by kernel_rfl) (by kernel_rfl) (by kernel_rfl) (fun _ _ _ h => h) (by rfl) ?_ (by assumption) ?_
                rotate_left
                · intro w' hSw; (try dsimp only at hSw); go_simp; (try with_reducible rfl)
                try simp only [Act.put, List.setIfInBounds_toArray, List.set_cons_zero, List.set_cons_succ]
                refine anyH_call (i := 6) rfl (by kernel_rfl) (by rfl) (fun K hK => ?_)
                go_simp
                go_at_call 13; (with_reducible refine (acked_is g _ _ _ _ _ hW5).mono ?_); rintro e wa ⟨rfl, hbx⟩; have hX := held5k hbx hX
                refine hK.out _ _ hX (fun _ => ?_)
                clear hK K
                try simp only [Act.put, List.setIfInBounds_toArray, List.set_cons_zero, List.set_cons_succ]
                refine anyH_take (i := 8) (v := ?_) rfl (by kernel_rfl) (by kernel_rfl) (by kernel_rfl) (fun _ _ _ h => h) (by rfl) ?_ (by assumption) ?_
                rotate_left
                · intro w' hSw; (try dsimp only at hSw); go_simp; (try with_reducible rfl)
                try simp only [Act.put, List.setIfInBounds_toArray, List.set_cons_zero, List.set_cons_succ]
                refine anyH_take (i := 9) (v := ?_) rfl (by kernel_rfl) (by kernel_rfl) (by kernel_rfl) (fun _ _ _ h => h) (by rfl) ?_ (by assumption) ?_
                rotate_left
                · intro w' hSw; (try dsimp only at hSw); go_simp; (try with_reducible rfl)
                try simp only [Act.put, List.setIfInBounds_toArray, List.set_cons_zero, List.set_cons_succ]
                refine wpAnyH_done (by kernel_rfl) ?_ _
                have hfx : BndRel w g N (k + 1) now wa := ⟨L, _, _, by omega, by omega, hW5.below' hbx, hIq, below_then (hbc.trans (below_only (only_trans (only_drew wc g) ho5) hg hbc.size)) hbx (by have := ho5.size; have := hbc.size; have e : wc.drew.heap.size = wc.heap.size := rfl; omega)⟩
                clear hX hcw16 hWc hWd hbc ho5 hW5 hbx f0 f1 f2 f3 f4 hSL
                go_wp2_with fail
                go_meet
                case rel => exact ⟨now, rfl, hfx⟩
          case rest =>
            obtain ⟨now', rfl, A', S', T', hn0', hn1', hWr, hIr, hbr⟩ := hcut
            have hA : A'.length ≤ 256 := by rw [hIr.1]; exact hN256
            have hS1 : S'.length ≤ 256 := by rw [hIr.2.1]; exact hN256
            go_wp2_with fail
            (with_reducible refine (flight_is g _ _ _ _ _ hWr).mono ?_)
            rintro e w2 ⟨rfl, hb2⟩
            have ha2 := (Below.refl w2.heap.size w2).alloc (Nat.le_refl _) (.cells #[.int .i64 (S'.length : Nat), .int .u64 (wdN S' 0 : Nat), .int .u64 (wdN S' 1 : Nat), .int .u64 (wdN S' 2 : Nat), .int .u64 (wdN S' 3 : Nat)] 39)
            have hF : SetAt (w2.alloc (.cells #[.int .i64 (S'.length : Nat), .int .u64 (wdN S' 0 : Nat), .int .u64 (wdN S' 1 : Nat), .int .u64 (wdN S' 2 : Nat), .int .u64 (wdN S' 3 : Nat)] 39)) w2.heap.size S' := SetAt.new w2 S'
            have hW2 := hWr.below' (bl hb2 ha2)
            have hb3 := below_then hbr (bl hb2 ha2) hbr.size
            clear hWr hbr hb2 ha2
            go_upto_region 19 with (fail)
            generalize w2.alloc (.cells #[.int .i64 (S'.length : Nat), .int .u64 (wdN S' 0 : Nat), .int .u64 (wdN S' 1 : Nat), .int .u64 (wdN S' 2 : Nat), .int .u64 (wdN S' 3 : Nat)] 39) = w3 at *
            generalize w2.heap.size = hf at *
            obtain ⟨f0, f1, f2, f3, f4⟩ := hF.cells
            obtain ⟨c, hc⟩ : ∃ c : Int, (cntP S' S'.length : Int) = c := ⟨_, rfl⟩
            obtain ⟨ca, hca⟩ : ∃ c : Int, (cntP A' A'.length : Int) = c := ⟨_, rfl⟩
            obtain ⟨O, hO⟩ : ∃ O, orB S' A' = O := ⟨_, rfl⟩
            have hOl : O.length = N := by rw [← hO, orB_length, hIr.1, hIr.2.1]; omega
            have hOr : (cntP O O.length : Int) = c + ca := by
              rw [hOl, ← hO, cntP_or S' A' hIr.2.2.2 N, ← hc, ← hca, hIr.1, hIr.2.1]; omega
            obtain ⟨r, hr⟩ : ∃ r, nextB S' 0 true = r := ⟨_, rfl⟩
            have hc8 : c ≤ 8 := by have := hIr.2.2.1; rw [← hc, hIr.2.1]; omega
            have hc0 : 0 ≤ c := by omega
            have hca0 : 0 ≤ ca := by omega
            have hca1 : ca ≤ 256 := by have := cntP_le A' A'.length; omega
            have hO256 : O.length ≤ 256 := by omega
            have hco : ((c + ca) != (c + ca)) = false := by simp
            have hwr : IntKind.i64.wrap (c + ca) = c + ca := by rw [IntKind.wrap_i64]; omega
            have g1 : decide (8 < c) = false := decide_eq_false (by omega)
            have Hc := Lib.hid hc
            have Hca := Lib.hid hca
            have HO := Lib.hid hO
            have HOr := Lib.hid hOr
            have Hr := Lib.hid hr
            clear hc hca hO hOr hr hOl
            have hcw : Below w3.heap.size w3 w3.drew ∧ w3.drew.cell? ⟨hf, 0, none⟩ = some (.int .i64 (S'.length : Nat)) ∧ w3.drew.cell? ⟨hf, 1, none⟩ = some (.int .u64 (wdN S' 0 : Nat)) ∧ w3.drew.cell? ⟨hf, 2, none⟩ = some (.int .u64 (wdN S' 1 : Nat)) ∧ w3.drew.cell? ⟨hf, 3, none⟩ = some (.int .u64 (wdN S' 2 : Nat)) ∧ w3.drew.cell? ⟨hf, 4, none⟩ = some (.int .u64 (wdN S' 3 : Nat)) := ⟨(Below.refl _ _).drew, f0, f1, f2, f3, f4⟩
            clear f0 f1 f2 f3 f4
            have hfin : ∀ wx, Below w3.heap.size w3 wx → BndRel w g N (k + 1) now' wx := fun wx hbx => ⟨A', S', T', hn0', hn1', hW2.below' hbx, hIr, below_then hb3 hbx hb3.size⟩
            by_cases hr0 : 0 ≤ r
            · have g2 : decide (0 ≤ r) = true := decide_eq_true hr0
              refine wp_region_held_drew (S := fun w' => Below w3.heap.size w3 w' ∧ w'.cell? ⟨hf, 0, none⟩ = some (.int .i64 (S'.length : Nat)) ∧ w'.cell? ⟨hf, 1, none⟩ = some (.int .u64 (wdN S' 0 : Nat)) ∧ w'.cell? ⟨hf, 2, none⟩ = some (.int .u64 (wdN S' 1 : Nat)) ∧ w'.cell? ⟨hf, 3, none⟩ = some (.int .u64 (wdN S' 2 : Nat)) ∧ w'.cell? ⟨hf, 4, none⟩ = some (.int .u64 (wdN S' 3 : Nat))) (by kernel_rfl) hcw (fun _ => ?_)
              refine anyH_take (i := 0) (v := ?_) rfl (by kernel_rfl) (by kernel_rfl) (by kernel_rfl) (fun _ _ _ h => h) (by rfl) ?_ (by assumption) ?_
              rotate_left
              · intro w' hSw; (try dsimp only at hSw); go_simp; (try with_reducible rfl)
              try simp only [Act.put, List.setIfInBounds_toArray, List.set_cons_zero, List.set_cons_succ]
              refine anyH_call (i := 1) rfl (by kernel_rfl) (by rfl) (fun K hK => ?_)
              go_simp
              first | (go_at_call 28; (with_reducible refine (count_is S' c Hc.out _ hS1).mono ?_); rintro e wa ⟨rfl, hbx⟩; have hX := held5 hbx (by assumption)) | (go_at_call 28; (with_reducible refine (count_is A' ca Hca.out _ hA).mono ?_); rintro e wa ⟨rfl, hbx⟩; have hX := held5 hbx (by assumption)) | (go_at_call 28; (with_reducible refine (count_is O (c + ca) HOr.out _ hO256).mono ?_); rintro e wa ⟨rfl, hbx⟩; have hX := held5 hbx (by assumption))
              refine hK.out _ _ hX (fun _ => ?_)
              clear hK K
              try simp only [Act.put, List.setIfInBounds_toArray, List.set_cons_zero, List.set_cons_succ]
              refine anyH_take (i := 2) (v := ?_) rfl (by kernel_rfl) (by kernel_rfl) (by kernel_rfl) (fun _ _ _ h => h) (by rfl) ?_ (by assumption) ?_
              rotate_left
              · intro w' hSw; (try dsimp only at hSw); go_simp; (try with_reducible rfl)
              try simp only [Act.put, List.setIfInBounds_toArray, List.set_cons_zero, List.set_cons_succ]
              refine anyH_take (i := 3) (v := ?_) rfl (by kernel_rfl) (by kernel_rfl) (by kernel_rfl) (fun _ _ _ h => h) (by rfl) ?_ (by assumption) ?_
              rotate_left
              · intro w' hSw; (try dsimp only at hSw); go_simp; (try with_reducible rfl)
              try simp only [Act.put, List.setIfInBounds_toArray, List.set_cons_zero, List.set_cons_succ]
              refine anyH_take (i := 4) (v := ?_) rfl (by kernel_rfl) (by kernel_rfl) (by kernel_rfl) (fun _ _ _ h => h) (by rfl) ?_ (by assumption) ?_
              rotate_left
              · intro w' hSw; (try dsimp only at hSw); go_simp; (try with_reducible rfl)
              try simp only [Act.put, List.setIfInBounds_toArray, List.set_cons_zero, List.set_cons_succ]
              refine anyH_call (i := 5) rfl (by kernel_rfl) (by rfl) (fun K hK => ?_)
              go_simp
              go_at_call 29; (with_reducible refine (next_is S' 0 true r Hr.out _ hS1).mono ?_); rintro e wa ⟨rfl, hbx⟩; have hX := held5 hbx (by assumption)
              refine hK.out _ _ hX (fun _ => ?_)
              clear hK K
              try simp only [Act.put, List.setIfInBounds_toArray, List.set_cons_zero, List.set_cons_succ]
              refine anyH_take (i := 6) (v := ?_) rfl (by kernel_rfl) (by kernel_rfl) (by kernel_rfl) (fun _ _ _ h => h) (by rfl) ?_ (by assumption) ?_
              rotate_left
              · intro w' hSw; (try dsimp only at hSw); go_simp; (try with_reducible rfl)
              try simp only [Act.put, List.setIfInBounds_toArray, List.set_cons_zero, List.set_cons_succ]
              refine anyH_take (i := 7) (v := ?_) rfl (by kernel_rfl) (by kernel_rfl) (by kernel_rfl) (fun _ _ _ h => h) (by rfl) ?_ (by assumption) ?_
              rotate_left
              · intro w' hSw; (try dsimp only at hSw); go_simp; (try with_reducible rfl)
              try simp only [Act.put, List.setIfInBounds_toArray, List.set_cons_zero, List.set_cons_succ]
              refine anyH_take (i := 8) (v := ?_) rfl (by kernel_rfl) (by kernel_rfl) (by kernel_rfl) (fun _ _ _ h => h) (by rfl) ?_ (by assumption) ?_
              rotate_left
              · intro w' hSw; (try dsimp only at hSw); go_simp; (try with_reducible rfl)
              try simp only [Act.put, List.setIfInBounds_toArray, List.set_cons_zero, List.set_cons_succ]
              refine anyH_take (i := 9) (v := ?_) rfl (by kernel_rfl) (by kernel_rfl) (by kernel_rfl) (fun _ _ _ h => h) (by rfl) ?_ (by assumption) ?_
              rotate_left
              · intro w' hSw; (try dsimp only at hSw); go_simp; (try with_reducible rfl)
              try simp only [Act.put, List.setIfInBounds_toArray, List.set_cons_zero, List.set_cons_succ]
              refine anyH_take (i := 13) (v := ?_) rfl (by kernel_rfl) (by kernel_rfl) (by kernel_rfl) (fun _ _ _ h => h) (by rfl) ?_ (by assumption) ?_
              rotate_left
              · intro w' hSw; (try dsimp only at hSw); go_simp; (try with_reducible rfl)
              try simp only [Act.put, List.setIfInBounds_toArray, List.set_cons_zero, List.set_cons_succ]
              refine anyH_take (i := 15) (v := ?_) rfl (by kernel_rfl) (by kernel_rfl) (by kernel_rfl) (fun _ _ _ h => h) (by rfl) ?_ (by assumption) ?_
              rotate_left
              · intro w' hSw; (try dsimp only at hSw); go_simp; (try with_reducible rfl)
              try simp only [Act.put, List.setIfInBounds_toArray, List.set_cons_zero, List.set_cons_succ]
              refine anyH_call (i := 10) rfl (by kernel_rfl) (by rfl) (fun K hK => ?_)
              go_simp
              go_at_call 13; (with_reducible refine (acked_is g _ _ _ _ _ (hW2.below' (And.left (by assumption)))).mono ?_); rintro e wa ⟨rfl, hbx⟩; have hX := held5 hbx (by assumption)
              refine hK.out _ _ hX (fun _ => ?_)
              clear hK K
              try simp only [Act.put, List.setIfInBounds_toArray, List.set_cons_zero, List.set_cons_succ]
              refine anyH_call (i := 11) rfl (by kernel_rfl) (by rfl) (fun K hK => ?_)
              go_simp
              go_at_call 30; (with_reducible refine (or_is S' A' O HO.out _ hS1 hA).mono ?_); rintro e wa ⟨rfl, hbx⟩; have hX := held5 hbx (by assumption)
              refine hK.out _ _ hX (fun _ => ?_)
              clear hK K
              try simp only [Act.put, List.setIfInBounds_toArray, List.set_cons_zero, List.set_cons_succ]
              refine anyH_call (i := 12) rfl (by kernel_rfl) (by rfl) (fun K hK => ?_)
              go_simp
              first | (go_at_call 28; (with_reducible refine (count_is S' c Hc.out _ hS1).mono ?_); rintro e wa ⟨rfl, hbx⟩; have hX := held5 hbx (by assumption)) | (go_at_call 28; (with_reducible refine (count_is A' ca Hca.out _ hA).mono ?_); rintro e wa ⟨rfl, hbx⟩; have hX := held5 hbx (by assumption)) | (go_at_call 28; (with_reducible refine (count_is O (c + ca) HOr.out _ hO256).mono ?_); rintro e wa ⟨rfl, hbx⟩; have hX := held5 hbx (by assumption))
              refine hK.out _ _ hX (fun _ => ?_)
              clear hK K
              try simp only [Act.put, List.setIfInBounds_toArray, List.set_cons_zero, List.set_cons_succ]
              refine anyH_call (i := 14) rfl (by kernel_rfl) (by rfl) (fun K hK => ?_)
              go_simp
              first | (go_at_call 28; (with_reducible refine (count_is S' c Hc.out _ hS1).mono ?_); rintro e wa ⟨rfl, hbx⟩; have hX := held5 hbx (by assumption)) | (go_at_call 28; (with_reducible refine (count_is A' ca Hca.out _ hA).mono ?_); rintro e wa ⟨rfl, hbx⟩; have hX := held5 hbx (by assumption)) | (go_at_call 28; (with_reducible refine (count_is O (c + ca) HOr.out _ hO256).mono ?_); rintro e wa ⟨rfl, hbx⟩; have hX := held5 hbx (by assumption))
              refine hK.out _ _ hX (fun _ => ?_)
              clear hK K
              try simp only [Act.put, List.setIfInBounds_toArray, List.set_cons_zero, List.set_cons_succ]
              refine anyH_call (i := 16) rfl (by kernel_rfl) (by rfl) (fun K hK => ?_)
              go_simp
              go_at_call 13; (with_reducible refine (acked_is g _ _ _ _ _ (hW2.below' (And.left (by assumption)))).mono ?_); rintro e wa ⟨rfl, hbx⟩; have hX := held5 hbx (by assumption)
              refine hK.out _ _ hX (fun _ => ?_)
              clear hK K
              try simp only [Act.put, List.setIfInBounds_toArray, List.set_cons_zero, List.set_cons_succ]
              refine anyH_call (i := 17) rfl (by kernel_rfl) (by rfl) (fun K hK => ?_)
              go_simp
              first | (go_at_call 28; (with_reducible refine (count_is S' c Hc.out _ hS1).mono ?_); rintro e wa ⟨rfl, hbx⟩; have hX := held5 hbx (by assumption)) | (go_at_call 28; (with_reducible refine (count_is A' ca Hca.out _ hA).mono ?_); rintro e wa ⟨rfl, hbx⟩; have hX := held5 hbx (by assumption)) | (go_at_call 28; (with_reducible refine (count_is O (c + ca) HOr.out _ hO256).mono ?_); rintro e wa ⟨rfl, hbx⟩; have hX := held5 hbx (by assumption))
              refine hK.out _ _ hX (fun _ => ?_)
              clear hK K
              try simp only [Act.put, List.setIfInBounds_toArray, List.set_cons_zero, List.set_cons_succ]
              refine anyH_take (i := 18) (v := ?_) rfl (by kernel_rfl) (by kernel_rfl) (by kernel_rfl) (fun _ _ _ h => h) (by rfl) ?_ (by assumption) ?_
              rotate_left
              · intro w' hSw; (try dsimp only at hSw); go_simp; (try with_reducible rfl)
              try simp only [Act.put, List.setIfInBounds_toArray, List.set_cons_zero, List.set_cons_succ]
              refine anyH_take (i := 19) (v := ?_) rfl (by kernel_rfl) (by kernel_rfl) (by kernel_rfl) (fun _ _ _ h => h) (by rfl) ?_ (by assumption) ?_
              rotate_left
              · intro w' hSw; (try dsimp only at hSw); go_simp; (try with_reducible rfl)
              try simp only [Act.put, List.setIfInBounds_toArray, List.set_cons_zero, List.set_cons_succ]
              refine anyH_take (i := 20) (v := ?_) rfl (by kernel_rfl) (by kernel_rfl) (by kernel_rfl) (fun _ _ _ h => h) (by rfl) ?_ (by assumption) ?_
              rotate_left
              · intro w' hSw; (try dsimp only at hSw); go_simp; (try with_reducible rfl)
              try simp only [Act.put, List.setIfInBounds_toArray, List.set_cons_zero, List.set_cons_succ]
              refine anyH_take (i := 21) (v := ?_) rfl (by kernel_rfl) (by kernel_rfl) (by kernel_rfl) (fun _ _ _ h => h) (by rfl) ?_ (by assumption) ?_
              rotate_left
              · intro w' hSw; (try dsimp only at hSw); go_simp; (try with_reducible rfl)
              try simp only [Act.put, List.setIfInBounds_toArray, List.set_cons_zero, List.set_cons_succ]
              refine wpAnyH_done (by kernel_rfl) ?_ _
              have hfx := hfin _ hX.1
              clear hX hcw hfin hW2 hb3
              go_wp2_with fail
              go_roundw
              case rel => exact ⟨k + 1, now', by omega, by omega, by go_num, rfl, hfx⟩
              case measure => simp [intOf]; omega
            · have g2 : decide (0 ≤ r) = false := decide_eq_false hr0
              refine wp_region_held_drew (S := fun w' => Below w3.heap.size w3 w' ∧ w'.cell? ⟨hf, 0, none⟩ = some (.int .i64 (S'.length : Nat)) ∧ w'.cell? ⟨hf, 1, none⟩ = some (.int .u64 (wdN S' 0 : Nat)) ∧ w'.cell? ⟨hf, 2, none⟩ = some (.int .u64 (wdN S' 1 : Nat)) ∧ w'.cell? ⟨hf, 3, none⟩ = some (.int .u64 (wdN S' 2 : Nat)) ∧ w'.cell? ⟨hf, 4, none⟩ = some (.int .u64 (wdN S' 3 : Nat))) (by kernel_rfl) hcw (fun _ => ?_)
              refine anyH_take (i := 0) (v := ?_) rfl (by kernel_rfl) (by kernel_rfl) (by kernel_rfl) (fun _ _ _ h => h) (by rfl) ?_ (by assumption) ?_
              rotate_left
              · intro w' hSw; (try dsimp only at hSw); go_simp; (try with_reducible rfl)
              try simp only [Act.put, List.setIfInBounds_toArray, List.set_cons_zero, List.set_cons_succ]
              refine anyH_call (i := 1) rfl (by kernel_rfl) (by rfl) (fun K hK => ?_)
              go_simp
              first | (go_at_call 28; (with_reducible refine (count_is S' c Hc.out _ hS1).mono ?_); rintro e wa ⟨rfl, hbx⟩; have hX := held5 hbx (by assumption)) | (go_at_call 28; (with_reducible refine (count_is A' ca Hca.out _ hA).mono ?_); rintro e wa ⟨rfl, hbx⟩; have hX := held5 hbx (by assumption)) | (go_at_call 28; (with_reducible refine (count_is O (c + ca) HOr.out _ hO256).mono ?_); rintro e wa ⟨rfl, hbx⟩; have hX := held5 hbx (by assumption))
              refine hK.out _ _ hX (fun _ => ?_)
              clear hK K
              try simp only [Act.put, List.setIfInBounds_toArray, List.set_cons_zero, List.set_cons_succ]
              refine anyH_take (i := 2) (v := ?_) rfl (by kernel_rfl) (by kernel_rfl) (by kernel_rfl) (fun _ _ _ h => h) (by rfl) ?_ (by assumption) ?_
              rotate_left
              · intro w' hSw; (try dsimp only at hSw); go_simp; (try with_reducible rfl)
              try simp only [Act.put, List.setIfInBounds_toArray, List.set_cons_zero, List.set_cons_succ]
              refine anyH_take (i := 3) (v := ?_) rfl (by kernel_rfl) (by kernel_rfl) (by kernel_rfl) (fun _ _ _ h => h) (by rfl) ?_ (by assumption) ?_
              rotate_left
              · intro w' hSw; (try dsimp only at hSw); go_simp; (try with_reducible rfl)
              try simp only [Act.put, List.setIfInBounds_toArray, List.set_cons_zero, List.set_cons_succ]
              refine anyH_take (i := 4) (v := ?_) rfl (by kernel_rfl) (by kernel_rfl) (by kernel_rfl) (fun _ _ _ h => h) (by rfl) ?_ (by assumption) ?_
              rotate_left
              · intro w' hSw; (try dsimp only at hSw); go_simp; (try with_reducible rfl)
              try simp only [Act.put, List.setIfInBounds_toArray, List.set_cons_zero, List.set_cons_succ]
              refine anyH_call (i := 5) rfl (by kernel_rfl) (by rfl) (fun K hK => ?_)
              go_simp
              go_at_call 29; (with_reducible refine (next_is S' 0 true r Hr.out _ hS1).mono ?_); rintro e wa ⟨rfl, hbx⟩; have hX := held5 hbx (by assumption)
              refine hK.out _ _ hX (fun _ => ?_)
              clear hK K
              try simp only [Act.put, List.setIfInBounds_toArray, List.set_cons_zero, List.set_cons_succ]
              refine anyH_take (i := 6) (v := ?_) rfl (by kernel_rfl) (by kernel_rfl) (by kernel_rfl) (fun _ _ _ h => h) (by rfl) ?_ (by assumption) ?_
              rotate_left
              · intro w' hSw; (try dsimp only at hSw); go_simp; (try with_reducible rfl)
              try simp only [Act.put, List.setIfInBounds_toArray, List.set_cons_zero, List.set_cons_succ]
              refine anyH_take (i := 7) (v := ?_) rfl (by kernel_rfl) (by kernel_rfl) (by kernel_rfl) (fun _ _ _ h => h) (by rfl) ?_ (by assumption) ?_
              rotate_left
              · intro w' hSw; (try dsimp only at hSw); go_simp; (try with_reducible rfl)
              try simp only [Act.put, List.setIfInBounds_toArray, List.set_cons_zero, List.set_cons_succ]
              refine anyH_skip (i := 8) rfl (by kernel_rfl) (by kernel_rfl) (by kernel_rfl) (fun _ _ _ h => h) (by rfl) (by assumption) ?_
              try simp only [Act.put, List.setIfInBounds_toArray, List.set_cons_zero, List.set_cons_succ]
              refine anyH_skip (i := 9) rfl (by kernel_rfl) (by kernel_rfl) (by kernel_rfl) (fun _ _ _ h => h) (by rfl) (by assumption) ?_
              try simp only [Act.put, List.setIfInBounds_toArray, List.set_cons_zero, List.set_cons_succ]
              refine anyH_skip (i := 10) rfl (by kernel_rfl) (by kernel_rfl) (by kernel_rfl) (fun _ _ _ h => h) (by rfl) (by assumption) ?_
              try simp only [Act.put, List.setIfInBounds_toArray, List.set_cons_zero, List.set_cons_succ]
              refine anyH_skip (i := 11) rfl (by kernel_rfl) (by kernel_rfl) (by kernel_rfl) (fun _ _ _ h => h) (by rfl) (by assumption) ?_
              try simp only [Act.put, List.setIfInBounds_toArray, List.set_cons_zero, List.set_cons_succ]
              refine anyH_skip (i := 12) rfl (by kernel_rfl) (by kernel_rfl) (by kernel_rfl) (fun _ _ _ h => h) (by rfl) (by assumption) ?_
              try simp only [Act.put, List.setIfInBounds_toArray, List.set_cons_zero, List.set_cons_succ]
              refine anyH_skip (i := 13) rfl (by kernel_rfl) (by kernel_rfl) (by kernel_rfl) (fun _ _ _ h => h) (by rfl) (by assumption) ?_
              try simp only [Act.put, List.setIfInBounds_toArray, List.set_cons_zero, List.set_cons_succ]
              refine anyH_skip (i := 14) rfl (by kernel_rfl) (by kernel_rfl) (by kernel_rfl) (fun _ _ _ h => h) (by rfl) (by assumption) ?_
              try simp only [Act.put, List.setIfInBounds_toArray, List.set_cons_zero, List.set_cons_succ]
              refine anyH_skip (i := 15) rfl (by kernel_rfl) (by kernel_rfl) (by kernel_rfl) (fun _ _ _ h => h) (by rfl) (by assumption) ?_
              try simp only [Act.put, List.setIfInBounds_toArray, List.set_cons_zero, List.set_cons_succ]
              refine anyH_skip (i := 16) rfl (by kernel_rfl) (by kernel_rfl) (by kernel_rfl) (fun _ _ _ h => h) (by rfl) (by assumption) ?_
              try simp only [Act.put, List.setIfInBounds_toArray, List.set_cons_zero, List.set_cons_succ]
              refine anyH_skip (i := 17) rfl (by kernel_rfl) (by kernel_rfl) (by kernel_rfl) (fun _ _ _ h => h) (by rfl) (by assumption) ?_
              try simp only [Act.put, List.setIfInBounds_toArray, List.set_cons_zero, List.set_cons_succ]
              refine anyH_skip (i := 18) rfl (by kernel_rfl) (by kernel_rfl) (by kernel_rfl) (fun _ _ _ h => h) (by rfl) (by assumption) ?_
              try simp only [Act.put, List.setIfInBounds_toArray, List.set_cons_zero, List.set_cons_succ]
              refine anyH_skip (i := 19) rfl (by kernel_rfl) (by kernel_rfl) (by kernel_rfl) (fun _ _ _ h => h) (by rfl) (by assumption) ?_
              try simp only [Act.put, List.setIfInBounds_toArray, List.set_cons_zero, List.set_cons_succ]
              refine anyH_take (i := 20) (v := ?_) rfl (by kernel_rfl) (by kernel_rfl) (by kernel_rfl) (fun _ _ _ h => h) (by rfl) ?_ (by assumption) ?_
              rotate_left
              · intro w' hSw; (try dsimp only at hSw); go_simp; (try with_reducible rfl)
              try simp only [Act.put, List.setIfInBounds_toArray, List.set_cons_zero, List.set_cons_succ]
              refine anyH_take (i := 21) (v := ?_) rfl (by kernel_rfl) (by kernel_rfl) (by kernel_rfl) (fun _ _ _ h => h) (by rfl) ?_ (by assumption) ?_
              rotate_left
              · intro w' hSw; (try dsimp only at hSw); go_simp; (try with_reducible rfl)
              try simp only [Act.put, List.setIfInBounds_toArray, List.set_cons_zero, List.set_cons_succ]
              refine wpAnyH_done (by kernel_rfl) ?_ _
              have hfx := hfin _ hX.1
              clear hX hcw hfin hW2 hb3
              go_wp2_with fail
              go_roundw
              case rel => exact ⟨k + 1, now', by omega, by omega, by go_num, rfl, hfx⟩
              case measure => simp [intOf]; omega
      · go_wp2_with fail
        refine (awake_any _).mono ?_
        rintro e w9 ⟨rfl, hb9⟩
        go_wp2_with fail
        go_ret
        exact ⟨rfl, below_then hb hb9 hb.size⟩
    · go_wp2_with fail
      refine (awake_any _).mono ?_
      rintro e w9 ⟨rfl, hb9⟩
      go_wp2_with fail
      go_ret
      exact ⟨rfl, below_then hb hb9 hb.size⟩
end Go.Proofs.Ytapanifgnpklpaa
