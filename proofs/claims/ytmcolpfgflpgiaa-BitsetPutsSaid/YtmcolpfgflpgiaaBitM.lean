/-
  The walks of a set's Put, of Same, of chapter 22's example, and of the law BitsetNext.
-/
import Derived.Test.YtmcolpfgflpgiaaBitL
import Derived.Test.YtmcolpfgflpgiaaFrame
namespace Go.Proofs.Ytmcolpfgflpgiaa
open Go.RowKit

/-- A set's bytes. -/
def putW (L : List Bool) (k : Nat) : List UInt8 := (List.range k).flatMap fun j => be (wdN L j : Nat) 8
theorem putW_succ (L : List Bool) (k : Nat) : putW L (k + 1) = putW L k ++ be (wdN L k : Nat) 8 := by simp [putW, List.range_succ]
theorem putW_length (L : List Bool) (k : Nat) : (putW L k).length = 8 * k := by
  induction k with
  | zero => rfl
  | succ k ih => rw [putW_succ, List.length_append, ih, be_length]; omega
theorem fix8 (n : Nat) : ofL (be (wrap64 (n : Int)) (fixK 8)) = ofL (be (n : Int) 8) := by
  rw [show fixK 8 = 8 from by decide, be_congr (wrap64_mod _ 8 (by omega))]

set_option maxHeartbeats 1000000 in
theorem putS_any (L : List Bool) (w : World) : Calls Try.prog 23 #[setV L] w fun e w' => e = .returned (.string (ofL (putW L 4))) ∧ Below w.heap.size w w' := by
  obtain ⟨x0, h0⟩ : ∃ x0 : Nat, x0 = wdN L 0 := ⟨_, rfl⟩
  obtain ⟨x1, h1⟩ : ∃ x1 : Nat, x1 = wdN L 1 := ⟨_, rfl⟩
  obtain ⟨x2, h2⟩ : ∃ x2 : Nat, x2 = wdN L 2 := ⟨_, rfl⟩
  obtain ⟨x3, h3⟩ : ∃ x3 : Nat, x3 = wdN L 3 := ⟨_, rfl⟩
  unfold setV
  rw [← h0, ← h1, ← h2, ← h3]
  have i0 : ∀ w, (Instr.index 24 (.agg #[.int .u64 (x0 : Nat), .int .u64 (x1 : Nat), .int .u64 (x2 : Nat), .int .u64 (x3 : Nat)]) (.int .i64 0)).run Try.prog w = .ok (.int .u64 (x0 : Nat)) w := fun _ => by kernel_rfl
  have i1 : ∀ w, (Instr.index 24 (.agg #[.int .u64 (x0 : Nat), .int .u64 (x1 : Nat), .int .u64 (x2 : Nat), .int .u64 (x3 : Nat)]) (.int .i64 1)).run Try.prog w = .ok (.int .u64 (x1 : Nat)) w := fun _ => by kernel_rfl
  have i2 : ∀ w, (Instr.index 24 (.agg #[.int .u64 (x0 : Nat), .int .u64 (x1 : Nat), .int .u64 (x2 : Nat), .int .u64 (x3 : Nat)]) (.int .i64 2)).run Try.prog w = .ok (.int .u64 (x2 : Nat)) w := fun _ => by kernel_rfl
  have i3 : ∀ w, (Instr.index 24 (.agg #[.int .u64 (x0 : Nat), .int .u64 (x1 : Nat), .int .u64 (x2 : Nat), .int .u64 (x3 : Nat)]) (.int .i64 3)).run Try.prog w = .ok (.int .u64 (x3 : Nat)) w := fun _ => by kernel_rfl
  have H0 := Lib.hid h0
  have H1 := Lib.hid h1
  have H2 := Lib.hid h2
  have H3 := Lib.hid h3
  clear h0 h1 h2 h3
  go_enter Try.func23, Try.ntmps23
  go_wp2
  go_loopw [3, 5, 8] (fun s x i wr => ∃ k : Nat, k ≤ 4 ∧ i = .int .i64 k ∧ s = .string (ofL (putW L k)) ∧ Below w.heap.size w wr) (fun _ _ i _ => 4 - (intOf i).toNat)
  case atStart => exact ⟨0, by omega, rfl, rfl, (Below.refl _ _).alloc (Nat.le_refl _) _⟩
  case round =>
    obtain ⟨k, hk, rfl, rfl, hb⟩ := hrel
    by_cases hlt : k < 4
    · have hs1 : (ofL (putW L k)).size ≤ 32 := by rw [size_ofL, putW_length]; omega
      have hsz := hb.size
      have hkk : k = 0 ∨ k = 1 ∨ k = 2 ∨ k = 3 := by omega
      rcases hkk with rfl | rfl | rfl | rfl
      · have hs2 : (ofL (be (wrap64 (x0 : Int)) (fixK 8))).size ≤ 8 := by rw [size_ofL, be_length]; exact fixK_le 8
        go_wp2_with (go_at_call 34; go_must (refine (fixed_any _ 8 _).mono ?_); rintro e w1 ⟨rfl, hb1⟩)
        go_roundw
        case rel => exact ⟨1, by omega, by go_num, by rw [fix8, ofL_app, H0.out, ← putW_succ], below_then hb hb1 hsz⟩
        case measure => simp [intOf]
      · have hs2 : (ofL (be (wrap64 (x1 : Int)) (fixK 8))).size ≤ 8 := by rw [size_ofL, be_length]; exact fixK_le 8
        go_wp2_with (go_at_call 34; go_must (refine (fixed_any _ 8 _).mono ?_); rintro e w1 ⟨rfl, hb1⟩)
        go_roundw
        case rel => exact ⟨2, by omega, by go_num, by rw [fix8, ofL_app, H1.out, ← putW_succ], below_then hb hb1 hsz⟩
        case measure => simp [intOf]
      · have hs2 : (ofL (be (wrap64 (x2 : Int)) (fixK 8))).size ≤ 8 := by rw [size_ofL, be_length]; exact fixK_le 8
        go_wp2_with (go_at_call 34; go_must (refine (fixed_any _ 8 _).mono ?_); rintro e w1 ⟨rfl, hb1⟩)
        go_roundw
        case rel => exact ⟨3, by omega, by go_num, by rw [fix8, ofL_app, H2.out, ← putW_succ], below_then hb hb1 hsz⟩
        case measure => simp [intOf]
      · have hs2 : (ofL (be (wrap64 (x3 : Int)) (fixK 8))).size ≤ 8 := by rw [size_ofL, be_length]; exact fixK_le 8
        go_wp2_with (go_at_call 34; go_must (refine (fixed_any _ 8 _).mono ?_); rintro e w1 ⟨rfl, hb1⟩)
        go_roundw
        case rel => exact ⟨4, by omega, by go_num, by rw [fix8, ofL_app, H3.out, ← putW_succ], below_then hb hb1 hsz⟩
        case measure => simp [intOf]
    · obtain rfl : k = 4 := by omega
      go_wp2
      go_ret
      exact ⟨rfl, hb⟩

/-- Two lists of ints, the same? -/
def sameI (a b : List Int) : Bool := decide (a = b)
theorem rd_int {w : World} {A : Option Addr} {xs : List Int} (h : Rd w A (intVals xs)) (k : Nat) (hk : k < xs.length) : ∃ b o, A = some ⟨b, o, none⟩ ∧ w.cell? ⟨b, o + k, none⟩ = some (.int .i64 (xs.getD k 0)) := by
  obtain ⟨b, o, e, hc⟩ := h.at_ (k := k) (by simpa [intVals] using hk)
  refine ⟨b, o, e, ?_⟩
  rw [hc]
  simp [intVals, List.getD_eq_getElem?_getD, List.getElem?_eq_getElem hk]
theorem same_of (a b : List Int) (h : a.length = b.length) (h2 : ∀ k, k < a.length → a.getD k 0 = b.getD k 0) : sameI a b = true := by
  unfold sameI
  rw [decide_eq_true_eq]
  refine List.ext_getElem h fun i h1 h3 => ?_
  have := h2 i h1
  simpa [List.getD_eq_getElem?_getD, List.getElem?_eq_getElem h1, List.getElem?_eq_getElem h3] using this
theorem same_not (a b : List Int) (k : Nat) (h2 : a.getD k 0 ≠ b.getD k 0) : sameI a b = false := by
  unfold sameI
  rw [decide_eq_false_iff_not]
  rintro rfl
  exact h2 rfl

set_option maxHeartbeats 1000000 in
theorem same_any (A B : Option Addr) (n m c d : Nat) (xs ys : List Int) (w : World) (hx : xs.length = n) (hy : ys.length = m) (hr : Rd w A (intVals xs)) (hs : Rd w B (intVals ys)) (hn : n ≤ 9223372036854775807) (hm : m ≤ 9223372036854775807) :
    Calls Try.prog 17 #[.slice A n c, .slice B m d] w fun e w' => e = .returned (.bool (sameI xs ys)) ∧ Below w.heap.size w w' := by
  have Hx := Lib.hid hx
  have Hy := Lib.hid hy
  clear hx hy
  by_cases hne : n = m
  · subst hne
    have e0 : ((n : Int) != (n : Int)) = false := by simp
    go_enter Try.func17, Try.ntmps17
    go_wp2
    go_loopw [5] (fun i wr => ∃ k : Nat, k ≤ n ∧ i = .int .i64 k ∧ (∀ j, j < k → Hid (xs.getD j 0 = ys.getD j 0)) ∧ ∃ q, wr = w.drewN q) (fun i _ => n - (intOf i).toNat)
    case atStart => exact ⟨0, by omega, rfl, fun j hj => by omega, 0, rfl⟩
    case round =>
      obtain ⟨k, hk, rfl, hp, q, rfl⟩ := hrel
      by_cases hlt : (k : Int) < (n : Int)
      · obtain ⟨b, o, rfl, hc1⟩ := rd_int hr k (by rw [Hx.out]; omega)
        obtain ⟨b2, o2, rfl, hc2⟩ := rd_int hs k (by rw [Hy.out]; omega)
        by_cases he : xs.getD k 0 = ys.getD k 0
        · have hp' : ∀ j, j < k + 1 → Hid (xs.getD j 0 = ys.getD j 0) := by
            intro j hj
            by_cases hjk : j = k
            · subst hjk; exact he
            · exact hp j (by omega)
          have Hp := Lib.hid hp'
          rw [← he] at hc2
          generalize xs.getD k 0 = z at hc1 hc2
          clear he hp hp'
          go_wp2
          go_quiet (fail)
          go_wp2
          go_roundw
          case rel => exact ⟨k + 1, by omega, by go_num, Hp.out, _, rfl⟩
          case measure => simp [intOf]; omega
        · have H := Lib.hid (same_not xs ys k he)
          have hb : (xs.getD k 0 == ys.getD k 0) = false := beq_eq_false_iff_ne.2 he
          generalize xs.getD k 0 = z at hc1 hb
          generalize ys.getD k 0 = z2 at hc2 hb
          clear he hp
          go_wp2
          go_quiet (fail)
          go_wp2
          go_ret
          exact ⟨by rw [H.out]; rfl, below_drewN (below_drewN (Below.refl _ _) _) _⟩
      · have H := Lib.hid (same_of xs ys (by rw [Hx.out, Hy.out]) (fun j hj => (hp j (by rw [Hx.out] at hj; omega)).out))
        clear hp
        go_wp2
        go_ret
        exact ⟨by rw [H.out]; rfl, below_drewN (Below.refl _ _) _⟩
  · have H := Lib.hid (show sameI xs ys = false by unfold sameI; rw [decide_eq_false_iff_not]; rintro rfl; exact hne (by rw [← Hx.out, Hy.out]))
    have e0 : ((n : Int) == (m : Int)) = false := beq_eq_false_iff_ne.2 (by omega)
    go_enter Try.func17, Try.ntmps17
    go_wp2
    go_ret
    exact ⟨by rw [H.out]; rfl, Below.refl _ _⟩

/-- Chapter 22's example. -/
def exB : List Bool := [true, false, false, true, false]
theorem ex_list : setB (setB (newB 5) 3 true) 0 true = exB := by decide
theorem ex_ints : listR exB 0 = [0, 3] := by
  unfold exB
  rw [listR_hit _ 0 (by decide) (by decide), listR_miss _ 1 (by decide) (by decide), listR_miss _ 2 (by decide) (by decide), listR_hit _ 3 (by decide) (by decide), listR_miss _ 4 (by decide) (by decide), listR_end _ 5 (by decide)]
  rfl
theorem ex_bytes : (putW exB 4).take 8 = [0, 0, 0, 0, 0, 0, 0, 9] := by decide

set_option maxHeartbeats 1000000 in
theorem awake_any (w : World) : Calls Try.prog 10 #[] w fun e w' => e = .returned (.bool true) ∧ Below w.heap.size w w' := by
  go_enter Try.func10, Try.ntmps10
  go_wp2_with fail
  refine (new_any 5 _).mono ?_
  rintro e w1 ⟨rfl, hb1⟩
  go_wp2_with fail
  refine (with_any _ 3 _ (by decide)).mono ?_
  rintro e w2 ⟨rfl, hb2⟩
  go_wp2_with fail
  refine (with_any _ 0 _ (by decide)).mono ?_
  rintro e w3 ⟨rfl, hb3⟩
  rw [ex_list]
  have hS0 := SetAt.new w3 exB
  have hbA := bl (bl hb1 hb2) hb3
  obtain ⟨B, hB⟩ : ∃ B : ByteArray, ofL (putW exB 4) = B := ⟨_, rfl⟩
  have hBs : B.size = 32 := by rw [← hB, size_ofL, putW_length]
  have hB8 : B.extract 0 8 = ⟨#[0, 0, 0, 0, 0, 0, 0, 9]⟩ := str_eq (by rw [toList_pre, ← hB, toList_ofL, ex_bytes]; exact (toList_ofL [0, 0, 0, 0, 0, 0, 0, 9]).symm)
  have HB := Lib.hid hB
  have HBs := Lib.hid hBs
  have HB8 := Lib.hid hB8
  clear hB hBs hB8
  unfold setV
  go_wp2_with fail
  refine (putS_any exB _).mono ?_
  rintro e w4 ⟨rfl, hb4⟩
  rw [HB.out]
  have hS4 := hS0.below' hb4
  obtain ⟨hc0, hc1, hc2, hc3, hc4⟩ := hS4.cells
  go_wp2_with fail
  refine (list_any exB _ (by decide)).mono ?_
  rw [ex_ints]
  rintro e w5 ⟨A, c, rfl, hnc, hcm, hr5, _, hb5⟩
  go_wp2_with fail
  refine (same_any A _ 2 2 c 2 [0, 3] [0, 3] _ rfl rfl (hr5.below ((Below.refl _ _).alloc (Nat.le_refl _) _)) (Rd.new _ _ #[.int .i64 0, .int .i64 3]) (by omega) (by omega)).mono ?_
  rw [show sameI [0, 3] [0, 3] = true from rfl]
  rintro e w6 ⟨rfl, hb6⟩
  have b32 : ((B.size : Int) == 32) = true := by rw [HBs.out]; rfl
  have b8 : (8 : Int) ≤ (B.size : Int) := by rw [HBs.out]; decide
  have e8 := HB8.out
  go_wp2
  go_ret
  exact ⟨rfl, bl (bl (bl hbA (below_of_alloc hb4)) hb5) (below_of_alloc hb6)⟩
end Go.Proofs.Ytmcolpfgflpgiaa
