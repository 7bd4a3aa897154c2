/-
  Plain facts of two sets: within one another, together, the same. The walks of Within and Or, the set's and the reference's. '==' of sets. The walks of Within and Or, the set's and the reference's.
-/
import Derived.Test.YtaagdoaeefhleaaDoorSetB
import Derived.Laws.StructEq
namespace Go.Proofs.YtaagdoaeefhleaaDoor
open Go.RowKit

/-- Are all the places of the first list, from k on, in the second one? -/
def wiR (L M : List Bool) (k : Nat) : Bool := if h : k < L.length then (if L.getD k false = true ∧ M.getD k false = false then false else wiR L M (k + 1)) else true
termination_by L.length - k
theorem wiR_end (L M : List Bool) (k : Nat) (h : L.length ≤ k) : wiR L M k = true := by unfold wiR; rw [dif_neg (by omega)]
theorem wiR_bad (L M : List Bool) (k : Nat) (h : k < L.length) (h1 : L.getD k false = true) (h2 : M.getD k false = false) : wiR L M k = false := by unfold wiR; rw [dif_pos h, if_pos ⟨h1, h2⟩]
theorem wiR_no (L M : List Bool) (k : Nat) (h : k < L.length) (h1 : L.getD k false = false) : wiR L M k = wiR L M (k + 1) := by
  rw [wiR, dif_pos h, if_neg]; rintro ⟨h2, _⟩; rw [h1] at h2; cases h2
theorem wiR_yes (L M : List Bool) (k : Nat) (h : k < L.length) (h2 : M.getD k false = true) : wiR L M k = wiR L M (k + 1) := by
  rw [wiR, dif_pos h, if_neg]; rintro ⟨_, h3⟩; rw [h2] at h3; cases h3
theorem getD_out (L : List Bool) (k : Nat) (h : L.length ≤ k) : L.getD k false = false := by rw [List.getD_eq_getElem?_getD, List.getElem?_eq_none h]; rfl
theorem getD_in {L : List Bool} {k : Nat} (h : L.getD k false = true) : k < L.length := by
  rcases Nat.lt_or_ge k L.length with h1 | h1
  · exact h1
  · rw [getD_out L k h1] at h; cases h
theorem wiR_iff (L M : List Bool) (k : Nat) : wiR L M k = true ↔ ∀ i, k ≤ i → L.getD i false = true → M.getD i false = true := by
  suffices h : ∀ d k, L.length - k = d → (wiR L M k = true ↔ ∀ i, k ≤ i → L.getD i false = true → M.getD i false = true) from h _ k rfl
  intro d
  induction d with
  | zero =>
    intro k hk
    rw [wiR_end L M k (by omega)]
    refine ⟨fun _ i hi h => ?_, fun _ => rfl⟩
    have := getD_in h
    omega
  | succ d ih =>
    intro k hk
    have hlt : k < L.length := by omega
    have step : ∀ b : Bool, M.getD k false = b → (L.getD k false = true → b = true) → ((wiR L M (k + 1) = true) ↔ ∀ i, k ≤ i → L.getD i false = true → M.getD i false = true) := by
      intro b hb himp
      rw [ih (k + 1) (by omega)]
      refine ⟨fun h i hi hL => ?_, fun h i hi hL => h i (by omega) hL⟩
      rcases Nat.eq_or_lt_of_le hi with rfl | h2
      · rw [hb]; exact himp hL
      · exact h i h2 hL
    cases h1 : L.getD k false with
    | false => rw [wiR_no L M k hlt h1]; exact step _ rfl (by rw [h1]; intro h; cases h)
    | true =>
      cases h2 : M.getD k false with
      | true => rw [wiR_yes L M k hlt h2]; exact step _ h2 (fun _ => rfl)
      | false =>
        rw [wiR_bad L M k hlt h1 h2]
        refine ⟨fun h => (by cases h), fun h => ?_⟩
        have := h k (Nat.le_refl _) h1
        rw [h2] at this
        cases this

/-- 'w &^ t.w[i]'. -/
def zW (L M : List Bool) (q : Nat) : Int := bits .andNot .u64 (wdN L q : Nat) (wdN M q : Nat)
theorem not_bit (x r : Nat) (hx : x < 18446744073709551616) (hr : r < 64) : (18446744073709551615 - x).testBit r = !x.testBit r := by
  have := Nat.testBit_two_pow_sub_succ (x := x) (n := 64) hx r
  rw [show 2 ^ 64 - (x + 1) = 18446744073709551615 - x from by omega] at this
  rw [this]; simp [hr]
theorem zW_iff (L M : List Bool) (q : Nat) : zW L M q = 0 ↔ ∀ r, r < 64 → L.getD (64 * q + r) false = true → M.getD (64 * q + r) false = true := by
  unfold zW
  rw [u64_andNot_nat _ _ (wdN_lt _ _) (wdN_lt _ _)]
  constructor
  · intro h r hr hL
    have h0 : wdN L q &&& (18446744073709551615 - wdN M q) = 0 := by exact_mod_cast h
    have h1 := congrArg (fun x => Nat.testBit x r) h0
    simp only [Nat.testBit_and, wdN_bit L q r hr, not_bit _ _ (wdN_lt M q) hr, wdN_bit M q r hr, hL, Nat.zero_testBit, Bool.true_and] at h1
    simpa using h1
  · intro h
    have h0 : wdN L q &&& (18446744073709551615 - wdN M q) = 0 := by
      refine wdN_ext (Nat.lt_of_le_of_lt Nat.and_le_left (wdN_lt _ _)) (by omega) fun r hr => ?_
      rw [Nat.testBit_and, wdN_bit L q r hr, not_bit _ _ (wdN_lt M q) hr, wdN_bit M q r hr, Nat.zero_testBit]
      cases hL : L.getD (64 * q + r) false with
      | false => rfl
      | true => rw [h r hr hL]; rfl
    rw [h0]; rfl
theorem wi_true (L M : List Bool) (hL : L.length ≤ 256) (h : ∀ q, q < 4 → zW L M q = 0) : wiR L M 0 = true := by
  rw [wiR_iff]
  intro i _ hi
  have h256 := getD_in hi
  have := (zW_iff L M (i / 64)).1 (h _ (by omega)) (i % 64) (by omega)
  rw [show 64 * (i / 64) + i % 64 = i from by omega] at this
  exact this hi
theorem wi_false (L M : List Bool) (q : Nat) (h : zW L M q ≠ 0) : wiR L M 0 = false := by
  cases hw : wiR L M 0 with
  | false => rfl
  | true => exact absurd ((zW_iff L M q).2 fun r _ hr => (wiR_iff L M 0).1 hw _ (by omega) hr) h
/-- The program's test of two sets. -/
def setEq (L M : List Bool) : Bool := decide (L.length = M.length) && (decide (wdN L 0 = wdN M 0) && decide (wdN L 1 = wdN M 1) && decide (wdN L 2 = wdN M 2) && decide (wdN L 3 = wdN M 3))
theorem words_ext (L M : List Bool) (hL : L.length ≤ 256) (hM : M.length ≤ 256) (h : ∀ q, q < 4 → wdN L q = wdN M q) (i : Nat) : L.getD i false = M.getD i false := by
  rcases Nat.lt_or_ge i 256 with h1 | h1
  · have := congrArg (fun x => Nat.testBit x (i % 64)) (h (i / 64) (by omega))
    simp only [wdN_bit _ _ _ (show i % 64 < 64 by omega), show 64 * (i / 64) + i % 64 = i from by omega] at this
    exact this
  · rw [getD_out L i (by omega), getD_out M i (by omega)]
theorem ext_getD (L M : List Bool) (h : L.length = M.length) (h2 : ∀ i, L.getD i false = M.getD i false) : L = M := by
  refine List.ext_getElem h fun i h3 h4 => ?_
  have := h2 i
  simpa [List.getD_eq_getElem?_getD, List.getElem?_eq_getElem h3, List.getElem?_eq_getElem h4] using this
theorem setEq_iff (L M : List Bool) (hL : L.length ≤ 256) (hM : M.length ≤ 256) : setEq L M = true ↔ L = M := by
  constructor
  · intro h
    unfold setEq at h
    simp only [Bool.and_eq_true, decide_eq_true_eq] at h
    obtain ⟨h0, ⟨⟨h1, h2⟩, h3⟩, h4⟩ := h
    refine ext_getD L M h0 (words_ext L M hL hM fun q hq => ?_)
    have : q = 0 ∨ q = 1 ∨ q = 2 ∨ q = 3 := by omega
    rcases this with rfl | rfl | rfl | rfl <;> assumption
  · rintro rfl; simp [setEq]

/-- Both together. -/
def orB (L M : List Bool) : List Bool := (List.range (max L.length M.length)).map fun i => L.getD i false || M.getD i false
theorem orB_length (L M : List Bool) : (orB L M).length = max L.length M.length := by simp [orB]
theorem orB_getD (L M : List Bool) (i : Nat) : (orB L M).getD i false = (L.getD i false || M.getD i false) := by
  rcases Nat.lt_or_ge i (max L.length M.length) with h | h
  · rw [List.getD_eq_getElem?_getD, List.getElem?_eq_getElem (by rw [orB_length]; exact h)]
    simp [orB]
  · rw [getD_out (orB L M) i (by rw [orB_length]; exact h), getD_out L i (by omega), getD_out M i (by omega)]; rfl
theorem wdN_or (L M : List Bool) (q : Nat) : bits .or .u64 (wdN L q : Nat) (wdN M q : Nat) = (wdN (orB L M) q : Nat) := by
  rw [bits_or_u64_nat _ _ (wdN_lt _ _) (wdN_lt _ _)]
  congr 1
  refine wdN_ext (Nat.or_lt_two_pow (n := 64) (wdN_lt _ _) (wdN_lt _ _)) (wdN_lt _ _) fun r hr => ?_
  rw [Nat.testBit_or, wdN_bit _ _ _ hr, wdN_bit _ _ _ hr, wdN_bit _ _ _ hr, orB_getD]
theorem within_or_left (L M : List Bool) : wiR L (orB L M) 0 = true := by
  rw [wiR_iff]; intro i _ h; rw [orB_getD, h]; rfl
theorem within_or_right (L M : List Bool) : wiR M (orB L M) 0 = true := by
  rw [wiR_iff]; intro i _ h; rw [orB_getD, h]; cases L.getD i false <;> rfl
theorem orB_succ (L M : List Bool) (k : Nat) : (List.range (k + 1)).map (fun i => L.getD i false || M.getD i false) = (List.range k).map (fun i => L.getD i false || M.getD i false) ++ [L.getD k false || M.getD k false] := by
  rw [List.range_succ, List.map_append]; rfl
end Go.Proofs.YtaagdoaeefhleaaDoor
namespace Go.Proofs.YtaagdoaeefhleaaDoor
open Go.RowKit

/-- The program's `==` of two arrays of four words. -/
@[go_sem] theorem eq_words (a0 a1 a2 a3 b0 b1 b2 b3 : Int) (w : World) : (Op.equalIn 9999 30 (.agg #[.int .u64 a0, .int .u64 a1, .int .u64 a2, .int .u64 a3]) (.agg #[.int .u64 b0, .int .u64 b1, .int .u64 b2, .int .u64 b3])).run Tryd.prog w = .ok (a0 == b0 && a1 == b1 && a2 == b2 && a3 == b3) w := by
  have u3 := Tryd.underlying29
  have a3' := Tryd.isAgg29
  have z3 := Tryd.sizeOf29
  rw [show (9999 : Nat) = 9998 + 1 from rfl, Op.equalIn]
  simp only [Sem.run_bind, run_underlying Tryd.underlying30, Result.andThen_ok]
  simp only [Std.Legacy.Range.forIn_eq_forIn_range', Std.Legacy.Range.size, Nat.sub_zero, Nat.add_sub_cancel, Nat.div_one, List.range'_succ, List.range'_zero, List.forIn_cons, List.forIn_nil]
  go_simp
  by_cases h1 : a0 = b0 <;> by_cases h2 : a1 = b1 <;> by_cases h3 : a2 = b2 <;> by_cases h4 : a3 = b3 <;> simp [h1, h2, h3, h4]
theorem eq_sets (n m a0 a1 a2 a3 b0 b1 b2 b3 : Int) (w : World) : (binOp .eql 32 (.agg #[.int .i64 n, .int .u64 a0, .int .u64 a1, .int .u64 a2, .int .u64 a3]) (.agg #[.int .i64 m, .int .u64 b0, .int .u64 b1, .int .u64 b2, .int .u64 b3])).run Tryd.prog w = .ok (.bool (n == m && (a0 == b0 && a1 == b1 && a2 == b2 && a3 == b3))) w := by
  have u3 := Tryd.underlying3
  have u4 := Tryd.underlying30
  have a3' := Tryd.isAgg3
  have a4' := Tryd.isAgg30
  have z3 := Tryd.sizeOf3
  have z4 := Tryd.sizeOf30
  have hS : Tryd.prog.underlying 32 = some (.struct (Tryd.prog.fieldsOf 32)) := by kernel_rfl
  have hp : Tryd.prog.stoodInHeld 32 = false := by kernel_rfl
  rw [run_eql_struct, show (10000 : Nat) = 9999 + 1 from rfl, run_equalIn_agg w 9999 32 _ _ hS hp]
  simp only [Program.fieldsOf, Tryd.underlying32]
  go_simp
  by_cases h0 : n = m <;> by_cases h1 : a0 = b0 <;> by_cases h2 : a1 = b1 <;> by_cases h3 : a2 = b2 <;> by_cases h4 : a3 = b3 <;> simp [h0, h1, h2, h3, h4]
theorem set_test (L M : List Bool) : (((L.length : Nat) : Int) == ((M.length : Nat) : Int) && (((wdN L 0 : Nat) : Int) == ((wdN M 0 : Nat) : Int) && ((wdN L 1 : Nat) : Int) == ((wdN M 1 : Nat) : Int) && ((wdN L 2 : Nat) : Int) == ((wdN M 2 : Nat) : Int) && ((wdN L 3 : Nat) : Int) == ((wdN M 3 : Nat) : Int))) = setEq L M := by
  have h : ∀ a b : Nat, ((a : Int) == (b : Int)) = decide (a = b) := by
    intro a b
    by_cases hab : a = b
    · simp [hab]
    · have : ¬ ((a : Int) = (b : Int)) := by omega
      simp [hab, this]
  rw [h, h, h, h, h, setEq]

end Go.Proofs.YtaagdoaeefhleaaDoor
namespace Go.Proofs.YtaagdoaeefhleaaDoor
open Go.RowKit

set_option maxRecDepth 20000 in
set_option maxHeartbeats 2000000 in
theorem within_any (L M : List Bool) (w : World) (hL : L.length ≤ 256) (hM : M.length ≤ 256) :
    Calls Tryd.prog 41 #[setV L, setV M] w fun e w' => e = .returned (.bool (wiR L M 0)) ∧ Below w.heap.size w w' := by
  obtain ⟨R, hR⟩ : ∃ R, R = wiR L M 0 := ⟨_, rfl⟩
  have htr : (∀ q, q < 4 → zW L M q = 0) → R = true := fun h => by rw [hR]; exact wi_true L M hL h
  have hfa : ∀ q, zW L M q ≠ 0 → R = false := fun q h => by rw [hR]; exact wi_false L M q h
  have heq : setEq L M = true → R = true := fun h => by
    have := (setEq_iff L M hL hM).1 h
    subst this
    rw [hR, wiR_iff]; exact fun _ _ h => h
  rw [← hR]
  clear hR
  have ht := set_test L M
  obtain ⟨B, hB⟩ : ∃ B, B = setEq L M := ⟨_, rfl⟩
  rw [← hB] at ht heq
  have hz : ∀ q, zW L M q = bits .andNot .u64 ((wdN L q : Nat) : Int) ((wdN M q : Nat) : Int) := fun _ => rfl
  have hz0 := hz 0
  have hz1 := hz 1
  have hz2 := hz 2
  have hz3 := hz 3
  unfold setV
  generalize ((L.length : Nat) : Int) = n at ht ⊢
  generalize ((M.length : Nat) : Int) = m at ht ⊢
  generalize ((wdN L 0 : Nat) : Int) = x0 at ht hz0 ⊢
  generalize ((wdN L 1 : Nat) : Int) = x1 at ht hz1 ⊢
  generalize ((wdN L 2 : Nat) : Int) = x2 at ht hz2 ⊢
  generalize ((wdN L 3 : Nat) : Int) = x3 at ht hz3 ⊢
  generalize ((wdN M 0 : Nat) : Int) = y0 at ht hz0 ⊢
  generalize ((wdN M 1 : Nat) : Int) = y1 at ht hz1 ⊢
  generalize ((wdN M 2 : Nat) : Int) = y2 at ht hz2 ⊢
  generalize ((wdN M 3 : Nat) : Int) = y3 at ht hz3 ⊢
  clear hB hz
  have hq : ∀ w, (binOp .eql 32 (.agg #[.int .i64 n, .int .u64 x0, .int .u64 x1, .int .u64 x2, .int .u64 x3]) (.agg #[.int .i64 m, .int .u64 y0, .int .u64 y1, .int .u64 y2, .int .u64 y3])).run Tryd.prog w = .ok (.bool B) w := fun w => by rw [eq_sets, ht]
  have i0 : ∀ w, (Instr.index 30 (.agg #[.int .u64 x0, .int .u64 x1, .int .u64 x2, .int .u64 x3]) (.int .i64 0)).run Tryd.prog w = .ok (.int .u64 x0) w := fun _ => by kernel_rfl
  have i1 : ∀ w, (Instr.index 30 (.agg #[.int .u64 x0, .int .u64 x1, .int .u64 x2, .int .u64 x3]) (.int .i64 1)).run Tryd.prog w = .ok (.int .u64 x1) w := fun _ => by kernel_rfl
  have i2 : ∀ w, (Instr.index 30 (.agg #[.int .u64 x0, .int .u64 x1, .int .u64 x2, .int .u64 x3]) (.int .i64 2)).run Tryd.prog w = .ok (.int .u64 x2) w := fun _ => by kernel_rfl
  have i3 : ∀ w, (Instr.index 30 (.agg #[.int .u64 x0, .int .u64 x1, .int .u64 x2, .int .u64 x3]) (.int .i64 3)).run Tryd.prog w = .ok (.int .u64 x3) w := fun _ => by kernel_rfl
  have Htr := Lib.hid htr
  have Hfa := Lib.hid hfa
  have Heq := Lib.hid heq
  have HZ0 := Lib.hid hz0
  have HZ1 := Lib.hid hz1
  have HZ2 := Lib.hid hz2
  have HZ3 := Lib.hid hz3
  clear htr hfa heq ht hz0 hz1 hz2 hz3
  have hSw := Bk.new w 32 #[.int .i64 n, .int .u64 x0, .int .u64 x1, .int .u64 x2, .int .u64 x3]
  have hTw := Bk.new (w.alloc (.cells #[.int .i64 n, .int .u64 x0, .int .u64 x1, .int .u64 x2, .int .u64 x3] 32)) 32 #[.int .i64 m, .int .u64 y0, .int .u64 y1, .int .u64 y2, .int .u64 y3]
  cases B with
  | true =>
    go_enter Tryd.func41, Tryd.ntmps41
    go_wp2
    go_ret
    exact ⟨by rw [Heq.out trivial]; rfl, ((Below.refl _ _).alloc (Nat.le_refl _) _).alloc (by simp) _⟩
  | false =>
    go_enter Tryd.func41, Tryd.ntmps41
    go_wp2
    go_loopw [5, 6, 12] (fun _ _ i wr => ∃ k : Nat, k ≤ 4 ∧ i = .int .i64 k ∧ Hid (∀ q, q < k → zW L M q = 0) ∧ Bk wr w.heap.size 32 #[.int .i64 n, .int .u64 x0, .int .u64 x1, .int .u64 x2, .int .u64 x3] ∧ Bk wr (w.heap.size + 1) 32 #[.int .i64 m, .int .u64 y0, .int .u64 y1, .int .u64 y2, .int .u64 y3] ∧ Below w.heap.size w wr) (fun _ _ i _ => 4 - (intOf i).toNat)
    case atStart => exact ⟨0, by omega, rfl, fun q h => absurd h (by omega), hSw.alloc _, by simpa using hTw, ((Below.refl _ _).alloc (Nat.le_refl _) _).alloc (by simp) _⟩
    case round =>
      obtain ⟨k, hk, rfl, hp, hS, hT, hb⟩ := hrel
      have hkk : k = 0 ∨ k = 1 ∨ k = 2 ∨ k = 3 ∨ k = 4 := by omega
      have hc0 := hT.cell 1
      have hc1 := hT.cell 2
      have hc2 := hT.cell 3
      have hc3 := hT.cell 4
      simp only [List.getElem?_toArray, List.getElem?_cons_succ, List.getElem?_cons_zero] at hc0 hc1 hc2 hc3
      rcases hkk with rfl | rfl | rfl | rfl | rfl
      · by_cases hzz : zW L M 0 = 0
        · have Hp : Hid (∀ q, q < 0 + 1 → zW L M q = 0) := fun q hq => by
            by_cases h : q = 0
            · subst h; exact hzz
            · exact hp.out q (by omega)
          rw [HZ0.out] at hzz
          go_wp2
          go_roundw
          case rel => exact ⟨0 + 1, by omega, by go_num, Hp, hS, hT, hb⟩
          case measure => simp [intOf]
        · have HR := Lib.hid (Hfa.out 0 hzz)
          rw [HZ0.out] at hzz
          go_wp2
          go_ret
          exact ⟨by rw [HR.out]; rfl, hb⟩
      · by_cases hzz : zW L M 1 = 0
        · have Hp : Hid (∀ q, q < 1 + 1 → zW L M q = 0) := fun q hq => by
            by_cases h : q = 1
            · subst h; exact hzz
            · exact hp.out q (by omega)
          rw [HZ1.out] at hzz
          go_wp2
          go_roundw
          case rel => exact ⟨1 + 1, by omega, by go_num, Hp, hS, hT, hb⟩
          case measure => simp [intOf]
        · have HR := Lib.hid (Hfa.out 1 hzz)
          rw [HZ1.out] at hzz
          go_wp2
          go_ret
          exact ⟨by rw [HR.out]; rfl, hb⟩
      · by_cases hzz : zW L M 2 = 0
        · have Hp : Hid (∀ q, q < 2 + 1 → zW L M q = 0) := fun q hq => by
            by_cases h : q = 2
            · subst h; exact hzz
            · exact hp.out q (by omega)
          rw [HZ2.out] at hzz
          go_wp2
          go_roundw
          case rel => exact ⟨2 + 1, by omega, by go_num, Hp, hS, hT, hb⟩
          case measure => simp [intOf]
        · have HR := Lib.hid (Hfa.out 2 hzz)
          rw [HZ2.out] at hzz
          go_wp2
          go_ret
          exact ⟨by rw [HR.out]; rfl, hb⟩
      · by_cases hzz : zW L M 3 = 0
        · have Hp : Hid (∀ q, q < 3 + 1 → zW L M q = 0) := fun q hq => by
            by_cases h : q = 3
            · subst h; exact hzz
            · exact hp.out q (by omega)
          rw [HZ3.out] at hzz
          go_wp2
          go_roundw
          case rel => exact ⟨3 + 1, by omega, by go_num, Hp, hS, hT, hb⟩
          case measure => simp [intOf]
        · have HR := Lib.hid (Hfa.out 3 hzz)
          rw [HZ3.out] at hzz
          go_wp2
          go_ret
          exact ⟨by rw [HR.out]; rfl, hb⟩
      · have HR := Lib.hid (Htr.out hp.out)
        go_wp2
        go_ret
        exact ⟨by rw [HR.out]; rfl, hb⟩
end Go.Proofs.YtaagdoaeefhleaaDoor
