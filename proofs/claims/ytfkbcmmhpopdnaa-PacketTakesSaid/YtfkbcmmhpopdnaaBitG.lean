/-
  The walks of Within and Or, the set's and the reference's.
-/
import Derived.Test.YtfkbcmmhpopdnaaEqS
namespace Go.Proofs.Ytfkbcmmhpopdnaa
open Go.RowKit

set_option maxRecDepth 20000 in
set_option maxHeartbeats 2000000 in
theorem within_any (L M : List Bool) (w : World) (hL : L.length ≤ 256) (hM : M.length ≤ 256) :
    Calls Try.prog 43 #[setV L, setV M] w fun e w' => e = .returned (.bool (wiR L M 0)) ∧ Below w.heap.size w w' := by
  obtain ⟨R, hR⟩ : ∃ R, R = wiR L M 0 := ⟨_, rfl⟩
  have htr : (∀ q, q < 4 → zW L M q = 0) → R = true := fun h => by rw [hR]; exact wi_true L M hL h
  have hfa : ∀ q, zW L M q ≠ 0 → R = false := fun q h => by rw [hR]; exact wi_false L M q h
  have heq : setEq L M = true → R = true := fun h => by
    have := (setEq_iff L M hL hM).1 h
    subst this
    rw [hR, wiR_iff]; exact fun _ _ h => h
  rw [← hR]
  clear hR
  have ht := set_test L M
  obtain ⟨B, hB⟩ : ∃ B, B = setEq L M := ⟨_, rfl⟩
  rw [← hB] at ht heq
  have hz : ∀ q, zW L M q = bits .andNot .u64 ((wdN L q : Nat) : Int) ((wdN M q : Nat) : Int) := fun _ => rfl
  have hz0 := hz 0
  have hz1 := hz 1
  have hz2 := hz 2
  have hz3 := hz 3
  unfold setV
  generalize ((L.length : Nat) : Int) = n at ht ⊢
  generalize ((M.length : Nat) : Int) = m at ht ⊢
  generalize ((wdN L 0 : Nat) : Int) = x0 at ht hz0 ⊢
  generalize ((wdN L 1 : Nat) : Int) = x1 at ht hz1 ⊢
  generalize ((wdN L 2 : Nat) : Int) = x2 at ht hz2 ⊢
  generalize ((wdN L 3 : Nat) : Int) = x3 at ht hz3 ⊢
  generalize ((wdN M 0 : Nat) : Int) = y0 at ht hz0 ⊢
  generalize ((wdN M 1 : Nat) : Int) = y1 at ht hz1 ⊢
  generalize ((wdN M 2 : Nat) : Int) = y2 at ht hz2 ⊢
  generalize ((wdN M 3 : Nat) : Int) = y3 at ht hz3 ⊢
  clear hB hz
  have hq : ∀ w, (binOp .eql 51 (.agg #[.int .i64 n, .int .u64 x0, .int .u64 x1, .int .u64 x2, .int .u64 x3]) (.agg #[.int .i64 m, .int .u64 y0, .int .u64 y1, .int .u64 y2, .int .u64 y3])).run Try.prog w = .ok (.bool B) w := fun w => by rw [eq_sets, ht]
  have i0 : ∀ w, (Instr.index 49 (.agg #[.int .u64 x0, .int .u64 x1, .int .u64 x2, .int .u64 x3]) (.int .i64 0)).run Try.prog w = .ok (.int .u64 x0) w := fun _ => by kernel_rfl
  have i1 : ∀ w, (Instr.index 49 (.agg #[.int .u64 x0, .int .u64 x1, .int .u64 x2, .int .u64 x3]) (.int .i64 1)).run Try.prog w = .ok (.int .u64 x1) w := fun _ => by kernel_rfl
  have i2 : ∀ w, (Instr.index 49 (.agg #[.int .u64 x0, .int .u64 x1, .int .u64 x2, .int .u64 x3]) (.int .i64 2)).run Try.prog w = .ok (.int .u64 x2) w := fun _ => by kernel_rfl
  have i3 : ∀ w, (Instr.index 49 (.agg #[.int .u64 x0, .int .u64 x1, .int .u64 x2, .int .u64 x3]) (.int .i64 3)).run Try.prog w = .ok (.int .u64 x3) w := fun _ => by kernel_rfl
  have Htr := Lib.hid htr
  have Hfa := Lib.hid hfa
  have Heq := Lib.hid heq
  have HZ0 := Lib.hid hz0
  have HZ1 := Lib.hid hz1
  have HZ2 := Lib.hid hz2
  have HZ3 := Lib.hid hz3
  clear htr hfa heq ht hz0 hz1 hz2 hz3
  have hSw := Bk.new w 51 #[.int .i64 n, .int .u64 x0, .int .u64 x1, .int .u64 x2, .int .u64 x3]
  have hTw := Bk.new (w.alloc (.cells #[.int .i64 n, .int .u64 x0, .int .u64 x1, .int .u64 x2, .int .u64 x3] 51)) 51 #[.int .i64 m, .int .u64 y0, .int .u64 y1, .int .u64 y2, .int .u64 y3]
  cases B with
  | true =>
    go_enter Try.func43, Try.ntmps43
    go_wp2
    go_ret
    exact ⟨by rw [Heq.out trivial]; rfl, ((Below.refl _ _).alloc (Nat.le_refl _) _).alloc (by simp) _⟩
  | false =>
    go_enter Try.func43, Try.ntmps43
    go_wp2
    go_loopw [5, 6, 12] (fun _ _ i wr => ∃ k : Nat, k ≤ 4 ∧ i = .int .i64 k ∧ Hid (∀ q, q < k → zW L M q = 0) ∧ Bk wr w.heap.size 51 #[.int .i64 n, .int .u64 x0, .int .u64 x1, .int .u64 x2, .int .u64 x3] ∧ Bk wr (w.heap.size + 1) 51 #[.int .i64 m, .int .u64 y0, .int .u64 y1, .int .u64 y2, .int .u64 y3] ∧ Below w.heap.size w wr) (fun _ _ i _ => 4 - (intOf i).toNat)
    case atStart => exact ⟨0, by omega, rfl, fun q h => absurd h (by omega), hSw.alloc _, by simpa using hTw, ((Below.refl _ _).alloc (Nat.le_refl _) _).alloc (by simp) _⟩
    case round =>
      obtain ⟨k, hk, rfl, hp, hS, hT, hb⟩ := hrel
      have hkk : k = 0 ∨ k = 1 ∨ k = 2 ∨ k = 3 ∨ k = 4 := by omega
      have hc0 := hT.cell 1
      have hc1 := hT.cell 2
      have hc2 := hT.cell 3
      have hc3 := hT.cell 4
      simp only [List.getElem?_toArray, List.getElem?_cons_succ, List.getElem?_cons_zero] at hc0 hc1 hc2 hc3
      rcases hkk with rfl | rfl | rfl | rfl | rfl
      · by_cases hzz : zW L M 0 = 0
        · have Hp : Hid (∀ q, q < 0 + 1 → zW L M q = 0) := fun q hq => by
            by_cases h : q = 0
            · subst h; exact hzz
            · exact hp.out q (by omega)
          rw [HZ0.out] at hzz
          go_wp2
          go_roundw
          case rel => exact ⟨0 + 1, by omega, by go_num, Hp, hS, hT, hb⟩
          case measure => simp [intOf]
        · have HR := Lib.hid (Hfa.out 0 hzz)
          rw [HZ0.out] at hzz
          go_wp2
          go_ret
          exact ⟨by rw [HR.out]; rfl, hb⟩
      · by_cases hzz : zW L M 1 = 0
        · have Hp : Hid (∀ q, q < 1 + 1 → zW L M q = 0) := fun q hq => by
            by_cases h : q = 1
            · subst h; exact hzz
            · exact hp.out q (by omega)
          rw [HZ1.out] at hzz
          go_wp2
          go_roundw
          case rel => exact ⟨1 + 1, by omega, by go_num, Hp, hS, hT, hb⟩
          case measure => simp [intOf]
        · have HR := Lib.hid (Hfa.out 1 hzz)
          rw [HZ1.out] at hzz
          go_wp2
          go_ret
          exact ⟨by rw [HR.out]; rfl, hb⟩
      · by_cases hzz : zW L M 2 = 0
        · have Hp : Hid (∀ q, q < 2 + 1 → zW L M q = 0) := fun q hq => by
            by_cases h : q = 2
            · subst h; exact hzz
            · exact hp.out q (by omega)
          rw [HZ2.out] at hzz
          go_wp2
          go_roundw
          case rel => exact ⟨2 + 1, by omega, by go_num, Hp, hS, hT, hb⟩
          case measure => simp [intOf]
        · have HR := Lib.hid (Hfa.out 2 hzz)
          rw [HZ2.out] at hzz
          go_wp2
          go_ret
          exact ⟨by rw [HR.out]; rfl, hb⟩
      · by_cases hzz : zW L M 3 = 0
        · have Hp : Hid (∀ q, q < 3 + 1 → zW L M q = 0) := fun q hq => by
            by_cases h : q = 3
            · subst h; exact hzz
            · exact hp.out q (by omega)
          rw [HZ3.out] at hzz
          go_wp2
          go_roundw
          case rel => exact ⟨3 + 1, by omega, by go_num, Hp, hS, hT, hb⟩
          case measure => simp [intOf]
        · have HR := Lib.hid (Hfa.out 3 hzz)
          rw [HZ3.out] at hzz
          go_wp2
          go_ret
          exact ⟨by rw [HR.out]; rfl, hb⟩
      · have HR := Lib.hid (Htr.out hp.out)
        go_wp2
        go_ret
        exact ⟨by rw [HR.out]; rfl, hb⟩
end Go.Proofs.Ytfkbcmmhpopdnaa
