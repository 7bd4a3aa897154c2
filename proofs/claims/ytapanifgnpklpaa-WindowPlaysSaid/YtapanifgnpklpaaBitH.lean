/-
  The walk of Or.
-/
import Derived.Test.YtapanifgnpklpaaEqS
namespace Go.Proofs.Ytapanifgnpklpaa
open Go.RowKit

set_option maxRecDepth 20000 in
set_option maxHeartbeats 2000000 in
theorem or_any (L M : List Bool) (w : World) (hL : L.length ≤ 256) (hM : M.length ≤ 256) :
    Calls Try.prog 30 #[setV L, setV M] w fun e w' => e = .returned (setV (orB L M)) ∧ Below w.heap.size w w' := by
  have hlen := orB_length L M
  have hz0 := wdN_or L M 0
  have hz1 := wdN_or L M 1
  have hz2 := wdN_or L M 2
  have hz3 := wdN_or L M 3
  unfold setV
  have hlen' : max ((L.length : Nat) : Int) ((M.length : Nat) : Int) = ((orB L M).length : Nat) := by omega
  have hn : (0 : Int) ≤ ((L.length : Nat) : Int) := by omega
  have hm : (0 : Int) ≤ ((M.length : Nat) : Int) := by omega
  have hn2 : ((L.length : Nat) : Int) ≤ 256 := by omega
  have hm2 : ((M.length : Nat) : Int) ≤ 256 := by omega
  clear hlen
  generalize ((L.length : Nat) : Int) = n at *
  generalize ((M.length : Nat) : Int) = m at *
  generalize (((orB L M).length : Nat) : Int) = p at *
  generalize ((wdN (orB L M) 0 : Nat) : Int) = z0 at *
  generalize ((wdN (orB L M) 1 : Nat) : Int) = z1 at *
  generalize ((wdN (orB L M) 2 : Nat) : Int) = z2 at *
  generalize ((wdN (orB L M) 3 : Nat) : Int) = z3 at *
  generalize ((wdN L 0 : Nat) : Int) = x0 at *
  generalize ((wdN L 1 : Nat) : Int) = x1 at *
  generalize ((wdN L 2 : Nat) : Int) = x2 at *
  generalize ((wdN L 3 : Nat) : Int) = x3 at *
  generalize ((wdN M 0 : Nat) : Int) = y0 at *
  generalize ((wdN M 1 : Nat) : Int) = y1 at *
  generalize ((wdN M 2 : Nat) : Int) = y2 at *
  generalize ((wdN M 3 : Nat) : Int) = y3 at *
  have i0 : ∀ w, (Instr.index 37 (.agg #[.int .u64 y0, .int .u64 y1, .int .u64 y2, .int .u64 y3]) (.int .i64 0)).run Try.prog w = .ok (.int .u64 y0) w := fun _ => by kernel_rfl
  have i1 : ∀ w, (Instr.index 37 (.agg #[.int .u64 y0, .int .u64 y1, .int .u64 y2, .int .u64 y3]) (.int .i64 1)).run Try.prog w = .ok (.int .u64 y1) w := fun _ => by kernel_rfl
  have i2 : ∀ w, (Instr.index 37 (.agg #[.int .u64 y0, .int .u64 y1, .int .u64 y2, .int .u64 y3]) (.int .i64 2)).run Try.prog w = .ok (.int .u64 y2) w := fun _ => by kernel_rfl
  have i3 : ∀ w, (Instr.index 37 (.agg #[.int .u64 y0, .int .u64 y1, .int .u64 y2, .int .u64 y3]) (.int .i64 3)).run Try.prog w = .ok (.int .u64 y3) w := fun _ => by kernel_rfl
  have Hz0 := Lib.hid hz0
  have Hz1 := Lib.hid hz1
  have Hz2 := Lib.hid hz2
  have Hz3 := Lib.hid hz3
  have hSp := ((Bk.new w 39 #[.int .i64 p, .int .u64 x0, .int .u64 x1, .int .u64 x2, .int .u64 x3]).alloc (.cells #[.int .i64 m, .int .u64 y0, .int .u64 y1, .int .u64 y2, .int .u64 y3] 39)).alloc (.cells #[.int .i64 0, .int .u64 0, .int .u64 0, .int .u64 0, .int .u64 0] 39)
  have hRw := Bk.new ((w.alloc (.cells #[.int .i64 p, .int .u64 x0, .int .u64 x1, .int .u64 x2, .int .u64 x3] 39)).alloc (.cells #[.int .i64 m, .int .u64 y0, .int .u64 y1, .int .u64 y2, .int .u64 y3] 39)) 39 #[.int .i64 0, .int .u64 0, .int .u64 0, .int .u64 0, .int .u64 0]
  by_cases h : n < m
  all_goals
    first
      | (have hp : p = m := by omega)
      | (have hp : p = n := by omega)
    subst hp
    clear hz0 hz1 hz2 hz3 hlen'
    go_enter Try.func30, Try.ntmps30
    go_wp2
    go_loopw [5, 6, 15] (fun _ _ i wr => ∃ k : Nat, k ≤ 4 ∧ i = .int .i64 k ∧ ((k = 0 ∧ Bk wr w.heap.size 39 #[.int .i64 p, .int .u64 x0, .int .u64 x1, .int .u64 x2, .int .u64 x3]) ∨ (k = 1 ∧ Bk wr w.heap.size 39 #[.int .i64 p, .int .u64 z0, .int .u64 x1, .int .u64 x2, .int .u64 x3]) ∨ (k = 2 ∧ Bk wr w.heap.size 39 #[.int .i64 p, .int .u64 z0, .int .u64 z1, .int .u64 x2, .int .u64 x3]) ∨ (k = 3 ∧ Bk wr w.heap.size 39 #[.int .i64 p, .int .u64 z0, .int .u64 z1, .int .u64 z2, .int .u64 x3]) ∨ (k = 4 ∧ Bk wr w.heap.size 39 #[.int .i64 p, .int .u64 z0, .int .u64 z1, .int .u64 z2, .int .u64 z3])) ∧ Bk wr (w.heap.size + 1 + 1) 39 #[.int .i64 0, .int .u64 0, .int .u64 0, .int .u64 0, .int .u64 0] ∧ Below w.heap.size w wr) (fun _ _ i _ => 4 - (intOf i).toNat)
    case atStart => exact ⟨0, by omega, rfl, .inl ⟨rfl, hSp⟩, by simpa using hRw, (((Below.refl _ _).alloc (Nat.le_refl _) _).alloc (by simp) _).alloc (by simp; omega) _⟩
    case round =>
      obtain ⟨k, hk, rfl, hS, hT, hb⟩ := hrel
      rcases hS with ⟨rfl, hS⟩ | ⟨rfl, hS⟩ | ⟨rfl, hS⟩ | ⟨rfl, hS⟩ | ⟨rfl, hS⟩
      · have hc := hS.cell 1
        have hf := hS.frozen 1
        have hS2 := hS.set_ 1 (.int .u64 z0)
        have hT2 := hT.far (p := ⟨w.heap.size, 1, none⟩) (by show w.heap.size + 1 + 1 ≠ w.heap.size; omega) (.int .u64 z0)
        have hb2 := hb.setCell (p := ⟨w.heap.size, 1, none⟩) (Nat.le_refl _) (.int .u64 z0)
        simp only [List.getElem?_toArray, List.getElem?_cons_succ, List.getElem?_cons_zero] at hc
        go_wp2
        rw [Hz0.out]
        go_roundw
        case rel => exact ⟨1, by omega, by go_num, .inr (.inl ⟨rfl, hS2⟩), hT2, hb2⟩
        case measure => simp [intOf]
      · have hc := hS.cell 2
        have hf := hS.frozen 2
        have hS2 := hS.set_ 2 (.int .u64 z1)
        have hT2 := hT.far (p := ⟨w.heap.size, 2, none⟩) (by show w.heap.size + 1 + 1 ≠ w.heap.size; omega) (.int .u64 z1)
        have hb2 := hb.setCell (p := ⟨w.heap.size, 2, none⟩) (Nat.le_refl _) (.int .u64 z1)
        simp only [List.getElem?_toArray, List.getElem?_cons_succ, List.getElem?_cons_zero] at hc
        go_wp2
        rw [Hz1.out]
        go_roundw
        case rel => exact ⟨2, by omega, by go_num, .inr (.inr (.inl ⟨rfl, hS2⟩)), hT2, hb2⟩
        case measure => simp [intOf]
      · have hc := hS.cell 3
        have hf := hS.frozen 3
        have hS2 := hS.set_ 3 (.int .u64 z2)
        have hT2 := hT.far (p := ⟨w.heap.size, 3, none⟩) (by show w.heap.size + 1 + 1 ≠ w.heap.size; omega) (.int .u64 z2)
        have hb2 := hb.setCell (p := ⟨w.heap.size, 3, none⟩) (Nat.le_refl _) (.int .u64 z2)
        simp only [List.getElem?_toArray, List.getElem?_cons_succ, List.getElem?_cons_zero] at hc
        go_wp2
        rw [Hz2.out]
        go_roundw
        case rel => exact ⟨3, by omega, by go_num, .inr (.inr (.inr (.inl ⟨rfl, hS2⟩))), hT2, hb2⟩
        case measure => simp [intOf]
      · have hc := hS.cell 4
        have hf := hS.frozen 4
        have hS2 := hS.set_ 4 (.int .u64 z3)
        have hT2 := hT.far (p := ⟨w.heap.size, 4, none⟩) (by show w.heap.size + 1 + 1 ≠ w.heap.size; omega) (.int .u64 z3)
        have hb2 := hb.setCell (p := ⟨w.heap.size, 4, none⟩) (Nat.le_refl _) (.int .u64 z3)
        simp only [List.getElem?_toArray, List.getElem?_cons_succ, List.getElem?_cons_zero] at hc
        go_wp2
        rw [Hz3.out]
        go_roundw
        case rel => exact ⟨4, by omega, by go_num, .inr (.inr (.inr (.inr (⟨rfl, hS2⟩)))), hT2, hb2⟩
        case measure => simp [intOf]
      · have hc0 := hS.cell 0
        have hc1 := hS.cell 1
        have hc2 := hS.cell 2
        have hc3 := hS.cell 3
        have hc4 := hS.cell 4
        have ht0 := hT.cell 0
        have ht1 := hT.cell 1
        have ht2 := hT.cell 2
        have ht3 := hT.cell 3
        have ht4 := hT.cell 4
        have hf0 := hT.frozen 0
        have hf1 := hT.frozen 1
        have hf2 := hT.frozen 2
        have hf3 := hT.frozen 3
        have hf4 := hT.frozen 4
        simp only [List.getElem?_toArray, List.getElem?_cons_succ, List.getElem?_cons_zero] at hc0 hc1 hc2 hc3 hc4 ht0 ht1 ht2 ht3 ht4
        go_wp2
        exact bodyPost_ret (v := .agg #[.int .i64 p, .int .u64 z0, .int .u64 z1, .int .u64 z2, .int .u64 z3]) (by simp [results, Try.results30, go_sem, ht0, ht1, ht2, ht3, ht4]) rfl ⟨rfl, ((((hb.setCell (by show w.heap.size ≤ w.heap.size + 1 + 1; omega) _).setCell (by show w.heap.size ≤ w.heap.size + 1 + 1; omega) _).setCell (by show w.heap.size ≤ w.heap.size + 1 + 1; omega) _).setCell (by show w.heap.size ≤ w.heap.size + 1 + 1; omega) _).setCell (by show w.heap.size ≤ w.heap.size + 1 + 1; omega) _⟩
end Go.Proofs.Ytapanifgnpklpaa
