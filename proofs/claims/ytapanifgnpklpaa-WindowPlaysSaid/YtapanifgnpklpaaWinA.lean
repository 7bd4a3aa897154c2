/-
  A window's block; the walk of New.
-/
import Derived.Test.YtapanifgnpklpaaBitH
import Derived.Test.YtapanifgnpklpaaBitN
import Derived.Test.YtapanifgnpklpaaTake
import Derived.Deep.OwnRows
import Derived.Laws.Tables
namespace Go.Proofs.Ytapanifgnpklpaa
open Go.RowKit

/-- The cells of a window: how many blocks, which have come, which are in flight, their timers. -/
def winF (n : Int) (A S : List Bool) (T : Nat → Int × Int) : Nat → Value
  | 0 => .int .i64 n
  | 1 => .int .i64 (A.length : Nat)
  | 2 => .int .u64 (wdN A 0 : Nat)
  | 3 => .int .u64 (wdN A 1 : Nat)
  | 4 => .int .u64 (wdN A 2 : Nat)
  | 5 => .int .u64 (wdN A 3 : Nat)
  | 6 => .int .i64 (S.length : Nat)
  | 7 => .int .u64 (wdN S 0 : Nat)
  | 8 => .int .u64 (wdN S 1 : Nat)
  | 9 => .int .u64 (wdN S 2 : Nat)
  | 10 => .int .u64 (wdN S 3 : Nat)
  | k + 11 => if k % 2 = 0 then .int .i64 (T (k / 2)).1 else .int .i64 (T (k / 2)).2

def WinAt (w : World) (g : Nat) (n : Int) (A S : List Bool) (T : Nat → Int × Int) : Prop := w.rowIs g 65 523 (winF n A S T)
def tz : Nat → Int × Int := fun _ => (0, 0)
def upd (T : Nat → Int × Int) (k : Nat) (x : Int × Int) : Nat → Int × Int := fun j => if j = k then x else T j

section
variable {w w' : World} {g : Nat} {n : Int} {A S : List Bool} {T : Nat → Int × Int}
theorem WinAt.lt (h : WinAt w g n A S T) : g < w.heap.size := World.rowIs.lt h
theorem WinAt.of_block (h : WinAt w g n A S T) (e : w'.heap[g]? = w.heap[g]?) : WinAt w' g n A S T := World.rowIs.of_block h e
theorem WinAt.below' (h : WinAt w g n A S T) (hb : Below w.heap.size w w') : WinAt w' g n A S T := h.of_block (hb.block g h.lt)
theorem WinAt.head (h : WinAt w g n A S T) : w.cell? ⟨g, 0, none⟩ = some (.int .i64 n) := World.rowIs.cell h (i := 0) (by omega)
theorem WinAt.acked (h : WinAt w g n A S T) : w.cell? ⟨g, 1, none⟩ = some (.int .i64 (A.length : Nat)) ∧ w.cell? ⟨g, 2, none⟩ = some (.int .u64 (wdN A 0 : Nat)) ∧ w.cell? ⟨g, 3, none⟩ = some (.int .u64 (wdN A 1 : Nat)) ∧ w.cell? ⟨g, 4, none⟩ = some (.int .u64 (wdN A 2 : Nat)) ∧ w.cell? ⟨g, 5, none⟩ = some (.int .u64 (wdN A 3 : Nat)) :=
  ⟨World.rowIs.cell h (i := 1) (by omega), World.rowIs.cell h (i := 2) (by omega), World.rowIs.cell h (i := 3) (by omega), World.rowIs.cell h (i := 4) (by omega), World.rowIs.cell h (i := 5) (by omega)⟩
theorem WinAt.sent (h : WinAt w g n A S T) : w.cell? ⟨g, 6, none⟩ = some (.int .i64 (S.length : Nat)) ∧ w.cell? ⟨g, 7, none⟩ = some (.int .u64 (wdN S 0 : Nat)) ∧ w.cell? ⟨g, 8, none⟩ = some (.int .u64 (wdN S 1 : Nat)) ∧ w.cell? ⟨g, 9, none⟩ = some (.int .u64 (wdN S 2 : Nat)) ∧ w.cell? ⟨g, 10, none⟩ = some (.int .u64 (wdN S 3 : Nat)) :=
  ⟨World.rowIs.cell h (i := 6) (by omega), World.rowIs.cell h (i := 7) (by omega), World.rowIs.cell h (i := 8) (by omega), World.rowIs.cell h (i := 9) (by omega), World.rowIs.cell h (i := 10) (by omega)⟩
theorem winF_t (k : Nat) : winF n A S T (2 * k + 11) = .int .i64 (T k).1 ∧ winF n A S T (2 * k + 1 + 11) = .int .i64 (T k).2 := by
  constructor
  · show (if (2 * k) % 2 = 0 then Value.int .i64 (T (2 * k / 2)).1 else .int .i64 (T (2 * k / 2)).2) = _
    rw [if_pos (by omega), show 2 * k / 2 = k from by omega]
  · show (if (2 * k + 1) % 2 = 0 then Value.int .i64 (T ((2 * k + 1) / 2)).1 else .int .i64 (T ((2 * k + 1) / 2)).2) = _
    rw [if_neg (by omega), show (2 * k + 1) / 2 = k from by omega]
theorem WinAt.timer (h : WinAt w g n A S T) (k i j : Nat) (hk : k < 256) (hi : i = 2 * k + 11) (hj : j = 2 * k + 1 + 11) : w.cell? ⟨g, i, none⟩ = some (.int .i64 (T k).1) ∧ w.cell? ⟨g, j, none⟩ = some (.int .i64 (T k).2) := by
  subst hi hj
  have h1 := World.rowIs.cell h (i := 2 * k + 11) (by omega)
  have h2 := World.rowIs.cell h (i := 2 * k + 1 + 11) (by omega)
  rw [(winF_t k).1] at h1
  rw [(winF_t k).2] at h2
  exact ⟨h1, h2⟩
theorem WinAt.frozen (h : WinAt w g n A S T) (i : Nat) : w.frozen? ⟨g, i, none⟩ = false := World.rowIs.frozen h i

theorem winF_big (A' S' : List Bool) (n' : Int) (i : Nat) (h : 11 ≤ i) : winF n A S T i = winF n' A' S' T i := by
  obtain ⟨k, rfl⟩ : ∃ k, i = k + 11 := ⟨i - 11, by omega⟩
  rfl
theorem setS_f (M : List Bool) : (fun j => if j = 10 then Value.int .u64 (wdN M 3 : Nat) else (fun j => if j = 9 then Value.int .u64 (wdN M 2 : Nat) else (fun j => if j = 8 then Value.int .u64 (wdN M 1 : Nat) else (fun j => if j = 7 then Value.int .u64 (wdN M 0 : Nat) else (fun j => if j = 6 then Value.int .i64 (M.length : Nat) else winF n A S T j) j) j) j) j) = winF n A M T := by
  funext j
  match j with
  | 0 | 1 | 2 | 3 | 4 | 5 | 6 | 7 | 8 | 9 | 10 => rfl
  | k + 11 => simp [winF]
theorem setA_f (M : List Bool) : (fun j => if j = 5 then Value.int .u64 (wdN M 3 : Nat) else (fun j => if j = 4 then Value.int .u64 (wdN M 2 : Nat) else (fun j => if j = 3 then Value.int .u64 (wdN M 1 : Nat) else (fun j => if j = 2 then Value.int .u64 (wdN M 0 : Nat) else (fun j => if j = 1 then Value.int .i64 (M.length : Nat) else winF n A S T j) j) j) j) j) = winF n M S T := by
  funext j
  match j with
  | 0 | 1 | 2 | 3 | 4 | 5 | 6 | 7 | 8 | 9 | 10 => rfl
  | k + 11 => simp [winF]
theorem WinAt.setS (h : WinAt w g n A S T) (M : List Bool) : WinAt (((((w.setCell ⟨g, 6, none⟩ (.int .i64 (M.length : Nat))).setCell ⟨g, 7, none⟩ (.int .u64 (wdN M 0 : Nat))).setCell ⟨g, 8, none⟩ (.int .u64 (wdN M 1 : Nat))).setCell ⟨g, 9, none⟩ (.int .u64 (wdN M 2 : Nat))).setCell ⟨g, 10, none⟩ (.int .u64 (wdN M 3 : Nat))) g n A M T := by
  have h5 := World.rowIs.set (World.rowIs.set (World.rowIs.set (World.rowIs.set (World.rowIs.set h 6 (.int .i64 (M.length : Nat))) 7 (.int .u64 (wdN M 0 : Nat))) 8 (.int .u64 (wdN M 1 : Nat))) 9 (.int .u64 (wdN M 2 : Nat))) 10 (.int .u64 (wdN M 3 : Nat))
  rw [setS_f] at h5
  exact h5
theorem WinAt.setA (h : WinAt w g n A S T) (M : List Bool) : WinAt (((((w.setCell ⟨g, 1, none⟩ (.int .i64 (M.length : Nat))).setCell ⟨g, 2, none⟩ (.int .u64 (wdN M 0 : Nat))).setCell ⟨g, 3, none⟩ (.int .u64 (wdN M 1 : Nat))).setCell ⟨g, 4, none⟩ (.int .u64 (wdN M 2 : Nat))).setCell ⟨g, 5, none⟩ (.int .u64 (wdN M 3 : Nat))) g n M S T := by
  have h5 := World.rowIs.set (World.rowIs.set (World.rowIs.set (World.rowIs.set (World.rowIs.set h 1 (.int .i64 (M.length : Nat))) 2 (.int .u64 (wdN M 0 : Nat))) 3 (.int .u64 (wdN M 1 : Nat))) 4 (.int .u64 (wdN M 2 : Nat))) 5 (.int .u64 (wdN M 3 : Nat))
  rw [setA_f] at h5
  exact h5
theorem WinAt.setT (h : WinAt w g n A S T) (k i j : Nat) (d c : Int) (hi : i = 2 * k + 11) (hj : j = 2 * k + 1 + 11) : WinAt ((w.setCell ⟨g, i, none⟩ (.int .i64 d)).setCell ⟨g, j, none⟩ (.int .i64 c)) g n A S (upd T k (d, c)) := by
  subst hi hj
  refine World.rowIs.congr (World.rowIs.set (World.rowIs.set h _ (.int .i64 d)) _ (.int .i64 c)) ?_
  intro j _
  match j with
  | 0 | 1 | 2 | 3 | 4 | 5 | 6 | 7 | 8 | 9 | 10 =>
    rw [if_neg (by omega), if_neg (by omega)]
    rfl
  | m + 11 =>
    show _ = if m % 2 = 0 then Value.int .i64 (upd T k (d, c) (m / 2)).1 else .int .i64 (upd T k (d, c) (m / 2)).2
    unfold upd
    by_cases h1 : m = 2 * k + 1
    · subst h1
      rw [if_pos rfl, if_neg (by omega), if_pos (by omega)]
    · rw [if_neg (by omega)]
      by_cases h2 : m = 2 * k
      · subst h2
        rw [if_pos rfl, if_pos (by omega), if_pos (by omega)]
      · have h3 : ¬ m / 2 = k := by omega
        rw [if_neg (by omega), if_neg h3]
        rfl
end
theorem set5_only (w : World) (g i0 i1 i2 i3 i4 : Nat) (v0 v1 v2 v3 v4 : Value) : w.grownBy (((((w.setCell ⟨g, i0, none⟩ v0).setCell ⟨g, i1, none⟩ v1).setCell ⟨g, i2, none⟩ v2).setCell ⟨g, i3, none⟩ v3).setCell ⟨g, i4, none⟩ v4) (some g) :=
  only_trans (only_trans (only_trans (only_trans (only_set _ _ _ _) (only_set _ _ _ _)) (only_set _ _ _ _)) (only_set _ _ _ _)) (only_set _ _ _ _)
theorem set2_only (w : World) (g i0 i1 : Nat) (v0 v1 : Value) : w.grownBy ((w.setCell ⟨g, i0, none⟩ v0).setCell ⟨g, i1, none⟩ v1) (some g) := only_trans (only_set _ _ _ _) (only_set _ _ _ _)
theorem only_below {w w' : World} (g : Nat) (h : Below w.heap.size w w') : w.grownBy w' (some g) := ⟨h.os, h.tape, h.output, h.size, fun k hk _ => h.block k hk⟩

/-- A 'build' whose value is known. -/
theorem wpList_built {P : Program} {ops : Array Oper} {rest : List Oper} {o : Oper} {a : Act} {w : World} {Q : Exit → Act → World → Prop} (hgd : o.guard = none) (t : TypeId) (parts : Array (Nat × Operand)) (ho : o.op = .build t parts) (vals : Array (Nat × Value)) (v : Value) (hv : (parts.map fun (i, x) => (i, a.eval x)) = vals)
    (hr : ∀ w : World, (Instr.build t vals).run P w = .ok v w) (h : wpList P ops Q rest (a.put o.dst v) w) : wpList P ops Q (o :: rest) a w :=
  wpList_plain hgd fun K hK => by
    unfold Oper.wp execOp
    simp only [ho, hv, Sem.run_bind, hr, Result.andThen_ok]
    exact hK _ _ h
/-- A new window's cells. -/
def winZ (n a0 a1 a2 a3 a4 b0 b1 b2 b3 b4 : Value) : Array Value := ([n, a0, a1, a2, a3, a4, b0, b1, b2, b3, b4] ++ List.replicate 512 (Value.int .i64 0)).toArray
theorem win_built (n a0 a1 a2 a3 a4 b0 b1 b2 b3 b4 : Int) : Try.prog.built 65 [(0, .int .i64 n), (1, .agg #[.int .i64 a0, .int .u64 a1, .int .u64 a2, .int .u64 a3, .int .u64 a4]), (2, .agg #[.int .i64 b0, .int .u64 b1, .int .u64 b2, .int .u64 b3, .int .u64 b4])] =
    some (winZ (.int .i64 n) (.int .i64 a0) (.int .u64 a1) (.int .u64 a2) (.int .u64 a3) (.int .u64 a4) (.int .i64 b0) (.int .u64 b1) (.int .u64 b2) (.int .u64 b3) (.int .u64 b4)) := by kernel_rfl
theorem winZ_size (n a0 a1 a2 a3 a4 b0 b1 b2 b3 b4 : Value) : (winZ n a0 a1 a2 a3 a4 b0 b1 b2 b3 b4).size = 523 := by
  unfold winZ
  rw [List.size_toArray, List.length_append, List.length_replicate]
  rfl
theorem winZ_f (n : Int) (A S : List Bool) (i : Nat) (hi : i < 523) :
    (winZ (.int .i64 n) (.int .i64 (A.length : Nat)) (.int .u64 (wdN A 0 : Nat)) (.int .u64 (wdN A 1 : Nat)) (.int .u64 (wdN A 2 : Nat)) (.int .u64 (wdN A 3 : Nat)) (.int .i64 (S.length : Nat)) (.int .u64 (wdN S 0 : Nat)) (.int .u64 (wdN S 1 : Nat)) (.int .u64 (wdN S 2 : Nat)) (.int .u64 (wdN S 3 : Nat)))[i]? = some (winF n A S tz i) := by
  unfold winZ
  rw [List.getElem?_toArray]
  match i, hi with
  | 0, _ | 1, _ | 2, _ | 3, _ | 4, _ | 5, _ | 6, _ | 7, _ | 8, _ | 9, _ | 10, _ => rfl
  | k + 11, hk =>
    rw [List.getElem?_append_right (by simp)]
    simp only [List.length_cons, List.length_nil]
    rw [List.getElem?_replicate, if_pos (by omega)]
    show _ = some (if k % 2 = 0 then Value.int .i64 (tz (k / 2)).1 else .int .i64 (tz (k / 2)).2)
    simp [tz]
theorem WinAt.new (w : World) (n : Int) (A S : List Bool) (W : Array Value) (hW : winZ (.int .i64 n) (.int .i64 (A.length : Nat)) (.int .u64 (wdN A 0 : Nat)) (.int .u64 (wdN A 1 : Nat)) (.int .u64 (wdN A 2 : Nat)) (.int .u64 (wdN A 3 : Nat)) (.int .i64 (S.length : Nat)) (.int .u64 (wdN S 0 : Nat)) (.int .u64 (wdN S 1 : Nat)) (.int .u64 (wdN S 2 : Nat)) (.int .u64 (wdN S 3 : Nat)) = W) :
    WinAt (w.alloc (.cells W 65)) w.heap.size n A S tz := by
  subst hW
  have h := World.rowIs_alloc w (winZ (.int .i64 n) (.int .i64 (A.length : Nat)) (.int .u64 (wdN A 0 : Nat)) (.int .u64 (wdN A 1 : Nat)) (.int .u64 (wdN A 2 : Nat)) (.int .u64 (wdN A 3 : Nat)) (.int .i64 (S.length : Nat)) (.int .u64 (wdN S 0 : Nat)) (.int .u64 (wdN S 1 : Nat)) (.int .u64 (wdN S 2 : Nat)) (.int .u64 (wdN S 3 : Nat))) 65 (winF n A S tz) (fun i hi => winZ_f n A S i (by rw [winZ_size] at hi; exact hi))
  rw [winZ_size] at h
  exact h
theorem size_is (L : List Bool) (n : Int) (h : (L.length : Int) = n) (w : World) : Calls Try.prog 14 #[.agg #[.int .i64 (L.length : Nat), .int .u64 (wdN L 0 : Nat), .int .u64 (wdN L 1 : Nat), .int .u64 (wdN L 2 : Nat), .int .u64 (wdN L 3 : Nat)]] w fun e w' => e = .returned (.int .i64 n) ∧ Below w.heap.size w w' := by
  subst h
  go_enter Try.func14, Try.ntmps14
  go_wp2
  go_ret
  exact ⟨rfl, (Below.refl _ _).alloc (Nat.le_refl _) _⟩
theorem new_is (n : Int) (L : List Bool) (h : newB n = L) (w : World) : Calls Try.prog 31 #[.int .i64 n] w fun e w' => e = .returned (.agg #[.int .i64 (L.length : Nat), .int .u64 (wdN L 0 : Nat), .int .u64 (wdN L 1 : Nat), .int .u64 (wdN L 2 : Nat), .int .u64 (wdN L 3 : Nat)]) ∧ Below w.heap.size w w' := by subst h; exact new_any n w

set_option maxRecDepth 20000 in
set_option maxHeartbeats 2000000 in
theorem wnew_any (n : Int) (w : World) : Calls Try.prog 12 #[.int .i64 n] w fun e w' =>
    ∃ g, e = .returned (.pointer (some ⟨g, 0, none⟩)) ∧ w.heap.size ≤ g ∧ WinAt w' g (clampB n : Nat) (newB n) (newB n) tz ∧ Below w.heap.size w w' := by
  obtain ⟨L, hL⟩ : ∃ L, newB n = L := ⟨_, rfl⟩
  have hl : (L.length : Int) = (clampB n : Nat) := by rw [← hL, newB_length]
  have HL := Lib.hid hL
  have Hl := Lib.hid hl
  obtain ⟨W, hW⟩ : ∃ W, winZ (.int .i64 (clampB n : Nat)) (.int .i64 (L.length : Nat)) (.int .u64 (wdN L 0 : Nat)) (.int .u64 (wdN L 1 : Nat)) (.int .u64 (wdN L 2 : Nat)) (.int .u64 (wdN L 3 : Nat)) (.int .i64 (L.length : Nat)) (.int .u64 (wdN L 0 : Nat)) (.int .u64 (wdN L 1 : Nat)) (.int .u64 (wdN L 2 : Nat)) (.int .u64 (wdN L 3 : Nat)) = W := ⟨_, rfl⟩
  have hbd : ∀ w : World, (Instr.build 65 #[(0, .int .i64 (clampB n : Nat)), (1, .agg #[.int .i64 (L.length : Nat), .int .u64 (wdN L 0 : Nat), .int .u64 (wdN L 1 : Nat), .int .u64 (wdN L 2 : Nat), .int .u64 (wdN L 3 : Nat)]), (2, .agg #[.int .i64 (L.length : Nat), .int .u64 (wdN L 0 : Nat), .int .u64 (wdN L 1 : Nat), .int .u64 (wdN L 2 : Nat), .int .u64 (wdN L 3 : Nat)])]).run Try.prog w = .ok (.agg W) w := by
    intro w
    rw [← hW]
    exact run_build w _ _ _ (win_built _ _ _ _ _ _ _ _ _ _ _)
  have HW := Lib.hid hW
  rw [hL]
  clear hL hl hW
  generalize clampB n = N at *
  go_enter Try.func12, Try.ntmps12
  go_wp2_with fail
  with_reducible refine (new_is n L HL.out _).mono ?_
  rintro e w1 ⟨rfl, hb1⟩
  go_wp2_with fail
  with_reducible refine (size_is L _ Hl.out _).mono ?_
  rintro e w2 ⟨rfl, hb2⟩
  go_wp2_with fail
  with_reducible refine (new_is n L HL.out _).mono ?_
  rintro e w3 ⟨rfl, hb3⟩
  go_wp2_with fail
  with_reducible refine (new_is n L HL.out _).mono ?_
  rintro e w4 ⟨rfl, hb4⟩
  have hB := bl (bl (bl hb1 hb2) hb3) hb4
  clear hb1 hb2 hb3 hb4
  go_wp2_with (refine wpList_built rfl 65 _ rfl _ (.agg W) ?_ hbd ?_; go_must (simp only [List.map_toArray, List.map_cons, List.map_nil]; rfl))
  go_ret
  exact ⟨_, rfl, hB.size, WinAt.new w4 _ L L W HW.out, hB.alloc hB.size _⟩
end Go.Proofs.Ytapanifgnpklpaa
