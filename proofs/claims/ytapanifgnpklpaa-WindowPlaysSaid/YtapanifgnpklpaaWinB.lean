/-
  The walks of a timer's Fire (the program's and the reference's) and Due; of Acked and Flight.
-/
import Derived.Test.YtapanifgnpklpaaWinA
namespace Go.Proofs.Ytapanifgnpklpaa
open Go.RowKit

/-- A timer that is asked. -/
def fireW (t : Int × Int) (now : Int) : (Int × Int) × Bool := if now < t.1 then (t, false) else ((now + min (max t.2 2) 16, min (2 * min (max t.2 2) 16) 16), true)
def fireV (r : (Int × Int) × Bool) : Value := .tuple #[.agg #[.int .i64 r.1.1, .int .i64 r.1.2], .bool r.2]

set_option maxHeartbeats 1000000 in
theorem fire_is (d c now : Int) (r : (Int × Int) × Bool) (hr : fireW (d, c) now = r) (w : World) (h1 : -1000000000000 ≤ now) (h2 : now ≤ 1000000000000) :
    Calls Try.prog 8 #[.agg #[.int .i64 d, .int .i64 c], .int .i64 now] w fun e w' => e = .returned (fireV r) ∧ Below w.heap.size w w' := by
  subst hr
  have hB : ∀ x y : Int, Below w.heap.size w ((w.alloc (.cells #[.int .i64 d, .int .i64 c] 24)).alloc (.cells #[.int .i64 x, .int .i64 y] 24)) := fun x y => ((Below.refl w.heap.size w).alloc (Nat.le_refl _) (.cells #[.int .i64 d, .int .i64 c] 24)).alloc (by simp) (.cells #[.int .i64 x, .int .i64 y] 24)
  by_cases h0 : now < d
  · have F := Lib.hid (show fireW (d, c) now = ((d, c), false) from by unfold fireW; rw [if_pos h0])
    go_enter Try.func8, Try.ntmps8
    go_wp2
    exact bodyPost_ret (v := .tuple #[.agg #[.int .i64 (d), .int .i64 (c)], .bool false]) (by simp [results, Try.results8, go_sem]) rfl ⟨by rw [F.out]; rfl, hB _ _⟩
  · by_cases h4 : c < 2
    · have F := Lib.hid (show fireW (d, c) now = ((now + 2, 4), true) from by unfold fireW; rw [if_neg h0, show min (max c 2) 16 = 2 from by omega]; rfl)
      go_enter Try.func8, Try.ntmps8
      go_wp2
      exact bodyPost_ret (v := .tuple #[.agg #[.int .i64 (now + 2), .int .i64 (4)], .bool true]) (by simp [results, Try.results8, go_sem]) rfl ⟨by rw [F.out]; rfl, hB _ _⟩
    · by_cases h5 : 16 < c
      · have F := Lib.hid (show fireW (d, c) now = ((now + 16, 16), true) from by unfold fireW; rw [if_neg h0, show min (max c 2) 16 = 16 from by omega]; rfl)
        go_enter Try.func8, Try.ntmps8
        go_wp2
        exact bodyPost_ret (v := .tuple #[.agg #[.int .i64 (now + 16), .int .i64 (16)], .bool true]) (by simp [results, Try.results8, go_sem]) rfl ⟨by rw [F.out]; rfl, hB _ _⟩
      · by_cases h6 : 16 < 2 * c
        · have F := Lib.hid (show fireW (d, c) now = ((now + c, 16), true) from by unfold fireW; rw [if_neg h0, show min (max c 2) 16 = c from by omega, show min (2 * c) 16 = 16 from by omega])
          go_enter Try.func8, Try.ntmps8
          go_wp2
          exact bodyPost_ret (v := .tuple #[.agg #[.int .i64 (now + c), .int .i64 (16)], .bool true]) (by simp [results, Try.results8, go_sem]) rfl ⟨by rw [F.out]; rfl, hB _ _⟩
        · have F := Lib.hid (show fireW (d, c) now = ((now + c, 2 * c), true) from by unfold fireW; rw [if_neg h0, show min (max c 2) 16 = c from by omega, show min (2 * c) 16 = 2 * c from by omega])
          go_enter Try.func8, Try.ntmps8
          go_wp2
          exact bodyPost_ret (v := .tuple #[.agg #[.int .i64 (now + c), .int .i64 (2 * c)], .bool true]) (by simp [results, Try.results8, go_sem]) rfl ⟨by rw [F.out]; rfl, hB _ _⟩

set_option maxHeartbeats 1000000 in
theorem fireR_is (d c now : Int) (r : (Int × Int) × Bool) (hr : fireW (d, c) now = r) (w : World) (h1 : -1000000000000 ≤ now) (h2 : now ≤ 1000000000000) (h3 : c ≤ 16) :
    Calls Try.prog 9 #[.agg #[.int .i64 d, .int .i64 c], .int .i64 now] w fun e w' => e = .returned (fireV r) ∧ Below w.heap.size w w' := by
  subst hr
  have hB : ∀ x y : Int, Below w.heap.size w ((w.alloc (.cells #[.int .i64 d, .int .i64 c] 26)).alloc (.cells #[.int .i64 x, .int .i64 y] 26)) := fun x y => ((Below.refl w.heap.size w).alloc (Nat.le_refl _) (.cells #[.int .i64 d, .int .i64 c] 26)).alloc (by simp) (.cells #[.int .i64 x, .int .i64 y] 26)
  by_cases h0 : now < d
  · have F := Lib.hid (show fireW (d, c) now = ((d, c), false) from by unfold fireW; rw [if_pos h0])
    go_enter Try.func9, Try.ntmps9
    go_wp2
    exact bodyPost_ret (v := .tuple #[.agg #[.int .i64 (d), .int .i64 (c)], .bool false]) (by simp [results, Try.results9, go_sem]) rfl ⟨by rw [F.out]; rfl, hB _ _⟩
  · by_cases h4 : c < 2
    · have F := Lib.hid (show fireW (d, c) now = ((now + 2, 4), true) from by unfold fireW; rw [if_neg h0, show min (max c 2) 16 = 2 from by omega]; rfl)
      go_enter Try.func9, Try.ntmps9
      go_wp2
      exact bodyPost_ret (v := .tuple #[.agg #[.int .i64 (now + 2), .int .i64 (4)], .bool true]) (by simp [results, Try.results9, go_sem]) rfl ⟨by rw [F.out]; rfl, hB _ _⟩
    · by_cases h5 : 16 < c
      · omega
      · by_cases h6 : 16 < 2 * c
        · have F := Lib.hid (show fireW (d, c) now = ((now + c, 16), true) from by unfold fireW; rw [if_neg h0, show min (max c 2) 16 = c from by omega, show min (2 * c) 16 = 16 from by omega])
          go_enter Try.func9, Try.ntmps9
          go_wp2
          exact bodyPost_ret (v := .tuple #[.agg #[.int .i64 (now + c), .int .i64 (16)], .bool true]) (by simp [results, Try.results9, go_sem]) rfl ⟨by rw [F.out]; rfl, hB _ _⟩
        · have F := Lib.hid (show fireW (d, c) now = ((now + c, 2 * c), true) from by unfold fireW; rw [if_neg h0, show min (max c 2) 16 = c from by omega, show min (2 * c) 16 = 2 * c from by omega])
          go_enter Try.func9, Try.ntmps9
          go_wp2
          exact bodyPost_ret (v := .tuple #[.agg #[.int .i64 (now + c), .int .i64 (2 * c)], .bool true]) (by simp [results, Try.results9, go_sem]) rfl ⟨by rw [F.out]; rfl, hB _ _⟩

theorem due_any (d c : Int) (w : World) : Calls Try.prog 10 #[.agg #[.int .i64 d, .int .i64 c]] w fun e w' => e = .returned (.int .i64 d) ∧ Below w.heap.size w w' := by
  go_enter Try.func10, Try.ntmps10
  go_wp2
  go_ret
  exact ⟨rfl, (Below.refl _ _).alloc (Nat.le_refl _) _⟩

theorem acked_is (g : Nat) (n : Int) (A S : List Bool) (T : Nat → Int × Int) (w : World) (hW : WinAt w g n A S T) : Calls Try.prog 13 #[.pointer (some ⟨g, 0, none⟩)] w fun e w' => e = .returned (.agg #[.int .i64 (A.length : Nat), .int .u64 (wdN A 0 : Nat), .int .u64 (wdN A 1 : Nat), .int .u64 (wdN A 2 : Nat), .int .u64 (wdN A 3 : Nat)]) ∧ Below w.heap.size w w' := by
  have hb := (Below.refl w.heap.size w).alloc (Nat.le_refl _) (.cells #[.int .i64 0, .int .u64 0, .int .u64 0, .int .u64 0, .int .u64 0] 39)
  obtain ⟨c0, c1, c2, c3, c4⟩ := (hW.below' hb).acked
  have hb2 := (Below.refl w.heap.size w).alloc (Nat.le_refl _) (.cells #[.int .i64 (A.length : Nat), .int .u64 (wdN A 0 : Nat), .int .u64 (wdN A 1 : Nat), .int .u64 (wdN A 2 : Nat), .int .u64 (wdN A 3 : Nat)] 39)
  go_enter Try.func13, Try.ntmps13
  go_wp2
  exact bodyPost_ret (v := .agg #[.int .i64 (A.length : Nat), .int .u64 (wdN A 0 : Nat), .int .u64 (wdN A 1 : Nat), .int .u64 (wdN A 2 : Nat), .int .u64 (wdN A 3 : Nat)]) (by simp [results, Try.results13, go_sem]) rfl ⟨rfl, hb2⟩
theorem acked_is_none (w : World) : Calls Try.prog 13 #[.pointer none] w fun e w' => e = .returned (.agg #[.int .i64 0, .int .u64 0, .int .u64 0, .int .u64 0, .int .u64 0]) ∧ Below w.heap.size w w' := by
  have hb2 := (Below.refl w.heap.size w).alloc (Nat.le_refl _) (.cells #[.int .i64 0, .int .u64 0, .int .u64 0, .int .u64 0, .int .u64 0] 39)
  go_enter Try.func13, Try.ntmps13
  go_wp2
  exact bodyPost_ret (v := .agg #[.int .i64 0, .int .u64 0, .int .u64 0, .int .u64 0, .int .u64 0]) (by simp [results, Try.results13, go_sem]) rfl ⟨rfl, hb2⟩

theorem flight_is (g : Nat) (n : Int) (A S : List Bool) (T : Nat → Int × Int) (w : World) (hW : WinAt w g n A S T) : Calls Try.prog 24 #[.pointer (some ⟨g, 0, none⟩)] w fun e w' => e = .returned (.agg #[.int .i64 (S.length : Nat), .int .u64 (wdN S 0 : Nat), .int .u64 (wdN S 1 : Nat), .int .u64 (wdN S 2 : Nat), .int .u64 (wdN S 3 : Nat)]) ∧ Below w.heap.size w w' := by
  have hb := (Below.refl w.heap.size w).alloc (Nat.le_refl _) (.cells #[.int .i64 0, .int .u64 0, .int .u64 0, .int .u64 0, .int .u64 0] 39)
  obtain ⟨c0, c1, c2, c3, c4⟩ := (hW.below' hb).sent
  have hb2 := (Below.refl w.heap.size w).alloc (Nat.le_refl _) (.cells #[.int .i64 (S.length : Nat), .int .u64 (wdN S 0 : Nat), .int .u64 (wdN S 1 : Nat), .int .u64 (wdN S 2 : Nat), .int .u64 (wdN S 3 : Nat)] 39)
  go_enter Try.func24, Try.ntmps24
  go_wp2
  exact bodyPost_ret (v := .agg #[.int .i64 (S.length : Nat), .int .u64 (wdN S 0 : Nat), .int .u64 (wdN S 1 : Nat), .int .u64 (wdN S 2 : Nat), .int .u64 (wdN S 3 : Nat)]) (by simp [results, Try.results24, go_sem]) rfl ⟨rfl, hb2⟩
theorem flight_is_none (w : World) : Calls Try.prog 24 #[.pointer none] w fun e w' => e = .returned (.agg #[.int .i64 0, .int .u64 0, .int .u64 0, .int .u64 0, .int .u64 0]) ∧ Below w.heap.size w w' := by
  have hb2 := (Below.refl w.heap.size w).alloc (Nat.le_refl _) (.cells #[.int .i64 0, .int .u64 0, .int .u64 0, .int .u64 0, .int .u64 0] 39)
  go_enter Try.func24, Try.ntmps24
  go_wp2
  exact bodyPost_ret (v := .agg #[.int .i64 0, .int .u64 0, .int .u64 0, .int .u64 0, .int .u64 0]) (by simp [results, Try.results24, go_sem]) rfl ⟨rfl, hb2⟩

end Go.Proofs.Ytapanifgnpklpaa
