/-
  The walk of the law BitsetNext.
-/
import Derived.Test.YtmcolpfgflpgiaaBitM
namespace Go.Proofs.Ytmcolpfgflpgiaa
open Go.RowKit

set_option maxHeartbeats 1000000 in
theorem bitsetNext_walk (n : Int) (A : Option Addr) (m c : Nat) (xs : List Int) (i : Int) (w : World) (_l : -9223372036854775808 ≤ n) (_u : n ≤ 9223372036854775807) (hx : xs.length = m) (hr : Rd w A (xs.map (Value.int .i64))) (hm : m ≤ c) (hc : c * 8 ≤ 140737488351232)
    (_l2 : -9223372036854775808 ≤ i) (_u2 : i ≤ 9223372036854775807) :
    Calls Try.prog 3 #[.int .i64 n, .slice A m c, .int .i64 i] w (Yes w) := by
  have hL : (ofB n xs).length ≤ 256 := by rw [ofB_length]; exact clampB_le n
  have Hx := Lib.hid hx
  clear hx
  go_enter Try.func3, Try.ntmps3
  go_wp2_with fail
  refine (of_any n _ _ _ xs _ Hx.out hr (by omega)).mono ?_
  generalize ofB n xs = L at hL ⊢
  rintro e w1 ⟨A1, c1, rfl, hn1, hm1, hr1, hb1⟩
  unfold setV
  have hS := SetAt.new w1 L
  have hrA := hr1.below ((Below.refl w1.heap.size w1).alloc (Nat.le_refl _) (.cells #[.int .i64 (L.length : Nat), .int .u64 (wdN L 0 : Nat), .int .u64 (wdN L 1 : Nat), .int .u64 (wdN L 2 : Nat), .int .u64 (wdN L 3 : Nat)] 26))
  go_wp2_with fail
  refine (next_any L _ true _ hL).mono ?_
  rintro e w2 ⟨rfl, hb2⟩
  have hr2 := hrA.below hb2
  have hS2 := hS.below' hb2
  obtain ⟨hc0, hc1, hc2, hc3, hc4⟩ := hS2.cells
  go_wp2_with fail
  refine (nextRef_any A1 _ c1 L _ true _ rfl (by omega) hr2).mono ?_
  rintro e w2' ⟨rfl, rfl⟩
  go_wp2_with fail
  refine (next_any L _ false _ hL).mono ?_
  rintro e w3 ⟨rfl, hb3⟩
  have hr3 := hr2.below hb3
  clear hc0 hc1 hc2 hc3 hc4
  go_wp2_with fail
  refine (nextRef_any A1 _ c1 L _ false _ rfl (by omega) hr3).mono ?_
  rintro e w3' ⟨rfl, rfl⟩
  go_wp2_with fail
  refine (awake_any _).mono ?_
  rintro e w4 ⟨rfl, hb4⟩
  go_wp2
  go_ret
  exact ⟨rfl, bl (bl (bl hb1 (below_of_alloc hb2)) hb3) hb4⟩
end Go.Proofs.Ytmcolpfgflpgiaa
