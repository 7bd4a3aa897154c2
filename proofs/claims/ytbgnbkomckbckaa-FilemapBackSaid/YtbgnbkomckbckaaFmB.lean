/-
  slices.swapRangeCmpFunc at files.
-/
import Derived.Test.YtbgnbkomckbckaaFmA
namespace Go.Proofs.Ytbgnbkomckbckaa
open Go.RowKit

/-- A row of files has turned, and no other old block. -/
def RowEnd (w : World) (g : Nat) (l : List Fl) (e : Ending) (w' : World) : Prop := e = .returned (.tuple #[]) ∧ FRow w' g l ∧ w.grownBy w' (some g)
theorem only_refl (w : World) (g : Nat) : w.grownBy w (some g) := ⟨rfl, rfl, rfl, Nat.le_refl _, fun _ _ _ => rfl⟩
theorem only_below {w w' : World} (h : Below w.heap.size w w') (g : Nat) : w.grownBy w' (some g) := ⟨h.os, h.tape, h.output, h.size, fun k hk _ => h.block k hk⟩
theorem put4_only (w : World) (g a b c d : Nat) (v0 v1 v2 v3 : Value) : w.grownBy ((((w.setCell ⟨g, a, none⟩ v0).setCell ⟨g, b, none⟩ v1).setCell ⟨g, c, none⟩ v2).setCell ⟨g, d, none⟩ v3) (some g) :=
  only_trans (only_trans (only_trans (only_set _ _ _ _) (only_set _ _ _ _)) (only_set _ _ _ _)) (only_set _ _ _ _)

set_option maxRecDepth 20000 in
set_option maxHeartbeats 4000000 in
theorem swapRange_any (g cap N a b n : Nat) (l : List Fl) (fv : Value) (w : World) (hN : l.length = N) (hm : N ≤ 1000) (hab : a + n ≤ b) (hb : b + n ≤ N) (hr : FRow w g l) :
    Calls Try.prog 65 #[.slice (some ⟨g, 0, none⟩) N cap, .int .i64 a, .int .i64 b, .int .i64 n, fv] w (RowEnd w g (swN l a b n)) := by
  have HN := Lib.hid hN
  clear hN
  go_enter Try.func65, Try.ntmps65
  go_wp2_with fail
  go_loopw [10] (fun i wr => ∃ k : Nat, k ≤ n ∧ i = .int .i64 k ∧ FRow wr g (swN l a b k) ∧ w.grownBy wr (some g)) (fun i _ => n - (intOf i).toNat)
  case atStart => exact ⟨0, by omega, rfl, hr, only_refl _ _⟩
  case round =>
    obtain ⟨k, hk, rfl, hF, hg⟩ := hrel
    by_cases hlt : (k : Int) < (n : Int)
    · have hia : a + k < (swN l a b k).length := by rw [swN_len, HN.out]; omega
      have hib : b + k < (swN l a b k).length := by rw [swN_len, HN.out]; omega
      obtain ⟨x, hx⟩ : ∃ x, (swN l a b k)[a + k]? = some x := ⟨_, getD_some hia⟩
      obtain ⟨y, hy⟩ : ∃ y, (swN l a b k)[b + k]? = some y := ⟨_, getD_some hib⟩
      have hF2 := hF.swp (a + k) (b + k) hx hy
      obtain ⟨xp, xd⟩ := x
      obtain ⟨yp, yd⟩ := y
      obtain ⟨x0, x1⟩ := hF.cell hx
      obtain ⟨y0, y1⟩ := hF.cell hy
      have fx0 := hF.free ((a + k) * 2)
      have fx1 := hF.free ((a + k) * 2 + 1)
      have fy0 := hF.free ((b + k) * 2)
      have fy1 := hF.free ((b + k) * 2 + 1)
      have wa : IntKind.i64.wrap ((a : Int) + (k : Int)) = ((a + k : Nat) : Int) := by rw [IntKind.wrap_i64]; omega
      have wb : IntKind.i64.wrap ((b : Int) + (k : Int)) = ((b + k : Nat) : Int) := by rw [IntKind.wrap_i64]; omega
      have la : ((a + k : Nat) : Int) < (N : Int) := by rw [swN_len, HN.out] at hia; omega
      have lb : ((b + k : Nat) : Int) < (N : Int) := by rw [swN_len, HN.out] at hib; omega
      have hne : (a + k) * 2 ≠ (b + k) * 2 := by omega
      have hne1 : (a + k) * 2 + 1 ≠ (b + k) * 2 := by omega
      have hne2 : (a + k) * 2 ≠ (b + k) * 2 + 1 := by omega
      have HF := Lib.hid hF2
      have HG := Lib.hid (only_trans hg (put4_only wr g ((a + k) * 2) ((a + k) * 2 + 1) ((b + k) * 2) ((b + k) * 2 + 1) (.string yp) (.string yd) (.string xp) (.string xd)))
      clear hF hF2 hg hx hy hia hib
      generalize eak : a + k = ak at *
      generalize ebk : b + k = bk at *
      have EA := Lib.hid eak
      have EB := Lib.hid ebk
      clear eak ebk
      go_wp2_with fail
      have mixed : Try.prog.follows Departure.mixedOrders = true := by kernel_rfl
      go_big_region_o
      go_wp2_with fail
      go_round
      case rel => exact ⟨k + 1, by omega, by first | rfl | go_num, by rw [swN, EA.out, EB.out]; exact HF.out, only_trans HG.out (only_drew _ _)⟩
      case measure => simp [intOf]; omega
    · obtain rfl : k = n := by omega
      go_wp2_with fail
      go_end0
      exact ⟨rfl, hF, hg⟩
end Go.Proofs.Ytbgnbkomckbckaa
