/-
  The walks of Next: a set's and the reference's.
-/
import Derived.Test.YtaagdoaeefhleaaDoorP8
import Derived.Test.YtaagdoaeefhleaaDoorBitW
import Derived.Deep.RegionWith
namespace Go.Proofs.YtaagdoaeefhleaaDoor
open Go.RowKit

theorem has_val (L : List Bool) (k : Nat) (b : Bool) (w : World) (hL : L.length ≤ 256) (h : L.getD k false = b) :
    Calls Tryd.prog 44 #[setV L, .int .i64 k] w fun e w' => e = .returned (.bool b) ∧ Below w.heap.size w w' := by
  have e : hasB L k = b := by unfold hasB; simp [← h]
  rw [← e]
  exact has_any L k w hL
/-- The test of a round, written out. -/
theorem getD_cases (L : List Bool) (k : Nat) (v : Bool) : (L.getD k false = v) ∨ (L.getD k false = !v) := by cases L.getD k false <;> cases v <;> simp

set_option maxHeartbeats 1000000 in
theorem next_any (L : List Bool) (i : Int) (v : Bool) (w : World) (hL : L.length ≤ 256) :
    Calls Tryd.prog 34 #[setV L, .int .i64 i, .bool v] w fun e w' => e = .returned (.int .i64 (nextB L i v)) ∧ Below w.heap.size w w' := by
  obtain ⟨f, hf⟩ : ∃ f : Nat, f = i.toNat := ⟨_, rfl⟩
  obtain ⟨R, hR⟩ : ∃ R, R = nextB L i v := ⟨_, rfl⟩
  rw [← hR]
  have Hnb := Lib.hid (show nextR L v f = R by rw [hR, hf]; rfl)
  clear hR
  unfold setV
  by_cases h0 : i < 0
  all_goals
    first
      | (have hif : i = (f : Int) := by omega
         subst hif)
      | (have hf0 : f = 0 := by omega
         subst hf0)
    clear hf
    go_enter Tryd.func34, Tryd.ntmps34
    go_wp2
    go_loopw [7] (fun x wr => ∃ k : Nat, x = .int .i64 k ∧ Hid (nextR L v k = R) ∧ SetAt wr w.heap.size L ∧ Below w.heap.size w wr) (fun x _ => 256 - (intOf x).toNat)
    case atStart => exact ⟨_, rfl, Hnb, SetAt.new _ _, (Below.refl _ _).alloc (Nat.le_refl _) _⟩
    case round =>
      obtain ⟨k, rfl, hn, hS, hb⟩ := hrel
      obtain ⟨hc0, hc1, hc2, hc3, hc4⟩ := hS.cells
      by_cases hlt : (k : Int) < (L.length : Int)
      · rcases getD_cases L k v with hv | hv
        · have hh := Lib.hid (nextR_hit L v k (by omega) hv)
          have Hv := Lib.hid hv
          clear hv
          go_wp2_with (go_at_call 44; go_must (refine (has_val L k v _ hL Hv.out).mono ?_); rintro e w1 ⟨rfl, hb1⟩)
          go_ret
          exact ⟨by rw [← hn.out, hh.out]; rfl, below_then hb hb1 hb.size⟩
        · have hh := Lib.hid (nextR_miss L v k (by omega) (by rw [hv]; cases v <;> simp))
          have Hv := Lib.hid hv
          have hbv : ((!v) == v) = false := by cases v <;> rfl
          clear hv
          go_wp2_with (go_at_call 44; go_must (refine (has_val L k (!v) _ hL Hv.out).mono ?_); rintro e w1 ⟨rfl, hb1⟩)
          go_roundw
          case rel => exact ⟨k + 1, by go_num, by rw [← hh.out]; exact hn, hS.below' (hb1.mono (Nat.le_refl _)), below_then hb hb1 hb.size⟩
          case measure => simp [intOf]; omega
      · have hh := Lib.hid (nextR_end L v k (by omega))
        go_wp2
        go_ret
        exact ⟨by rw [← hn.out, hh.out]; rfl, hb⟩

end Go.Proofs.YtaagdoaeefhleaaDoor
