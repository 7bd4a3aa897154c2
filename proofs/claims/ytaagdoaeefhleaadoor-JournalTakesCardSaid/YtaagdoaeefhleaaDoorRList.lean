/-
  The reference's List.
-/
import Derived.Test.YtaagdoaeefhleaaDoorP13
import Derived.Test.YtaagdoaeefhleaaDoorP8
namespace Go.Proofs.YtaagdoaeefhleaaDoor
open Go.RowKit

set_option maxHeartbeats 1000000 in
theorem listRef_any (A : Option Addr) (n c : Nat) (L : List Bool) (w : World) (hL : L.length = n) (hn : n ≤ 1000000) (hr : Rd w A (L.map Value.bool)) :
    Calls Tryd.prog 15 #[.slice A n c] w (RetS w (listR L 0).length (intVals (listR L 0))) := by
  have hll := listR_length L 0
  have HL := Lib.hid hL
  have hll' : (listR L 0).length ≤ n := by omega
  clear hL hll
  go_enter Tryd.func15, Tryd.ntmps15
  go_wp2
  go_loopw [3, 4] (fun v i wr => ∃ (k : Nat) (xs : List Int), k ≤ n ∧ i = .int .i64 k ∧ Hid (xs ++ listR L k = listR L 0) ∧ wr.ownsRow w.heap.size 3 1 v xs.length (intVals xs) ∧ Below w.heap.size w wr) (fun _ i _ => n - (intOf i).toNat)
  case atStart => exact ⟨0, [], by omega, rfl, rfl, World.ownsRow_nil _ _ _ _, Below.refl _ _⟩
  case round =>
    obtain ⟨k, xs, hk, rfl, hxs, hown, hb⟩ := hrel
    have hsz := hb.size
    by_cases hlt : (k : Int) < (n : Int)
    · obtain ⟨b, o, rfl, hcell⟩ := rd_bool (hr.below hb) k (by rw [HL.out]; omega)
      rcases hv : L.getD k false with _ | _
      · have Hl := Lib.hid (listR_miss L k (by rw [HL.out]; omega) (by rw [hv]; simp))
        rw [hv] at hcell
        clear hv
        go_wp2
        go_roundw
        case rel => exact ⟨k + 1, xs, by omega, by go_num, by rw [← Hl.out]; exact hxs, hown, hb⟩
        case measure => simp [intOf]; omega
      · have Hl := Lib.hid (listR_hit L k (by rw [HL.out]; omega) hv)
        have hlen : xs.length ≤ n := by have := congrArg List.length hxs.out; rw [List.length_append] at this; omega
        rw [hv] at hcell
        clear hv
        go_wp2_with (at_builtin; go_must (refine wpList_append_new wr rfl (.tmp 15) (.tmp 17) 26 rfl w.heap.size 3 1 8 el_int _ _ _ hown rfl _ rfl rfl (by intro u hu; simp at hu; subst hu; rfl) (by unfold maxLen; omega) (by omega) hsz ?_); intro v2 w2 hown2 hb2)
        go_roundw
        case rel => exact ⟨k + 1, xs ++ [(k : Int)], by omega, by go_num, by rw [List.append_assoc, List.singleton_append, ← Hl.out]; exact hxs, by rw [List.length_append, ← intVals_snoc]; exact hown2, hb.trans hb2⟩
        case measure => simp [intOf]; omega
    · have Hl := Lib.hid (listR_end L k (by rw [HL.out]; omega))
      go_wp2
      go_ret
      have e : listR L 0 = xs := by rw [← hxs.out, Hl.out, List.append_nil]
      rw [e]
      exact RetS.own hown hb (by omega)

theorem sameI_self (xs : List Int) : sameI xs xs = true := by simp [sameI]
end Go.Proofs.YtaagdoaeefhleaaDoor
