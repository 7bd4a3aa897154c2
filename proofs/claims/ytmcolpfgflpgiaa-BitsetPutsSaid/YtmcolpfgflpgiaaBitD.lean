/-
  The walks of Full, Size, the reference's Count, List, Has; of 'same'.
-/
import Derived.Test.YtmcolpfgflpgiaaBitC
namespace Go.Proofs.Ytmcolpfgflpgiaa
open Go.RowKit

set_option maxHeartbeats 400000 in
theorem size_any (L : List Bool) (w : World) : Calls Try.prog 25 #[setV L] w fun e w' => e = .returned (.int .i64 (L.length : Nat)) ∧ Below w.heap.size w w' := by
  unfold setV
  go_enter Try.func25, Try.ntmps25
  go_wp2
  go_ret
  exact ⟨rfl, (Below.refl _ _).alloc (Nat.le_refl _) _⟩

set_option maxHeartbeats 400000 in
theorem full_any (L : List Bool) (w : World) (hL : L.length ≤ 256) : Calls Try.prog 33 #[setV L] w fun e w' => e = .returned (.bool ((cntP L L.length : Int) == (L.length : Int))) ∧ Below w.heap.size w w' := by
  have hS := SetAt.new w L
  unfold setV
  go_enter Try.func33, Try.ntmps33
  go_wp2_with fail
  go_region_with (go_at_call 31; refine (count_any L _ hL).mono ?_; rintro e w1 ⟨rfl, hb1⟩; obtain ⟨f0, f1, f2, f3, f4⟩ := SetAt.cells_drew hS hb1)
  all_goals
    go_wp2
    go_ret
    exact ⟨rfl, below_of_alloc (below_of_drew hb1)⟩

theorem cntP_step (L : List Bool) (k : Nat) : cntP L (k + 1) = cntP L k + (if L.getD k false then 1 else 0) := rfl

set_option maxHeartbeats 400000 in
theorem countRef_any (A : Option Addr) (n c : Nat) (L : List Bool) (w : World) (hL : L.length = n) (hn : n ≤ 1000000) (hr : Rd w A (L.map Value.bool)) :
    Calls Try.prog 32 #[.slice A n c] w fun e w' => e = .returned (.int .i64 (cntP L L.length : Nat)) ∧ w = w' := by
  have HL := Lib.hid hL
  clear hL
  go_enter Try.func32, Try.ntmps32
  go_wp2
  go_loop [3, 4] (fun s i => ∃ k : Nat, k ≤ n ∧ i = .int .i64 k ∧ s = .int .i64 (cntP L k : Nat)) (fun _ i => n - (intOf i).toNat)
  case atStart => exact ⟨0, by omega, rfl, rfl⟩
  case round =>
    obtain ⟨k, hk, rfl, rfl⟩ := hrel
    have hcl := cntP_le L k
    by_cases hlt : (k : Int) < (n : Int)
    · obtain ⟨b, o, rfl, hcell⟩ := rd_bool hr k (by rw [HL.out]; omega)
      have hst := cntP_step L k
      rcases hv : L.getD k false with _ | _
      · rw [hv] at hcell hst
        have Hst := Lib.hid hst
        clear hv hst
        go_wp2
        go_round
        case rel => exact ⟨k + 1, by omega, by go_num, by rw [Hst.out]; rfl⟩
        case measure => simp [intOf]; omega
      · rw [hv] at hcell hst
        have Hst := Lib.hid hst
        clear hv hst
        go_wp2
        go_round
        case rel => exact ⟨k + 1, by omega, by go_num, by rw [Hst.out]; rfl⟩
        case measure => simp [intOf]; omega
    · obtain rfl : k = n := by omega
      go_wp2
      go_ret
      exact ⟨ret_int (by rw [HL.out]), rfl⟩

set_option maxHeartbeats 400000 in
theorem hasRef_any (A : Option Addr) (n c : Nat) (L : List Bool) (i : Int) (w : World) (hL : L.length = n) (_hn : n ≤ 1000000) (hr : Rd w A (L.map Value.bool)) :
    Calls Try.prog 15 #[.slice A n c, .int .i64 i] w fun e w' => e = .returned (.bool (hasB L i)) ∧ w = w' := by
  have HL := Lib.hid hL
  clear hL
  by_cases h0 : i < 0
  · have H := Lib.hid (show hasB L i = false by unfold hasB; simp; omega)
    go_enter Try.func15, Try.ntmps15
    go_wp2
    go_ret
    exact ⟨by rw [H.out]; rfl, rfl⟩
  · obtain ⟨k, rfl⟩ : ∃ k : Nat, i = k := ⟨i.toNat, by omega⟩
    by_cases h1 : (n : Int) ≤ (k : Int)
    · have H := Lib.hid (show hasB L k = false by unfold hasB; simp [List.getD_eq_getElem?_getD, List.getElem?_eq_none (show L.length ≤ k by rw [HL.out]; omega)])
      go_enter Try.func15, Try.ntmps15
      go_wp2
      go_ret
      exact ⟨by rw [H.out]; rfl, rfl⟩
    · obtain ⟨b, o, rfl, hcell⟩ := rd_bool hr k (by rw [HL.out]; omega)
      have H := Lib.hid (show hasB L k = L.getD k false by unfold hasB; simp)
      go_enter Try.func15, Try.ntmps15
      go_wp2
      go_ret
      exact ⟨by rw [H.out]; simp [List.getD_eq_getElem?_getD], rfl⟩

set_option maxHeartbeats 1000000 in
theorem listRef_any (A : Option Addr) (n c : Nat) (L : List Bool) (w : World) (hL : L.length = n) (hn : n ≤ 1000000) (hr : Rd w A (L.map Value.bool)) :
    Calls Try.prog 18 #[.slice A n c] w (RetS w (listR L 0).length (intVals (listR L 0))) := by
  have hll := listR_length L 0
  have HL := Lib.hid hL
  have hll' : (listR L 0).length ≤ n := by omega
  clear hL hll
  go_enter Try.func18, Try.ntmps18
  go_wp2
  go_loopw [3, 4] (fun v i wr => ∃ (k : Nat) (xs : List Int), k ≤ n ∧ i = .int .i64 k ∧ Hid (xs ++ listR L k = listR L 0) ∧ wr.ownsRow w.heap.size 3 1 v xs.length (intVals xs) ∧ Below w.heap.size w wr) (fun _ i _ => n - (intOf i).toNat)
  case atStart => exact ⟨0, [], by omega, rfl, rfl, World.ownsRow_nil _ _ _ _, Below.refl _ _⟩
  case round =>
    obtain ⟨k, xs, hk, rfl, hxs, hown, hb⟩ := hrel
    have hsz := hb.size
    by_cases hlt : (k : Int) < (n : Int)
    · obtain ⟨b, o, rfl, hcell⟩ := rd_bool (hr.below hb) k (by rw [HL.out]; omega)
      rcases hv : L.getD k false with _ | _
      · have Hl := Lib.hid (listR_miss L k (by rw [HL.out]; omega) (by rw [hv]; simp))
        rw [hv] at hcell
        clear hv
        go_wp2
        go_roundw
        case rel => exact ⟨k + 1, xs, by omega, by go_num, by rw [← Hl.out]; exact hxs, hown, hb⟩
        case measure => simp [intOf]; omega
      · have Hl := Lib.hid (listR_hit L k (by rw [HL.out]; omega) hv)
        have hlen : xs.length ≤ n := by have := congrArg List.length hxs.out; rw [List.length_append] at this; omega
        rw [hv] at hcell
        clear hv
        go_wp2_with (at_builtin; go_must (refine wpList_append_new wr rfl (.tmp 15) (.tmp 17) 22 rfl w.heap.size 3 1 8 el_int _ _ _ hown rfl _ rfl rfl (by intro u hu; simp at hu; subst hu; rfl) (by unfold maxLen; omega) (by omega) hsz ?_); intro v2 w2 hown2 hb2)
        go_roundw
        case rel => exact ⟨k + 1, xs ++ [(k : Int)], by omega, by go_num, by rw [List.append_assoc, List.singleton_append, ← Hl.out]; exact hxs, by rw [List.length_append, ← intVals_snoc]; exact hown2, hb.trans hb2⟩
        case measure => simp [intOf]; omega
    · have Hl := Lib.hid (listR_end L k (by rw [HL.out]; omega))
      go_wp2
      go_ret
      have e : listR L 0 = xs := by rw [← hxs.out, Hl.out, List.append_nil]
      rw [e]
      exact RetS.own hown hb (by omega)

theorem sameI_self (xs : List Int) : sameI xs xs = true := by simp [sameI]

set_option maxHeartbeats 1000000 in
theorem sameSet_any (A : Option Addr) (n c : Nat) (L : List Bool) (w : World) (hL : L.length = n) (hn : n ≤ 256) (hr : Rd w A (L.map Value.bool)) :
    Calls Try.prog 11 #[setV L, .slice A n c] w fun e w' => e = .returned (.bool true) ∧ Below w.heap.size w w' := by
  have hS := SetAt.new w L
  have hL256 : L.length ≤ 256 := by omega
  have HL := Lib.hid hL
  have hrA := hr.below ((Below.refl w.heap.size w).alloc (Nat.le_refl _) (.cells #[.int .i64 (L.length : Nat), .int .u64 (wdN L 0 : Nat), .int .u64 (wdN L 1 : Nat), .int .u64 (wdN L 2 : Nat), .int .u64 (wdN L 3 : Nat)] 26))
  have e0 : ((L.length : Int) == (n : Int)) = true := beq_iff_eq.2 (by omega)
  have hll := listR_length L 0
  unfold setV
  clear hL
  go_enter Try.func11, Try.ntmps11
  go_wp2_with fail
  refine (size_any L _).mono ?_
  rintro e w1 ⟨rfl, hb1⟩
  have hS1 := hS.below' hb1
  have hr1 := hrA.below hb1
  obtain ⟨hc0, hc1, hc2, hc3, hc4⟩ := hS1.cells
  go_wp2_with fail
  refine (list_any L _ hL256).mono ?_
  rintro e w2 ⟨A2, c2, rfl, hn2, hm2, hr2, _, hb2⟩
  have hS2 := hS1.below' hb2
  have hr12 := hr1.below hb2
  clear hc0 hc1 hc2 hc3 hc4
  go_wp2_with fail
  refine (listRef_any A n c L _ HL.out (by omega) hr12).mono ?_
  rintro e w3 ⟨A3, c3, rfl, hn3, hm3, hr3, _, hb3⟩
  have hS3 := hS2.below' hb3
  have hr13 := hr12.below hb3
  go_wp2_with fail
  refine (same_any A2 A3 _ _ c2 c3 (listR L 0) (listR L 0) _ rfl rfl (hr2.below hb3) hr3 (by omega) (by omega)).mono ?_
  rw [sameI_self]
  rintro e w4 ⟨rfl, hb4⟩
  have hS4 := hS3.below' hb4
  have hr14 := hr13.below hb4
  obtain ⟨hc0, hc1, hc2, hc3, hc4⟩ := hS4.cells
  go_wp2_with fail
  refine (count_any L _ hL256).mono ?_
  rintro e w5 ⟨rfl, hb5⟩
  have hS5 := hS4.below' hb5
  have hr15 := hr14.below hb5
  clear hc0 hc1 hc2 hc3 hc4
  go_wp2_with fail
  refine (countRef_any A n c L _ HL.out (by omega) hr15).mono ?_
  rintro e w5' ⟨rfl, rfl⟩
  obtain ⟨hc0, hc1, hc2, hc3, hc4⟩ := hS5.cells
  go_wp2_with fail
  refine (full_any L _ hL256).mono ?_
  rintro e w6 ⟨rfl, hb6⟩
  have hr16 := hr15.below hb6
  clear hc0 hc1 hc2 hc3 hc4
  go_wp2_with fail
  refine (countRef_any A n c L _ HL.out (by omega) hr16).mono ?_
  rintro e w6' ⟨rfl, rfl⟩
  rw [HL.out]
  go_wp2
  go_ret
  exact ⟨by simp, bl (bl (bl (bl (bl (below_of_alloc hb1) hb2) hb3) hb4) hb5) hb6⟩
end Go.Proofs.Ytmcolpfgflpgiaa
