/-
  Chapter 23's example (awake): the walk.
-/
import Derived.Test.YtaagdoaeefhleaaJoG
namespace Go.Proofs.Ytaagdoaeefhleaa
open Go.RowKit

theorem awk_s : ∃ s, jS 7 (ofL (List.replicate 16 0)) 5 900 9 (ofL (List.replicate 32 0)) (ofL (List.replicate 32 0)) 13 [true, false, false, true, false] = s ∧ s.size = 136 ∧ s.extract 0 4 = ⟨#[83, 76, 74, 49]⟩ ∧
    s.extract 102 136 = ⟨#[0, 13, 0, 0, 0, 0, 0, 0, 0, 9]⟩ ++ ofL (List.replicate 24 0) := by
  refine ⟨_, rfl, ?_, ?_, ?_⟩
  · rw [← size_toList, awk_bytes, awk_list]; rfl
  · refine str_eq ?_
    rw [toList_pre, awk_bytes, awk_list, show (⟨#[83, 76, 74, 49]⟩ : ByteArray).toList = [83, 76, 74, 49] from toList_ofL [83, 76, 74, 49]]
    rfl
  · refine str_eq ?_
    rw [toList_ext, awk_bytes, awk_list, toList_app, toList_ofL, show (⟨#[0, 13, 0, 0, 0, 0, 0, 0, 0, 9]⟩ : ByteArray).toList = [0, 13, 0, 0, 0, 0, 0, 0, 0, 9] from toList_ofL [0, 13, 0, 0, 0, 0, 0, 0, 0, 9]]
    rfl

set_option maxRecDepth 20000 in
set_option maxHeartbeats 4000000 in
theorem awakeJ_any (w : World) : Calls Try.prog 5 #[] w fun e w' => e = .returned (.bool true) ∧ Below w.heap.size w w' := by
  obtain ⟨s, hs, hsz, hq1, hq2⟩ := awk_s
  have hk : okE (recOk 7 (ofL (List.replicate 16 0)) 5 900 9 (ofL (List.replicate 32 0)) (ofL (List.replicate 32 0)) 13 [true, false, false, true, false]) = 0 := by decide
  obtain ⟨z16, h16⟩ : ∃ c, ofL (List.replicate 16 0) = c := ⟨_, rfl⟩
  obtain ⟨z32, h32⟩ : ∃ c, ofL (List.replicate 32 0) = c := ⟨_, rfl⟩
  obtain ⟨z24, h24⟩ : ∃ c, ofL (List.replicate 24 0) = c := ⟨_, rfl⟩
  have k24 : z24.size = 24 := by rw [← h24, size_ofL]; rfl
  rw [h16, h32] at hs hk
  rw [h24] at hq2
  obtain ⟨d, hd⟩ : ∃ c, (⟨#[0, 13, 0, 0, 0, 0, 0, 0, 0, 9]⟩ : ByteArray) ++ z24 = c := ⟨_, rfl⟩
  rw [hd] at hq2
  have m1 : ¬ (9223372036854775807 < 10 + z24.size) := by omega
  have hl0 : newB 5 = [false, false, false, false, false] := by decide
  have hl1 : setB [false, false, false, false, false] 0 true = [true, false, false, false, false] := by decide
  have hl2 : setB [true, false, false, false, false] 3 true = [true, false, false, true, false] := by decide
  have hs0 : ([false, false, false, false, false] : List Bool).length ≤ 256 := by decide
  have hs1 : ([true, false, false, false, false] : List Bool).length ≤ 256 := by decide
  generalize ([false, false, false, false, false] : List Bool) = L0 at *
  generalize ([true, false, false, false, false] : List Bool) = L1 at *
  generalize ([true, false, false, true, false] : List Bool) = L2 at *
  have HS := Lib.hid hs
  have HK := Lib.hid hk
  have H16 := Lib.hid h16
  have H32 := Lib.hid h32
  have H24 := Lib.hid h24
  have HL0 := Lib.hid hl0
  have HL1 := Lib.hid hl1
  have HL2 := Lib.hid hl2
  clear hs hk h16 h32 h24 k24 hl0 hl1 hl2
  go_enter Try.func5, Try.ntmps5
  go_wp2_with fail
  with_reducible refine (zeros_is 16 16 rfl z16 H16.out _ (by omega)).mono ?_
  rintro e w1 ⟨rfl, hb1⟩
  go_wp2_with fail
  with_reducible refine (zeros_is 32 32 rfl z32 H32.out _ (by omega)).mono ?_
  rintro e w2 ⟨rfl, hb2⟩
  go_wp2_with fail
  with_reducible refine (zeros_is 32 32 rfl z32 H32.out _ (by omega)).mono ?_
  rintro e w3a ⟨rfl, hb3⟩
  have hB := bl (bl hb1 hb2) hb3
  have hbox := (Below.refl w3a.heap.size w3a).alloc (Nat.le_refl _) (.cells #[.int .i64 7, .string z16, .int .i64 5, .int .i64 900, .int .i64 9, .string z32, .string z32, .int .i64 13] 25)
  have hx : ExtAt (w3a.alloc (.cells #[.int .i64 7, .string z16, .int .i64 5, .int .i64 900, .int .i64 9, .string z32, .string z32, .int .i64 13] 25)) w3a.heap.size 7 z16 5 900 9 z32 z32 13 := Bk.new _ _ _
  have hB3 := bl hB hbox
  clear hb1 hb2 hb3 hB hbox
  go_upto_region 2 with (fail)
  generalize w3a.alloc (.cells #[.int .i64 7, .string z16, .int .i64 5, .int .i64 900, .int .i64 9, .string z32, .string z32, .int .i64 13] 25) = w3 at *
  generalize w3a.heap.size = g at *
  obtain ⟨hc0, hc1, hc2, hc3, hc4, hc5, hc6, hc7⟩ := hx.cells
  have hcw : Below w3.heap.size w3 w3.drew ∧ w3.drew.cell? ⟨g, 0, none⟩ = some (.int .i64 7) ∧ w3.drew.cell? ⟨g, 1, none⟩ = some (.string z16) ∧ w3.drew.cell? ⟨g, 2, none⟩ = some (.int .i64 5) ∧ w3.drew.cell? ⟨g, 3, none⟩ = some (.int .i64 900) ∧ w3.drew.cell? ⟨g, 4, none⟩ = some (.int .i64 9) ∧ w3.drew.cell? ⟨g, 5, none⟩ = some (.string z32) ∧ w3.drew.cell? ⟨g, 6, none⟩ = some (.string z32) ∧ w3.drew.cell? ⟨g, 7, none⟩ = some (.int .i64 13) := ⟨(Below.refl _ _).drew, hc0, hc1, hc2, hc3, hc4, hc5, hc6, hc7⟩
  clear hc0 hc1 hc2 hc3 hc4 hc5 hc6 hc7
  refine wp_region_held_drew (S := fun w' => Below w3.heap.size w3 w' ∧ w'.cell? ⟨g, 0, none⟩ = some (.int .i64 7) ∧ w'.cell? ⟨g, 1, none⟩ = some (.string z16) ∧ w'.cell? ⟨g, 2, none⟩ = some (.int .i64 5) ∧ w'.cell? ⟨g, 3, none⟩ = some (.int .i64 900) ∧ w'.cell? ⟨g, 4, none⟩ = some (.int .i64 9) ∧ w'.cell? ⟨g, 5, none⟩ = some (.string z32) ∧ w'.cell? ⟨g, 6, none⟩ = some (.string z32) ∧ w'.cell? ⟨g, 7, none⟩ = some (.int .i64 13)) (by kernel_rfl) hcw (fun _ => ?_)
  refine anyH_take (i := 0) (v := ?_) rfl (by kernel_rfl) (by kernel_rfl) (by kernel_rfl) (fun _ _ _ h => h) (by rfl) ?_ (by assumption) ?_
  rotate_left
  · intro w' hSw; (try dsimp only at hSw); go_simp; (try with_reducible rfl)
  try simp only [Act.put, List.setIfInBounds_toArray, List.set_cons_zero, List.set_cons_succ]
  refine anyH_call (i := 1) rfl (by kernel_rfl) (by rfl) (fun K hK => ?_)
  go_simp
  go_at_call 11; with_reducible refine (new_is 5 L0 HL0.out _).mono ?_; rintro e wa ⟨rfl, hba⟩; have hX := held8 hba (by assumption)
  refine hK.out _ _ hX (fun _ => ?_)
  clear hK K
  try simp only [Act.put, List.setIfInBounds_toArray, List.set_cons_zero, List.set_cons_succ]
  refine anyH_call (i := 2) rfl (by kernel_rfl) (by rfl) (fun K hK => ?_)
  go_simp
  first | (go_at_call 12; with_reducible refine (with_is L0 0 L1 HL1.out hs0 _).mono ?_; rintro e wb ⟨rfl, hbb⟩; have hX := held8 hbb (by assumption)) | (go_at_call 12; with_reducible refine (with_is L1 3 L2 HL2.out hs1 _).mono ?_; rintro e wc ⟨rfl, hbc⟩; have hX := held8 hbc (by assumption))
  refine hK.out _ _ hX (fun _ => ?_)
  clear hK K
  try simp only [Act.put, List.setIfInBounds_toArray, List.set_cons_zero, List.set_cons_succ]
  refine anyH_call (i := 3) rfl (by kernel_rfl) (by rfl) (fun K hK => ?_)
  go_simp
  first | (go_at_call 12; with_reducible refine (with_is L0 0 L1 HL1.out hs0 _).mono ?_; rintro e wb ⟨rfl, hbb⟩; have hX := held8 hbb (by assumption)) | (go_at_call 12; with_reducible refine (with_is L1 3 L2 HL2.out hs1 _).mono ?_; rintro e wc ⟨rfl, hbc⟩; have hX := held8 hbc (by assumption))
  refine hK.out _ _ hX (fun _ => ?_)
  clear hK K
  try simp only [Act.put, List.setIfInBounds_toArray, List.set_cons_zero, List.set_cons_succ]
  refine anyH_take (i := 4) (v := ?_) rfl (by kernel_rfl) (by kernel_rfl) (by kernel_rfl) (fun _ _ _ h => h) (by rfl) ?_ (by assumption) ?_
  rotate_left
  · intro w' hSw; (try dsimp only at hSw); go_simp; (try with_reducible rfl)
  try simp only [Act.put, List.setIfInBounds_toArray, List.set_cons_zero, List.set_cons_succ]
  refine anyH_call (i := 5) rfl (by kernel_rfl) (by rfl) (fun K hK => ?_)
  go_simp
  go_at_call 7; with_reducible refine (jput_is 7 z16 5 900 9 z32 z32 13 L2 s 0 HS.out HK.out _).mono ?_; rintro e wd ⟨rfl, hbd⟩; have hX := held8 hbd (by assumption)
  refine hK.out _ _ hX (fun _ => ?_)
  clear hK K
  try simp only [Act.put, List.setIfInBounds_toArray, List.set_cons_zero, List.set_cons_succ]
  refine anyH_take (i := 6) (v := ?_) rfl (by kernel_rfl) (by kernel_rfl) (by kernel_rfl) (fun _ _ _ h => h) (by rfl) ?_ (by assumption) ?_
  rotate_left
  · intro w' hSw; (try dsimp only at hSw); go_simp; (try with_reducible rfl)
  try simp only [Act.put, List.setIfInBounds_toArray, List.set_cons_zero, List.set_cons_succ]
  refine anyH_take (i := 7) (v := ?_) rfl (by kernel_rfl) (by kernel_rfl) (by kernel_rfl) (fun _ _ _ h => h) (by rfl) ?_ (by assumption) ?_
  rotate_left
  · intro w' hSw; (try dsimp only at hSw); go_simp; (try with_reducible rfl)
  try simp only [Act.put, List.setIfInBounds_toArray, List.set_cons_zero, List.set_cons_succ]
  refine anyH_take (i := 8) (v := ?_) rfl (by kernel_rfl) (by kernel_rfl) (by kernel_rfl) (fun _ _ _ h => h) (by rfl) ?_ (by assumption) ?_
  rotate_left
  · intro w' hSw; (try dsimp only at hSw); go_simp; (try with_reducible rfl)
  try simp only [Act.put, List.setIfInBounds_toArray, List.set_cons_zero, List.set_cons_succ]
  refine anyH_take (i := 9) (v := ?_) rfl (by kernel_rfl) (by kernel_rfl) (by kernel_rfl) (fun _ _ _ h => h) (by rfl) ?_ (by assumption) ?_
  rotate_left
  · intro w' hSw; (try dsimp only at hSw); go_simp; (try with_reducible rfl)
  try simp only [Act.put, List.setIfInBounds_toArray, List.set_cons_zero, List.set_cons_succ]
  refine anyH_take (i := 10) (v := ?_) rfl (by kernel_rfl) (by kernel_rfl) (by kernel_rfl) (fun _ _ _ h => h) (by rfl) ?_ (by assumption) ?_
  rotate_left
  · intro w' hSw; (try dsimp only at hSw); go_simp; (try with_reducible rfl)
  try simp only [Act.put, List.setIfInBounds_toArray, List.set_cons_zero, List.set_cons_succ]
  refine wpAnyH_done (by kernel_rfl) ?_ _
  have hB4 := bl hB3 hX.1
  clear hX
  go_upto_region 3 with (fail)
  generalize wd = w4 at *
  have hcw4 : Below w4.heap.size w4 w4.drew := (Below.refl _ _).drew
  refine wp_region_held_drew (S := fun w' => Below w4.heap.size w4 w') (by kernel_rfl) hcw4 (fun _ => ?_)
  refine anyH_take (i := 0) (v := ?_) rfl (by kernel_rfl) (by kernel_rfl) (by kernel_rfl) (fun _ _ _ h => h) (by rfl) ?_ (by assumption) ?_
  rotate_left
  · intro w' hSw; (try dsimp only at hSw); go_simp; (try with_reducible rfl)
  try simp only [Act.put, List.setIfInBounds_toArray, List.set_cons_zero, List.set_cons_succ]
  refine anyH_take (i := 1) (v := ?_) rfl (by kernel_rfl) (by kernel_rfl) (by kernel_rfl) (fun _ _ _ h => h) (by rfl) ?_ (by assumption) ?_
  rotate_left
  · intro w' hSw; (try dsimp only at hSw); go_simp; (try with_reducible rfl)
  try simp only [Act.put, List.setIfInBounds_toArray, List.set_cons_zero, List.set_cons_succ]
  refine anyH_take (i := 2) (v := ?_) rfl (by kernel_rfl) (by kernel_rfl) (by kernel_rfl) (fun _ _ _ h => h) (by rfl) ?_ (by assumption) ?_
  rotate_left
  · intro w' hSw; (try dsimp only at hSw); go_simp; (try with_reducible rfl)
  try simp only [Act.put, List.setIfInBounds_toArray, List.set_cons_zero, List.set_cons_succ]
  refine anyH_take (i := 3) (v := ?_) rfl (by kernel_rfl) (by kernel_rfl) (by kernel_rfl) (fun _ _ _ h => h) (by rfl) ?_ (by assumption) ?_
  rotate_left
  · intro w' hSw; (try dsimp only at hSw); go_simp; (try with_reducible rfl)
  try simp only [Act.put, List.setIfInBounds_toArray, List.set_cons_zero, List.set_cons_succ]
  refine anyH_take (i := 4) (v := ?_) rfl (by kernel_rfl) (by kernel_rfl) (by kernel_rfl) (fun _ _ _ h => h) (by rfl) ?_ (by assumption) ?_
  rotate_left
  · intro w' hSw; (try dsimp only at hSw); go_simp; (try with_reducible rfl)
  try simp only [Act.put, List.setIfInBounds_toArray, List.set_cons_zero, List.set_cons_succ]
  refine anyH_take (i := 5) (v := ?_) rfl (by kernel_rfl) (by kernel_rfl) (by kernel_rfl) (fun _ _ _ h => h) (by rfl) ?_ (by assumption) ?_
  rotate_left
  · intro w' hSw; (try dsimp only at hSw); go_simp; (try with_reducible rfl)
  try simp only [Act.put, List.setIfInBounds_toArray, List.set_cons_zero, List.set_cons_succ]
  refine anyH_take (i := 6) (v := ?_) rfl (by kernel_rfl) (by kernel_rfl) (by kernel_rfl) (fun _ _ _ h => h) (by rfl) ?_ (by assumption) ?_
  rotate_left
  · intro w' hSw; (try dsimp only at hSw); go_simp; (try with_reducible rfl)
  try simp only [Act.put, List.setIfInBounds_toArray, List.set_cons_zero, List.set_cons_succ]
  refine anyH_take (i := 7) (v := ?_) rfl (by kernel_rfl) (by kernel_rfl) (by kernel_rfl) (fun _ _ _ h => h) (by rfl) ?_ (by assumption) ?_
  rotate_left
  · intro w' hSw; (try dsimp only at hSw); go_simp; (try with_reducible rfl)
  try simp only [Act.put, List.setIfInBounds_toArray, List.set_cons_zero, List.set_cons_succ]
  refine anyH_take (i := 8) (v := ?_) rfl (by kernel_rfl) (by kernel_rfl) (by kernel_rfl) (fun _ _ _ h => h) (by rfl) ?_ (by assumption) ?_
  rotate_left
  · intro w' hSw; (try dsimp only at hSw); go_simp; (try with_reducible rfl)
  try simp only [Act.put, List.setIfInBounds_toArray, List.set_cons_zero, List.set_cons_succ]
  refine anyH_take (i := 9) (v := ?_) rfl (by kernel_rfl) (by kernel_rfl) (by kernel_rfl) (fun _ _ _ h => h) (by rfl) ?_ (by assumption) ?_
  rotate_left
  · intro w' hSw; (try dsimp only at hSw); go_simp; (try with_reducible rfl)
  try simp only [Act.put, List.setIfInBounds_toArray, List.set_cons_zero, List.set_cons_succ]
  refine anyH_take (i := 10) (v := ?_) rfl (by kernel_rfl) (by kernel_rfl) (by kernel_rfl) (fun _ _ _ h => h) (by rfl) ?_ (by assumption) ?_
  rotate_left
  · intro w' hSw; (try dsimp only at hSw); go_simp; (try with_reducible rfl)
  try simp only [Act.put, List.setIfInBounds_toArray, List.set_cons_zero, List.set_cons_succ]
  refine anyH_take (i := 11) (v := ?_) rfl (by kernel_rfl) (by kernel_rfl) (by kernel_rfl) (fun _ _ _ h => h) (by rfl) ?_ (by assumption) ?_
  rotate_left
  · intro w' hSw; (try dsimp only at hSw); go_simp; (try with_reducible rfl)
  try simp only [Act.put, List.setIfInBounds_toArray, List.set_cons_zero, List.set_cons_succ]
  refine anyH_take (i := 12) (v := ?_) rfl (by kernel_rfl) (by kernel_rfl) (by kernel_rfl) (fun _ _ _ h => h) (by rfl) ?_ (by assumption) ?_
  rotate_left
  · intro w' hSw; (try dsimp only at hSw); go_simp; (try with_reducible rfl)
  try simp only [Act.put, List.setIfInBounds_toArray, List.set_cons_zero, List.set_cons_succ]
  refine anyH_take (i := 13) (v := ?_) rfl (by kernel_rfl) (by kernel_rfl) (by kernel_rfl) (fun _ _ _ h => h) (by rfl) ?_ (by assumption) ?_
  rotate_left
  · intro w' hSw; (try dsimp only at hSw); go_simp; (try with_reducible rfl)
  try simp only [Act.put, List.setIfInBounds_toArray, List.set_cons_zero, List.set_cons_succ]
  refine anyH_take (i := 14) (v := ?_) rfl (by kernel_rfl) (by kernel_rfl) (by kernel_rfl) (fun _ _ _ h => h) (by rfl) ?_ (by assumption) ?_
  rotate_left
  · intro w' hSw; (try dsimp only at hSw); go_simp; (try with_reducible rfl)
  try simp only [Act.put, List.setIfInBounds_toArray, List.set_cons_zero, List.set_cons_succ]
  refine anyH_call (i := 15) rfl (by kernel_rfl) (by rfl) (fun K hK => ?_)
  go_simp
  go_at_call 10; with_reducible refine (zeros_is 24 24 rfl z24 H24.out _ (by omega)).mono ?_; rintro e we ⟨rfl, hbe⟩; have hX := bl (by assumption) hbe
  refine hK.out _ _ hX (fun _ => ?_)
  clear hK K
  try simp only [Act.put, List.setIfInBounds_toArray, List.set_cons_zero, List.set_cons_succ]
  refine anyH_take (i := 16) (v := ?_) rfl (by kernel_rfl) (by kernel_rfl) (by kernel_rfl) (fun _ _ _ h => h) (by rfl) ?_ (by assumption) ?_
  rotate_left
  · intro w' hSw; (try dsimp only at hSw); go_simp; (try with_reducible rfl)
  try simp only [Act.put, List.setIfInBounds_toArray, List.set_cons_zero, List.set_cons_succ]
  refine anyH_take (i := 17) (v := ?_) rfl (by kernel_rfl) (by kernel_rfl) (by kernel_rfl) (fun _ _ _ h => h) (by rfl) ?_ (by assumption) ?_
  rotate_left
  · intro w' hSw; (try dsimp only at hSw); go_simp; (try with_reducible rfl)
  try simp only [Act.put, List.setIfInBounds_toArray, List.set_cons_zero, List.set_cons_succ]
  refine anyH_take (i := 18) (v := ?_) rfl (by kernel_rfl) (by kernel_rfl) (by kernel_rfl) (fun _ _ _ h => h) (by rfl) ?_ (by assumption) ?_
  rotate_left
  · intro w' hSw; (try dsimp only at hSw); go_simp; (try with_reducible rfl)
  try simp only [Act.put, List.setIfInBounds_toArray, List.set_cons_zero, List.set_cons_succ]
  refine anyH_take (i := 19) (v := ?_) rfl (by kernel_rfl) (by kernel_rfl) (by kernel_rfl) (fun _ _ _ h => h) (by rfl) ?_ (by assumption) ?_
  rotate_left
  · intro w' hSw; (try dsimp only at hSw); go_simp; (try with_reducible rfl)
  try simp only [Act.put, List.setIfInBounds_toArray, List.set_cons_zero, List.set_cons_succ]
  refine wpAnyH_done (by kernel_rfl) ?_ _
  go_wp2_with fail
  go_ret
  exact ⟨rfl, bl hB4 hX⟩
end Go.Proofs.Ytaagdoaeefhleaa
