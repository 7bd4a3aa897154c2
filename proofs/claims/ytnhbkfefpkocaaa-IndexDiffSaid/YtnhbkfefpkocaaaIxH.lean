/-
  Chapter 44's example (awake).
-/
import Derived.Test.YtnhbkfefpkocaaaIxG
namespace Go.Proofs.Ytnhbkfefpkocaaa
open Go.RowKit Go.Sort

theorem b97 : (⟨#[97]⟩ : ByteArray).toList = [97] := toList_ofL [97]
theorem b98 : (⟨#[98]⟩ : ByteArray).toList = [98] := toList_ofL [98]
theorem ok97 : okP ⟨#[97]⟩ = 0 := by unfold okP; rw [b97]; decide
theorem ok98 : okP ⟨#[98]⟩ = 0 := by unfold okP; rw [b98]; decide
theorem lt_ab : ([97] : List UInt8) < [98] := by decide
theorem nlt_aa : ¬ ([97] : List UInt8) < [97] := by decide
theorem nlt_ba : ¬ ([98] : List UInt8) < [97] := by decide
theorem nlt_bb : ¬ ([98] : List UInt8) < [98] := by decide
theorem ne_ab : (⟨#[97]⟩ : ByteArray) ≠ ⟨#[98]⟩ := fun e => by have := congrArg ByteArray.toList e; rw [b97, b98] at this; cases this
/-- The example's index behind its first archive, and behind its second one. -/
def aw1 (s1 s2 : ByteArray) : List It := [⟨⟨#[97]⟩, 1, 1, s1⟩, ⟨⟨#[98]⟩, 1, 0, s2⟩]
def aw2 (s3 s2 : ByteArray) : List It := [⟨⟨#[97]⟩, 2, 2, s3⟩, ⟨⟨#[98]⟩, 1, 0, s2⟩]
theorem pos_a (x y : It) (hx : x.p = ⟨#[97]⟩) : posI ⟨#[97]⟩ [x, y] = 0 := by
  unfold posI
  rw [List.takeWhile_cons_of_neg (by rw [hx, b97]; simp)]
  rfl
theorem pos_b (x y : It) (hx : x.p = ⟨#[97]⟩) (hy : y.p = ⟨#[98]⟩) : posI ⟨#[98]⟩ [x, y] = 1 := by
  unfold posI
  rw [List.takeWhile_cons_of_pos (by rw [hx, b97, b98]; simpa using lt_ab), List.takeWhile_cons_of_neg (by rw [hy, b98]; simp)]
  rfl
theorem found_a (x y : It) (hx : x.p = ⟨#[97]⟩) : foundI ⟨#[97]⟩ [x, y] = true := by
  unfold foundI
  rw [pos_a x y hx]
  exact decide_eq_true ⟨x, rfl, hx⟩
theorem found_b (x y : It) (hx : x.p = ⟨#[97]⟩) (hy : y.p = ⟨#[98]⟩) : foundI ⟨#[98]⟩ [x, y] = true := by
  unfold foundI
  rw [pos_b x y hx hy]
  exact decide_eq_true ⟨y, rfl, hy⟩
theorem put_first (x : It) : putI [] x = [x] := by
  have h : foundI x.p [] = false := by simp [foundI, posI]
  unfold putI
  rw [if_neg (by rw [h]; simp)]
  rfl
theorem put_second (x y : It) (hx : x.p = ⟨#[97]⟩) (hy : y.p = ⟨#[98]⟩) : putI [x] y = [x, y] := by
  have hp : posI y.p [x] = 1 := by
    unfold posI
    rw [List.takeWhile_cons_of_pos (by rw [hx, hy, b97, b98]; simpa using lt_ab)]
    rfl
  have h : foundI y.p [x] = false := by unfold foundI; rw [hp]; simp
  unfold putI
  rw [if_neg (by rw [h]; simp), hp]
  rfl
theorem put_third (x y z : It) (hx : x.p = ⟨#[97]⟩) (hz : z.p = ⟨#[97]⟩) (hid : x.id ≤ z.id) : putI [x, y] z = [z, y] := by
  unfold putI
  rw [hz, if_pos (found_a x y hx), pos_a x y hx]
  simp [hid]
def fa : List Fl := [(⟨#[97]⟩, ⟨#[120]⟩), (⟨#[98]⟩, ⟨#[]⟩)]
def fb : List Fl := [(⟨#[97]⟩, ⟨#[121, 121]⟩)]
theorem aw_with1 : ∃ s1 s2, withI [] 1 fa = (aw1 s1 s2, 0) := by
  refine ⟨ofL (shaW (⟨#[120]⟩ : ByteArray).toList), ofL (shaW (⟨#[]⟩ : ByteArray).toList), ?_⟩
  generalize h1 : ofL (shaW (⟨#[120]⟩ : ByteArray).toList) = s1
  generalize h2 : ofL (shaW (⟨#[]⟩ : ByteArray).toList) = s2
  have e1 : itOf 1 (⟨#[97]⟩, ⟨#[120]⟩) = ⟨⟨#[97]⟩, 1, 1, s1⟩ := by unfold itOf; rw [h1]; rfl
  have e2 : itOf 1 (⟨#[98]⟩, ⟨#[]⟩) = ⟨⟨#[98]⟩, 1, 0, s2⟩ := by unfold itOf; rw [h2]; rfl
  unfold withI fa
  rw [if_neg (by omega), withL, if_pos ok97, withL, if_pos ok98, e1, e2, put_first, put_second _ _ rfl rfl, withL]
  rfl
theorem aw_with2 (s1 s2 : ByteArray) : ∃ s3, withI (aw1 s1 s2) 2 fb = (aw2 s3 s2, 0) := by
  refine ⟨ofL (shaW (⟨#[121, 121]⟩ : ByteArray).toList), ?_⟩
  generalize h1 : ofL (shaW (⟨#[121, 121]⟩ : ByteArray).toList) = s3
  have e1 : itOf 2 (⟨#[97]⟩, ⟨#[121, 121]⟩) = ⟨⟨#[97]⟩, 2, 2, s3⟩ := by unfold itOf; rw [h1]; rfl
  unfold withI fb aw1
  rw [if_neg (by omega), withL, if_pos ok97, e1, put_third _ _ _ rfl rfl (show (1 : Int) ≤ 2 by omega), withL]
  rfl
theorem aw_srt (x y : It) (hx : x.p = ⟨#[97]⟩) (hy : y.p = ⟨#[98]⟩) : SrtI [x, y] := by
  refine srtI_cons.2 ⟨fun z hz => ?_, List.pairwise_singleton _ _⟩
  simp at hz
  subst hz
  rw [hx, hy, b97, b98]
  exact lt_ab
theorem fa_small : ∀ f ∈ fa, f.1.size ≤ 100000000 ∧ f.2.size ≤ 1000000000 := fun f hf => by
  unfold fa at hf
  simp only [List.mem_cons, List.not_mem_nil, or_false] at hf
  rcases hf with rfl | rfl
  · exact ⟨by decide, by decide⟩
  · exact ⟨by decide, by decide⟩
theorem fb_small : ∀ f ∈ fb, f.1.size ≤ 100000000 ∧ f.2.size ≤ 1000000000 := fun f hf => by
  unfold fb at hf
  simp only [List.mem_cons, List.not_mem_nil, or_false] at hf
  subst hf
  exact ⟨by decide, by decide⟩

set_option maxRecDepth 20000 in
set_option maxHeartbeats 2000000 in
theorem awakeI_any (w : World) : Calls Try.prog 14 #[] w fun e w' => e = .returned (.bool true) ∧ Below w.heap.size w w' := by
  obtain ⟨s1, s2, hw1⟩ := aw_with1
  obtain ⟨s3, hw2⟩ := aw_with2 s1 s2
  have HW := Lib.hid (And.intro hw1 hw2)
  clear hw1 hw2
  have hb0 := ((Below.refl w.heap.size w).alloc (Nat.le_refl _) (.cells #[.slice none 0 0] 25))
  have hk0 := Bk.new w 25 #[.slice none 0 0]
  have HB := Lib.hid (And.intro hb0 hk0)
  clear hb0 hk0
  go_enter Try.func14, Try.ntmps14
  go_wp2_with fail
  have hsz : (w.alloc (.cells #[.slice none 0 0] 25)).heap.size = w.heap.size + 1 := by simp
  have HSZ := Lib.hid (And.intro hsz trivial)
  clear hsz
  generalize w.alloc (.cells #[.slice none 0 0] 25) = w1 at *
  have hrA : Rd (w1.alloc (.cells #[.string ⟨#[97]⟩, .string ⟨#[120]⟩, .string ⟨#[98]⟩, .string ⟨#[]⟩] 73)) (some ⟨w.heap.size + 1, 0, none⟩) (fl fa) := by
    rw [← HSZ.out.1]
    exact Rd.new w1 73 #[.string ⟨#[97]⟩, .string ⟨#[120]⟩, .string ⟨#[98]⟩, .string ⟨#[]⟩]
  have hal := (Below.refl w1.heap.size w1).alloc (Nat.le_refl _) (.cells #[.string ⟨#[97]⟩, .string ⟨#[120]⟩, .string ⟨#[98]⟩, .string ⟨#[]⟩] 73)
  have HAL := Lib.hid hal
  refine (with_any [] none 0 0 rfl (by omega) List.Pairwise.nil 1 fa (some ⟨w.heap.size + 1, 0, none⟩) 2 2 rfl (by omega) fa_small _ (Rd.nil _ _) hrA).mono ?_
  clear hrA hal
  rw [HW.out.1]
  rintro e w2 ⟨v1, rfl, hs1, hb2⟩
  obtain ⟨A1, c1, hv1, _, _, hr1, hA1⟩ := hs1
  change v1 = .slice A1 2 c1 at hv1
  subst hv1
  have hb12 : Below w1.heap.size w1 w2 := below_of_alloc hb2
  have hx2 := HB.out.2.below' hb12
  have cx := hx2.cell_ 0 (.slice none 0 0) rfl
  have fx := hx2.frozen 0
  have hB2' := hx2.set_ 0 (.slice A1 2 c1)
  have hon := only_set w2 w.heap.size 0 (.slice A1 2 c1)
  have H2 := Lib.hid (And.intro (show Bk (w2.setCell ⟨w.heap.size, 0, none⟩ (.slice A1 2 c1)) w.heap.size 25 #[.slice A1 2 c1] from hB2') (And.intro ((HB.out.1.trans (hb12.mono (by rw [HSZ.out.1]; omega))).setCell (p := ⟨w.heap.size, 0, none⟩) (Nat.le_refl _) (.slice A1 2 c1)) (show Rd (w2.setCell ⟨w.heap.size, 0, none⟩ (.slice A1 2 c1)) A1 (itf (aw1 s1 s2)) from hr1.only hon (Off.fresh hA1 (by rw [World.size_alloc, HSZ.out.1]; omega)))))
  clear hA1 hr1 hb2 hb12 hx2 hB2' hon
  go_wp2_with fail
  have hsz2 : (w2.setCell ⟨w.heap.size, 0, none⟩ (.slice A1 2 c1)).heap.size = w2.heap.size := by simp
  obtain ⟨g2, hg2⟩ : ∃ g2, w2.heap.size = g2 := ⟨_, rfl⟩
  rw [hg2] at hsz2 ⊢
  have HS2 := Lib.hid (And.intro hsz2 hg2)
  clear hsz2 hg2 cx fx
  generalize w2.setCell ⟨w.heap.size, 0, none⟩ (.slice A1 2 c1) = w3 at *
  have hrB : Rd (w3.alloc (.cells #[.string ⟨#[97]⟩, .string ⟨#[121, 121]⟩] 73)) (some ⟨g2, 0, none⟩) (fl fb) := by
    rw [← HS2.out.1]
    exact Rd.new w3 73 #[.string ⟨#[97]⟩, .string ⟨#[121, 121]⟩]
  have hal := (Below.refl w3.heap.size w3).alloc (Nat.le_refl _) (.cells #[.string ⟨#[97]⟩, .string ⟨#[121, 121]⟩] 73)
  refine (with_any (aw1 s1 s2) A1 2 c1 rfl (by omega) (aw_srt _ _ rfl rfl) 2 fb (some ⟨g2, 0, none⟩) 1 1 rfl (by omega) fb_small _ (H2.out.2.2.below hal) hrB).mono ?_
  clear hrB hal
  rw [HW.out.2]
  rintro e w4 ⟨v2, rfl, hs4, hb4⟩
  obtain ⟨A2, c2, hv2, _, _, hr4, hA2⟩ := hs4
  change v2 = .slice A2 2 c2 at hv2
  subst hv2
  have hb34 : Below w3.heap.size w3 w4 := below_of_alloc hb4
  have hx4 := H2.out.1.below' hb34
  have cx := hx4.cell_ 0 (.slice A1 2 c1) rfl
  have fx := hx4.frozen 0
  have hgw : w.heap.size < g2 := by rw [← HS2.out.1]; exact H2.out.1.lt
  have hon := only_set w4 w.heap.size 0 (.slice A2 2 c2)
  have H4 := Lib.hid (And.intro (show Bk (w4.setCell ⟨w.heap.size, 0, none⟩ (.slice A2 2 c2)) w.heap.size 25 #[.slice A2 2 c2] from hx4.set_ 0 (.slice A2 2 c2)) (And.intro ((H2.out.2.1.trans (hb34.mono (by rw [HS2.out.1]; omega))).setCell (p := ⟨w.heap.size, 0, none⟩) (Nat.le_refl _) (.slice A2 2 c2)) (show Rd (w4.setCell ⟨w.heap.size, 0, none⟩ (.slice A2 2 c2)) A2 (itf (aw2 s3 s2)) from hr4.only hon (Off.fresh hA2 (by rw [World.size_alloc, HS2.out.1]; omega)))))
  clear hb4 hb34 hx4 hon hr4 hA2 H2
  go_wp2_with fail
  have hcc := World.cell?_setCell_same w4 ⟨w.heap.size, 0, none⟩ (.slice A2 2 c2) cx
  clear cx fx
  generalize w4.setCell ⟨w.heap.size, 0, none⟩ (.slice A2 2 c2) = w5 at *
  have hfA := find_any (aw2 s3 s2) A2 2 c2 rfl (by omega) (aw_srt _ _ rfl rfl) ⟨#[97]⟩ ⟨⟨#[97]⟩, 2, 2, s3⟩ true (by unfold findI aw2; rw [if_pos (found_a _ _ rfl), pos_a _ _ rfl]; rfl) (found_a _ _ rfl)
  have hfB := find_any (aw2 s3 s2) A2 2 c2 rfl (by omega) (aw_srt _ _ rfl rfl) ⟨#[98]⟩ ⟨⟨#[98]⟩, 1, 0, s2⟩ true (by unfold findI aw2; rw [if_pos (found_b _ _ rfl rfl), pos_b _ _ rfl rfl]; rfl) (found_b _ _ rfl rfl)
  have HFA := Lib.hid hfA
  have HFB := Lib.hid hfB
  clear hfA hfB
  go_wp2_with fail
  refine (HFA.out w5 H4.out.2.2).mono ?_
  rintro e w6 ⟨rfl, hb6⟩
  have cx6 := (H4.out.1.below' hb6).cell_ 0 (.slice A2 2 c2) rfl
  have H6 := Lib.hid (And.intro (H4.out.1.below' hb6) (And.intro (bl H4.out.2.1 hb6) (H4.out.2.2.below hb6)))
  have l6 : w.heap.size < w6.heap.size := (H4.out.1.below' hb6).lt
  have hbA : Bk (w6.alloc (.cells #[.string ⟨#[97]⟩, .int .i64 2, .int .i64 2, .string s3] 46)) w6.heap.size 46 #[.string ⟨#[97]⟩, .int .i64 2, .int .i64 2, .string s3] := Bk.new w6 _ _
  have H7 := Lib.hid (And.intro (H6.out.1.alloc (.cells #[.string ⟨#[97]⟩, .int .i64 2, .int .i64 2, .string s3] 46)) (And.intro (H6.out.2.1.alloc H6.out.2.1.size (.cells #[.string ⟨#[97]⟩, .int .i64 2, .int .i64 2, .string s3] 46)) (And.intro (H6.out.2.2.below ((Below.refl _ w6).alloc (Nat.le_refl _) (.cells #[.string ⟨#[97]⟩, .int .i64 2, .int .i64 2, .string s3] 46))) hbA)))
  clear hb6 hcc H4 hbA
  go_wp2_with fail
  obtain ⟨gA, hgA⟩ : ∃ gA, w6.heap.size = gA := ⟨_, rfl⟩
  rw [hgA] at H7 l6 ⊢
  clear H6 cx6 hgA
  generalize w6.alloc (.cells #[.string ⟨#[97]⟩, .int .i64 2, .int .i64 2, .string s3] 46) = w7 at *
  refine (HFB.out w7 H7.out.2.2.1).mono ?_
  rintro e w8 ⟨rfl, hb8⟩
  have hx8 := H7.out.1.below' hb8
  have cx8 := hx8.cell_ 0 (.slice A2 2 c2) rfl
  have l8 : w.heap.size < w8.heap.size := hx8.lt
  have hA8 := H7.out.2.2.2.below' hb8
  have a1 := hA8.cell_ 1 (.int .i64 2) rfl
  have a2 := hA8.cell_ 2 (.int .i64 2) rfl
  have lA : gA < w8.heap.size := hA8.lt
  have H8 := Lib.hid (bl H7.out.2.1 hb8)
  clear hb8 hx8 hA8 H7
  go_wp2_with fail
  refine (len_any A2 2 c2 _).mono ?_
  rintro e w9 ⟨rfl, hb9⟩
  have H9 := Lib.hid (bl H8.out (below_of_alloc hb9))
  clear hb9
  go_wp2_with fail
  go_ret
  exact ⟨rfl, H9.out⟩
end Go.Proofs.Ytnhbkfefpkocaaa
