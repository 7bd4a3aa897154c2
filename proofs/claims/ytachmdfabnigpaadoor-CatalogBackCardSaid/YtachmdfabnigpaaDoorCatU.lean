/-
  catalog.Take: where there is no entry.
-/
import Derived.Test.YtachmdfabnigpaaDoorCatI
import Derived.Test.YtachmdfabnigpaaDoorCatT
import Derived.Test.YtachmdfabnigpaaDoorShelf
namespace Go.Proofs.YtachmdfabnigpaaDoor
open Go.RowKit

/-- Does a text begin with the mark? -/
def markB (s : ByteArray) : Bool := Lib.hasPrefix s.toList [83, 76, 67, 49]
def cutT (s : ByteArray) (b : Bool) : ByteArray := if b then s.extract 4 s.size else s
theorem cut_mark (s : ByteArray) (w : World) : Calls Tryd.prog 11 #[.string s, .string ⟨#[83, 76, 67, 49]⟩] w fun e w' => e = .returned (.tuple #[.string (cutT s (markB s)), .bool (markB s)]) ∧ w' = w := by
  refine (Tryd.strings_CutPrefix s ⟨#[83, 76, 67, 49]⟩ w).mono ?_
  rintro e w' ⟨rfl, rfl⟩
  have hp : Lib.hasPrefix s.data.toList (⟨#[83, 76, 67, 49]⟩ : ByteArray).data.toList = markB s := by unfold markB; rw [ByteArray.toList_eq]
  refine ⟨?_, rfl⟩
  rw [hp]
  unfold Lib.trimPrefix
  rw [hp]
  unfold cutT
  cases hm : markB s with
  | true =>
    rw [if_pos rfl, if_pos rfl]
    have : (⟨(s.data.toList.drop 4).toArray⟩ : ByteArray) = s.extract 4 s.size := str_eq (by rw [toList_suf, mk_ofL, toList_ofL, ByteArray.toList_eq])
    rw [← this]
    try rfl
  | false =>
    rw [if_neg (by decide), if_neg (by decide)]
    try rfl
theorem cut_is (s t : ByteArray) (b : Bool) (h : markB s = b) (ht : cutT s b = t) (w : World) : Calls Tryd.prog 11 #[.string s, .string ⟨#[83, 76, 67, 49]⟩] w fun e w' => e = .returned (.tuple #[.string t, .bool b]) ∧ w' = w := by
  subst h
  subst ht
  exact cut_mark s w

def CNo (w : World) (k : Int) (e : Ending) (w' : World) : Prop := e = .returned (.tuple #[.agg #[.int .i64 0, .string ⟨#[]⟩, .int .i64 0, .int .i64 0, .int .i64 0, .string ⟨#[]⟩, .string ⟨#[]⟩, .int .i64 0], .int .i64 k]) ∧ Below w.heap.size w w'

set_option maxRecDepth 20000 in
set_option maxHeartbeats 4000000 in
theorem ctake_zero (s : ByteArray) (w : World) (hs : s.size ≤ 1000) (hz : zeroB s = true) : Calls Tryd.prog 5 #[.string s] w (CNo w 8) := by
  have hb : Below w.heap.size w (w.alloc (.cells #[.int .i64 0, .string ⟨#[]⟩, .int .i64 0, .int .i64 0, .int .i64 0, .string ⟨#[]⟩, .string ⟨#[]⟩, .int .i64 0] 25)) := (Below.refl _ _).alloc (Nat.le_refl _) _
  have hR : Bk (w.alloc (.cells #[.int .i64 0, .string ⟨#[]⟩, .int .i64 0, .int .i64 0, .int .i64 0, .string ⟨#[]⟩, .string ⟨#[]⟩, .int .i64 0] 25)) w.heap.size 25 #[.int .i64 0, .string ⟨#[]⟩, .int .i64 0, .int .i64 0, .int .i64 0, .string ⟨#[]⟩, .string ⟨#[]⟩, .int .i64 0] := Bk.new _ _ _
  obtain ⟨b, hbm⟩ : ∃ b, markB s = b := ⟨_, rfl⟩
  obtain ⟨t, ht⟩ : ∃ t, cutT s b = t := ⟨_, rfl⟩
  have HB := Lib.hid hbm
  have HT := Lib.hid ht
  have HZ := Lib.hid hz
  clear hbm ht hz
  go_enter Tryd.func5, Tryd.ntmps5
  go_wp2_with fail
  (with_reducible refine (cut_is s t b HB.out HT.out _).mono ?_)
  rintro e w1 ⟨rfl, rfl⟩
  generalize w.alloc (.cells #[.int .i64 0, .string ⟨#[]⟩, .int .i64 0, .int .i64 0, .int .i64 0, .string ⟨#[]⟩, .string ⟨#[]⟩, .int .i64 0] 25) = w0 at *
  go_wp2_with fail
  (with_reducible refine (trimZ s _ hs HZ.out).mono ?_)
  rintro e w2 ⟨rfl, hb1⟩
  have hR2 := hR.below' hb1
  have hb2 := below_then hb hb1 hb.size
  clear hR hb hb1
  have r0 := hR2.cell 0
  have r1 := hR2.cell 1
  have r2 := hR2.cell 2
  have r3 := hR2.cell 3
  have r4 := hR2.cell 4
  have r5 := hR2.cell 5
  have r6 := hR2.cell 6
  have r7 := hR2.cell 7
  simp only [List.getElem?_toArray, List.getElem?_cons_succ, List.getElem?_cons_zero] at r0 r1 r2 r3 r4 r5 r6 r7
  have f0 := hR2.frozen 0
  have f1 := hR2.frozen 1
  have f2 := hR2.frozen 2
  have f3 := hR2.frozen 3
  have f4 := hR2.frozen 4
  have f5 := hR2.frozen 5
  have f6 := hR2.frozen 6
  have f7 := hR2.frozen 7
  go_wp2_with fail
  exact bodyPost_ret (v := .tuple #[.agg #[.int .i64 0, .string ⟨#[]⟩, .int .i64 0, .int .i64 0, .int .i64 0, .string ⟨#[]⟩, .string ⟨#[]⟩, .int .i64 0], .int .i64 8]) (by simp [results, Tryd.results5, go_sem, r0, r1, r2, r3, r4, r5, r6, r7]) rfl ⟨rfl, (((((((hb2.setCell (Nat.le_refl _) _).setCell (Nat.le_refl _) _).setCell (Nat.le_refl _) _).setCell (Nat.le_refl _) _).setCell (Nat.le_refl _) _).setCell (Nat.le_refl _) _).setCell (Nat.le_refl _) _).setCell (Nat.le_refl _) _⟩

set_option maxRecDepth 20000 in
set_option maxHeartbeats 4000000 in
theorem ctake_nomark (s : ByteArray) (w : World) (hs : s.size ≤ 1000) (hz : zeroB s = false) (hbad : markB s = false ∨ s.size < 104) : Calls Tryd.prog 5 #[.string s] w (CNo w 2) := by
  have hb : Below w.heap.size w (w.alloc (.cells #[.int .i64 0, .string ⟨#[]⟩, .int .i64 0, .int .i64 0, .int .i64 0, .string ⟨#[]⟩, .string ⟨#[]⟩, .int .i64 0] 25)) := (Below.refl _ _).alloc (Nat.le_refl _) _
  have hR : Bk (w.alloc (.cells #[.int .i64 0, .string ⟨#[]⟩, .int .i64 0, .int .i64 0, .int .i64 0, .string ⟨#[]⟩, .string ⟨#[]⟩, .int .i64 0] 25)) w.heap.size 25 #[.int .i64 0, .string ⟨#[]⟩, .int .i64 0, .int .i64 0, .int .i64 0, .string ⟨#[]⟩, .string ⟨#[]⟩, .int .i64 0] := Bk.new _ _ _
  obtain ⟨b, hbm⟩ : ∃ b, markB s = b := ⟨_, rfl⟩
  obtain ⟨t, ht⟩ : ∃ t, cutT s b = t := ⟨_, rfl⟩
  have hbad2 : b = false ∨ (b = true ∧ ((s.size : Nat) : Int) < 104) := by
    cases b with
    | false => exact .inl rfl
    | true =>
      rcases hbad with h | h
      · rw [hbm] at h; cases h
      · exact .inr ⟨rfl, by omega⟩
  have HB := Lib.hid hbm
  have HT := Lib.hid ht
  have HZ := Lib.hid hz
  clear hbm ht hz hbad
  rcases hbad2 with rfl | ⟨rfl, hl⟩
  all_goals
    go_enter Tryd.func5, Tryd.ntmps5
    go_wp2_with fail
    (with_reducible refine (cut_is s t _ HB.out HT.out _).mono ?_)
    rintro e w1 ⟨rfl, rfl⟩
    generalize w.alloc (.cells #[.int .i64 0, .string ⟨#[]⟩, .int .i64 0, .int .i64 0, .int .i64 0, .string ⟨#[]⟩, .string ⟨#[]⟩, .int .i64 0] 25) = w0 at *
    go_wp2_with fail
    (with_reducible refine (trimN s _ hs HZ.out).mono ?_)
    rintro e w2 ⟨z, rfl, hz0, hb1⟩
    have hR2 := hR.below' hb1
    have hb2 := below_then hb hb1 hb.size
    have hze := isEmpty_of z hz0
    clear hR hb hb1 hz0
    have r0 := hR2.cell 0
    have r1 := hR2.cell 1
    have r2 := hR2.cell 2
    have r3 := hR2.cell 3
    have r4 := hR2.cell 4
    have r5 := hR2.cell 5
    have r6 := hR2.cell 6
    have r7 := hR2.cell 7
    simp only [List.getElem?_toArray, List.getElem?_cons_succ, List.getElem?_cons_zero] at r0 r1 r2 r3 r4 r5 r6 r7
    have f0 := hR2.frozen 0
    have f1 := hR2.frozen 1
    have f2 := hR2.frozen 2
    have f3 := hR2.frozen 3
    have f4 := hR2.frozen 4
    have f5 := hR2.frozen 5
    have f6 := hR2.frozen 6
    have f7 := hR2.frozen 7
    go_wp2_with fail
    exact bodyPost_ret (v := .tuple #[.agg #[.int .i64 0, .string ⟨#[]⟩, .int .i64 0, .int .i64 0, .int .i64 0, .string ⟨#[]⟩, .string ⟨#[]⟩, .int .i64 0], .int .i64 2]) (by simp [results, Tryd.results5, go_sem, r0, r1, r2, r3, r4, r5, r6, r7]) rfl ⟨rfl, (((((((hb2.setCell (Nat.le_refl _) _).setCell (Nat.le_refl _) _).setCell (Nat.le_refl _) _).setCell (Nat.le_refl _) _).setCell (Nat.le_refl _) _).setCell (Nat.le_refl _) _).setCell (Nat.le_refl _) _).setCell (Nat.le_refl _) _⟩
end Go.Proofs.YtachmdfabnigpaaDoor
