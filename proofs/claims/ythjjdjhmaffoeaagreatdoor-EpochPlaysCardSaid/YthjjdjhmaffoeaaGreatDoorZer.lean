/-
  The zeros of a sector: strings.Trim, the reference's Zeros.
-/
import Derived.Test.YthjjdjhmaffoeaaGreatDoorBase
import Derived.Lib.Hide
import Derived.Test.YthjjdjhmaffoeaaGreatDoorShelf
namespace Go.Proofs.YthjjdjhmaffoeaaGreatDoor
open Go.RowKit

theorem isEmpty_of (s : ByteArray) (h0 : 0 < s.size) : s.toList.isEmpty = false := by
  cases h : s.toList with
  | nil => rw [← size_toList, h] at h0; exact absurd h0 (by simp)
  | cons x t => rfl
def zeroB (s : ByteArray) : Bool := s.toList.all (· == 0)
theorem drop_nil {l : List UInt8} (h : l.dropWhile (· == 0) = []) : l.all (· == 0) = true := by
  induction l with
  | nil => rfl
  | cons x l ih =>
    rw [List.dropWhile_cons] at h
    split at h
    · rename_i hx
      rw [List.all_cons, hx, ih h]; rfl
    · cases h
theorem drop_all {l : List UInt8} (h : l.all (· == 0) = true) : l.dropWhile (· == 0) = [] := by
  induction l with
  | nil => rfl
  | cons x l ih =>
    rw [List.all_cons, Bool.and_eq_true] at h
    rw [List.dropWhile_cons, if_pos h.1]
    exact ih h.2
theorem drop_head {l : List UInt8} {x : UInt8} {r : List UInt8} (h : l.dropWhile (· == 0) = x :: r) : (x == 0) = false := by
  induction l with
  | nil => cases h
  | cons y l ih =>
    rw [List.dropWhile_cons] at h
    split at h
    · exact ih h
    · rename_i hy
      simp only [List.cons.injEq] at h
      rw [← h.1]
      simpa using hy
theorem trim_all {l : List UInt8} (h : l.all (· == 0) = true) : Lib.trimB l 0 = [] := by
  unfold Lib.trimB Lib.trimRightB Lib.trimLeftB
  have h1 : l.reverse.dropWhile (· == 0) = [] := drop_all (by rw [List.all_reverse]; exact h)
  simp [h1]
theorem trim_not {l : List UInt8} (h : l.all (· == 0) = false) : Lib.trimB l 0 ≠ [] := by
  unfold Lib.trimB Lib.trimRightB Lib.trimLeftB
  intro h1
  have h2 := drop_nil h1
  rw [List.all_reverse] at h2
  cases h3 : l.reverse.dropWhile (· == 0) with
  | nil =>
    have := drop_nil h3
    rw [List.all_reverse, h] at this
    cases this
  | cons x r =>
    rw [h3, List.all_cons, drop_head h3] at h2
    cases h2
theorem trimZ (s : ByteArray) (w : World) (hs : s.size ≤ 1000) (h : zeroB s = true) :
    Calls Tryz.prog 28 #[.string s, .string ⟨#[0]⟩] w fun e w' => e = .returned (.string ⟨#[]⟩) ∧ Below w.heap.size w w' := by
  refine (Tryz.strings_Trim_one s 0 (by decide) w (by omega)).mono ?_
  rintro e w' ⟨rfl, hw⟩
  have e1 : Lib.trimB s.data.toList 0 = [] := trim_all (by rw [← ByteArray.toList_eq]; exact h)
  rw [e1]
  refine ⟨rfl, ?_⟩
  rcases hw with rfl | rfl
  · exact Below.refl _ _
  · exact (Below.refl _ _).drew
theorem trimN (s : ByteArray) (w : World) (hs : s.size ≤ 1000) (h : zeroB s = false) :
    Calls Tryz.prog 28 #[.string s, .string ⟨#[0]⟩] w fun e w' => ∃ z : ByteArray, e = .returned (.string z) ∧ 0 < z.size ∧ Below w.heap.size w w' := by
  refine (Tryz.strings_Trim_one s 0 (by decide) w (by omega)).mono ?_
  rintro e w' ⟨rfl, hw⟩
  have e1 : Lib.trimB s.data.toList 0 ≠ [] := trim_not (by rw [← ByteArray.toList_eq]; exact h)
  refine ⟨_, rfl, ?_, ?_⟩
  · cases h2 : Lib.trimB s.data.toList 0 with
    | nil => exact absurd h2 e1
    | cons x r => show 0 < (x :: r).toArray.size; simp
  · rcases hw with rfl | rfl
    · exact Below.refl _ _
    · exact (Below.refl _ _).drew

set_option maxRecDepth 20000 in
/-- The reference's Zeros. -/
theorem zerosR_any (s : ByteArray) (b : Bool) (hb : zeroB s = b) (w : World) (hs : s.size ≤ 1000) :
    Calls Tryz.prog 31 #[.string s] w fun e w' => e = .returned (.bool b) ∧ Below w.heap.size w w' := by
  have Hb := Lib.hid hb
  clear hb
  go_enter Tryz.func31, Tryz.ntmps31
  go_wp2_with fail
  go_loop [3] (fun i => ∃ k : Nat, k ≤ s.size ∧ i = .int .i64 k ∧ Hid ((s.toList.take k).all (· == 0) = true)) (fun i => s.size - (intOf i).toNat)
  case atStart => exact ⟨0, by omega, rfl, Lib.hid rfl⟩
  case round =>
    obtain ⟨k, hk, rfl, hA⟩ := hrel
    by_cases hks : k < s.size
    · have hlt : k < s.toList.length := by rw [size_toList]; exact hks
      have hx : s.toList[k]? = some (s[k]'hks) := by rw [List.getElem?_eq_getElem hlt, getElem_toList]
      have htk : (s.toList.take (k + 1)).all (· == 0) = ((s.toList.take k).all (· == 0) && (s[k]'hks == 0)) := by
        rw [List.take_add_one, hx, Option.toList_some, List.all_append]; simp
      have Htk := Lib.hid htk
      clear htk hx hlt
      by_cases hz : ((s[k]'hks).toNat : Int) = 0
      · have H := Lib.hid (show (s.toList.take (k + 1)).all (· == 0) = true by
          have : s[k]'hks = 0 := UInt8.toNat_inj.1 (by simpa using hz)
          rw [Htk.out, hA.out, this]; rfl)
        clear hA
        go_wp2_with fail
        go_round
        case rel => exact ⟨k + 1, by omega, rfl, H⟩
        case measure => simp [intOf]; omega
      · have H := Lib.hid (show b = false by
          rw [← Hb.out]
          unfold zeroB
          have h1 : (s[k]'hks == 0) = false := by
            have : s[k]'hks ≠ 0 := fun e => hz (by rw [e]; rfl)
            simpa using this
          have h2 : (s.toList.take (k + 1)).all (· == 0) = false := by rw [Htk.out, h1, Bool.and_false]
          rw [← List.take_append_drop (k + 1) s.toList, List.all_append, h2, Bool.false_and])
        clear hA
        go_wp2_with fail
        go_ret
        exact ⟨by rw [H.out]; rfl, Below.refl _ _⟩
    · obtain rfl : k = s.size := by omega
      have H := Lib.hid (show b = true by rw [← Hb.out]; have := hA.out; rw [List.take_of_length_le (by rw [size_toList]; exact Nat.le_refl _)] at this; exact this)
      go_wp2_with fail
      go_ret
      exact ⟨by rw [H.out]; rfl, Below.refl _ _⟩
end Go.Proofs.YthjjdjhmaffoeaaGreatDoor
