/-
  The walks of enc.Fixed and enc.Take: a number's lowest bytes.
-/
import Derived.Test.YthjjdjhmaffoeaaGreatDoorChecked
import Derived.Test.YthjjdjhmaffoeaaGreatDoorEncP
import Derived.Lib.Hide
import Derived.Deep.DeepMust
namespace Go.Proofs.YthjjdjhmaffoeaaGreatDoor
open Go.RowKit

def fixK (m : Int) : Nat := min m.toNat 8
theorem fixK_le (m : Int) : fixK m ≤ 8 := by unfold fixK; omega

/-- The array of 'Fixed' when its last k places are filled. -/
def fixCells (n : Int) (k : Nat) : Array Value := ((List.replicate (8 - k) (Value.int .u8 0)) ++ byteVals (be n k)).toArray

theorem fixCells_at (n : Int) (k j : Nat) (hk : k < 8) (hj : j = 7 - k) : (fixCells n k)[j]? = some (.int .u8 0) := by
  subst hj
  unfold fixCells
  rw [List.getElem?_toArray, List.getElem?_append_left (by simp; omega), List.getElem?_replicate, if_pos (by omega)]
theorem fixCells_set (n : Int) (k j : Nat) (hk : k < 8) (hj : j = 7 - k) : (fixCells n k).setIfInBounds j (.int .u8 (n / 2 ^ (8 * k) % 256)) = fixCells n (k + 1) := by
  subst hj
  unfold fixCells
  rw [be_cons, ← pow_8, List.setIfInBounds_toArray]
  congr 1
  rw [List.set_append, if_pos (by simp; omega)]
  have e : List.replicate (8 - k) (Value.int .u8 0) = List.replicate (8 - (k + 1)) (Value.int .u8 0) ++ [Value.int .u8 0] := by
    rw [show 8 - k = 8 - (k + 1) + 1 from by omega, List.replicate_succ']
  rw [e, List.set_append, if_neg (by simp)]
  have e2 : 7 - k - (List.replicate (8 - (k + 1)) (Value.int .u8 0)).length = 0 := by simp
  rw [e2, List.set_cons_zero, List.append_assoc]
  simp [byteVals, byteOf_toNat]
theorem fixCells_new (n : Int) : fixCells n 0 = #[Value.int .u8 0, Value.int .u8 0, Value.int .u8 0, Value.int .u8 0, Value.int .u8 0, Value.int .u8 0, Value.int .u8 0, Value.int .u8 0] := rfl
/-- The last k places. -/
theorem fixCells_conv {P : Program} {w : World} {g : Nat} {t : TypeId} (n : Int) (k cap : Nat) (hk : k ≤ 8) (h : Bk w g t (fixCells n 8)) (src dst e : TypeId) (o : Nat) (ho : k = 0 ∨ o = 8 - k)
    (hs : P.underlying src = some (.slice e)) (he : P.underlying e = some (.int .u8)) (hd : P.underlying dst = some .string) :
    (convert src dst (.slice (some ⟨g, o, none⟩) k cap)).run P w = .ok (.string (ofL (be n k))) w := by
  refine conv_back w src dst e _ cap (be n k) k (by rw [be_length]) hs he hd fun j u hj => ?_
  have hjk : j < k := by
    have := (List.getElem?_eq_some_iff.1 hj).1
    simpa [be_length] using this
  obtain rfl : o = 8 - k := by omega
  rw [add_mk, h.cell]
  unfold fixCells
  rw [List.getElem?_toArray]
  have hd := be_drop n (8 - k) k
  rw [show k + (8 - k) = 8 from by omega] at hd
  rw [← hd] at hj
  simp only [byteVals, Nat.sub_self, List.replicate_zero, List.nil_append, List.getElem?_map, List.getElem?_drop] at hj ⊢
  exact hj

set_option maxHeartbeats 1000000 in
theorem fixed_any (n m : Int) (w : World) :
    Calls Tryz.prog 47 #[.int .i64 n, .int .i64 m] w fun e w' => e = .returned (.string (ofL (be n (fixK m)))) ∧ Below w.heap.size w w' := by
  go_enter Tryz.func47, Tryz.ntmps47
  go_wp2
  go_loopw [6, 7] (fun x i wr => ∃ k : Nat, k ≤ 8 ∧ i = .int .i64 k ∧ Bk wr w.heap.size 104 (fixCells n k) ∧ Below w.heap.size w wr) (fun _ i _ => 8 - (intOf i).toNat)
  case atStart => exact ⟨0, by omega, rfl, Bk.new _ _ _, (Below.refl _ _).alloc (Nat.le_refl _) _⟩
  case round =>
    obtain ⟨k, hk, rfl, hB, hb⟩ := hrel
    by_cases hlt : k < 8
    · have hc : wr.cell? ⟨w.heap.size, 7 - k, none⟩ = some (.int .u8 0) := by rw [hB.cell]; exact fixCells_at n k _ hlt rfl
      have hf := hB.frozen (7 - k)
      go_wp2
      go_roundw
      case rel =>
        refine ⟨k + 1, by omega, by go_num, ?_, hb.setCell (Nat.le_refl _) _⟩
        rw [← fixCells_set n k _ hlt rfl]
        exact hB.set_ _ _
      case measure => simp [intOf]; omega
    · obtain rfl : k = 8 := by omega
      have hB' := hB
      clear hB
      by_cases h1 : m < 0
      · have E := Lib.hid (show fixK m = 0 by unfold fixK; omega)
        have hcv := fixCells_conv (P := Tryz.prog) n 0 0 (by omega) hB' 77 9 5 0 (by omega) Tryz.underlying77 Tryz.underlying5 Tryz.underlying9
        go_wp2
        go_ret
        exact ⟨by rw [E.out]; rfl, hb⟩
      · by_cases h2 : 8 < m
        · have E := Lib.hid (show fixK m = 8 by unfold fixK; omega)
          have hcv := fixCells_conv (P := Tryz.prog) n 8 8 (by omega) hB' 77 9 5 0 (by omega) Tryz.underlying77 Tryz.underlying5 Tryz.underlying9
          go_wp2
          go_ret
          exact ⟨by rw [E.out]; rfl, hb⟩
        · have h9 : m = 0 ∨ m = 1 ∨ m = 2 ∨ m = 3 ∨ m = 4 ∨ m = 5 ∨ m = 6 ∨ m = 7 ∨ m = 8 := by omega
          rcases h9 with rfl | rfl | rfl | rfl | rfl | rfl | rfl | rfl | rfl
          · have hcv := fixCells_conv (P := Tryz.prog) n 0 0 (by omega) hB' 77 9 5 0 (by omega) Tryz.underlying77 Tryz.underlying5 Tryz.underlying9
            go_wp2
            go_ret
            exact ⟨rfl, hb⟩
          · have hcv := fixCells_conv (P := Tryz.prog) n 1 1 (by omega) hB' 77 9 5 7 (by omega) Tryz.underlying77 Tryz.underlying5 Tryz.underlying9
            go_wp2
            go_ret
            exact ⟨rfl, hb⟩
          · have hcv := fixCells_conv (P := Tryz.prog) n 2 2 (by omega) hB' 77 9 5 6 (by omega) Tryz.underlying77 Tryz.underlying5 Tryz.underlying9
            go_wp2
            go_ret
            exact ⟨rfl, hb⟩
          · have hcv := fixCells_conv (P := Tryz.prog) n 3 3 (by omega) hB' 77 9 5 5 (by omega) Tryz.underlying77 Tryz.underlying5 Tryz.underlying9
            go_wp2
            go_ret
            exact ⟨rfl, hb⟩
          · have hcv := fixCells_conv (P := Tryz.prog) n 4 4 (by omega) hB' 77 9 5 4 (by omega) Tryz.underlying77 Tryz.underlying5 Tryz.underlying9
            go_wp2
            go_ret
            exact ⟨rfl, hb⟩
          · have hcv := fixCells_conv (P := Tryz.prog) n 5 5 (by omega) hB' 77 9 5 3 (by omega) Tryz.underlying77 Tryz.underlying5 Tryz.underlying9
            go_wp2
            go_ret
            exact ⟨rfl, hb⟩
          · have hcv := fixCells_conv (P := Tryz.prog) n 6 6 (by omega) hB' 77 9 5 2 (by omega) Tryz.underlying77 Tryz.underlying5 Tryz.underlying9
            go_wp2
            go_ret
            exact ⟨rfl, hb⟩
          · have hcv := fixCells_conv (P := Tryz.prog) n 7 7 (by omega) hB' 77 9 5 1 (by omega) Tryz.underlying77 Tryz.underlying5 Tryz.underlying9
            go_wp2
            go_ret
            exact ⟨rfl, hb⟩
          · have hcv := fixCells_conv (P := Tryz.prog) n 8 8 (by omega) hB' 77 9 5 0 (by omega) Tryz.underlying77 Tryz.underlying5 Tryz.underlying9
            go_wp2
            go_ret
            exact ⟨rfl, hb⟩

theorem be_emod (x : Int) (k : Nat) : be (x % 256 ^ k) k = be x k := by
  have h := be_num (be x k)
  rw [be_length, num_be] at h
  exact h
theorem be_congr {x y : Int} {k : Nat} (h : x % 256 ^ k = y % 256 ^ k) : be x k = be y k := by rw [← be_emod x, h, be_emod]
theorem wrap64_mod (v : Int) (k : Nat) (h : k ≤ 8) : wrap64 v % 256 ^ k = v % 256 ^ k := by
  unfold wrap64
  have : k = 0 ∨ k = 1 ∨ k = 2 ∨ k = 3 ∨ k = 4 ∨ k = 5 ∨ k = 6 ∨ k = 7 ∨ k = 8 := by omega
  rcases this with rfl | rfl | rfl | rfl | rfl | rfl | rfl | rfl | rfl <;> simp only [Int.reducePow] <;> omega
theorem be_back (n : Int) (k : Nat) (h : k ≤ 8) : be (wrap64 (num (be n k))) k = be n k := by
  rw [be_congr (wrap64_mod _ k h), num_be, be_emod]
theorem be_back8 (n : Int) (h1 : -9223372036854775808 ≤ n) (h2 : n ≤ 9223372036854775807) : wrap64 (num (be n 8)) = n := by
  rw [num_be]
  unfold wrap64
  simp only [Int.reducePow]
  omega
theorem fixed_is (n m : Int) (b : ByteArray) (w : World) (h : be n (fixK m) = b.toList) :
    Calls Tryz.prog 47 #[.int .i64 n, .int .i64 m] w fun e w' => e = .returned (.string b) ∧ Below w.heap.size w w' := by
  have e : ofL (be n (fixK m)) = b := str_eq (by rw [toList_ofL]; exact h)
  subst e
  exact fixed_any n m w
end Go.Proofs.YthjjdjhmaffoeaaGreatDoor
