/-
  The walks of enc.Fixed and enc.Take: a number's lowest bytes.
-/
import Derived.Test.YtmcolpfgflpgiaaChecked
import Derived.Test.YtmcolpfgflpgiaaEncP
import Derived.Lib.Hide
import Derived.Deep.DeepMust
namespace Go.Proofs.Ytmcolpfgflpgiaa
open Go.RowKit

def fixK (m : Int) : Nat := min m.toNat 8
theorem fixK_le (m : Int) : fixK m ≤ 8 := by unfold fixK; omega

/-- The array of 'Fixed' when its last k places are filled. -/
def fixCells (n : Int) (k : Nat) : Array Value := ((List.replicate (8 - k) (Value.int .u8 0)) ++ byteVals (be n k)).toArray

theorem fixCells_at (n : Int) (k j : Nat) (hk : k < 8) (hj : j = 7 - k) : (fixCells n k)[j]? = some (.int .u8 0) := by
  subst hj
  unfold fixCells
  rw [List.getElem?_toArray, List.getElem?_append_left (by simp; omega), List.getElem?_replicate, if_pos (by omega)]
theorem fixCells_set (n : Int) (k j : Nat) (hk : k < 8) (hj : j = 7 - k) : (fixCells n k).setIfInBounds j (.int .u8 (n / 2 ^ (8 * k) % 256)) = fixCells n (k + 1) := by
  subst hj
  unfold fixCells
  rw [be_cons, ← pow_8, List.setIfInBounds_toArray]
  congr 1
  rw [List.set_append, if_pos (by simp; omega)]
  have e : List.replicate (8 - k) (Value.int .u8 0) = List.replicate (8 - (k + 1)) (Value.int .u8 0) ++ [Value.int .u8 0] := by
    rw [show 8 - k = 8 - (k + 1) + 1 from by omega, List.replicate_succ']
  rw [e, List.set_append, if_neg (by simp)]
  have e2 : 7 - k - (List.replicate (8 - (k + 1)) (Value.int .u8 0)).length = 0 := by simp
  rw [e2, List.set_cons_zero, List.append_assoc]
  simp [byteVals, byteOf_toNat]
theorem fixCells_new (n : Int) : fixCells n 0 = #[Value.int .u8 0, Value.int .u8 0, Value.int .u8 0, Value.int .u8 0, Value.int .u8 0, Value.int .u8 0, Value.int .u8 0, Value.int .u8 0] := rfl
/-- The last k places. -/
theorem fixCells_conv {P : Program} {w : World} {g : Nat} {t : TypeId} (n : Int) (k cap : Nat) (hk : k ≤ 8) (h : Bk w g t (fixCells n 8)) (src dst e : TypeId) (o : Nat) (ho : k = 0 ∨ o = 8 - k)
    (hs : P.underlying src = some (.slice e)) (he : P.underlying e = some (.int .u8)) (hd : P.underlying dst = some .string) :
    (convert src dst (.slice (some ⟨g, o, none⟩) k cap)).run P w = .ok (.string (ofL (be n k))) w := by
  refine conv_back w src dst e _ cap (be n k) k (by rw [be_length]) hs he hd fun j u hj => ?_
  have hjk : j < k := by
    have := (List.getElem?_eq_some_iff.1 hj).1
    simpa [be_length] using this
  obtain rfl : o = 8 - k := by omega
  rw [add_mk, h.cell]
  unfold fixCells
  rw [List.getElem?_toArray]
  have hd := be_drop n (8 - k) k
  rw [show k + (8 - k) = 8 from by omega] at hd
  rw [← hd] at hj
  simp only [byteVals, Nat.sub_self, List.replicate_zero, List.nil_append, List.getElem?_map, List.getElem?_drop] at hj ⊢
  exact hj

set_option maxHeartbeats 1000000 in
theorem fixed_any (n m : Int) (w : World) :
    Calls Try.prog 34 #[.int .i64 n, .int .i64 m] w fun e w' => e = .returned (.string (ofL (be n (fixK m)))) ∧ Below w.heap.size w w' := by
  go_enter Try.func34, Try.ntmps34
  go_wp2
  go_loopw [6, 7] (fun x i wr => ∃ k : Nat, k ≤ 8 ∧ i = .int .i64 k ∧ Bk wr w.heap.size 64 (fixCells n k) ∧ Below w.heap.size w wr) (fun _ i _ => 8 - (intOf i).toNat)
  case atStart => exact ⟨0, by omega, rfl, Bk.new _ _ _, (Below.refl _ _).alloc (Nat.le_refl _) _⟩
  case round =>
    obtain ⟨k, hk, rfl, hB, hb⟩ := hrel
    by_cases hlt : k < 8
    · have hc : wr.cell? ⟨w.heap.size, 7 - k, none⟩ = some (.int .u8 0) := by rw [hB.cell]; exact fixCells_at n k _ hlt rfl
      have hf := hB.frozen (7 - k)
      go_wp2
      go_roundw
      case rel =>
        refine ⟨k + 1, by omega, by go_num, ?_, hb.setCell (Nat.le_refl _) _⟩
        rw [← fixCells_set n k _ hlt rfl]
        exact hB.set_ _ _
      case measure => simp [intOf]; omega
    · obtain rfl : k = 8 := by omega
      have hB' := hB
      clear hB
      by_cases h1 : m < 0
      · have E := Lib.hid (show fixK m = 0 by unfold fixK; omega)
        have hcv := fixCells_conv (P := Try.prog) n 0 0 (by omega) hB' 62 9 5 0 (by omega) Try.underlying62 Try.underlying5 Try.underlying9
        go_wp2
        go_ret
        exact ⟨by rw [E.out]; rfl, hb⟩
      · by_cases h2 : 8 < m
        · have E := Lib.hid (show fixK m = 8 by unfold fixK; omega)
          have hcv := fixCells_conv (P := Try.prog) n 8 8 (by omega) hB' 62 9 5 0 (by omega) Try.underlying62 Try.underlying5 Try.underlying9
          go_wp2
          go_ret
          exact ⟨by rw [E.out]; rfl, hb⟩
        · have h9 : m = 0 ∨ m = 1 ∨ m = 2 ∨ m = 3 ∨ m = 4 ∨ m = 5 ∨ m = 6 ∨ m = 7 ∨ m = 8 := by omega
          rcases h9 with rfl | rfl | rfl | rfl | rfl | rfl | rfl | rfl | rfl
          · have hcv := fixCells_conv (P := Try.prog) n 0 0 (by omega) hB' 62 9 5 0 (by omega) Try.underlying62 Try.underlying5 Try.underlying9
            go_wp2
            go_ret
            exact ⟨rfl, hb⟩
          · have hcv := fixCells_conv (P := Try.prog) n 1 1 (by omega) hB' 62 9 5 7 (by omega) Try.underlying62 Try.underlying5 Try.underlying9
            go_wp2
            go_ret
            exact ⟨rfl, hb⟩
          · have hcv := fixCells_conv (P := Try.prog) n 2 2 (by omega) hB' 62 9 5 6 (by omega) Try.underlying62 Try.underlying5 Try.underlying9
            go_wp2
            go_ret
            exact ⟨rfl, hb⟩
          · have hcv := fixCells_conv (P := Try.prog) n 3 3 (by omega) hB' 62 9 5 5 (by omega) Try.underlying62 Try.underlying5 Try.underlying9
            go_wp2
            go_ret
            exact ⟨rfl, hb⟩
          · have hcv := fixCells_conv (P := Try.prog) n 4 4 (by omega) hB' 62 9 5 4 (by omega) Try.underlying62 Try.underlying5 Try.underlying9
            go_wp2
            go_ret
            exact ⟨rfl, hb⟩
          · have hcv := fixCells_conv (P := Try.prog) n 5 5 (by omega) hB' 62 9 5 3 (by omega) Try.underlying62 Try.underlying5 Try.underlying9
            go_wp2
            go_ret
            exact ⟨rfl, hb⟩
          · have hcv := fixCells_conv (P := Try.prog) n 6 6 (by omega) hB' 62 9 5 2 (by omega) Try.underlying62 Try.underlying5 Try.underlying9
            go_wp2
            go_ret
            exact ⟨rfl, hb⟩
          · have hcv := fixCells_conv (P := Try.prog) n 7 7 (by omega) hB' 62 9 5 1 (by omega) Try.underlying62 Try.underlying5 Try.underlying9
            go_wp2
            go_ret
            exact ⟨rfl, hb⟩
          · have hcv := fixCells_conv (P := Try.prog) n 8 8 (by omega) hB' 62 9 5 0 (by omega) Try.underlying62 Try.underlying5 Try.underlying9
            go_wp2
            go_ret
            exact ⟨rfl, hb⟩

theorem be_emod (x : Int) (k : Nat) : be (x % 256 ^ k) k = be x k := by
  have h := be_num (be x k)
  rw [be_length, num_be] at h
  exact h
theorem be_congr {x y : Int} {k : Nat} (h : x % 256 ^ k = y % 256 ^ k) : be x k = be y k := by rw [← be_emod x, h, be_emod]
theorem wrap64_mod (v : Int) (k : Nat) (h : k ≤ 8) : wrap64 v % 256 ^ k = v % 256 ^ k := by
  unfold wrap64
  have : k = 0 ∨ k = 1 ∨ k = 2 ∨ k = 3 ∨ k = 4 ∨ k = 5 ∨ k = 6 ∨ k = 7 ∨ k = 8 := by omega
  rcases this with rfl | rfl | rfl | rfl | rfl | rfl | rfl | rfl | rfl <;> simp only [Int.reducePow] <;> omega
theorem be_back (n : Int) (k : Nat) (h : k ≤ 8) : be (wrap64 (num (be n k))) k = be n k := by
  rw [be_congr (wrap64_mod _ k h), num_be, be_emod]
theorem be_back8 (n : Int) (h1 : -9223372036854775808 ≤ n) (h2 : n ≤ 9223372036854775807) : wrap64 (num (be n 8)) = n := by
  rw [num_be]
  unfold wrap64
  simp only [Int.reducePow]
  omega
def takeF (s : List UInt8) (m : Int) : Int × List UInt8 × Int :=
  if m < 1 ∨ 8 < m then (0, [], 1) else if (s.length : Int) < m then (0, [], 2) else (wrap64 (num (s.take m.toNat)), s.drop m.toNat, 0)
def FixEnd (s : List UInt8) (m : Int) (e : Ending) : Prop := e = .returned (.tuple #[.int .i64 (takeF s m).1, .string (ofL (takeF s m).2.1), .int .i64 (takeF s m).2.2])
theorem FixEnd.mk_ {s : List UInt8} {m n : Int} {b : ByteArray} {k : Int} (h : takeF s m = (n, b.toList, k)) : FixEnd s m (.returned (.tuple #[.int .i64 n, .string b, .int .i64 k])) := by
  unfold FixEnd; rw [h]; simp only [ofL_toList]

set_option maxHeartbeats 1000000 in
theorem takeF_any (s : ByteArray) (m : Int) (w : World) (_hs : s.size ≤ 9223372036854775807) :
    Calls Try.prog 35 #[.string s, .int .i64 m] w fun e w' => FixEnd s.toList m e ∧ Below w.heap.size w w' := by
  by_cases h1 : m < 1
  · have Ht := Lib.hid (show takeF s.toList m = (0, [], 1) by unfold takeF; rw [if_pos (by omega)])
    go_enter Try.func35, Try.ntmps35
    go_wp2
    go_ret3
    exact ⟨FixEnd.mk_ (by rw [toList_nil]; exact Ht.out), Below.refl _ _⟩
  · by_cases h2 : 8 < m
    · have Ht := Lib.hid (show takeF s.toList m = (0, [], 1) by unfold takeF; rw [if_pos (by omega)])
      go_enter Try.func35, Try.ntmps35
      go_wp2
      go_ret3
      exact ⟨FixEnd.mk_ (by rw [toList_nil]; exact Ht.out), Below.refl _ _⟩
    · by_cases h3 : (s.size : Int) < m
      · have Ht := Lib.hid (show takeF s.toList m = (0, [], 2) by unfold takeF; rw [if_neg (by omega), if_pos (by rw [size_toList]; omega)])
        go_enter Try.func35, Try.ntmps35
        go_wp2
        go_ret3
        exact ⟨FixEnd.mk_ (by rw [toList_nil]; exact Ht.out), Below.refl _ _⟩
      · obtain ⟨k, rfl⟩ : ∃ k : Nat, m = k := ⟨m.toNat, by omega⟩
        have Ht := Lib.hid (show takeF s.toList k = (wrap64 (num (s.toList.take k)), s.toList.drop k, 0) by unfold takeF; rw [if_neg (by omega), if_neg (by rw [size_toList]; omega)]; rfl)
        have hks : k ≤ s.size := by omega
        have hsz : (s.extract 0 k).size = k := by rw [← size_toList, toList_pre, List.length_take, size_toList]; omega
        have hconv := fun W => run_bytes_of_string (P := Try.prog) W 9 62 5 (s.extract 0 k) Try.underlying9 Try.underlying62 Try.underlying5
        have hrow : ∀ cap j (hj : j < k), (bytesRow (s.extract 0 k) cap)[j]? = some (.int .u8 ((s[j]'(Nat.lt_of_lt_of_le hj hks)).toNat : Int)) := by
          intro cap j hj
          rw [bytesRow_at _ _ _ (by show j < (s.extract 0 k).size; rw [hsz]; exact hj)]
          congr 3
          simp [ByteArray.getElem_eq_getElem_data]
        simp only [hsz] at hconv
        have Hsz := Lib.hid hsz
        have Hrow := Lib.hid hrow
        clear hsz hrow
        go_enter Try.func35, Try.ntmps35
        go_wp2_with fail
        clear hconv
        have hcell : ∀ j (hj : j < k), ((w.alloc (Obj.cells (bytesRow (s.extract 0 k) (grownCap w k 0 5)) 5 ((bytesRow (s.extract 0 k) (grownCap w k 0 5)).size, (bytesRow (s.extract 0 k) (grownCap w k 0 5)).size + 1))).drew).cell? ⟨w.heap.size, j, none⟩ = some (.int .u8 ((s[j]'(Nat.lt_of_lt_of_le hj hks)).toNat : Int)) := by
          intro j hj
          show (w.alloc _).cell? _ = _
          rw [World.cell?_alloc_mark]
          exact Hrow.out _ _ hj
        have Hcell := Lib.hid hcell
        clear hcell
        generalize hW : ((w.alloc (Obj.cells (bytesRow (s.extract 0 k) (grownCap w k 0 5)) 5 ((bytesRow (s.extract 0 k) (grownCap w k 0 5)).size, (bytesRow (s.extract 0 k) (grownCap w k 0 5)).size + 1))).drew) = W at Hcell ⊢
        have hb : Below w.heap.size w W := by rw [← hW]; exact ((Below.refl _ _).alloc (Nat.le_refl _) _).drew
        clear hW
        go_loop [7, 9, 27] (fun n c i => ∃ j : Nat, j ≤ k ∧ i = .int .i64 j ∧ n = .int .i64 (wrap64 (num (s.toList.take j)))) (fun _ _ i => k - (intOf i).toNat)
        case atStart => exact ⟨0, by omega, rfl, by simp [num, wrap64]⟩
        case round =>
          obtain ⟨j, hj, rfl, rfl⟩ := hrel
          by_cases hlt : j < k
          · have hc := Hcell.out j hlt
            go_wp2
            go_round
            case rel =>
              have hbj := UInt8.toNat_lt s[j]
              refine ⟨j + 1, by omega, by go_num, ?_⟩
              rw [List.take_succ_eq_append_getElem (by rw [size_toList]; omega), num_snoc, ← getElem_toList, wrap64_id (s[j].toNat : Int) (by omega) (by omega), bitsor_byte, wrap64_mul_add]
              rfl
            case measure => simp [intOf]; omega
          · obtain rfl : j = k := by omega
            go_wp2
            go_quiet (fail)
            go_wp2
            go_ret3
            exact ⟨FixEnd.mk_ (by rw [toList_suf]; exact Ht.out), below_drewN hb _⟩
theorem takeF_is (s r : ByteArray) (m n k : Int) (w : World) (hs : s.size ≤ 9223372036854775807) (h : takeF s.toList m = (n, r.toList, k)) :
    Calls Try.prog 35 #[.string s, .int .i64 m] w fun e w' => e = .returned (.tuple #[.int .i64 n, .string r, .int .i64 k]) ∧ Below w.heap.size w w' :=
  (takeF_any s m w hs).mono fun e w' ⟨he, hb⟩ => ⟨by rw [he, h]; simp only [ofL_toList], hb⟩

theorem fixed_is (n m : Int) (b : ByteArray) (w : World) (h : be n (fixK m) = b.toList) :
    Calls Try.prog 34 #[.int .i64 n, .int .i64 m] w fun e w' => e = .returned (.string b) ∧ Below w.heap.size w w' := by
  have e : ofL (be n (fixK m)) = b := str_eq (by rw [toList_ofL]; exact h)
  subst e
  exact fixed_any n m w
end Go.Proofs.Ytmcolpfgflpgiaa
