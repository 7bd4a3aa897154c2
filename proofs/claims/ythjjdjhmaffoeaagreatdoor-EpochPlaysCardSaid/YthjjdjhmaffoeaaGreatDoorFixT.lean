/-
  enc.Take as a contract.
-/
import Derived.Test.YthjjdjhmaffoeaaGreatDoorFix
namespace Go.Proofs.YthjjdjhmaffoeaaGreatDoor
open Go.RowKit

def takeF (s : List UInt8) (m : Int) : Int × List UInt8 × Int :=
  if m < 1 ∨ 8 < m then (0, [], 1) else if (s.length : Int) < m then (0, [], 2) else (wrap64 (num (s.take m.toNat)), s.drop m.toNat, 0)
def FixEnd (s : List UInt8) (m : Int) (e : Ending) : Prop := e = .returned (.tuple #[.int .i64 (takeF s m).1, .string (ofL (takeF s m).2.1), .int .i64 (takeF s m).2.2])
theorem FixEnd.mk_ {s : List UInt8} {m n : Int} {b : ByteArray} {k : Int} (h : takeF s m = (n, b.toList, k)) : FixEnd s m (.returned (.tuple #[.int .i64 n, .string b, .int .i64 k])) := by
  unfold FixEnd; rw [h]; simp only [ofL_toList]

set_option maxHeartbeats 1000000 in
theorem takeF_any (s : ByteArray) (m : Int) (w : World) (_hs : s.size ≤ 9223372036854775807) :
    Calls Tryz.prog 29 #[.string s, .int .i64 m] w fun e w' => FixEnd s.toList m e ∧ Below w.heap.size w w' := by
  by_cases h1 : m < 1
  · have Ht := Lib.hid (show takeF s.toList m = (0, [], 1) by unfold takeF; rw [if_pos (by omega)])
    go_enter Tryz.func29, Tryz.ntmps29
    go_wp2
    go_ret3
    exact ⟨FixEnd.mk_ (by rw [toList_nil]; exact Ht.out), Below.refl _ _⟩
  · by_cases h2 : 8 < m
    · have Ht := Lib.hid (show takeF s.toList m = (0, [], 1) by unfold takeF; rw [if_pos (by omega)])
      go_enter Tryz.func29, Tryz.ntmps29
      go_wp2
      go_ret3
      exact ⟨FixEnd.mk_ (by rw [toList_nil]; exact Ht.out), Below.refl _ _⟩
    · by_cases h3 : (s.size : Int) < m
      · have Ht := Lib.hid (show takeF s.toList m = (0, [], 2) by unfold takeF; rw [if_neg (by omega), if_pos (by rw [size_toList]; omega)])
        go_enter Tryz.func29, Tryz.ntmps29
        go_wp2
        go_ret3
        exact ⟨FixEnd.mk_ (by rw [toList_nil]; exact Ht.out), Below.refl _ _⟩
      · obtain ⟨k, rfl⟩ : ∃ k : Nat, m = k := ⟨m.toNat, by omega⟩
        have Ht := Lib.hid (show takeF s.toList k = (wrap64 (num (s.toList.take k)), s.toList.drop k, 0) by unfold takeF; rw [if_neg (by omega), if_neg (by rw [size_toList]; omega)]; rfl)
        have hks : k ≤ s.size := by omega
        have hsz : (s.extract 0 k).size = k := by rw [← size_toList, toList_pre, List.length_take, size_toList]; omega
        have hconv := fun W => run_bytes_of_string (P := Tryz.prog) W 9 77 5 (s.extract 0 k) Tryz.underlying9 Tryz.underlying77 Tryz.underlying5
        have hrow : ∀ cap j (hj : j < k), (bytesRow (s.extract 0 k) cap)[j]? = some (.int .u8 ((s[j]'(Nat.lt_of_lt_of_le hj hks)).toNat : Int)) := by
          intro cap j hj
          rw [bytesRow_at _ _ _ (by show j < (s.extract 0 k).size; rw [hsz]; exact hj)]
          congr 3
          simp [ByteArray.getElem_eq_getElem_data]
        simp only [hsz] at hconv
        have Hsz := Lib.hid hsz
        have Hrow := Lib.hid hrow
        clear hsz hrow
        go_enter Tryz.func29, Tryz.ntmps29
        go_wp2_with fail
        clear hconv
        have hcell : ∀ j (hj : j < k), ((w.alloc (Obj.cells (bytesRow (s.extract 0 k) (grownCap w k 0 5)) 5 ((bytesRow (s.extract 0 k) (grownCap w k 0 5)).size, (bytesRow (s.extract 0 k) (grownCap w k 0 5)).size + 1))).drew).cell? ⟨w.heap.size, j, none⟩ = some (.int .u8 ((s[j]'(Nat.lt_of_lt_of_le hj hks)).toNat : Int)) := by
          intro j hj
          show (w.alloc _).cell? _ = _
          rw [World.cell?_alloc_mark]
          exact Hrow.out _ _ hj
        have Hcell := Lib.hid hcell
        clear hcell
        generalize hW : ((w.alloc (Obj.cells (bytesRow (s.extract 0 k) (grownCap w k 0 5)) 5 ((bytesRow (s.extract 0 k) (grownCap w k 0 5)).size, (bytesRow (s.extract 0 k) (grownCap w k 0 5)).size + 1))).drew) = W at Hcell ⊢
        have hb : Below w.heap.size w W := by rw [← hW]; exact ((Below.refl _ _).alloc (Nat.le_refl _) _).drew
        clear hW
        go_loop [7, 9, 27] (fun n c i => ∃ j : Nat, j ≤ k ∧ i = .int .i64 j ∧ n = .int .i64 (wrap64 (num (s.toList.take j)))) (fun _ _ i => k - (intOf i).toNat)
        case atStart => exact ⟨0, by omega, rfl, by simp [num, wrap64]⟩
        case round =>
          obtain ⟨j, hj, rfl, rfl⟩ := hrel
          by_cases hlt : j < k
          · have hc := Hcell.out j hlt
            go_wp2
            go_round
            case rel =>
              have hbj := UInt8.toNat_lt s[j]
              refine ⟨j + 1, by omega, by go_num, ?_⟩
              rw [List.take_succ_eq_append_getElem (by rw [size_toList]; omega), num_snoc, ← getElem_toList, wrap64_id (s[j].toNat : Int) (by omega) (by omega), bitsor_byte, wrap64_mul_add]
              rfl
            case measure => simp [intOf]; omega
          · obtain rfl : j = k := by omega
            go_wp2
            go_quiet (fail)
            go_wp2
            go_ret3
            exact ⟨FixEnd.mk_ (by rw [toList_suf]; exact Ht.out), below_drewN hb _⟩
theorem takeF_is (s r : ByteArray) (m n k : Int) (w : World) (hs : s.size ≤ 9223372036854775807) (h : takeF s.toList m = (n, r.toList, k)) :
    Calls Tryz.prog 29 #[.string s, .int .i64 m] w fun e w' => e = .returned (.tuple #[.int .i64 n, .string r, .int .i64 k]) ∧ Below w.heap.size w w' :=
  (takeF_any s m w hs).mono fun e w' ⟨he, hb⟩ => ⟨by rw [he, h]; simp only [ofL_toList], hb⟩

end Go.Proofs.YthjjdjhmaffoeaaGreatDoor
