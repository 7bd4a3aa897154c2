/-
  Headers: may one be (header.Check, the reference's May); zeros; are texts light.
-/
import Derived.Test.YtaagdoaeefhleaaDoorFixR
import Derived.Test.YtaagdoaeefhleaaDoorBitQ
import Derived.Test.YtaagdoaeefhleaaDoorP3
import Derived.Deep.RegionHeld3
import Derived.Deep.OwnRows
namespace Go.Proofs.YtaagdoaeefhleaaDoor
open Go.RowKit

def extV (id : Int) (sa : ByteArray) (n bs raw : Int) (ro ta : ByteArray) (ba : Int) : Value := .agg #[.int .i64 id, .string sa, .int .i64 n, .int .i64 bs, .int .i64 raw, .string ro, .string ta, .int .i64 ba]

theorem Tryd.info5z : (Tryd.prog.info? 5).map (fun i => (i.zero, i.size, i.bytes)) = some (some (.int .u8 0), 1, 1) := by kernel_rfl
theorem zeros_conv (w : World) (k : Nat) (t : TypeId) : (convert 44 9 (.slice (some ⟨w.heap.size, 0, none⟩) k k)).run Tryd.prog (w.alloc (.cells (madeCells #[.int .u8 0] k) t)) = .ok (.string (ofL (List.replicate k 0))) (w.alloc (.cells (madeCells #[.int .u8 0] k) t)) := by
  refine conv_back _ 44 9 5 ⟨w.heap.size, 0, none⟩ k (List.replicate k 0) k (by simp) Tryd.underlying44 Tryd.underlying5 Tryd.underlying9 ?_
  intro j u hj
  rw [add_mk, World.cell?_alloc_mark]
  simp only [List.map_replicate] at hj
  have hjk : j < k := by have := (List.getElem?_eq_some_iff.1 hj).1; simpa using this
  rw [List.getElem?_replicate, if_pos hjk] at hj
  simp only [Option.some.injEq] at hj
  subst hj
  simp [madeCells, hjk, Nat.mod_one]

theorem zeros_any (k : Nat) (w : World) (hk : k ≤ 1000) : Calls Tryd.prog 9 #[.int .i64 k] w fun e w' => e = .returned (.string (ofL (List.replicate k 0))) ∧ Below w.heap.size w w' := by
  have hcv := zeros_conv w k 5
  have hmk := run_make_row' (P := Tryd.prog) 44 5 (.int .u8 0) 1 Tryd.underlying44 Tryd.info5z rfl .i64 .i64 k (by omega) (by omega)
  go_enter Tryd.func9, Tryd.ntmps9
  go_wp2
  go_ret
  exact ⟨rfl, (Below.refl _ _).alloc (Nat.le_refl _) _⟩

def lightB (sa ro ta : ByteArray) : Bool := decide (sa.size ≤ 500 ∧ ro.size ≤ 500 ∧ ta.size ≤ 500)
theorem light_any (id : Int) (sa : ByteArray) (n bs raw : Int) (ro ta : ByteArray) (ba : Int) (w : World) :
    Calls Tryd.prog 5 #[extV id sa n bs raw ro ta ba] w fun e w' => e = .returned (.bool (lightB sa ro ta)) ∧ Below w.heap.size w w' := by
  have hb := (Below.refl w.heap.size w).alloc (Nat.le_refl _) (.cells #[.int .i64 id, .string sa, .int .i64 n, .int .i64 bs, .int .i64 raw, .string ro, .string ta, .int .i64 ba] 25)
  unfold extV
  by_cases h1 : (sa.size : Int) ≤ 500
  · by_cases h2 : (ro.size : Int) ≤ 500
    · by_cases h3 : (ta.size : Int) ≤ 500
      · have H := Lib.hid (show lightB sa ro ta = true from decide_eq_true ⟨by omega, by omega, by omega⟩)
        go_enter Tryd.func5, Tryd.ntmps5
        go_wp2
        go_ret
        exact ⟨by rw [H.out]; rfl, hb⟩
      · have H := Lib.hid (show lightB sa ro ta = false from decide_eq_false (by omega))
        go_enter Tryd.func5, Tryd.ntmps5
        go_wp2
        go_ret
        exact ⟨by rw [H.out]; rfl, hb⟩
    · have H := Lib.hid (show lightB sa ro ta = false from decide_eq_false (by omega))
      go_enter Tryd.func5, Tryd.ntmps5
      go_wp2
      go_ret
      exact ⟨by rw [H.out]; rfl, hb⟩
  · have H := Lib.hid (show lightB sa ro ta = false from decide_eq_false (by omega))
    go_enter Tryd.func5, Tryd.ntmps5
    go_wp2
    go_ret
    exact ⟨by rw [H.out]; rfl, hb⟩

end Go.Proofs.YtaagdoaeefhleaaDoor
