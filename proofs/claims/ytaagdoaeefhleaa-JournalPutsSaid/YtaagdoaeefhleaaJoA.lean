/-
  Headers: may one be (header.Check, the reference's May); zeros; are texts light.
-/
import Derived.Test.YtaagdoaeefhleaaFixR
import Derived.Test.YtaagdoaeefhleaaBitQ
import Derived.Deep.RegionHeld3
import Derived.Deep.OwnRows
namespace Go.Proofs.Ytaagdoaeefhleaa
open Go.RowKit

/-- May a header be? -/
def hdrOk (id : Int) (sa : ByteArray) (n bs raw : Int) (ro ta : ByteArray) : Bool :=
  decide (1 ≤ id ∧ id ≤ 4294967295 ∧ sa.size = 16 ∧ ro.size = 32 ∧ ta.size = 32 ∧ 1 ≤ bs ∧ bs ≤ 49152 ∧ n = (bs + 191) / 192 ∧ 1 ≤ raw ∧ raw ≤ 134217728)
def headV (id : Int) (sa : ByteArray) (n bs raw : Int) (ro ta : ByteArray) : Value := .agg #[.int .i64 id, .string sa, .int .i64 n, .int .i64 bs, .int .i64 raw, .string ro, .string ta]
def extV (id : Int) (sa : ByteArray) (n bs raw : Int) (ro ta : ByteArray) (ba : Int) : Value := .agg #[.int .i64 id, .string sa, .int .i64 n, .int .i64 bs, .int .i64 raw, .string ro, .string ta, .int .i64 ba]

theorem Try.info5z : (Try.prog.info? 5).map (fun i => (i.zero, i.size, i.bytes)) = some (some (.int .u8 0), 1, 1) := by kernel_rfl
theorem zeros_conv (w : World) (k : Nat) (t : TypeId) : (convert 56 9 (.slice (some ⟨w.heap.size, 0, none⟩) k k)).run Try.prog (w.alloc (.cells (madeCells #[.int .u8 0] k) t)) = .ok (.string (ofL (List.replicate k 0))) (w.alloc (.cells (madeCells #[.int .u8 0] k) t)) := by
  refine conv_back _ 56 9 5 ⟨w.heap.size, 0, none⟩ k (List.replicate k 0) k (by simp) Try.underlying56 Try.underlying5 Try.underlying9 ?_
  intro j u hj
  rw [add_mk, World.cell?_alloc_mark]
  simp only [List.map_replicate] at hj
  have hjk : j < k := by have := (List.getElem?_eq_some_iff.1 hj).1; simpa using this
  rw [List.getElem?_replicate, if_pos hjk] at hj
  simp only [Option.some.injEq] at hj
  subst hj
  simp [madeCells, hjk, Nat.mod_one]

theorem zeros_any (k : Nat) (w : World) (hk : k ≤ 1000) : Calls Try.prog 10 #[.int .i64 k] w fun e w' => e = .returned (.string (ofL (List.replicate k 0))) ∧ Below w.heap.size w w' := by
  have hcv := zeros_conv w k 5
  have hmk := run_make_row' (P := Try.prog) 56 5 (.int .u8 0) 1 Try.underlying56 Try.info5z rfl .i64 .i64 k (by omega) (by omega)
  go_enter Try.func10, Try.ntmps10
  go_wp2
  go_ret
  exact ⟨rfl, (Below.refl _ _).alloc (Nat.le_refl _) _⟩

def lightB (sa ro ta : ByteArray) : Bool := decide (sa.size ≤ 500 ∧ ro.size ≤ 500 ∧ ta.size ≤ 500)
theorem light_any (id : Int) (sa : ByteArray) (n bs raw : Int) (ro ta : ByteArray) (ba : Int) (w : World) :
    Calls Try.prog 4 #[extV id sa n bs raw ro ta ba] w fun e w' => e = .returned (.bool (lightB sa ro ta)) ∧ Below w.heap.size w w' := by
  have hb := (Below.refl w.heap.size w).alloc (Nat.le_refl _) (.cells #[.int .i64 id, .string sa, .int .i64 n, .int .i64 bs, .int .i64 raw, .string ro, .string ta, .int .i64 ba] 25)
  unfold extV
  by_cases h1 : (sa.size : Int) ≤ 500
  · by_cases h2 : (ro.size : Int) ≤ 500
    · by_cases h3 : (ta.size : Int) ≤ 500
      · have H := Lib.hid (show lightB sa ro ta = true from decide_eq_true ⟨by omega, by omega, by omega⟩)
        go_enter Try.func4, Try.ntmps4
        go_wp2
        go_ret
        exact ⟨by rw [H.out]; rfl, hb⟩
      · have H := Lib.hid (show lightB sa ro ta = false from decide_eq_false (by omega))
        go_enter Try.func4, Try.ntmps4
        go_wp2
        go_ret
        exact ⟨by rw [H.out]; rfl, hb⟩
    · have H := Lib.hid (show lightB sa ro ta = false from decide_eq_false (by omega))
      go_enter Try.func4, Try.ntmps4
      go_wp2
      go_ret
      exact ⟨by rw [H.out]; rfl, hb⟩
  · have H := Lib.hid (show lightB sa ro ta = false from decide_eq_false (by omega))
    go_enter Try.func4, Try.ntmps4
    go_wp2
    go_ret
    exact ⟨by rw [H.out]; rfl, hb⟩

def okE (b : Bool) : Int := if b then 0 else 1
set_option maxRecDepth 20000 in
set_option maxHeartbeats 2000000 in
theorem hcheck_any (id : Int) (sa : ByteArray) (n bs raw : Int) (ro ta : ByteArray) (w : World) :
    Calls Try.prog 22 #[headV id sa n bs raw ro ta] w fun e w' => e = .returned (.int .i64 (okE (hdrOk id sa n bs raw ro ta))) ∧ Below w.heap.size w w' := by
  have hb := (Below.refl w.heap.size w).alloc (Nat.le_refl _) (.cells #[.int .i64 id, .string sa, .int .i64 n, .int .i64 bs, .int .i64 raw, .string ro, .string ta] 23)
  unfold headV
  by_cases h1 : id < 1
  · have H := Lib.hid (show hdrOk id sa n bs raw ro ta = false from decide_eq_false (by omega))
    go_enter Try.func22, Try.ntmps22
    go_wp2
    go_ret
    exact ⟨by rw [H.out]; rfl, hb⟩
  · skip
    by_cases h2 : 4294967295 < id
    · have H := Lib.hid (show hdrOk id sa n bs raw ro ta = false from decide_eq_false (by omega))
      go_enter Try.func22, Try.ntmps22
      go_wp2
      go_ret
      exact ⟨by rw [H.out]; rfl, hb⟩
    · skip
      by_cases h3 : ¬ (sa.size : Int) = 16
      · have H := Lib.hid (show hdrOk id sa n bs raw ro ta = false from decide_eq_false (by omega))
        go_enter Try.func22, Try.ntmps22
        go_wp2
        go_ret
        exact ⟨by rw [H.out]; rfl, hb⟩
      · skip
        by_cases h4 : ¬ (ro.size : Int) = 32
        · have H := Lib.hid (show hdrOk id sa n bs raw ro ta = false from decide_eq_false (by omega))
          go_enter Try.func22, Try.ntmps22
          go_wp2
          go_ret
          exact ⟨by rw [H.out]; rfl, hb⟩
        · skip
          by_cases h5 : ¬ (ta.size : Int) = 32
          · have H := Lib.hid (show hdrOk id sa n bs raw ro ta = false from decide_eq_false (by omega))
            go_enter Try.func22, Try.ntmps22
            go_wp2
            go_ret
            exact ⟨by rw [H.out]; rfl, hb⟩
          · skip
            by_cases h6 : bs < 1
            · have H := Lib.hid (show hdrOk id sa n bs raw ro ta = false from decide_eq_false (by omega))
              go_enter Try.func22, Try.ntmps22
              go_wp2
              go_ret
              exact ⟨by rw [H.out]; rfl, hb⟩
            · skip
              by_cases h7 : 49152 < bs
              · have H := Lib.hid (show hdrOk id sa n bs raw ro ta = false from decide_eq_false (by omega))
                go_enter Try.func22, Try.ntmps22
                go_wp2
                go_ret
                exact ⟨by rw [H.out]; rfl, hb⟩
              · skip
                by_cases h8 : ¬ n = (bs + 191) / 192
                · have H := Lib.hid (show hdrOk id sa n bs raw ro ta = false from decide_eq_false (by omega))
                  go_enter Try.func22, Try.ntmps22
                  go_wp2
                  go_ret
                  exact ⟨by rw [H.out]; rfl, hb⟩
                · skip
                  have h8b : (n != (bs + 192 - 1) / 192) = false := by simp; omega
                  have H8 := Lib.hid h8
                  clear h8
                  by_cases h9 : raw < 1
                  · have H := Lib.hid (show hdrOk id sa n bs raw ro ta = false from decide_eq_false (by have := H8.out; omega))
                    go_enter Try.func22, Try.ntmps22
                    go_wp2
                    go_ret
                    exact ⟨by rw [H.out]; rfl, hb⟩
                  · skip
                    by_cases h10 : 134217728 < raw
                    · have H := Lib.hid (show hdrOk id sa n bs raw ro ta = false from decide_eq_false (by have := H8.out; omega))
                      go_enter Try.func22, Try.ntmps22
                      go_wp2
                      go_ret
                      exact ⟨by rw [H.out]; rfl, hb⟩
                    · skip
                      have H := Lib.hid (show hdrOk id sa n bs raw ro ta = true from decide_eq_true (by have := H8.out; omega))
                      go_enter Try.func22, Try.ntmps22
                      go_wp2
                      go_ret
                      exact ⟨by rw [H.out]; rfl, hb⟩
end Go.Proofs.Ytaagdoaeefhleaa
