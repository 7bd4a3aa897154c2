/-
  Headers: may one be (header.Check).
-/
import Derived.Test.YtachmdfabnigpaaDoorFix
namespace Go.Proofs.YtachmdfabnigpaaDoor
open Go.RowKit

/-- May a header be? -/
def hdrOk (id : Int) (sa : ByteArray) (n bs raw : Int) (ro ta : ByteArray) : Bool :=
  decide (1 ≤ id ∧ id ≤ 4294967295 ∧ sa.size = 16 ∧ ro.size = 32 ∧ ta.size = 32 ∧ 1 ≤ bs ∧ bs ≤ 49152 ∧ n = (bs + 191) / 192 ∧ 1 ≤ raw ∧ raw ≤ 134217728)
def headV (id : Int) (sa : ByteArray) (n bs raw : Int) (ro ta : ByteArray) : Value := .agg #[.int .i64 id, .string sa, .int .i64 n, .int .i64 bs, .int .i64 raw, .string ro, .string ta]
def okE (b : Bool) : Int := if b then 0 else 1
set_option maxRecDepth 20000 in
set_option maxHeartbeats 2000000 in
theorem hcheck_any (id : Int) (sa : ByteArray) (n bs raw : Int) (ro ta : ByteArray) (w : World) :
    Calls Tryd.prog 34 #[headV id sa n bs raw ro ta] w fun e w' => e = .returned (.int .i64 (okE (hdrOk id sa n bs raw ro ta))) ∧ Below w.heap.size w w' := by
  have hb := (Below.refl w.heap.size w).alloc (Nat.le_refl _) (.cells #[.int .i64 id, .string sa, .int .i64 n, .int .i64 bs, .int .i64 raw, .string ro, .string ta] 23)
  unfold headV
  by_cases h1 : id < 1
  · have H := Lib.hid (show hdrOk id sa n bs raw ro ta = false from decide_eq_false (by omega))
    go_enter Tryd.func34, Tryd.ntmps34
    go_wp2
    go_ret
    exact ⟨by rw [H.out]; rfl, hb⟩
  · skip
    by_cases h2 : 4294967295 < id
    · have H := Lib.hid (show hdrOk id sa n bs raw ro ta = false from decide_eq_false (by omega))
      go_enter Tryd.func34, Tryd.ntmps34
      go_wp2
      go_ret
      exact ⟨by rw [H.out]; rfl, hb⟩
    · skip
      by_cases h3 : ¬ (sa.size : Int) = 16
      · have H := Lib.hid (show hdrOk id sa n bs raw ro ta = false from decide_eq_false (by omega))
        go_enter Tryd.func34, Tryd.ntmps34
        go_wp2
        go_ret
        exact ⟨by rw [H.out]; rfl, hb⟩
      · skip
        by_cases h4 : ¬ (ro.size : Int) = 32
        · have H := Lib.hid (show hdrOk id sa n bs raw ro ta = false from decide_eq_false (by omega))
          go_enter Tryd.func34, Tryd.ntmps34
          go_wp2
          go_ret
          exact ⟨by rw [H.out]; rfl, hb⟩
        · skip
          by_cases h5 : ¬ (ta.size : Int) = 32
          · have H := Lib.hid (show hdrOk id sa n bs raw ro ta = false from decide_eq_false (by omega))
            go_enter Tryd.func34, Tryd.ntmps34
            go_wp2
            go_ret
            exact ⟨by rw [H.out]; rfl, hb⟩
          · skip
            by_cases h6 : bs < 1
            · have H := Lib.hid (show hdrOk id sa n bs raw ro ta = false from decide_eq_false (by omega))
              go_enter Tryd.func34, Tryd.ntmps34
              go_wp2
              go_ret
              exact ⟨by rw [H.out]; rfl, hb⟩
            · skip
              by_cases h7 : 49152 < bs
              · have H := Lib.hid (show hdrOk id sa n bs raw ro ta = false from decide_eq_false (by omega))
                go_enter Tryd.func34, Tryd.ntmps34
                go_wp2
                go_ret
                exact ⟨by rw [H.out]; rfl, hb⟩
              · skip
                by_cases h8 : ¬ n = (bs + 191) / 192
                · have H := Lib.hid (show hdrOk id sa n bs raw ro ta = false from decide_eq_false (by omega))
                  go_enter Tryd.func34, Tryd.ntmps34
                  go_wp2
                  go_ret
                  exact ⟨by rw [H.out]; rfl, hb⟩
                · skip
                  have h8b : (n != (bs + 192 - 1) / 192) = false := by simp; omega
                  have H8 := Lib.hid h8
                  clear h8
                  by_cases h9 : raw < 1
                  · have H := Lib.hid (show hdrOk id sa n bs raw ro ta = false from decide_eq_false (by have := H8.out; omega))
                    go_enter Tryd.func34, Tryd.ntmps34
                    go_wp2
                    go_ret
                    exact ⟨by rw [H.out]; rfl, hb⟩
                  · skip
                    by_cases h10 : 134217728 < raw
                    · have H := Lib.hid (show hdrOk id sa n bs raw ro ta = false from decide_eq_false (by have := H8.out; omega))
                      go_enter Tryd.func34, Tryd.ntmps34
                      go_wp2
                      go_ret
                      exact ⟨by rw [H.out]; rfl, hb⟩
                    · skip
                      have H := Lib.hid (show hdrOk id sa n bs raw ro ta = true from decide_eq_true (by have := H8.out; omega))
                      go_enter Tryd.func34, Tryd.ntmps34
                      go_wp2
                      go_ret
                      exact ⟨by rw [H.out]; rfl, hb⟩
end Go.Proofs.YtachmdfabnigpaaDoor
