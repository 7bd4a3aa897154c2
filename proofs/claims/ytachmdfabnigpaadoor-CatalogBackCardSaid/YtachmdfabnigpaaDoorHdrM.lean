/-
  The reference's May of a header.
-/
import Derived.Test.YtachmdfabnigpaaDoorHdrC
namespace Go.Proofs.YtachmdfabnigpaaDoor
open Go.RowKit

set_option maxRecDepth 20000 in
set_option maxHeartbeats 2000000 in
theorem hmay_any (id : Int) (sa : ByteArray) (n bs raw : Int) (ro ta : ByteArray) (w : World) :
    Calls Tryd.prog 35 #[headV id sa n bs raw ro ta] w fun e w' => e = .returned (.bool (hdrOk id sa n bs raw ro ta)) ∧ Below w.heap.size w w' := by
  have hb := (Below.refl w.heap.size w).alloc (Nat.le_refl _) (.cells #[.int .i64 id, .string sa, .int .i64 n, .int .i64 bs, .int .i64 raw, .string ro, .string ta] 23)
  unfold headV
  by_cases h1 : id < 1
  · have H := Lib.hid (show hdrOk id sa n bs raw ro ta = false from decide_eq_false (by omega))
    go_enter Tryd.func35, Tryd.ntmps35
    go_wp2
    go_ret
    exact ⟨by rw [H.out]; rfl, hb⟩
  · skip
    by_cases h2 : 4294967295 < id
    · have H := Lib.hid (show hdrOk id sa n bs raw ro ta = false from decide_eq_false (by omega))
      go_enter Tryd.func35, Tryd.ntmps35
      go_wp2
      go_ret
      exact ⟨by rw [H.out]; rfl, hb⟩
    · skip
      by_cases h3 : ¬ (sa.size : Int) = 16
      · have H := Lib.hid (show hdrOk id sa n bs raw ro ta = false from decide_eq_false (by omega))
        go_enter Tryd.func35, Tryd.ntmps35
        go_wp2
        go_ret
        exact ⟨by rw [H.out]; rfl, hb⟩
      · skip
        by_cases h4 : ¬ (ro.size : Int) = 32
        · have H := Lib.hid (show hdrOk id sa n bs raw ro ta = false from decide_eq_false (by omega))
          go_enter Tryd.func35, Tryd.ntmps35
          go_wp2
          go_ret
          exact ⟨by rw [H.out]; rfl, hb⟩
        · skip
          by_cases h5 : ¬ (ta.size : Int) = 32
          · have H := Lib.hid (show hdrOk id sa n bs raw ro ta = false from decide_eq_false (by omega))
            go_enter Tryd.func35, Tryd.ntmps35
            go_wp2
            go_ret
            exact ⟨by rw [H.out]; rfl, hb⟩
          · skip
            by_cases h6 : bs < 1
            · have H := Lib.hid (show hdrOk id sa n bs raw ro ta = false from decide_eq_false (by omega))
              go_enter Tryd.func35, Tryd.ntmps35
              go_wp2
              go_ret
              exact ⟨by rw [H.out]; rfl, hb⟩
            · skip
              by_cases h7 : 49152 < bs
              · have H := Lib.hid (show hdrOk id sa n bs raw ro ta = false from decide_eq_false (by omega))
                go_enter Tryd.func35, Tryd.ntmps35
                go_wp2
                go_ret
                exact ⟨by rw [H.out]; rfl, hb⟩
              · skip
                by_cases h8 : raw < 1
                · have H := Lib.hid (show hdrOk id sa n bs raw ro ta = false from decide_eq_false (by omega))
                  go_enter Tryd.func35, Tryd.ntmps35
                  go_wp2
                  go_ret
                  exact ⟨by rw [H.out]; rfl, hb⟩
                · skip
                  by_cases h9 : 134217728 < raw
                  · have H := Lib.hid (show hdrOk id sa n bs raw ro ta = false from decide_eq_false (by omega))
                    go_enter Tryd.func35, Tryd.ntmps35
                    go_wp2
                    go_ret
                    exact ⟨by rw [H.out]; rfl, hb⟩
                  · skip
                    by_cases h10 : 0 < bs % 192
                    · have hq : (n == bs / 192 + 1) = hdrOk id sa n bs raw ro ta := by
                        unfold hdrOk
                        rw [Bool.eq_iff_iff, decide_eq_true_eq, beq_iff_eq]
                        constructor
                        · intro hn; refine ⟨by omega, by omega, by omega, by omega, by omega, by omega, by omega, by omega, by omega, by omega⟩
                        · rintro ⟨_, _, _, _, _, _, _, hn, _, _⟩; omega
                      have H := Lib.hid hq
                      clear hq
                      go_enter Tryd.func35, Tryd.ntmps35
                      go_wp2
                      go_ret
                      exact ⟨by rw [← H.out]; rfl, hb⟩
                    · have hq : (n == bs / 192) = hdrOk id sa n bs raw ro ta := by
                        unfold hdrOk
                        rw [Bool.eq_iff_iff, decide_eq_true_eq, beq_iff_eq]
                        constructor
                        · intro hn; refine ⟨by omega, by omega, by omega, by omega, by omega, by omega, by omega, by omega, by omega, by omega⟩
                        · rintro ⟨_, _, _, _, _, _, _, hn, _, _⟩; omega
                      have H := Lib.hid hq
                      clear hq
                      go_enter Tryd.func35, Tryd.ntmps35
                      go_wp2
                      go_ret
                      exact ⟨by rw [← H.out]; rfl, hb⟩
end Go.Proofs.YtachmdfabnigpaaDoor
