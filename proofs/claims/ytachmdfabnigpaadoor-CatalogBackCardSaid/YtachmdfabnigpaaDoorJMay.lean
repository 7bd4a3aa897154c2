/-
  May a place be? The reference's May of an api.Extent.
-/
import Derived.Test.YtachmdfabnigpaaDoorJoD
namespace Go.Proofs.YtachmdfabnigpaaDoor
open Go.RowKit

def ExtAt (w : World) (g : Nat) (id : Int) (sa : ByteArray) (n bs raw : Int) (ro ta : ByteArray) (ba : Int) : Prop := Bk w g 25 #[.int .i64 id, .string sa, .int .i64 n, .int .i64 bs, .int .i64 raw, .string ro, .string ta, .int .i64 ba]
theorem ExtAt.cells {w : World} {g : Nat} {id : Int} {sa : ByteArray} {n bs raw : Int} {ro ta : ByteArray} {ba : Int} (h : ExtAt w g id sa n bs raw ro ta ba) : w.cell? ⟨g, 0, none⟩ = some (.int .i64 id) ∧ w.cell? ⟨g, 1, none⟩ = some (.string sa) ∧ w.cell? ⟨g, 2, none⟩ = some (.int .i64 n) ∧ w.cell? ⟨g, 3, none⟩ = some (.int .i64 bs) ∧ w.cell? ⟨g, 4, none⟩ = some (.int .i64 raw) ∧ w.cell? ⟨g, 5, none⟩ = some (.string ro) ∧ w.cell? ⟨g, 6, none⟩ = some (.string ta) ∧ w.cell? ⟨g, 7, none⟩ = some (.int .i64 ba) := ⟨Bk.cell h 0, Bk.cell h 1, Bk.cell h 2, Bk.cell h 3, Bk.cell h 4, Bk.cell h 5, Bk.cell h 6, Bk.cell h 7⟩
theorem ExtAt.below' {w w' : World} {g : Nat} {id : Int} {sa : ByteArray} {n bs raw : Int} {ro ta : ByteArray} {ba : Int} (h : ExtAt w g id sa n bs raw ro ta ba) (hb : Below w.heap.size w w') : ExtAt w' g id sa n bs raw ro ta ba := Bk.below' h hb
/-- May a place be? -/
def extOk (id : Int) (sa : ByteArray) (n bs raw : Int) (ro ta : ByteArray) (ba : Int) : Bool := hdrOk id sa n bs raw ro ta && decide (0 ≤ ba ∧ ba ≤ 1024 - n)

set_option maxRecDepth 20000 in
set_option maxHeartbeats 2000000 in
theorem jmay_any (id : Int) (sa : ByteArray) (n bs raw : Int) (ro ta : ByteArray) (ba : Int) (w : World) :
    Calls Tryd.prog 19 #[.agg #[.int .i64 id, .string sa, .int .i64 n, .int .i64 bs, .int .i64 raw, .string ro, .string ta, .int .i64 ba]] w fun e w' => e = .returned (.bool (extOk id sa n bs raw ro ta ba)) ∧ Below w.heap.size w w' := by
  have hb := (Below.refl w.heap.size w).alloc (Nat.le_refl _) (.cells #[.int .i64 id, .string sa, .int .i64 n, .int .i64 bs, .int .i64 raw, .string ro, .string ta, .int .i64 ba] 25)
  have hR : ExtAt (w.alloc (.cells #[.int .i64 id, .string sa, .int .i64 n, .int .i64 bs, .int .i64 raw, .string ro, .string ta, .int .i64 ba] 25)) w.heap.size id sa n bs raw ro ta ba := Bk.new _ _ _
  cases hk : hdrOk id sa n bs raw ro ta with
  | false =>
    have H := Lib.hid (show extOk id sa n bs raw ro ta ba = false by unfold extOk; rw [hk]; rfl)
    have HK := Lib.hid hk
    clear hk
    go_enter Tryd.func19, Tryd.ntmps19
    go_wp2_with fail
    with_reducible refine (hmay_agg id sa n bs raw ro ta false HK.out _).mono ?_
    rintro e w3 ⟨rfl, hb3⟩
    go_wp2_with fail
    go_ret
    exact ⟨by rw [H.out]; rfl, bl hb hb3⟩
  | true =>
    have hn : 1 ≤ n ∧ n ≤ 256 := by have := hdrOk_parts hk; omega
    have hw : IntKind.i64.wrap (1024 - n) = 1024 - n := by rw [IntKind.wrap_i64]; omega
    have HK := Lib.hid hk
    clear hk
    by_cases h1 : ba < 0
    · have H := Lib.hid (show extOk id sa n bs raw ro ta ba = false by unfold extOk; rw [HK.out, decide_eq_false (p := 0 ≤ ba ∧ ba ≤ 1024 - n) (by omega)]; rfl)
      go_enter Tryd.func19, Tryd.ntmps19
      go_wp2_with fail
      with_reducible refine (hmay_agg id sa n bs raw ro ta true HK.out _).mono ?_
      rintro e w3 ⟨rfl, hb3⟩
      have hR3 := hR.below' hb3
      obtain ⟨hc0, hc1, hc2, hc3, hc4, hc5, hc6, hc7⟩ := hR3.cells
      go_wp2_with fail
      go_ret
      exact ⟨by rw [H.out]; rfl, bl hb hb3⟩
    · by_cases h2 : 1024 - n < ba
      · have H := Lib.hid (show extOk id sa n bs raw ro ta ba = decide (ba ≤ 1024 - n) by unfold extOk; rw [HK.out, decide_eq_false (p := 0 ≤ ba ∧ ba ≤ 1024 - n) (by omega), decide_eq_false (p := ba ≤ 1024 - n) (by omega)]; rfl)
        go_enter Tryd.func19, Tryd.ntmps19
        go_wp2_with fail
        with_reducible refine (hmay_agg id sa n bs raw ro ta true HK.out _).mono ?_
        rintro e w3 ⟨rfl, hb3⟩
        have hR3 := hR.below' hb3
        obtain ⟨hc0, hc1, hc2, hc3, hc4, hc5, hc6, hc7⟩ := hR3.cells
        go_wp2_with fail
        go_ret
        exact ⟨by rw [H.out]; rfl, bl hb hb3⟩
      · have H := Lib.hid (show extOk id sa n bs raw ro ta ba = true by unfold extOk; rw [HK.out, decide_eq_true (p := 0 ≤ ba ∧ ba ≤ 1024 - n) (by omega)]; rfl)
        go_enter Tryd.func19, Tryd.ntmps19
        go_wp2_with fail
        with_reducible refine (hmay_agg id sa n bs raw ro ta true HK.out _).mono ?_
        rintro e w3 ⟨rfl, hb3⟩
        have hR3 := hR.below' hb3
        obtain ⟨hc0, hc1, hc2, hc3, hc4, hc5, hc6, hc7⟩ := hR3.cells
        go_wp2_with fail
        go_ret
        exact ⟨by rw [H.out]; rfl, bl hb hb3⟩
end Go.Proofs.YtachmdfabnigpaaDoor
