/-
  An entry of a catalog: may it be, its bytes (catalog.Check, Put; the reference's Put).
-/
import Derived.Test.YtachmdfabnigpaaDoorJMay
namespace Go.Proofs.YtachmdfabnigpaaDoor
open Go.RowKit

theorem hcheck_c (id : Int) (sa : ByteArray) (n bs raw : Int) (ro ta : ByteArray) (k : Int) (h : okE (hdrOk id sa n bs raw ro ta) = k) (w : World) :
    Calls Tryd.prog 34 #[.agg #[.int .i64 id, .string sa, .int .i64 n, .int .i64 bs, .int .i64 raw, .string ro, .string ta]] w fun e w' => e = .returned (.int .i64 k) ∧ Below w.heap.size w w' := by subst h; exact hcheck_any id sa n bs raw ro ta w
set_option maxRecDepth 20000 in
set_option maxHeartbeats 2000000 in
theorem ccheck_any (id : Int) (sa : ByteArray) (n bs raw : Int) (ro ta : ByteArray) (ba : Int) (b : Bool) (k : Int) (hkb : extOk id sa n bs raw ro ta ba = b) (hk : okE b = k) (w : World) :
    Calls Tryd.prog 15 #[.agg #[.int .i64 id, .string sa, .int .i64 n, .int .i64 bs, .int .i64 raw, .string ro, .string ta, .int .i64 ba]] w fun e w' => e = .returned (.int .i64 k) ∧ Below w.heap.size w w' := by
  have Hkb := Lib.hid hkb
  have Hk := Lib.hid hk
  clear hkb hk
  have hb := (Below.refl w.heap.size w).alloc (Nat.le_refl _) (.cells #[.int .i64 id, .string sa, .int .i64 n, .int .i64 bs, .int .i64 raw, .string ro, .string ta, .int .i64 ba] 25)
  have hR : ExtAt (w.alloc (.cells #[.int .i64 id, .string sa, .int .i64 n, .int .i64 bs, .int .i64 raw, .string ro, .string ta, .int .i64 ba] 25)) w.heap.size id sa n bs raw ro ta ba := Bk.new _ _ _
  cases hk : hdrOk id sa n bs raw ro ta with
  | false =>
    have H := Lib.hid (show k = 1 by rw [← Hk.out, ← Hkb.out]; unfold extOk; rw [hk]; rfl)
    have HK := Lib.hid (show okE (hdrOk id sa n bs raw ro ta) = 1 by rw [hk]; rfl)
    clear hk
    go_enter Tryd.func15, Tryd.ntmps15
    go_wp2_with fail
    (with_reducible refine (hcheck_c id sa n bs raw ro ta 1 HK.out _).mono ?_)
    rintro e w3 ⟨rfl, hb3⟩
    go_wp2_with fail
    go_ret
    exact ⟨by rw [H.out]; rfl, bl hb hb3⟩
  | true =>
    have hn : 1 ≤ n ∧ n ≤ 256 := by have := hdrOk_parts hk; omega
    have hw : IntKind.i64.wrap (1024 - n) = 1024 - n := by rw [IntKind.wrap_i64]; omega
    have HQ := Lib.hid hk
    have HK := Lib.hid (show okE (hdrOk id sa n bs raw ro ta) = 0 by rw [hk]; rfl)
    clear hk
    by_cases h1 : ba < 0
    · have H := Lib.hid (show k = 1 by rw [← Hk.out, ← Hkb.out]; unfold extOk; rw [HQ.out, decide_eq_false (p := 0 ≤ ba ∧ ba ≤ 1024 - n) (by omega)]; rfl)
      go_enter Tryd.func15, Tryd.ntmps15
      go_wp2_with fail
      (with_reducible refine (hcheck_c id sa n bs raw ro ta 0 HK.out _).mono ?_)
      rintro e w3 ⟨rfl, hb3⟩
      have hR3 := hR.below' hb3
      obtain ⟨hc0, hc1, hc2, hc3, hc4, hc5, hc6, hc7⟩ := hR3.cells
      go_wp2_with fail
      go_ret
      exact ⟨by rw [H.out]; rfl, bl hb hb3⟩
    · by_cases h2 : 1024 - n < ba
      · have H := Lib.hid (show k = 1 by rw [← Hk.out, ← Hkb.out]; unfold extOk; rw [HQ.out, decide_eq_false (p := 0 ≤ ba ∧ ba ≤ 1024 - n) (by omega)]; rfl)
        go_enter Tryd.func15, Tryd.ntmps15
        go_wp2_with fail
        (with_reducible refine (hcheck_c id sa n bs raw ro ta 0 HK.out _).mono ?_)
        rintro e w3 ⟨rfl, hb3⟩
        have hR3 := hR.below' hb3
        obtain ⟨hc0, hc1, hc2, hc3, hc4, hc5, hc6, hc7⟩ := hR3.cells
        go_wp2_with fail
        go_ret
        exact ⟨by rw [H.out]; rfl, bl hb hb3⟩
      · have H := Lib.hid (show k = 0 by rw [← Hk.out, ← Hkb.out]; unfold extOk; rw [HQ.out, decide_eq_true (p := 0 ≤ ba ∧ ba ≤ 1024 - n) (by omega)]; rfl)
        go_enter Tryd.func15, Tryd.ntmps15
        go_wp2_with fail
        (with_reducible refine (hcheck_c id sa n bs raw ro ta 0 HK.out _).mono ?_)
        rintro e w3 ⟨rfl, hb3⟩
        have hR3 := hR.below' hb3
        obtain ⟨hc0, hc1, hc2, hc3, hc4, hc5, hc6, hc7⟩ := hR3.cells
        go_wp2_with fail
        go_ret
        exact ⟨by rw [H.out]; rfl, bl hb hb3⟩

/-- An entry's bytes. -/
def catS (id : Int) (sa : ByteArray) (n bs raw : Int) (ro ta : ByteArray) (ba : Int) : ByteArray := ⟨#[83, 76, 67, 49]⟩ ++ allS id sa n bs raw ro ta ++ ofL (be ba 2)
theorem extOk_hdr {id : Int} {sa : ByteArray} {n bs raw : Int} {ro ta : ByteArray} {ba : Int} (h : extOk id sa n bs raw ro ta ba = true) : hdrOk id sa n bs raw ro ta = true := by
  unfold extOk at h
  rw [Bool.and_eq_true] at h
  exact h.1
theorem allS_size {id : Int} {sa : ByteArray} {n bs raw : Int} {ro ta : ByteArray} (h : hdrOk id sa n bs raw ro ta = true) : (allS id sa n bs raw ro ta).size = 98 := by
  have hp := of_decide_eq_true h
  unfold allS
  rw [ByteArray.size_append, hdrS_size]
  omega
theorem hput_c (id : Int) (sa : ByteArray) (n bs raw : Int) (ro ta : ByteArray) (c : ByteArray) (hk : hdrOk id sa n bs raw ro ta = true) (hc : allS id sa n bs raw ro ta = c) (w : World) :
    Calls Tryd.prog 22 #[.agg #[.int .i64 id, .string sa, .int .i64 n, .int .i64 bs, .int .i64 raw, .string ro, .string ta]] w fun e w' => e = .returned (.tuple #[.string c, .int .i64 0]) ∧ Below w.heap.size w w' := by subst hc; exact hput_any id sa n bs raw ro ta w hk
theorem jmay_c (id : Int) (sa : ByteArray) (n bs raw : Int) (ro ta : ByteArray) (ba : Int) (b : Bool) (h : extOk id sa n bs raw ro ta ba = b) (w : World) :
    Calls Tryd.prog 19 #[.agg #[.int .i64 id, .string sa, .int .i64 n, .int .i64 bs, .int .i64 raw, .string ro, .string ta, .int .i64 ba]] w fun e w' => e = .returned (.bool b) ∧ Below w.heap.size w w' := by subst h; exact jmay_any id sa n bs raw ro ta ba w

set_option maxRecDepth 20000 in
set_option maxHeartbeats 2000000 in
theorem cput_any (id : Int) (sa : ByteArray) (n bs raw : Int) (ro ta : ByteArray) (ba : Int) (b : Bool) (S : ByteArray) (k : Int) (hkb : extOk id sa n bs raw ro ta ba = b) (hk : okE b = k) (hS : (if b then catS id sa n bs raw ro ta ba else ⟨#[]⟩) = S) (w : World) :
    Calls Tryd.prog 9 #[.agg #[.int .i64 id, .string sa, .int .i64 n, .int .i64 bs, .int .i64 raw, .string ro, .string ta, .int .i64 ba]] w fun e w' => e = .returned (.tuple #[.string S, .int .i64 k]) ∧ Below w.heap.size w w' := by
  have Hkb := Lib.hid hkb
  clear hkb
  have hb := (Below.refl w.heap.size w).alloc (Nat.le_refl _) (.cells #[.int .i64 id, .string sa, .int .i64 n, .int .i64 bs, .int .i64 raw, .string ro, .string ta, .int .i64 ba] 25)
  have hR : ExtAt (w.alloc (.cells #[.int .i64 id, .string sa, .int .i64 n, .int .i64 bs, .int .i64 raw, .string ro, .string ta, .int .i64 ba] 25)) w.heap.size id sa n bs raw ro ta ba := Bk.new _ _ _
  cases b with
  | false =>
    have hk1 : k = 1 := hk.symm
    have hS1 : S = ⟨#[]⟩ := hS.symm
    subst hk1
    subst hS1
    clear hk hS
    go_enter Tryd.func9, Tryd.ntmps9
    go_wp2_with fail
    (with_reducible refine (ccheck_any id sa n bs raw ro ta ba false 1 Hkb.out rfl _).mono ?_)
    rintro e w3 ⟨rfl, hb3⟩
    go_wp2_with fail
    go_ret2
    exact ⟨rfl, bl hb hb3⟩
  | true =>
    have hk1 : k = 0 := hk.symm
    subst hk1
    rw [if_pos rfl] at hS
    obtain ⟨H, hH⟩ : ∃ H, allS id sa n bs raw ro ta = H := ⟨_, rfl⟩
    have hz : H.size = 98 := by rw [← hH]; exact allS_size (extOk_hdr Hkb.out)
    obtain ⟨c1, e1⟩ : ∃ c, (⟨#[83, 76, 67, 49]⟩ : ByteArray) ++ H = c := ⟨_, rfl⟩
    have k1 : c1.size = 102 := by rw [← e1, ByteArray.size_append, hz]; rfl
    have z2 := be2_size ba
    have m1 : ¬ (9223372036854775807 < (⟨#[83, 76, 67, 49]⟩ : ByteArray).size + H.size) := by have : (⟨#[83, 76, 67, 49]⟩ : ByteArray).size = 4 := rfl; omega
    have m1b : ¬ (9223372036854775807 < 4 + H.size) := by omega
    have m2 : ¬ (9223372036854775807 < c1.size + (ofL (be ba 2)).size) := by omega
    have e2 : c1 ++ ofL (be ba 2) = S := by rw [← hS, catS, hH, e1]
    have HH := Lib.hid hH
    clear hH hS k1 z2 hz hk
    go_enter Tryd.func9, Tryd.ntmps9
    go_wp2_with fail
    (with_reducible refine (ccheck_any id sa n bs raw ro ta ba true 0 Hkb.out rfl _).mono ?_)
    rintro e w3 ⟨rfl, hb3⟩
    have hR3 := hR.below' hb3
    have hB3 := bl hb hb3
    clear hR hb hb3
    obtain ⟨g0, g1, g2, g3, g4, g5, g6, g7⟩ := hR3.cells
    go_wp2_with fail
    (with_reducible refine (hput_c id sa n bs raw ro ta H (extOk_hdr Hkb.out) HH.out _).mono ?_)
    rintro e w4 ⟨rfl, hb4⟩
    have hR4 := hR3.below' hb4
    have hB4 := bl hB3 hb4
    clear hR3 hB3 hb4 g0 g1 g2 g3 g4 g5 g6 g7
    obtain ⟨g0, g1, g2, g3, g4, g5, g6, g7⟩ := hR4.cells
    go_wp2_with fail
    (with_reducible refine (fixed2 ba _).mono ?_)
    rintro e w5 ⟨rfl, hb5⟩
    go_wp2_with fail
    go_ret2
    exact ⟨rfl, bl hB4 hb5⟩

end Go.Proofs.YtachmdfabnigpaaDoor
