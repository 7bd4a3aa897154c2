/-
  The law CatalogPuts: the walk.
-/
import Derived.Test.YtachmdfabnigpaaCatI
import Derived.Test.YtachmdfabnigpaaFrameX
namespace Go.Proofs.Ytachmdfabnigpaa
open Go.RowKit

theorem light_is (id : Int) (sa : ByteArray) (n bs raw : Int) (ro ta : ByteArray) (ba : Int) (b : Bool) (h : lightB sa ro ta = b) (w : World) :
    Calls Try.prog 6 #[.agg #[.int .i64 id, .string sa, .int .i64 n, .int .i64 bs, .int .i64 raw, .string ro, .string ta, .int .i64 ba]] w fun e w' => e = .returned (.bool b) ∧ Below w.heap.size w w' := by subst h; exact light_any id sa n bs raw ro ta ba w

set_option maxRecDepth 20000 in
set_option maxHeartbeats 4000000 in
theorem catalogPuts_walk (id : Int) (sa : ByteArray) (n bs raw : Int) (ro ta : ByteArray) (ba : Int) (w : World) :
    Calls Try.prog 3 #[.agg #[.int .i64 id, .string sa, .int .i64 n, .int .i64 bs, .int .i64 raw, .string ro, .string ta, .int .i64 ba]] w (Yes w) := by
  have hb := (Below.refl w.heap.size w).alloc (Nat.le_refl _) (.cells #[.int .i64 id, .string sa, .int .i64 n, .int .i64 bs, .int .i64 raw, .string ro, .string ta, .int .i64 ba] 25)
  have hE : ExtAt (w.alloc (.cells #[.int .i64 id, .string sa, .int .i64 n, .int .i64 bs, .int .i64 raw, .string ro, .string ta, .int .i64 ba] 25)) w.heap.size id sa n bs raw ro ta ba := Bk.new _ _ _
  cases hl : lightB sa ro ta with
  | false =>
    have HL := Lib.hid hl
    clear hl
    go_enter Try.func3, Try.ntmps3
    go_wp2_with fail
    (with_reducible refine (light_is id sa n bs raw ro ta ba false HL.out _).mono ?_)
    rintro e w1 ⟨rfl, hb1⟩
    go_wp2_with fail
    (with_reducible refine (awake_any _).mono ?_)
    rintro e w2 ⟨rfl, hb2⟩
    go_wp2_with fail
    go_ret
    exact ⟨rfl, bl (bl hb hb1) hb2⟩
  | true =>
    have HL := Lib.hid hl
    clear hl
    obtain ⟨b, hkb⟩ : ∃ b, extOk id sa n bs raw ro ta ba = b := ⟨_, rfl⟩
    obtain ⟨k, hk⟩ : ∃ k, okE b = k := ⟨_, rfl⟩
    obtain ⟨S, hS⟩ : ∃ S, (if b then catS id sa n bs raw ro ta ba else ⟨#[]⟩) = S := ⟨_, rfl⟩
    have Hkb := Lib.hid hkb
    have Hk := Lib.hid hk
    have HS := Lib.hid hS
    clear hkb hk hS
    go_enter Try.func3, Try.ntmps3
    go_wp2_with fail
    (with_reducible refine (light_is id sa n bs raw ro ta ba true HL.out _).mono ?_)
    rintro e w1 ⟨rfl, hb1⟩
    have hE1 := hE.below' hb1
    have hB1 := bl hb hb1
    clear hE hb hb1
    obtain ⟨hc0, hc1, hc2, hc3, hc4, hc5, hc6, hc7⟩ := hE1.cells
    go_wp2_with fail
    (with_reducible refine (cput_any id sa n bs raw ro ta ba b S k Hkb.out Hk.out HS.out _).mono ?_)
    rintro e w2 ⟨rfl, hb1⟩
    have hE2 := hE1.below' hb1
    have hB2 := bl hB1 hb1
    clear hE1 hB1 hb1 hc0 hc1 hc2 hc3 hc4 hc5 hc6 hc7
    obtain ⟨hc0, hc1, hc2, hc3, hc4, hc5, hc6, hc7⟩ := hE2.cells
    go_wp2_with fail
    (with_reducible refine (cputR_any id sa n bs raw ro ta ba b S k Hkb.out Hk.out HS.out _).mono ?_)
    rintro e w3 ⟨rfl, hb1⟩
    have hE3 := hE2.below' hb1
    have hB3 := bl hB2 hb1
    clear hE2 hB2 hb1 hc0 hc1 hc2 hc3 hc4 hc5 hc6 hc7
    obtain ⟨hc0, hc1, hc2, hc3, hc4, hc5, hc6, hc7⟩ := hE3.cells
    go_wp2_with fail
    (with_reducible refine (ccheck_any id sa n bs raw ro ta ba b k Hkb.out Hk.out _).mono ?_)
    rintro e w4 ⟨rfl, hb1⟩
    have hB4 := bl hB3 hb1
    clear hE3 hB3 hb1 hc0 hc1 hc2 hc3 hc4 hc5 hc6 hc7
    go_wp2_with fail
    (with_reducible refine (awake_any _).mono ?_)
    rintro e w5 ⟨rfl, hb1⟩
    go_wp2_with fail
    go_ret
    exact ⟨rfl, bl hB4 hb1⟩
end Go.Proofs.Ytachmdfabnigpaa
