/-
  The law JournalPuts: the walk.
-/
import Derived.Test.YtaagdoaeefhleaaJoH
import Derived.Test.YtaagdoaeefhleaaFrameX
namespace Go.Proofs.Ytaagdoaeefhleaa
open Go.RowKit

theorem light_is (id : Int) (sa : ByteArray) (n bs raw : Int) (ro ta : ByteArray) (ba : Int) (b : Bool) (h : lightB sa ro ta = b) (w : World) :
    Calls Try.prog 4 #[.agg #[.int .i64 id, .string sa, .int .i64 n, .int .i64 bs, .int .i64 raw, .string ro, .string ta, .int .i64 ba]] w fun e w' => e = .returned (.bool b) ∧ Below w.heap.size w w' := by subst h; exact light_any id sa n bs raw ro ta ba w

set_option maxRecDepth 20000 in
set_option maxHeartbeats 4000000 in
theorem journalPuts_walk (id : Int) (sa : ByteArray) (n bs raw : Int) (ro ta : ByteArray) (ba : Int) (m : Int) (A : Option Addr) (a ca : Nat) (xs : List Int) (w : World)
    (_l : -9223372036854775808 ≤ m) (_u : m ≤ 9223372036854775807) (hx : xs.length = a) (hr : Rd w A (xs.map (Value.int .i64))) (_ha : a ≤ ca) (hca : ca * 8 ≤ 140737488351232) :
    Calls Try.prog 3 #[.agg #[.int .i64 id, .string sa, .int .i64 n, .int .i64 bs, .int .i64 raw, .string ro, .string ta, .int .i64 ba], .int .i64 m, .slice A a ca] w (Yes w) := by
  have Hx := Lib.hid hx
  clear hx
  have hb := (Below.refl w.heap.size w).alloc (Nat.le_refl _) (.cells #[.int .i64 id, .string sa, .int .i64 n, .int .i64 bs, .int .i64 raw, .string ro, .string ta, .int .i64 ba] 25)
  have hE : ExtAt (w.alloc (.cells #[.int .i64 id, .string sa, .int .i64 n, .int .i64 bs, .int .i64 raw, .string ro, .string ta, .int .i64 ba] 25)) w.heap.size id sa n bs raw ro ta ba := Bk.new _ _ _
  have hr0 := hr.below hb
  cases hl : lightB sa ro ta with
  | false =>
    have HL := Lib.hid hl
    clear hl
    go_enter Try.func3, Try.ntmps3
    go_wp2_with fail
    with_reducible refine (light_is id sa n bs raw ro ta ba false HL.out _).mono ?_
    rintro e w1 ⟨rfl, hb1⟩
    go_wp2_with fail
    refine (awakeJ_any _).mono ?_
    rintro e w2 ⟨rfl, hb2⟩
    go_wp2_with fail
    go_ret
    exact ⟨rfl, bl (bl hb hb1) hb2⟩
  | true =>
    have HL := Lib.hid hl
    clear hl
    go_enter Try.func3, Try.ntmps3
    go_wp2_with fail
    with_reducible refine (light_is id sa n bs raw ro ta ba true HL.out _).mono ?_
    rintro e w1 ⟨rfl, hb1⟩
    have hE1 := hE.below' hb1
    have hB1 := bl hb hb1
    have hr1 := hr0.below hb1
    clear hE hb hb1 hr0 hr
    go_wp2_with fail
    refine (of_any m _ _ _ xs _ Hx.out hr1 (by omega)).mono ?_
    have hL : (ofB m xs).length ≤ 256 := by rw [ofB_length]; exact clampB_le m
    generalize ofB m xs = L at hL ⊢
    rintro e w2 ⟨A2, c2, rfl, hn2, hm2, hr2, hb2⟩
    have hE2 := hE1.below' hb2
    have hB2 := bl hB1 hb2
    clear hE1 hB1 hb2 hr1
    have hbs := (Below.refl w2.heap.size w2).alloc (Nat.le_refl _) (.cells #[.int .i64 (L.length : Nat), .int .u64 (wdN L 0 : Nat), .int .u64 (wdN L 1 : Nat), .int .u64 (wdN L 2 : Nat), .int .u64 (wdN L 3 : Nat)] 32)
    have hbr := ((Below.refl w2.heap.size w2).alloc (Nat.le_refl _) (.cells #[.int .i64 (L.length : Nat), .int .u64 (wdN L 0 : Nat), .int .u64 (wdN L 1 : Nat), .int .u64 (wdN L 2 : Nat), .int .u64 (wdN L 3 : Nat)] 32)).alloc (by simp) (.cells #[.int .i64 id, .string sa, .int .i64 n, .int .i64 bs, .int .i64 raw, .string ro, .string ta, .int .i64 ba, .int .i64 (L.length : Nat), .int .u64 (wdN L 0 : Nat), .int .u64 (wdN L 1 : Nat), .int .u64 (wdN L 2 : Nat), .int .u64 (wdN L 3 : Nat)] 37)
    have hS2 : SetAt (w2.alloc (.cells #[.int .i64 (L.length : Nat), .int .u64 (wdN L 0 : Nat), .int .u64 (wdN L 1 : Nat), .int .u64 (wdN L 2 : Nat), .int .u64 (wdN L 3 : Nat)] 32)) w2.heap.size L := SetAt.new w2 L
    obtain ⟨g0, g1, g2, g3, g4⟩ := hS2.cells
    obtain ⟨hc0, hc1, hc2, hc3, hc4, hc5, hc6, hc7⟩ := (hE2.below' hbs).cells
    have hR : RecAt ((w2.alloc (.cells #[.int .i64 (L.length : Nat), .int .u64 (wdN L 0 : Nat), .int .u64 (wdN L 1 : Nat), .int .u64 (wdN L 2 : Nat), .int .u64 (wdN L 3 : Nat)] 32)).alloc (.cells #[.int .i64 id, .string sa, .int .i64 n, .int .i64 bs, .int .i64 raw, .string ro, .string ta, .int .i64 ba, .int .i64 (L.length : Nat), .int .u64 (wdN L 0 : Nat), .int .u64 (wdN L 1 : Nat), .int .u64 (wdN L 2 : Nat), .int .u64 (wdN L 3 : Nat)] 37)) (w2.heap.size + 1) id sa n bs raw ro ta ba L := by
      have h : Bk ((w2.alloc (.cells #[.int .i64 (L.length : Nat), .int .u64 (wdN L 0 : Nat), .int .u64 (wdN L 1 : Nat), .int .u64 (wdN L 2 : Nat), .int .u64 (wdN L 3 : Nat)] 32)).alloc (.cells #[.int .i64 id, .string sa, .int .i64 n, .int .i64 bs, .int .i64 raw, .string ro, .string ta, .int .i64 ba, .int .i64 (L.length : Nat), .int .u64 (wdN L 0 : Nat), .int .u64 (wdN L 1 : Nat), .int .u64 (wdN L 2 : Nat), .int .u64 (wdN L 3 : Nat)] 37)) (w2.alloc (.cells #[.int .i64 (L.length : Nat), .int .u64 (wdN L 0 : Nat), .int .u64 (wdN L 1 : Nat), .int .u64 (wdN L 2 : Nat), .int .u64 (wdN L 3 : Nat)] 32)).heap.size 37 #[.int .i64 id, .string sa, .int .i64 n, .int .i64 bs, .int .i64 raw, .string ro, .string ta, .int .i64 ba, .int .i64 (L.length : Nat), .int .u64 (wdN L 0 : Nat), .int .u64 (wdN L 1 : Nat), .int .u64 (wdN L 2 : Nat), .int .u64 (wdN L 3 : Nat)] := Bk.new _ _ _
      rw [show (w2.alloc (.cells #[.int .i64 (L.length : Nat), .int .u64 (wdN L 0 : Nat), .int .u64 (wdN L 1 : Nat), .int .u64 (wdN L 2 : Nat), .int .u64 (wdN L 3 : Nat)] 32)).heap.size = w2.heap.size + 1 from by simp] at h
      exact h
    have hE3 := hE2.below' hbr
    have hB3 := bl hB2 hbr
    have hr3 := hr2.below hbr
    obtain ⟨s, hs⟩ : ∃ s, jS id sa n bs raw ro ta ba L = s := ⟨_, rfl⟩
    obtain ⟨k, hk⟩ : ∃ k, okE (recOk id sa n bs raw ro ta ba L) = k := ⟨_, rfl⟩
    have HS := Lib.hid hs
    have HK := Lib.hid hk
    have hN256 : L.length ≤ 256 := hL
    clear hs hk hE2 hbs hbr hS2 hr2 hB2 hL hn2 hm2
    unfold setV
    go_wp2_with fail
    with_reducible refine (jput_is id sa n bs raw ro ta ba L s k HS.out HK.out _).mono ?_
    rintro e w4 ⟨rfl, hb4⟩
    have hR4 := hR.below' hb4
    have hE4 := hE3.below' hb4
    have hB4 := bl hB3 hb4
    have hr4 := hr3.below hb4
    clear hR hE3 hB3 hr3 hb4 hc0 hc1 hc2 hc3 hc4 hc5 hc6 hc7 g0 g1 g2 g3 g4
    obtain ⟨hc0, hc1, hc2, hc3, hc4, hc5, hc6, hc7⟩ := hE4.cells
    go_wp2_with fail
    with_reducible refine (jputRef_is id sa n bs raw ro ta ba A2 L.length c2 L s k HS.out HK.out _ rfl hN256 hr4).mono ?_
    rintro e w5 ⟨rfl, hb5⟩
    have hR5 := hR4.below' hb5
    have hB5 := bl hB4 hb5
    clear hE4 hr4 hb5 hR4 hB4 hc0 hc1 hc2 hc3 hc4 hc5 hc6 hc7
    obtain ⟨hd0, hd1, hd2, hd3, hd4, hd5, hd6, hd7, hd8, hd9, hd10, hd11, hd12⟩ := hR5.cells
    go_wp2_with fail
    with_reducible refine (jcheck_is id sa n bs raw ro ta ba L k HK.out _).mono ?_
    rintro e w6 ⟨rfl, hb6⟩
    have hB6 := bl hB5 hb6
    clear hd0 hd1 hd2 hd3 hd4 hd5 hd6 hd7 hd8 hd9 hd10 hd11 hd12
    go_wp2_with fail
    refine (awakeJ_any _).mono ?_
    rintro e w7 ⟨rfl, hb7⟩
    go_wp2_with fail
    go_ret
    exact ⟨rfl, bl hB6 hb7⟩
end Go.Proofs.Ytaagdoaeefhleaa
