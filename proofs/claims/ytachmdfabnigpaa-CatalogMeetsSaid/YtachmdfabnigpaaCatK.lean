/-
  The law CatalogMeets: the walk.
-/
import Derived.Test.YtachmdfabnigpaaCatI
import Derived.Test.YtachmdfabnigpaaFrameX
import Derived.Deep.RegionHeld3
namespace Go.Proofs.Ytachmdfabnigpaa
open Go.RowKit

theorem keepc {w w' : World} {p : Addr} {v : Value} (h : w.cell? p = some v) (hb : Below w.heap.size w w') : w'.cell? p = some v := by
  rw [hb.cell (World.block_lt_of_cell? w _ h)]; exact h
theorem two_cells (id : Int) (sa : ByteArray) (n bs raw : Int) (ro ta : ByteArray) (ba : Int) (id2 : Int) (sa2 : ByteArray) (n2 bs2 raw2 : Int) (ro2 ta2 : ByteArray) (ba2 : Int) (w : World) : ((w.alloc (.cells #[.int .i64 id, .string sa, .int .i64 n, .int .i64 bs, .int .i64 raw, .string ro, .string ta, .int .i64 ba] 25)).alloc (.cells #[.int .i64 id2, .string sa2, .int .i64 n2, .int .i64 bs2, .int .i64 raw2, .string ro2, .string ta2, .int .i64 ba2] 25)).cell? ⟨w.heap.size, 0, none⟩ = some (.int .i64 id) ∧ ((w.alloc (.cells #[.int .i64 id, .string sa, .int .i64 n, .int .i64 bs, .int .i64 raw, .string ro, .string ta, .int .i64 ba] 25)).alloc (.cells #[.int .i64 id2, .string sa2, .int .i64 n2, .int .i64 bs2, .int .i64 raw2, .string ro2, .string ta2, .int .i64 ba2] 25)).cell? ⟨w.heap.size, 1, none⟩ = some (.string sa) ∧ ((w.alloc (.cells #[.int .i64 id, .string sa, .int .i64 n, .int .i64 bs, .int .i64 raw, .string ro, .string ta, .int .i64 ba] 25)).alloc (.cells #[.int .i64 id2, .string sa2, .int .i64 n2, .int .i64 bs2, .int .i64 raw2, .string ro2, .string ta2, .int .i64 ba2] 25)).cell? ⟨w.heap.size, 2, none⟩ = some (.int .i64 n) ∧ ((w.alloc (.cells #[.int .i64 id, .string sa, .int .i64 n, .int .i64 bs, .int .i64 raw, .string ro, .string ta, .int .i64 ba] 25)).alloc (.cells #[.int .i64 id2, .string sa2, .int .i64 n2, .int .i64 bs2, .int .i64 raw2, .string ro2, .string ta2, .int .i64 ba2] 25)).cell? ⟨w.heap.size, 3, none⟩ = some (.int .i64 bs) ∧ ((w.alloc (.cells #[.int .i64 id, .string sa, .int .i64 n, .int .i64 bs, .int .i64 raw, .string ro, .string ta, .int .i64 ba] 25)).alloc (.cells #[.int .i64 id2, .string sa2, .int .i64 n2, .int .i64 bs2, .int .i64 raw2, .string ro2, .string ta2, .int .i64 ba2] 25)).cell? ⟨w.heap.size, 4, none⟩ = some (.int .i64 raw) ∧ ((w.alloc (.cells #[.int .i64 id, .string sa, .int .i64 n, .int .i64 bs, .int .i64 raw, .string ro, .string ta, .int .i64 ba] 25)).alloc (.cells #[.int .i64 id2, .string sa2, .int .i64 n2, .int .i64 bs2, .int .i64 raw2, .string ro2, .string ta2, .int .i64 ba2] 25)).cell? ⟨w.heap.size, 5, none⟩ = some (.string ro) ∧ ((w.alloc (.cells #[.int .i64 id, .string sa, .int .i64 n, .int .i64 bs, .int .i64 raw, .string ro, .string ta, .int .i64 ba] 25)).alloc (.cells #[.int .i64 id2, .string sa2, .int .i64 n2, .int .i64 bs2, .int .i64 raw2, .string ro2, .string ta2, .int .i64 ba2] 25)).cell? ⟨w.heap.size, 6, none⟩ = some (.string ta) ∧ ((w.alloc (.cells #[.int .i64 id, .string sa, .int .i64 n, .int .i64 bs, .int .i64 raw, .string ro, .string ta, .int .i64 ba] 25)).alloc (.cells #[.int .i64 id2, .string sa2, .int .i64 n2, .int .i64 bs2, .int .i64 raw2, .string ro2, .string ta2, .int .i64 ba2] 25)).cell? ⟨w.heap.size, 7, none⟩ = some (.int .i64 ba) ∧ ((w.alloc (.cells #[.int .i64 id, .string sa, .int .i64 n, .int .i64 bs, .int .i64 raw, .string ro, .string ta, .int .i64 ba] 25)).alloc (.cells #[.int .i64 id2, .string sa2, .int .i64 n2, .int .i64 bs2, .int .i64 raw2, .string ro2, .string ta2, .int .i64 ba2] 25)).cell? ⟨w.heap.size + 1, 0, none⟩ = some (.int .i64 id2) ∧ ((w.alloc (.cells #[.int .i64 id, .string sa, .int .i64 n, .int .i64 bs, .int .i64 raw, .string ro, .string ta, .int .i64 ba] 25)).alloc (.cells #[.int .i64 id2, .string sa2, .int .i64 n2, .int .i64 bs2, .int .i64 raw2, .string ro2, .string ta2, .int .i64 ba2] 25)).cell? ⟨w.heap.size + 1, 1, none⟩ = some (.string sa2) ∧ ((w.alloc (.cells #[.int .i64 id, .string sa, .int .i64 n, .int .i64 bs, .int .i64 raw, .string ro, .string ta, .int .i64 ba] 25)).alloc (.cells #[.int .i64 id2, .string sa2, .int .i64 n2, .int .i64 bs2, .int .i64 raw2, .string ro2, .string ta2, .int .i64 ba2] 25)).cell? ⟨w.heap.size + 1, 2, none⟩ = some (.int .i64 n2) ∧ ((w.alloc (.cells #[.int .i64 id, .string sa, .int .i64 n, .int .i64 bs, .int .i64 raw, .string ro, .string ta, .int .i64 ba] 25)).alloc (.cells #[.int .i64 id2, .string sa2, .int .i64 n2, .int .i64 bs2, .int .i64 raw2, .string ro2, .string ta2, .int .i64 ba2] 25)).cell? ⟨w.heap.size + 1, 3, none⟩ = some (.int .i64 bs2) ∧ ((w.alloc (.cells #[.int .i64 id, .string sa, .int .i64 n, .int .i64 bs, .int .i64 raw, .string ro, .string ta, .int .i64 ba] 25)).alloc (.cells #[.int .i64 id2, .string sa2, .int .i64 n2, .int .i64 bs2, .int .i64 raw2, .string ro2, .string ta2, .int .i64 ba2] 25)).cell? ⟨w.heap.size + 1, 4, none⟩ = some (.int .i64 raw2) ∧ ((w.alloc (.cells #[.int .i64 id, .string sa, .int .i64 n, .int .i64 bs, .int .i64 raw, .string ro, .string ta, .int .i64 ba] 25)).alloc (.cells #[.int .i64 id2, .string sa2, .int .i64 n2, .int .i64 bs2, .int .i64 raw2, .string ro2, .string ta2, .int .i64 ba2] 25)).cell? ⟨w.heap.size + 1, 5, none⟩ = some (.string ro2) ∧ ((w.alloc (.cells #[.int .i64 id, .string sa, .int .i64 n, .int .i64 bs, .int .i64 raw, .string ro, .string ta, .int .i64 ba] 25)).alloc (.cells #[.int .i64 id2, .string sa2, .int .i64 n2, .int .i64 bs2, .int .i64 raw2, .string ro2, .string ta2, .int .i64 ba2] 25)).cell? ⟨w.heap.size + 1, 6, none⟩ = some (.string ta2) ∧ ((w.alloc (.cells #[.int .i64 id, .string sa, .int .i64 n, .int .i64 bs, .int .i64 raw, .string ro, .string ta, .int .i64 ba] 25)).alloc (.cells #[.int .i64 id2, .string sa2, .int .i64 n2, .int .i64 bs2, .int .i64 raw2, .string ro2, .string ta2, .int .i64 ba2] 25)).cell? ⟨w.heap.size + 1, 7, none⟩ = some (.int .i64 ba2) := by
  have h1 : Bk ((w.alloc (.cells #[.int .i64 id, .string sa, .int .i64 n, .int .i64 bs, .int .i64 raw, .string ro, .string ta, .int .i64 ba] 25)).alloc (.cells #[.int .i64 id2, .string sa2, .int .i64 n2, .int .i64 bs2, .int .i64 raw2, .string ro2, .string ta2, .int .i64 ba2] 25)) w.heap.size 25 #[.int .i64 id, .string sa, .int .i64 n, .int .i64 bs, .int .i64 raw, .string ro, .string ta, .int .i64 ba] := (Bk.new _ _ _).alloc _
  have h2 : Bk ((w.alloc (.cells #[.int .i64 id, .string sa, .int .i64 n, .int .i64 bs, .int .i64 raw, .string ro, .string ta, .int .i64 ba] 25)).alloc (.cells #[.int .i64 id2, .string sa2, .int .i64 n2, .int .i64 bs2, .int .i64 raw2, .string ro2, .string ta2, .int .i64 ba2] 25)) (w.heap.size + 1) 25 #[.int .i64 id2, .string sa2, .int .i64 n2, .int .i64 bs2, .int .i64 raw2, .string ro2, .string ta2, .int .i64 ba2] := by
    have h := Bk.new (w.alloc (.cells #[.int .i64 id, .string sa, .int .i64 n, .int .i64 bs, .int .i64 raw, .string ro, .string ta, .int .i64 ba] 25)) 25 #[.int .i64 id2, .string sa2, .int .i64 n2, .int .i64 bs2, .int .i64 raw2, .string ro2, .string ta2, .int .i64 ba2]
    rw [World.size_alloc] at h
    exact h
  exact ⟨h1.cell 0, h1.cell 1, h1.cell 2, h1.cell 3, h1.cell 4, h1.cell 5, h1.cell 6, h1.cell 7, h2.cell 0, h2.cell 1, h2.cell 2, h2.cell 3, h2.cell 4, h2.cell 5, h2.cell 6, h2.cell 7⟩
theorem keep16 {id : Int} {sa : ByteArray} {n bs raw : Int} {ro ta : ByteArray} {ba : Int} {id2 : Int} {sa2 : ByteArray} {n2 bs2 raw2 : Int} {ro2 ta2 : ByteArray} {ba2 : Int} {w w1 w3 : World} (h : w1.cell? ⟨w.heap.size, 0, none⟩ = some (.int .i64 id) ∧ w1.cell? ⟨w.heap.size, 1, none⟩ = some (.string sa) ∧ w1.cell? ⟨w.heap.size, 2, none⟩ = some (.int .i64 n) ∧ w1.cell? ⟨w.heap.size, 3, none⟩ = some (.int .i64 bs) ∧ w1.cell? ⟨w.heap.size, 4, none⟩ = some (.int .i64 raw) ∧ w1.cell? ⟨w.heap.size, 5, none⟩ = some (.string ro) ∧ w1.cell? ⟨w.heap.size, 6, none⟩ = some (.string ta) ∧ w1.cell? ⟨w.heap.size, 7, none⟩ = some (.int .i64 ba) ∧ w1.cell? ⟨w.heap.size + 1, 0, none⟩ = some (.int .i64 id2) ∧ w1.cell? ⟨w.heap.size + 1, 1, none⟩ = some (.string sa2) ∧ w1.cell? ⟨w.heap.size + 1, 2, none⟩ = some (.int .i64 n2) ∧ w1.cell? ⟨w.heap.size + 1, 3, none⟩ = some (.int .i64 bs2) ∧ w1.cell? ⟨w.heap.size + 1, 4, none⟩ = some (.int .i64 raw2) ∧ w1.cell? ⟨w.heap.size + 1, 5, none⟩ = some (.string ro2) ∧ w1.cell? ⟨w.heap.size + 1, 6, none⟩ = some (.string ta2) ∧ w1.cell? ⟨w.heap.size + 1, 7, none⟩ = some (.int .i64 ba2)) (hb : Below w1.heap.size w1 w3) : w3.cell? ⟨w.heap.size, 0, none⟩ = some (.int .i64 id) ∧ w3.cell? ⟨w.heap.size, 1, none⟩ = some (.string sa) ∧ w3.cell? ⟨w.heap.size, 2, none⟩ = some (.int .i64 n) ∧ w3.cell? ⟨w.heap.size, 3, none⟩ = some (.int .i64 bs) ∧ w3.cell? ⟨w.heap.size, 4, none⟩ = some (.int .i64 raw) ∧ w3.cell? ⟨w.heap.size, 5, none⟩ = some (.string ro) ∧ w3.cell? ⟨w.heap.size, 6, none⟩ = some (.string ta) ∧ w3.cell? ⟨w.heap.size, 7, none⟩ = some (.int .i64 ba) ∧ w3.cell? ⟨w.heap.size + 1, 0, none⟩ = some (.int .i64 id2) ∧ w3.cell? ⟨w.heap.size + 1, 1, none⟩ = some (.string sa2) ∧ w3.cell? ⟨w.heap.size + 1, 2, none⟩ = some (.int .i64 n2) ∧ w3.cell? ⟨w.heap.size + 1, 3, none⟩ = some (.int .i64 bs2) ∧ w3.cell? ⟨w.heap.size + 1, 4, none⟩ = some (.int .i64 raw2) ∧ w3.cell? ⟨w.heap.size + 1, 5, none⟩ = some (.string ro2) ∧ w3.cell? ⟨w.heap.size + 1, 6, none⟩ = some (.string ta2) ∧ w3.cell? ⟨w.heap.size + 1, 7, none⟩ = some (.int .i64 ba2) := by
  obtain ⟨q0, q1, q2, q3, q4, q5, q6, q7, q8, q9, q10, q11, q12, q13, q14, q15⟩ := h
  exact ⟨keepc q0 hb, keepc q1 hb, keepc q2 hb, keepc q3 hb, keepc q4 hb, keepc q5 hb, keepc q6 hb, keepc q7 hb, keepc q8 hb, keepc q9 hb, keepc q10 hb, keepc q11 hb, keepc q12 hb, keepc q13 hb, keepc q14 hb, keepc q15 hb⟩
theorem held16 {id : Int} {sa : ByteArray} {n bs raw : Int} {ro ta : ByteArray} {ba : Int} {id2 : Int} {sa2 : ByteArray} {n2 bs2 raw2 : Int} {ro2 ta2 : ByteArray} {ba2 : Int} {w w1 w2 w3 : World} (hb : Below w2.heap.size w2 w3) (h : Below w1.heap.size w1 w2 ∧ w2.cell? ⟨w.heap.size, 0, none⟩ = some (.int .i64 id) ∧ w2.cell? ⟨w.heap.size, 1, none⟩ = some (.string sa) ∧ w2.cell? ⟨w.heap.size, 2, none⟩ = some (.int .i64 n) ∧ w2.cell? ⟨w.heap.size, 3, none⟩ = some (.int .i64 bs) ∧ w2.cell? ⟨w.heap.size, 4, none⟩ = some (.int .i64 raw) ∧ w2.cell? ⟨w.heap.size, 5, none⟩ = some (.string ro) ∧ w2.cell? ⟨w.heap.size, 6, none⟩ = some (.string ta) ∧ w2.cell? ⟨w.heap.size, 7, none⟩ = some (.int .i64 ba) ∧ w2.cell? ⟨w.heap.size + 1, 0, none⟩ = some (.int .i64 id2) ∧ w2.cell? ⟨w.heap.size + 1, 1, none⟩ = some (.string sa2) ∧ w2.cell? ⟨w.heap.size + 1, 2, none⟩ = some (.int .i64 n2) ∧ w2.cell? ⟨w.heap.size + 1, 3, none⟩ = some (.int .i64 bs2) ∧ w2.cell? ⟨w.heap.size + 1, 4, none⟩ = some (.int .i64 raw2) ∧ w2.cell? ⟨w.heap.size + 1, 5, none⟩ = some (.string ro2) ∧ w2.cell? ⟨w.heap.size + 1, 6, none⟩ = some (.string ta2) ∧ w2.cell? ⟨w.heap.size + 1, 7, none⟩ = some (.int .i64 ba2)) : Below w1.heap.size w1 w3 ∧ w3.cell? ⟨w.heap.size, 0, none⟩ = some (.int .i64 id) ∧ w3.cell? ⟨w.heap.size, 1, none⟩ = some (.string sa) ∧ w3.cell? ⟨w.heap.size, 2, none⟩ = some (.int .i64 n) ∧ w3.cell? ⟨w.heap.size, 3, none⟩ = some (.int .i64 bs) ∧ w3.cell? ⟨w.heap.size, 4, none⟩ = some (.int .i64 raw) ∧ w3.cell? ⟨w.heap.size, 5, none⟩ = some (.string ro) ∧ w3.cell? ⟨w.heap.size, 6, none⟩ = some (.string ta) ∧ w3.cell? ⟨w.heap.size, 7, none⟩ = some (.int .i64 ba) ∧ w3.cell? ⟨w.heap.size + 1, 0, none⟩ = some (.int .i64 id2) ∧ w3.cell? ⟨w.heap.size + 1, 1, none⟩ = some (.string sa2) ∧ w3.cell? ⟨w.heap.size + 1, 2, none⟩ = some (.int .i64 n2) ∧ w3.cell? ⟨w.heap.size + 1, 3, none⟩ = some (.int .i64 bs2) ∧ w3.cell? ⟨w.heap.size + 1, 4, none⟩ = some (.int .i64 raw2) ∧ w3.cell? ⟨w.heap.size + 1, 5, none⟩ = some (.string ro2) ∧ w3.cell? ⟨w.heap.size + 1, 6, none⟩ = some (.string ta2) ∧ w3.cell? ⟨w.heap.size + 1, 7, none⟩ = some (.int .i64 ba2) :=
  ⟨bl h.1 hb, keep16 h.2 hb⟩

set_option maxRecDepth 20000 in
set_option maxHeartbeats 8000000 in
theorem catalogMeets_walk (id : Int) (sa : ByteArray) (n bs raw : Int) (ro ta : ByteArray) (ba : Int) (id2 : Int) (sa2 : ByteArray) (n2 bs2 raw2 : Int) (ro2 ta2 : ByteArray) (ba2 : Int) (w : World) :
    Calls Try.prog 5 #[.agg #[.int .i64 id, .string sa, .int .i64 n, .int .i64 bs, .int .i64 raw, .string ro, .string ta, .int .i64 ba], .agg #[.int .i64 id2, .string sa2, .int .i64 n2, .int .i64 bs2, .int .i64 raw2, .string ro2, .string ta2, .int .i64 ba2]] w (Yes w) := by
  have hb : Below w.heap.size w ((w.alloc (.cells #[.int .i64 id, .string sa, .int .i64 n, .int .i64 bs, .int .i64 raw, .string ro, .string ta, .int .i64 ba] 25)).alloc (.cells #[.int .i64 id2, .string sa2, .int .i64 n2, .int .i64 bs2, .int .i64 raw2, .string ro2, .string ta2, .int .i64 ba2] 25)) := ((Below.refl w.heap.size w).alloc (Nat.le_refl _) _).alloc (by simp) _
  have hC := two_cells id sa n bs raw ro ta ba id2 sa2 n2 bs2 raw2 ro2 ta2 ba2 w
  rcases hk : extOk id sa n bs raw ro ta ba with _ | _
  · have HK := Lib.hid hk
    clear hk
    obtain ⟨q0, q1, q2, q3, q4, q5, q6, q7, q8, q9, q10, q11, q12, q13, q14, q15⟩ := hC
    go_enter Try.func5, Try.ntmps5
    go_wp2_with fail
    (with_reducible refine (jmay_c id sa n bs raw ro ta ba false HK.out _).mono ?_)
    rintro e w1 ⟨rfl, hb1⟩
    clear q0 q1 q2 q3 q4 q5 q6 q7 q8 q9 q10 q11 q12 q13 q14 q15
    go_wp2_with fail
    (with_reducible refine (awake_any _).mono ?_)
    rintro e w2 ⟨rfl, hb2⟩
    go_wp2_with fail
    go_ret
    exact ⟨rfl, bl (bl hb hb1) hb2⟩
  rcases hk2 : extOk id2 sa2 n2 bs2 raw2 ro2 ta2 ba2 with _ | _
  · have HK := Lib.hid hk
    have HK2 := Lib.hid hk2
    clear hk hk2
    have hC1 := hC
    obtain ⟨q0, q1, q2, q3, q4, q5, q6, q7, q8, q9, q10, q11, q12, q13, q14, q15⟩ := hC1
    go_enter Try.func5, Try.ntmps5
    go_wp2_with fail
    (with_reducible refine (jmay_c id sa n bs raw ro ta ba true HK.out _).mono ?_)
    rintro e w1 ⟨rfl, hb1⟩
    have hC2 := keep16 hC hb1
    have hB1 := bl hb hb1
    clear hC hb hb1 q0 q1 q2 q3 q4 q5 q6 q7 q8 q9 q10 q11 q12 q13 q14 q15
    obtain ⟨q0, q1, q2, q3, q4, q5, q6, q7, q8, q9, q10, q11, q12, q13, q14, q15⟩ := hC2
    go_wp2_with fail
    (with_reducible refine (jmay_c id2 sa2 n2 bs2 raw2 ro2 ta2 ba2 false HK2.out _).mono ?_)
    rintro e w2 ⟨rfl, hb1⟩
    have hB2 := bl hB1 hb1
    clear hB1 hb1 q0 q1 q2 q3 q4 q5 q6 q7 q8 q9 q10 q11 q12 q13 q14 q15
    go_wp2_with fail
    (with_reducible refine (awake_any _).mono ?_)
    rintro e w3 ⟨rfl, hb2⟩
    go_wp2_with fail
    go_ret
    exact ⟨rfl, bl hB2 hb2⟩
  · obtain ⟨p1, p2, p3, p4⟩ := extOk_num hk
    obtain ⟨r1, r2, r3, r4⟩ := extOk_num hk2
    have hq1 : ba ≤ 1024 := by omega
    have hq2 : ba2 ≤ 1024 := by omega
    obtain ⟨q, hq⟩ : ∃ q, meetB ba n ba2 n2 = q := ⟨_, rfl⟩
    have HQ := Lib.hid hq
    have HQ2 := Lib.hid (show meetB ba2 n2 ba n = q by rw [meet_sym]; exact hq)
    have HQ3 := Lib.hid (meet_self ba n p1)
    have HK := Lib.hid hk
    have HK2 := Lib.hid hk2
    have hqq : (q == q) = true := by cases q <;> rfl
    clear hk hk2 hq
    have hC1 := hC
    obtain ⟨q0, q1, q2, q3, q4, q5, q6, q7, q8, q9, q10, q11, q12, q13, q14, q15⟩ := hC1
    go_enter Try.func5, Try.ntmps5
    go_wp2_with fail
    (with_reducible refine (jmay_c id sa n bs raw ro ta ba true HK.out _).mono ?_)
    rintro e w1 ⟨rfl, hb1⟩
    have hC2 := keep16 hC hb1
    have hB1 := bl hb hb1
    clear hC hb hb1 q0 q1 q2 q3 q4 q5 q6 q7 q8 q9 q10 q11 q12 q13 q14 q15
    have hC1 := hC2
    obtain ⟨q0, q1, q2, q3, q4, q5, q6, q7, q8, q9, q10, q11, q12, q13, q14, q15⟩ := hC1
    go_wp2_with fail
    (with_reducible refine (jmay_c id2 sa2 n2 bs2 raw2 ro2 ta2 ba2 true HK2.out _).mono ?_)
    rintro e w2 ⟨rfl, hb1⟩
    have hC3 := keep16 hC2 hb1
    have hB2 := bl hB1 hb1
    clear hC2 hB1 hb1 q0 q1 q2 q3 q4 q5 q6 q7 q8 q9 q10 q11 q12 q13 q14 q15
    go_upto_region 3 with (fail)
    have hcw : Below w2.heap.size w2 w2.drew ∧ w2.drew.cell? ⟨w.heap.size, 0, none⟩ = some (.int .i64 id) ∧ w2.drew.cell? ⟨w.heap.size, 1, none⟩ = some (.string sa) ∧ w2.drew.cell? ⟨w.heap.size, 2, none⟩ = some (.int .i64 n) ∧ w2.drew.cell? ⟨w.heap.size, 3, none⟩ = some (.int .i64 bs) ∧ w2.drew.cell? ⟨w.heap.size, 4, none⟩ = some (.int .i64 raw) ∧ w2.drew.cell? ⟨w.heap.size, 5, none⟩ = some (.string ro) ∧ w2.drew.cell? ⟨w.heap.size, 6, none⟩ = some (.string ta) ∧ w2.drew.cell? ⟨w.heap.size, 7, none⟩ = some (.int .i64 ba) ∧ w2.drew.cell? ⟨w.heap.size + 1, 0, none⟩ = some (.int .i64 id2) ∧ w2.drew.cell? ⟨w.heap.size + 1, 1, none⟩ = some (.string sa2) ∧ w2.drew.cell? ⟨w.heap.size + 1, 2, none⟩ = some (.int .i64 n2) ∧ w2.drew.cell? ⟨w.heap.size + 1, 3, none⟩ = some (.int .i64 bs2) ∧ w2.drew.cell? ⟨w.heap.size + 1, 4, none⟩ = some (.int .i64 raw2) ∧ w2.drew.cell? ⟨w.heap.size + 1, 5, none⟩ = some (.string ro2) ∧ w2.drew.cell? ⟨w.heap.size + 1, 6, none⟩ = some (.string ta2) ∧ w2.drew.cell? ⟨w.heap.size + 1, 7, none⟩ = some (.int .i64 ba2) := ⟨(Below.refl _ _).drew, hC3⟩
    clear hC3
    go_region_held3 (fun w' => Below w2.heap.size w2 w' ∧ w'.cell? ⟨w.heap.size, 0, none⟩ = some (.int .i64 id) ∧ w'.cell? ⟨w.heap.size, 1, none⟩ = some (.string sa) ∧ w'.cell? ⟨w.heap.size, 2, none⟩ = some (.int .i64 n) ∧ w'.cell? ⟨w.heap.size, 3, none⟩ = some (.int .i64 bs) ∧ w'.cell? ⟨w.heap.size, 4, none⟩ = some (.int .i64 raw) ∧ w'.cell? ⟨w.heap.size, 5, none⟩ = some (.string ro) ∧ w'.cell? ⟨w.heap.size, 6, none⟩ = some (.string ta) ∧ w'.cell? ⟨w.heap.size, 7, none⟩ = some (.int .i64 ba) ∧ w'.cell? ⟨w.heap.size + 1, 0, none⟩ = some (.int .i64 id2) ∧ w'.cell? ⟨w.heap.size + 1, 1, none⟩ = some (.string sa2) ∧ w'.cell? ⟨w.heap.size + 1, 2, none⟩ = some (.int .i64 n2) ∧ w'.cell? ⟨w.heap.size + 1, 3, none⟩ = some (.int .i64 bs2) ∧ w'.cell? ⟨w.heap.size + 1, 4, none⟩ = some (.int .i64 raw2) ∧ w'.cell? ⟨w.heap.size + 1, 5, none⟩ = some (.string ro2) ∧ w'.cell? ⟨w.heap.size + 1, 6, none⟩ = some (.string ta2) ∧ w'.cell? ⟨w.heap.size + 1, 7, none⟩ = some (.int .i64 ba2)) (first | exact hcw | assumption)
      (first
        | (go_at_call 15; with_reducible refine (meet_any id sa n bs raw ro ta ba id2 sa2 n2 bs2 raw2 ro2 ta2 ba2 q HQ.out p1 p2 p3 hq1 r1 r2 r3 hq2 _).mono ?_; rintro e w3 ⟨rfl, hb3⟩; have hX := held16 hb3 (by assumption))
        | (go_at_call 15; with_reducible refine (meet_any id2 sa2 n2 bs2 raw2 ro2 ta2 ba2 id sa n bs raw ro ta ba q HQ2.out r1 r2 r3 hq2 p1 p2 p3 hq1 _).mono ?_; rintro e w3 ⟨rfl, hb3⟩; have hX := held16 hb3 (by assumption))
        | (go_at_call 15; with_reducible refine (meet_any id sa n bs raw ro ta ba id sa n bs raw ro ta ba true HQ3.out p1 p2 p3 hq1 p1 p2 p3 hq1 _).mono ?_; rintro e w3 ⟨rfl, hb3⟩; have hX := held16 hb3 (by assumption))
        | (go_at_call 16; with_reducible refine (meetR_any id sa n bs raw ro ta ba id2 sa2 n2 bs2 raw2 ro2 ta2 ba2 q HQ.out p1 p2 p3 hq1 r1 r2 r3 hq2 _).mono ?_; rintro e w3 ⟨rfl, hb3⟩; have hX := held16 hb3 (by assumption))
        | (go_at_call 7; with_reducible refine (awake_any _).mono ?_; rintro e w3 ⟨rfl, hb3⟩; have hX := held16 hb3 (by assumption)))
    all_goals
      go_wp2_with fail
      go_ret
      exact ⟨rfl, bl hB2 (And.left (by assumption))⟩
end Go.Proofs.Ytachmdfabnigpaa
