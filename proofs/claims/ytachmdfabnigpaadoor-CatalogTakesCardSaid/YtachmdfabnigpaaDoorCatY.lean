/-
  The law CatalogTakes: the walk.
-/
import Derived.Test.YtachmdfabnigpaaDoorCatX
namespace Go.Proofs.YtachmdfabnigpaaDoor
open Go.RowKit

set_option maxRecDepth 20000 in
set_option maxHeartbeats 8000000 in
theorem catalogTakes_in (c : ByteArray) (hc : c.size ≤ 1000) (s : ByteArray) (w : World) (hs : (1000 < s.size ∧ s.extract 0 1000 = c) ∨ (s.size ≤ 1000 ∧ s = c)) :
    Calls Tryd.prog 3 #[.string s] w (Yes w) := by
  obtain ⟨id, sa, n, bs, raw, ro, ta, ba, k, H1, H2⟩ := take_both c hc
  have HX := Lib.hid H1
  have HY := Lib.hid H2
  clear H1 H2
  have hi : (((1000 : Int) < (s.size : Int)) ∧ s.extract 0 1000 = c) ∨ (¬ ((1000 : Int) < (s.size : Int)) ∧ s = c) := hs.imp (fun h => ⟨by omega, h.2⟩) (fun h => ⟨by omega, h.2⟩)
  clear hs
  rcases hi with ⟨h1, h2⟩ | ⟨h1, rfl⟩
  all_goals
    go_enter Tryd.func3, Tryd.ntmps3
    go_wp2_with fail
    (with_reducible refine (HX.out _).mono ?_)
    rintro e w1 ⟨rfl, hb1⟩
    have hX := Bk.new w1 25 #[.int .i64 id, .string sa, .int .i64 n, .int .i64 bs, .int .i64 raw, .string ro, .string ta, .int .i64 ba]
    have hb2 := hb1.alloc hb1.size (.cells #[.int .i64 id, .string sa, .int .i64 n, .int .i64 bs, .int .i64 raw, .string ro, .string ta, .int .i64 ba] 25)
    clear hb1
    go_wp2_with fail
    (with_reducible refine (HY.out _).mono ?_)
    rintro e w2 ⟨rfl, hb1⟩
    have hX2 := (hX.below' hb1).alloc (.cells #[.int .i64 id, .string sa, .int .i64 n, .int .i64 bs, .int .i64 raw, .string ro, .string ta, .int .i64 ba] 25)
    have hY := Bk.new w2 25 #[.int .i64 id, .string sa, .int .i64 n, .int .i64 bs, .int .i64 raw, .string ro, .string ta, .int .i64 ba]
    have hb3 := (bl hb2 hb1).alloc (bl hb2 hb1).size (.cells #[.int .i64 id, .string sa, .int .i64 n, .int .i64 bs, .int .i64 raw, .string ro, .string ta, .int .i64 ba] 25)
    clear hX hb2 hb1
    have q0 := hX2.cell 0
    have q1 := hX2.cell 1
    have q2 := hX2.cell 2
    have q3 := hX2.cell 3
    have q4 := hX2.cell 4
    have q5 := hX2.cell 5
    have q6 := hX2.cell 6
    have q7 := hX2.cell 7
    simp only [List.getElem?_toArray, List.getElem?_cons_succ, List.getElem?_cons_zero] at q0 q1 q2 q3 q4 q5 q6 q7
    have p0 := hY.cell 0
    have p1 := hY.cell 1
    have p2 := hY.cell 2
    have p3 := hY.cell 3
    have p4 := hY.cell 4
    have p5 := hY.cell 5
    have p6 := hY.cell 6
    have p7 := hY.cell 7
    simp only [List.getElem?_toArray, List.getElem?_cons_succ, List.getElem?_cons_zero] at p0 p1 p2 p3 p4 p5 p6 p7
    go_wp2_with fail
    (with_reducible refine (awake_any _).mono ?_)
    rintro e w3 ⟨rfl, hb1⟩
    go_wp2_with fail
    go_ret
    exact ⟨rfl, bl hb3 hb1⟩
theorem catalogTakes_walk (s : ByteArray) (w : World) (_hs : s.size ≤ 140737488351232) : Calls Tryd.prog 3 #[.string s] w (Yes w) := by
  by_cases h : 1000 < s.size
  · exact catalogTakes_in (s.extract 0 1000) (by rw [← size_toList, toList_ext, List.length_take]; omega) s w (.inl ⟨h, rfl⟩)
  · exact catalogTakes_in s (by omega) s w (.inr ⟨by omega, rfl⟩)
end Go.Proofs.YtachmdfabnigpaaDoor
