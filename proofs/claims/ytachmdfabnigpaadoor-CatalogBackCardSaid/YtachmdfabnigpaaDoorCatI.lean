/-
  Chapter 24's example (awake): the walk.
-/
import Derived.Test.YtachmdfabnigpaaDoorCatH
namespace Go.Proofs.YtachmdfabnigpaaDoor
open Go.RowKit Go.Sort

theorem rd2 (w : World) : Rd (w.alloc (.cells #[.int .i64 1, .string (zs 16), .int .i64 3, .int .i64 576, .int .i64 9, .string (zs 32), .string (zs 32), .int .i64 12, .int .i64 1, .string (zs 16), .int .i64 10, .int .i64 1920, .int .i64 9, .string (zs 32), .string (zs 32), .int .i64 20] 25)) (some ⟨w.heap.size, 0, none⟩) (flat [e1, e2]) := by
  rw [flat2]
  exact Rd.new w _ _
set_option maxRecDepth 20000 in
set_option maxHeartbeats 4000000 in
theorem awake_any (w : World) : Calls Tryd.prog 7 #[] w fun e w' => e = .returned (.bool true) ∧ Below w.heap.size w w' := by
  obtain ⟨S, hS⟩ : ∃ S, catS 1 (zs 16) 3 576 9 (zs 32) (zs 32) 12 = S := ⟨_, rfl⟩
  have hz : (S.size : Int) = 104 := by rw [← hS, catS_size e1_ok]; rfl
  have HS := Lib.hid hS
  clear hS
  go_enter Tryd.func7, Tryd.ntmps7
  go_wp2_with fail
  (with_reducible refine (at_any 3 576 12 (by omega) (by omega) rfl _).mono ?_)
  rintro e w1 ⟨rfl, hb⟩
  go_wp2_with fail
  (with_reducible refine (at_any 10 1920 20 (by omega) (by omega) rfl _).mono ?_)
  rintro e w2 ⟨rfl, hb1⟩
  have hb2 := (bl hb hb1).alloc (bl hb hb1).size (.cells #[.int .i64 1, .string (zs 16), .int .i64 3, .int .i64 576, .int .i64 9, .string (zs 32), .string (zs 32), .int .i64 12, .int .i64 1, .string (zs 16), .int .i64 10, .int .i64 1920, .int .i64 9, .string (zs 32), .string (zs 32), .int .i64 20] 25)
  have hr := rd2 w2
  clear hb hb1
  go_wp2_with fail
  (with_reducible refine (room_any 10 100 5 [e1, e2] _ 2 2 rfl (by omega) (by omega) (by omega) _ hr).mono ?_)
  intro e w3 h
  obtain ⟨rfl, hb3⟩ := roomE h (by omega) room5 (by omega)
  have hb := bl hb2 hb3
  clear h hr hb2 hb3
  go_wp2_with fail
  (with_reducible refine (at_any 3 576 12 (by omega) (by omega) rfl _).mono ?_)
  rintro e w1 ⟨rfl, hb1⟩
  go_wp2_with fail
  (with_reducible refine (at_any 10 1920 20 (by omega) (by omega) rfl _).mono ?_)
  rintro e w4 ⟨rfl, hb4⟩
  have hb2 := (bl (bl hb hb1) hb4).alloc (bl (bl hb hb1) hb4).size (.cells #[.int .i64 1, .string (zs 16), .int .i64 3, .int .i64 576, .int .i64 9, .string (zs 32), .string (zs 32), .int .i64 12, .int .i64 1, .string (zs 16), .int .i64 10, .int .i64 1920, .int .i64 9, .string (zs 32), .string (zs 32), .int .i64 20] 25)
  have hr := rd2 w4
  clear hb hb1 hb4
  go_wp2_with fail
  (with_reducible refine (room_any 10 100 6 [e1, e2] _ 2 2 rfl (by omega) (by omega) (by omega) _ hr).mono ?_)
  intro e w5 h
  obtain ⟨rfl, hb3⟩ := roomE h (by omega) room6 (by omega)
  have hb := bl hb2 hb3
  clear h hr hb2 hb3
  go_wp2_with fail
  (with_reducible refine (at_any 3 576 12 (by omega) (by omega) rfl _).mono ?_)
  rintro e w1 ⟨rfl, hb1⟩
  go_wp2_with fail
  (with_reducible refine (cput_any 1 (zs 16) 3 576 9 (zs 32) (zs 32) 12 true S 0 e1_ok rfl ((if_pos rfl).trans HS.out) _).mono ?_)
  rintro e w6 ⟨rfl, hb6⟩
  have hb9 := bl (bl hb hb1) hb6
  clear hb hb1 hb6
  go_wp2_with fail
  go_ret
  exact ⟨rfl, hb9⟩
end Go.Proofs.YtachmdfabnigpaaDoor
