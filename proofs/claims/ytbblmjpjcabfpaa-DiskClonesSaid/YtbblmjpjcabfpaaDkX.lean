/-
  The reference's disk: Clone.
-/
import Derived.Test.YtbblmjpjcabfpaaDkW
namespace Go.Proofs.Ytbblmjpjcabfpaa
open Go.RowKit

theorem Row.cells {w : World} {q : Nat} {l : List ByteArray} (h : Row w q l) : ∀ j u, (strs l)[j]? = some u → w.cell? ((⟨q, 0, none⟩ : Addr).add j) = some u := fun j u hj => by
  unfold strs at hj
  rw [List.getElem?_map] at hj
  rcases hl : l[j]? with _ | t
  · rw [hl] at hj; cases hj
  · rw [hl] at hj
    cases hj
    rw [add_mk, Nat.zero_add]
    exact (h.at_ hl).1
theorem RowB.cells {w : World} {q : Nat} {l : List Bool} (h : RowB w q l) : ∀ j u, (bools l)[j]? = some u → w.cell? ((⟨q, 0, none⟩ : Addr).add j) = some u := fun j u hj => by
  unfold bools at hj
  rw [List.getElem?_map] at hj
  rcases hl : l[j]? with _ | t
  · rw [hl] at hj; cases hj
  · rw [hl] at hj
    cases hj
    rw [add_mk, Nat.zero_add]
    exact (h.at_ hl).1
theorem grown_drew {w w' : World} {row : Option Nat} (hg : w.drew.grownBy w' row) : w.grownBy w' row := ⟨hg.os, hg.tape, hg.output, hg.size, hg.block⟩
theorem below_toDrew {w w' : World} {B : Nat} (h : Below B w w') : Below B w w'.drew := ⟨h.os, h.tape, h.output, h.size, h.block⟩
theorem strs_one (l : List ByteArray) : ∀ u ∈ strs l, u.oneCell' = true := fun u hu => by
  unfold strs at hu
  obtain ⟨x, _, rfl⟩ := List.mem_map.1 hu
  rfl
theorem bools_one (l : List Bool) : ∀ u ∈ bools l, u.oneCell' = true := fun u hu => by
  unfold bools at hu
  obtain ⟨x, _, rfl⟩ := List.mem_map.1 hu
  rfl

set_option maxRecDepth 100000 in
set_option maxHeartbeats 8000000 in
theorem rclone_any (w : World) (b go gl gf c1 c2 c3 : Nat) (S : St) (n : Nat) (h : RefAt w b go gl gf c1 c2 c3 S n) :
    Calls Try.prog 22 #[.pointer (some ⟨b, 0, none⟩)] w (RNew w S n fun b => .pointer (some ⟨b, 0, none⟩)) := by
  have HD := Lib.hid h
  obtain ⟨F, hF⟩ : ∃ F, S.fuse = F := ⟨_, rfl⟩
  obtain ⟨G, hG⟩ : ∃ G, S.dead = G := ⟨_, rfl⟩
  have HF := Lib.hid hF
  have HG := Lib.hid hG
  obtain ⟨p0, p1, p2, p3, p4, _, _⟩ := h.cells
  rw [hF] at p3
  rw [hG] at p4
  have e3 : w.drew.cell? ⟨b, 3, none⟩ = some (.int .i64 F) := p3
  have e4 : w.drew.cell? ⟨b, 4, none⟩ = some (.bool G) := p4
  have hn1 := h.n1
  have hlo := Lib.hid h.ok.lo
  have hll := Lib.hid h.ok.ll
  have hlf := Lib.hid h.ok.lf
  have hn2 := h.n2
  clear h hF hG p0 p1 p2 p3 p4
  go_enter Try.func22, Try.ntmps22
  go_wp2_with fail
  go_region
  have T0 : Hid (Tri w (w.alloc (.cells #[.slice none 0 0, .slice none 0 0, .slice none 0 0, .int .i64 F, .bool G] 64)).drew w.heap.size 0 0 0 [] [] [] F G (.slice none 0 0) (.slice none 0 0) (.slice none 0 0)) :=
    Lib.hid ⟨(Bk.new w _ _).drew, World.ownsRow_nil _ _ _ _, World.ownsRow_nil _ _ _ _, World.ownsRow_nil _ _ _ _, fun q h => by simp [Value.ownBlock] at h, fun q h => by simp [Value.ownBlock] at h, fun q h => by simp [Value.ownBlock] at h, below_toDrew ((Below.refl _ w).alloc (Nat.le_refl _) _), Nat.le_refl _⟩
  generalize hw0 : (w.alloc (.cells #[.slice none 0 0, .slice none 0 0, .slice none 0 0, .int .i64 F, .bool G] 64)).drew = w0 at *
  clear hw0 e3 e4
  all_goals
    have x0 : w0.drew.cell? ⟨w.heap.size, 0, none⟩ = some (.slice none 0 0) := (bk_at0 T0.out.bk).1
    have z0 : w0.drew.cell? ⟨b, 0, none⟩ = some (.slice (some ⟨go, 0, none⟩) n c1) := (HD.out.below T0.out.bl).cells.1
    have hb0 := T0.out.bk.lt
    go_wp2_with fail
    go_region_law ((refine step_append_at rfl (.tmp 18) (.tmp 22) 28 rfl (w.heap.size + 1) 9 1 16 el_strK (.slice none 0 0) 0 [] T0.out.r0 (by simp [Act.eval, Act.put]) ⟨go, 0, none⟩ n c1 (strs S.old) (by simp [Act.eval, Act.put]) ((HD.out.below T0.out.bl).ro.cells) (by simp [strs]; exact hlo.out) (strs_one _) (by unfold maxLen; omega) (by omega) (by show w.heap.size + 1 ≤ w0.heap.size; omega) ?_; intro ua0 wa0 hoo0 hgd0 hl0; have ho0 : wa0.ownsRow (w.heap.size + 1) 9 1 ua0 n (strs S.old) := (by simpa using hoo0); clear hoo0; have hg0 := grown_drew hgd0; obtain ⟨ga0, capa0, cura0, rfl, _⟩ := own_block ho0 (by omega); obtain ⟨xa0, ya0⟩ := bk_at0 (bk_grown T0.out T0.out.r0 hg0); have TA0 := Lib.hid (T0.out.step0 (v := .slice (some ⟨ga0, 0, none⟩) n capa0) (w' := wa0) (m := n) (ls := S.old) ho0 hg0 (hl0.imp id fun h => ⟨_, h, by simp⟩))))
  all_goals
    clear x0 z0 hb0 ho0 hg0 hgd0 hl0 xa0 ya0 T0
    generalize hw1 : wa0.setCell ⟨w.heap.size, 0, none⟩ (.slice (some ⟨ga0, 0, none⟩) n capa0) = w1 at *
    clear hw1
    have T1 := TA0
    clear TA0
  all_goals
    have x1 : w1.drew.cell? ⟨w.heap.size, 1, none⟩ = some (.slice none 0 0) := (bk_at1 T1.out.bk).1
    have z1 : w1.drew.cell? ⟨b, 1, none⟩ = some (.slice (some ⟨gl, 0, none⟩) n c2) := (HD.out.below T1.out.bl).cells.2.1
    have hb1 := T1.out.bk.lt
    go_wp2_with fail
    go_region_law ((refine step_append_at rfl (.tmp 30) (.tmp 34) 28 rfl (w.heap.size + 1) 9 1 16 el_strK (.slice none 0 0) 0 [] T1.out.r1 (by simp [Act.eval, Act.put]) ⟨gl, 0, none⟩ n c2 (strs S.lst) (by simp [Act.eval, Act.put]) ((HD.out.below T1.out.bl).rl.cells) (by simp [strs]; exact hll.out) (strs_one _) (by unfold maxLen; omega) (by omega) (by show w.heap.size + 1 ≤ w1.heap.size; omega) ?_; intro ua1 wa1 hoo1 hgd1 hl1; have ho1 : wa1.ownsRow (w.heap.size + 1) 9 1 ua1 n (strs S.lst) := (by simpa using hoo1); clear hoo1; have hg1 := grown_drew hgd1; obtain ⟨ga1, capa1, cura1, rfl, _⟩ := own_block ho1 (by omega); obtain ⟨xa1, ya1⟩ := bk_at1 (bk_grown T1.out T1.out.r1 hg1); have TA1 := Lib.hid (T1.out.step1 (v := .slice (some ⟨ga1, 0, none⟩) n capa1) (w' := wa1) (m := n) (ls := S.lst) ho1 hg1 (hl1.imp id fun h => ⟨_, h, by simp⟩))))
  all_goals
    clear x1 z1 hb1 ho1 hg1 hgd1 hl1 xa1 ya1 T1
    generalize hw2 : wa1.setCell ⟨w.heap.size, 1, none⟩ (.slice (some ⟨ga1, 0, none⟩) n capa1) = w2 at *
    clear hw2
    have T2 := TA1
    clear TA1
  all_goals
    have x2 : w2.drew.cell? ⟨w.heap.size, 2, none⟩ = some (.slice none 0 0) := (bk_at2 T2.out.bk).1
    have z2 : w2.drew.cell? ⟨b, 2, none⟩ = some (.slice (some ⟨gf, 0, none⟩) n c3) := (HD.out.below T2.out.bl).cells.2.2.1
    have hb2 := T2.out.bk.lt
    go_wp2_with fail
    go_region_law ((refine step_append_at rfl (.tmp 42) (.tmp 46) 62 rfl (w.heap.size + 1) 4 1 1 el_boolK (.slice none 0 0) 0 [] T2.out.r2 (by simp [Act.eval, Act.put]) ⟨gf, 0, none⟩ n c3 (bools S.fresh) (by simp [Act.eval, Act.put]) ((HD.out.below T2.out.bl).rf.cells) (by simp [bools]; exact hlf.out) (bools_one _) (by unfold maxLen; omega) (by omega) (by show w.heap.size + 1 ≤ w2.heap.size; omega) ?_; intro ua2 wa2 hoo2 hgd2 hl2; have ho2 : wa2.ownsRow (w.heap.size + 1) 4 1 ua2 n (bools S.fresh) := (by simpa using hoo2); clear hoo2; have hg2 := grown_drew hgd2; obtain ⟨ga2, capa2, cura2, rfl, _⟩ := own_block ho2 (by omega); obtain ⟨xa2, ya2⟩ := bk_at2 (bk_grown T2.out T2.out.r2 hg2); have TA2 := Lib.hid (T2.out.step2 (v := .slice (some ⟨ga2, 0, none⟩) n capa2) (w' := wa2) (m := n) (ls := S.fresh) ho2 hg2 (hl2.imp id fun h => ⟨_, h, by simp⟩))))
  all_goals
    clear x2 z2 hb2 ho2 hg2 hgd2 hl2 xa2 ya2 T2
    generalize hw3 : wa2.setCell ⟨w.heap.size, 2, none⟩ (.slice (some ⟨ga2, 0, none⟩) n capa2) = w3 at *
    clear hw3
    have T3 := TA2
    clear TA2
  all_goals
    go_wp2_with fail
    go_ret
    have hT := T3.out
    rw [← HF.out, ← HG.out] at hT
    obtain ⟨go', gl', gf', d1, d2, d3, hR, l1, l2, l3⟩ := hT.ref HD.out.ok hn1 hn2 HD.out.fu
    exact ⟨_, go', gl', gf', d1, d2, d3, rfl, hR, Nat.le_refl _, l1, l2, l3, hT.bl⟩
end Go.Proofs.Ytbblmjpjcabfpaa
