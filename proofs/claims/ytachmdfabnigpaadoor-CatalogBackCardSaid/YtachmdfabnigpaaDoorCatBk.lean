/-
  The law CatalogBack: the walk.
-/
import Derived.Test.YtachmdfabnigpaaDoorCatZ
namespace Go.Proofs.YtachmdfabnigpaaDoor
open Go.RowKit

theorem and255 (u : Int) : bits .and .i64 u 255 = u % 256 := by
  show IntKind.i64.wrap ((BitVec.ofInt 64 u &&& BitVec.ofInt 64 255).toNat : Int) = _
  rw [BitVec.toNat_and, show (BitVec.ofInt 64 255).toNat = 2 ^ 8 - 1 from rfl, Nat.and_two_pow_sub_one_eq_mod, BitVec.toNat_ofInt, IntKind.wrap_i64]
  simp only [Nat.reducePow]
  omega
theorem light_is (id : Int) (sa : ByteArray) (n bs raw : Int) (ro ta : ByteArray) (ba : Int) (b : Bool) (h : lightB sa ro ta = b) (w : World) :
    Calls Tryd.prog 8 #[.agg #[.int .i64 id, .string sa, .int .i64 n, .int .i64 bs, .int .i64 raw, .string ro, .string ta, .int .i64 ba]] w fun e w' => e = .returned (.bool b) ∧ Below w.heap.size w w' := by subst h; exact light_any id sa n bs raw ro ta ba w

set_option maxRecDepth 20000 in
set_option maxHeartbeats 8000000 in
theorem catalogBack_walk (id : Int) (sa : ByteArray) (n bs raw : Int) (ro ta : ByteArray) (ba : Int) (m : Int) (w : World) (_l : -9223372036854775808 ≤ m) (_u : m ≤ 9223372036854775807) :
    Calls Tryd.prog 4 #[.agg #[.int .i64 id, .string sa, .int .i64 n, .int .i64 bs, .int .i64 raw, .string ro, .string ta, .int .i64 ba], .int .i64 m] w (Yes w) := by
  have hb := (Below.refl w.heap.size w).alloc (Nat.le_refl _) (.cells #[.int .i64 id, .string sa, .int .i64 n, .int .i64 bs, .int .i64 raw, .string ro, .string ta, .int .i64 ba] 25)
  have hX : Bk (w.alloc (.cells #[.int .i64 id, .string sa, .int .i64 n, .int .i64 bs, .int .i64 raw, .string ro, .string ta, .int .i64 ba] 25)) w.heap.size 25 #[.int .i64 id, .string sa, .int .i64 n, .int .i64 bs, .int .i64 raw, .string ro, .string ta, .int .i64 ba] := Bk.new _ _ _
  rcases hl : lightB sa ro ta with _ | _
  · have HL := Lib.hid hl
    clear hl
    go_enter Tryd.func4, Tryd.ntmps4
    go_wp2_with fail
    (with_reducible refine (light_is id sa n bs raw ro ta ba false HL.out _).mono ?_)
    rintro e w1 ⟨rfl, hb1⟩
    go_wp2_with fail
    (with_reducible refine (awake_any _).mono ?_)
    rintro e w2 ⟨rfl, hb2⟩
    go_wp2_with fail
    go_ret
    exact ⟨rfl, bl (bl hb hb1) hb2⟩
  · have HL := Lib.hid hl
    clear hl
    rcases hok : extOk id sa n bs raw ro ta ba with _ | _
    · have HOK := Lib.hid hok
      clear hok
      go_enter Tryd.func4, Tryd.ntmps4
      go_wp2_with fail
      (with_reducible refine (light_is id sa n bs raw ro ta ba true HL.out _).mono ?_)
      rintro e w1 ⟨rfl, hb1⟩
      have hX1 := hX.below' hb1
      have hb2 := bl hb hb1
      clear hX hb hb1
      have q0 := hX1.cell 0
      have q1 := hX1.cell 1
      have q2 := hX1.cell 2
      have q3 := hX1.cell 3
      have q4 := hX1.cell 4
      have q5 := hX1.cell 5
      have q6 := hX1.cell 6
      have q7 := hX1.cell 7
      simp only [List.getElem?_toArray, List.getElem?_cons_succ, List.getElem?_cons_zero] at q0 q1 q2 q3 q4 q5 q6 q7
      go_wp2_with fail
      (with_reducible refine (cput_any id sa n bs raw ro ta ba false ⟨#[]⟩ 1 HOK.out rfl rfl _).mono ?_)
      rintro e w2 ⟨rfl, hb1⟩
      have hb3 := bl hb2 hb1
      clear hb2 hb1 q0 q1 q2 q3 q4 q5 q6 q7
      go_wp2_with fail
      (with_reducible refine (awake_any _).mono ?_)
      rintro e w3 ⟨rfl, hb1⟩
      go_wp2_with fail
      go_ret
      exact ⟨rfl, bl hb3 hb1⟩
    · have HOK := Lib.hid hok
      obtain ⟨k, hk, hk2⟩ : ∃ k : Nat, bits .and .i64 m 255 = (k : Int) ∧ k ≤ 255 := ⟨(m % 256).toNat, by rw [and255]; omega, by omega⟩
      obtain ⟨S, hS⟩ : ∃ S, catS id sa n bs raw ro ta ba = S := ⟨_, rfl⟩
      have hSz : S.size = 104 := by rw [← hS]; exact catS_size hok
      obtain ⟨y, hy⟩ : ∃ y, zs k = y := ⟨_, rfl⟩
      have hyz : y.size = k := by rw [← hy]; exact zs_size k
      obtain ⟨S1, hS1⟩ : ∃ S1, S ++ y = S1 := ⟨_, rfl⟩
      have hS1z : S1.size = 104 + k := by rw [← hS1, ByteArray.size_append, hSz, hyz]
      obtain ⟨S2, hS2⟩ : ∃ S2, S1 ++ ⟨#[120]⟩ = S2 := ⟨_, rfl⟩
      have m1 : ¬ (9223372036854775807 < S.size + y.size) := by omega
      have m2 : ¬ (9223372036854775807 < S1.size + 1) := by omega
      have HZS := Lib.hid (fun w => zeros_any k (k : Int) rfl w (by omega))
      have HS := Lib.hid hS
      have HY := Lib.hid (show ofL (List.replicate k 0) = y from hy)
      have HYes := Lib.hid (fun w => back_yes id sa n bs raw ro ta ba hok k hk2 S1 (by rw [hS, hy]; exact hS1) w)
      have HNo := Lib.hid (fun w => back_no id sa n bs raw ro ta ba hok k hk2 S2 (by rw [hS, hy, hS1]; exact hS2) w)
      have HOK := Lib.hid hok
      clear hok hS hy hSz hyz hS1z
      go_enter Tryd.func4, Tryd.ntmps4
      go_wp2_with fail
      (with_reducible refine (light_is id sa n bs raw ro ta ba true HL.out _).mono ?_)
      rintro e w1 ⟨rfl, hb1⟩
      have hX1 := hX.below' hb1
      have hb2 := bl hb hb1
      clear hX hb hb1
      have q0 := hX1.cell 0
      have q1 := hX1.cell 1
      have q2 := hX1.cell 2
      have q3 := hX1.cell 3
      have q4 := hX1.cell 4
      have q5 := hX1.cell 5
      have q6 := hX1.cell 6
      have q7 := hX1.cell 7
      simp only [List.getElem?_toArray, List.getElem?_cons_succ, List.getElem?_cons_zero] at q0 q1 q2 q3 q4 q5 q6 q7
      go_wp2_with fail
      (with_reducible refine (cput_any id sa n bs raw ro ta ba true S 0 HOK.out rfl ((if_pos rfl).trans HS.out) _).mono ?_)
      rintro e w2 ⟨rfl, hb1⟩
      have hX2 := hX1.below' hb1
      have hb3 := bl hb2 hb1
      clear hX1 hb2 hb1 q0 q1 q2 q3 q4 q5 q6 q7
      go_wp2_with fail
      refine (HZS.out _).mono ?_
      rintro e w3 ⟨rfl, hb1⟩
      rw [HY.out]
      have hX3 := hX2.below' hb1
      have hb4 := bl hb3 hb1
      clear hX2 hb3 hb1
      go_wp2_with fail
      (with_reducible refine (HYes.out _).mono ?_)
      rintro e w4 ⟨rfl, hb1⟩
      have hX4 := (hX3.below' hb1).alloc (.cells #[.int .i64 id, .string sa, .int .i64 n, .int .i64 bs, .int .i64 raw, .string ro, .string ta, .int .i64 ba] 25)
      have hY4 := Bk.new w4 25 #[.int .i64 id, .string sa, .int .i64 n, .int .i64 bs, .int .i64 raw, .string ro, .string ta, .int .i64 ba]
      have hb5 := (bl hb4 hb1).alloc (bl hb4 hb1).size (.cells #[.int .i64 id, .string sa, .int .i64 n, .int .i64 bs, .int .i64 raw, .string ro, .string ta, .int .i64 ba] 25)
      clear hX3 hb4 hb1
      go_wp2_with fail
      refine (HZS.out _).mono ?_
      rintro e w5 ⟨rfl, hb1⟩
      rw [HY.out]
      have hX5 := hX4.below' hb1
      have hY5 := hY4.below' hb1
      have hb6 := bl hb5 hb1
      clear hX4 hY4 hb5 hb1
      go_wp2_with fail
      (with_reducible refine (HNo.out _).mono ?_)
      rintro e w6 ⟨rfl, hb1⟩
      have hX6 := (hX5.below' hb1).alloc (.cells #[.int .i64 0, .string ⟨#[]⟩, .int .i64 0, .int .i64 0, .int .i64 0, .string ⟨#[]⟩, .string ⟨#[]⟩, .int .i64 0] 25)
      have hY6 := (hY5.below' hb1).alloc (.cells #[.int .i64 0, .string ⟨#[]⟩, .int .i64 0, .int .i64 0, .int .i64 0, .string ⟨#[]⟩, .string ⟨#[]⟩, .int .i64 0] 25)
      have hZ6 := Bk.new w6 25 #[.int .i64 0, .string ⟨#[]⟩, .int .i64 0, .int .i64 0, .int .i64 0, .string ⟨#[]⟩, .string ⟨#[]⟩, .int .i64 0]
      have hb7 := (bl hb6 hb1).alloc (bl hb6 hb1).size (.cells #[.int .i64 0, .string ⟨#[]⟩, .int .i64 0, .int .i64 0, .int .i64 0, .string ⟨#[]⟩, .string ⟨#[]⟩, .int .i64 0] 25)
      clear hX5 hY5 hb6 hb1
      have q0 := hX6.cell 0
      have q1 := hX6.cell 1
      have q2 := hX6.cell 2
      have q3 := hX6.cell 3
      have q4 := hX6.cell 4
      have q5 := hX6.cell 5
      have q6 := hX6.cell 6
      have q7 := hX6.cell 7
      simp only [List.getElem?_toArray, List.getElem?_cons_succ, List.getElem?_cons_zero] at q0 q1 q2 q3 q4 q5 q6 q7
      have p0 := hY6.cell 0
      have p1 := hY6.cell 1
      have p2 := hY6.cell 2
      have p3 := hY6.cell 3
      have p4 := hY6.cell 4
      have p5 := hY6.cell 5
      have p6 := hY6.cell 6
      have p7 := hY6.cell 7
      simp only [List.getElem?_toArray, List.getElem?_cons_succ, List.getElem?_cons_zero] at p0 p1 p2 p3 p4 p5 p6 p7
      have r0 := hZ6.cell 0
      have r1 := hZ6.cell 1
      have r2 := hZ6.cell 2
      have r3 := hZ6.cell 3
      have r4 := hZ6.cell 4
      have r5 := hZ6.cell 5
      have r6 := hZ6.cell 6
      have r7 := hZ6.cell 7
      simp only [List.getElem?_toArray, List.getElem?_cons_succ, List.getElem?_cons_zero] at r0 r1 r2 r3 r4 r5 r6 r7
      go_wp2_with fail
      (with_reducible refine (awake_any _).mono ?_)
      rintro e w7 ⟨rfl, hb1⟩
      go_wp2_with fail
      go_ret
      exact ⟨rfl, bl hb7 hb1⟩
end Go.Proofs.YtachmdfabnigpaaDoor
