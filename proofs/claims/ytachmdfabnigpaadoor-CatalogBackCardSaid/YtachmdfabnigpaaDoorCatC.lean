/-
  The law's zeros, light, at.
-/
import Derived.Test.YtachmdfabnigpaaDoorCatB
import Derived.Deep.OwnRows
namespace Go.Proofs.YtachmdfabnigpaaDoor
open Go.RowKit

theorem Tryd.info5z : (Tryd.prog.info? 5).map (fun i => (i.zero, i.size, i.bytes)) = some (some (.int .u8 0), 1, 1) := by kernel_rfl
theorem zeros_conv (w : World) (k : Nat) (t : TypeId) : (convert 55 9 (.slice (some ⟨w.heap.size, 0, none⟩) k k)).run Tryd.prog (w.alloc (.cells (madeCells #[.int .u8 0] k) t)) = .ok (.string (ofL (List.replicate k 0))) (w.alloc (.cells (madeCells #[.int .u8 0] k) t)) := by
  refine conv_back _ 55 9 5 ⟨w.heap.size, 0, none⟩ k (List.replicate k 0) k (by simp) Tryd.underlying55 Tryd.underlying5 Tryd.underlying9 ?_
  intro j u hj
  rw [add_mk, World.cell?_alloc_mark]
  simp only [List.map_replicate] at hj
  have hjk : j < k := by have := (List.getElem?_eq_some_iff.1 hj).1; simpa using this
  rw [List.getElem?_replicate, if_pos hjk] at hj
  simp only [Option.some.injEq] at hj
  subst hj
  simp [madeCells, hjk, Nat.mod_one]

theorem zeros_any (k : Nat) (m : Int) (hm : m = (k : Int)) (w : World) (hk : k ≤ 1000) : Calls Tryd.prog 10 #[.int .i64 m] w fun e w' => e = .returned (.string (ofL (List.replicate k 0))) ∧ Below w.heap.size w w' := by
  subst hm
  have hcv := zeros_conv w k 5
  have hmk := run_make_row' (P := Tryd.prog) 55 5 (.int .u8 0) 1 Tryd.underlying55 Tryd.info5z rfl .i64 .i64 k (by omega) (by omega)
  go_enter Tryd.func10, Tryd.ntmps10
  go_wp2
  go_ret
  exact ⟨rfl, (Below.refl _ _).alloc (Nat.le_refl _) _⟩

def lightB (sa ro ta : ByteArray) : Bool := decide (sa.size ≤ 500 ∧ ro.size ≤ 500 ∧ ta.size ≤ 500)
theorem light_any (id : Int) (sa : ByteArray) (n bs raw : Int) (ro ta : ByteArray) (ba : Int) (w : World) :
    Calls Tryd.prog 8 #[.agg #[.int .i64 id, .string sa, .int .i64 n, .int .i64 bs, .int .i64 raw, .string ro, .string ta, .int .i64 ba]] w fun e w' => e = .returned (.bool (lightB sa ro ta)) ∧ Below w.heap.size w w' := by
  have hb := (Below.refl w.heap.size w).alloc (Nat.le_refl _) (.cells #[.int .i64 id, .string sa, .int .i64 n, .int .i64 bs, .int .i64 raw, .string ro, .string ta, .int .i64 ba] 25)
  by_cases h1 : (sa.size : Int) ≤ 500
  · by_cases h2 : (ro.size : Int) ≤ 500
    · by_cases h3 : (ta.size : Int) ≤ 500
      · have H := Lib.hid (show lightB sa ro ta = true from decide_eq_true ⟨by omega, by omega, by omega⟩)
        go_enter Tryd.func8, Tryd.ntmps8
        go_wp2
        go_ret
        exact ⟨by rw [H.out]; rfl, hb⟩
      · have H := Lib.hid (show lightB sa ro ta = false from decide_eq_false (by omega))
        go_enter Tryd.func8, Tryd.ntmps8
        go_wp2
        go_ret
        exact ⟨by rw [H.out]; rfl, hb⟩
    · have H := Lib.hid (show lightB sa ro ta = false from decide_eq_false (by omega))
      go_enter Tryd.func8, Tryd.ntmps8
      go_wp2
      go_ret
      exact ⟨by rw [H.out]; rfl, hb⟩
  · have H := Lib.hid (show lightB sa ro ta = false from decide_eq_false (by omega))
    go_enter Tryd.func8, Tryd.ntmps8
    go_wp2
    go_ret
    exact ⟨by rw [H.out]; rfl, hb⟩

/-- So many zeros. -/
def zs (k : Nat) : ByteArray := ofL (List.replicate k 0)
theorem at_any (n m ba : Int) (hn : 0 ≤ n) (hn2 : n ≤ 1000) (hm : 192 * n = m) (w : World) :
    Calls Tryd.prog 21 #[.int .i64 n, .int .i64 ba] w fun e w' => e = .returned (.agg #[.int .i64 1, .string (zs 16), .int .i64 n, .int .i64 m, .int .i64 9, .string (zs 32), .string (zs 32), .int .i64 ba]) ∧ Below w.heap.size w w' := by
  obtain ⟨z1, h1⟩ : ∃ z, ofL (List.replicate 16 0) = z := ⟨_, rfl⟩
  obtain ⟨z2, h2⟩ : ∃ z, ofL (List.replicate 32 0) = z := ⟨_, rfl⟩
  have H1 := fun w => zeros_any 16 16 rfl w (by omega)
  have H2 := fun w => zeros_any 32 32 rfl w (by omega)
  rw [h1] at H1
  rw [h2] at H2
  have hz1 := Lib.hid (show zs 16 = z1 from h1)
  have hz2 := Lib.hid (show zs 32 = z2 from h2)
  clear h1 h2
  have HM := Lib.hid hm
  clear hm
  have hR : Bk (w.alloc (.cells #[.int .i64 0, .string ⟨#[]⟩, .int .i64 0, .int .i64 0, .int .i64 0, .string ⟨#[]⟩, .string ⟨#[]⟩, .int .i64 0] 25)) w.heap.size 25 #[.int .i64 0, .string ⟨#[]⟩, .int .i64 0, .int .i64 0, .int .i64 0, .string ⟨#[]⟩, .string ⟨#[]⟩, .int .i64 0] := Bk.new _ _ _
  have hb : Below w.heap.size w (w.alloc (.cells #[.int .i64 0, .string ⟨#[]⟩, .int .i64 0, .int .i64 0, .int .i64 0, .string ⟨#[]⟩, .string ⟨#[]⟩, .int .i64 0] 25)) := (Below.refl _ _).alloc (Nat.le_refl _) _
  go_enter Tryd.func21, Tryd.ntmps21
  go_wp2_with fail
  generalize w.alloc (.cells #[.int .i64 0, .string ⟨#[]⟩, .int .i64 0, .int .i64 0, .int .i64 0, .string ⟨#[]⟩, .string ⟨#[]⟩, .int .i64 0] 25) = w0 at *
  (with_reducible refine (H1 _).mono ?_)
  rintro e w1 ⟨rfl, hb1⟩
  have hR1 := hR.below' hb1
  have hb2 := below_then hb hb1 hb.size
  clear hR hb hb1
  go_wp2_with fail
  (with_reducible refine (H2 _).mono ?_)
  rintro e w2 ⟨rfl, hb1⟩
  have hR := hR1.below' hb1
  have hb := below_then hb2 hb1 hb2.size
  clear hR1 hb2 hb1
  go_wp2_with fail
  (with_reducible refine (H2 _).mono ?_)
  rintro e w3 ⟨rfl, hb1⟩
  have hR1 := hR.below' hb1
  have hb2 := below_then hb hb1 hb.size
  clear hR hb hb1
  have r0 := hR1.cell 0
  have r1 := hR1.cell 1
  have r2 := hR1.cell 2
  have r3 := hR1.cell 3
  have r4 := hR1.cell 4
  have r5 := hR1.cell 5
  have r6 := hR1.cell 6
  have r7 := hR1.cell 7
  simp only [List.getElem?_toArray, List.getElem?_cons_succ, List.getElem?_cons_zero] at r0 r1 r2 r3 r4 r5 r6 r7
  have f0 := hR1.frozen 0
  have f1 := hR1.frozen 1
  have f2 := hR1.frozen 2
  have f3 := hR1.frozen 3
  have f4 := hR1.frozen 4
  have f5 := hR1.frozen 5
  have f6 := hR1.frozen 6
  have f7 := hR1.frozen 7
  go_wp2_with fail
  rw [hz1.out, hz2.out, ← HM.out]
  exact bodyPost_ret (v := .agg #[.int .i64 1, .string z1, .int .i64 n, .int .i64 (192 * n), .int .i64 9, .string z2, .string z2, .int .i64 ba]) (by simp [results, Tryd.results21, go_sem, r0, r1, r2, r3, r4, r5, r6, r7]) rfl ⟨rfl, (((((((hb2.setCell (Nat.le_refl _) _).setCell (Nat.le_refl _) _).setCell (Nat.le_refl _) _).setCell (Nat.le_refl _) _).setCell (Nat.le_refl _) _).setCell (Nat.le_refl _) _).setCell (Nat.le_refl _) _).setCell (Nat.le_refl _) _⟩
end Go.Proofs.YtachmdfabnigpaaDoor
