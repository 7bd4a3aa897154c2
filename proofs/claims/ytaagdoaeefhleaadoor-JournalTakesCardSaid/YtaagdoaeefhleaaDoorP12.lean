/-
  journal.Take. journal.Take of a record's header.
-/
import Derived.Test.YtaagdoaeefhleaaDoorP11
namespace Go.Proofs.YtaagdoaeefhleaaDoor
open Go.RowKit

set_option maxRecDepth 20000 in
set_option maxHeartbeats 8000000 in
theorem jtake_zero (s : ByteArray) (w : World) (hs : s.size ≤ 1000) (hz : zeroB s = true) : Calls Tryd.prog 10 #[.string s] w (JNo w 8) := by
  have hb : Below w.heap.size w (w.alloc (.cells #[.int .i64 0, .string ⟨#[]⟩, .int .i64 0, .int .i64 0, .int .i64 0, .string ⟨#[]⟩, .string ⟨#[]⟩, .int .i64 0, .int .i64 0, .int .u64 0, .int .u64 0, .int .u64 0, .int .u64 0] 37)) := (Below.refl _ _).alloc (Nat.le_refl _) _
  have hR : Bk (w.alloc (.cells #[.int .i64 0, .string ⟨#[]⟩, .int .i64 0, .int .i64 0, .int .i64 0, .string ⟨#[]⟩, .string ⟨#[]⟩, .int .i64 0, .int .i64 0, .int .u64 0, .int .u64 0, .int .u64 0, .int .u64 0] 37)) w.heap.size 37 #[.int .i64 0, .string ⟨#[]⟩, .int .i64 0, .int .i64 0, .int .i64 0, .string ⟨#[]⟩, .string ⟨#[]⟩, .int .i64 0, .int .i64 0, .int .u64 0, .int .u64 0, .int .u64 0, .int .u64 0] := Bk.new _ _ _
  have HZ := Lib.hid hz
  clear hz
  go_enter Tryd.func10, Tryd.ntmps10
  go_wp2_with fail
  generalize w.alloc (.cells #[.int .i64 0, .string ⟨#[]⟩, .int .i64 0, .int .i64 0, .int .i64 0, .string ⟨#[]⟩, .string ⟨#[]⟩, .int .i64 0, .int .i64 0, .int .u64 0, .int .u64 0, .int .u64 0, .int .u64 0] 37) = w0 at *
  (with_reducible refine (blank_any s true HZ.out _ hs).mono ?_)
  rintro e w2 ⟨rfl, hb1⟩
  have hR2 := hR.below' hb1
  have hb2 := below_then hb hb1 hb.size
  clear hR hb hb1
  have r0 := hR2.cell 0
  have r1 := hR2.cell 1
  have r2 := hR2.cell 2
  have r3 := hR2.cell 3
  have r4 := hR2.cell 4
  have r5 := hR2.cell 5
  have r6 := hR2.cell 6
  have r7 := hR2.cell 7
  have r8 := hR2.cell 8
  have r9 := hR2.cell 9
  have r10 := hR2.cell 10
  have r11 := hR2.cell 11
  have r12 := hR2.cell 12
  simp only [List.getElem?_toArray, List.getElem?_cons_succ, List.getElem?_cons_zero] at r0 r1 r2 r3 r4 r5 r6 r7 r8 r9 r10 r11 r12
  have f0 := hR2.frozen 0
  have f1 := hR2.frozen 1
  have f2 := hR2.frozen 2
  have f3 := hR2.frozen 3
  have f4 := hR2.frozen 4
  have f5 := hR2.frozen 5
  have f6 := hR2.frozen 6
  have f7 := hR2.frozen 7
  have f8 := hR2.frozen 8
  have f9 := hR2.frozen 9
  have f10 := hR2.frozen 10
  have f11 := hR2.frozen 11
  have f12 := hR2.frozen 12
  go_wp2_with fail
  exact bodyPost_ret (v := .tuple #[.agg #[.int .i64 0, .string ⟨#[]⟩, .int .i64 0, .int .i64 0, .int .i64 0, .string ⟨#[]⟩, .string ⟨#[]⟩, .int .i64 0, .int .i64 0, .int .u64 0, .int .u64 0, .int .u64 0, .int .u64 0], .int .i64 8]) (by simp [results, Tryd.results10, go_sem, r0, r1, r2, r3, r4, r5, r6, r7, r8, r9, r10, r11, r12]) rfl ⟨rfl, (((((((((((((hb2.setCell (Nat.le_refl _) _).setCell (Nat.le_refl _) _).setCell (Nat.le_refl _) _).setCell (Nat.le_refl _) _).setCell (Nat.le_refl _) _).setCell (Nat.le_refl _) _).setCell (Nat.le_refl _) _).setCell (Nat.le_refl _) _).setCell (Nat.le_refl _) _).setCell (Nat.le_refl _) _).setCell (Nat.le_refl _) _).setCell (Nat.le_refl _) _).setCell (Nat.le_refl _) _)⟩

set_option maxRecDepth 20000 in
set_option maxHeartbeats 8000000 in
theorem jtake_short (s : ByteArray) (w : World) (hs : s.size ≤ 1000) (hz : zeroB s = false) (hl : s.size < 136) : Calls Tryd.prog 10 #[.string s] w (JNo w 2) := by
  have hl2 : ((s.size : Nat) : Int) < 136 := by omega
  clear hl
  have hb : Below w.heap.size w (w.alloc (.cells #[.int .i64 0, .string ⟨#[]⟩, .int .i64 0, .int .i64 0, .int .i64 0, .string ⟨#[]⟩, .string ⟨#[]⟩, .int .i64 0, .int .i64 0, .int .u64 0, .int .u64 0, .int .u64 0, .int .u64 0] 37)) := (Below.refl _ _).alloc (Nat.le_refl _) _
  have hR : Bk (w.alloc (.cells #[.int .i64 0, .string ⟨#[]⟩, .int .i64 0, .int .i64 0, .int .i64 0, .string ⟨#[]⟩, .string ⟨#[]⟩, .int .i64 0, .int .i64 0, .int .u64 0, .int .u64 0, .int .u64 0, .int .u64 0] 37)) w.heap.size 37 #[.int .i64 0, .string ⟨#[]⟩, .int .i64 0, .int .i64 0, .int .i64 0, .string ⟨#[]⟩, .string ⟨#[]⟩, .int .i64 0, .int .i64 0, .int .u64 0, .int .u64 0, .int .u64 0, .int .u64 0] := Bk.new _ _ _
  have HZ := Lib.hid hz
  clear hz
  go_enter Tryd.func10, Tryd.ntmps10
  go_wp2_with fail
  generalize w.alloc (.cells #[.int .i64 0, .string ⟨#[]⟩, .int .i64 0, .int .i64 0, .int .i64 0, .string ⟨#[]⟩, .string ⟨#[]⟩, .int .i64 0, .int .i64 0, .int .u64 0, .int .u64 0, .int .u64 0, .int .u64 0] 37) = w0 at *
  (with_reducible refine (blank_any s false HZ.out _ hs).mono ?_)
  rintro e w2 ⟨rfl, hb1⟩
  have hR2 := hR.below' hb1
  have hb2 := below_then hb hb1 hb.size
  clear hR hb hb1
  have r0 := hR2.cell 0
  have r1 := hR2.cell 1
  have r2 := hR2.cell 2
  have r3 := hR2.cell 3
  have r4 := hR2.cell 4
  have r5 := hR2.cell 5
  have r6 := hR2.cell 6
  have r7 := hR2.cell 7
  have r8 := hR2.cell 8
  have r9 := hR2.cell 9
  have r10 := hR2.cell 10
  have r11 := hR2.cell 11
  have r12 := hR2.cell 12
  simp only [List.getElem?_toArray, List.getElem?_cons_succ, List.getElem?_cons_zero] at r0 r1 r2 r3 r4 r5 r6 r7 r8 r9 r10 r11 r12
  have f0 := hR2.frozen 0
  have f1 := hR2.frozen 1
  have f2 := hR2.frozen 2
  have f3 := hR2.frozen 3
  have f4 := hR2.frozen 4
  have f5 := hR2.frozen 5
  have f6 := hR2.frozen 6
  have f7 := hR2.frozen 7
  have f8 := hR2.frozen 8
  have f9 := hR2.frozen 9
  have f10 := hR2.frozen 10
  have f11 := hR2.frozen 11
  have f12 := hR2.frozen 12
  go_wp2_with fail
  exact bodyPost_ret (v := .tuple #[.agg #[.int .i64 0, .string ⟨#[]⟩, .int .i64 0, .int .i64 0, .int .i64 0, .string ⟨#[]⟩, .string ⟨#[]⟩, .int .i64 0, .int .i64 0, .int .u64 0, .int .u64 0, .int .u64 0, .int .u64 0], .int .i64 2]) (by simp [results, Tryd.results10, go_sem, r0, r1, r2, r3, r4, r5, r6, r7, r8, r9, r10, r11, r12]) rfl ⟨rfl, (((((((((((((hb2.setCell (Nat.le_refl _) _).setCell (Nat.le_refl _) _).setCell (Nat.le_refl _) _).setCell (Nat.le_refl _) _).setCell (Nat.le_refl _) _).setCell (Nat.le_refl _) _).setCell (Nat.le_refl _) _).setCell (Nat.le_refl _) _).setCell (Nat.le_refl _) _).setCell (Nat.le_refl _) _).setCell (Nat.le_refl _) _).setCell (Nat.le_refl _) _).setCell (Nat.le_refl _) _)⟩

set_option maxRecDepth 20000 in
set_option maxHeartbeats 8000000 in
theorem jtake_nomark (s : ByteArray) (w : World) (hs : s.size ≤ 1000) (hz : zeroB s = false) (hl : 136 ≤ s.size) (hm : markB s = false) : Calls Tryd.prog 10 #[.string s] w (JNo w 2) := by
  have hl' : ¬ ((s.size : Nat) : Int) < 136 := by omega
  have hl2 : (136 : Int) ≤ ((s.size : Nat) : Int) := by omega
  have HM := Lib.hid hm
  clear hl hm
  have hb : Below w.heap.size w (w.alloc (.cells #[.int .i64 0, .string ⟨#[]⟩, .int .i64 0, .int .i64 0, .int .i64 0, .string ⟨#[]⟩, .string ⟨#[]⟩, .int .i64 0, .int .i64 0, .int .u64 0, .int .u64 0, .int .u64 0, .int .u64 0] 37)) := (Below.refl _ _).alloc (Nat.le_refl _) _
  have hR : Bk (w.alloc (.cells #[.int .i64 0, .string ⟨#[]⟩, .int .i64 0, .int .i64 0, .int .i64 0, .string ⟨#[]⟩, .string ⟨#[]⟩, .int .i64 0, .int .i64 0, .int .u64 0, .int .u64 0, .int .u64 0, .int .u64 0] 37)) w.heap.size 37 #[.int .i64 0, .string ⟨#[]⟩, .int .i64 0, .int .i64 0, .int .i64 0, .string ⟨#[]⟩, .string ⟨#[]⟩, .int .i64 0, .int .i64 0, .int .u64 0, .int .u64 0, .int .u64 0, .int .u64 0] := Bk.new _ _ _
  have HZ := Lib.hid hz
  clear hz
  go_enter Tryd.func10, Tryd.ntmps10
  go_wp2_with fail
  generalize w.alloc (.cells #[.int .i64 0, .string ⟨#[]⟩, .int .i64 0, .int .i64 0, .int .i64 0, .string ⟨#[]⟩, .string ⟨#[]⟩, .int .i64 0, .int .i64 0, .int .u64 0, .int .u64 0, .int .u64 0, .int .u64 0] 37) = w0 at *
  (with_reducible refine (blank_any s false HZ.out _ hs).mono ?_)
  rintro e w2 ⟨rfl, hb1⟩
  have hR2 := hR.below' hb1
  have hb2 := below_then hb hb1 hb.size
  clear hR hb hb1
  go_wp2_with fail
  (with_reducible refine (pre_is s false HM.out _).mono ?_)
  rintro e w1 ⟨rfl, rfl⟩
  have r0 := hR2.cell 0
  have r1 := hR2.cell 1
  have r2 := hR2.cell 2
  have r3 := hR2.cell 3
  have r4 := hR2.cell 4
  have r5 := hR2.cell 5
  have r6 := hR2.cell 6
  have r7 := hR2.cell 7
  have r8 := hR2.cell 8
  have r9 := hR2.cell 9
  have r10 := hR2.cell 10
  have r11 := hR2.cell 11
  have r12 := hR2.cell 12
  simp only [List.getElem?_toArray, List.getElem?_cons_succ, List.getElem?_cons_zero] at r0 r1 r2 r3 r4 r5 r6 r7 r8 r9 r10 r11 r12
  have f0 := hR2.frozen 0
  have f1 := hR2.frozen 1
  have f2 := hR2.frozen 2
  have f3 := hR2.frozen 3
  have f4 := hR2.frozen 4
  have f5 := hR2.frozen 5
  have f6 := hR2.frozen 6
  have f7 := hR2.frozen 7
  have f8 := hR2.frozen 8
  have f9 := hR2.frozen 9
  have f10 := hR2.frozen 10
  have f11 := hR2.frozen 11
  have f12 := hR2.frozen 12
  go_wp2_with fail
  exact bodyPost_ret (v := .tuple #[.agg #[.int .i64 0, .string ⟨#[]⟩, .int .i64 0, .int .i64 0, .int .i64 0, .string ⟨#[]⟩, .string ⟨#[]⟩, .int .i64 0, .int .i64 0, .int .u64 0, .int .u64 0, .int .u64 0, .int .u64 0], .int .i64 2]) (by simp [results, Tryd.results10, go_sem, r0, r1, r2, r3, r4, r5, r6, r7, r8, r9, r10, r11, r12]) rfl ⟨rfl, (((((((((((((hb2.setCell (Nat.le_refl _) _).setCell (Nat.le_refl _) _).setCell (Nat.le_refl _) _).setCell (Nat.le_refl _) _).setCell (Nat.le_refl _) _).setCell (Nat.le_refl _) _).setCell (Nat.le_refl _) _).setCell (Nat.le_refl _) _).setCell (Nat.le_refl _) _).setCell (Nat.le_refl _) _).setCell (Nat.le_refl _) _).setCell (Nat.le_refl _) _).setCell (Nat.le_refl _) _)⟩

set_option maxRecDepth 20000 in
set_option maxHeartbeats 8000000 in
theorem jtake_tail (s v : ByteArray) (w : World) (hs : s.size ≤ 1000) (hz : zeroB s = false) (hl : 136 ≤ s.size) (hm : markB s = true) (hv : s.extract 136 s.size = v) (hvz : zeroB v = false) : Calls Tryd.prog 10 #[.string s] w (JNo w 2) := by
  have HVZ := Lib.hid hvz
  clear hvz
  have hl' : ¬ ((s.size : Nat) : Int) < 136 := by omega
  have hl2 : (136 : Int) ≤ ((s.size : Nat) : Int) := by omega
  have hvs : v.size ≤ 1000 := by rw [← hv, suf_size _ _ (by omega)]; omega
  have HM := Lib.hid hm
  clear hl hm
  have hb : Below w.heap.size w (w.alloc (.cells #[.int .i64 0, .string ⟨#[]⟩, .int .i64 0, .int .i64 0, .int .i64 0, .string ⟨#[]⟩, .string ⟨#[]⟩, .int .i64 0, .int .i64 0, .int .u64 0, .int .u64 0, .int .u64 0, .int .u64 0] 37)) := (Below.refl _ _).alloc (Nat.le_refl _) _
  have hR : Bk (w.alloc (.cells #[.int .i64 0, .string ⟨#[]⟩, .int .i64 0, .int .i64 0, .int .i64 0, .string ⟨#[]⟩, .string ⟨#[]⟩, .int .i64 0, .int .i64 0, .int .u64 0, .int .u64 0, .int .u64 0, .int .u64 0] 37)) w.heap.size 37 #[.int .i64 0, .string ⟨#[]⟩, .int .i64 0, .int .i64 0, .int .i64 0, .string ⟨#[]⟩, .string ⟨#[]⟩, .int .i64 0, .int .i64 0, .int .u64 0, .int .u64 0, .int .u64 0, .int .u64 0] := Bk.new _ _ _
  have HZ := Lib.hid hz
  clear hz
  go_enter Tryd.func10, Tryd.ntmps10
  go_wp2_with fail
  generalize w.alloc (.cells #[.int .i64 0, .string ⟨#[]⟩, .int .i64 0, .int .i64 0, .int .i64 0, .string ⟨#[]⟩, .string ⟨#[]⟩, .int .i64 0, .int .i64 0, .int .u64 0, .int .u64 0, .int .u64 0, .int .u64 0] 37) = w0 at *
  (with_reducible refine (blank_any s false HZ.out _ hs).mono ?_)
  rintro e w2 ⟨rfl, hb1⟩
  have hR2 := hR.below' hb1
  have hb2 := below_then hb hb1 hb.size
  clear hR hb hb1
  go_wp2_with fail
  (with_reducible refine (pre_is s true HM.out _).mono ?_)
  rintro e w1 ⟨rfl, rfl⟩
  go_wp2_with fail
  (with_reducible refine (blank_any v false HVZ.out _ hvs).mono ?_)
  rintro e w3 ⟨rfl, hb1⟩
  have hR3 := hR2.below' hb1
  have hb3 := below_then hb2 hb1 hb2.size
  clear hR2 hb2 hb1
  have r0 := hR3.cell 0
  have r1 := hR3.cell 1
  have r2 := hR3.cell 2
  have r3 := hR3.cell 3
  have r4 := hR3.cell 4
  have r5 := hR3.cell 5
  have r6 := hR3.cell 6
  have r7 := hR3.cell 7
  have r8 := hR3.cell 8
  have r9 := hR3.cell 9
  have r10 := hR3.cell 10
  have r11 := hR3.cell 11
  have r12 := hR3.cell 12
  simp only [List.getElem?_toArray, List.getElem?_cons_succ, List.getElem?_cons_zero] at r0 r1 r2 r3 r4 r5 r6 r7 r8 r9 r10 r11 r12
  have f0 := hR3.frozen 0
  have f1 := hR3.frozen 1
  have f2 := hR3.frozen 2
  have f3 := hR3.frozen 3
  have f4 := hR3.frozen 4
  have f5 := hR3.frozen 5
  have f6 := hR3.frozen 6
  have f7 := hR3.frozen 7
  have f8 := hR3.frozen 8
  have f9 := hR3.frozen 9
  have f10 := hR3.frozen 10
  have f11 := hR3.frozen 11
  have f12 := hR3.frozen 12
  go_wp2_with fail
  exact bodyPost_ret (v := .tuple #[.agg #[.int .i64 0, .string ⟨#[]⟩, .int .i64 0, .int .i64 0, .int .i64 0, .string ⟨#[]⟩, .string ⟨#[]⟩, .int .i64 0, .int .i64 0, .int .u64 0, .int .u64 0, .int .u64 0, .int .u64 0], .int .i64 2]) (by simp [results, Tryd.results10, go_sem, r0, r1, r2, r3, r4, r5, r6, r7, r8, r9, r10, r11, r12]) rfl ⟨rfl, (((((((((((((hb3.setCell (Nat.le_refl _) _).setCell (Nat.le_refl _) _).setCell (Nat.le_refl _) _).setCell (Nat.le_refl _) _).setCell (Nat.le_refl _) _).setCell (Nat.le_refl _) _).setCell (Nat.le_refl _) _).setCell (Nat.le_refl _) _).setCell (Nat.le_refl _) _).setCell (Nat.le_refl _) _).setCell (Nat.le_refl _) _).setCell (Nat.le_refl _) _).setCell (Nat.le_refl _) _)⟩

set_option maxRecDepth 20000 in
set_option maxHeartbeats 8000000 in
theorem jtake_nohead (s v : ByteArray) (w : World) (hs : s.size ≤ 1000) (hz : zeroB s = false) (hl : 136 ≤ s.size) (hm : markB s = true) (hv : s.extract 136 s.size = v) (hvz : zeroB v = true) (t c0 : ByteArray) (ht : s.extract 4 s.size = t) (hts : 132 ≤ t.size ∧ t.size ≤ 1000) (hc0 : t.extract 0 98 = c0) (hd : ∀ w, Calls Tryd.prog 26 #[.string c0] w fun e w' => e = .returned (.tuple #[.agg #[.int .i64 0, .string ⟨#[]⟩, .int .i64 0, .int .i64 0, .int .i64 0, .string ⟨#[]⟩, .string ⟨#[]⟩], .int .i64 2]) ∧ Below w.heap.size w w') : Calls Tryd.prog 10 #[.string s] w (JNo w 2) := by
  have HVZ := Lib.hid hvz
  have HD := Lib.hid hd
  have ht98 : (98 : Int) ≤ ((t.size : Nat) : Int) := by omega
  have hs4 : (4 : Int) ≤ ((s.size : Nat) : Int) := by omega
  clear hvz hd
  have hl' : ¬ ((s.size : Nat) : Int) < 136 := by omega
  have hl2 : (136 : Int) ≤ ((s.size : Nat) : Int) := by omega
  have hvs : v.size ≤ 1000 := by rw [← hv, suf_size _ _ (by omega)]; omega
  have HM := Lib.hid hm
  clear hl hm
  have hb : Below w.heap.size w (w.alloc (.cells #[.int .i64 0, .string ⟨#[]⟩, .int .i64 0, .int .i64 0, .int .i64 0, .string ⟨#[]⟩, .string ⟨#[]⟩, .int .i64 0, .int .i64 0, .int .u64 0, .int .u64 0, .int .u64 0, .int .u64 0] 37)) := (Below.refl _ _).alloc (Nat.le_refl _) _
  have hR : Bk (w.alloc (.cells #[.int .i64 0, .string ⟨#[]⟩, .int .i64 0, .int .i64 0, .int .i64 0, .string ⟨#[]⟩, .string ⟨#[]⟩, .int .i64 0, .int .i64 0, .int .u64 0, .int .u64 0, .int .u64 0, .int .u64 0] 37)) w.heap.size 37 #[.int .i64 0, .string ⟨#[]⟩, .int .i64 0, .int .i64 0, .int .i64 0, .string ⟨#[]⟩, .string ⟨#[]⟩, .int .i64 0, .int .i64 0, .int .u64 0, .int .u64 0, .int .u64 0, .int .u64 0] := Bk.new _ _ _
  have HZ := Lib.hid hz
  clear hz
  go_enter Tryd.func10, Tryd.ntmps10
  go_wp2_with fail
  generalize w.alloc (.cells #[.int .i64 0, .string ⟨#[]⟩, .int .i64 0, .int .i64 0, .int .i64 0, .string ⟨#[]⟩, .string ⟨#[]⟩, .int .i64 0, .int .i64 0, .int .u64 0, .int .u64 0, .int .u64 0, .int .u64 0] 37) = w0 at *
  (with_reducible refine (blank_any s false HZ.out _ hs).mono ?_)
  rintro e w2 ⟨rfl, hb1⟩
  have hR2 := hR.below' hb1
  have hb2 := below_then hb hb1 hb.size
  clear hR hb hb1
  go_wp2_with fail
  (with_reducible refine (pre_is s true HM.out _).mono ?_)
  rintro e w1 ⟨rfl, rfl⟩
  go_wp2_with fail
  (with_reducible refine (blank_any v true HVZ.out _ hvs).mono ?_)
  rintro e w3 ⟨rfl, hb1⟩
  have hR3 := hR2.below' hb1
  have hb3 := below_then hb2 hb1 hb2.size
  clear hR2 hb2 hb1
  go_wp2_with fail
  (with_reducible refine (HD.out _).mono ?_)
  rintro e w4 ⟨rfl, hb1⟩
  have hR4 := (hR3.below' hb1).alloc (.cells #[.int .i64 0, .string ⟨#[]⟩, .int .i64 0, .int .i64 0, .int .i64 0, .string ⟨#[]⟩, .string ⟨#[]⟩] 23)
  have hH : Bk (w4.alloc (.cells #[.int .i64 0, .string ⟨#[]⟩, .int .i64 0, .int .i64 0, .int .i64 0, .string ⟨#[]⟩, .string ⟨#[]⟩] 23)) w4.heap.size 23 #[.int .i64 0, .string ⟨#[]⟩, .int .i64 0, .int .i64 0, .int .i64 0, .string ⟨#[]⟩, .string ⟨#[]⟩] := Bk.new _ _ _
  have hb4 := (below_then hb3 hb1 hb3.size).alloc (below_then hb3 hb1 hb3.size).size (.cells #[.int .i64 0, .string ⟨#[]⟩, .int .i64 0, .int .i64 0, .int .i64 0, .string ⟨#[]⟩, .string ⟨#[]⟩] 23)
  clear hR3 hb3 hb1
  have r0 := hR4.cell 0
  have r1 := hR4.cell 1
  have r2 := hR4.cell 2
  have r3 := hR4.cell 3
  have r4 := hR4.cell 4
  have r5 := hR4.cell 5
  have r6 := hR4.cell 6
  have r7 := hR4.cell 7
  have r8 := hR4.cell 8
  have r9 := hR4.cell 9
  have r10 := hR4.cell 10
  have r11 := hR4.cell 11
  have r12 := hR4.cell 12
  simp only [List.getElem?_toArray, List.getElem?_cons_succ, List.getElem?_cons_zero] at r0 r1 r2 r3 r4 r5 r6 r7 r8 r9 r10 r11 r12
  have f0 := hR4.frozen 0
  have f1 := hR4.frozen 1
  have f2 := hR4.frozen 2
  have f3 := hR4.frozen 3
  have f4 := hR4.frozen 4
  have f5 := hR4.frozen 5
  have f6 := hR4.frozen 6
  have f7 := hR4.frozen 7
  have f8 := hR4.frozen 8
  have f9 := hR4.frozen 9
  have f10 := hR4.frozen 10
  have f11 := hR4.frozen 11
  have f12 := hR4.frozen 12
  go_wp2_with fail
  exact bodyPost_ret (v := .tuple #[.agg #[.int .i64 0, .string ⟨#[]⟩, .int .i64 0, .int .i64 0, .int .i64 0, .string ⟨#[]⟩, .string ⟨#[]⟩, .int .i64 0, .int .i64 0, .int .u64 0, .int .u64 0, .int .u64 0, .int .u64 0], .int .i64 2]) (by simp [results, Tryd.results10, go_sem, r0, r1, r2, r3, r4, r5, r6, r7, r8, r9, r10, r11, r12]) rfl ⟨rfl, (((((((((((((hb4.setCell (Nat.le_refl _) _).setCell (Nat.le_refl _) _).setCell (Nat.le_refl _) _).setCell (Nat.le_refl _) _).setCell (Nat.le_refl _) _).setCell (Nat.le_refl _) _).setCell (Nat.le_refl _) _).setCell (Nat.le_refl _) _).setCell (Nat.le_refl _) _).setCell (Nat.le_refl _) _).setCell (Nat.le_refl _) _).setCell (Nat.le_refl _) _).setCell (Nat.le_refl _) _)⟩
end Go.Proofs.YtaagdoaeefhleaaDoor
namespace Go.Proofs.YtaagdoaeefhleaaDoor
open Go.RowKit

set_option maxRecDepth 20000 in
set_option maxHeartbeats 8000000 in
theorem jtake_head (s v : ByteArray) (w : World) (hs : s.size ≤ 1000) (hz : zeroB s = false) (hl : 136 ≤ s.size) (hm : markB s = true) (hv : s.extract 136 s.size = v) (hvz : zeroB v = true) (t c0 : ByteArray) (ht : s.extract 4 s.size = t) (hts : 132 ≤ t.size ∧ t.size ≤ 1000) (hc0 : t.extract 0 98 = c0) (u r g : ByteArray) (ba : Int) (hu : t.extract 98 t.size = u) (hus : u.size ≤ 1000) (hbase : takeF u.toList 2 = (ba, r.toList, 0)) (hrs : 32 ≤ r.size ∧ r.size ≤ 1000) (hg : r.extract 0 32 = g) (id : Int) (sa : ByteArray) (n bs raw : Int) (ro ta : ByteArray)
    (hd : ∀ w, Calls Tryd.prog 26 #[.string c0] w fun e w' => e = .returned (.tuple #[.agg #[.int .i64 id, .string sa, .int .i64 n, .int .i64 bs, .int .i64 raw, .string ro, .string ta], .int .i64 0]) ∧ Below w.heap.size w w') (L : List Bool) (kc : Int) (hT : takeB n g.toList = (L, kc)) (b : Bool)
    (hck : (kc ≠ 0 ∧ b = false) ∨ (kc = 0 ∧ recOk id sa n bs raw ro ta ba L = false ∧ b = false) ∨ (kc = 0 ∧ recOk id sa n bs raw ro ta ba L = true ∧ b = true)) :
    Calls Tryd.prog 10 #[.string s] w fun e w' => e = .returned (.tuple #[.agg (if b then #[.int .i64 id, .string sa, .int .i64 n, .int .i64 bs, .int .i64 raw, .string ro, .string ta, .int .i64 ba, .int .i64 (L.length : Nat), .int .u64 (wdN L 0 : Nat), .int .u64 (wdN L 1 : Nat), .int .u64 (wdN L 2 : Nat), .int .u64 (wdN L 3 : Nat)] else #[.int .i64 0, .string ⟨#[]⟩, .int .i64 0, .int .i64 0, .int .i64 0, .string ⟨#[]⟩, .string ⟨#[]⟩, .int .i64 0, .int .i64 0, .int .u64 0, .int .u64 0, .int .u64 0, .int .u64 0]), .int .i64 (if b then 0 else 2)]) ∧ Below w.heap.size w w' := by
  have HT := Lib.hid hT
  have HBa := Lib.hid hbase
  have hgs : g.size ≤ 1000 := by rw [← hg, ← size_toList, toList_ext, List.length_take]; omega
  have hr32 : (32 : Int) ≤ ((r.size : Nat) : Int) := by omega
  clear hT hbase
  have HVZ := Lib.hid hvz
  have HD := Lib.hid hd
  have ht98 : (98 : Int) ≤ ((t.size : Nat) : Int) := by omega
  have hs4 : (4 : Int) ≤ ((s.size : Nat) : Int) := by omega
  clear hvz hd
  have hl' : ¬ ((s.size : Nat) : Int) < 136 := by omega
  have hl2 : (136 : Int) ≤ ((s.size : Nat) : Int) := by omega
  have hvs : v.size ≤ 1000 := by rw [← hv, suf_size _ _ (by omega)]; omega
  have HM := Lib.hid hm
  clear hl hm
  have hb : Below w.heap.size w (w.alloc (.cells #[.int .i64 0, .string ⟨#[]⟩, .int .i64 0, .int .i64 0, .int .i64 0, .string ⟨#[]⟩, .string ⟨#[]⟩, .int .i64 0, .int .i64 0, .int .u64 0, .int .u64 0, .int .u64 0, .int .u64 0] 37)) := (Below.refl _ _).alloc (Nat.le_refl _) _
  have hR : Bk (w.alloc (.cells #[.int .i64 0, .string ⟨#[]⟩, .int .i64 0, .int .i64 0, .int .i64 0, .string ⟨#[]⟩, .string ⟨#[]⟩, .int .i64 0, .int .i64 0, .int .u64 0, .int .u64 0, .int .u64 0, .int .u64 0] 37)) w.heap.size 37 #[.int .i64 0, .string ⟨#[]⟩, .int .i64 0, .int .i64 0, .int .i64 0, .string ⟨#[]⟩, .string ⟨#[]⟩, .int .i64 0, .int .i64 0, .int .u64 0, .int .u64 0, .int .u64 0, .int .u64 0] := Bk.new _ _ _
  have HZ := Lib.hid hz
  clear hz
  go_enter Tryd.func10, Tryd.ntmps10
  go_wp2_with fail
  generalize w.alloc (.cells #[.int .i64 0, .string ⟨#[]⟩, .int .i64 0, .int .i64 0, .int .i64 0, .string ⟨#[]⟩, .string ⟨#[]⟩, .int .i64 0, .int .i64 0, .int .u64 0, .int .u64 0, .int .u64 0, .int .u64 0] 37) = w0 at *
  (with_reducible refine (blank_any s false HZ.out _ hs).mono ?_)
  rintro e w2 ⟨rfl, hb1⟩
  have hR2 := hR.below' hb1
  have hb2 := below_then hb hb1 hb.size
  clear hR hb hb1
  go_wp2_with fail
  (with_reducible refine (pre_is s true HM.out _).mono ?_)
  rintro e w1 ⟨rfl, rfl⟩
  go_wp2_with fail
  (with_reducible refine (blank_any v true HVZ.out _ hvs).mono ?_)
  rintro e w3 ⟨rfl, hb1⟩
  have hR3 := hR2.below' hb1
  have hb3 := below_then hb2 hb1 hb2.size
  clear hR2 hb2 hb1
  go_wp2_with fail
  (with_reducible refine (HD.out _).mono ?_)
  rintro e w4 ⟨rfl, hb1⟩
  have hR4 := (hR3.below' hb1).alloc (.cells #[.int .i64 id, .string sa, .int .i64 n, .int .i64 bs, .int .i64 raw, .string ro, .string ta] 23)
  have hH : Bk (w4.alloc (.cells #[.int .i64 id, .string sa, .int .i64 n, .int .i64 bs, .int .i64 raw, .string ro, .string ta] 23)) w4.heap.size 23 #[.int .i64 id, .string sa, .int .i64 n, .int .i64 bs, .int .i64 raw, .string ro, .string ta] := Bk.new _ _ _
  have hb4 := (below_then hb3 hb1 hb3.size).alloc (below_then hb3 hb1 hb3.size).size (.cells #[.int .i64 id, .string sa, .int .i64 n, .int .i64 bs, .int .i64 raw, .string ro, .string ta] 23)
  clear hR3 hb3 hb1
  go_wp2_with fail
  (with_reducible refine (takeF_is u r 2 ba 0 _ (by omega) HBa.out).mono ?_)
  rintro e w0 ⟨rfl, hb1⟩
  have hR5 := hR4.below' hb1
  have hH5 := hH.below' hb1
  have hhd : w4.heap.size < w0.heap.size := Nat.lt_of_lt_of_le (by simp) hb1.size
  have hb5 := below_then hb4 hb1 hb4.size
  clear hR4 hH hb4 hb1
  go_upto_region 10 with (fail)
  have hcw : Below w0.heap.size w0 w0.drew ∧ w0.drew.cell? ⟨w4.heap.size, 2, none⟩ = some (.int .i64 n) := ⟨(Below.refl _ _).drew, by have h := hH5.cell 2; simp only [List.getElem?_toArray, List.getElem?_cons_succ, List.getElem?_cons_zero] at h; exact h⟩
  refine wp_region_held_drew (S := fun w' => Below w0.heap.size w0 w' ∧ w'.cell? ⟨w4.heap.size, 2, none⟩ = some (.int .i64 n)) (by kernel_rfl) hcw (fun _ => ?_)
  refine anyH_take (i := 0) (v := ?_) rfl (by kernel_rfl) (by kernel_rfl) (by kernel_rfl) (fun _ _ _ h => h) (by rfl) ?_ (by assumption) ?_
  rotate_left
  · intro w' hSw; (try dsimp only at hSw); go_simp; (try with_reducible rfl)
  try simp only [Act.put, List.setIfInBounds_toArray, List.set_cons_zero, List.set_cons_succ]
  refine anyH_take (i := 1) (v := ?_) rfl (by kernel_rfl) (by kernel_rfl) (by kernel_rfl) (fun _ _ _ h => h) (by rfl) ?_ (by assumption) ?_
  rotate_left
  · intro w' hSw; (try dsimp only at hSw); go_simp; (try with_reducible rfl)
  try simp only [Act.put, List.setIfInBounds_toArray, List.set_cons_zero, List.set_cons_succ]
  refine anyH_take (i := 2) (v := ?_) rfl (by kernel_rfl) (by kernel_rfl) (by kernel_rfl) (fun _ _ _ h => h) (by rfl) ?_ (by assumption) ?_
  rotate_left
  · intro w' hSw; (try dsimp only at hSw); go_simp; (try with_reducible rfl)
  try simp only [Act.put, List.setIfInBounds_toArray, List.set_cons_zero, List.set_cons_succ]
  refine anyH_take (i := 3) (v := ?_) rfl (by kernel_rfl) (by kernel_rfl) (by kernel_rfl) (fun _ _ _ h => h) (by rfl) ?_ (by assumption) ?_
  rotate_left
  · intro w' hSw; (try dsimp only at hSw); go_simp; (try with_reducible rfl)
  try simp only [Act.put, List.setIfInBounds_toArray, List.set_cons_zero, List.set_cons_succ]
  refine anyH_two (i := 4) (j := 8) rfl rfl (by kernel_rfl) (by rfl) (by rfl) (fun K hK => ?_) (fun K hK => ?_)
  · go_simp
    go_at_call 28
    (with_reducible refine (takeS_is n g L kc _ (by omega) HT.out).mono ?_)
    rintro e wt ⟨rfl, hbx⟩
    have hX := heldb hbx (by assumption)
    refine hK.out _ _ hX (fun _ => ?_)
    clear hK K hbx
    try simp only [Act.put, List.setIfInBounds_toArray, List.set_cons_zero, List.set_cons_succ]
    refine anyH_take (i := 5) (v := ?_) rfl (by kernel_rfl) (by kernel_rfl) (by kernel_rfl) (fun _ _ _ h => h) (by rfl) ?_ (by assumption) ?_
    rotate_left
    · intro w' hSw; (try dsimp only at hSw); go_simp; (try with_reducible rfl)
    try simp only [Act.put, List.setIfInBounds_toArray, List.set_cons_zero, List.set_cons_succ]
    refine anyH_take (i := 6) (v := ?_) rfl (by kernel_rfl) (by kernel_rfl) (by kernel_rfl) (fun _ _ _ h => h) (by rfl) ?_ (by assumption) ?_
    rotate_left
    · intro w' hSw; (try dsimp only at hSw); go_simp; (try with_reducible rfl)
    try simp only [Act.put, List.setIfInBounds_toArray, List.set_cons_zero, List.set_cons_succ]
    refine anyH_take (i := 7) (v := ?_) rfl (by kernel_rfl) (by kernel_rfl) (by kernel_rfl) (fun _ _ _ h => h) (by rfl) ?_ (by assumption) ?_
    rotate_left
    · intro w' hSw; (try dsimp only at hSw); go_simp; (try with_reducible rfl)
    try simp only [Act.put, List.setIfInBounds_toArray, List.set_cons_zero, List.set_cons_succ]
    refine anyH_call (i := 8) rfl (by kernel_rfl) (by rfl) (fun K hK => ?_)
    go_simp
    have hX2 := heldc (w := wt) (.cells #[.int .i64 0, .int .u64 0, .int .u64 0, .int .u64 0, .int .u64 0] 32) (by assumption)
    have hqb : w0.heap.size ≤ wt.heap.size := (And.left hX).size
    have hZ : Bk (wt.alloc (.cells #[.int .i64 0, .int .u64 0, .int .u64 0, .int .u64 0, .int .u64 0] 32)) wt.heap.size 32 #[.int .i64 0, .int .u64 0, .int .u64 0, .int .u64 0, .int .u64 0] := Bk.new _ _ _
    refine hK.out _ _ hX2 (fun _ => ?_)
    clear hK K
    try simp only [Act.put, List.setIfInBounds_toArray, List.set_cons_zero, List.set_cons_succ]
    refine anyH_call (i := 9) rfl (by kernel_rfl) (by rfl) (fun K hK => ?_)
    have z0 := hZ.cell 0
    have z1 := hZ.cell 1
    have z2 := hZ.cell 2
    have z3 := hZ.cell 3
    have z4 := hZ.cell 4
    simp only [List.getElem?_toArray, List.getElem?_cons_succ, List.getElem?_cons_zero] at z0 z1 z2 z3 z4
    have y0 := hZ.frozen 0
    have y1 := hZ.frozen 1
    have y2 := hZ.frozen 2
    have y3 := hZ.frozen 3
    have y4 := hZ.frozen 4
    have hXs := heldc (w := wt) (.cells #[.int .i64 (L.length : Nat), .int .u64 (wdN L 0 : Nat), .int .u64 (wdN L 1 : Nat), .int .u64 (wdN L 2 : Nat), .int .u64 (wdN L 3 : Nat)] 32) (by assumption)
    have hSL : Bk (wt.alloc (.cells #[.int .i64 (L.length : Nat), .int .u64 (wdN L 0 : Nat), .int .u64 (wdN L 1 : Nat), .int .u64 (wdN L 2 : Nat), .int .u64 (wdN L 3 : Nat)] 32)) wt.heap.size 32 #[.int .i64 (L.length : Nat), .int .u64 (wdN L 0 : Nat), .int .u64 (wdN L 1 : Nat), .int .u64 (wdN L 2 : Nat), .int .u64 (wdN L 3 : Nat)] := Bk.new _ _ _
    clear hZ
    go_simp
    refine hK.out _ _ hXs (fun _ => ?_)
    clear hK K z0 z1 z2 z3 z4 y0 y1 y2 y3 y4
    try simp only [Act.put, List.setIfInBounds_toArray, List.set_cons_zero, List.set_cons_succ]
    refine anyH_take (i := 10) (v := ?_) rfl (by kernel_rfl) (by kernel_rfl) (by kernel_rfl) (fun _ _ _ h => h) (by rfl) ?_ (by assumption) ?_
    rotate_left
    · intro w' hSw; (try dsimp only at hSw); go_simp; (try with_reducible rfl)
    try simp only [Act.put, List.setIfInBounds_toArray, List.set_cons_zero, List.set_cons_succ]
    refine wpAnyH_done (by kernel_rfl) ?_ _
    have hR7 := hR5.below' (And.left hXs)
    have hH7 := hH5.below' (And.left hXs)
    have hb7 := below_then hb5 (And.left hXs) hb5.size
    clear hXs hR5 hH5 hb5
    generalize hwx : ((wt.alloc (.cells #[.int .i64 (L.length : Nat), .int .u64 (wdN L 0 : Nat), .int .u64 (wdN L 1 : Nat), .int .u64 (wdN L 2 : Nat), .int .u64 (wdN L 3 : Nat)] 32))) = w7 at *
    clear hwx
    have g0 := hH7.cell 0
    have g1 := hH7.cell 1
    have g2 := hH7.cell 2
    have g3 := hH7.cell 3
    have g4 := hH7.cell 4
    have g5 := hH7.cell 5
    have g6 := hH7.cell 6
    simp only [List.getElem?_toArray, List.getElem?_cons_succ, List.getElem?_cons_zero] at g0 g1 g2 g3 g4 g5 g6
    have y0 := hSL.cell 0
    have y1 := hSL.cell 1
    have y2 := hSL.cell 2
    have y3 := hSL.cell 3
    have y4 := hSL.cell 4
    simp only [List.getElem?_toArray, List.getElem?_cons_succ, List.getElem?_cons_zero] at y0 y1 y2 y3 y4
    have hR8 := hR7.alloc (.cells #[.int .i64 id, .string sa, .int .i64 n, .int .i64 bs, .int .i64 raw, .string ro, .string ta, .int .i64 ba, .int .i64 (L.length : Nat), .int .u64 (wdN L 0 : Nat), .int .u64 (wdN L 1 : Nat), .int .u64 (wdN L 2 : Nat), .int .u64 (wdN L 3 : Nat)] 37)
    have hX8 : Bk (w7.alloc (.cells #[.int .i64 id, .string sa, .int .i64 n, .int .i64 bs, .int .i64 raw, .string ro, .string ta, .int .i64 ba, .int .i64 (L.length : Nat), .int .u64 (wdN L 0 : Nat), .int .u64 (wdN L 1 : Nat), .int .u64 (wdN L 2 : Nat), .int .u64 (wdN L 3 : Nat)] 37)) w7.heap.size 37 #[.int .i64 id, .string sa, .int .i64 n, .int .i64 bs, .int .i64 raw, .string ro, .string ta, .int .i64 ba, .int .i64 (L.length : Nat), .int .u64 (wdN L 0 : Nat), .int .u64 (wdN L 1 : Nat), .int .u64 (wdN L 2 : Nat), .int .u64 (wdN L 3 : Nat)] := Bk.new _ _ _
    have hb8 := hb7.alloc hb7.size (.cells #[.int .i64 id, .string sa, .int .i64 n, .int .i64 bs, .int .i64 raw, .string ro, .string ta, .int .i64 ba, .int .i64 (L.length : Nat), .int .u64 (wdN L 0 : Nat), .int .u64 (wdN L 1 : Nat), .int .u64 (wdN L 2 : Nat), .int .u64 (wdN L 3 : Nat)] 37)
    clear hR7 hb7
    rcases hck with ⟨hk, rfl⟩ | ⟨hk, hok, rfl⟩ | ⟨hk, hok, rfl⟩
    · have hk' : (kc == 0) = false := by simp [hk]
      have r0 := hR8.cell 0
      have r1 := hR8.cell 1
      have r2 := hR8.cell 2
      have r3 := hR8.cell 3
      have r4 := hR8.cell 4
      have r5 := hR8.cell 5
      have r6 := hR8.cell 6
      have r7 := hR8.cell 7
      have r8 := hR8.cell 8
      have r9 := hR8.cell 9
      have r10 := hR8.cell 10
      have r11 := hR8.cell 11
      have r12 := hR8.cell 12
      simp only [List.getElem?_toArray, List.getElem?_cons_succ, List.getElem?_cons_zero] at r0 r1 r2 r3 r4 r5 r6 r7 r8 r9 r10 r11 r12
      have f0 := hR8.frozen 0
      have f1 := hR8.frozen 1
      have f2 := hR8.frozen 2
      have f3 := hR8.frozen 3
      have f4 := hR8.frozen 4
      have f5 := hR8.frozen 5
      have f6 := hR8.frozen 6
      have f7 := hR8.frozen 7
      have f8 := hR8.frozen 8
      have f9 := hR8.frozen 9
      have f10 := hR8.frozen 10
      have f11 := hR8.frozen 11
      have f12 := hR8.frozen 12
      go_wp2_with fail
      exact bodyPost_ret (v := .tuple #[.agg #[.int .i64 0, .string ⟨#[]⟩, .int .i64 0, .int .i64 0, .int .i64 0, .string ⟨#[]⟩, .string ⟨#[]⟩, .int .i64 0, .int .i64 0, .int .u64 0, .int .u64 0, .int .u64 0, .int .u64 0], .int .i64 2]) (by simp [results, Tryd.results10, go_sem, r0, r1, r2, r3, r4, r5, r6, r7, r8, r9, r10, r11, r12]) rfl ⟨rfl, (((((((((((((hb8.setCell (Nat.le_refl _) _).setCell (Nat.le_refl _) _).setCell (Nat.le_refl _) _).setCell (Nat.le_refl _) _).setCell (Nat.le_refl _) _).setCell (Nat.le_refl _) _).setCell (Nat.le_refl _) _).setCell (Nat.le_refl _) _).setCell (Nat.le_refl _) _).setCell (Nat.le_refl _) _).setCell (Nat.le_refl _) _).setCell (Nat.le_refl _) _).setCell (Nat.le_refl _) _)⟩
    · subst hk
      have HOK := Lib.hid hok
      clear hok
      go_wp2_with fail
      (with_reducible refine (jcheck_no id sa n bs raw ro ta ba L HOK.out _).mono ?_)
      rintro e w9 ⟨rfl, hb1⟩
      have hR9 := hR8.below' hb1
      have hb9 := below_then hb8 hb1 hb8.size
      clear hR8 hX8 hb8 hb1
      have r0 := hR9.cell 0
      have r1 := hR9.cell 1
      have r2 := hR9.cell 2
      have r3 := hR9.cell 3
      have r4 := hR9.cell 4
      have r5 := hR9.cell 5
      have r6 := hR9.cell 6
      have r7 := hR9.cell 7
      have r8 := hR9.cell 8
      have r9 := hR9.cell 9
      have r10 := hR9.cell 10
      have r11 := hR9.cell 11
      have r12 := hR9.cell 12
      simp only [List.getElem?_toArray, List.getElem?_cons_succ, List.getElem?_cons_zero] at r0 r1 r2 r3 r4 r5 r6 r7 r8 r9 r10 r11 r12
      have f0 := hR9.frozen 0
      have f1 := hR9.frozen 1
      have f2 := hR9.frozen 2
      have f3 := hR9.frozen 3
      have f4 := hR9.frozen 4
      have f5 := hR9.frozen 5
      have f6 := hR9.frozen 6
      have f7 := hR9.frozen 7
      have f8 := hR9.frozen 8
      have f9 := hR9.frozen 9
      have f10 := hR9.frozen 10
      have f11 := hR9.frozen 11
      have f12 := hR9.frozen 12
      go_wp2_with fail
      exact bodyPost_ret (v := .tuple #[.agg #[.int .i64 0, .string ⟨#[]⟩, .int .i64 0, .int .i64 0, .int .i64 0, .string ⟨#[]⟩, .string ⟨#[]⟩, .int .i64 0, .int .i64 0, .int .u64 0, .int .u64 0, .int .u64 0, .int .u64 0], .int .i64 2]) (by simp [results, Tryd.results10, go_sem, r0, r1, r2, r3, r4, r5, r6, r7, r8, r9, r10, r11, r12]) rfl ⟨rfl, (((((((((((((hb9.setCell (Nat.le_refl _) _).setCell (Nat.le_refl _) _).setCell (Nat.le_refl _) _).setCell (Nat.le_refl _) _).setCell (Nat.le_refl _) _).setCell (Nat.le_refl _) _).setCell (Nat.le_refl _) _).setCell (Nat.le_refl _) _).setCell (Nat.le_refl _) _).setCell (Nat.le_refl _) _).setCell (Nat.le_refl _) _).setCell (Nat.le_refl _) _).setCell (Nat.le_refl _) _)⟩
    · subst hk
      have HOK := Lib.hid hok
      clear hok
      go_wp2_with fail
      (with_reducible refine (jcheck_ok id sa n bs raw ro ta ba L HOK.out _).mono ?_)
      rintro e w9 ⟨rfl, hb1⟩
      have hR9 := hR8.below' hb1
      have hX9 := hX8.below' hb1
      have hb9 := below_then hb8 hb1 hb8.size
      clear hR8 hX8 hb8 hb1
      have q0 := hX9.cell 0
      have q1 := hX9.cell 1
      have q2 := hX9.cell 2
      have q3 := hX9.cell 3
      have q4 := hX9.cell 4
      have q5 := hX9.cell 5
      have q6 := hX9.cell 6
      have q7 := hX9.cell 7
      have q8 := hX9.cell 8
      have q9 := hX9.cell 9
      have q10 := hX9.cell 10
      have q11 := hX9.cell 11
      have q12 := hX9.cell 12
      simp only [List.getElem?_toArray, List.getElem?_cons_succ, List.getElem?_cons_zero] at q0 q1 q2 q3 q4 q5 q6 q7 q8 q9 q10 q11 q12
      have r0 := hR9.cell 0
      have r1 := hR9.cell 1
      have r2 := hR9.cell 2
      have r3 := hR9.cell 3
      have r4 := hR9.cell 4
      have r5 := hR9.cell 5
      have r6 := hR9.cell 6
      have r7 := hR9.cell 7
      have r8 := hR9.cell 8
      have r9 := hR9.cell 9
      have r10 := hR9.cell 10
      have r11 := hR9.cell 11
      have r12 := hR9.cell 12
      simp only [List.getElem?_toArray, List.getElem?_cons_succ, List.getElem?_cons_zero] at r0 r1 r2 r3 r4 r5 r6 r7 r8 r9 r10 r11 r12
      have f0 := hR9.frozen 0
      have f1 := hR9.frozen 1
      have f2 := hR9.frozen 2
      have f3 := hR9.frozen 3
      have f4 := hR9.frozen 4
      have f5 := hR9.frozen 5
      have f6 := hR9.frozen 6
      have f7 := hR9.frozen 7
      have f8 := hR9.frozen 8
      have f9 := hR9.frozen 9
      have f10 := hR9.frozen 10
      have f11 := hR9.frozen 11
      have f12 := hR9.frozen 12
      go_wp2_with fail
      exact bodyPost_ret (v := .tuple #[.agg #[.int .i64 id, .string sa, .int .i64 n, .int .i64 bs, .int .i64 raw, .string ro, .string ta, .int .i64 ba, .int .i64 (L.length : Nat), .int .u64 (wdN L 0 : Nat), .int .u64 (wdN L 1 : Nat), .int .u64 (wdN L 2 : Nat), .int .u64 (wdN L 3 : Nat)], .int .i64 0]) (by simp [results, Tryd.results10, go_sem, r0, r1, r2, r3, r4, r5, r6, r7, r8, r9, r10, r11, r12]) rfl ⟨rfl, (((((((((((((hb9.setCell (Nat.le_refl _) _).setCell (Nat.le_refl _) _).setCell (Nat.le_refl _) _).setCell (Nat.le_refl _) _).setCell (Nat.le_refl _) _).setCell (Nat.le_refl _) _).setCell (Nat.le_refl _) _).setCell (Nat.le_refl _) _).setCell (Nat.le_refl _) _).setCell (Nat.le_refl _) _).setCell (Nat.le_refl _) _).setCell (Nat.le_refl _) _).setCell (Nat.le_refl _) _)⟩
  · go_simp
    have hX2 := heldc (w := w0.drew) (.cells #[.int .i64 0, .int .u64 0, .int .u64 0, .int .u64 0, .int .u64 0] 32) (by assumption)
    have hqb : w0.heap.size ≤ w0.heap.size := Nat.le_refl _
    have hZ : Bk (w0.drew.alloc (.cells #[.int .i64 0, .int .u64 0, .int .u64 0, .int .u64 0, .int .u64 0] 32)) w0.heap.size 32 #[.int .i64 0, .int .u64 0, .int .u64 0, .int .u64 0, .int .u64 0] := Bk.new w0.drew _ _
    refine hK.out _ _ hX2 (fun _ => ?_)
    clear hK K
    try simp only [Act.put, List.setIfInBounds_toArray, List.set_cons_zero, List.set_cons_succ]
    refine anyH_call (i := 4) rfl (by kernel_rfl) (by rfl) (fun K hK => ?_)
    go_simp
    go_at_call 28
    (with_reducible refine (takeS_is n g L kc _ (by omega) HT.out).mono ?_)
    rintro e wt ⟨rfl, hbx⟩
    have hX := heldb hbx (by assumption)
    have hZ := Bk.below' hZ hbx
    refine hK.out _ _ hX (fun _ => ?_)
    clear hK K hbx
    try simp only [Act.put, List.setIfInBounds_toArray, List.set_cons_zero, List.set_cons_succ]
    refine anyH_take (i := 5) (v := ?_) rfl (by kernel_rfl) (by kernel_rfl) (by kernel_rfl) (fun _ _ _ h => h) (by rfl) ?_ (by assumption) ?_
    rotate_left
    · intro w' hSw; (try dsimp only at hSw); go_simp; (try with_reducible rfl)
    try simp only [Act.put, List.setIfInBounds_toArray, List.set_cons_zero, List.set_cons_succ]
    refine anyH_take (i := 6) (v := ?_) rfl (by kernel_rfl) (by kernel_rfl) (by kernel_rfl) (fun _ _ _ h => h) (by rfl) ?_ (by assumption) ?_
    rotate_left
    · intro w' hSw; (try dsimp only at hSw); go_simp; (try with_reducible rfl)
    try simp only [Act.put, List.setIfInBounds_toArray, List.set_cons_zero, List.set_cons_succ]
    refine anyH_take (i := 7) (v := ?_) rfl (by kernel_rfl) (by kernel_rfl) (by kernel_rfl) (fun _ _ _ h => h) (by rfl) ?_ (by assumption) ?_
    rotate_left
    · intro w' hSw; (try dsimp only at hSw); go_simp; (try with_reducible rfl)
    try simp only [Act.put, List.setIfInBounds_toArray, List.set_cons_zero, List.set_cons_succ]
    refine anyH_call (i := 9) rfl (by kernel_rfl) (by rfl) (fun K hK => ?_)
    have z0 := hZ.cell 0
    have z1 := hZ.cell 1
    have z2 := hZ.cell 2
    have z3 := hZ.cell 3
    have z4 := hZ.cell 4
    simp only [List.getElem?_toArray, List.getElem?_cons_succ, List.getElem?_cons_zero] at z0 z1 z2 z3 z4
    have y0 := hZ.frozen 0
    have y1 := hZ.frozen 1
    have y2 := hZ.frozen 2
    have y3 := hZ.frozen 3
    have y4 := hZ.frozen 4
    have hXs := heldd (w := wt) (hq := w0.heap.size) L hqb (by assumption) hhd
    have hSL : Bk (((((wt.setCell ⟨w0.heap.size, 0, none⟩ (.int .i64 (L.length : Nat))).setCell ⟨w0.heap.size, 1, none⟩ (.int .u64 (wdN L 0 : Nat))).setCell ⟨w0.heap.size, 2, none⟩ (.int .u64 (wdN L 1 : Nat))).setCell ⟨w0.heap.size, 3, none⟩ (.int .u64 (wdN L 2 : Nat))).setCell ⟨w0.heap.size, 4, none⟩ (.int .u64 (wdN L 3 : Nat))) w0.heap.size 32 #[.int .i64 (L.length : Nat), .int .u64 (wdN L 0 : Nat), .int .u64 (wdN L 1 : Nat), .int .u64 (wdN L 2 : Nat), .int .u64 (wdN L 3 : Nat)] := ZeroAt.put hZ L
    clear hZ
    go_simp
    refine hK.out _ _ hXs (fun _ => ?_)
    clear hK K z0 z1 z2 z3 z4 y0 y1 y2 y3 y4
    try simp only [Act.put, List.setIfInBounds_toArray, List.set_cons_zero, List.set_cons_succ]
    refine anyH_take (i := 10) (v := ?_) rfl (by kernel_rfl) (by kernel_rfl) (by kernel_rfl) (fun _ _ _ h => h) (by rfl) ?_ (by assumption) ?_
    rotate_left
    · intro w' hSw; (try dsimp only at hSw); go_simp; (try with_reducible rfl)
    try simp only [Act.put, List.setIfInBounds_toArray, List.set_cons_zero, List.set_cons_succ]
    refine wpAnyH_done (by kernel_rfl) ?_ _
    have hR7 := hR5.below' (And.left hXs)
    have hH7 := hH5.below' (And.left hXs)
    have hb7 := below_then hb5 (And.left hXs) hb5.size
    clear hXs hR5 hH5 hb5
    generalize hwx : ((((((wt.setCell ⟨w0.heap.size, 0, none⟩ (.int .i64 (L.length : Nat))).setCell ⟨w0.heap.size, 1, none⟩ (.int .u64 (wdN L 0 : Nat))).setCell ⟨w0.heap.size, 2, none⟩ (.int .u64 (wdN L 1 : Nat))).setCell ⟨w0.heap.size, 3, none⟩ (.int .u64 (wdN L 2 : Nat))).setCell ⟨w0.heap.size, 4, none⟩ (.int .u64 (wdN L 3 : Nat)))) = w7 at *
    clear hwx
    have g0 := hH7.cell 0
    have g1 := hH7.cell 1
    have g2 := hH7.cell 2
    have g3 := hH7.cell 3
    have g4 := hH7.cell 4
    have g5 := hH7.cell 5
    have g6 := hH7.cell 6
    simp only [List.getElem?_toArray, List.getElem?_cons_succ, List.getElem?_cons_zero] at g0 g1 g2 g3 g4 g5 g6
    have y0 := hSL.cell 0
    have y1 := hSL.cell 1
    have y2 := hSL.cell 2
    have y3 := hSL.cell 3
    have y4 := hSL.cell 4
    simp only [List.getElem?_toArray, List.getElem?_cons_succ, List.getElem?_cons_zero] at y0 y1 y2 y3 y4
    have hR8 := hR7.alloc (.cells #[.int .i64 id, .string sa, .int .i64 n, .int .i64 bs, .int .i64 raw, .string ro, .string ta, .int .i64 ba, .int .i64 (L.length : Nat), .int .u64 (wdN L 0 : Nat), .int .u64 (wdN L 1 : Nat), .int .u64 (wdN L 2 : Nat), .int .u64 (wdN L 3 : Nat)] 37)
    have hX8 : Bk (w7.alloc (.cells #[.int .i64 id, .string sa, .int .i64 n, .int .i64 bs, .int .i64 raw, .string ro, .string ta, .int .i64 ba, .int .i64 (L.length : Nat), .int .u64 (wdN L 0 : Nat), .int .u64 (wdN L 1 : Nat), .int .u64 (wdN L 2 : Nat), .int .u64 (wdN L 3 : Nat)] 37)) w7.heap.size 37 #[.int .i64 id, .string sa, .int .i64 n, .int .i64 bs, .int .i64 raw, .string ro, .string ta, .int .i64 ba, .int .i64 (L.length : Nat), .int .u64 (wdN L 0 : Nat), .int .u64 (wdN L 1 : Nat), .int .u64 (wdN L 2 : Nat), .int .u64 (wdN L 3 : Nat)] := Bk.new _ _ _
    have hb8 := hb7.alloc hb7.size (.cells #[.int .i64 id, .string sa, .int .i64 n, .int .i64 bs, .int .i64 raw, .string ro, .string ta, .int .i64 ba, .int .i64 (L.length : Nat), .int .u64 (wdN L 0 : Nat), .int .u64 (wdN L 1 : Nat), .int .u64 (wdN L 2 : Nat), .int .u64 (wdN L 3 : Nat)] 37)
    clear hR7 hb7
    rcases hck with ⟨hk, rfl⟩ | ⟨hk, hok, rfl⟩ | ⟨hk, hok, rfl⟩
    · have hk' : (kc == 0) = false := by simp [hk]
      have r0 := hR8.cell 0
      have r1 := hR8.cell 1
      have r2 := hR8.cell 2
      have r3 := hR8.cell 3
      have r4 := hR8.cell 4
      have r5 := hR8.cell 5
      have r6 := hR8.cell 6
      have r7 := hR8.cell 7
      have r8 := hR8.cell 8
      have r9 := hR8.cell 9
      have r10 := hR8.cell 10
      have r11 := hR8.cell 11
      have r12 := hR8.cell 12
      simp only [List.getElem?_toArray, List.getElem?_cons_succ, List.getElem?_cons_zero] at r0 r1 r2 r3 r4 r5 r6 r7 r8 r9 r10 r11 r12
      have f0 := hR8.frozen 0
      have f1 := hR8.frozen 1
      have f2 := hR8.frozen 2
      have f3 := hR8.frozen 3
      have f4 := hR8.frozen 4
      have f5 := hR8.frozen 5
      have f6 := hR8.frozen 6
      have f7 := hR8.frozen 7
      have f8 := hR8.frozen 8
      have f9 := hR8.frozen 9
      have f10 := hR8.frozen 10
      have f11 := hR8.frozen 11
      have f12 := hR8.frozen 12
      go_wp2_with fail
      exact bodyPost_ret (v := .tuple #[.agg #[.int .i64 0, .string ⟨#[]⟩, .int .i64 0, .int .i64 0, .int .i64 0, .string ⟨#[]⟩, .string ⟨#[]⟩, .int .i64 0, .int .i64 0, .int .u64 0, .int .u64 0, .int .u64 0, .int .u64 0], .int .i64 2]) (by simp [results, Tryd.results10, go_sem, r0, r1, r2, r3, r4, r5, r6, r7, r8, r9, r10, r11, r12]) rfl ⟨rfl, (((((((((((((hb8.setCell (Nat.le_refl _) _).setCell (Nat.le_refl _) _).setCell (Nat.le_refl _) _).setCell (Nat.le_refl _) _).setCell (Nat.le_refl _) _).setCell (Nat.le_refl _) _).setCell (Nat.le_refl _) _).setCell (Nat.le_refl _) _).setCell (Nat.le_refl _) _).setCell (Nat.le_refl _) _).setCell (Nat.le_refl _) _).setCell (Nat.le_refl _) _).setCell (Nat.le_refl _) _)⟩
    · subst hk
      have HOK := Lib.hid hok
      clear hok
      go_wp2_with fail
      (with_reducible refine (jcheck_no id sa n bs raw ro ta ba L HOK.out _).mono ?_)
      rintro e w9 ⟨rfl, hb1⟩
      have hR9 := hR8.below' hb1
      have hb9 := below_then hb8 hb1 hb8.size
      clear hR8 hX8 hb8 hb1
      have r0 := hR9.cell 0
      have r1 := hR9.cell 1
      have r2 := hR9.cell 2
      have r3 := hR9.cell 3
      have r4 := hR9.cell 4
      have r5 := hR9.cell 5
      have r6 := hR9.cell 6
      have r7 := hR9.cell 7
      have r8 := hR9.cell 8
      have r9 := hR9.cell 9
      have r10 := hR9.cell 10
      have r11 := hR9.cell 11
      have r12 := hR9.cell 12
      simp only [List.getElem?_toArray, List.getElem?_cons_succ, List.getElem?_cons_zero] at r0 r1 r2 r3 r4 r5 r6 r7 r8 r9 r10 r11 r12
      have f0 := hR9.frozen 0
      have f1 := hR9.frozen 1
      have f2 := hR9.frozen 2
      have f3 := hR9.frozen 3
      have f4 := hR9.frozen 4
      have f5 := hR9.frozen 5
      have f6 := hR9.frozen 6
      have f7 := hR9.frozen 7
      have f8 := hR9.frozen 8
      have f9 := hR9.frozen 9
      have f10 := hR9.frozen 10
      have f11 := hR9.frozen 11
      have f12 := hR9.frozen 12
      go_wp2_with fail
      exact bodyPost_ret (v := .tuple #[.agg #[.int .i64 0, .string ⟨#[]⟩, .int .i64 0, .int .i64 0, .int .i64 0, .string ⟨#[]⟩, .string ⟨#[]⟩, .int .i64 0, .int .i64 0, .int .u64 0, .int .u64 0, .int .u64 0, .int .u64 0], .int .i64 2]) (by simp [results, Tryd.results10, go_sem, r0, r1, r2, r3, r4, r5, r6, r7, r8, r9, r10, r11, r12]) rfl ⟨rfl, (((((((((((((hb9.setCell (Nat.le_refl _) _).setCell (Nat.le_refl _) _).setCell (Nat.le_refl _) _).setCell (Nat.le_refl _) _).setCell (Nat.le_refl _) _).setCell (Nat.le_refl _) _).setCell (Nat.le_refl _) _).setCell (Nat.le_refl _) _).setCell (Nat.le_refl _) _).setCell (Nat.le_refl _) _).setCell (Nat.le_refl _) _).setCell (Nat.le_refl _) _).setCell (Nat.le_refl _) _)⟩
    · subst hk
      have HOK := Lib.hid hok
      clear hok
      go_wp2_with fail
      (with_reducible refine (jcheck_ok id sa n bs raw ro ta ba L HOK.out _).mono ?_)
      rintro e w9 ⟨rfl, hb1⟩
      have hR9 := hR8.below' hb1
      have hX9 := hX8.below' hb1
      have hb9 := below_then hb8 hb1 hb8.size
      clear hR8 hX8 hb8 hb1
      have q0 := hX9.cell 0
      have q1 := hX9.cell 1
      have q2 := hX9.cell 2
      have q3 := hX9.cell 3
      have q4 := hX9.cell 4
      have q5 := hX9.cell 5
      have q6 := hX9.cell 6
      have q7 := hX9.cell 7
      have q8 := hX9.cell 8
      have q9 := hX9.cell 9
      have q10 := hX9.cell 10
      have q11 := hX9.cell 11
      have q12 := hX9.cell 12
      simp only [List.getElem?_toArray, List.getElem?_cons_succ, List.getElem?_cons_zero] at q0 q1 q2 q3 q4 q5 q6 q7 q8 q9 q10 q11 q12
      have r0 := hR9.cell 0
      have r1 := hR9.cell 1
      have r2 := hR9.cell 2
      have r3 := hR9.cell 3
      have r4 := hR9.cell 4
      have r5 := hR9.cell 5
      have r6 := hR9.cell 6
      have r7 := hR9.cell 7
      have r8 := hR9.cell 8
      have r9 := hR9.cell 9
      have r10 := hR9.cell 10
      have r11 := hR9.cell 11
      have r12 := hR9.cell 12
      simp only [List.getElem?_toArray, List.getElem?_cons_succ, List.getElem?_cons_zero] at r0 r1 r2 r3 r4 r5 r6 r7 r8 r9 r10 r11 r12
      have f0 := hR9.frozen 0
      have f1 := hR9.frozen 1
      have f2 := hR9.frozen 2
      have f3 := hR9.frozen 3
      have f4 := hR9.frozen 4
      have f5 := hR9.frozen 5
      have f6 := hR9.frozen 6
      have f7 := hR9.frozen 7
      have f8 := hR9.frozen 8
      have f9 := hR9.frozen 9
      have f10 := hR9.frozen 10
      have f11 := hR9.frozen 11
      have f12 := hR9.frozen 12
      go_wp2_with fail
      exact bodyPost_ret (v := .tuple #[.agg #[.int .i64 id, .string sa, .int .i64 n, .int .i64 bs, .int .i64 raw, .string ro, .string ta, .int .i64 ba, .int .i64 (L.length : Nat), .int .u64 (wdN L 0 : Nat), .int .u64 (wdN L 1 : Nat), .int .u64 (wdN L 2 : Nat), .int .u64 (wdN L 3 : Nat)], .int .i64 0]) (by simp [results, Tryd.results10, go_sem, r0, r1, r2, r3, r4, r5, r6, r7, r8, r9, r10, r11, r12]) rfl ⟨rfl, (((((((((((((hb9.setCell (Nat.le_refl _) _).setCell (Nat.le_refl _) _).setCell (Nat.le_refl _) _).setCell (Nat.le_refl _) _).setCell (Nat.le_refl _) _).setCell (Nat.le_refl _) _).setCell (Nat.le_refl _) _).setCell (Nat.le_refl _) _).setCell (Nat.le_refl _) _).setCell (Nat.le_refl _) _).setCell (Nat.le_refl _) _).setCell (Nat.le_refl _) _).setCell (Nat.le_refl _) _)⟩
end Go.Proofs.YtaagdoaeefhleaaDoor
