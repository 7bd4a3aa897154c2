/-
  catalog.Take: where there is a mark.
-/
import Derived.Test.YtachmdfabnigpaaDoorCatU
namespace Go.Proofs.YtachmdfabnigpaaDoor
open Go.RowKit

theorem head_both (h : ByteArray) (hs : h.size = 98) : ∃ (b : Bool) (id : Int) (sa : ByteArray) (n bs raw : Int) (ro ta : ByteArray), (∀ w, Calls Tryd.prog 13 #[.string h] w (HTEnd w b #[.int .i64 id, .string sa, .int .i64 n, .int .i64 bs, .int .i64 raw, .string ro, .string ta])) ∧ (∀ w, Calls Tryd.prog 17 #[.string h] w (HTEnd w b #[.int .i64 id, .string sa, .int .i64 n, .int .i64 bs, .int .i64 raw, .string ro, .string ta])) := by
  cases hq : ((h.extract 0 4).toList == [83, 76, 71, 49]) with
  | true => exact ⟨_, _, _, _, _, _, _, _, fun w => htake_parts h w hs hq _ _ _ _ _ _ _ _ _ _ _ _ _ _ _ (parts_fn h hs), fun w => htakeR_parts h w hs hq _ _ _ _ _ _ _ _ _ _ _ _ _ _ _ (parts_fn h hs)⟩
  | false => exact ⟨false, 0, ⟨#[]⟩, 0, 0, 0, ⟨#[]⟩, ⟨#[]⟩, fun w => (htake_bad h w (.inr ⟨hs, hq⟩)).mono fun e w' ⟨he, hb⟩ => ⟨by rw [he]; rfl, hb⟩, fun w => (htakeR_bad h w (.inr ⟨hs, hq⟩)).mono fun e w' ⟨he, hb⟩ => ⟨by rw [he]; rfl, hb⟩⟩

set_option maxRecDepth 20000 in
set_option maxHeartbeats 8000000 in
theorem ctake_tail (s t v : ByteArray) (w : World) (hs : s.size ≤ 1000) (hz : zeroB s = false) (hm : markB s = true) (hl : 104 ≤ s.size) (ht : cutT s true = t) (hv : s.extract 104 s.size = v) (hvz : zeroB v = false) : Calls Tryd.prog 5 #[.string s] w (CNo w 2) := by
  have HVZ := Lib.hid hvz
  clear hvz
  have hb : Below w.heap.size w (w.alloc (.cells #[.int .i64 0, .string ⟨#[]⟩, .int .i64 0, .int .i64 0, .int .i64 0, .string ⟨#[]⟩, .string ⟨#[]⟩, .int .i64 0] 25)) := (Below.refl _ _).alloc (Nat.le_refl _) _
  have hR : Bk (w.alloc (.cells #[.int .i64 0, .string ⟨#[]⟩, .int .i64 0, .int .i64 0, .int .i64 0, .string ⟨#[]⟩, .string ⟨#[]⟩, .int .i64 0] 25)) w.heap.size 25 #[.int .i64 0, .string ⟨#[]⟩, .int .i64 0, .int .i64 0, .int .i64 0, .string ⟨#[]⟩, .string ⟨#[]⟩, .int .i64 0] := Bk.new _ _ _
  have hl' : ¬ ((s.size : Nat) : Int) < 104 := by omega
  have hl2 : (104 : Int) ≤ ((s.size : Nat) : Int) := by omega
  have hvs : v.size ≤ 1000 := by rw [← hv, suf_size _ _ (by omega)]; omega
  have HB := Lib.hid hm
  have HT := Lib.hid ht
  have HZ := Lib.hid hz
  clear hm ht hz hl
  go_enter Tryd.func5, Tryd.ntmps5
  go_wp2_with fail
  (with_reducible refine (cut_is s t true HB.out HT.out _).mono ?_)
  rintro e w1 ⟨rfl, rfl⟩
  generalize w.alloc (.cells #[.int .i64 0, .string ⟨#[]⟩, .int .i64 0, .int .i64 0, .int .i64 0, .string ⟨#[]⟩, .string ⟨#[]⟩, .int .i64 0] 25) = w0 at *
  go_wp2_with fail
  (with_reducible refine (trimN s _ hs HZ.out).mono ?_)
  rintro e w2 ⟨z, rfl, hz0, hb1⟩
  have hR2 := hR.below' hb1
  have hb2 := below_then hb hb1 hb.size
  have hze := isEmpty_of z hz0
  clear hR hb hb1 hz0
  go_wp2_with fail
  (with_reducible refine (trimN v _ hvs HVZ.out).mono ?_)
  rintro e w3 ⟨z3, rfl, hz3, hb1⟩
  have hR3 := hR2.below' hb1
  have hb3 := below_then hb2 hb1 hb2.size
  have hze3 := isEmpty_of z3 hz3
  clear hR2 hb2 hb1 hz3 hze
  have r0 := hR3.cell 0
  have r1 := hR3.cell 1
  have r2 := hR3.cell 2
  have r3 := hR3.cell 3
  have r4 := hR3.cell 4
  have r5 := hR3.cell 5
  have r6 := hR3.cell 6
  have r7 := hR3.cell 7
  simp only [List.getElem?_toArray, List.getElem?_cons_succ, List.getElem?_cons_zero] at r0 r1 r2 r3 r4 r5 r6 r7
  have f0 := hR3.frozen 0
  have f1 := hR3.frozen 1
  have f2 := hR3.frozen 2
  have f3 := hR3.frozen 3
  have f4 := hR3.frozen 4
  have f5 := hR3.frozen 5
  have f6 := hR3.frozen 6
  have f7 := hR3.frozen 7
  go_wp2_with fail
  exact bodyPost_ret (v := .tuple #[.agg #[.int .i64 0, .string ⟨#[]⟩, .int .i64 0, .int .i64 0, .int .i64 0, .string ⟨#[]⟩, .string ⟨#[]⟩, .int .i64 0], .int .i64 2]) (by simp [results, Tryd.results5, go_sem, r0, r1, r2, r3, r4, r5, r6, r7]) rfl ⟨rfl, ((((((((hb3.setCell (Nat.le_refl _) _).setCell (Nat.le_refl _) _).setCell (Nat.le_refl _) _).setCell (Nat.le_refl _) _).setCell (Nat.le_refl _) _).setCell (Nat.le_refl _) _).setCell (Nat.le_refl _) _).setCell (Nat.le_refl _) _)⟩

set_option maxRecDepth 20000 in
set_option maxHeartbeats 8000000 in
theorem ctake_nohead (s t v : ByteArray) (w : World) (hs : s.size ≤ 1000) (hz : zeroB s = false) (hm : markB s = true) (hl : 104 ≤ s.size) (ht : cutT s true = t) (hv : s.extract 104 s.size = v) (hvz : zeroB v = true) (c0 u r : ByteArray) (ba : Int) (hts : 100 ≤ t.size ∧ t.size ≤ 1000) (hc0 : t.extract 0 98 = c0) (hu : t.extract 98 t.size = u) (hus : u.size ≤ 1000) (hbase : takeF u.toList 2 = (ba, r.toList, 0)) (hd : ∀ w, Calls Tryd.prog 13 #[.string c0] w fun e w' => e = .returned (.tuple #[.agg #[.int .i64 0, .string ⟨#[]⟩, .int .i64 0, .int .i64 0, .int .i64 0, .string ⟨#[]⟩, .string ⟨#[]⟩], .int .i64 2]) ∧ Below w.heap.size w w') : Calls Tryd.prog 5 #[.string s] w (CNo w 2) := by
  have HVZ := Lib.hid hvz
  have HD := Lib.hid hd
  have HBa := Lib.hid hbase
  have ht98 : (98 : Int) ≤ ((t.size : Nat) : Int) := by omega
  clear hvz hd hbase
  have hb : Below w.heap.size w (w.alloc (.cells #[.int .i64 0, .string ⟨#[]⟩, .int .i64 0, .int .i64 0, .int .i64 0, .string ⟨#[]⟩, .string ⟨#[]⟩, .int .i64 0] 25)) := (Below.refl _ _).alloc (Nat.le_refl _) _
  have hR : Bk (w.alloc (.cells #[.int .i64 0, .string ⟨#[]⟩, .int .i64 0, .int .i64 0, .int .i64 0, .string ⟨#[]⟩, .string ⟨#[]⟩, .int .i64 0] 25)) w.heap.size 25 #[.int .i64 0, .string ⟨#[]⟩, .int .i64 0, .int .i64 0, .int .i64 0, .string ⟨#[]⟩, .string ⟨#[]⟩, .int .i64 0] := Bk.new _ _ _
  have hl' : ¬ ((s.size : Nat) : Int) < 104 := by omega
  have hl2 : (104 : Int) ≤ ((s.size : Nat) : Int) := by omega
  have hvs : v.size ≤ 1000 := by rw [← hv, suf_size _ _ (by omega)]; omega
  have HB := Lib.hid hm
  have HT := Lib.hid ht
  have HZ := Lib.hid hz
  clear hm ht hz hl
  go_enter Tryd.func5, Tryd.ntmps5
  go_wp2_with fail
  (with_reducible refine (cut_is s t true HB.out HT.out _).mono ?_)
  rintro e w1 ⟨rfl, rfl⟩
  generalize w.alloc (.cells #[.int .i64 0, .string ⟨#[]⟩, .int .i64 0, .int .i64 0, .int .i64 0, .string ⟨#[]⟩, .string ⟨#[]⟩, .int .i64 0] 25) = w0 at *
  go_wp2_with fail
  (with_reducible refine (trimN s _ hs HZ.out).mono ?_)
  rintro e w2 ⟨z, rfl, hz0, hb1⟩
  have hR2 := hR.below' hb1
  have hb2 := below_then hb hb1 hb.size
  have hze := isEmpty_of z hz0
  clear hR hb hb1 hz0
  go_wp2_with fail
  (with_reducible refine (trimZ v _ hvs HVZ.out).mono ?_)
  rintro e w3 ⟨rfl, hb1⟩
  have hR3 := hR2.below' hb1
  have hb3 := below_then hb2 hb1 hb2.size
  clear hR2 hb2 hb1 hze
  go_wp2_with fail
  (with_reducible refine (HD.out _).mono ?_)
  rintro e w4 ⟨rfl, hb1⟩
  have hR4 := (hR3.below' hb1).alloc (.cells #[.int .i64 0, .string ⟨#[]⟩, .int .i64 0, .int .i64 0, .int .i64 0, .string ⟨#[]⟩, .string ⟨#[]⟩] 23)
  have hH : Bk (w4.alloc (.cells #[.int .i64 0, .string ⟨#[]⟩, .int .i64 0, .int .i64 0, .int .i64 0, .string ⟨#[]⟩, .string ⟨#[]⟩] 23)) w4.heap.size 23 #[.int .i64 0, .string ⟨#[]⟩, .int .i64 0, .int .i64 0, .int .i64 0, .string ⟨#[]⟩, .string ⟨#[]⟩] := Bk.new _ _ _
  have hb4 := (below_then hb3 hb1 hb3.size).alloc (below_then hb3 hb1 hb3.size).size (.cells #[.int .i64 0, .string ⟨#[]⟩, .int .i64 0, .int .i64 0, .int .i64 0, .string ⟨#[]⟩, .string ⟨#[]⟩] 23)
  clear hR3 hb3 hb1
  go_wp2_with fail
  (with_reducible refine (takeF_is u r 2 ba 0 _ (by omega) HBa.out).mono ?_)
  rintro e w5 ⟨rfl, hb1⟩
  have hR5 := hR4.below' hb1
  have hH5 := hH.below' hb1
  have hb5 := below_then hb4 hb1 hb4.size
  clear hR4 hH hb4 hb1
  have g0 := hH5.cell 0
  have g1 := hH5.cell 1
  have g2 := hH5.cell 2
  have g3 := hH5.cell 3
  have g4 := hH5.cell 4
  have g5 := hH5.cell 5
  have g6 := hH5.cell 6
  simp only [List.getElem?_toArray, List.getElem?_cons_succ, List.getElem?_cons_zero] at g0 g1 g2 g3 g4 g5 g6
  have hR6 := hR5.alloc (.cells #[.int .i64 0, .string ⟨#[]⟩, .int .i64 0, .int .i64 0, .int .i64 0, .string ⟨#[]⟩, .string ⟨#[]⟩, .int .i64 ba] 25)
  have hb6 := hb5.alloc hb5.size (.cells #[.int .i64 0, .string ⟨#[]⟩, .int .i64 0, .int .i64 0, .int .i64 0, .string ⟨#[]⟩, .string ⟨#[]⟩, .int .i64 ba] 25)
  clear hR5 hb5
  have r0 := hR6.cell 0
  have r1 := hR6.cell 1
  have r2 := hR6.cell 2
  have r3 := hR6.cell 3
  have r4 := hR6.cell 4
  have r5 := hR6.cell 5
  have r6 := hR6.cell 6
  have r7 := hR6.cell 7
  simp only [List.getElem?_toArray, List.getElem?_cons_succ, List.getElem?_cons_zero] at r0 r1 r2 r3 r4 r5 r6 r7
  have f0 := hR6.frozen 0
  have f1 := hR6.frozen 1
  have f2 := hR6.frozen 2
  have f3 := hR6.frozen 3
  have f4 := hR6.frozen 4
  have f5 := hR6.frozen 5
  have f6 := hR6.frozen 6
  have f7 := hR6.frozen 7
  go_wp2_with fail
  exact bodyPost_ret (v := .tuple #[.agg #[.int .i64 0, .string ⟨#[]⟩, .int .i64 0, .int .i64 0, .int .i64 0, .string ⟨#[]⟩, .string ⟨#[]⟩, .int .i64 0], .int .i64 2]) (by simp [results, Tryd.results5, go_sem, r0, r1, r2, r3, r4, r5, r6, r7]) rfl ⟨rfl, ((((((((hb6.setCell (Nat.le_refl _) _).setCell (Nat.le_refl _) _).setCell (Nat.le_refl _) _).setCell (Nat.le_refl _) _).setCell (Nat.le_refl _) _).setCell (Nat.le_refl _) _).setCell (Nat.le_refl _) _).setCell (Nat.le_refl _) _)⟩

set_option maxRecDepth 20000 in
set_option maxHeartbeats 8000000 in
theorem ctake_head (s t v : ByteArray) (w : World) (hs : s.size ≤ 1000) (hz : zeroB s = false) (hm : markB s = true) (hl : 104 ≤ s.size) (ht : cutT s true = t) (hv : s.extract 104 s.size = v) (hvz : zeroB v = true) (c0 u r : ByteArray) (ba : Int) (hts : 100 ≤ t.size ∧ t.size ≤ 1000) (hc0 : t.extract 0 98 = c0) (hu : t.extract 98 t.size = u) (hus : u.size ≤ 1000) (hbase : takeF u.toList 2 = (ba, r.toList, 0)) (id : Int) (sa : ByteArray) (n bs raw : Int) (ro ta : ByteArray) (hd : ∀ w, Calls Tryd.prog 13 #[.string c0] w fun e w' => e = .returned (.tuple #[.agg #[.int .i64 id, .string sa, .int .i64 n, .int .i64 bs, .int .i64 raw, .string ro, .string ta], .int .i64 0]) ∧ Below w.heap.size w w') (b : Bool) (hok : extOk id sa n bs raw ro ta ba = b) :
    Calls Tryd.prog 5 #[.string s] w fun e w' => e = .returned (.tuple #[.agg (if b then #[.int .i64 id, .string sa, .int .i64 n, .int .i64 bs, .int .i64 raw, .string ro, .string ta, .int .i64 ba] else #[.int .i64 0, .string ⟨#[]⟩, .int .i64 0, .int .i64 0, .int .i64 0, .string ⟨#[]⟩, .string ⟨#[]⟩, .int .i64 0]), .int .i64 (if b then 0 else 2)]) ∧ Below w.heap.size w w' := by
  have HOK := Lib.hid hok
  clear hok
  have HVZ := Lib.hid hvz
  have HD := Lib.hid hd
  have HBa := Lib.hid hbase
  have ht98 : (98 : Int) ≤ ((t.size : Nat) : Int) := by omega
  clear hvz hd hbase
  have hb : Below w.heap.size w (w.alloc (.cells #[.int .i64 0, .string ⟨#[]⟩, .int .i64 0, .int .i64 0, .int .i64 0, .string ⟨#[]⟩, .string ⟨#[]⟩, .int .i64 0] 25)) := (Below.refl _ _).alloc (Nat.le_refl _) _
  have hR : Bk (w.alloc (.cells #[.int .i64 0, .string ⟨#[]⟩, .int .i64 0, .int .i64 0, .int .i64 0, .string ⟨#[]⟩, .string ⟨#[]⟩, .int .i64 0] 25)) w.heap.size 25 #[.int .i64 0, .string ⟨#[]⟩, .int .i64 0, .int .i64 0, .int .i64 0, .string ⟨#[]⟩, .string ⟨#[]⟩, .int .i64 0] := Bk.new _ _ _
  have hl' : ¬ ((s.size : Nat) : Int) < 104 := by omega
  have hl2 : (104 : Int) ≤ ((s.size : Nat) : Int) := by omega
  have hvs : v.size ≤ 1000 := by rw [← hv, suf_size _ _ (by omega)]; omega
  have HB := Lib.hid hm
  have HT := Lib.hid ht
  have HZ := Lib.hid hz
  clear hm ht hz hl
  go_enter Tryd.func5, Tryd.ntmps5
  go_wp2_with fail
  (with_reducible refine (cut_is s t true HB.out HT.out _).mono ?_)
  rintro e w1 ⟨rfl, rfl⟩
  generalize w.alloc (.cells #[.int .i64 0, .string ⟨#[]⟩, .int .i64 0, .int .i64 0, .int .i64 0, .string ⟨#[]⟩, .string ⟨#[]⟩, .int .i64 0] 25) = w0 at *
  go_wp2_with fail
  (with_reducible refine (trimN s _ hs HZ.out).mono ?_)
  rintro e w2 ⟨z, rfl, hz0, hb1⟩
  have hR2 := hR.below' hb1
  have hb2 := below_then hb hb1 hb.size
  have hze := isEmpty_of z hz0
  clear hR hb hb1 hz0
  go_wp2_with fail
  (with_reducible refine (trimZ v _ hvs HVZ.out).mono ?_)
  rintro e w3 ⟨rfl, hb1⟩
  have hR3 := hR2.below' hb1
  have hb3 := below_then hb2 hb1 hb2.size
  clear hR2 hb2 hb1 hze
  go_wp2_with fail
  (with_reducible refine (HD.out _).mono ?_)
  rintro e w4 ⟨rfl, hb1⟩
  have hR4 := (hR3.below' hb1).alloc (.cells #[.int .i64 id, .string sa, .int .i64 n, .int .i64 bs, .int .i64 raw, .string ro, .string ta] 23)
  have hH : Bk (w4.alloc (.cells #[.int .i64 id, .string sa, .int .i64 n, .int .i64 bs, .int .i64 raw, .string ro, .string ta] 23)) w4.heap.size 23 #[.int .i64 id, .string sa, .int .i64 n, .int .i64 bs, .int .i64 raw, .string ro, .string ta] := Bk.new _ _ _
  have hb4 := (below_then hb3 hb1 hb3.size).alloc (below_then hb3 hb1 hb3.size).size (.cells #[.int .i64 id, .string sa, .int .i64 n, .int .i64 bs, .int .i64 raw, .string ro, .string ta] 23)
  clear hR3 hb3 hb1
  go_wp2_with fail
  (with_reducible refine (takeF_is u r 2 ba 0 _ (by omega) HBa.out).mono ?_)
  rintro e w5 ⟨rfl, hb1⟩
  have hR5 := hR4.below' hb1
  have hH5 := hH.below' hb1
  have hb5 := below_then hb4 hb1 hb4.size
  clear hR4 hH hb4 hb1
  have g0 := hH5.cell 0
  have g1 := hH5.cell 1
  have g2 := hH5.cell 2
  have g3 := hH5.cell 3
  have g4 := hH5.cell 4
  have g5 := hH5.cell 5
  have g6 := hH5.cell 6
  simp only [List.getElem?_toArray, List.getElem?_cons_succ, List.getElem?_cons_zero] at g0 g1 g2 g3 g4 g5 g6
  have hR6 := hR5.alloc (.cells #[.int .i64 id, .string sa, .int .i64 n, .int .i64 bs, .int .i64 raw, .string ro, .string ta, .int .i64 ba] 25)
  have hX6 : Bk (w5.alloc (.cells #[.int .i64 id, .string sa, .int .i64 n, .int .i64 bs, .int .i64 raw, .string ro, .string ta, .int .i64 ba] 25)) w5.heap.size 25 #[.int .i64 id, .string sa, .int .i64 n, .int .i64 bs, .int .i64 raw, .string ro, .string ta, .int .i64 ba] := Bk.new _ _ _
  have hb6 := hb5.alloc hb5.size (.cells #[.int .i64 id, .string sa, .int .i64 n, .int .i64 bs, .int .i64 raw, .string ro, .string ta, .int .i64 ba] 25)
  clear hR5 hb5
  cases b with
  | false =>
    go_wp2_with fail
    (with_reducible refine (ccheck_any id sa n bs raw ro ta ba false 1 HOK.out rfl _).mono ?_)
    rintro e w7 ⟨rfl, hb1⟩
    have hR7 := hR6.below' hb1
    have hb7 := below_then hb6 hb1 hb6.size
    clear hR6 hX6 hb6 hb1 hH5 g0 g1 g2 g3 g4 g5 g6
    have r0 := hR7.cell 0
    have r1 := hR7.cell 1
    have r2 := hR7.cell 2
    have r3 := hR7.cell 3
    have r4 := hR7.cell 4
    have r5 := hR7.cell 5
    have r6 := hR7.cell 6
    have r7 := hR7.cell 7
    simp only [List.getElem?_toArray, List.getElem?_cons_succ, List.getElem?_cons_zero] at r0 r1 r2 r3 r4 r5 r6 r7
    have f0 := hR7.frozen 0
    have f1 := hR7.frozen 1
    have f2 := hR7.frozen 2
    have f3 := hR7.frozen 3
    have f4 := hR7.frozen 4
    have f5 := hR7.frozen 5
    have f6 := hR7.frozen 6
    have f7 := hR7.frozen 7
    go_wp2_with fail
    exact bodyPost_ret (v := .tuple #[.agg #[.int .i64 0, .string ⟨#[]⟩, .int .i64 0, .int .i64 0, .int .i64 0, .string ⟨#[]⟩, .string ⟨#[]⟩, .int .i64 0], .int .i64 2]) (by simp [results, Tryd.results5, go_sem, r0, r1, r2, r3, r4, r5, r6, r7]) rfl ⟨rfl, ((((((((hb7.setCell (Nat.le_refl _) _).setCell (Nat.le_refl _) _).setCell (Nat.le_refl _) _).setCell (Nat.le_refl _) _).setCell (Nat.le_refl _) _).setCell (Nat.le_refl _) _).setCell (Nat.le_refl _) _).setCell (Nat.le_refl _) _)⟩
  | true =>
    go_wp2_with fail
    (with_reducible refine (ccheck_any id sa n bs raw ro ta ba true 0 HOK.out rfl _).mono ?_)
    rintro e w7 ⟨rfl, hb1⟩
    have hR7 := hR6.below' hb1
    have hX7 := hX6.below' hb1
    have hb7 := below_then hb6 hb1 hb6.size
    clear hR6 hX6 hb6 hb1 hH5 g0 g1 g2 g3 g4 g5 g6
    have q0 := hX7.cell 0
    have q1 := hX7.cell 1
    have q2 := hX7.cell 2
    have q3 := hX7.cell 3
    have q4 := hX7.cell 4
    have q5 := hX7.cell 5
    have q6 := hX7.cell 6
    have q7 := hX7.cell 7
    simp only [List.getElem?_toArray, List.getElem?_cons_succ, List.getElem?_cons_zero] at q0 q1 q2 q3 q4 q5 q6 q7
    have r0 := hR7.cell 0
    have r1 := hR7.cell 1
    have r2 := hR7.cell 2
    have r3 := hR7.cell 3
    have r4 := hR7.cell 4
    have r5 := hR7.cell 5
    have r6 := hR7.cell 6
    have r7 := hR7.cell 7
    simp only [List.getElem?_toArray, List.getElem?_cons_succ, List.getElem?_cons_zero] at r0 r1 r2 r3 r4 r5 r6 r7
    have f0 := hR7.frozen 0
    have f1 := hR7.frozen 1
    have f2 := hR7.frozen 2
    have f3 := hR7.frozen 3
    have f4 := hR7.frozen 4
    have f5 := hR7.frozen 5
    have f6 := hR7.frozen 6
    have f7 := hR7.frozen 7
    go_wp2_with fail
    exact bodyPost_ret (v := .tuple #[.agg #[.int .i64 id, .string sa, .int .i64 n, .int .i64 bs, .int .i64 raw, .string ro, .string ta, .int .i64 ba], .int .i64 0]) (by simp [results, Tryd.results5, go_sem, r0, r1, r2, r3, r4, r5, r6, r7]) rfl ⟨rfl, ((((((((hb7.setCell (Nat.le_refl _) _).setCell (Nat.le_refl _) _).setCell (Nat.le_refl _) _).setCell (Nat.le_refl _) _).setCell (Nat.le_refl _) _).setCell (Nat.le_refl _) _).setCell (Nat.le_refl _) _).setCell (Nat.le_refl _) _)⟩
end Go.Proofs.YtachmdfabnigpaaDoor
