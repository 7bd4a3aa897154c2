/-
  journal.blank, and the mark of a record. The reference's Take of a record. The reference's Take of a record's header.
-/
import Derived.Test.YtaagdoaeefhleaaDoorCatT
import Derived.Test.YtaagdoaeefhleaaDoorP9
import Derived.Test.YtaagdoaeefhleaaDoorBitU
import Derived.Test.YtaagdoaeefhleaaDoorP2
namespace Go.Proofs.YtaagdoaeefhleaaDoor
open Go.RowKit

set_option maxRecDepth 20000 in
set_option maxHeartbeats 8000000 in
theorem blank_any (s : ByteArray) (b : Bool) (hb : zeroB s = b) (w : World) (hs : s.size ≤ 1000) :
    Calls Tryd.prog 24 #[.string s] w fun e w' => e = .returned (.bool b) ∧ Below w.heap.size w w' := by
  cases b with
  | true =>
    have HZ := Lib.hid hb
    clear hb
    go_enter Tryd.func24, Tryd.ntmps24
    go_wp2_with fail
    (with_reducible refine (trimZ s _ hs HZ.out).mono ?_)
    rintro e w2 ⟨rfl, hb1⟩
    go_wp2_with fail
    go_ret
    exact ⟨rfl, hb1⟩
  | false =>
    have HZ := Lib.hid hb
    clear hb
    go_enter Tryd.func24, Tryd.ntmps24
    go_wp2_with fail
    (with_reducible refine (trimN s _ hs HZ.out).mono ?_)
    rintro e w2 ⟨z, rfl, hz0, hb1⟩
    have hze := isEmpty_of z hz0
    clear hz0
    go_wp2_with fail
    go_ret
    exact ⟨rfl, hb1⟩

/-- Does a text begin with the mark? -/
def markB (s : ByteArray) : Bool := Lib.hasPrefix s.toList [83, 76, 74, 49]
theorem mark_is (s : ByteArray) : markB s = ((s.extract 0 4).toList == [83, 76, 74, 49]) := by
  have e : (s.extract 0 4).toList = s.toList.take 4 := by rw [toList_ext, List.drop_zero]
  rw [e]
  unfold markB Lib.hasPrefix
  rw [Bool.eq_iff_iff, List.isPrefixOf_iff_prefix, List.prefix_iff_eq_take, beq_iff_eq]
  exact ⟨fun h => h.symm, fun h => h.symm⟩
theorem pre_is (s : ByteArray) (b : Bool) (h : markB s = b) (w : World) : Calls Tryd.prog 25 #[.string s, .string ⟨#[83, 76, 74, 49]⟩] w fun e w' => e = .returned (.bool b) ∧ w' = w := by
  refine (Tryd.strings_HasPrefix s ⟨#[83, 76, 74, 49]⟩ w).mono ?_
  rintro e w' ⟨rfl, rfl⟩
  have hp : Lib.hasPrefix s.data.toList (⟨#[83, 76, 74, 49]⟩ : ByteArray).data.toList = b := by rw [← h]; unfold markB; rw [ByteArray.toList_eq]
  rw [hp]
  exact ⟨rfl, rfl⟩
theorem head_both (h : ByteArray) (hs : h.size = 98) : ∃ (b : Bool) (id : Int) (sa : ByteArray) (n bs raw : Int) (ro ta : ByteArray), (∀ w, Calls Tryd.prog 26 #[.string h] w (HTEnd w b #[.int .i64 id, .string sa, .int .i64 n, .int .i64 bs, .int .i64 raw, .string ro, .string ta])) ∧ (∀ w, Calls Tryd.prog 30 #[.string h] w (HTEnd w b #[.int .i64 id, .string sa, .int .i64 n, .int .i64 bs, .int .i64 raw, .string ro, .string ta])) := by
  cases hq : ((h.extract 0 4).toList == [83, 76, 71, 49]) with
  | true => exact ⟨_, _, _, _, _, _, _, _, fun w => htake_parts h w hs hq _ _ _ _ _ _ _ _ _ _ _ _ _ _ _ (parts_fn h hs), fun w => htakeR_parts h w hs hq _ _ _ _ _ _ _ _ _ _ _ _ _ _ _ (parts_fn h hs)⟩
  | false => exact ⟨false, 0, ⟨#[]⟩, 0, 0, 0, ⟨#[]⟩, ⟨#[]⟩, fun w => (htake_bad h w (.inr ⟨hs, hq⟩)).mono fun e w' ⟨he, hb⟩ => ⟨by rw [he]; rfl, hb⟩, fun w => (htakeR_bad h w (.inr ⟨hs, hq⟩)).mono fun e w' ⟨he, hb⟩ => ⟨by rw [he]; rfl, hb⟩⟩
def JNo (w : World) (k : Int) (e : Ending) (w' : World) : Prop := e = .returned (.tuple #[.agg #[.int .i64 0, .string ⟨#[]⟩, .int .i64 0, .int .i64 0, .int .i64 0, .string ⟨#[]⟩, .string ⟨#[]⟩, .int .i64 0, .int .i64 0, .int .u64 0, .int .u64 0, .int .u64 0, .int .u64 0], .int .i64 k]) ∧ Below w.heap.size w w'
def JYes (id : Int) (sa : ByteArray) (n bs raw : Int) (ro ta : ByteArray) (ba : Int) (L : List Bool) (k : Int) (w : World) (e : Ending) (w' : World) : Prop := e = .returned (.tuple #[.agg #[.int .i64 id, .string sa, .int .i64 n, .int .i64 bs, .int .i64 raw, .string ro, .string ta, .int .i64 ba, .int .i64 (L.length : Nat), .int .u64 (wdN L 0 : Nat), .int .u64 (wdN L 1 : Nat), .int .u64 (wdN L 2 : Nat), .int .u64 (wdN L 3 : Nat)], .int .i64 k]) ∧ Below w.heap.size w w'
theorem JNo.yes {w : World} {k : Int} {e : Ending} {w' : World} (h : JNo w k e w') : JYes 0 ⟨#[]⟩ 0 0 0 ⟨#[]⟩ ⟨#[]⟩ 0 [] k w e w' := by
  have e0 : setV [] = .agg #[.int .i64 0, .int .u64 0, .int .u64 0, .int .u64 0, .int .u64 0] := setV_nil
  unfold setV at e0
  simp only [Value.agg.injEq, Array.mk.injEq, List.cons.injEq, and_true] at e0
  obtain ⟨e1, e2, e3, e4, e5⟩ := e0
  unfold JYes
  rw [e1, e2, e3, e4, e5]
  exact h
theorem heldb {w0 w w1 : World} {a : Addr} {v : Value} (hb : Below w.heap.size w w1) (h : Below w0.heap.size w0 w ∧ w.cell? a = some v) : Below w0.heap.size w0 w1 ∧ w1.cell? a = some v :=
  ⟨bl h.1 hb, (hb.cell (World.block_lt_of_cell? w _ h.2)).trans h.2⟩
theorem heldc {w0 w : World} {a : Addr} {v : Value} (o : Obj) (h : Below w0.heap.size w0 w ∧ w.cell? a = some v) : Below w0.heap.size w0 (w.alloc o) ∧ (w.alloc o).cell? a = some v :=
  heldb ((Below.refl _ _).alloc (Nat.le_refl _) o) h
theorem heldd {w0 w : World} {a : Addr} {v : Value} (L : List Bool) {hq : Nat} (hqb : w0.heap.size ≤ hq) (h : Below w0.heap.size w0 w ∧ w.cell? a = some v) (ha : a.block < w0.heap.size) :
    Below w0.heap.size w0 (((((w.setCell ⟨hq, 0, none⟩ (.int .i64 (L.length : Nat))).setCell ⟨hq, 1, none⟩ (.int .u64 (wdN L 0 : Nat))).setCell ⟨hq, 2, none⟩ (.int .u64 (wdN L 1 : Nat))).setCell ⟨hq, 3, none⟩ (.int .u64 (wdN L 2 : Nat))).setCell ⟨hq, 4, none⟩ (.int .u64 (wdN L 3 : Nat))) ∧
    (((((w.setCell ⟨hq, 0, none⟩ (.int .i64 (L.length : Nat))).setCell ⟨hq, 1, none⟩ (.int .u64 (wdN L 0 : Nat))).setCell ⟨hq, 2, none⟩ (.int .u64 (wdN L 1 : Nat))).setCell ⟨hq, 3, none⟩ (.int .u64 (wdN L 2 : Nat))).setCell ⟨hq, 4, none⟩ (.int .u64 (wdN L 3 : Nat))).cell? a = some v :=
  ⟨h.1.trans (below_only (put_only w hq L) hqb h.1.size), (put_only w hq L).cell h.2 (by simp; omega)⟩
end Go.Proofs.YtaagdoaeefhleaaDoor
namespace Go.Proofs.YtaagdoaeefhleaaDoor
open Go.RowKit

/-- What the reference's Take gives: a place, a set's slice, a code. -/
def RNo (w : World) (k : Int) (e : Ending) (w' : World) : Prop := e = .returned (.tuple #[.agg #[.int .i64 0, .string ⟨#[]⟩, .int .i64 0, .int .i64 0, .int .i64 0, .string ⟨#[]⟩, .string ⟨#[]⟩, .int .i64 0], .slice none 0 0, .int .i64 k]) ∧ Below w.heap.size w w'

set_option maxRecDepth 20000 in
set_option maxHeartbeats 8000000 in
theorem jtakeR_zero (s : ByteArray) (w : World) (hs : s.size ≤ 1000) (hz : zeroB s = true) : Calls Tryd.prog 11 #[.string s] w (RNo w 8) := by
  have hb : Below w.heap.size w ((w.alloc (.cells #[.int .i64 0, .string ⟨#[]⟩, .int .i64 0, .int .i64 0, .int .i64 0, .string ⟨#[]⟩, .string ⟨#[]⟩, .int .i64 0] 25)).alloc (.cells #[.int .i64 0, .string ⟨#[]⟩, .int .i64 0, .int .i64 0, .int .i64 0, .string ⟨#[]⟩, .string ⟨#[]⟩, .int .i64 0] 25)) := ((Below.refl _ _).alloc (Nat.le_refl _) _).alloc (by simp) _
  have hR : Bk ((w.alloc (.cells #[.int .i64 0, .string ⟨#[]⟩, .int .i64 0, .int .i64 0, .int .i64 0, .string ⟨#[]⟩, .string ⟨#[]⟩, .int .i64 0] 25)).alloc (.cells #[.int .i64 0, .string ⟨#[]⟩, .int .i64 0, .int .i64 0, .int .i64 0, .string ⟨#[]⟩, .string ⟨#[]⟩, .int .i64 0] 25)) w.heap.size 25 #[.int .i64 0, .string ⟨#[]⟩, .int .i64 0, .int .i64 0, .int .i64 0, .string ⟨#[]⟩, .string ⟨#[]⟩, .int .i64 0] := (Bk.new _ _ _).alloc _
  have hN : Bk ((w.alloc (.cells #[.int .i64 0, .string ⟨#[]⟩, .int .i64 0, .int .i64 0, .int .i64 0, .string ⟨#[]⟩, .string ⟨#[]⟩, .int .i64 0] 25)).alloc (.cells #[.int .i64 0, .string ⟨#[]⟩, .int .i64 0, .int .i64 0, .int .i64 0, .string ⟨#[]⟩, .string ⟨#[]⟩, .int .i64 0] 25)) (w.heap.size + 1) 25 #[.int .i64 0, .string ⟨#[]⟩, .int .i64 0, .int .i64 0, .int .i64 0, .string ⟨#[]⟩, .string ⟨#[]⟩, .int .i64 0] := by have h := Bk.new (w.alloc (.cells #[.int .i64 0, .string ⟨#[]⟩, .int .i64 0, .int .i64 0, .int .i64 0, .string ⟨#[]⟩, .string ⟨#[]⟩, .int .i64 0] 25)) 25 #[.int .i64 0, .string ⟨#[]⟩, .int .i64 0, .int .i64 0, .int .i64 0, .string ⟨#[]⟩, .string ⟨#[]⟩, .int .i64 0]; simpa using h
  have HZ := Lib.hid hz
  clear hz
  go_enter Tryd.func11, Tryd.ntmps11
  go_upto_region 2 with (fail)
  generalize ((w.alloc (.cells #[.int .i64 0, .string ⟨#[]⟩, .int .i64 0, .int .i64 0, .int .i64 0, .string ⟨#[]⟩, .string ⟨#[]⟩, .int .i64 0] 25)).alloc (.cells #[.int .i64 0, .string ⟨#[]⟩, .int .i64 0, .int .i64 0, .int .i64 0, .string ⟨#[]⟩, .string ⟨#[]⟩, .int .i64 0] 25)) = w0 at *
  go_wp2_with fail
  (with_reducible refine (zerosR_any s true HZ.out _ hs).mono ?_)
  rintro e w2 ⟨rfl, hb1⟩
  have hR2 := hR.below' hb1
  have hN2 := hN.below' hb1
  have hb2 := below_then hb hb1 hb.size
  clear hR hN hb hb1
  have r0 := hR2.cell 0
  have r1 := hR2.cell 1
  have r2 := hR2.cell 2
  have r3 := hR2.cell 3
  have r4 := hR2.cell 4
  have r5 := hR2.cell 5
  have r6 := hR2.cell 6
  have r7 := hR2.cell 7
  simp only [List.getElem?_toArray, List.getElem?_cons_succ, List.getElem?_cons_zero] at r0 r1 r2 r3 r4 r5 r6 r7
  have f0 := hR2.frozen 0
  have f1 := hR2.frozen 1
  have f2 := hR2.frozen 2
  have f3 := hR2.frozen 3
  have f4 := hR2.frozen 4
  have f5 := hR2.frozen 5
  have f6 := hR2.frozen 6
  have f7 := hR2.frozen 7
  have c0 := hN2.cell 0
  have c1 := hN2.cell 1
  have c2 := hN2.cell 2
  have c3 := hN2.cell 3
  have c4 := hN2.cell 4
  have c5 := hN2.cell 5
  have c6 := hN2.cell 6
  have c7 := hN2.cell 7
  simp only [List.getElem?_toArray, List.getElem?_cons_succ, List.getElem?_cons_zero] at c0 c1 c2 c3 c4 c5 c6 c7
  go_wp2_with fail
  exact bodyPost_ret (v := .tuple #[.agg #[.int .i64 0, .string ⟨#[]⟩, .int .i64 0, .int .i64 0, .int .i64 0, .string ⟨#[]⟩, .string ⟨#[]⟩, .int .i64 0], .slice none 0 0, .int .i64 8]) (by simp [results, Tryd.results11, go_sem, r0, r1, r2, r3, r4, r5, r6, r7]) rfl ⟨rfl, ((((((((hb2.setCell (Nat.le_refl _) _).setCell (Nat.le_refl _) _).setCell (Nat.le_refl _) _).setCell (Nat.le_refl _) _).setCell (Nat.le_refl _) _).setCell (Nat.le_refl _) _).setCell (Nat.le_refl _) _).setCell (Nat.le_refl _) _)⟩

set_option maxRecDepth 20000 in
set_option maxHeartbeats 8000000 in
theorem jtakeR_nomark (s : ByteArray) (w : World) (hs : s.size ≤ 1000) (hz : zeroB s = false) (hbad : s.size < 136 ∨ (136 ≤ s.size ∧ ((s.extract 0 4).toList == [83, 76, 74, 49]) = false)) : Calls Tryd.prog 11 #[.string s] w (RNo w 2) := by
  have hbad2 : ((s.size : Nat) : Int) < 136 ∨ (¬ ((s.size : Nat) : Int) < 136 ∧ (4 : Int) ≤ ((s.size : Nat) : Int) ∧ ((s.extract 0 4).toList == [83, 76, 74, 49]) = false) := hbad.imp (fun h => by omega) (fun h => ⟨by omega, by omega, h.2⟩)
  clear hbad
  rcases hbad2 with hl | ⟨hl, hl4, hq⟩
  all_goals
    have hb : Below w.heap.size w ((w.alloc (.cells #[.int .i64 0, .string ⟨#[]⟩, .int .i64 0, .int .i64 0, .int .i64 0, .string ⟨#[]⟩, .string ⟨#[]⟩, .int .i64 0] 25)).alloc (.cells #[.int .i64 0, .string ⟨#[]⟩, .int .i64 0, .int .i64 0, .int .i64 0, .string ⟨#[]⟩, .string ⟨#[]⟩, .int .i64 0] 25)) := ((Below.refl _ _).alloc (Nat.le_refl _) _).alloc (by simp) _
    have hR : Bk ((w.alloc (.cells #[.int .i64 0, .string ⟨#[]⟩, .int .i64 0, .int .i64 0, .int .i64 0, .string ⟨#[]⟩, .string ⟨#[]⟩, .int .i64 0] 25)).alloc (.cells #[.int .i64 0, .string ⟨#[]⟩, .int .i64 0, .int .i64 0, .int .i64 0, .string ⟨#[]⟩, .string ⟨#[]⟩, .int .i64 0] 25)) w.heap.size 25 #[.int .i64 0, .string ⟨#[]⟩, .int .i64 0, .int .i64 0, .int .i64 0, .string ⟨#[]⟩, .string ⟨#[]⟩, .int .i64 0] := (Bk.new _ _ _).alloc _
    have hN : Bk ((w.alloc (.cells #[.int .i64 0, .string ⟨#[]⟩, .int .i64 0, .int .i64 0, .int .i64 0, .string ⟨#[]⟩, .string ⟨#[]⟩, .int .i64 0] 25)).alloc (.cells #[.int .i64 0, .string ⟨#[]⟩, .int .i64 0, .int .i64 0, .int .i64 0, .string ⟨#[]⟩, .string ⟨#[]⟩, .int .i64 0] 25)) (w.heap.size + 1) 25 #[.int .i64 0, .string ⟨#[]⟩, .int .i64 0, .int .i64 0, .int .i64 0, .string ⟨#[]⟩, .string ⟨#[]⟩, .int .i64 0] := by have h := Bk.new (w.alloc (.cells #[.int .i64 0, .string ⟨#[]⟩, .int .i64 0, .int .i64 0, .int .i64 0, .string ⟨#[]⟩, .string ⟨#[]⟩, .int .i64 0] 25)) 25 #[.int .i64 0, .string ⟨#[]⟩, .int .i64 0, .int .i64 0, .int .i64 0, .string ⟨#[]⟩, .string ⟨#[]⟩, .int .i64 0]; simpa using h
    have HZ := Lib.hid hz
    clear hz
    go_enter Tryd.func11, Tryd.ntmps11
    go_upto_region 2 with (fail)
    generalize ((w.alloc (.cells #[.int .i64 0, .string ⟨#[]⟩, .int .i64 0, .int .i64 0, .int .i64 0, .string ⟨#[]⟩, .string ⟨#[]⟩, .int .i64 0] 25)).alloc (.cells #[.int .i64 0, .string ⟨#[]⟩, .int .i64 0, .int .i64 0, .int .i64 0, .string ⟨#[]⟩, .string ⟨#[]⟩, .int .i64 0] 25)) = w0 at *
    go_wp2_with fail
    (with_reducible refine (zerosR_any s false HZ.out _ hs).mono ?_)
    rintro e w2 ⟨rfl, hb1⟩
    have hR2 := hR.below' hb1
    have hN2 := hN.below' hb1
    have hb2 := below_then hb hb1 hb.size
    clear hR hN hb hb1
    have r0 := hR2.cell 0
    have r1 := hR2.cell 1
    have r2 := hR2.cell 2
    have r3 := hR2.cell 3
    have r4 := hR2.cell 4
    have r5 := hR2.cell 5
    have r6 := hR2.cell 6
    have r7 := hR2.cell 7
    simp only [List.getElem?_toArray, List.getElem?_cons_succ, List.getElem?_cons_zero] at r0 r1 r2 r3 r4 r5 r6 r7
    have f0 := hR2.frozen 0
    have f1 := hR2.frozen 1
    have f2 := hR2.frozen 2
    have f3 := hR2.frozen 3
    have f4 := hR2.frozen 4
    have f5 := hR2.frozen 5
    have f6 := hR2.frozen 6
    have f7 := hR2.frozen 7
    have c0 := hN2.cell 0
    have c1 := hN2.cell 1
    have c2 := hN2.cell 2
    have c3 := hN2.cell 3
    have c4 := hN2.cell 4
    have c5 := hN2.cell 5
    have c6 := hN2.cell 6
    have c7 := hN2.cell 7
    simp only [List.getElem?_toArray, List.getElem?_cons_succ, List.getElem?_cons_zero] at c0 c1 c2 c3 c4 c5 c6 c7
    go_wp2_with fail
    exact bodyPost_ret (v := .tuple #[.agg #[.int .i64 0, .string ⟨#[]⟩, .int .i64 0, .int .i64 0, .int .i64 0, .string ⟨#[]⟩, .string ⟨#[]⟩, .int .i64 0], .slice none 0 0, .int .i64 2]) (by simp [results, Tryd.results11, go_sem, r0, r1, r2, r3, r4, r5, r6, r7]) rfl ⟨rfl, ((((((((hb2.setCell (Nat.le_refl _) _).setCell (Nat.le_refl _) _).setCell (Nat.le_refl _) _).setCell (Nat.le_refl _) _).setCell (Nat.le_refl _) _).setCell (Nat.le_refl _) _).setCell (Nat.le_refl _) _).setCell (Nat.le_refl _) _)⟩

set_option maxRecDepth 20000 in
set_option maxHeartbeats 8000000 in
theorem jtakeR_tail (s v : ByteArray) (w : World) (hs : s.size ≤ 1000) (hz : zeroB s = false) (hq : ((s.extract 0 4).toList == [83, 76, 74, 49]) = true) (hl : 136 ≤ s.size) (hv : s.extract 136 s.size = v) (hvz : zeroB v = false) : Calls Tryd.prog 11 #[.string s] w (RNo w 2) := by
  have HVZ := Lib.hid hvz
  clear hvz
  have hl' : ¬ ((s.size : Nat) : Int) < 136 := by omega
  have hl2 : (136 : Int) ≤ ((s.size : Nat) : Int) := by omega
  have hl4 : (4 : Int) ≤ ((s.size : Nat) : Int) := by omega
  have hvs : v.size ≤ 1000 := by rw [← hv, suf_size _ _ (by omega)]; omega
  clear hl
  have hb : Below w.heap.size w ((w.alloc (.cells #[.int .i64 0, .string ⟨#[]⟩, .int .i64 0, .int .i64 0, .int .i64 0, .string ⟨#[]⟩, .string ⟨#[]⟩, .int .i64 0] 25)).alloc (.cells #[.int .i64 0, .string ⟨#[]⟩, .int .i64 0, .int .i64 0, .int .i64 0, .string ⟨#[]⟩, .string ⟨#[]⟩, .int .i64 0] 25)) := ((Below.refl _ _).alloc (Nat.le_refl _) _).alloc (by simp) _
  have hR : Bk ((w.alloc (.cells #[.int .i64 0, .string ⟨#[]⟩, .int .i64 0, .int .i64 0, .int .i64 0, .string ⟨#[]⟩, .string ⟨#[]⟩, .int .i64 0] 25)).alloc (.cells #[.int .i64 0, .string ⟨#[]⟩, .int .i64 0, .int .i64 0, .int .i64 0, .string ⟨#[]⟩, .string ⟨#[]⟩, .int .i64 0] 25)) w.heap.size 25 #[.int .i64 0, .string ⟨#[]⟩, .int .i64 0, .int .i64 0, .int .i64 0, .string ⟨#[]⟩, .string ⟨#[]⟩, .int .i64 0] := (Bk.new _ _ _).alloc _
  have hN : Bk ((w.alloc (.cells #[.int .i64 0, .string ⟨#[]⟩, .int .i64 0, .int .i64 0, .int .i64 0, .string ⟨#[]⟩, .string ⟨#[]⟩, .int .i64 0] 25)).alloc (.cells #[.int .i64 0, .string ⟨#[]⟩, .int .i64 0, .int .i64 0, .int .i64 0, .string ⟨#[]⟩, .string ⟨#[]⟩, .int .i64 0] 25)) (w.heap.size + 1) 25 #[.int .i64 0, .string ⟨#[]⟩, .int .i64 0, .int .i64 0, .int .i64 0, .string ⟨#[]⟩, .string ⟨#[]⟩, .int .i64 0] := by have h := Bk.new (w.alloc (.cells #[.int .i64 0, .string ⟨#[]⟩, .int .i64 0, .int .i64 0, .int .i64 0, .string ⟨#[]⟩, .string ⟨#[]⟩, .int .i64 0] 25)) 25 #[.int .i64 0, .string ⟨#[]⟩, .int .i64 0, .int .i64 0, .int .i64 0, .string ⟨#[]⟩, .string ⟨#[]⟩, .int .i64 0]; simpa using h
  have HZ := Lib.hid hz
  clear hz
  go_enter Tryd.func11, Tryd.ntmps11
  go_upto_region 2 with (fail)
  generalize ((w.alloc (.cells #[.int .i64 0, .string ⟨#[]⟩, .int .i64 0, .int .i64 0, .int .i64 0, .string ⟨#[]⟩, .string ⟨#[]⟩, .int .i64 0] 25)).alloc (.cells #[.int .i64 0, .string ⟨#[]⟩, .int .i64 0, .int .i64 0, .int .i64 0, .string ⟨#[]⟩, .string ⟨#[]⟩, .int .i64 0] 25)) = w0 at *
  go_wp2_with fail
  (with_reducible refine (zerosR_any s false HZ.out _ hs).mono ?_)
  rintro e w2 ⟨rfl, hb1⟩
  have hR2 := hR.below' hb1
  have hN2 := hN.below' hb1
  have hb2 := below_then hb hb1 hb.size
  clear hR hN hb hb1
  go_wp2_with fail
  (with_reducible refine (zerosR_any v false HVZ.out _ hvs).mono ?_)
  rintro e w3 ⟨rfl, hb1⟩
  have hR3 := hR2.below' hb1
  have hN3 := hN2.below' hb1
  have hb3 := below_then hb2 hb1 hb2.size
  clear hR2 hN2 hb2 hb1
  have r0 := hR3.cell 0
  have r1 := hR3.cell 1
  have r2 := hR3.cell 2
  have r3 := hR3.cell 3
  have r4 := hR3.cell 4
  have r5 := hR3.cell 5
  have r6 := hR3.cell 6
  have r7 := hR3.cell 7
  simp only [List.getElem?_toArray, List.getElem?_cons_succ, List.getElem?_cons_zero] at r0 r1 r2 r3 r4 r5 r6 r7
  have f0 := hR3.frozen 0
  have f1 := hR3.frozen 1
  have f2 := hR3.frozen 2
  have f3 := hR3.frozen 3
  have f4 := hR3.frozen 4
  have f5 := hR3.frozen 5
  have f6 := hR3.frozen 6
  have f7 := hR3.frozen 7
  have c0 := hN3.cell 0
  have c1 := hN3.cell 1
  have c2 := hN3.cell 2
  have c3 := hN3.cell 3
  have c4 := hN3.cell 4
  have c5 := hN3.cell 5
  have c6 := hN3.cell 6
  have c7 := hN3.cell 7
  simp only [List.getElem?_toArray, List.getElem?_cons_succ, List.getElem?_cons_zero] at c0 c1 c2 c3 c4 c5 c6 c7
  go_wp2_with fail
  exact bodyPost_ret (v := .tuple #[.agg #[.int .i64 0, .string ⟨#[]⟩, .int .i64 0, .int .i64 0, .int .i64 0, .string ⟨#[]⟩, .string ⟨#[]⟩, .int .i64 0], .slice none 0 0, .int .i64 2]) (by simp [results, Tryd.results11, go_sem, r0, r1, r2, r3, r4, r5, r6, r7]) rfl ⟨rfl, ((((((((hb3.setCell (Nat.le_refl _) _).setCell (Nat.le_refl _) _).setCell (Nat.le_refl _) _).setCell (Nat.le_refl _) _).setCell (Nat.le_refl _) _).setCell (Nat.le_refl _) _).setCell (Nat.le_refl _) _).setCell (Nat.le_refl _) _)⟩

set_option maxRecDepth 20000 in
set_option maxHeartbeats 8000000 in
theorem jtakeR_nohead (s v : ByteArray) (w : World) (hs : s.size ≤ 1000) (hz : zeroB s = false) (hq : ((s.extract 0 4).toList == [83, 76, 74, 49]) = true) (hl : 136 ≤ s.size) (hv : s.extract 136 s.size = v) (hvz : zeroB v = true) (c0 : ByteArray) (hc0 : s.extract 4 102 = c0) (hd : ∀ w, Calls Tryd.prog 30 #[.string c0] w fun e w' => e = .returned (.tuple #[.agg #[.int .i64 0, .string ⟨#[]⟩, .int .i64 0, .int .i64 0, .int .i64 0, .string ⟨#[]⟩, .string ⟨#[]⟩], .int .i64 2]) ∧ Below w.heap.size w w') : Calls Tryd.prog 11 #[.string s] w (RNo w 2) := by
  have HVZ := Lib.hid hvz
  have HD := Lib.hid hd
  have hl102 : (102 : Int) ≤ ((s.size : Nat) : Int) := by omega
  clear hvz hd
  have hl' : ¬ ((s.size : Nat) : Int) < 136 := by omega
  have hl2 : (136 : Int) ≤ ((s.size : Nat) : Int) := by omega
  have hl4 : (4 : Int) ≤ ((s.size : Nat) : Int) := by omega
  have hvs : v.size ≤ 1000 := by rw [← hv, suf_size _ _ (by omega)]; omega
  clear hl
  have hb : Below w.heap.size w ((w.alloc (.cells #[.int .i64 0, .string ⟨#[]⟩, .int .i64 0, .int .i64 0, .int .i64 0, .string ⟨#[]⟩, .string ⟨#[]⟩, .int .i64 0] 25)).alloc (.cells #[.int .i64 0, .string ⟨#[]⟩, .int .i64 0, .int .i64 0, .int .i64 0, .string ⟨#[]⟩, .string ⟨#[]⟩, .int .i64 0] 25)) := ((Below.refl _ _).alloc (Nat.le_refl _) _).alloc (by simp) _
  have hR : Bk ((w.alloc (.cells #[.int .i64 0, .string ⟨#[]⟩, .int .i64 0, .int .i64 0, .int .i64 0, .string ⟨#[]⟩, .string ⟨#[]⟩, .int .i64 0] 25)).alloc (.cells #[.int .i64 0, .string ⟨#[]⟩, .int .i64 0, .int .i64 0, .int .i64 0, .string ⟨#[]⟩, .string ⟨#[]⟩, .int .i64 0] 25)) w.heap.size 25 #[.int .i64 0, .string ⟨#[]⟩, .int .i64 0, .int .i64 0, .int .i64 0, .string ⟨#[]⟩, .string ⟨#[]⟩, .int .i64 0] := (Bk.new _ _ _).alloc _
  have hN : Bk ((w.alloc (.cells #[.int .i64 0, .string ⟨#[]⟩, .int .i64 0, .int .i64 0, .int .i64 0, .string ⟨#[]⟩, .string ⟨#[]⟩, .int .i64 0] 25)).alloc (.cells #[.int .i64 0, .string ⟨#[]⟩, .int .i64 0, .int .i64 0, .int .i64 0, .string ⟨#[]⟩, .string ⟨#[]⟩, .int .i64 0] 25)) (w.heap.size + 1) 25 #[.int .i64 0, .string ⟨#[]⟩, .int .i64 0, .int .i64 0, .int .i64 0, .string ⟨#[]⟩, .string ⟨#[]⟩, .int .i64 0] := by have h := Bk.new (w.alloc (.cells #[.int .i64 0, .string ⟨#[]⟩, .int .i64 0, .int .i64 0, .int .i64 0, .string ⟨#[]⟩, .string ⟨#[]⟩, .int .i64 0] 25)) 25 #[.int .i64 0, .string ⟨#[]⟩, .int .i64 0, .int .i64 0, .int .i64 0, .string ⟨#[]⟩, .string ⟨#[]⟩, .int .i64 0]; simpa using h
  have HZ := Lib.hid hz
  clear hz
  go_enter Tryd.func11, Tryd.ntmps11
  go_upto_region 2 with (fail)
  generalize ((w.alloc (.cells #[.int .i64 0, .string ⟨#[]⟩, .int .i64 0, .int .i64 0, .int .i64 0, .string ⟨#[]⟩, .string ⟨#[]⟩, .int .i64 0] 25)).alloc (.cells #[.int .i64 0, .string ⟨#[]⟩, .int .i64 0, .int .i64 0, .int .i64 0, .string ⟨#[]⟩, .string ⟨#[]⟩, .int .i64 0] 25)) = w0 at *
  go_wp2_with fail
  (with_reducible refine (zerosR_any s false HZ.out _ hs).mono ?_)
  rintro e w2 ⟨rfl, hb1⟩
  have hR2 := hR.below' hb1
  have hN2 := hN.below' hb1
  have hb2 := below_then hb hb1 hb.size
  clear hR hN hb hb1
  go_wp2_with fail
  (with_reducible refine (zerosR_any v true HVZ.out _ hvs).mono ?_)
  rintro e w3 ⟨rfl, hb1⟩
  have hR3 := hR2.below' hb1
  have hN3 := hN2.below' hb1
  have hb3 := below_then hb2 hb1 hb2.size
  clear hR2 hN2 hb2 hb1
  go_wp2_with fail
  (with_reducible refine (HD.out _).mono ?_)
  rintro e w4 ⟨rfl, hb1⟩
  have hR4 := (hR3.below' hb1).alloc (.cells #[.int .i64 0, .string ⟨#[]⟩, .int .i64 0, .int .i64 0, .int .i64 0, .string ⟨#[]⟩, .string ⟨#[]⟩] 23)
  have hN4 := (hN3.below' hb1).alloc (.cells #[.int .i64 0, .string ⟨#[]⟩, .int .i64 0, .int .i64 0, .int .i64 0, .string ⟨#[]⟩, .string ⟨#[]⟩] 23)
  have hH : Bk (w4.alloc (.cells #[.int .i64 0, .string ⟨#[]⟩, .int .i64 0, .int .i64 0, .int .i64 0, .string ⟨#[]⟩, .string ⟨#[]⟩] 23)) w4.heap.size 23 #[.int .i64 0, .string ⟨#[]⟩, .int .i64 0, .int .i64 0, .int .i64 0, .string ⟨#[]⟩, .string ⟨#[]⟩] := Bk.new _ _ _
  have hb4 := (below_then hb3 hb1 hb3.size).alloc (below_then hb3 hb1 hb3.size).size (.cells #[.int .i64 0, .string ⟨#[]⟩, .int .i64 0, .int .i64 0, .int .i64 0, .string ⟨#[]⟩, .string ⟨#[]⟩] 23)
  clear hR3 hN3 hb3 hb1
  have r0 := hR4.cell 0
  have r1 := hR4.cell 1
  have r2 := hR4.cell 2
  have r3 := hR4.cell 3
  have r4 := hR4.cell 4
  have r5 := hR4.cell 5
  have r6 := hR4.cell 6
  have r7 := hR4.cell 7
  simp only [List.getElem?_toArray, List.getElem?_cons_succ, List.getElem?_cons_zero] at r0 r1 r2 r3 r4 r5 r6 r7
  have f0 := hR4.frozen 0
  have f1 := hR4.frozen 1
  have f2 := hR4.frozen 2
  have f3 := hR4.frozen 3
  have f4 := hR4.frozen 4
  have f5 := hR4.frozen 5
  have f6 := hR4.frozen 6
  have f7 := hR4.frozen 7
  have c0 := hN4.cell 0
  have c1 := hN4.cell 1
  have c2 := hN4.cell 2
  have c3 := hN4.cell 3
  have c4 := hN4.cell 4
  have c5 := hN4.cell 5
  have c6 := hN4.cell 6
  have c7 := hN4.cell 7
  simp only [List.getElem?_toArray, List.getElem?_cons_succ, List.getElem?_cons_zero] at c0 c1 c2 c3 c4 c5 c6 c7
  go_wp2_with fail
  exact bodyPost_ret (v := .tuple #[.agg #[.int .i64 0, .string ⟨#[]⟩, .int .i64 0, .int .i64 0, .int .i64 0, .string ⟨#[]⟩, .string ⟨#[]⟩, .int .i64 0], .slice none 0 0, .int .i64 2]) (by simp [results, Tryd.results11, go_sem, r0, r1, r2, r3, r4, r5, r6, r7]) rfl ⟨rfl, ((((((((hb4.setCell (Nat.le_refl _) _).setCell (Nat.le_refl _) _).setCell (Nat.le_refl _) _).setCell (Nat.le_refl _) _).setCell (Nat.le_refl _) _).setCell (Nat.le_refl _) _).setCell (Nat.le_refl _) _).setCell (Nat.le_refl _) _)⟩
end Go.Proofs.YtaagdoaeefhleaaDoor
namespace Go.Proofs.YtaagdoaeefhleaaDoor
open Go.RowKit

/-- What the reference's Take gives. -/
def REnd (w : World) (E : Array Value) (L : List Bool) (k : Int) (e : Ending) (w' : World) : Prop := ∃ A c, e = .returned (.tuple #[.agg E, .slice A L.length c, .int .i64 k]) ∧ L.length ≤ c ∧ c ≤ maxLen ∧ Rd w' A (L.map Value.bool) ∧ Below w.heap.size w w'
theorem off_bool {w : World} {g : Nat} {t : TypeId} {cs : Array Value} (hB : Bk w g t cs) (hc : ∀ v ∈ cs.toList, ∀ b, v ≠ Value.bool b) {A : Option Addr} {L : List Bool} (hr : Rd w A (L.map Value.bool)) : Off g A (L.map Value.bool) := by
  intro hn ad hA hg
  obtain ⟨b, o, e, h2⟩ := hr hn
  cases L with
  | nil => exact hn rfl
  | cons x L =>
    have h3 := h2 0 (.bool x) rfl
    rw [hA] at e
    cases e
    simp only at hg
    subst hg
    rw [Nat.add_zero, hB.cell o] at h3
    exact hc _ (by simpa using Array.mem_of_getElem? h3) x rfl
theorem put8_only (w : World) (g : Nat) (v0 v1 v2 v3 v4 v5 v6 v7 : Value) : w.grownBy ((((((((w.setCell ⟨g, 0, none⟩ v0).setCell ⟨g, 1, none⟩ v1).setCell ⟨g, 2, none⟩ v2).setCell ⟨g, 3, none⟩ v3).setCell ⟨g, 4, none⟩ v4).setCell ⟨g, 5, none⟩ v5).setCell ⟨g, 6, none⟩ v6).setCell ⟨g, 7, none⟩ v7) (some g) :=
  only_trans (only_trans (only_trans (only_trans (only_trans (only_trans (only_trans (only_set _ _ _ _) (only_set _ _ _ _)) (only_set _ _ _ _)) (only_set _ _ _ _)) (only_set _ _ _ _)) (only_set _ _ _ _)) (only_set _ _ _ _)) (only_set _ _ _ _)
theorem RNo.end {w : World} {k : Int} {e : Ending} {w' : World} (h : RNo w k e w') : REnd w #[.int .i64 0, .string ⟨#[]⟩, .int .i64 0, .int .i64 0, .int .i64 0, .string ⟨#[]⟩, .string ⟨#[]⟩, .int .i64 0] [] k e w' := ⟨none, 0, h.1, by simp, by simp, Rd.nil _ _, h.2⟩

set_option maxRecDepth 20000 in
set_option maxHeartbeats 8000000 in
theorem jtakeR_head (s v : ByteArray) (w : World) (hs : s.size ≤ 1000) (hz : zeroB s = false) (hq : ((s.extract 0 4).toList == [83, 76, 74, 49]) = true) (hl : 136 ≤ s.size) (hv : s.extract 136 s.size = v) (hvz : zeroB v = true) (c0 : ByteArray) (hc0 : s.extract 4 102 = c0) (u r g : ByteArray) (ba : Int) (hu : s.extract 102 s.size = u) (hus : u.size ≤ 1000) (hbase : takeF u.toList 2 = (ba, r.toList, 0)) (hg : s.extract 104 136 = g) (hgs : g.size ≤ 1000) (id : Int) (sa : ByteArray) (n bs raw : Int) (ro ta : ByteArray)
    (hd : ∀ w, Calls Tryd.prog 30 #[.string c0] w fun e w' => e = .returned (.tuple #[.agg #[.int .i64 id, .string sa, .int .i64 n, .int .i64 bs, .int .i64 raw, .string ro, .string ta], .int .i64 0]) ∧ Below w.heap.size w w') (L : List Bool) (kc : Int) (hT : takeB n g.toList = (L, kc)) (E : Array Value) (M : List Bool) (k : Int)
    (hck : (kc ≠ 0 ∧ E = #[.int .i64 0, .string ⟨#[]⟩, .int .i64 0, .int .i64 0, .int .i64 0, .string ⟨#[]⟩, .string ⟨#[]⟩, .int .i64 0] ∧ M = [] ∧ k = 2) ∨ (kc = 0 ∧ extOk id sa n bs raw ro ta ba = false ∧ E = #[.int .i64 0, .string ⟨#[]⟩, .int .i64 0, .int .i64 0, .int .i64 0, .string ⟨#[]⟩, .string ⟨#[]⟩, .int .i64 0] ∧ M = [] ∧ k = 2) ∨ (kc = 0 ∧ extOk id sa n bs raw ro ta ba = true ∧ E = #[.int .i64 id, .string sa, .int .i64 n, .int .i64 bs, .int .i64 raw, .string ro, .string ta, .int .i64 ba] ∧ L = M ∧ k = 0)) :
    Calls Tryd.prog 11 #[.string s] w (REnd w E M k) := by
  have HCK := Lib.hid hck
  have HT := Lib.hid hT
  have HBa := Lib.hid hbase
  have hl104 : (104 : Int) ≤ ((s.size : Nat) : Int) := by omega
  clear hT hbase hck
  have HVZ := Lib.hid hvz
  have HD := Lib.hid hd
  have hl102 : (102 : Int) ≤ ((s.size : Nat) : Int) := by omega
  clear hvz hd
  have hl' : ¬ ((s.size : Nat) : Int) < 136 := by omega
  have hl2 : (136 : Int) ≤ ((s.size : Nat) : Int) := by omega
  have hl4 : (4 : Int) ≤ ((s.size : Nat) : Int) := by omega
  have hvs : v.size ≤ 1000 := by rw [← hv, suf_size _ _ (by omega)]; omega
  clear hl
  have hb : Below w.heap.size w ((w.alloc (.cells #[.int .i64 0, .string ⟨#[]⟩, .int .i64 0, .int .i64 0, .int .i64 0, .string ⟨#[]⟩, .string ⟨#[]⟩, .int .i64 0] 25)).alloc (.cells #[.int .i64 0, .string ⟨#[]⟩, .int .i64 0, .int .i64 0, .int .i64 0, .string ⟨#[]⟩, .string ⟨#[]⟩, .int .i64 0] 25)) := ((Below.refl _ _).alloc (Nat.le_refl _) _).alloc (by simp) _
  have hR : Bk ((w.alloc (.cells #[.int .i64 0, .string ⟨#[]⟩, .int .i64 0, .int .i64 0, .int .i64 0, .string ⟨#[]⟩, .string ⟨#[]⟩, .int .i64 0] 25)).alloc (.cells #[.int .i64 0, .string ⟨#[]⟩, .int .i64 0, .int .i64 0, .int .i64 0, .string ⟨#[]⟩, .string ⟨#[]⟩, .int .i64 0] 25)) w.heap.size 25 #[.int .i64 0, .string ⟨#[]⟩, .int .i64 0, .int .i64 0, .int .i64 0, .string ⟨#[]⟩, .string ⟨#[]⟩, .int .i64 0] := (Bk.new _ _ _).alloc _
  have hN : Bk ((w.alloc (.cells #[.int .i64 0, .string ⟨#[]⟩, .int .i64 0, .int .i64 0, .int .i64 0, .string ⟨#[]⟩, .string ⟨#[]⟩, .int .i64 0] 25)).alloc (.cells #[.int .i64 0, .string ⟨#[]⟩, .int .i64 0, .int .i64 0, .int .i64 0, .string ⟨#[]⟩, .string ⟨#[]⟩, .int .i64 0] 25)) (w.heap.size + 1) 25 #[.int .i64 0, .string ⟨#[]⟩, .int .i64 0, .int .i64 0, .int .i64 0, .string ⟨#[]⟩, .string ⟨#[]⟩, .int .i64 0] := by have h := Bk.new (w.alloc (.cells #[.int .i64 0, .string ⟨#[]⟩, .int .i64 0, .int .i64 0, .int .i64 0, .string ⟨#[]⟩, .string ⟨#[]⟩, .int .i64 0] 25)) 25 #[.int .i64 0, .string ⟨#[]⟩, .int .i64 0, .int .i64 0, .int .i64 0, .string ⟨#[]⟩, .string ⟨#[]⟩, .int .i64 0]; simpa using h
  have HZ := Lib.hid hz
  clear hz
  go_enter Tryd.func11, Tryd.ntmps11
  go_upto_region 2 with (fail)
  generalize ((w.alloc (.cells #[.int .i64 0, .string ⟨#[]⟩, .int .i64 0, .int .i64 0, .int .i64 0, .string ⟨#[]⟩, .string ⟨#[]⟩, .int .i64 0] 25)).alloc (.cells #[.int .i64 0, .string ⟨#[]⟩, .int .i64 0, .int .i64 0, .int .i64 0, .string ⟨#[]⟩, .string ⟨#[]⟩, .int .i64 0] 25)) = w0 at *
  go_wp2_with fail
  (with_reducible refine (zerosR_any s false HZ.out _ hs).mono ?_)
  rintro e w2 ⟨rfl, hb1⟩
  have hR2 := hR.below' hb1
  have hN2 := hN.below' hb1
  have hb2 := below_then hb hb1 hb.size
  clear hR hN hb hb1
  go_wp2_with fail
  (with_reducible refine (zerosR_any v true HVZ.out _ hvs).mono ?_)
  rintro e w3 ⟨rfl, hb1⟩
  have hR3 := hR2.below' hb1
  have hN3 := hN2.below' hb1
  have hb3 := below_then hb2 hb1 hb2.size
  clear hR2 hN2 hb2 hb1
  go_wp2_with fail
  (with_reducible refine (HD.out _).mono ?_)
  rintro e w4 ⟨rfl, hb1⟩
  have hR4 := (hR3.below' hb1).alloc (.cells #[.int .i64 id, .string sa, .int .i64 n, .int .i64 bs, .int .i64 raw, .string ro, .string ta] 23)
  have hN4 := (hN3.below' hb1).alloc (.cells #[.int .i64 id, .string sa, .int .i64 n, .int .i64 bs, .int .i64 raw, .string ro, .string ta] 23)
  have hH : Bk (w4.alloc (.cells #[.int .i64 id, .string sa, .int .i64 n, .int .i64 bs, .int .i64 raw, .string ro, .string ta] 23)) w4.heap.size 23 #[.int .i64 id, .string sa, .int .i64 n, .int .i64 bs, .int .i64 raw, .string ro, .string ta] := Bk.new _ _ _
  have hb4 := (below_then hb3 hb1 hb3.size).alloc (below_then hb3 hb1 hb3.size).size (.cells #[.int .i64 id, .string sa, .int .i64 n, .int .i64 bs, .int .i64 raw, .string ro, .string ta] 23)
  clear hR3 hN3 hb3 hb1
  go_wp2_with fail
  (with_reducible refine (takeFR_is u r 2 ba 0 _ (by omega) HBa.out).mono ?_)
  rintro e w0 ⟨rfl, hb1⟩
  have hR5 := hR4.below' hb1
  have hN5 := hN4.below' hb1
  have hH5 := hH.below' hb1
  have hb5 := below_then hb4 hb1 hb4.size
  clear hR4 hN4 hH hb4 hb1
  go_upto_region 10 with (fail)
  have hcw : Below w0.heap.size w0 w0.drew ∧ w0.drew.cell? ⟨w4.heap.size, 2, none⟩ = some (.int .i64 n) := ⟨(Below.refl _ _).drew, by have h := hH5.cell 2; simp only [List.getElem?_toArray, List.getElem?_cons_succ, List.getElem?_cons_zero] at h; exact h⟩
  refine wp_region_held_drew (S := fun w' => Below w0.heap.size w0 w' ∧ w'.cell? ⟨w4.heap.size, 2, none⟩ = some (.int .i64 n)) (by kernel_rfl) hcw (fun _ => ?_)
  refine anyH_take (i := 0) (v := ?_) rfl (by kernel_rfl) (by kernel_rfl) (by kernel_rfl) (fun _ _ _ h => h) (by rfl) ?_ (by assumption) ?_
  rotate_left
  · intro w' hSw; (try dsimp only at hSw); go_simp; (try with_reducible rfl)
  try simp only [Act.put, List.setIfInBounds_toArray, List.set_cons_zero, List.set_cons_succ]
  refine anyH_take (i := 1) (v := ?_) rfl (by kernel_rfl) (by kernel_rfl) (by kernel_rfl) (fun _ _ _ h => h) (by rfl) ?_ (by assumption) ?_
  rotate_left
  · intro w' hSw; (try dsimp only at hSw); go_simp; (try with_reducible rfl)
  try simp only [Act.put, List.setIfInBounds_toArray, List.set_cons_zero, List.set_cons_succ]
  refine anyH_take (i := 2) (v := ?_) rfl (by kernel_rfl) (by kernel_rfl) (by kernel_rfl) (fun _ _ _ h => h) (by rfl) ?_ (by assumption) ?_
  rotate_left
  · intro w' hSw; (try dsimp only at hSw); go_simp; (try with_reducible rfl)
  try simp only [Act.put, List.setIfInBounds_toArray, List.set_cons_zero, List.set_cons_succ]
  refine anyH_take (i := 3) (v := ?_) rfl (by kernel_rfl) (by kernel_rfl) (by kernel_rfl) (fun _ _ _ h => h) (by rfl) ?_ (by assumption) ?_
  rotate_left
  · intro w' hSw; (try dsimp only at hSw); go_simp; (try with_reducible rfl)
  try simp only [Act.put, List.setIfInBounds_toArray, List.set_cons_zero, List.set_cons_succ]
  refine anyH_call (i := 4) rfl (by kernel_rfl) (by rfl) (fun K hK => ?_)
  go_simp
  go_at_call 32
  (with_reducible refine (takeR_is n g L kc _ (by omega) HT.out).mono ?_)
  rintro e wt ⟨A, cA, rfl, hcA, hcm, hrd, hbx⟩
  have hX := heldb hbx (by assumption)
  refine hK.out _ _ hX (fun _ => ?_)
  clear hK K hbx
  try simp only [Act.put, List.setIfInBounds_toArray, List.set_cons_zero, List.set_cons_succ]
  refine anyH_take (i := 5) (v := ?_) rfl (by kernel_rfl) (by kernel_rfl) (by kernel_rfl) (fun _ _ _ h => h) (by rfl) ?_ (by assumption) ?_
  rotate_left
  · intro w' hSw; (try dsimp only at hSw); go_simp; (try with_reducible rfl)
  try simp only [Act.put, List.setIfInBounds_toArray, List.set_cons_zero, List.set_cons_succ]
  refine anyH_take (i := 6) (v := ?_) rfl (by kernel_rfl) (by kernel_rfl) (by kernel_rfl) (fun _ _ _ h => h) (by rfl) ?_ (by assumption) ?_
  rotate_left
  · intro w' hSw; (try dsimp only at hSw); go_simp; (try with_reducible rfl)
  try simp only [Act.put, List.setIfInBounds_toArray, List.set_cons_zero, List.set_cons_succ]
  refine anyH_take (i := 7) (v := ?_) rfl (by kernel_rfl) (by kernel_rfl) (by kernel_rfl) (fun _ _ _ h => h) (by rfl) ?_ (by assumption) ?_
  rotate_left
  · intro w' hSw; (try dsimp only at hSw); go_simp; (try with_reducible rfl)
  try simp only [Act.put, List.setIfInBounds_toArray, List.set_cons_zero, List.set_cons_succ]
  refine anyH_take (i := 8) (v := ?_) rfl (by kernel_rfl) (by kernel_rfl) (by kernel_rfl) (fun _ _ _ h => h) (by rfl) ?_ (by assumption) ?_
  rotate_left
  · intro w' hSw; (try dsimp only at hSw); go_simp; (try with_reducible rfl)
  try simp only [Act.put, List.setIfInBounds_toArray, List.set_cons_zero, List.set_cons_succ]
  refine anyH_take (i := 9) (v := ?_) rfl (by kernel_rfl) (by kernel_rfl) (by kernel_rfl) (fun _ _ _ h => h) (by rfl) ?_ (by assumption) ?_
  rotate_left
  · intro w' hSw; (try dsimp only at hSw); go_simp; (try with_reducible rfl)
  try simp only [Act.put, List.setIfInBounds_toArray, List.set_cons_zero, List.set_cons_succ]
  refine wpAnyH_done (by kernel_rfl) ?_ _
  have hR7 := hR5.below' (And.left hX)
  have hN7 := hN5.below' (And.left hX)
  have hH7 := hH5.below' (And.left hX)
  have hb7 := below_then hb5 (And.left hX) hb5.size
  clear hX hR5 hN5 hH5 hb5
  have g0 := hH7.cell 0
  have g1 := hH7.cell 1
  have g2 := hH7.cell 2
  have g3 := hH7.cell 3
  have g4 := hH7.cell 4
  have g5 := hH7.cell 5
  have g6 := hH7.cell 6
  simp only [List.getElem?_toArray, List.getElem?_cons_succ, List.getElem?_cons_zero] at g0 g1 g2 g3 g4 g5 g6
  have hR8 := hR7.alloc (.cells #[.int .i64 id, .string sa, .int .i64 n, .int .i64 bs, .int .i64 raw, .string ro, .string ta, .int .i64 ba] 25)
  have hN8 := hN7.alloc (.cells #[.int .i64 id, .string sa, .int .i64 n, .int .i64 bs, .int .i64 raw, .string ro, .string ta, .int .i64 ba] 25)
  have hX8 : Bk (wt.alloc (.cells #[.int .i64 id, .string sa, .int .i64 n, .int .i64 bs, .int .i64 raw, .string ro, .string ta, .int .i64 ba] 25)) wt.heap.size 25 #[.int .i64 id, .string sa, .int .i64 n, .int .i64 bs, .int .i64 raw, .string ro, .string ta, .int .i64 ba] := Bk.new _ _ _
  have hb8 := hb7.alloc hb7.size (.cells #[.int .i64 id, .string sa, .int .i64 n, .int .i64 bs, .int .i64 raw, .string ro, .string ta, .int .i64 ba] 25)
  have hrd8 := hrd.below ((Below.refl wt.heap.size wt).alloc (Nat.le_refl _) (.cells #[.int .i64 id, .string sa, .int .i64 n, .int .i64 bs, .int .i64 raw, .string ro, .string ta, .int .i64 ba] 25))
  clear hR7 hN7 hb7 hrd
  rcases HCK.out with ⟨hk, rfl, rfl, rfl⟩ | ⟨hk, hok, rfl, rfl, rfl⟩ | ⟨hk, hok, rfl, rfl, rfl⟩
  · have hk' : (kc == 0) = false := by simp [hk]
    have r0 := hR8.cell 0
    have r1 := hR8.cell 1
    have r2 := hR8.cell 2
    have r3 := hR8.cell 3
    have r4 := hR8.cell 4
    have r5 := hR8.cell 5
    have r6 := hR8.cell 6
    have r7 := hR8.cell 7
    simp only [List.getElem?_toArray, List.getElem?_cons_succ, List.getElem?_cons_zero] at r0 r1 r2 r3 r4 r5 r6 r7
    have f0 := hR8.frozen 0
    have f1 := hR8.frozen 1
    have f2 := hR8.frozen 2
    have f3 := hR8.frozen 3
    have f4 := hR8.frozen 4
    have f5 := hR8.frozen 5
    have f6 := hR8.frozen 6
    have f7 := hR8.frozen 7
    have c0 := hN8.cell 0
    have c1 := hN8.cell 1
    have c2 := hN8.cell 2
    have c3 := hN8.cell 3
    have c4 := hN8.cell 4
    have c5 := hN8.cell 5
    have c6 := hN8.cell 6
    have c7 := hN8.cell 7
    simp only [List.getElem?_toArray, List.getElem?_cons_succ, List.getElem?_cons_zero] at c0 c1 c2 c3 c4 c5 c6 c7
    go_wp2_with fail
    exact bodyPost_ret (v := .tuple #[.agg #[.int .i64 0, .string ⟨#[]⟩, .int .i64 0, .int .i64 0, .int .i64 0, .string ⟨#[]⟩, .string ⟨#[]⟩, .int .i64 0], .slice none 0 0, .int .i64 2]) (by simp [results, Tryd.results11, go_sem, r0, r1, r2, r3, r4, r5, r6, r7]) rfl ⟨none, 0, rfl, by simp, by simp, Rd.nil _ _, ((((((((hb8.setCell (Nat.le_refl _) _).setCell (Nat.le_refl _) _).setCell (Nat.le_refl _) _).setCell (Nat.le_refl _) _).setCell (Nat.le_refl _) _).setCell (Nat.le_refl _) _).setCell (Nat.le_refl _) _).setCell (Nat.le_refl _) _)⟩
  · subst hk
    have HOK := Lib.hid hok
    clear hok
    go_wp2_with fail
    (with_reducible refine (jmay_agg id sa n bs raw ro ta ba false HOK.out _).mono ?_)
    rintro e w9 ⟨rfl, hb1⟩
    have hR9 := hR8.below' hb1
    have hN9 := hN8.below' hb1
    have hb9 := below_then hb8 hb1 hb8.size
    clear hR8 hN8 hX8 hb8 hb1
    have r0 := hR9.cell 0
    have r1 := hR9.cell 1
    have r2 := hR9.cell 2
    have r3 := hR9.cell 3
    have r4 := hR9.cell 4
    have r5 := hR9.cell 5
    have r6 := hR9.cell 6
    have r7 := hR9.cell 7
    simp only [List.getElem?_toArray, List.getElem?_cons_succ, List.getElem?_cons_zero] at r0 r1 r2 r3 r4 r5 r6 r7
    have f0 := hR9.frozen 0
    have f1 := hR9.frozen 1
    have f2 := hR9.frozen 2
    have f3 := hR9.frozen 3
    have f4 := hR9.frozen 4
    have f5 := hR9.frozen 5
    have f6 := hR9.frozen 6
    have f7 := hR9.frozen 7
    have c0 := hN9.cell 0
    have c1 := hN9.cell 1
    have c2 := hN9.cell 2
    have c3 := hN9.cell 3
    have c4 := hN9.cell 4
    have c5 := hN9.cell 5
    have c6 := hN9.cell 6
    have c7 := hN9.cell 7
    simp only [List.getElem?_toArray, List.getElem?_cons_succ, List.getElem?_cons_zero] at c0 c1 c2 c3 c4 c5 c6 c7
    go_wp2_with fail
    exact bodyPost_ret (v := .tuple #[.agg #[.int .i64 0, .string ⟨#[]⟩, .int .i64 0, .int .i64 0, .int .i64 0, .string ⟨#[]⟩, .string ⟨#[]⟩, .int .i64 0], .slice none 0 0, .int .i64 2]) (by simp [results, Tryd.results11, go_sem, r0, r1, r2, r3, r4, r5, r6, r7]) rfl ⟨none, 0, rfl, by simp, by simp, Rd.nil _ _, ((((((((hb9.setCell (Nat.le_refl _) _).setCell (Nat.le_refl _) _).setCell (Nat.le_refl _) _).setCell (Nat.le_refl _) _).setCell (Nat.le_refl _) _).setCell (Nat.le_refl _) _).setCell (Nat.le_refl _) _).setCell (Nat.le_refl _) _)⟩
  · subst hk
    have HOK := Lib.hid hok
    clear hok
    go_wp2_with fail
    (with_reducible refine (jmay_agg id sa n bs raw ro ta ba true HOK.out _).mono ?_)
    rintro e w9 ⟨rfl, hb1⟩
    have hR9 := hR8.below' hb1
    have hX9 := hX8.below' hb1
    have hrd9 := hrd8.below hb1
    have hb9 := below_then hb8 hb1 hb8.size
    have hOff := off_bool hR9 (by simp) hrd9
    clear hR8 hN8 hX8 hb8 hb1 hrd8
    have r0 := hR9.cell 0
    have r1 := hR9.cell 1
    have r2 := hR9.cell 2
    have r3 := hR9.cell 3
    have r4 := hR9.cell 4
    have r5 := hR9.cell 5
    have r6 := hR9.cell 6
    have r7 := hR9.cell 7
    simp only [List.getElem?_toArray, List.getElem?_cons_succ, List.getElem?_cons_zero] at r0 r1 r2 r3 r4 r5 r6 r7
    have f0 := hR9.frozen 0
    have f1 := hR9.frozen 1
    have f2 := hR9.frozen 2
    have f3 := hR9.frozen 3
    have f4 := hR9.frozen 4
    have f5 := hR9.frozen 5
    have f6 := hR9.frozen 6
    have f7 := hR9.frozen 7
    have q0 := hX9.cell 0
    have q1 := hX9.cell 1
    have q2 := hX9.cell 2
    have q3 := hX9.cell 3
    have q4 := hX9.cell 4
    have q5 := hX9.cell 5
    have q6 := hX9.cell 6
    have q7 := hX9.cell 7
    simp only [List.getElem?_toArray, List.getElem?_cons_succ, List.getElem?_cons_zero] at q0 q1 q2 q3 q4 q5 q6 q7
    go_wp2_with fail
    exact bodyPost_ret (v := .tuple #[.agg #[.int .i64 id, .string sa, .int .i64 n, .int .i64 bs, .int .i64 raw, .string ro, .string ta, .int .i64 ba], .slice A L.length cA, .int .i64 0]) (by simp [results, Tryd.results11, go_sem, r0, r1, r2, r3, r4, r5, r6, r7]) rfl ⟨A, cA, rfl, hcA, hcm, hrd9.only (put8_only _ _ _ _ _ _ _ _ _ _) hOff, ((((((((hb9.setCell (Nat.le_refl _) _).setCell (Nat.le_refl _) _).setCell (Nat.le_refl _) _).setCell (Nat.le_refl _) _).setCell (Nat.le_refl _) _).setCell (Nat.le_refl _) _).setCell (Nat.le_refl _) _).setCell (Nat.le_refl _) _)⟩
end Go.Proofs.YtaagdoaeefhleaaDoor
