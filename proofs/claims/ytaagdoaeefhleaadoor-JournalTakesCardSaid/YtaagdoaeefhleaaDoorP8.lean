/-
  A boxed set; the walk of a set out of a list of numbers (Of). The walks of Size and of the reference's Has.
-/
import Derived.Test.YtaagdoaeefhleaaDoorP7
import Derived.Test.YtaagdoaeefhleaaDoorSetB
import Derived.Deep.RegionWith
namespace Go.Proofs.YtaagdoaeefhleaaDoor
open Go.RowKit

/-- The list of a set of a size, with numbers. -/
def ofB (n : Int) (xs : List Int) : List Bool := (xs.take 300).foldl (fun L i => setB L i true) (newB n)
theorem foldB_length (L : List Bool) (xs : List Int) : (xs.foldl (fun L i => setB L i true) L).length = L.length := by
  induction xs generalizing L with
  | nil => rfl
  | cons x xs ih => rw [List.foldl_cons, ih, setB_length]
theorem ofB_length (n : Int) (xs : List Int) : (ofB n xs).length = clampB n := by unfold ofB; rw [foldB_length, newB_length]
/-- What holds at each round of 'Of'. -/
def OfRel (w : World) (g : Nat) (L : List Bool) (A : Option Addr) (n c : Nat) (wr : World) : Prop :=
  L.length = n ∧ n ≤ c ∧ c ≤ maxLen ∧ Rd wr A (L.map Value.bool) ∧ Off g A (L.map Value.bool) ∧ Off w.heap.size A (L.map Value.bool) ∧ SetAt wr g L ∧ ZeroAt wr w.heap.size ∧ Below w.heap.size w wr
/-- What 'Of' leaves. -/
def OfEnd (w : World) (L : List Bool) (e : Ending) (w' : World) : Prop := ∃ A c, e = .returned (.tuple #[setV L, .slice A L.length c]) ∧ L.length ≤ c ∧ c ≤ maxLen ∧ Rd w' A (L.map Value.bool) ∧ Below w.heap.size w w'

set_option maxHeartbeats 1000000 in
theorem of_any (n : Int) (A : Option Addr) (m c : Nat) (xs : List Int) (w : World) (hx : xs.length = m) (hr : Rd w A (xs.map (Value.int .i64))) (hm : m ≤ 9223372036854775807) :
    Calls Tryd.prog 7 #[.int .i64 n, .slice A m c] w (OfEnd w (ofB n xs)) := by
  have hcl := clampB_le n
  go_enter Tryd.func7, Tryd.ntmps7
  go_wp2_with fail
  refine (new_any _ _).mono ?_
  rintro e w1 ⟨rfl, hb1⟩
  go_wp2_with fail
  refine (newRef_any _ _).mono ?_
  rintro e w2 ⟨A2, c2, rfl, hnc2, hcm2, hr2, hfr2, hb2⟩
  have hbA := bl (below_of_alloc hb1) hb2
  have hres : ZeroAt w2 w.heap.size := Bk.below' (Bk.below' (Bk.new w _ _) hb1) hb2
  obtain ⟨g, hg⟩ : ∃ g, g = w2.heap.size := ⟨_, rfl⟩
  have hgw : w.heap.size < g := by have := hbA.size; have := hres.lt; omega
  have hS0 := SetAt.new w2 (newB n)
  rw [← hg] at hS0
  have Hg := Lib.hid hg
  have hrel0 : OfRel w g (newB n) A2 (clampB n) c2 (w2.alloc (.cells #[.int .i64 ((newB n).length : Nat), .int .u64 (wdN (newB n) 0 : Nat), .int .u64 (wdN (newB n) 1 : Nat), .int .u64 (wdN (newB n) 2 : Nat), .int .u64 (wdN (newB n) 3 : Nat)] 32)) :=
    ⟨newB_length n, hnc2, hcm2, hr2.below ((Below.refl _ _).alloc (Nat.le_refl _) _), Off.old hr2 (by omega), Off.fresh hfr2 (by have := hb1.size; simp at this; omega), hS0, Bk.alloc hres _, hbA.alloc (by have := hbA.size; omega) _⟩
  clear hg
  unfold setV
  go_wp2_with fail
  rw [← Hg.out]
  go_loopw [7, 8] (fun x i wr => ∃ (k : Nat) (L : List Bool) (A' : Option Addr) (c' : Nat), k ≤ m ∧ k ≤ 300 ∧ i = .int .i64 k ∧ x = .slice A' (clampB n) c' ∧ Hid (L = (xs.take k).foldl (fun L i => setB L i true) (newB n)) ∧ OfRel w g L A' (clampB n) c' wr) (fun _ i _ => m - (intOf i).toNat)
  case atStart => exact ⟨0, newB n, A2, c2, by omega, by omega, rfl, rfl, rfl, hrel0⟩
  case round =>
    obtain ⟨k, L, A', c', hkm, hk3, rfl, rfl, hLk, hR⟩ := hrel
    have hR' := hR
    obtain ⟨hL, hnc, hcm, hrb, hoff, hoffz, hS, hZ, hb⟩ := hR'
    by_cases hlt : (k : Int) < (m : Int)
    · by_cases h300 : (k : Int) < 300
      · obtain ⟨bb, oo, rfl, hcell0⟩ := hr.at_ (k := k) (by simp; omega)
        have hblt := World.block_lt_of_cell? w _ hcell0
        have hcell := (hb.cell (p := ⟨bb, oo + k, none⟩) hblt).trans hcell0
        have hbb : bb ≠ g := by simp at hblt; omega
        rw [List.getElem_map] at hcell
        clear hcell0 hblt
        have hfold : (xs.take (k + 1)).foldl (fun L i => setB L i true) (newB n) = setB L xs[k] true := by
          rw [List.take_succ_eq_append_getElem (by omega), List.foldl_append, ← hLk.out]; rfl
        generalize xs[k] = x at hcell hfold
        have Hfold := Lib.hid hfold
        obtain ⟨hc0, hc1, hc2, hc3, hc4⟩ := hS.cells
        have hL256 : L.length ≤ 256 := by omega
        have HL := Lib.hid hL
        clear hL hfold
        go_wp2_with fail
        go_region_with (go_at_call 17; refine (with_any L _ _ hL256).mono ?_; rintro e w1 ⟨rfl, hb1⟩; unfold setV; obtain ⟨f0, f1, f2, f3, f4⟩ := hS.cells_drew hb1; obtain ⟨z0, z1, z2, z3, z4⟩ := hS.free_drew hb1)
        all_goals
          have hb1' := below_of_drew hb1
          have hSW := SetAt.put (hS.below' hb1') (setB L x true)
          have hon := put_only w1 g (setB L x true)
          have hcW := hon.cell ((hb1'.cell (p := ⟨bb, oo + k, none⟩) (World.block_lt_of_cell? wr _ hcell)).trans hcell) (by simpa using hbb)
          have hrW := (hrb.below hb1').only hon hoff
          have hZW := Bk.only (Bk.below' hZ hb1') hon (by omega)
          have hbW := (below_then hb hb1' hb.size).trans (below_only hon (by omega) (by have := hb1'.size; have := hb.size; omega))
          clear f0 f1 f2 f3 f4 z0 z1 z2 z3 z4 hc0 hc1 hc2 hc3 hc4 hcell
          have hgW : g < ((((((w1.setCell ⟨g, 0, none⟩ (.int .i64 ((setB L x true).length : Nat))).setCell ⟨g, 1, none⟩ (.int .u64 (wdN (setB L x true) 0 : Nat))).setCell ⟨g, 2, none⟩ (.int .u64 (wdN (setB L x true) 1 : Nat))).setCell ⟨g, 3, none⟩ (.int .u64 (wdN (setB L x true) 2 : Nat))).setCell ⟨g, 4, none⟩ (.int .u64 (wdN (setB L x true) 3 : Nat)))).heap.size := hSW.lt'
          generalize (((((w1.setCell ⟨g, 0, none⟩ (.int .i64 ((setB L x true).length : Nat))).setCell ⟨g, 1, none⟩ (.int .u64 (wdN (setB L x true) 0 : Nat))).setCell ⟨g, 2, none⟩ (.int .u64 (wdN (setB L x true) 1 : Nat))).setCell ⟨g, 3, none⟩ (.int .u64 (wdN (setB L x true) 2 : Nat))).setCell ⟨g, 4, none⟩ (.int .u64 (wdN (setB L x true) 3 : Nat))) = W at hSW hcW hrW hZW hbW hgW ⊢
          clear hon
          go_wp2_with (go_at_call 19; go_must (refine (setRef_any A' _ c' L _ true _ HL.out (by omega) hrW).mono ?_); rintro e w3 ⟨A3, c3, rfl, hnc3, hcm3, hr3, hfr3, hb3⟩)
          go_roundw
          case rel => exact ⟨k + 1, setB L x true, A3, c3, by omega, by omega, by go_num, rfl, Hfold.out.symm, by rw [setB_length]; exact HL.out, hnc3, hcm3, hr3, Off.fresh hfr3 hgW, Off.fresh hfr3 (by omega), hSW.below' hb3, Bk.below' hZW hb3, below_then hbW hb3 hbW.size⟩
          case measure => simp [intOf]; omega
      · have hkk : xs.take 300 = xs.take k := by rw [show k = 300 by omega]
        have Hkk := Lib.hid hkk
        have HL := Lib.hid hL
        obtain ⟨hc0, hc1, hc2, hc3, hc4⟩ := hS.cells
        obtain ⟨d0, d1, d2, d3, d4⟩ := hZ.cells
        obtain ⟨z0, z1, z2, z3, z4⟩ := hZ.free
        clear hkk hL
        go_wp2
        have hSW := ZeroAt.put hZ L
        have hon := put_only wr w.heap.size L
        have hoff2 : Off w.heap.size A' (L.map Value.bool) := hoffz
        have hrW := hrb.only hon hoff2
        have hbW := hb.trans (below_only hon (Nat.le_refl _) hb.size)
        clear hc0 hc1 hc2 hc3 hc4 d0 d1 d2 d3 d4 z0 z1 z2 z3 z4
        generalize (((((wr.setCell ⟨w.heap.size, 0, none⟩ (.int .i64 (L.length : Nat))).setCell ⟨w.heap.size, 1, none⟩ (.int .u64 (wdN L 0 : Nat))).setCell ⟨w.heap.size, 2, none⟩ (.int .u64 (wdN L 1 : Nat))).setCell ⟨w.heap.size, 3, none⟩ (.int .u64 (wdN L 2 : Nat))).setCell ⟨w.heap.size, 4, none⟩ (.int .u64 (wdN L 3 : Nat))) = W at hSW hrW hbW ⊢
        obtain ⟨f0, f1, f2, f3, f4⟩ := hSW.cells
        clear hon
        refine bodyPost_ret (v := .tuple #[setV L, .slice A' (clampB n) c']) (by unfold setV; simp [results, Tryd.results7, go_sem, f0, f1, f2, f3, f4]) rfl ?_
        have e : ofB n xs = L := by unfold ofB; rw [Hkk.out]; exact hLk.out.symm
        rw [e]
        exact ⟨A', c', by rw [HL.out], by rw [HL.out]; exact hnc, hcm, hrW, hbW⟩
    · have hkk : xs.take 300 = xs.take k := by rw [List.take_of_length_le (by omega), List.take_of_length_le (by omega)]
      have Hkk := Lib.hid hkk
      have HL := Lib.hid hL
      obtain ⟨hc0, hc1, hc2, hc3, hc4⟩ := hS.cells
      obtain ⟨d0, d1, d2, d3, d4⟩ := hZ.cells
      obtain ⟨z0, z1, z2, z3, z4⟩ := hZ.free
      clear hkk hL
      go_wp2
      have hSW := ZeroAt.put hZ L
      have hon := put_only wr w.heap.size L
      have hoff2 : Off w.heap.size A' (L.map Value.bool) := hoffz
      have hrW := hrb.only hon hoff2
      have hbW := hb.trans (below_only hon (Nat.le_refl _) hb.size)
      clear hc0 hc1 hc2 hc3 hc4 d0 d1 d2 d3 d4 z0 z1 z2 z3 z4
      generalize (((((wr.setCell ⟨w.heap.size, 0, none⟩ (.int .i64 (L.length : Nat))).setCell ⟨w.heap.size, 1, none⟩ (.int .u64 (wdN L 0 : Nat))).setCell ⟨w.heap.size, 2, none⟩ (.int .u64 (wdN L 1 : Nat))).setCell ⟨w.heap.size, 3, none⟩ (.int .u64 (wdN L 2 : Nat))).setCell ⟨w.heap.size, 4, none⟩ (.int .u64 (wdN L 3 : Nat))) = W at hSW hrW hbW ⊢
      obtain ⟨f0, f1, f2, f3, f4⟩ := hSW.cells
      clear hon
      refine bodyPost_ret (v := .tuple #[setV L, .slice A' (clampB n) c']) (by unfold setV; simp [results, Tryd.results7, go_sem, f0, f1, f2, f3, f4]) rfl ?_
      have e : ofB n xs = L := by unfold ofB; rw [Hkk.out]; exact hLk.out.symm
      rw [e]
      exact ⟨A', c', by rw [HL.out], by rw [HL.out]; exact hnc, hcm, hrW, hbW⟩
end Go.Proofs.YtaagdoaeefhleaaDoor
namespace Go.Proofs.YtaagdoaeefhleaaDoor
open Go.RowKit

set_option maxHeartbeats 400000 in
theorem size_any (L : List Bool) (w : World) : Calls Tryd.prog 12 #[setV L] w fun e w' => e = .returned (.int .i64 (L.length : Nat)) ∧ Below w.heap.size w w' := by
  unfold setV
  go_enter Tryd.func12, Tryd.ntmps12
  go_wp2
  go_ret
  exact ⟨rfl, (Below.refl _ _).alloc (Nat.le_refl _) _⟩



end Go.Proofs.YtaagdoaeefhleaaDoor
