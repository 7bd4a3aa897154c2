/-
  Of no disk: epoch.Last, epoch.Next; the walk of EpochEnds.
-/
import Derived.Test.YthjjdjhmaffoeaaDoorEpD
import Derived.Test.YthjjdjhmaffoeaaDoorDkI
import Derived.Test.YthjjdjhmaffoeaaDoorConvB
namespace Go.Proofs.YthjjdjhmaffoeaaDoor
open Go.RowKit

set_option maxRecDepth 20000 in
set_option maxHeartbeats 1000000 in
theorem last_none (w : World) (i : Int) : Calls Tryd.prog 8 #[.pointer none, .int .i64 i] w fun e w' => e = .returned (.tuple #[.int .i64 0, .int .i64 8]) ∧ Below w.heap.size w w' := by
  go_enter Tryd.func8, Tryd.ntmps8
  go_wp2_with fail
  (with_reducible refine (none_read w i).mono ?_)
  rintro e w1 ⟨rfl, hb1⟩
  go_wp2_with fail
  go_ret2
  exact ⟨rfl, hb1⟩
structure NxN (w wr : World) (nv ev : Int) : Prop where
  cn : wr.cell? ⟨w.heap.size, 0, none⟩ = some (.int .i64 nv)
  fn : wr.frozen? ⟨w.heap.size, 0, none⟩ = false
  ce : wr.cell? ⟨w.heap.size + 1, 0, none⟩ = some (.int .i64 ev)
  fe : wr.frozen? ⟨w.heap.size + 1, 0, none⟩ = false
  bl : Below w.heap.size w wr
section
variable {w wr w' : World} {nv ev : Int}
theorem NxN.start : NxN w ((w.alloc (.cells #[.int .i64 0] 3)).alloc (.cells #[.int .i64 0] 23)) 0 0 := by
  have h1 : Bk ((w.alloc (.cells #[.int .i64 0] 3)).alloc (.cells #[.int .i64 0] 23)) w.heap.size 3 #[.int .i64 0] := (Bk.new w _ _).alloc _
  have h2 : Bk ((w.alloc (.cells #[.int .i64 0] 3)).alloc (.cells #[.int .i64 0] 23)) (w.heap.size + 1) 23 #[.int .i64 0] := by
    have := Bk.new (w.alloc (.cells #[.int .i64 0] 3)) 23 #[.int .i64 0]
    rw [World.size_alloc] at this
    exact this
  exact ⟨h1.cell 0, h1.frozen 0, h2.cell 0, h2.frozen 0, ((Below.refl _ w).alloc (Nat.le_refl _) _).alloc (by simp) _⟩
theorem NxN.below (h : NxN w wr nv ev) (hb : Below wr.heap.size wr w') : NxN w w' nv ev := by
  have l1 := World.block_lt_of_cell? wr _ h.cn
  have l2 := World.block_lt_of_cell? wr _ h.ce
  exact ⟨(hb.cell l1).trans h.cn, (hb.frozen l1).trans h.fn, (hb.cell l2).trans h.ce, (hb.frozen l2).trans h.fe, h.bl.trans (hb.mono h.bl.size)⟩
theorem NxN.setN (h : NxN w wr nv ev) (v : Int) : NxN w (wr.setCell ⟨w.heap.size, 0, none⟩ (.int .i64 v)) v ev := by
  have hs : ∀ q, q ≠ w.heap.size → (wr.setCell ⟨w.heap.size, 0, none⟩ (.int .i64 v)).heap[q]? = wr.heap[q]? := fun q hq => Below.heap_setCell wr _ _ q hq
  refine ⟨by simp [go_sem, h.cn], by rw [World.frozen?_setCell]; exact h.fn, ?_, by rw [World.frozen?_setCell]; exact h.fe, h.bl.trans (below_only (only_set wr w.heap.size 0 _) (Nat.le_refl _) h.bl.size)⟩
  have := h.ce
  simp only [World.cell?] at this ⊢
  rw [hs (w.heap.size + 1) (by omega)]
  exact this
theorem NxN.setE (h : NxN w wr nv ev) (v : Int) : NxN w (wr.setCell ⟨w.heap.size + 1, 0, none⟩ (.int .i64 v)) nv v := by
  have hs : ∀ q, q ≠ w.heap.size + 1 → (wr.setCell ⟨w.heap.size + 1, 0, none⟩ (.int .i64 v)).heap[q]? = wr.heap[q]? := fun q hq => Below.heap_setCell wr _ _ q hq
  refine ⟨?_, by rw [World.frozen?_setCell]; exact h.fn, by simp [go_sem, h.ce], by rw [World.frozen?_setCell]; exact h.fe, h.bl.trans (below_only (only_set wr (w.heap.size + 1) 0 _) (by omega) h.bl.size)⟩
  have := h.cn
  simp only [World.cell?] at this ⊢
  rw [hs w.heap.size (by omega)]
  exact this
theorem NxN.drew (h : NxN w wr nv ev) : NxN w wr.drew nv ev := ⟨h.cn, h.fn, h.ce, h.fe, ⟨h.bl.os, h.bl.tape, h.bl.output, h.bl.size, h.bl.block⟩⟩
end
theorem leaves_finN {w wz : World} {nv ev : Int} (X : NxN w wz nv ev) {tm : Array Value} (h4 : tm[4]?.getD undef = .pointer (some ⟨w.heap.size, 0, none⟩)) (h5 : tm[5]?.getD undef = .pointer (some ⟨w.heap.size + 1, 0, none⟩)) {Q : Ending → World → Prop}
    (hq : Q (.returned (.tuple #[.int .i64 nv, .int .i64 ev])) wz) : Leaves Tryd.prog Tryd.f7 tm Q [] (settle .returning) wz := by
  have c0 := X.cn
  have c1 := X.ce
  simp [Leaves, settle, results, Tryd.results7, go_sem, h4, h5, c0, c1, hq]
set_option maxRecDepth 20000 in
set_option maxHeartbeats 4000000 in
theorem next_none (w : World) (i : Int) : Calls Tryd.prog 7 #[.pointer none, .int .i64 i] w fun e w' => e = .returned (.tuple #[.int .i64 0, .int .i64 8]) ∧ Below w.heap.size w w' := by
  have hmf : ∀ (fn : Fn) (first cap : Array Value) (w : World), (Instr.makeFunc fn first cap).run Tryd.prog w = .ok (.func fn first cap) w := fun _ _ _ _ => rfl
  have H1 := Lib.hid (NxN.start (w := w))
  go_enter_defers Tryd.func7, Tryd.ntmps7
  go_wp2_with fail
  (with_reducible refine (last_none _ i).mono ?_)
  rintro e w1 ⟨rfl, hb1⟩
  have X1 := Lib.hid (H1.out.below hb1)
  obtain ⟨cn, fn, ce, fe, _⟩ := X1.out
  clear hb1
  go_wp2_with fail
  go_region
  all_goals
    go_wp2_with fail
    have X2 := Lib.hid ((((X1.out.setN 0).setE 8).setN 0).setE 8).drew
    obtain ⟨cn2, fn2, ce2, fe2, _⟩ := X2.out
    refine leaves_cons (f := 16) (args := #[.pointer (some ⟨w.heap.size + 1, 0, none⟩), .pointer (some ⟨w.heap.size, 0, none⟩)]) (by simp) (by simp [go_sem]) ?_
    refine (defer_bad ⟨w.heap.size + 1, 0, none⟩ ⟨w.heap.size, 0, none⟩ 8 0 _ ce2 (by decide) cn2 fn2).mono ?_
    rintro e u' w'' ⟨rfl, rfl, rfl⟩
    exact leaves_finN (X2.out.setN 0) rfl rfl ⟨rfl, (X2.out.setN 0).bl⟩

/-- A disk that is on and has no fuse; what stands in a sector. -/
structure Ev (S : St) (n i k : Nat) : Prop where
  ok : S.Ok n
  on : S.dead = false
  fz : S.fuse = -1
  hi : i < n
  hl : S.lst[i]? = some (encS k)
theorem Ev.may {S : St} {n i k : Nat} (h : Ev S n i k) : S.may i = 0 := by rw [St.may_ok h.ok (by omega) (by have := h.hi; omega), h.on]; rfl
theorem Ev.last {S : St} {n i k : Nat} (h : Ev S n i k) (hk : k ≤ 4294967295) : S.last i = ((k : Int), 0) := by
  have hr : S.rd i = (encS k, 0) := by
    unfold St.rd
    rw [h.may, if_pos rfl, Int.toNat_natCast, h.hl]
    rfl
  unfold St.last
  rw [hr, if_pos rfl]
  exact encS_last k hk
theorem Ev.wrote {S : St} {n i k : Nat} (h : Ev S n i k) (j : Nat) : (S.wr i (textS ((j : Int) + 1))).2 = 0 ∧ Ev (S.wr i (textS ((j : Int) + 1))).1 n i (j + 1) := by
  have hne : ¬ S.fuse = 0 := by rw [h.fz]; decide
  have e := St.wr_ok (s := textS ((j : Int) + 1)) h.may (by rw [textS_size]; omega) hne
  have hok := h.ok.wr i (textS ((j : Int) + 1))
  rw [e] at hok ⊢
  refine ⟨rfl, hok, h.on, by show burn S.fuse = -1; rw [h.fz]; decide, h.hi, ?_⟩
  show (S.lst.set (i : Int).toNat _)[i]? = _
  rw [Int.toNat_natCast, List.getElem?_set_self (by rw [h.ok.ll]; exact h.hi), encS_succ]
theorem Ev.next {S : St} {n i k : Nat} (h : Ev S n i k) (hk : k < 4294967295) : (S.next i).2.1 = (k : Int) + 1 ∧ (S.next i).2.2 = 0 ∧ Ev (S.next i).1 n i (k + 1) := by
  have hl := h.last (by omega)
  obtain ⟨h0, h1⟩ := h.wrote k
  have hm1 : (S.wr i (textS ((k : Int) + 1))).1.may 0 = 0 := by rw [St.may_ok h1.ok (by omega) (by have := h.hi; omega), h1.on]; rfl
  have e2 := St.sync_ok hm1 (by rw [h1.fz]; decide)
  have hok2 := h1.ok.sync
  rw [e2] at hok2
  have hN : S.next i = ((S.wr i (textS ((k : Int) + 1))).1.sync.1, (k : Int) + 1, 0) := by
    unfold St.next
    rw [hl, if_neg (by simp), if_neg (by simp only; omega), h0, if_neg (by simp), e2, if_neg (by simp)]
  rw [hN, e2]
  refine ⟨rfl, rfl, hok2, h1.on, ?_, h.hi, h1.hl⟩
  show burn _ = -1
  rw [h1.fz]; decide
theorem Ev.full {S : St} {n i : Nat} (h : Ev S n i 4294967295) : S.next i = (S, 0, 3) := by
  have hl := h.last (by omega)
  unfold St.next
  rw [hl, if_neg (by simp), if_pos (by decide)]
theorem Ev.new : Ev (St.new 1) 1 0 0 := ⟨St.Ok.new 1, rfl, rfl, by omega, rfl⟩
theorem nd_cases (q : Nat) (hq : q ≤ 3) : ∃ j : Nat, j + 1 = 4294967295 - q ∧ ofL [83, 76, 69, 49, 255, 255, 255, byteOf (255 - q)] = textS ((j : Int) + 1) := by
  refine ⟨4294967294 - q, by omega, ?_⟩
  rcases (by omega : q = 0 ∨ q = 1 ∨ q = 2 ∨ q = 3) with rfl | rfl | rfl | rfl <;> decide +kernel

set_option maxRecDepth 100000 in
set_option maxHeartbeats 8000000 in
theorem epochEnds_walk (x : Int) (w : World) (lo : -9223372036854775808 ≤ x) (hi : x ≤ 9223372036854775807) :
    Calls Tryd.prog 3 #[.int .i64 x] w (Yes w) := by
  unfold Yes
  obtain ⟨q, hN⟩ : ∃ q : Nat, bits .and .i64 x 3 = (q : Int) := ⟨(x % 4).toNat, by rw [bitsand_mask x 2 (by omega) 3 rfl]; simp only [Nat.reducePow]; omega⟩
  have hq : q ≤ 3 := by rw [bitsand_mask x 2 (by omega) 3 rfl] at hN; simp only [Nat.reducePow] at hN; omega
  obtain ⟨j, hj, ht⟩ := nd_cases q hq
  have hw1 : IntKind.i64.wrap (4294967295 - (q : Int)) = 4294967295 - (q : Int) := by rw [IntKind.wrap_i64]; omega
  have hs1 : (4294967295 - (q : Int)) / 16777216 = 255 := by omega
  have hs2 : (4294967295 - (q : Int)) / 65536 % 256 = 255 := by omega
  have hs3 : (4294967295 - (q : Int)) / 256 % 256 = 255 := by omega
  have hs4 : (4294967295 - (q : Int)) % 256 = 255 - (q : Int) := by omega
  obtain ⟨t4, ht4⟩ : ∃ t4, ofL [255, 255, 255, byteOf (255 - (q : Int))] = t4 := ⟨_, rfl⟩
  have hadd : ¬ (9223372036854775807 < (⟨#[83, 76, 69, 49]⟩ : ByteArray).size + t4.size) := by rw [← ht4]; show ¬ (9223372036854775807 < 4 + 4); decide
  have hts : (⟨#[83, 76, 69, 49]⟩ : ByteArray) ++ t4 = textS ((j : Int) + 1) := by
    rw [← ht, ← ht4]
    exact ofL_app [83, 76, 69, 49] [255, 255, 255, byteOf (255 - (q : Int))]
  have hcv : ∀ wq : World, (convert 27 9 (.slice (some ⟨wq.heap.size, 0, none⟩) 4 4)).run Tryd.prog (wq.alloc (.cells #[.int .u8 255, .int .u8 255, .int .u8 255, .int .u8 (255 - (q : Int))] 5)) = .ok (.string t4) (wq.alloc (.cells #[.int .u8 255, .int .u8 255, .int .u8 255, .int .u8 (255 - (q : Int))] 5)) := by
    intro wq
    rw [← ht4]
    refine conv_back (P := Tryd.prog) _ 27 9 5 ⟨wq.heap.size, 0, none⟩ 4 [255, 255, 255, byteOf (255 - (q : Int))] 4 rfl Tryd.underlying27 Tryd.underlying5 Tryd.underlying9 ?_
    have hb : (((byteOf (255 - (q : Int))).toNat : Nat) : Int) = 255 - (q : Int) := by rw [byteOf_toNat]; omega
    intro i u hi
    simp only [List.map_cons, List.map_nil, hb, show (((255 : UInt8).toNat : Nat) : Int) = 255 from rfl] at hi
    rw [add_mk, World.cell?_alloc_mark, Nat.zero_add]
    rw [← hi]; simp
  have HT := Lib.hid hts
  have HJ := Lib.hid hj
  have HEV := Lib.hid (Ev.new.wrote j)
  clear hj ht ht4 hts hq lo hi
  go_enter Tryd.func3, Tryd.ntmps3
  go_wp2_with fail
  (with_reducible refine (new_at w 1 1 rfl (by omega) (by omega)).mono ?_)
  rintro e w1 ⟨b, g, m, rfl, hD, hB, hG, hM, hb1⟩
  have R1 : Hid (ErRel w w1 b g m (St.new 1) 1) := Lib.hid ⟨hD, hb1, hB, hG, hM⟩
  clear hD hB hG hM hb1
  go_wp2_with fail
  have R2 : Hid (ErRel w (w1.alloc (.cells #[.int .u8 255, .int .u8 255, .int .u8 255, .int .u8 (255 - (q : Int))] 5)) b g m (St.new 1) 1) := Lib.hid (R1.out.below ((Below.refl _ w1).alloc (Nat.le_refl _) _))
  have HWR : Hid (Calls Tryd.prog 6 #[.pointer (some ⟨b, 0, none⟩), .int .i64 0, .string (⟨#[83, 76, 69, 49]⟩ ++ t4)] (w1.alloc (.cells #[.int .u8 255, .int .u8 255, .int .u8 255, .int .u8 (255 - (q : Int))] 5)) fun e w'' => e = .returned (.int .i64 0) ∧ ErRel w w'' b g m ((St.new 1).wr (0 : Nat) (textS ((j : Int) + 1))).1 1) := Lib.hid (by
    rw [HT.out]
    exact (write_any _ b g m (St.new 1) 1 (0 : Nat) (textS ((j : Int) + 1)) R2.out.dk (by rw [textS_size]; omega)).mono fun e w'' ⟨he, hD, hk⟩ => ⟨by rw [he, HEV.out.1], R2.out.step hk hD⟩)
  (with_reducible refine HWR.out.mono ?_)
  rintro e w2 ⟨rfl, hR⟩
  have HR := Lib.hid hR
  have HE := Lib.hid HEV.out.2
  clear hR HWR R2 R1 HEV hcv hadd
  go_wp2_with fail
  go_loopw [6] (fun v6 wr => ∃ (k : Nat) (S : St), v6 = .int .i64 k ∧ k ≤ 4294967295 ∧ Hid (Ev S 1 0 k) ∧ Hid (ErRel w wr b g m S 1)) (fun v6 _ => 4294967295 - (intOf v6).toNat)
  case atStart => exact ⟨j + 1, _, congrArg _ (by have := HJ.out; omega), by have := HJ.out; omega, HE, HR⟩
  case round =>
    clear HE HR
    obtain ⟨k, S, rfl, hk, HE, HR⟩ := hrel
    by_cases hlt : k < 4294967295
    · have p1 : (k : Int) < 4294967295 := by omega
      have hw2 : IntKind.i64.wrap ((k : Int) + 1) = (k : Int) + 1 := by rw [IntKind.wrap_i64]; omega
      obtain ⟨a1, a2, E1⟩ := HE.out.next hlt
      have HNX : Hid (Calls Tryd.prog 7 #[.pointer (some ⟨b, 0, none⟩), .int .i64 0] wr fun e w'' => e = .returned (.tuple #[.int .i64 ((k : Int) + 1), .int .i64 0]) ∧ ErRel w w'' b g m (S.next (0 : Nat)).1 1) :=
        Lib.hid ((next_any wr b g m S 1 (0 : Nat) HR.out.dk).mono fun e w'' ⟨he, hD, hk⟩ => ⟨by rw [he, a1, a2], HR.out.step hk hD⟩)
      have HE1 := Lib.hid E1
      clear a1 a2 E1 HE
      go_wp2_with fail
      (with_reducible refine HNX.out.mono ?_)
      rintro e w3 ⟨rfl, hR3⟩
      have HR3 := Lib.hid hR3
      clear hR3
      go_wp2_with fail
      go_roundw
      case rel => exact ⟨k + 1, _, congrArg _ (by omega), by omega, HE1, HR3⟩
      case measure => simp [intOf]; omega
    · obtain rfl : k = 4294967295 := by omega
      have hfull := HE.out.full
      have hlast := HE.out.last (by omega)
      have HNX : Hid (Calls Tryd.prog 7 #[.pointer (some ⟨b, 0, none⟩), .int .i64 0] wr fun e w'' => e = .returned (.tuple #[.int .i64 0, .int .i64 3]) ∧ ErRel w w'' b g m S 1) :=
        Lib.hid ((next_any wr b g m S 1 (0 : Nat) HR.out.dk).mono fun e w'' ⟨he, hD, hk⟩ => ⟨by rw [he, hfull], by rw [hfull] at hD; exact HR.out.step hk hD⟩)
      have HLS : Hid (∀ w', ErRel w w' b g m S 1 → Calls Tryd.prog 8 #[.pointer (some ⟨b, 0, none⟩), .int .i64 0] w' fun e w'' => e = .returned (.tuple #[.int .i64 4294967295, .int .i64 0]) ∧ Below w.heap.size w w'') :=
        Lib.hid fun w' h => (last_any w' b g m S 1 (0 : Nat) h.dk).mono fun e w'' ⟨he, hb⟩ => ⟨by rw [he, hlast]; rfl, (h.below hb).bl⟩
      clear hfull hlast hlt hk HE
      go_wp2_with fail
      (with_reducible refine HNX.out.mono ?_)
      rintro e w3 ⟨rfl, hR3⟩
      have HR3 := Lib.hid hR3
      clear hR3
      go_wp2_with fail
      (with_reducible refine (HLS.out w3 HR3.out).mono ?_)
      rintro e w4 ⟨rfl, hb4⟩
      have B4 := Lib.hid hb4
      clear hb4
      go_wp2_with fail
      (with_reducible refine (next_none w4 0).mono ?_)
      rintro e w5 ⟨rfl, hb5⟩
      have B5 := Lib.hid (B4.out.trans (hb5.mono B4.out.size))
      clear hb5
      go_wp2_with fail
      (with_reducible refine (eawake_any w5).mono ?_)
      rintro e w6 ⟨rfl, hb6⟩
      have B6 := Lib.hid (B5.out.trans (hb6.mono B5.out.size))
      clear hb6
      go_wp2_with fail
      go_ret
      exact ⟨rfl, B6.out⟩
end Go.Proofs.YthjjdjhmaffoeaaDoor
