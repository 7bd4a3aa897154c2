/-
  The law's Same of the two disks, where they stand for one state.
-/
import Derived.Test.YthjjdjhmaffoeaaGreatDoorDkBo
import Derived.Test.YthjjdjhmaffoeaaGreatDoorTake
namespace Go.Proofs.YthjjdjhmaffoeaaGreatDoor
open Go.RowKit Go.Maps

theorem rd_intD {w : World} {A : Option Addr} {xs : List Int} (h : Rd w A (xs.map (Value.int .i64))) (k : Nat) (hk : k < xs.length) : ∃ b o, A = some ⟨b, o, none⟩ ∧ w.cell? ⟨b, o + k, none⟩ = some (.int .i64 (xs.getD k 0)) := by
  obtain ⟨b, o, e, hc⟩ := h.at_ (k := k) (by simpa using hk)
  refine ⟨b, o, e, ?_⟩
  rw [hc]
  simp [List.getD_eq_getElem?_getD, List.getElem?_eq_getElem hk]
theorem below_qN {w w' : World} {B : Nat} (h : Below B w w') (n : Nat) : Below B w (w'.drewN n) := ⟨h.os, h.tape, h.output, h.size, h.block⟩
set_option maxHeartbeats 1000000 in
theorem same_eq (A B : Option Addr) (n c d : Nat) (xs : List Int) (w : World) (hx : xs.length = n) (hr : Rd w A (xs.map (Value.int .i64))) (hs : Rd w B (xs.map (Value.int .i64))) (hn : n ≤ 9223372036854775807) :
    Calls Tryz.prog 40 #[.slice A n c, .slice B n d] w fun e w' => e = .returned (.bool true) ∧ Below w.heap.size w w' := by
  have Hx := Lib.hid hx
  clear hx
  have e0 : ((n : Int) != (n : Int)) = false := by simp
  go_enter Tryz.func40, Tryz.ntmps40
  go_wp2
  go_loopw [5] (fun i wr => ∃ k : Nat, k ≤ n ∧ i = .int .i64 k ∧ ∃ q, wr = w.drewN q) (fun i _ => n - (intOf i).toNat)
  case atStart => exact ⟨0, by omega, rfl, 0, rfl⟩
  case round =>
    obtain ⟨k, hk, rfl, q, rfl⟩ := hrel
    by_cases hlt : (k : Int) < (n : Int)
    · obtain ⟨b, o, rfl, hc1⟩ := rd_intD hr k (by rw [Hx.out]; omega)
      obtain ⟨b2, o2, rfl, hc2⟩ := rd_intD hs k (by rw [Hx.out]; omega)
      generalize xs.getD k 0 = z at hc1 hc2
      go_wp2
      go_quiet (fail)
      go_wp2
      go_roundw
      case rel => exact ⟨k + 1, by omega, by go_num, _, rfl⟩
      case measure => simp [intOf]; omega
    · go_wp2
      go_ret
      exact ⟨rfl, below_qN (Below.refl _ _) _⟩
theorem stay3 {w0 w w1 : World} (hb : Below w.heap.size w w1) {a0 a1 : Addr} {v0 v1 : Value} (h : Below w0.heap.size w0 w ∧ w.cell? a0 = some v0 ∧ w.cell? a1 = some v1) : Below w0.heap.size w0 w1 ∧ w1.cell? a0 = some v0 ∧ w1.cell? a1 = some v1 := by
  have k : ∀ {a : Addr} {v : Value}, w.cell? a = some v → w1.cell? a = some v := fun h => (hb.cell (World.block_lt_of_cell? w _ h)).trans h
  exact ⟨bl h.1 hb, k h.2.1, k h.2.2⟩

set_option maxRecDepth 100000 in
set_option maxHeartbeats 8000000 in
theorem lsame_any (w : World) (b g m rb go gl gf c1 c2 c3 : Nat) (S : St) (n : Nat) (h : Both w b g m rb go gl gf c1 c2 c3 S n) :
    Calls Tryz.prog 18 #[.pointer (some ⟨b, 0, none⟩), .pointer (some ⟨rb, 0, none⟩)] w fun e w' => e = .returned (.bool true) ∧ Below w.heap.size w w' := by
  have HB := Lib.hid h
  obtain ⟨p0, _, _, _, p4, _, _⟩ := h.rf.cells
  have hn2 := h.rf.n2
  obtain ⟨dd, hdd⟩ : ∃ dd, S.dead = dd := ⟨_, rfl⟩
  rw [hdd] at p4
  have HDD := Lib.hid hdd
  have HU : Hid ((unsI S).length ≤ 9223372036854775807) := Lib.hid (by
    have h1 : (unsI S).length ≤ n := by
      unfold unsI St.uns
      rw [List.length_map, uns_len]
      exact Nat.le_trans List.countP_le_length (Nat.le_of_eq h.rf.ok.lf)
    omega)
  have hne0 : ((n : Int) != (n : Int)) = false := by simp
  have hne1 : (dd != dd) = false := by simp
  have hcw : Below w.heap.size w w.drew ∧ w.drew.cell? ⟨rb, 0, none⟩ = some (.slice (some ⟨go, 0, none⟩) n c1) ∧ w.drew.cell? ⟨rb, 4, none⟩ = some (.bool dd) := ⟨(Below.refl _ _).drew, p0, p4⟩
  clear h hdd p0 p4
  go_enter Tryz.func18, Tryz.ntmps18
  go_upto_region 1 with (fail)
  refine wp_region_held_drew (S := fun w' => Below w.heap.size w w' ∧ w'.cell? ⟨rb, 0, none⟩ = some (.slice (some ⟨go, 0, none⟩) n c1) ∧ w'.cell? ⟨rb, 4, none⟩ = some (.bool dd)) (by kernel_rfl) hcw (fun hSw => ?_)
  refine anyH_take (i := 0) (v := ?_) rfl (by kernel_rfl) (by kernel_rfl) (by kernel_rfl) (fun _ _ _ h => h) (by rfl) ?_ (by assumption) ?_
  rotate_left
  · intro w' hSw; (try dsimp only at hSw); go_simp; (try with_reducible rfl)
  try simp only [Act.put, List.setIfInBounds_toArray, List.set_cons_zero, List.set_cons_succ]
  refine anyH_take (i := 2) (v := ?_) rfl (by kernel_rfl) (by kernel_rfl) (by kernel_rfl) (fun _ _ _ h => h) (by rfl) ?_ (by assumption) ?_
  rotate_left
  · intro w' hSw; (try dsimp only at hSw); go_simp; (try with_reducible rfl)
  try simp only [Act.put, List.setIfInBounds_toArray, List.set_cons_zero, List.set_cons_succ]
  refine anyH_take (i := 3) (v := ?_) rfl (by kernel_rfl) (by kernel_rfl) (by kernel_rfl) (fun _ _ _ h => h) (by rfl) ?_ (by assumption) ?_
  rotate_left
  · intro w' hSw; (try dsimp only at hSw); go_simp; (try with_reducible rfl)
  try simp only [Act.put, List.setIfInBounds_toArray, List.set_cons_zero, List.set_cons_succ]
  refine anyH_take (i := 4) (v := ?_) rfl (by kernel_rfl) (by kernel_rfl) (by kernel_rfl) (fun _ _ _ h => h) (by rfl) ?_ (by assumption) ?_
  rotate_left
  · intro w' hSw; (try dsimp only at hSw); go_simp; (try with_reducible rfl)
  try simp only [Act.put, List.setIfInBounds_toArray, List.set_cons_zero, List.set_cons_succ]
  refine anyH_take (i := 5) (v := ?_) rfl (by kernel_rfl) (by kernel_rfl) (by kernel_rfl) (fun _ _ _ h => h) (by rfl) ?_ (by assumption) ?_
  rotate_left
  · intro w' hSw; (try dsimp only at hSw); go_simp; (try with_reducible rfl)
  try simp only [Act.put, List.setIfInBounds_toArray, List.set_cons_zero, List.set_cons_succ]
  refine anyH_take (i := 6) (v := ?_) rfl (by kernel_rfl) (by kernel_rfl) (by kernel_rfl) (fun _ _ _ h => h) (by rfl) ?_ (by assumption) ?_
  rotate_left
  · intro w' hSw; (try dsimp only at hSw); go_simp; (try with_reducible rfl)
  try simp only [Act.put, List.setIfInBounds_toArray, List.set_cons_zero, List.set_cons_succ]
  refine anyH_call (i := 1) rfl (by kernel_rfl) (by rfl) (fun K hK => ?_)
  go_simp
  have hS := ‹Below w.heap.size w _ ∧ _›; go_at_call 38; (with_reducible refine (len_any _ b g m S n (HB.out.quiet hS.1).dk).mono ?_); rintro e w1 ⟨rfl, hb1⟩; have hX := stay3 hb1 hS; have X1 := Lib.hid hX; clear hS
  refine hK.out _ _ hX (fun _ => ?_)
  clear hK K
  try simp only [Act.put, List.setIfInBounds_toArray, List.set_cons_zero, List.set_cons_succ]
  refine anyH_take (i := 7) (v := ?_) rfl (by kernel_rfl) (by kernel_rfl) (by kernel_rfl) (fun _ _ _ h => h) (by rfl) ?_ (by assumption) ?_
  rotate_left
  · intro w' hSw; (try dsimp only at hSw); go_simp; (try with_reducible rfl)
  try simp only [Act.put, List.setIfInBounds_toArray, List.set_cons_zero, List.set_cons_succ]
  refine anyH_take (i := 8) (v := ?_) rfl (by kernel_rfl) (by kernel_rfl) (by kernel_rfl) (fun _ _ _ h => h) (by rfl) ?_ (by assumption) ?_
  rotate_left
  · intro w' hSw; (try dsimp only at hSw); go_simp; (try with_reducible rfl)
  try simp only [Act.put, List.setIfInBounds_toArray, List.set_cons_zero, List.set_cons_succ]
  refine anyH_take (i := 9) (v := ?_) rfl (by kernel_rfl) (by kernel_rfl) (by kernel_rfl) (fun _ _ _ h => h) (by rfl) ?_ (by assumption) ?_
  rotate_left
  · intro w' hSw; (try dsimp only at hSw); go_simp; (try with_reducible rfl)
  try simp only [Act.put, List.setIfInBounds_toArray, List.set_cons_zero, List.set_cons_succ]
  refine anyH_take (i := 11) (v := ?_) rfl (by kernel_rfl) (by kernel_rfl) (by kernel_rfl) (fun _ _ _ h => h) (by rfl) ?_ (by assumption) ?_
  rotate_left
  · intro w' hSw; (try dsimp only at hSw); go_simp; (try with_reducible rfl)
  try simp only [Act.put, List.setIfInBounds_toArray, List.set_cons_zero, List.set_cons_succ]
  refine anyH_take (i := 12) (v := ?_) rfl (by kernel_rfl) (by kernel_rfl) (by kernel_rfl) (fun _ _ _ h => h) (by rfl) ?_ (by assumption) ?_
  rotate_left
  · intro w' hSw; (try dsimp only at hSw); go_simp; (try with_reducible rfl)
  try simp only [Act.put, List.setIfInBounds_toArray, List.set_cons_zero, List.set_cons_succ]
  refine anyH_take (i := 13) (v := ?_) rfl (by kernel_rfl) (by kernel_rfl) (by kernel_rfl) (fun _ _ _ h => h) (by rfl) ?_ (by assumption) ?_
  rotate_left
  · intro w' hSw; (try dsimp only at hSw); go_simp; (try with_reducible rfl)
  try simp only [Act.put, List.setIfInBounds_toArray, List.set_cons_zero, List.set_cons_succ]
  refine anyH_take (i := 14) (v := ?_) rfl (by kernel_rfl) (by kernel_rfl) (by kernel_rfl) (fun _ _ _ h => h) (by rfl) ?_ (by assumption) ?_
  rotate_left
  · intro w' hSw; (try dsimp only at hSw); go_simp; (try with_reducible rfl)
  try simp only [Act.put, List.setIfInBounds_toArray, List.set_cons_zero, List.set_cons_succ]
  refine anyH_call (i := 10) rfl (by kernel_rfl) (by rfl) (fun K hK => ?_)
  go_simp
  have hS := X1.out; go_at_call 39; (with_reducible refine (dead_any _ b g m S n (HB.out.quiet X1.out.1).dk).mono ?_); rintro e w2 ⟨rfl, hb2⟩; have hX := stay3 hb2 X1.out; have X2 := Lib.hid hX; clear hS; try rw [HDD.out]
  refine hK.out _ _ hX (fun _ => ?_)
  clear hK K
  try simp only [Act.put, List.setIfInBounds_toArray, List.set_cons_zero, List.set_cons_succ]
  refine anyH_take (i := 15) (v := ?_) rfl (by kernel_rfl) (by kernel_rfl) (by kernel_rfl) (fun _ _ _ h => h) (by rfl) ?_ (by assumption) ?_
  rotate_left
  · intro w' hSw; (try dsimp only at hSw); go_simp; (try with_reducible rfl)
  try simp only [Act.put, List.setIfInBounds_toArray, List.set_cons_zero, List.set_cons_succ]
  refine anyH_take (i := 16) (v := ?_) rfl (by kernel_rfl) (by kernel_rfl) (by kernel_rfl) (fun _ _ _ h => h) (by rfl) ?_ (by assumption) ?_
  rotate_left
  · intro w' hSw; (try dsimp only at hSw); go_simp; (try with_reducible rfl)
  try simp only [Act.put, List.setIfInBounds_toArray, List.set_cons_zero, List.set_cons_succ]
  refine anyH_take (i := 17) (v := ?_) rfl (by kernel_rfl) (by kernel_rfl) (by kernel_rfl) (fun _ _ _ h => h) (by rfl) ?_ (by assumption) ?_
  rotate_left
  · intro w' hSw; (try dsimp only at hSw); go_simp; (try with_reducible rfl)
  try simp only [Act.put, List.setIfInBounds_toArray, List.set_cons_zero, List.set_cons_succ]
  refine anyH_take (i := 18) (v := ?_) rfl (by kernel_rfl) (by kernel_rfl) (by kernel_rfl) (fun _ _ _ h => h) (by rfl) ?_ (by assumption) ?_
  rotate_left
  · intro w' hSw; (try dsimp only at hSw); go_simp; (try with_reducible rfl)
  try simp only [Act.put, List.setIfInBounds_toArray, List.set_cons_zero, List.set_cons_succ]
  refine anyH_take (i := 20) (v := ?_) rfl (by kernel_rfl) (by kernel_rfl) (by kernel_rfl) (fun _ _ _ h => h) (by rfl) ?_ (by assumption) ?_
  rotate_left
  · intro w' hSw; (try dsimp only at hSw); go_simp; (try with_reducible rfl)
  try simp only [Act.put, List.setIfInBounds_toArray, List.set_cons_zero, List.set_cons_succ]
  refine anyH_call (i := 19) rfl (by kernel_rfl) (by rfl) (fun K hK => ?_)
  go_simp
  go_at_call 36; (with_reducible refine (uns_any _ b g m S n (HB.out.quiet X2.out.1).dk).mono ?_); rintro e w3 ⟨A1, e1, rfl, hc1, hd1, hr1, hf1, hb3⟩; have hX := stay3 hb3 X2.out; have X3 := Lib.hid hX; have R1 := Lib.hid hr1; have C1 := Lib.hid (And.intro hc1 hd1); clear hc1 hd1 hr1 hf1
  refine hK.out _ _ hX (fun _ => ?_)
  clear hK K
  try simp only [Act.put, List.setIfInBounds_toArray, List.set_cons_zero, List.set_cons_succ]
  refine anyH_call (i := 21) rfl (by kernel_rfl) (by rfl) (fun K hK => ?_)
  go_simp
  go_at_call 37; (with_reducible refine (runs_any _ rb go gl gf c1 c2 c3 S n (HB.out.quiet X3.out.1).rf).mono ?_); rintro e w4 ⟨A2, e2, rfl, hc2, hd2, hr2, hf2, hb4⟩; have hX := stay3 hb4 X3.out; have X4 := Lib.hid hX; have R2 := Lib.hid hr2; have R1b := Lib.hid (R1.out.below hb4); clear hc2 hd2 hr2 hf2
  refine hK.out _ _ hX (fun _ => ?_)
  clear hK K
  try simp only [Act.put, List.setIfInBounds_toArray, List.set_cons_zero, List.set_cons_succ]
  refine anyH_call (i := 22) rfl (by kernel_rfl) (by rfl) (fun K hK => ?_)
  go_simp
  go_at_call 40; (with_reducible refine (same_eq A1 A2 _ _ _ (unsI S) _ rfl R1b.out R2.out HU.out).mono ?_); rintro e w5 ⟨rfl, hb5⟩; have hX := stay3 hb5 X4.out; have X5 := Lib.hid hX
  refine hK.out _ _ hX (fun _ => ?_)
  clear hK K
  try simp only [Act.put, List.setIfInBounds_toArray, List.set_cons_zero, List.set_cons_succ]
  refine anyH_take (i := 23) (v := ?_) rfl (by kernel_rfl) (by kernel_rfl) (by kernel_rfl) (fun _ _ _ h => h) (by rfl) ?_ (by assumption) ?_
  rotate_left
  · intro w' hSw; (try dsimp only at hSw); go_simp; (try with_reducible rfl)
  try simp only [Act.put, List.setIfInBounds_toArray, List.set_cons_zero, List.set_cons_succ]
  refine anyH_take (i := 24) (v := ?_) rfl (by kernel_rfl) (by kernel_rfl) (by kernel_rfl) (fun _ _ _ h => h) (by rfl) ?_ (by assumption) ?_
  rotate_left
  · intro w' hSw; (try dsimp only at hSw); go_simp; (try with_reducible rfl)
  try simp only [Act.put, List.setIfInBounds_toArray, List.set_cons_zero, List.set_cons_succ]
  refine wpAnyH_done (by kernel_rfl) ?_ _
  clear hX hcw
  go_wp2_with fail
  have HX5 := Lib.hid X5.out.1
  go_loopw [5] (fun vi wr => ∃ i : Nat, vi = .int .i64 i ∧ i ≤ n ∧ Hid (Below w.heap.size w wr)) (fun vi _ => n - (intOf vi).toNat)
  case atStart => exact ⟨0, rfl, by omega, HX5⟩
  case round =>
    obtain ⟨i, rfl, hi, HBr⟩ := hrel
    have HQ := Lib.hid (HB.out.quiet HBr.out)
    have p0 := HQ.out.rf.cells.1
    by_cases hlt : i < n
    · have h5 : (i : Int) < (n : Int) := by omega
      have HRD : Hid (∀ w1, Both w1 b g m rb go gl gf c1 c2 c3 S n → Calls Tryz.prog 26 #[.pointer (some ⟨b, 0, none⟩), .int .i64 (i : Int)] w1 fun e w' => e = .returned (.tuple #[.string (S.rd i).1, .int .i64 (S.rd i).2]) ∧ Below w1.heap.size w1 w') := Lib.hid fun w1 h1 => read_any w1 b g m S n i h1.dk
      have HRR : Hid (∀ w1, Both w1 b g m rb go gl gf c1 c2 c3 S n → Calls Tryz.prog 30 #[.pointer (some ⟨rb, 0, none⟩), .int .i64 (i : Int)] w1 fun e w' => e = .returned (.tuple #[.string (S.rd i).1, .int .i64 (S.rd i).2]) ∧ Below w1.heap.size w1 w') := Lib.hid fun w1 h1 => rread_any w1 rb go gl gf c1 c2 c3 S n h1.rf i
      obtain ⟨rs, hrs⟩ : ∃ rs, (S.rd i).1 = rs := ⟨_, rfl⟩
      obtain ⟨re, hre⟩ : ∃ re, (S.rd i).2 = re := ⟨_, rfl⟩
      rw [hrs, hre] at HRD HRR
      clear hrs hre
      go_wp2_with fail
      (with_reducible refine (HRD.out wr HQ.out).mono ?_)
      rintro e w6 ⟨rfl, hb6⟩
      have H6 := Lib.hid (HQ.out.quiet hb6)
      have HB6 := Lib.hid (bl HBr.out hb6)
      clear hb6 p0
      go_wp2_with fail
      (with_reducible refine (HRR.out w6 H6.out).mono ?_)
      rintro e w7 ⟨rfl, hb7⟩
      have HB7 := Lib.hid (bl HB6.out hb7)
      clear hb7
      go_wp2_with fail
      go_roundw
      case rel => exact ⟨i + 1, congrArg _ (by omega), by omega, HB7⟩
      case measure => simp [intOf]; omega
    · have h5 : ¬ (i : Int) < (n : Int) := by omega
      go_wp2_with fail
      go_ret
      exact ⟨rfl, HBr.out⟩
end Go.Proofs.YthjjdjhmaffoeaaGreatDoor
