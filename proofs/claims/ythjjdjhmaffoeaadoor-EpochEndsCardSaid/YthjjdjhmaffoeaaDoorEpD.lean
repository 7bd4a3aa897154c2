/-
  The law EpochRises' walk (printed by genEpD.py).
-/
import Derived.Test.YthjjdjhmaffoeaaDoorEpC
import Derived.Test.YthjjdjhmaffoeaaDoorDkRw
import Derived.Test.YthjjdjhmaffoeaaDoorFrame
namespace Go.Proofs.YthjjdjhmaffoeaaDoor
open Go.RowKit

structure ErRel (w wr : World) (b g m : Nat) (S : St) (n : Nat) : Prop where
  dk : DiskAt wr b g m S n
  bl : Below w.heap.size w wr
  lb : w.heap.size ≤ b ∧ w.heap.size ≤ g ∧ w.heap.size ≤ m
theorem ErRel.step {w wr w2 : World} {b g m n : Nat} {S S' : St} (h : ErRel w wr b g m S n) (hk : Keep3 b g m wr w2) (hD : DiskAt w2 b g m S' n) : ErRel w w2 b g m S' n :=
  ⟨hD, h.bl.trans (hk.below h.bl.size h.lb.1 h.lb.2.1 h.lb.2.2), h.lb⟩
theorem ErRel.below {w wr w2 : World} {b g m n : Nat} {S : St} (h : ErRel w wr b g m S n) (hb : Below wr.heap.size wr w2) : ErRel w w2 b g m S n :=
  ⟨h.dk.below hb, h.bl.trans (hb.mono h.bl.size), h.lb⟩
theorem erow {w wr : World} {A : Option Addr} {xs : List Int} (hr : Rd w A (xs.map (Value.int .i64))) (hb : Below w.heap.size w wr) {i : Nat} {x : Int} (hx : xs[i]? = some x) : ∃ bb o, A = some ⟨bb, o, none⟩ ∧ wr.cell? ⟨bb, o + i, none⟩ = some (.int .i64 x) := by
  obtain ⟨hi, he⟩ := List.getElem?_eq_some_iff.1 hx
  obtain ⟨bb, o, e, hc⟩ := (hr.below hb).at_ (k := i) (by rw [List.length_map]; exact hi)
  refine ⟨bb, o, e, ?_⟩
  rw [hc, List.getElem_map, he]

set_option maxRecDepth 100000 in
set_option maxHeartbeats 8000000 in
theorem epochRises_walk (A0 : Option Addr) (n0 c0 : Nat) (xs : List Int) (A1 : Option Addr) (n1 c1 : Nat) (ys : List Int) (w : World) (hl0 : xs.length = n0) (hr0 : Rd w A0 (xs.map (Value.int .i64))) (_ : n0 ≤ c0) (_ : c0 * 8 ≤ 140737488351232) (hl1 : ys.length = n1) (hr1 : Rd w A1 (ys.map (Value.int .i64))) (_ : n1 ≤ c1) (_ : c1 * 8 ≤ 140737488351232) :
    Calls Tryd.prog 4 #[.slice A0 n0 c0, .slice A1 n1 c1] w (Yes w) := by
  unfold Yes
  have H0 := Lib.hid (And.intro hl0 hr0)
  have H1 := Lib.hid (And.intro hl1 hr1)
  clear hl0 hr0 hl1 hr1
  go_enter Tryd.func4, Tryd.ntmps4
  go_wp2_with fail
  (with_reducible refine (new_at w 2 2 rfl (by omega) (by omega)).mono ?_)
  rintro e w1 ⟨b, g, m, rfl, hD, hB, hG, hM, hb1⟩
  have R1 : Hid (ErRel w w1 b g m (St.new 2) 2) := Lib.hid ⟨hD, hb1, hB, hG, hM⟩
  have HE := Lib.hid (Ep.new 2 1 (by omega))
  clear hD hB hG hM hb1
  go_wp2_with fail
  go_loopw [7, 8, 9] (fun v7 v8 v9 wr => ∃ (la st i : Nat) (S : St), v7 = .int .i64 la ∧ v8 = .int .i64 st ∧ v9 = .int .i64 i ∧ i ≤ 30 ∧ la ≤ st ∧ st ≤ 6 * i ∧ Hid (Ep S 2 1 st) ∧ Hid (ErRel w wr b g m S 2)) (fun _ _ v9 _ => 30 - (intOf v9).toNat)
  case atStart => exact ⟨0, 0, 0, _, rfl, rfl, rfl, by omega, by omega, by omega, HE, R1⟩
  case round =>
    clear HE R1
    obtain ⟨la, st, i, S, rfl, rfl, rfl, hi, hls, hst, HE, HR⟩ := hrel
    have HAW : Hid (∀ w', Below wr.heap.size wr w' → Calls Tryd.prog 9 #[] w' fun e w'' => e = .returned (.bool true) ∧ Below w.heap.size w w'') :=
      Lib.hid fun w' hb => (eawake_any w').mono fun e w'' ⟨he, hb2⟩ => ⟨he, (HR.out.bl.trans (hb.mono HR.out.bl.size)).trans (hb2.mono (Nat.le_trans HR.out.bl.size hb.size))⟩
    by_cases q0 : i < n0
    · by_cases q1 : i < n1
      · by_cases q2 : i < 30
        · have p0 : (i : Int) < (n0 : Int) := by omega
          have p1 : (i : Int) < (n1 : Int) := by omega
          have p2 : (i : Int) < 30 := by omega
          obtain ⟨x, hx⟩ : ∃ x, xs[i]? = some x := ⟨_, List.getElem?_eq_getElem (by rw [H0.out.1]; exact q0)⟩
          obtain ⟨y, hy⟩ : ∃ y, ys[i]? = some y := ⟨_, List.getElem?_eq_getElem (by rw [H1.out.1]; exact q1)⟩
          have HY := Lib.hid hy
          obtain ⟨ba, oa, rfl, hca⟩ := erow H0.out.2 HR.out.bl hx
          obtain ⟨bb, ob, rfl, _⟩ := erow H1.out.2 HR.out.bl hy
          clear hx hy
          obtain ⟨N, hN⟩ : ∃ N : Nat, bits .and .i64 x 7 = (N : Int) := ⟨(x % 8).toNat, by rw [bitsand_mask x 3 (by omega) 7 rfl]; simp only [Nat.reducePow]; omega⟩
          have hN7 : N ≤ 7 := by rw [bitsand_mask x 3 (by omega) 7 rfl] at hN; simp only [Nat.reducePow] at hN; omega
          have HFU : Hid (Calls Tryd.prog 10 #[.pointer (some ⟨b, 0, none⟩), .int .i64 (N : Int)] wr fun e w'' => e = .returned (.tuple #[]) ∧ ErRel w w'' b g m (S.setFuse N) 2) :=
            Lib.hid ((fuse_any wr b g m S 2 HR.out.dk (N : Int) (by omega)).mono fun e w'' ⟨he, hD, hk⟩ => ⟨he, HR.out.step hk hD⟩)
          have HE2 := Lib.hid (HE.out.fuseTo (N : Int)).1
          clear HE
          go_wp2_with fail
          (with_reducible refine HFU.out.mono ?_)
          rintro e w2 ⟨rfl, hR2⟩
          have HR2 := Lib.hid hR2
          clear hR2 hca HFU HR HAW hN hN7 q0 q1 q2
          generalize S.setFuse (N : Int) = S2 at *
          go_wp2_with fail
          go_loopw [7, 8, 10] (fun v7 v8 v10 wr2 => ∃ (la2 st2 k : Nat) (S3 : St), v7 = .int .i64 la2 ∧ v8 = .int .i64 st2 ∧ v10 = .int .i64 k ∧ k ≤ 5 ∧ la2 ≤ st2 ∧ st2 ≤ 6 * i + k ∧ Hid (Ep S3 2 1 st2) ∧ Hid (ErRel w wr2 b g m S3 2)) (fun _ _ v10 _ => 5 - (intOf v10).toNat)
          case atStart => exact ⟨la, st, 0, _, rfl, rfl, rfl, by omega, hls, by omega, HE2, HR2⟩
          case round =>
            clear HE2 HR2 hls hst
            obtain ⟨la2, st2, k, S3, rfl, rfl, rfl, hk, hls, hst, HE, HR⟩ := hrel
            by_cases hk5 : k < 5
            · have k1 : (k : Int) < 5 := by omega
              rcases HE.out.next (by omega) with ⟨a1, a2, E1, _⟩ | ⟨a1, a2, W1, _⟩
              · obtain ⟨s1, hs1⟩ : ∃ s1, st2 + 1 = s1 := ⟨_, rfl⟩
                have HNX : Hid (Calls Tryd.prog 7 #[.pointer (some ⟨b, 0, none⟩), .int .i64 1] wr fun e w'' => e = .returned (.tuple #[.int .i64 (s1 : Int), .int .i64 0]) ∧ ErRel w w'' b g m (S3.next (1 : Nat)).1 2) :=
                  Lib.hid ((next_any wr b g m S3 2 (1 : Nat) HR.out.dk).mono fun e w'' ⟨he, hD, hk⟩ => ⟨by rw [he, a1, a2, ← hs1]; rfl, HR.out.step hk hD⟩)
                rw [hs1] at E1
                have HE1 := Lib.hid E1
                have c1 : ¬ (s1 : Int) ≤ (la2 : Int) := by omega
                have hs6 : s1 ≤ 6 * i + (k + 1) := by omega
                clear a1 a2 E1 HE hs1
                go_wp2_with fail
                (with_reducible refine HNX.out.mono ?_)
                rintro e w3 ⟨rfl, hR3⟩
                have HR3 := Lib.hid hR3
                clear hR3
                go_wp2_with fail
                go_roundw
                case rel => exact ⟨s1, s1, k + 1, _, rfl, rfl, congrArg _ (by omega), by omega, by omega, hs6, HE1, HR3⟩
                case measure => simp [intOf]; omega
              · have HNX : Hid (Calls Tryd.prog 7 #[.pointer (some ⟨b, 0, none⟩), .int .i64 1] wr fun e w'' => e = .returned (.tuple #[.int .i64 0, .int .i64 7]) ∧ ErRel w w'' b g m (S3.next (1 : Nat)).1 2) :=
                  Lib.hid ((next_any wr b g m S3 2 (1 : Nat) HR.out.dk).mono fun e w'' ⟨he, hD, hk⟩ => ⟨by rw [he, a1, a2], HR.out.step hk hD⟩)
                have HW1 := Lib.hid W1
                clear a1 a2 W1 HE
                go_wp2_with fail
                (with_reducible refine HNX.out.mono ?_)
                rintro e w3 ⟨rfl, hR3⟩
                have HR3 := Lib.hid hR3
                clear hR3 HNX HR
                generalize (S3.next (1 : Nat)).1 = S4 at *
                obtain ⟨bq, oq, hAq, hcy⟩ := erow H1.out.2 HR3.out.bl HY.out
                obtain ⟨rfl, rfl⟩ : bb = bq ∧ ob = oq := by
                  have := Option.some.inj hAq
                  injection this with t1 t2 t3
                  exact ⟨t1, t2⟩
                clear hAq
                have HCR : Hid (Calls Tryd.prog 11 #[.pointer (some ⟨b, 0, none⟩), .int .i64 y] w3 fun e w'' => e = .returned (.tuple #[]) ∧ ErRel w w'' b g m (S4.crash (bitOf y)) 2) :=
                  Lib.hid ((crash_any w3 b g m S4 2 y HR3.out.dk).mono fun e w'' ⟨he, hD, hk⟩ => ⟨he, HR3.out.step hk hD⟩)
                obtain ⟨s5, hs5, E5⟩ := HW1.out.crash (bitOf y)
                have HE5 := Lib.hid E5
                have HL5 := Lib.hid (E5.last (by omega))
                have d1 : ¬ (s5 : Int) < (st2 : Int) := by omega
                have d2 : ¬ (st2 : Int) + 1 < (s5 : Int) := by omega
                have hst6 : s5 ≤ 6 * (i + 1) := by omega
                have hla5 : la2 ≤ s5 := by omega
                clear hs5 E5 HW1
                go_wp2_with fail
                (with_reducible refine HCR.out.mono ?_)
                rintro e w4 ⟨rfl, hR4⟩
                have HLS : Hid (Calls Tryd.prog 8 #[.pointer (some ⟨b, 0, none⟩), .int .i64 1] w4 fun e w'' => e = .returned (.tuple #[.int .i64 (s5 : Int), .int .i64 0]) ∧ ErRel w w'' b g m (S4.crash (bitOf y)) 2) :=
                  Lib.hid ((last_any w4 b g m _ 2 (1 : Nat) hR4.dk).mono fun e w'' ⟨he, hb⟩ => ⟨by rw [he, HL5.out], hR4.below hb⟩)
                clear hR4 hcy HCR
                go_wp2_with fail
                (with_reducible refine HLS.out.mono ?_)
                rintro e w5 ⟨rfl, hR5⟩
                have HR5 := Lib.hid hR5
                clear hR5 HLS
                go_wp2_with fail
                go_roundw
                case rel => exact ⟨la2, s5, i + 1, _, rfl, rfl, congrArg _ (by omega), by omega, hla5, hst6, HE5, HR5⟩
                case measure => simp [intOf]; omega
            · have k1 : ¬ (k : Int) < 5 := by omega
              have HW1 := Lib.hid HE.out.wk
              have HR3 := HR
              clear HE HR
              generalize wr = w3 at *
              generalize S3 = S4 at *
              obtain ⟨bq, oq, hAq, hcy⟩ := erow H1.out.2 HR3.out.bl HY.out
              obtain ⟨rfl, rfl⟩ : bb = bq ∧ ob = oq := by
                have := Option.some.inj hAq
                injection this with t1 t2 t3
                exact ⟨t1, t2⟩
              clear hAq
              have HCR : Hid (Calls Tryd.prog 11 #[.pointer (some ⟨b, 0, none⟩), .int .i64 y] w3 fun e w'' => e = .returned (.tuple #[]) ∧ ErRel w w'' b g m (S4.crash (bitOf y)) 2) :=
                Lib.hid ((crash_any w3 b g m S4 2 y HR3.out.dk).mono fun e w'' ⟨he, hD, hk⟩ => ⟨he, HR3.out.step hk hD⟩)
              obtain ⟨s5, hs5, E5⟩ := HW1.out.crash (bitOf y)
              have HE5 := Lib.hid E5
              have HL5 := Lib.hid (E5.last (by omega))
              have d1 : ¬ (s5 : Int) < (st2 : Int) := by omega
              have d2 : ¬ (st2 : Int) + 1 < (s5 : Int) := by omega
              have hst6 : s5 ≤ 6 * (i + 1) := by omega
              have hla5 : la2 ≤ s5 := by omega
              clear hs5 E5 HW1
              go_wp2_with fail
              (with_reducible refine HCR.out.mono ?_)
              rintro e w4 ⟨rfl, hR4⟩
              have HLS : Hid (Calls Tryd.prog 8 #[.pointer (some ⟨b, 0, none⟩), .int .i64 1] w4 fun e w'' => e = .returned (.tuple #[.int .i64 (s5 : Int), .int .i64 0]) ∧ ErRel w w'' b g m (S4.crash (bitOf y)) 2) :=
                Lib.hid ((last_any w4 b g m _ 2 (1 : Nat) hR4.dk).mono fun e w'' ⟨he, hb⟩ => ⟨by rw [he, HL5.out], hR4.below hb⟩)
              clear hR4 hcy HCR
              go_wp2_with fail
              (with_reducible refine HLS.out.mono ?_)
              rintro e w5 ⟨rfl, hR5⟩
              have HR5 := Lib.hid hR5
              clear hR5 HLS
              go_wp2_with fail
              go_roundw
              case rel => exact ⟨la2, s5, i + 1, _, rfl, rfl, congrArg _ (by omega), by omega, hla5, hst6, HE5, HR5⟩
              case measure => simp [intOf]; omega
        · have p0 : (i : Int) < (n0 : Int) := by omega
          have p1 : (i : Int) < (n1 : Int) := by omega
          have p2 : ¬ (i : Int) < 30 := by omega
          go_wp2_with fail
          (with_reducible refine (HAW.out wr (Below.refl _ _)).mono ?_)
          rintro e w3 ⟨rfl, hb3⟩
          go_wp2_with fail
          go_ret
          exact ⟨rfl, hb3⟩
      · have p0 : (i : Int) < (n0 : Int) := by omega
        have p1 : ¬ (i : Int) < (n1 : Int) := by omega
        go_wp2_with fail
        (with_reducible refine (HAW.out wr (Below.refl _ _)).mono ?_)
        rintro e w3 ⟨rfl, hb3⟩
        go_wp2_with fail
        go_ret
        exact ⟨rfl, hb3⟩
    · have p0 : ¬ (i : Int) < (n0 : Int) := by omega
      go_wp2_with fail
      (with_reducible refine (HAW.out wr (Below.refl _ _)).mono ?_)
      rintro e w3 ⟨rfl, hb3⟩
      go_wp2_with fail
      go_ret
      exact ⟨rfl, hb3⟩
end Go.Proofs.YthjjdjhmaffoeaaDoor
