/-
  Chapter 29's example (awake).
-/
import Derived.Test.YtapanifgnpklpaaWinD
import Derived.Test.YtapanifgnpklpaaSame
namespace Go.Proofs.Ytapanifgnpklpaa
open Go.RowKit

theorem same_is (A B : Option Addr) (n m c d : Nat) (xs ys : List Int) (b : Bool) (h : sameI xs ys = b) (w : World) (hx : xs.length = n) (hy : ys.length = m) (hr : Rd w A (intVals xs)) (hs : Rd w B (intVals ys)) (hn : n ≤ 1000) (hm : m ≤ 1000) :
    Calls Try.prog 20 #[.slice A n c, .slice B m d] w fun e w' => e = .returned (.bool b) ∧ Below w.heap.size w w' := by
  subst h
  exact same_any A B n m c d xs ys w hx hy hr hs (by omega) (by omega)

def n3 : List Bool := [false, false, false]
def m3 : List Bool := [false, true, false]
theorem newB3 : newB 3 = n3 := by decide
theorem setB3 : setB n3 1 true = m3 := by decide
theorem or3 : listR (orB n3 m3) 0 = [1] := by
  have e : orB n3 m3 = [false, true, false] := by decide
  rw [e, listR_miss _ 0 (by decide) (by decide), listR_hit _ 1 (by decide) (by decide), listR_miss _ 2 (by decide) (by decide), listR_end _ 3 (by decide)]
  rfl
theorem aw1 {S1 T1 l1} (h1 : takeK 0 n3 n3 tz 3 = (S1, T1, l1)) : l1 = [0, 1, 2] := by
  rw [show l1 = (takeK 0 n3 n3 tz 3).2.2 by rw [h1]]; decide
theorem aw2 {S1 T1 l1 S2 T2 l2} (h1 : takeK 0 n3 n3 tz 3 = (S1, T1, l1)) (h2 : takeK 1 n3 S1 T1 3 = (S2, T2, l2)) : l2 = [] := by
  obtain rfl : S1 = (takeK 0 n3 n3 tz 3).1 := by rw [h1]
  obtain rfl : T1 = (takeK 0 n3 n3 tz 3).2.1 := by rw [h1]
  rw [show l2 = (takeK 1 n3 (takeK 0 n3 n3 tz 3).1 (takeK 0 n3 n3 tz 3).2.1 3).2.2 by rw [h2]]; decide
/-- The state behind the two first calls, and Ack. -/
def st2 : List Bool × (Nat → Int × Int) × List Int := takeK 1 n3 (takeK 0 n3 n3 tz 3).1 (takeK 0 n3 n3 tz 3).2.1 3
theorem aw3 {S1 T1 l1 S2 T2 l2} (h1 : takeK 0 n3 n3 tz 3 = (S1, T1, l1)) (h2 : takeK 1 n3 S1 T1 3 = (S2, T2, l2)) : S2 = st2.1 ∧ T2 = st2.2.1 := by
  obtain rfl : S1 = (takeK 0 n3 n3 tz 3).1 := by rw [h1]
  obtain rfl : T1 = (takeK 0 n3 n3 tz 3).2.1 := by rw [h1]
  exact ⟨by unfold st2; rw [h2], by unfold st2; rw [h2]⟩
def st4 : List Bool × (Nat → Int × Int) × List Int := takeK 2 m3 (offS st2.1 [1]) (offT st2.2.1 [1]) 3
def st5 : List Bool × (Nat → Int × Int) × List Int := takeK 5 m3 st4.1 st4.2.1 3
def st6 : List Bool × (Nat → Int × Int) × List Int := takeK 6 m3 st5.1 st5.2.1 3
theorem aw_len : st2.1.length = 3 ∧ (offS st2.1 [1]).length = 3 ∧ st4.1.length = 3 ∧ st5.1.length = 3 := by decide
theorem aw_lists : st4.2.2 = [0, 2] ∧ st5.2.2 = [] ∧ st6.2.2 = [0, 2] := by decide
theorem ack_is (g : Nat) (n : Int) (A S M : List Bool) (T : Nat → Int × Int) (X : List Int) (hX : listR (orB A M) 0 = X) (w : World) (hW : WinAt w g n A S T) (hn : (M.length : Int) = n) (hA : A.length ≤ 256) (hM : M.length ≤ 256) (hS : S.length ≤ 256) :
    Calls Try.prog 17 #[.pointer (some ⟨g, 0, none⟩), .agg #[.int .i64 (M.length : Nat), .int .u64 (wdN M 0 : Nat), .int .u64 (wdN M 1 : Nat), .int .u64 (wdN M 2 : Nat), .int .u64 (wdN M 3 : Nat)]] w fun e w' => e = .returned (.int .i64 0) ∧ WinAt w' g n M (offS S X) (offT T X) ∧ w.grownBy w' (some g) := by subst hX; exact ack_ok g n A S M T w hW hn hA hM hS
theorem wnew_is (n : Int) (N : Nat) (L : List Bool) (hN : clampB n = N) (hL : newB n = L) (w : World) : Calls Try.prog 12 #[.int .i64 n] w fun e w' =>
    ∃ g, e = .returned (.pointer (some ⟨g, 0, none⟩)) ∧ w.heap.size ≤ g ∧ WinAt w' g (N : Nat) L L tz ∧ Below w.heap.size w w' := by subst hN; subst hL; exact wnew_any n w
/-- A slice's cells, behind a call that writes to block g alone. -/
theorem Rd.win {w w' : World} {g : Nat} {A : Option Addr} {xs : List Value} (h : Rd w A xs) (hg : w.grownBy w' (some g)) (ho : ∀ ad, A = some ad → ad.block ≠ g) : Rd w' A xs := h.only hg (fun _ => ho)
theorem only_below_start {w w1 w2 : World} {g : Nat} (h : Below w.heap.size w w1) (h2 : w1.grownBy w2 (some g)) (hg : w.heap.size ≤ g) : Below w.heap.size w w2 :=
  ⟨h2.os.trans h.os, h2.tape.trans h.tape, h2.output.trans h.output, Nat.le_trans h.size h2.size, fun k hk => (h2.block k (Nat.lt_of_lt_of_le hk h.size) (by simp; omega)).trans (h.block k hk)⟩

set_option maxRecDepth 20000 in
set_option maxHeartbeats 4000000 in
theorem awake_any (w : World) : Calls Try.prog 11 #[] w fun e w' => e = .returned (.bool true) ∧ Below w.heap.size w w' := by
  go_enter Try.func11, Try.ntmps11
  go_wp2_with fail
  (with_reducible refine (wnew_is 3 3 n3 (by decide) newB3 _).mono ?_)
  rintro e w1 ⟨g, rfl, hg, hW1, hb1⟩
  have hg1 := hW1.lt
  have hn3 : n3.length ≤ 256 := by decide
  have hm3 : m3.length ≤ 256 := by decide
  go_wp2_with fail
  refine (take_any g 3 n3 n3 tz 0 w1 hW1 hn3 hn3 (by omega) (by omega) (by omega)).mono ?_
  rintro e w2 ⟨S1, T1, l1, A1, c1, h1, rfl, hc1, hm1, hr1, hf1, hW2, ho2⟩
  have ho1 : ∀ ad, A1 = some ad → ad.block ≠ g := fun ad h => by have := hf1 ad h; omega
  obtain rfl := aw1 h1
  have hb2 := only_below_start hb1 ho2 hg
  have hs1 : S1.length ≤ 256 := by have := (takeK_len 0 n3 n3 tz 3).1; rw [h1] at this; dsimp only at this; omega
  have H1 := Lib.hid h1
  clear h1 hf1 ho2 hb1 hW1
  go_wp2_with fail
  refine (take_any g 3 n3 S1 T1 1 w2 hW2 hn3 hs1 (by omega) (by omega) (by omega)).mono ?_
  rintro e w3 ⟨S2, T2, l2, A2, c2, h2, rfl, hc2, hm2, hr2, hf2, hW3, ho3⟩
  obtain rfl := aw2 H1.out h2
  obtain ⟨rfl, rfl⟩ := aw3 H1.out h2
  have hb3 := only_below_start hb2 ho3 hg
  have hr1' := hr1.win ho3 ho1
  clear h2 H1 hf2 ho3 hb2 hW2 hr1 hr2 hs1
  go_wp2_with fail
  (with_reducible refine (new_is 3 n3 newB3 _).mono ?_)
  rintro e w4 ⟨rfl, hb4⟩
  go_wp2_with fail
  (with_reducible refine (with_is n3 1 m3 setB3 _ hn3).mono ?_)
  rintro e w5 ⟨rfl, hb5⟩
  have hW5 := (hW3.below' hb4).below' hb5
  have hr5 := (hr1'.below hb4).below hb5
  have hB5 := bl (bl hb3 hb4) hb5
  clear hW3 hr1' hb3 hb4 hb5
  go_wp2_with fail
  (with_reducible refine (ack_is g _ n3 st2.1 m3 st2.2.1 [1] or3 _ hW5 rfl hn3 hm3 (by rw [aw_len.1]; omega)).mono ?_)
  rintro e w6 ⟨rfl, hW6, ho6⟩
  have hb6 := only_below_start hB5 ho6 hg
  have hr6 := hr5.win ho6 ho1
  clear hW5 hr5 hB5 ho6
  have hg6 := hW6.lt
  go_wp2_with fail
  refine (take_any g 3 m3 (offS st2.1 [1]) (offT st2.2.1 [1]) 2 w6 hW6 hm3 (by rw [aw_len.2.1]; omega) (by omega) (by omega) (by omega)).mono ?_
  rintro e w7 ⟨S4, T4, l4, A4, c4, h4, rfl, hc4, hm4, hr4, hf4, hW7, ho7⟩
  obtain ⟨rfl, rfl, rfl⟩ : S4 = st4.1 ∧ T4 = st4.2.1 ∧ l4 = st4.2.2 := by unfold st4; rw [h4]; exact ⟨rfl, rfl, rfl⟩
  rw [aw_lists.1] at hr4 hc4
  rw [aw_lists.1]
  have ho4 : ∀ ad, A4 = some ad → ad.block ≠ g := fun ad h => by have := hf4 ad h; omega
  have hb7 := only_below_start hb6 ho7 hg
  have hr7 := hr6.win ho7 ho1
  clear h4 hf4 ho7 hb6 hr6 hW6
  go_wp2_with fail
  refine (take_any g 3 m3 st4.1 st4.2.1 5 w7 hW7 hm3 (by rw [aw_len.2.2.1]; omega) (by omega) (by omega) (by omega)).mono ?_
  rintro e w8 ⟨S5, T5, l5, A5, c5, h5, rfl, hc5, hm5, hr5, hf5, hW8, ho8⟩
  obtain ⟨rfl, rfl, rfl⟩ : S5 = st5.1 ∧ T5 = st5.2.1 ∧ l5 = st5.2.2 := by unfold st5; rw [h5]; exact ⟨rfl, rfl, rfl⟩
  rw [aw_lists.2.1] at hr5 hc5
  rw [aw_lists.2.1]
  have hb8 := only_below_start hb7 ho8 hg
  have hr8 := hr7.win ho8 ho1
  have hr48 := hr4.win ho8 ho4
  clear h5 hf5 ho8 hb7 hr7 hr4 hW7 hr5
  have hg8 := hW8.lt
  go_wp2_with fail
  refine (take_any g 3 m3 st5.1 st5.2.1 6 w8 hW8 hm3 (by rw [aw_len.2.2.2]; omega) (by omega) (by omega) (by omega)).mono ?_
  rintro e w9 ⟨S6, T6, l6, A6, c6, h6, rfl, hc6, hm6, hr6, hf6, hW9, ho9⟩
  obtain rfl : l6 = st6.2.2 := by unfold st6; rw [h6]
  rw [aw_lists.2.2] at hr6 hc6
  rw [aw_lists.2.2]
  have hb9 := only_below_start hb8 ho9 hg
  have hr9 := hr8.win ho9 ho1
  have hr49 := hr48.win ho9 ho4
  clear h6 hf6 ho9 hb8 hr8 hr48 hW8 hW9
  have ha : Below w9.heap.size w9 (w9.alloc (.cells #[.int .i64 0, .int .i64 1, .int .i64 2] 3)) := (Below.refl _ _).alloc (Nat.le_refl _) _
  go_wp2_with fail
  refine (same_is A1 (some ⟨w9.heap.size, 0, none⟩) 3 3 c1 3 [0, 1, 2] [0, 1, 2] true (by decide) _ rfl rfl (hr9.below ha) (Rd.new w9 _ #[.int .i64 0, .int .i64 1, .int .i64 2]) (by omega) (by omega)).mono ?_
  rintro e w10 ⟨rfl, hb10⟩
  have hr4a := (hr49.below ha).below hb10
  have hr6a := (hr6.below ha).below hb10
  have hB10 := bl (bl hb9 ha) hb10
  clear ha hb10 hb9 hr9 hr49 hr6
  have ha : Below w10.heap.size w10 (w10.alloc (.cells #[.int .i64 0, .int .i64 2] 3)) := (Below.refl _ _).alloc (Nat.le_refl _) _
  go_wp2_with fail
  refine (same_is A4 (some ⟨w10.heap.size, 0, none⟩) 2 2 c4 2 [0, 2] [0, 2] true (by decide) _ rfl rfl (hr4a.below ha) (Rd.new w10 _ #[.int .i64 0, .int .i64 2]) (by omega) (by omega)).mono ?_
  rintro e w11 ⟨rfl, hb11⟩
  have hr6b := (hr6a.below ha).below hb11
  have hB11 := bl (bl hB10 ha) hb11
  clear ha hb11 hB10 hr4a hr6a
  have ha : Below w11.heap.size w11 (w11.alloc (.cells #[.int .i64 0, .int .i64 2] 3)) := (Below.refl _ _).alloc (Nat.le_refl _) _
  go_wp2_with fail
  refine (same_is A6 (some ⟨w11.heap.size, 0, none⟩) 2 2 c6 2 [0, 2] [0, 2] true (by decide) _ rfl rfl (hr6b.below ha) (Rd.new w11 _ #[.int .i64 0, .int .i64 2]) (by omega) (by omega)).mono ?_
  rintro e w12 ⟨rfl, hb12⟩
  have hB12 := bl (bl hB11 ha) hb12
  go_wp2_with fail
  go_ret
  exact ⟨rfl, hB12⟩
end Go.Proofs.Ytapanifgnpklpaa
