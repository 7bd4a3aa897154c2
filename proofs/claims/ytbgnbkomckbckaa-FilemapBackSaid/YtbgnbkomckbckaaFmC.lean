/-
  slices.rotateCmpFunc at files.
-/
import Derived.Test.YtbgnbkomckbckaaFmB
namespace Go.Proofs.Ytbgnbkomckbckaa
open Go.RowKit

theorem swapRange_is (g cap N : Nat) (a b n : Int) (a' b' n' : Nat) (l l' : List Fl) (fv : Value) (w : World) (ea : a = a') (eb : b = b') (en : n = n') (hN : l.length = N) (hm : N ≤ 1000) (hab : a' + n' ≤ b') (hb : b' + n' ≤ N) (hr : FRow w g l) (hl : swN l a' b' n' = l') :
    Calls Try.prog 65 #[.slice (some ⟨g, 0, none⟩) N cap, .int .i64 a, .int .i64 b, .int .i64 n, fv] w (RowEnd w g l') := by
  subst ea; subst eb; subst en; subst hl
  exact swapRange_any g cap N a' b' n' l fv w hN hm hab hb hr
/-- How far the rotation has come: i before, j behind the middle m. -/
def RotAt (goal : List Fl) (m i j : Nat) (l : List Fl) : Prop := ∃ P U V S : List Fl, l = P ++ (U ++ (V ++ S)) ∧ U.length = i ∧ V.length = j ∧ m = P.length + i ∧ P ++ (V ++ (U ++ S)) = goal
theorem rot_len {goal l : List Fl} {m i j : Nat} (h : RotAt goal m i j l) : l.length = goal.length ∧ i ≤ m ∧ m + j ≤ l.length := by
  obtain ⟨P, U, V, S, rfl, rfl, rfl, rfl, rfl⟩ := h
  simp only [List.length_append]
  omega
theorem rot_gt {goal l : List Fl} {m i j : Nat} (h : RotAt goal m i j l) (hij : j < i) : RotAt goal m (i - j) j (swN l (m - i) m j) := by
  obtain ⟨P, U, V, S, rfl, rfl, rfl, rfl, rfl⟩ := h
  have hu : U.take V.length ++ U.drop V.length = U := List.take_append_drop _ _
  have hl : (U.take V.length).length = V.length := by rw [List.length_take]; omega
  have e := swN_all P (U.drop V.length) S (U.take V.length) V hl (P.length + U.length - U.length) (P.length + U.length) V.length (by omega) (by rw [hl, List.length_drop]; omega) hl.symm
  rw [← List.append_assoc (U.take V.length), hu] at e
  refine ⟨P ++ V, U.drop V.length, U.take V.length, S, ?_, ?_, hl, ?_, ?_⟩
  · rw [e]; simp only [List.append_assoc]
  · rw [List.length_drop]
  · simp only [List.length_append]; omega
  · rw [List.append_assoc, ← List.append_assoc (U.take V.length), hu]
theorem rot_lt {goal l : List Fl} {m i j : Nat} (h : RotAt goal m i j l) (hij : i < j) : RotAt goal m i (j - i) (swN l (m - i) (m + j - i) i) := by
  obtain ⟨P, U, V, S, rfl, rfl, rfl, rfl, rfl⟩ := h
  have hv : V.take (V.length - U.length) ++ V.drop (V.length - U.length) = V := List.take_append_drop _ _
  have hl : (V.drop (V.length - U.length)).length = U.length := by rw [List.length_drop]; omega
  have hl2 : (V.take (V.length - U.length)).length = V.length - U.length := by rw [List.length_take]; omega
  have e := swN_all P (V.take (V.length - U.length)) S U (V.drop (V.length - U.length)) hl.symm (P.length + U.length - U.length) (P.length + U.length + V.length - U.length) U.length (by omega) (by rw [hl2]; omega) rfl
  rw [← List.append_assoc (V.take _), hv] at e
  refine ⟨P, V.drop (V.length - U.length), V.take (V.length - U.length), U ++ S, ?_, hl, hl2, ?_, ?_⟩
  · rw [e]
  · omega
  · rw [← List.append_assoc (V.take _), hv]
theorem rot_eq {goal l : List Fl} {m i j : Nat} (h : RotAt goal m i j l) (hij : i = j) : swN l (m - i) m i = goal := by
  obtain ⟨P, U, V, S, rfl, rfl, rfl, rfl, rfl⟩ := h
  have e := swN_all P [] S U V hij (P.length + U.length - U.length) (P.length + U.length) U.length (by omega) (by simp) rfl
  simp only [List.nil_append] at e
  exact e
theorem mixed_ok : Try.prog.follows Departure.mixedOrders = true := by kernel_rfl

set_option maxRecDepth 20000 in
set_option maxHeartbeats 4000000 in
theorem rotate_any (g cap N a m b : Nat) (l goal : List Fl) (fv : Value) (w : World) (hN : l.length = N) (hm : N ≤ 1000) (hR : RotAt goal m (m - a) (b - m) l) (h1 : a < m) (h2 : m < b) (hr : FRow w g l) :
    Calls Try.prog 59 #[.slice (some ⟨g, 0, none⟩) N cap, .int .i64 a, .int .i64 m, .int .i64 b, fv] w (RowEnd w g goal) := by
  have hln := rot_len hR
  have hbN : b ≤ N := by omega
  have w1 : IntKind.i64.wrap ((m : Int) - (a : Int)) = ((m - a : Nat) : Int) := by rw [IntKind.wrap_i64]; omega
  have w2 : IntKind.i64.wrap ((b : Int) - (m : Int)) = ((b - m : Nat) : Int) := by rw [IntKind.wrap_i64]; omega
  have HR := Lib.hid hR
  have HL := Lib.hid (show goal.length = N by omega)
  clear hR hln hN
  obtain ⟨i0, hi0⟩ : ∃ i, m - a = i := ⟨_, rfl⟩
  obtain ⟨j0, hj0⟩ : ∃ j, b - m = j := ⟨_, rfl⟩
  rw [hi0] at w1 HR
  rw [hj0] at w2 HR
  have p1 : 1 ≤ i0 := by omega
  have p2 : 1 ≤ j0 := by omega
  have q1 : i0 ≤ 1000 := by omega
  have q2 : j0 ≤ 1000 := by omega
  have q3 : m ≤ 1000 := by omega
  clear hi0 hj0
  go_enter Try.func59, Try.ntmps59
  go_wp2_with fail
  go_loopw [10, 11] (fun vi vj wr => ∃ (i j : Nat) (lr : List Fl), vi = .int .i64 i ∧ vj = .int .i64 j ∧ 1 ≤ i ∧ 1 ≤ j ∧ i ≤ 1000 ∧ j ≤ 1000 ∧ Hid (RotAt goal m i j lr) ∧ FRow wr g lr ∧ w.grownBy wr (some g)) (fun vi vj _ => (intOf vi).toNat + (intOf vj).toNat)
  case atStart => exact ⟨i0, j0, l, rfl, rfl, p1, p2, q1, q2, Lib.hid HR.out, hr, only_refl _ _⟩
  case round =>
    obtain ⟨i, j, lr, rfl, rfl, k1, k2, k3, k4, hA, hF, hg⟩ := hrel
    have hln := rot_len hA.out
    have HLr := Lib.hid (show lr.length = N by rw [hln.1]; exact HL.out)
    have c1 : i ≤ m := hln.2.1
    have c2 : m + j ≤ N := by rw [← HLr.out]; exact hln.2.2
    have v1 : IntKind.i64.wrap ((m : Int) - (i : Int)) = (m : Int) - (i : Int) := by rw [IntKind.wrap_i64]; omega
    have v2 : IntKind.i64.wrap ((m : Int) + (j : Int)) = (m : Int) + (j : Int) := by rw [IntKind.wrap_i64]; omega
    have v3 : IntKind.i64.wrap ((m : Int) + (j : Int) - (i : Int)) = (m : Int) + (j : Int) - (i : Int) := by rw [IntKind.wrap_i64]; omega
    have v4 : IntKind.i64.wrap ((i : Int) - (j : Int)) = (i : Int) - (j : Int) := by rw [IntKind.wrap_i64]; omega
    have v5 : IntKind.i64.wrap ((j : Int) - (i : Int)) = (j : Int) - (i : Int) := by rw [IntKind.wrap_i64]; omega
    clear hln
    by_cases heq : (i : Int) = (j : Int)
    · have HG := Lib.hid (rot_eq hA.out (by omega : i = j))
      clear hA
      go_wp2_with fail
      (with_reducible refine (swapRange_is g cap N _ _ _ (m - i) m i lr goal fv _ (by omega) rfl (by omega) HLr.out hm (by omega) (by omega) hF HG.out).mono ?_)
      rintro e w3 ⟨rfl, hF3, hg3⟩
      go_wp2_with fail
      go_end0
      exact ⟨rfl, hF3, only_trans hg hg3⟩
    · by_cases hlt : (j : Int) < (i : Int)
      · have hA2 := Lib.hid (rot_gt hA.out (by omega : j < i))
        clear hA
        go_wp2_with fail
        (with_reducible refine (swapRange_is g cap N _ _ _ (m - i) m j lr _ fv _ (by omega) rfl rfl HLr.out hm (by omega) (by omega) hF rfl).mono ?_)
        rintro e w3 ⟨rfl, hF3, hg3⟩
        go_wp2_with fail
        go_round
        case rel => exact ⟨i - j, j, _, by congr 1; omega, rfl, by omega, k2, by omega, k4, hA2, hF3, only_trans hg hg3⟩
        case measure => simp [intOf]; omega
      · have hA2 := Lib.hid (rot_lt hA.out (by omega : i < j))
        clear hA
        go_wp2_with fail
        (with_reducible refine (swapRange_is g cap N _ _ _ (m - i) (m + j - i) i lr _ fv _ (by omega) (by omega) rfl HLr.out hm (by omega) (by omega) hF rfl).mono ?_)
        rintro e w3 ⟨rfl, hF3, hg3⟩
        go_wp2_with fail
        go_round
        case rel => exact ⟨i, j - i, _, rfl, by congr 1; omega, k1, by omega, k3, by omega, hA2, hF3, only_trans hg hg3⟩
        case measure => simp [intOf]; omega
end Go.Proofs.Ytbgnbkomckbckaa
