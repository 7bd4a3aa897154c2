/-
  slices.symMergeCmpFunc at files: where the right side has one file.
-/
import Derived.Test.YtbgnbkomckbckaaFmE
namespace Go.Proofs.Ytbgnbkomckbckaa
open Go.RowKit Go.Sort

/-- The search from the right: y among X. -/
def SeaR (row : List Fl) (y : Fl) (a m i j : Nat) : Prop := a ≤ i ∧ i ≤ j ∧ j ≤ m ∧ (i = a ∨ ∃ x, row[i - 1]? = some x ∧ ¬ ltF y x) ∧ (j = m ∨ ∃ x, row[j]? = some x ∧ ltF y x)
theorem seaR_end {P X S : List Fl} {y : Fl} {a i : Nat} (ha : a = P.length) (hX : Srt X) (h : SeaR (P ++ (X ++ S)) y a (a + X.length) i i) : ∃ X1 X2, X = X1 ++ X2 ∧ X1.length + a = i ∧ (∀ x ∈ X1, ¬ ltF y x) ∧ ∀ x ∈ X2, ltF y x := by
  obtain ⟨h1, _, h3, h4, h5⟩ := h
  obtain ⟨X1, X2, rfl, hl⟩ := split_at X (i - a) (by omega)
  refine ⟨X1, X2, rfl, by omega, ?_, ?_⟩
  · rcases List.eq_nil_or_concat X1 with rfl | ⟨A, z, e⟩
    · simp
    · rw [List.concat_eq_append] at e
      subst e
      simp only [List.length_append, List.length_cons, List.length_nil] at hl
      rcases h4 with h4 | ⟨x, hx, hlt⟩
      · omega
      · have : (P ++ (A ++ [z] ++ X2 ++ S))[i - 1]? = some z := by
          rw [show P ++ (A ++ [z] ++ X2 ++ S) = (P ++ A) ++ z :: (X2 ++ S) by simp]
          exact at_mid _ _ _ _ (by simp; omega)
        rw [this] at hx
        cases hx
        exact fun b hb => leF_trans (srt_last (srt_app.1 hX).1 b hb) hlt
  · cases X2 with
    | nil => simp
    | cons z B =>
      rcases h5 with h5 | ⟨x, hx, hlt⟩
      · simp only [List.length_append, List.length_cons] at h5; omega
      · have : (P ++ (X1 ++ z :: B ++ S))[i]? = some z := by
          rw [show P ++ (X1 ++ z :: B ++ S) = (P ++ X1) ++ z :: (B ++ S) by simp]
          exact at_mid _ _ _ _ (by simp; omega)
        rw [this] at hx
        cases hx
        exact fun b hb => ltF_le hlt (srt_head (srt_app.1 hX).2.1 b hb)
/-- y on its way to the left, through X2. -/
def ShL (Q X2 S : List Fl) (y : Fl) (i k : Nat) (row : List Fl) : Prop := ∃ A B, X2 = A ++ B ∧ A.length + i = k ∧ row = Q ++ (A ++ y :: (B ++ S))
theorem shl_step {Q X2 S : List Fl} {y : Fl} {i k : Nat} {row : List Fl} (h : ShL Q X2 S y i (k + 1) row) (hQ : Q.length = i) (hk : i < k + 1) : ∃ x, row[k + 1]? = some y ∧ row[k]? = some x ∧ ShL Q X2 S y i k (sw row (k + 1) k) := by
  obtain ⟨A, B, rfl, h2, rfl⟩ := h
  rcases List.eq_nil_or_concat A with rfl | ⟨A0, z, e⟩
  · simp only [List.length_nil] at h2; omega
  · rw [List.concat_eq_append] at e
    subst e
    simp only [List.length_append, List.length_cons, List.length_nil] at h2
    refine ⟨z, ?_, ?_, A0, z :: B, by simp, by omega, ?_⟩
    · rw [← List.append_assoc]; exact at_mid _ _ _ _ (by simp; omega)
    · rw [show Q ++ (A0 ++ [z] ++ y :: (B ++ S)) = (Q ++ A0) ++ z :: (y :: (B ++ S)) by simp]; exact at_mid _ _ _ _ (by simp; omega)
    · have e := sw_app (Q ++ A0) [] (B ++ S) z y k (k + 1) (by simp; omega) (by simp; omega)
      rw [sw_comm, show Q ++ (A0 ++ [z] ++ y :: (B ++ S)) = (Q ++ A0) ++ z :: ([] ++ y :: (B ++ S)) by simp, e]
      simp
theorem shl_end {Q X2 S : List Fl} {y : Fl} {i : Nat} {row : List Fl} (h : ShL Q X2 S y i i row) : row = Q ++ (y :: (X2 ++ S)) := by
  obtain ⟨A, B, rfl, h2, rfl⟩ := h
  have : A = [] := List.eq_nil_of_length_eq_zero (by omega)
  subst this
  simp

set_option maxRecDepth 20000 in
set_option maxHeartbeats 8000000 in
theorem symR_any (g cap N a m b : Nat) (P X S : List Fl) (y : Fl) (w : World) (hN : (P ++ (X ++ ([y] ++ S))).length = N) (hmx : N ≤ 1000) (ha : P.length = a) (hm : a + X.length = m) (hX2 : a + 2 ≤ m) (hb : b = m + 1) (hX : Srt X) (hr : FRow w g (P ++ (X ++ ([y] ++ S)))) :
    Calls Try.prog 54 #[.slice (some ⟨g, 0, none⟩) N cap, .int .i64 a, .int .i64 m, .int .i64 b, .func (.func 29) #[] #[]] w (SortEnd w g P (X ++ [y]) S) := by
  have mixed : Try.prog.follows Departure.mixedOrders = true := by kernel_rfl
  have hbN : b ≤ N := by rw [← hN]; simp only [List.length_append, List.length_cons, List.length_nil]; omega
  have hy0 : (P ++ (X ++ ([y] ++ S)))[m]? = some y := by rw [← List.append_assoc]; exact at_mid _ _ _ _ (by rw [List.length_append]; omega)
  have HS := Lib.hid (show SeaR (P ++ (X ++ ([y] ++ S))) y a m a m from ⟨Nat.le_refl _, by omega, Nat.le_refl _, .inl rfl, .inl rfl⟩)
  obtain ⟨row, hrow⟩ : ∃ row, P ++ (X ++ ([y] ++ S)) = row := ⟨_, rfl⟩
  rw [hrow] at hr hy0 HS hN
  have HROW := Lib.hid hrow
  have HN := Lib.hid hN
  have HA := Lib.hid ha
  have HM := Lib.hid hm
  have HXS := Lib.hid hX
  have HY0 := Lib.hid hy0
  have w1 : IntKind.i64.wrap ((m : Int) - (a : Int)) = (m : Int) - (a : Int) := by rw [IntKind.wrap_i64]; omega
  have w2 : IntKind.i64.wrap ((b : Int) - (m : Int)) = 1 := by rw [IntKind.wrap_i64]; omega
  have w3 : ((m : Int) - (a : Int) == 1) = false := by rw [beq_eq_false_iff_ne]; omega
  have mb : m < b := by omega
  have am : a ≤ m := by omega
  clear hrow hN ha hm hX hy0 hb hX2
  go_enter Try.func54, Try.ntmps54
  go_wp2_with fail
  go_loopw [14, 15] (fun vi vj wr => ∃ (i j : Nat), vi = .int .i64 i ∧ vj = .int .i64 j ∧ i ≤ j ∧ j ≤ m ∧ a ≤ i ∧ Hid (SeaR row y a m i j) ∧ FRow wr g row ∧ w.grownBy wr (some g)) (fun vi vj _ => (intOf vj).toNat - (intOf vi).toNat)
  case atStart => exact ⟨a, m, rfl, rfl, am, Nat.le_refl _, Nat.le_refl _, HS, hr, only_refl _ _⟩
  case round =>
    clear HS hr
    obtain ⟨i, j, rfl, rfl, hij, hjm, hai, hS, hF, hg⟩ := hrel
    by_cases hlt : (i : Int) < (j : Int)
    · obtain ⟨h, hh⟩ : ∃ h, (i + j) / 2 = h := ⟨_, rfl⟩
      have hmid : ((i : Int) + (j : Int)) / 2 = (h : Int) := by omega
      have hih : i ≤ h ∧ h < j := by omega
      have hhN : h < row.length := by rw [HN.out]; omega
      obtain ⟨x, hx⟩ : ∃ x, row[h]? = some x := ⟨_, getD_some hhN⟩
      obtain ⟨c, hc⟩ : ∃ c, cmpB y.1 x.1 = c := ⟨_, rfl⟩
      have hcl := ltF_cmp y x
      rw [hc] at hcl
      have HS1 : Hid (¬ c < 0 → SeaR row y a m (h + 1) j) := Lib.hid fun hl => ⟨by have := hS.out.1; omega, by omega, hS.out.2.2.1, .inr ⟨x, by rw [Nat.add_sub_cancel]; exact hx, fun e => hl (hcl.2 e)⟩, hS.out.2.2.2.2⟩
      have HS2 : Hid (c < 0 → SeaR row y a m i h) := Lib.hid fun hl => ⟨hS.out.1, by omega, by have := hS.out.2.2.1; omega, hS.out.2.2.2.1, .inr ⟨x, hx, hcl.1 hl⟩⟩
      have hz : (h : Int) < (N : Int) := by rw [HN.out] at hhN; omega
      have mz : (m : Int) < (N : Int) := by omega
      obtain ⟨xp, xd⟩ := x
      obtain ⟨yp, yd⟩ := y
      obtain ⟨x0, x1⟩ := hF.cellG hx
      obtain ⟨y0, y1⟩ := hF.cellG HY0.out
      have HC := Lib.hid hc
      clear hc hcl hx hS hhN hh
      by_cases hl : c < 0
      · have hd : decide (c < 0) = true := decide_eq_true hl
        go_wp2_with fail
        go_quiet_grown (first | (go_at_call 29; refine Calls.grown_of (sort1_any yp yd xp xd c HC.out _)))
        go_wp2_with fail
        go_round
        case rel => exact ⟨i, h, rfl, by first | rfl | go_num, by omega, by omega, hai, Lib.hid (HS2.out hl), hF.below' (below_gr wr nq osq), only_trans hg (only_below (below_gr wr nq osq) g)⟩
        case measure => simp [intOf]; omega
      · have hd : decide (c < 0) = false := decide_eq_false hl
        go_wp2_with fail
        go_quiet_grown (first | (go_at_call 29; refine Calls.grown_of (sort1_any yp yd xp xd c HC.out _)))
        go_wp2_with fail
        go_round
        case rel => exact ⟨h + 1, j, by first | rfl | go_num, rfl, by omega, hjm, by omega, Lib.hid (HS1.out hl), hF.below' (below_gr wr nq osq), only_trans hg (only_below (below_gr wr nq osq) g)⟩
        case measure => simp [intOf]; omega
    · obtain rfl : i = j := by omega
      obtain ⟨X1, X2, rfl, hx1, hx2, hx3⟩ := seaR_end (P := P) (X := X) (S := [y] ++ S) (y := y) (a := a) (i := i) HA.out.symm HXS.out (by
        have h := hS.out
        rw [HROW.out, HM.out]
        exact h)
      have hlaw := ins_law (A1 := X1) (A2 := X2) (x := y) HXS.out hx2 hx3
      have HLAW := Lib.hid hlaw
      have hmi : i + X2.length = m := by rw [← HM.out, List.length_append]; omega
      have HMI := Lib.hid hmi
      have HQ := Lib.hid (show (P ++ X1).length = i by rw [List.length_append, HA.out]; omega)
      have HSH := Lib.hid (show ShL (P ++ X1) X2 S y i m row from ⟨X2, [], by simp, by omega, by rw [← HROW.out]; simp⟩)
      have him : i ≤ m := hjm
      clear hlaw hmi hx1 hx2 hx3 hS
      go_wp2_with fail
      go_loopw [17] (fun vk wr2 => ∃ (k : Nat) (row2 : List Fl), vk = .int .i64 k ∧ i ≤ k ∧ k ≤ m ∧ Hid (ShL (P ++ X1) X2 S y i k row2) ∧ Hid (row2.length = N) ∧ FRow wr2 g row2 ∧ w.grownBy wr2 (some g)) (fun vk _ => (intOf vk).toNat)
      case atStart => exact ⟨m, row, rfl, him, Nat.le_refl _, HSH, HN, hF, hg⟩
      case round =>
        clear HSH hF hg
        obtain ⟨k, row2, rfl, hik, hkm, hSH, HN2, hF, hg⟩ := hrel
        by_cases hlt2 : (i : Int) < (k : Int)
        · obtain ⟨kp, rfl⟩ : ∃ kp, k = kp + 1 := ⟨k - 1, by omega⟩
          obtain ⟨x, hy, hx, hsh⟩ := shl_step hSH.out HQ.out (by omega)
          have HF4 := Lib.hid (hF.swp (kp + 1) kp hy hx)
          obtain ⟨xp, xd⟩ := x
          obtain ⟨yp, yd⟩ := y
          obtain ⟨x0, x1⟩ := hF.cell hx
          obtain ⟨y0, y1⟩ := hF.cell hy
          have fx0 := hF.free (kp * 2)
          have fx1 := hF.free (kp * 2 + 1)
          have fy0 := hF.free ((kp + 1) * 2)
          have fy1 := hF.free ((kp + 1) * 2 + 1)
          have HG4 := Lib.hid (only_trans hg (put4_only wr g ((kp + 1) * 2) ((kp + 1) * 2 + 1) (kp * 2) (kp * 2 + 1) (.string xp) (.string xd) (.string yp) (.string yd)))
          have HSH3 := Lib.hid hsh
          have HN3 := Lib.hid (show (sw row2 (kp + 1) kp).length = N by rw [sw_len]; exact HN2.out)
          have hne : (kp + 1) * 2 ≠ kp * 2 := by omega
          have hne1 : (kp + 1) * 2 + 1 ≠ kp * 2 := by omega
          have hne2 : (kp + 1) * 2 ≠ kp * 2 + 1 := by omega
          have hwp : IntKind.i64.wrap (kp : Int) = (kp : Int) := by rw [IntKind.wrap_i64]; omega
          have kz1 : (kp : Int) < (N : Int) := by omega
          have kz : (kp : Int) + 1 < (N : Int) := by omega
          have p0 : (0 : Int) ≤ (kp : Int) + 1 := by omega
          have e0 : ((kp : Int) + 1).toNat = kp + 1 := by omega
          clear hF hg hsh hx hy hSH HN2
          go_wp2_with fail
          go_big_region_o
          all_goals go_wp2_with fail
          go_round
          case rel => exact ⟨kp, _, by first | rfl | go_num, by omega, by omega, HSH3, HN3, HF4.out, only_trans HG4.out (only_drew _ _)⟩
          case measure => simp [intOf]
        · obtain rfl : k = i := by omega
          have hE := shl_end hSH.out
          subst hE
          go_wp2_with fail
          go_end0
          refine ⟨rfl, ⟨X1 ++ y :: X2, by simp only [List.length_append, List.length_cons, List.length_nil], HLAW.out.1, by have h := HLAW.out.2; rw [List.append_assoc] at h; exact h, ?_⟩, hg⟩
          rw [show P ++ (X1 ++ y :: X2 ++ S) = P ++ X1 ++ (y :: (X2 ++ S)) by simp]
          exact hF
end Go.Proofs.Ytbgnbkomckbckaa
