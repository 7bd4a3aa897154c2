/-
  slices.symMergeCmpFunc at files: where one side has one file.
-/
import Derived.Test.YtbgnbkomckbckaaFmC
import Derived.Test.YtbgnbkomckbckaaFmD
namespace Go.Proofs.Ytbgnbkomckbckaa
open Go.RowKit Go.Sort

theorem sort1_is (x y : Fl) (c : Int) (hc : cmpB x.1 y.1 = c) (w : World) :
    Calls Try.prog 29 #[.agg #[.string x.1, .string x.2], .agg #[.string y.1, .string y.2]] w fun e w' => e = .returned (.int .i64 c) ∧ ∃ q os', w' = grow (w.drewN q) os' := sort1_any _ _ _ _ c hc w

/-- The search from the left: x among Y. -/
def Sea (row : List Fl) (x : Fl) (m b i j : Nat) : Prop := m ≤ i ∧ i ≤ j ∧ j ≤ b ∧ (i = m ∨ ∃ y, row[i - 1]? = some y ∧ ltF y x) ∧ (j = b ∨ ∃ y, row[j]? = some y ∧ ¬ ltF y x)
theorem at_in (P X S : List Fl) (i : Nat) (h : i < X.length) : (P ++ (X ++ S))[P.length + i]? = X[i]? := by
  rw [List.getElem?_append_right (by omega), show P.length + i - P.length = i by omega, List.getElem?_append_left h]
theorem split_at (X : List Fl) (i : Nat) (h : i ≤ X.length) : ∃ X1 X2, X = X1 ++ X2 ∧ X1.length = i := ⟨X.take i, X.drop i, (List.take_append_drop i X).symm, by rw [List.length_take]; omega⟩
theorem sea_end {P Y S : List Fl} {x : Fl} {m i : Nat} (hm : m = P.length) (hY : Srt Y) (h : Sea (P ++ (Y ++ S)) x m (m + Y.length) i i) : ∃ Y1 Y2, Y = Y1 ++ Y2 ∧ Y1.length + m = i ∧ (∀ y ∈ Y1, ltF y x) ∧ ∀ y ∈ Y2, ¬ ltF y x := by
  obtain ⟨h1, _, h3, h4, h5⟩ := h
  obtain ⟨Y1, Y2, rfl, hl⟩ := split_at Y (i - m) (by omega)
  refine ⟨Y1, Y2, rfl, by omega, ?_, ?_⟩
  · rcases List.eq_nil_or_concat Y1 with rfl | ⟨A, z, e⟩
    · simp
    · rw [List.concat_eq_append] at e
      subst e
      simp only [List.length_append, List.length_cons, List.length_nil] at hl
      rcases h4 with h4 | ⟨y, hy, hlt⟩
      · omega
      · have : (P ++ (A ++ [z] ++ Y2 ++ S))[i - 1]? = some z := by
          rw [show P ++ (A ++ [z] ++ Y2 ++ S) = (P ++ A) ++ z :: (Y2 ++ S) by simp]
          exact at_mid _ _ _ _ (by simp; omega)
        rw [this] at hy
        cases hy
        exact fun a ha => leF_lt (srt_last (srt_app.1 hY).1 a ha) hlt
  · cases Y2 with
    | nil => simp
    | cons z B =>
      rcases h5 with h5 | ⟨y, hy, hlt⟩
      · simp only [List.length_append, List.length_cons] at h5; omega
      · have : (P ++ (Y1 ++ z :: B ++ S))[i]? = some z := by
          rw [show P ++ (Y1 ++ z :: B ++ S) = (P ++ Y1) ++ z :: (B ++ S) by simp]
          exact at_mid _ _ _ _ (by simp; omega)
        rw [this] at hy
        cases hy
        exact fun a ha => leF_trans (x := x) (y := z) (z := a) hlt (srt_head (srt_app.1 hY).2.1 a ha)
/-- x on its way to the right, through Y1. -/
def ShR (P Y1 R : List Fl) (x : Fl) (a k : Nat) (row : List Fl) : Prop := ∃ A B, Y1 = A ++ B ∧ A.length + a = k ∧ row = P ++ (A ++ x :: (B ++ R))
theorem shr_step {P Y1 R : List Fl} {x : Fl} {a k : Nat} {row : List Fl} (h : ShR P Y1 R x a k row) (hP : P.length = a) (hk : k < a + Y1.length) : ∃ y, row[k]? = some x ∧ row[k + 1]? = some y ∧ ShR P Y1 R x a (k + 1) (sw row k (k + 1)) := by
  obtain ⟨A, B, rfl, h2, rfl⟩ := h
  cases B with
  | nil => simp only [List.append_nil] at hk; omega
  | cons y B =>
    refine ⟨y, ?_, ?_, A ++ [y], B, by simp, by simp; omega, ?_⟩
    · rw [← List.append_assoc]; exact at_mid _ _ _ _ (by simp; omega)
    · rw [show P ++ (A ++ x :: (y :: B ++ R)) = (P ++ (A ++ [x])) ++ y :: (B ++ R) by simp]; exact at_mid _ _ _ _ (by simp; omega)
    · have e := sw_app (P ++ A) [] (B ++ R) x y k (k + 1) (by simp; omega) (by simp; omega)
      rw [show P ++ (A ++ x :: (y :: B ++ R)) = (P ++ A) ++ x :: ([] ++ y :: (B ++ R)) by simp, e]
      simp
theorem shr_end {P Y1 R : List Fl} {x : Fl} {a k : Nat} {row : List Fl} (h : ShR P Y1 R x a k row) (hk : a + Y1.length ≤ k) : row = P ++ (Y1 ++ x :: R) := by
  obtain ⟨A, B, rfl, h2, rfl⟩ := h
  rw [List.length_append] at hk
  have : B = [] := List.eq_nil_of_length_eq_zero (by omega)
  subst this
  simp

set_option maxRecDepth 20000 in
set_option maxHeartbeats 8000000 in
theorem symL_any (g cap N a m b : Nat) (P Y S : List Fl) (x : Fl) (w : World) (hN : (P ++ ([x] ++ (Y ++ S))).length = N) (hmx : N ≤ 1000) (ha : P.length = a) (hm : m = a + 1) (hb : m + Y.length = b) (hY : Srt Y) (hr : FRow w g (P ++ ([x] ++ (Y ++ S)))) :
    Calls Try.prog 54 #[.slice (some ⟨g, 0, none⟩) N cap, .int .i64 a, .int .i64 m, .int .i64 b, .func (.func 29) #[] #[]] w (SortEnd w g P ([x] ++ Y) S) := by
  have mixed : Try.prog.follows Departure.mixedOrders = true := by kernel_rfl
  have hbN : b ≤ N := by rw [← hN]; simp only [List.length_append, List.length_cons, List.length_nil]; omega
  have hx0 : (P ++ ([x] ++ (Y ++ S)))[a]? = some x := at_mid _ _ _ _ ha.symm
  have HS := Lib.hid (show Sea (P ++ ([x] ++ (Y ++ S))) x m b m b from ⟨Nat.le_refl _, by omega, Nat.le_refl _, .inl rfl, .inl rfl⟩)
  obtain ⟨row, hrow⟩ : ∃ row, P ++ ([x] ++ (Y ++ S)) = row := ⟨_, rfl⟩
  rw [hrow] at hr hx0 HS hN
  have HROW := Lib.hid hrow
  have HN := Lib.hid hN
  have HA := Lib.hid ha
  have HB := Lib.hid hb
  have HY := Lib.hid hY
  have HX0 := Lib.hid hx0
  have w1 : IntKind.i64.wrap ((m : Int) - (a : Int)) = 1 := by rw [IntKind.wrap_i64]; omega
  have am : a < m := by omega
  have HM := Lib.hid hm
  clear hrow hN ha hb hY hx0 hm
  go_enter Try.func54, Try.ntmps54
  go_wp2_with fail
  go_loopw [10, 11] (fun vi vj wr => ∃ (i j : Nat), vi = .int .i64 i ∧ vj = .int .i64 j ∧ i ≤ j ∧ j ≤ b ∧ m ≤ i ∧ Hid (Sea row x m b i j) ∧ FRow wr g row ∧ w.grownBy wr (some g)) (fun vi vj _ => (intOf vj).toNat - (intOf vi).toNat)
  case atStart => exact ⟨m, b, rfl, rfl, HS.out.2.1, Nat.le_refl _, Nat.le_refl _, HS, hr, only_refl _ _⟩
  case round =>
    clear HS hr
    obtain ⟨i, j, rfl, rfl, hij, hjb, hmi, hS, hF, hg⟩ := hrel
    by_cases hlt : (i : Int) < (j : Int)
    · obtain ⟨h, hh⟩ : ∃ h, (i + j) / 2 = h := ⟨_, rfl⟩
      have hmid : ((i : Int) + (j : Int)) / 2 = (h : Int) := by omega
      have hih : i ≤ h ∧ h < j := by omega
      have hhN : h < row.length := by rw [HN.out]; omega
      obtain ⟨y, hy⟩ : ∃ y, row[h]? = some y := ⟨_, getD_some hhN⟩
      obtain ⟨c, hc⟩ : ∃ c, cmpB y.1 x.1 = c := ⟨_, rfl⟩
      have hcl := ltF_cmp y x
      rw [hc] at hcl
      have HS1 : Hid (c < 0 → Sea row x m b (h + 1) j) := Lib.hid fun hl => ⟨by have := hS.out.1; omega, by omega, hS.out.2.2.1, .inr ⟨y, by rw [Nat.add_sub_cancel]; exact hy, hcl.1 hl⟩, hS.out.2.2.2.2⟩
      have HS2 : Hid (¬ c < 0 → Sea row x m b i h) := Lib.hid fun hl => ⟨hS.out.1, by omega, by have := hS.out.2.2.1; omega, hS.out.2.2.2.1, .inr ⟨y, hy, fun e => hl (hcl.2 e)⟩⟩
      have hz : (h : Int) < (N : Int) := by rw [HN.out] at hhN; omega
      have az : (a : Int) < (N : Int) := by omega
      obtain ⟨xp, xd⟩ := x
      obtain ⟨yp, yd⟩ := y
      obtain ⟨x0, x1⟩ := hF.cellG HX0.out
      obtain ⟨y0, y1⟩ := hF.cellG hy
      have HC := Lib.hid hc
      clear hc hcl hy hS hhN hh
      by_cases hl : c < 0
      · go_wp2_with fail
        go_quiet_grown (first | (go_at_call 29; refine Calls.grown_of (sort1_any yp yd xp xd c HC.out _)))
        go_wp2_with fail
        go_round
        case rel => exact ⟨h + 1, j, by first | rfl | go_num, rfl, by omega, hjb, by omega, Lib.hid (HS1.out hl), hF.below' (below_gr wr nq osq), only_trans hg (only_below (below_gr wr nq osq) g)⟩
        case measure => simp [intOf]; omega
      · go_wp2_with fail
        go_quiet_grown (first | (go_at_call 29; refine Calls.grown_of (sort1_any yp yd xp xd c HC.out _)))
        go_wp2_with fail
        go_round
        case rel => exact ⟨i, h, rfl, by first | rfl | go_num, by omega, by omega, hmi, Lib.hid (HS2.out hl), hF.below' (below_gr wr nq osq), only_trans hg (only_below (below_gr wr nq osq) g)⟩
        case measure => simp [intOf]; omega
    · obtain rfl : i = j := by omega
      obtain ⟨Y1, Y2, rfl, hy1, hy2, hy3⟩ := sea_end (P := P ++ [x]) (Y := Y) (S := S) (x := x) (m := m) (i := i) (by rw [List.length_append, HA.out]; have := HM.out; simp; omega) HY.out (by
        have h := hS.out
        rw [show (P ++ [x]) ++ (Y ++ S) = row by rw [← HROW.out]; simp, HB.out]
        exact h)
      have hlaw := ins_law2 (A1 := Y1) (A2 := Y2) (x := x) HY.out hy2 hy3
      have HLAW := Lib.hid hlaw
      obtain ⟨ip, rfl⟩ : ∃ ip, i = ip + 1 := ⟨i - 1, by omega⟩
      have hip : a + Y1.length = ip := by have := HM.out; omega
      have HIP := Lib.hid hip
      have hzz : ip + 1 ≤ N := by omega
      have HSH := Lib.hid (show ShR P Y1 (Y2 ++ S) x a a row from ⟨[], Y1, rfl, by simp, by rw [← HROW.out]; simp⟩)
      have hai : a ≤ ip := by omega
      have wip : IntKind.i64.wrap (ip : Int) = (ip : Int) := by rw [IntKind.wrap_i64]; omega
      clear hlaw hip hy1 hy2 hy3 hS
      go_wp2_with fail
      go_loopw [13] (fun vk wr2 => ∃ (k : Nat) (row2 : List Fl), vk = .int .i64 k ∧ a ≤ k ∧ k ≤ ip ∧ Hid (ShR P Y1 (Y2 ++ S) x a k row2) ∧ Hid (row2.length = N) ∧ FRow wr2 g row2 ∧ w.grownBy wr2 (some g)) (fun vk _ => ip - (intOf vk).toNat)
      case atStart => exact ⟨a, row, rfl, Nat.le_refl _, hai, HSH, HN, hF, hg⟩
      case round =>
        clear HSH hF hg
        obtain ⟨k, row2, rfl, hak, hki, hSH, HN2, hF, hg⟩ := hrel
        by_cases hlt2 : (k : Int) < (ip : Int)
        · obtain ⟨y, hx, hy, hsh⟩ := shr_step hSH.out HA.out (by rw [HIP.out]; omega)
          have HF4 := Lib.hid (hF.swp k (k + 1) hx hy)
          obtain ⟨xp, xd⟩ := x
          obtain ⟨yp, yd⟩ := y
          obtain ⟨x0, x1⟩ := hF.cell hx
          obtain ⟨y0, y1⟩ := hF.cell hy
          have fx0 := hF.free (k * 2)
          have fx1 := hF.free (k * 2 + 1)
          have fy0 := hF.free ((k + 1) * 2)
          have fy1 := hF.free ((k + 1) * 2 + 1)
          have HG4 := Lib.hid (only_trans hg (put4_only wr g (k * 2) (k * 2 + 1) ((k + 1) * 2) ((k + 1) * 2 + 1) (.string yp) (.string yd) (.string xp) (.string xd)))
          have HSH3 := Lib.hid hsh
          have HN3 := Lib.hid (show (sw row2 k (k + 1)).length = N by rw [sw_len]; exact HN2.out)
          have hne : k * 2 ≠ (k + 1) * 2 := by omega
          have hne1 : k * 2 + 1 ≠ (k + 1) * 2 := by omega
          have hne2 : k * 2 ≠ (k + 1) * 2 + 1 := by omega
          have kz : (k : Int) < (N : Int) := by omega
          have kz1 : (k : Int) + 1 < (N : Int) := by omega
          have p0 : (0 : Int) ≤ (k : Int) + 1 := by omega
          have e0 : ((k : Int) + 1).toNat = k + 1 := by omega
          clear hF hg hsh hx hy hSH HN2
          go_wp2_with fail
          go_big_region_o
          all_goals go_wp2_with fail
          go_round
          case rel => exact ⟨k + 1, _, by first | rfl | go_num, by omega, by omega, HSH3, HN3, HF4.out, only_trans HG4.out (only_drew _ _)⟩
          case measure => simp [intOf]; omega
        · have hE := shr_end hSH.out (by rw [HIP.out]; omega)
          subst hE
          go_wp2_with fail
          go_end0
          refine ⟨rfl, ⟨Y1 ++ x :: Y2, by simp; omega, HLAW.out.1, HLAW.out.2, ?_⟩, hg⟩
          rw [show P ++ (Y1 ++ x :: Y2 ++ S) = P ++ (Y1 ++ x :: (Y2 ++ S)) by simp]
          exact hF
end Go.Proofs.Ytbgnbkomckbckaa
