/-
  slices.symMergeCmpFunc at files.
-/
import Derived.Test.YtbgnbkomckbckaaFmG
import Derived.Deep.Cut
import Derived.Deep.CutRange
namespace Go.Proofs.Ytbgnbkomckbckaa
open Go.RowKit Go.Sort

/-- The search of both sides. -/
def Sea3 (row : List Fl) (nn lo hi i j : Nat) : Prop := (i = lo ∨ ∃ x y, row[i - 1]? = some x ∧ row[nn - i]? = some y ∧ ¬ ltF y x) ∧ (j = hi ∨ ∃ x y, row[j]? = some x ∧ row[nn - 1 - j]? = some y ∧ ltF y x)
def Bnds (a m b mid nn lo hi : Nat) : Prop := mid = (a + b) / 2 ∧ nn = mid + m ∧ ((mid < m ∧ lo + b = nn ∧ hi = mid) ∨ (m ≤ mid ∧ lo = a ∧ hi = m))
theorem gen_end {P X Y S : List Fl} {a m b mid nn lo hi s : Nat} (ha : P.length = a) (hm : a + X.length = m) (hb : m + Y.length = b) (hB : Bnds a m b mid nn lo hi) (h1 : lo ≤ s) (h2 : s ≤ hi) (hX : Srt X) (hY : Srt Y) (h : Sea3 (P ++ (X ++ (Y ++ S))) nn lo hi s s) :
    ∃ X1 X2 Y1 Y2, X = X1 ++ X2 ∧ Y = Y1 ++ Y2 ∧ X1.length + a = s ∧ Y1.length + m + s = nn ∧ (∀ x ∈ X1, ∀ y ∈ Y2, ¬ ltF y x) ∧ ∀ y ∈ Y1, ∀ x ∈ X2, ltF y x := by
  obtain ⟨e1, e2, e3⟩ := hB
  obtain ⟨X1, X2, rfl, l1⟩ := split_at X (s - a) (by omega)
  obtain ⟨Y1, Y2, rfl, l2⟩ := split_at Y (nn - s - m) (by omega)
  rw [List.length_append] at hm hb
  have k1 : X1.length + a = s := by omega
  have k2 : Y1.length + m + s = nn := by omega
  have lastX : ∀ A z, X1 = A ++ [z] → (P ++ (X1 ++ X2 ++ (Y1 ++ Y2 ++ S)))[s - 1]? = some z := fun A z e => by
    subst e
    simp only [List.length_append, List.length_cons, List.length_nil] at k1
    rw [show P ++ (A ++ [z] ++ X2 ++ (Y1 ++ Y2 ++ S)) = (P ++ A) ++ z :: (X2 ++ (Y1 ++ Y2 ++ S)) by simp]
    exact at_mid _ _ _ _ (by simp; omega)
  have headX : ∀ z B, X2 = z :: B → (P ++ (X1 ++ X2 ++ (Y1 ++ Y2 ++ S)))[s]? = some z := fun z B e => by
    subst e
    rw [show P ++ (X1 ++ z :: B ++ (Y1 ++ Y2 ++ S)) = (P ++ X1) ++ z :: (B ++ (Y1 ++ Y2 ++ S)) by simp]
    exact at_mid _ _ _ _ (by simp; omega)
  have lastY : ∀ A z, Y1 = A ++ [z] → (P ++ (X1 ++ X2 ++ (Y1 ++ Y2 ++ S)))[nn - 1 - s]? = some z := fun A z e => by
    subst e
    simp only [List.length_append, List.length_cons, List.length_nil] at k2
    rw [show P ++ (X1 ++ X2 ++ (A ++ [z] ++ Y2 ++ S)) = (P ++ X1 ++ X2 ++ A) ++ z :: (Y2 ++ S) by simp]
    exact at_mid _ _ _ _ (by simp; omega)
  have headY : ∀ z B, Y2 = z :: B → (P ++ (X1 ++ X2 ++ (Y1 ++ Y2 ++ S)))[nn - s]? = some z := fun z B e => by
    subst e
    rw [show P ++ (X1 ++ X2 ++ (Y1 ++ z :: B ++ S)) = (P ++ X1 ++ X2 ++ Y1) ++ z :: (B ++ S) by simp]
    exact at_mid _ _ _ _ (by simp; omega)
  refine ⟨X1, X2, Y1, Y2, rfl, rfl, k1, k2, ?_, ?_⟩
  · rcases List.eq_nil_or_concat X1 with e | ⟨A, z, e⟩
    · subst e; simp
    · rw [List.concat_eq_append] at e
      cases hY2 : Y2 with
      | nil => simp
      | cons u B =>
        rcases h.1 with h4 | ⟨x, y, hx, hy, hlt⟩
        · exfalso
          have : 0 < X1.length := by rw [e]; simp
          have : 0 < Y2.length := by rw [hY2]; simp
          omega
        · rw [lastX A z e] at hx
          rw [headY u B hY2] at hy
          cases hx
          cases hy
          have hs1 := srt_last (X := A) (x := z) (by rw [← e]; exact (srt_app.1 hX).1)
          have hs2 := srt_head (X := B) (x := u) (by rw [← hY2]; exact (srt_app.1 hY).2.1)
          intro x hx y hy
          rw [e] at hx
          exact leF_trans (hs1 x hx) (leF_trans hlt (hs2 y hy))
  · rcases List.eq_nil_or_concat Y1 with e | ⟨A, z, e⟩
    · subst e; simp
    · rw [List.concat_eq_append] at e
      cases hX2 : X2 with
      | nil => simp
      | cons u B =>
        rcases h.2 with h4 | ⟨x, y, hx, hy, hlt⟩
        · exfalso
          have : 0 < Y1.length := by rw [e]; simp
          have : 0 < X2.length := by rw [hX2]; simp
          omega
        · rw [headX u B hX2] at hx
          rw [lastY A z e] at hy
          cases hx
          cases hy
          have hs1 := srt_last (X := A) (x := z) (by rw [← e]; exact (srt_app.1 hY).1)
          have hs2 := srt_head (X := B) (x := u) (by rw [← hX2]; exact (srt_app.1 hX).2.1)
          intro y hy x hx
          rw [e] at hy
          exact ltF_le (leF_lt (hs1 y hy) hlt) (hs2 x hx)
def RotRel (w : World) (g : Nat) (row : List Fl) (wx : World) : Prop := FRow wx g row ∧ w.grownBy wx (some g)
def RecRel (w : World) (g : Nat) (P X Y R : List Fl) (wx : World) : Prop := ∃ Z, Z.length = (X ++ Y).length ∧ Srt Z ∧ Stab (X ++ Y) Z ∧ FRow wx g (P ++ (Z ++ R)) ∧ w.grownBy wx (some g)
theorem rec_none {w : World} {g : Nat} {P X Y R : List Fl} {wx : World} (h : X = [] ∨ Y = []) (hX : Srt X) (hY : Srt Y) (hF : FRow wx g (P ++ (X ++ (Y ++ R)))) (hg : w.grownBy wx (some g)) : RecRel w g P X Y R wx := by
  refine ⟨X ++ Y, rfl, ?_, Stab.rfl' _, by rw [List.append_assoc X]; exact hF, hg⟩
  rcases h with rfl | rfl
  · simpa using hY
  · simpa using hX
theorem nil_of {l : List Fl} {n : Nat} (h : l.length + n = n) : l = [] := List.eq_nil_of_length_eq_zero (by omega)
/-- What symMerge does, to so many files at the most. -/
def SymOk (n : Nat) : Prop := ∀ (g cap N : Nat) (a m b : Int) (a' m' b' : Nat) (P X Y S row : List Fl) (w : World), a = a' → m = m' → b = b' → row = P ++ (X ++ (Y ++ S)) → row.length = N → N ≤ 1000 → P.length = a' → a' + X.length = m' → m' + Y.length = b' → 0 < X.length → 0 < Y.length → X.length + Y.length ≤ n → Srt X → Srt Y → FRow w g row →
  Calls Try.prog 54 #[.slice (some ⟨g, 0, none⟩) N cap, .int .i64 a, .int .i64 m, .int .i64 b, .func (.func 29) #[] #[]] w (SortEnd w g P (X ++ Y) S)
theorem SymOk.use {n : Nat} (h : SymOk n) : ∀ (g cap N : Nat) (a m b : Int) (a' m' b' : Nat) (P X Y S row : List Fl) (w : World), a = a' → m = m' → b = b' → row = P ++ (X ++ (Y ++ S)) → row.length = N → N ≤ 1000 → P.length = a' → a' + X.length = m' → m' + Y.length = b' → 0 < X.length → 0 < Y.length → X.length + Y.length ≤ n → Srt X → Srt Y → FRow w g row →
  Calls Try.prog 54 #[.slice (some ⟨g, 0, none⟩) N cap, .int .i64 a, .int .i64 m, .int .i64 b, .func (.func 29) #[] #[]] w (SortEnd w g P (X ++ Y) S) := h
theorem rotate_is (g cap N : Nat) (a m b : Int) (a' m' b' : Nat) (P U V S row : List Fl) (fv : Value) (w : World) (ea : a = a') (em : m = m') (eb : b = b') (er : row = P ++ (U ++ (V ++ S))) (hN : row.length = N) (hmx : N ≤ 1000) (ha : P.length = a') (hm : a' + U.length = m') (hb : m' + V.length = b') (hU : 0 < U.length) (hV : 0 < V.length) (hr : FRow w g row) :
    Calls Try.prog 59 #[.slice (some ⟨g, 0, none⟩) N cap, .int .i64 a, .int .i64 m, .int .i64 b, fv] w (RowEnd w g (P ++ (V ++ (U ++ S)))) := by
  subst ea; subst em; subst eb; subst er
  exact rotate_any g cap N a' m' b' _ _ fv w hN hmx ⟨P, U, V, S, rfl, by omega, by omega, by omega, rfl⟩ (by omega) (by omega) hr

set_option maxRecDepth 20000 in
set_option maxHeartbeats 40000000 in
theorem symGen_any (n0 : Nat) (IH : SymOk n0) (g cap N a m b : Nat) (P X Y S : List Fl) (w : World) (hN : (P ++ (X ++ (Y ++ S))).length = N) (hmx : N ≤ 1000) (ha : P.length = a) (hm : a + X.length = m) (hb : m + Y.length = b) (hX2 : a + 2 ≤ m) (hY2 : m + 2 ≤ b) (hn : X.length + Y.length ≤ n0 + 1) (hX : Srt X) (hY : Srt Y) (hr : FRow w g (P ++ (X ++ (Y ++ S)))) :
    Calls Try.prog 54 #[.slice (some ⟨g, 0, none⟩) N cap, .int .i64 a, .int .i64 m, .int .i64 b, .func (.func 29) #[] #[]] w (SortEnd w g P (X ++ Y) S) := by
  have mixed : Try.prog.follows Departure.mixedOrders = true := by kernel_rfl
  have hbN : b ≤ N := by rw [← hN]; simp only [List.length_append]; omega
  obtain ⟨row, hrow⟩ : ∃ row, P ++ (X ++ (Y ++ S)) = row := ⟨_, rfl⟩
  rw [hrow] at hr hN
  obtain ⟨XY, hXY⟩ : ∃ XY, X ++ Y = XY := ⟨_, rfl⟩
  rw [hXY]
  have HXY := Lib.hid hXY
  have HROW := Lib.hid hrow
  have HN := Lib.hid hN
  have HA := Lib.hid ha
  have HM := Lib.hid hm
  have HB := Lib.hid hb
  have HSX := Lib.hid hX
  have HSY := Lib.hid hY
  have HNN := Lib.hid hn
  have HIH := Lib.hid IH
  have w1 : IntKind.i64.wrap ((m : Int) - (a : Int)) = (m : Int) - (a : Int) := by rw [IntKind.wrap_i64]; omega
  have w2 : IntKind.i64.wrap ((b : Int) - (m : Int)) = (b : Int) - (m : Int) := by rw [IntKind.wrap_i64]; omega
  have w3 : ((m : Int) - (a : Int) == 1) = false := by rw [beq_eq_false_iff_ne]; omega
  have w4 : ((b : Int) - (m : Int) == 1) = false := by rw [beq_eq_false_iff_ne]; omega
  obtain ⟨mid, hmid⟩ : ∃ mid, (a + b) / 2 = mid := ⟨_, rfl⟩
  have emid : ((a : Int) + (b : Int)) / 2 = (mid : Int) := by omega
  obtain ⟨nn, hnn⟩ : ∃ nn, mid + m = nn := ⟨_, rfl⟩
  have wnn : IntKind.i64.wrap ((mid : Int) + (m : Int)) = (nn : Int) := by rw [IntKind.wrap_i64]; omega
  have enn : (mid : Int) + (m : Int) = (nn : Int) := by omega
  obtain ⟨pp, hpp⟩ : ∃ pp, pp + 1 = nn := ⟨nn - 1, by omega⟩
  have wpp : IntKind.i64.wrap ((nn : Int) - 1) = (pp : Int) := by rw [IntKind.wrap_i64]; omega
  have epp : (nn : Int) - 1 = (pp : Int) := by omega
  have wlo : IntKind.i64.wrap ((nn : Int) - (b : Int)) = (nn : Int) - (b : Int) := by rw [IntKind.wrap_i64]; omega
  have wnn2 : IntKind.i64.wrap (nn : Int) = (nn : Int) := by rw [IntKind.wrap_i64]; omega
  have wpp2 : IntKind.i64.wrap (pp : Int) = (pp : Int) := by rw [IntKind.wrap_i64]; omega
  have bnn : nn ≤ 2000 := by omega
  have bm : m ≤ 1000 := by omega
  obtain ⟨lo, hi, hBn⟩ : ∃ lo hi, Bnds a m b mid nn lo hi := by
    by_cases h : mid < m
    · exact ⟨nn - b, mid, hmid.symm, hnn.symm, .inl ⟨h, by omega, rfl⟩⟩
    · exact ⟨a, m, hmid.symm, hnn.symm, .inr ⟨by omega, rfl, rfl⟩⟩
  have HBN := Lib.hid hBn
  have hlh : lo ≤ hi := by obtain ⟨_, _, h3⟩ := hBn; omega
  have HS := Lib.hid (show Sea3 row nn lo hi lo hi from ⟨.inl rfl, .inl rfl⟩)
  have hmb : mid < b := by omega
  have ham : a < mid := by omega
  have HLO : Hid (a ≤ lo ∧ hi ≤ m ∧ hi ≤ mid ∧ m + hi ≤ nn ∧ nn ≤ b + lo) := by obtain ⟨_, _, h3⟩ := hBn; exact Lib.hid (by omega)
  rcases hBn.2.2 with ⟨q1, q2, q3⟩ | ⟨q1, q2, q3⟩
  all_goals
    have HQ := Lib.hid (And.intro q2 q3)
    clear q2 q3
    have q1a : decide ((mid : Int) < (m : Int)) = decide (mid < m) := by rw [decide_eq_decide]; omega
    have q1b : (decide (mid < m) = true ∧ (mid : Int) < (m : Int)) ∨ (decide (mid < m) = false ∧ ¬ (mid : Int) < (m : Int)) := by
      by_cases h : mid < m
      · exact .inl ⟨decide_eq_true h, by omega⟩
      · exact .inr ⟨decide_eq_false h, by omega⟩
    rcases q1b with ⟨q1b, q1c⟩ | ⟨q1b, q1c⟩
    any_goals (exfalso; omega)
    rw [q1b] at q1a
    clear q1b q1
    clear hrow hN ha hm hb hX hY hBn hmid hXY hn hX2 hY2 hnn IH
    go_enter Try.func54, Try.ntmps54
    go_wp2_with fail
    go_loopw [20, 21] (fun vi vj wr => ∃ (i j : Nat), vi = .int .i64 i ∧ vj = .int .i64 j ∧ lo ≤ i ∧ i ≤ j ∧ j ≤ hi ∧ Hid (Sea3 row nn lo hi i j) ∧ FRow wr g row ∧ w.grownBy wr (some g)) (fun vi vj _ => (intOf vj).toNat - (intOf vi).toNat)
    case atStart => exact ⟨lo, hi, by congr 1; have := HQ.out; omega, by congr 1; have := HQ.out; omega, Nat.le_refl _, hlh, Nat.le_refl _, HS, hr, only_refl _ _⟩
    case round =>
      clear HS hr
      obtain ⟨i, j, rfl, rfl, hli, hij, hjh, hS, hF, hg⟩ := hrel
      have hLO := HLO.out
      by_cases hlt : (i : Int) < (j : Int)
      · obtain ⟨h, hh⟩ : ∃ h, (i + j) / 2 = h := ⟨_, rfl⟩
        have hmd : ((i : Int) + (j : Int)) / 2 = (h : Int) := by omega
        have hih : i ≤ h ∧ h < j := by omega
        have hhN : h < row.length := by rw [HN.out]; omega
        obtain ⟨q, hq⟩ : ∃ q, q + h = pp := ⟨pp - h, by omega⟩
        have wq : IntKind.i64.wrap (q : Int) = (q : Int) := by rw [IntKind.wrap_i64]; omega
        have eqh : (pp : Int) - (h : Int) = (q : Int) := by omega
        have hqN : q < row.length := by rw [HN.out]; omega
        obtain ⟨x, hx⟩ : ∃ x, row[h]? = some x := ⟨_, getD_some hhN⟩
        obtain ⟨y, hy⟩ : ∃ y, row[q]? = some y := ⟨_, getD_some hqN⟩
        obtain ⟨c, hc⟩ : ∃ c, cmpB y.1 x.1 = c := ⟨_, rfl⟩
        have hcl := ltF_cmp y x
        rw [hc] at hcl
        have HS1 : Hid (¬ c < 0 → Sea3 row nn lo hi (h + 1) j) := Lib.hid fun hl => ⟨.inr ⟨x, y, by rw [Nat.add_sub_cancel]; exact hx, by rw [show nn - (h + 1) = q by omega]; exact hy, fun e => hl (hcl.2 e)⟩, hS.out.2⟩
        have HS2 : Hid (c < 0 → Sea3 row nn lo hi i h) := Lib.hid fun hl => ⟨hS.out.1, .inr ⟨x, y, hx, by rw [show nn - 1 - h = q by omega]; exact hy, hcl.1 hl⟩⟩
        have hz : (h : Int) < (N : Int) := by rw [HN.out] at hhN; omega
        have qz : (q : Int) < (N : Int) := by rw [HN.out] at hqN; omega
        obtain ⟨xp, xd⟩ := x
        obtain ⟨yp, yd⟩ := y
        obtain ⟨x0, x1⟩ := hF.cellG hx
        obtain ⟨y0, y1⟩ := hF.cellG hy
        have HC := Lib.hid hc
        clear hc hcl hx hy hS hhN hh hqN hq
        by_cases hl : c < 0
        · have hd : decide (c < 0) = true := decide_eq_true hl
          go_wp2_with fail
          go_quiet_grown (first | (go_at_call 29; refine Calls.grown_of (sort1_any yp yd xp xd c HC.out _)))
          go_wp2_with fail
          go_round
          case rel => exact ⟨i, h, rfl, by first | rfl | go_num, hli, by omega, by omega, Lib.hid (HS2.out hl), hF.below' (below_gr wr nq osq), only_trans hg (only_below (below_gr wr nq osq) g)⟩
          case measure => simp [intOf]; omega
        · have hd : decide (c < 0) = false := decide_eq_false hl
          go_wp2_with fail
          go_quiet_grown (first | (go_at_call 29; refine Calls.grown_of (sort1_any yp yd xp xd c HC.out _)))
          go_wp2_with fail
          go_round
          case rel => exact ⟨h + 1, j, by first | rfl | go_num, rfl, by omega, by omega, hjh, Lib.hid (HS1.out hl), hF.below' (below_gr wr nq osq), only_trans hg (only_below (below_gr wr nq osq) g)⟩
          case measure => simp [intOf]; omega
      · obtain rfl : i = j := by omega
        obtain ⟨X1, X2, Y1, Y2, rfl, rfl, k1, k2, g1, g2⟩ := gen_end (S := S) HA.out HM.out HB.out HBN.out hli hjh HSX.out HSY.out (by rw [HROW.out]; exact hS.out)
        have hM := HM.out
        have hBb := HB.out
        have hNN := HNN.out
        rw [List.length_append] at hM hBb
        rw [List.length_append, List.length_append] at hNN
        obtain ⟨ed, hed⟩ : ∃ ed, ed + i = nn := ⟨nn - i, by omega⟩
        have wed : IntKind.i64.wrap ((nn : Int) - (i : Int)) = (ed : Int) := by rw [IntKind.wrap_i64]; omega
        have eed : (nn : Int) - (i : Int) = (ed : Int) := by omega
        have r1 : Y1.length + m = ed := by omega
        have r2 : X2.length + i = m := by omega
        have r3 : Y1.length + i = mid := by have := HBN.out.2.1; omega
        have r4 : X2.length + mid = ed := by have := HBN.out.2.1; omega
        have r5 : Y2.length + ed = b := by omega
        have srt1 := (srt_app.1 HSX.out).1
        have srt2 := (srt_app.1 HSX.out).2.1
        have srt3 := (srt_app.1 HSY.out).1
        have srt4 := (srt_app.1 HSY.out).2.1
        have HR := Lib.hid (And.intro k1 (And.intro r1 (And.intro r2 (And.intro r3 (And.intro r4 (And.intro r5 hNN))))))
        have HSS := Lib.hid (And.intro srt1 (And.intro srt2 (And.intro srt3 srt4)))
        have HML := Lib.hid (fun Z1 Z2 s1 s2 t1 t2 => merge_law (Z1 := Z1) (Z2 := Z2) HSX.out HSY.out g1 g2 s1 s2 t1 t2)
        have HROW2 := Lib.hid (show row = P ++ (X1 ++ (X2 ++ (Y1 ++ (Y2 ++ S)))) by rw [← HROW.out]; simp)
        have HXY2 := Lib.hid (show (X1 ++ X2) ++ (Y1 ++ Y2) = XY from HXY.out)
        have HBB := Lib.hid (And.intro hM hBb)
        have HXL := Lib.hid (And.intro HA.out (And.intro hmb ham))
        clear hS g1 g2 srt1 srt2 srt3 srt4
        have HN2 := Lib.hid (show X1.length + X2.length + (Y1.length + Y2.length) ≤ n0 + 1 from hNN)
        obtain ⟨bA, hbA⟩ : ∃ t : Bool, decide (i < m ∧ m < ed) = t := ⟨_, rfl⟩
        obtain ⟨bB, hbB⟩ : ∃ t : Bool, decide (a < i ∧ i < mid) = t := ⟨_, rfl⟩
        obtain ⟨bC, hbC⟩ : ∃ t : Bool, decide (mid < ed ∧ ed < b) = t := ⟨_, rfl⟩
        have HBA := Lib.hid hbA
        have HBB2 := Lib.hid hbB
        have HBC := Lib.hid hbC
        clear hbA hbB hbC k1 k2 r1 r2 r3 r4 r5 hNN hM hBb hed hLO
        go_upto_region 39 with (fail)
        go_cut [185] from 178 to 185 (fun v wx => v = .bool bA ∧ wr = wx)
        case first =>
          by_cases d1 : (i : Int) < (m : Int)
          · by_cases d2 : (m : Int) < (ed : Int)
            · have E := Lib.hid (show bA = true by rw [← HBA.out]; exact decide_eq_true (by omega))
              go_wp2_with fail
              go_meet
              case rel => exact ⟨by first | (rw [E.out]; done) | (rw [E.out]; rfl) | (rw [E.out]; simp; omega), rfl⟩
            · have E := Lib.hid (show bA = false by rw [← HBA.out]; exact decide_eq_false (by omega))
              go_wp2_with fail
              go_meet
              case rel => exact ⟨by first | (rw [E.out]; done) | (rw [E.out]; rfl) | (rw [E.out]; simp; omega), rfl⟩
          · have E := Lib.hid (show bA = false by rw [← HBA.out]; exact decide_eq_false (by omega))
            go_wp2_with fail
            go_meet
            case rel => exact ⟨by first | (rw [E.out]; done) | (rw [E.out]; rfl) | (rw [E.out]; simp; omega), rfl⟩
        case rest =>
          obtain ⟨rfl, rfl⟩ := hcut
          go_upto_if 185 with (fail)
          go_cut [] from 186 to 191 (fun wx => RotRel w g (P ++ (X1 ++ (Y1 ++ (X2 ++ (Y2 ++ S))))) wx)
          case first =>
            cases bA with
            | true =>
              have hd := of_decide_eq_true HBA.out
              go_wp2_with fail
              (with_reducible refine (rotate_is g cap N _ _ _ i m ed (P ++ X1) X2 Y1 (Y2 ++ S) row _ _ rfl rfl rfl (by rw [HROW2.out]; simp) HN.out hmx (by have := HR.out; have := HA.out; rw [List.length_append]; omega) (by have := HR.out; omega) (by have := HR.out; omega) (by have := HR.out; omega) (by have := HR.out; omega) hF).mono ?_)
              rintro e w3 ⟨rfl, hF3, hg3⟩
              have HRel := Lib.hid (show RotRel w g (P ++ (X1 ++ (Y1 ++ (X2 ++ (Y2 ++ S))))) w3 from ⟨by have h := hF3; rw [List.append_assoc] at h; exact h, only_trans hg hg3⟩)
              clear hF hg hF3 hg3
              go_wp2_with fail
              go_meet
              case rel => exact HRel.out
            | false =>
              have hd := of_decide_eq_false HBA.out
              have HRel := Lib.hid (show RotRel w g (P ++ (X1 ++ (Y1 ++ (X2 ++ (Y2 ++ S))))) wr from ⟨by
                have h := hF
                rw [HROW2.out] at h
                have hr := HR.out
                by_cases h2 : X2 = []
                · rw [h2] at h ⊢; simpa using h
                · have h3 : Y1 = [] := nil_of (n := 0) (by have : 0 < X2.length := List.length_pos_iff.2 h2; omega)
                  rw [h3] at h ⊢; simpa using h, hg⟩)
              clear hF hg hd
              go_wp2_with fail
              go_meet
              case rel => exact HRel.out
          case rest =>
            have HCA := Lib.hid hcut
            clear hcut hF hg
            have hFa := HCA.out.1
            have hga := HCA.out.2
            have HNa := Lib.hid (show (P ++ (X1 ++ (Y1 ++ (X2 ++ (Y2 ++ S))))).length = N by have := HN.out; rw [HROW2.out] at this; simp only [List.length_append] at this ⊢; omega)
            generalize wc = wA at *
            clear HBA HCA
            go_upto_region 41 with (fail)
            go_cut [199] from 192 to 199 (fun v wx => v = .bool bB ∧ wA = wx)
            case first =>
              by_cases d1 : (a : Int) < (i : Int)
              · by_cases d2 : (i : Int) < (mid : Int)
                · have E := Lib.hid (show bB = true by rw [← HBB2.out]; exact decide_eq_true (by omega))
                  go_wp2_with fail
                  go_meet
                  case rel => exact ⟨by first | (rw [E.out]; done) | (rw [E.out]; rfl) | (rw [E.out]; simp; omega), rfl⟩
                · have E := Lib.hid (show bB = false by rw [← HBB2.out]; exact decide_eq_false (by omega))
                  go_wp2_with fail
                  go_meet
                  case rel => exact ⟨by first | (rw [E.out]; done) | (rw [E.out]; rfl) | (rw [E.out]; simp; omega), rfl⟩
              · have E := Lib.hid (show bB = false by rw [← HBB2.out]; exact decide_eq_false (by omega))
                go_wp2_with fail
                go_meet
                case rel => exact ⟨by first | (rw [E.out]; done) | (rw [E.out]; rfl) | (rw [E.out]; simp; omega), rfl⟩
            case rest =>
              obtain ⟨rfl, rfl⟩ := hcut
              go_upto_if 199 with (fail)
              go_cut [] from 200 to 205 (fun wx => RecRel w g P X1 Y1 (X2 ++ (Y2 ++ S)) wx)
              case first =>
                cases bB with
                | true =>
                  have hd := of_decide_eq_true HBB2.out
                  go_wp2_with fail
                  (with_reducible refine (HIH.out.use g cap N _ _ _ a i mid P X1 Y1 (X2 ++ (Y2 ++ S)) _ _ rfl rfl rfl rfl HNa.out hmx HA.out (by have := HR.out; omega) (by have := HR.out; omega) (by have := HR.out; omega) (by have := HR.out; omega) (by have := HR.out; have := HN2.out; have := HBB.out; have := HXL.out; omega) HSS.out.1 HSS.out.2.2.1 hFa).mono ?_)
                  rintro e w4 ⟨rfl, ⟨Z1, u1, u2, u3, hFb⟩, hg4⟩
                  have HRel := Lib.hid (show RecRel w g P X1 Y1 (X2 ++ (Y2 ++ S)) w4 from ⟨Z1, u1, u2, u3, hFb, only_trans hga hg4⟩)
                  clear hFa hga hFb hg4 u1 u2 u3
                  go_wp2_with fail
                  go_meet
                  case rel => exact HRel.out
                | false =>
                  have hd := of_decide_eq_false HBB2.out
                  have HRel := Lib.hid (show RecRel w g P X1 Y1 (X2 ++ (Y2 ++ S)) wA from rec_none (by
                    have hr := HR.out
                    by_cases h2 : X1 = []
                    · exact .inl h2
                    · exact .inr (nil_of (n := 0) (by have : 0 < X1.length := List.length_pos_iff.2 h2; omega))) HSS.out.1 HSS.out.2.2.1 hFa hga)
                  clear hFa hga hd
                  go_wp2_with fail
                  go_meet
                  case rel => exact HRel.out
              case rest =>
                obtain ⟨Z1, u1, u2, u3, hFb, hgb⟩ := hcut
                have HU := Lib.hid (And.intro u1 (And.intro u2 u3))
                have HNb := Lib.hid (show (P ++ (Z1 ++ (X2 ++ (Y2 ++ S)))).length = N by have := HN.out; rw [HROW2.out] at this; simp only [List.length_append] at this u1 ⊢; omega)
                clear u1 u2 u3 hFa hga HNa HBB2
                generalize wc = wB at *
                go_upto_region 43 with (fail)
                go_cut [213] from 206 to 213 (fun v wx => v = .bool bC ∧ wB = wx)
                case first =>
                  by_cases d1 : (mid : Int) < (ed : Int)
                  · by_cases d2 : (ed : Int) < (b : Int)
                    · have E := Lib.hid (show bC = true by rw [← HBC.out]; exact decide_eq_true (by omega))
                      go_wp2_with fail
                      go_meet
                      case rel => exact ⟨by first | (rw [E.out]; done) | (rw [E.out]; rfl) | (rw [E.out]; simp; omega), rfl⟩
                    · have E := Lib.hid (show bC = false by rw [← HBC.out]; exact decide_eq_false (by omega))
                      go_wp2_with fail
                      go_meet
                      case rel => exact ⟨by first | (rw [E.out]; done) | (rw [E.out]; rfl) | (rw [E.out]; simp; omega), rfl⟩
                  · have E := Lib.hid (show bC = false by rw [← HBC.out]; exact decide_eq_false (by omega))
                    go_wp2_with fail
                    go_meet
                    case rel => exact ⟨by first | (rw [E.out]; done) | (rw [E.out]; rfl) | (rw [E.out]; simp; omega), rfl⟩
                case rest =>
                  obtain ⟨rfl, rfl⟩ := hcut
                  cases bC with
                  | true =>
                    have hd := of_decide_eq_true HBC.out
                    go_wp2_with fail
                    (with_reducible refine (HIH.out.use g cap N _ _ _ mid ed b (P ++ Z1) X2 Y2 S _ _ rfl rfl rfl (by rw [List.append_assoc]) HNb.out hmx (by have := HR.out; have := HA.out; have h := HU.out.1; rw [List.length_append] at h; rw [List.length_append]; omega) (by have := HR.out; omega) (by have := HR.out; omega) (by have := HR.out; omega) (by have := HR.out; omega) (by have := HR.out; have := HN2.out; have := HBB.out; have := HXL.out; omega) HSS.out.2.1 HSS.out.2.2.2 hFb).mono ?_)
                    rintro e w5 ⟨rfl, ⟨Z2, u1, u2, u3, hFc⟩, hg5⟩
                    have hgc := only_trans hgb hg5
                    have HV := Lib.hid (And.intro u1 (And.intro u2 u3))
                    clear hFb hgb hg5 u1 u2 u3
                    go_wp2_with fail
                    go_end0
                    have hml := HML.out Z1 Z2 HU.out.2.1 HV.out.2.1 HU.out.2.2 HV.out.2.2
                    refine ⟨rfl, ⟨Z1 ++ Z2, by have h1 := HU.out.1; have h2 := HV.out.1; rw [← HXY2.out]; simp only [List.length_append] at h1 h2 ⊢; omega, hml.1, by rw [← HXY2.out]; exact hml.2, by have h := hFc; rw [List.append_assoc] at h; rw [List.append_assoc]; exact h⟩, hgc⟩
                  | false =>
                    have hd := of_decide_eq_false HBC.out
                    have HRel := Lib.hid (show RecRel w g (P ++ Z1) X2 Y2 S wB from rec_none (by
                      have hr := HR.out
                      by_cases h2 : X2 = []
                      · exact .inl h2
                      · exact .inr (nil_of (n := 0) (by have : 0 < X2.length := List.length_pos_iff.2 h2; omega))) HSS.out.2.1 HSS.out.2.2.2 (by rw [List.append_assoc]; exact hFb) hgb)
                    clear hFb hgb hd
                    obtain ⟨Z2, u1, u2, u3, hFc, hgc⟩ := HRel.out
                    have HV := Lib.hid (And.intro u1 (And.intro u2 u3))
                    clear u1 u2 u3
                    go_wp2_with fail
                    go_end0
                    have hml := HML.out Z1 Z2 HU.out.2.1 HV.out.2.1 HU.out.2.2 HV.out.2.2
                    refine ⟨rfl, ⟨Z1 ++ Z2, by have h1 := HU.out.1; have h2 := HV.out.1; rw [← HXY2.out]; simp only [List.length_append] at h1 h2 ⊢; omega, hml.1, by rw [← HXY2.out]; exact hml.2, by have h := hFc; rw [List.append_assoc] at h; rw [List.append_assoc]; exact h⟩, hgc⟩

theorem sym_all : ∀ n, SymOk n
  | 0 => fun _ _ _ _ _ _ _ _ _ _ _ _ _ _ _ _ _ _ _ _ _ _ _ _ h1 h2 h3 _ _ _ => by omega
  | n + 1 => fun g cap N a m b a' m' b' P X Y S row w ea em eb er hN hmx ha hm hb hX0 hY0 hn hX hY hr => by
    subst ea; subst em; subst eb; subst er
    by_cases h1 : X.length = 1
    · obtain ⟨x, rfl⟩ := List.length_eq_one_iff.1 h1
      exact symL_any g cap N a' m' b' P Y S x w hN hmx ha (by simp at hm; omega) hb hY hr
    · by_cases h2 : Y.length = 1
      · obtain ⟨y, rfl⟩ := List.length_eq_one_iff.1 h2
        exact symR_any g cap N a' m' b' P X S y w hN hmx ha hm (by omega) (by simp at hb; omega) hX hr
      · exact symGen_any n (sym_all n) g cap N a' m' b' P X Y S w hN hmx ha hm hb (by omega) (by omega) hn hX hY hr
end Go.Proofs.Ytbgnbkomckbckaa
