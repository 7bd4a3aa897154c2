/-
  slices.stableCmpFunc and slices.SortStableFunc at files.
-/
import Derived.Test.YtbgnbkomckbckaaFmH
namespace Go.Proofs.Ytbgnbkomckbckaa
open Go.RowKit Go.Sort

/-- Blocks of one length, each sorted. -/
def Blks (n : Nat) (Bs : List (List Fl)) : Prop := ∀ B ∈ Bs, B.length = n ∧ Srt B
/-- The first part of the sort: blocks of 20, then a rest. -/
def St1 (l : List Fl) (a : Nat) (row : List Fl) : Prop := ∃ (Bs : List (List Fl)) (R : List Fl), Blks 20 Bs ∧ row = Bs.flatten ++ R ∧ Bs.flatten.length = a ∧ Stab l row ∧ row.length = l.length
/-- The second part: blocks of n, then a sorted rest that is shorter. -/
def St2 (l : List Fl) (n : Nat) (row : List Fl) : Prop := ∃ (Bs : List (List Fl)) (R : List Fl), Blks n Bs ∧ Srt R ∧ R.length < n ∧ row = Bs.flatten ++ R ∧ Stab l row ∧ row.length = l.length
/-- Within it: blocks of twice n, then some of n, then the rest. -/
def St3 (l : List Fl) (n a : Nat) (row : List Fl) : Prop := ∃ (Cs Bs : List (List Fl)) (R : List Fl), Blks (2 * n) Cs ∧ Blks n Bs ∧ Srt R ∧ R.length < n ∧ row = Cs.flatten ++ (Bs.flatten ++ R) ∧ Cs.flatten.length = a ∧ Stab l row ∧ row.length = l.length
theorem blks_snoc {n : Nat} {Bs : List (List Fl)} {B : List Fl} (h : Blks n Bs) (h1 : B.length = n) (h2 : Srt B) : Blks n (Bs ++ [B]) := fun C hC => by
  rcases List.mem_append.1 hC with h3 | h3
  · exact h C h3
  · simp at h3; subst h3; exact ⟨h1, h2⟩
theorem flat_snoc (Bs : List (List Fl)) (B : List Fl) : (Bs ++ [B]).flatten = Bs.flatten ++ B := by simp
theorem st1_start (l : List Fl) : St1 l 0 l := ⟨[], l, fun B h => (by cases h), by simp, rfl, Stab.rfl' _, rfl⟩
/-- What is sorted next in the first part: n files from a on. -/
theorem st1_part {l row : List Fl} {a n : Nat} (h : St1 l a row) (hn : a + n ≤ row.length) : ∃ P X S, row = P ++ (X ++ S) ∧ P.length = a ∧ X.length = n ∧
    (n = 20 → ∀ Z, Z.length = X.length → Srt Z → Stab X Z → St1 l (a + 20) (P ++ (Z ++ S))) ∧ (a + n = row.length → n < 20 → ∀ Z, Z.length = X.length → Srt Z → Stab X Z → St2 l 20 (P ++ (Z ++ S))) := by
  obtain ⟨Bs, R, h1, rfl, h3, h4, h5⟩ := h
  rw [List.length_append] at hn
  obtain ⟨X, S, rfl, hX⟩ := split_at R n (by omega)
  refine ⟨Bs.flatten, X, S, rfl, h3, hX, fun e Z z1 z2 z3 => ?_, fun e e2 Z z1 z2 z3 => ?_⟩
  · refine ⟨Bs ++ [Z], S, blks_snoc h1 (by omega) z2, by rw [flat_snoc, List.append_assoc], by rw [flat_snoc, List.length_append]; omega, h4.trans ?_, ?_⟩
    · exact (Stab.rfl' _).app (z3.app (Stab.rfl' S))
    · rw [← h5]; simp only [List.length_append]; omega
  · have : S = [] := List.eq_nil_of_length_eq_zero (by simp only [List.length_append] at e; omega)
    subst this
    refine ⟨Bs, Z, h1, z2, by omega, by simp, h4.trans ?_, ?_⟩
    · exact (Stab.rfl' _).app (z3.app (Stab.rfl' []))
    · rw [← h5]; simp only [List.length_append]; omega
theorem st3_start {l row : List Fl} {n : Nat} (h : St2 l n row) : St3 l n 0 row := by
  obtain ⟨Bs, R, h1, h2, h3, h4, h5, h6⟩ := h
  exact ⟨[], Bs, R, fun B hB => (by cases hB), h1, h2, h3, by simpa using h4, rfl, h5, h6⟩
/-- Two blocks that are merged next. -/
theorem st3_two {l row : List Fl} {n a : Nat} (h : St3 l n a row) (hn : a + 2 * n ≤ row.length) : ∃ P X Y S, row = P ++ (X ++ (Y ++ S)) ∧ P.length = a ∧ X.length = n ∧ Y.length = n ∧ Srt X ∧ Srt Y ∧
    ∀ Z, Z.length = (X ++ Y).length → Srt Z → Stab (X ++ Y) Z → St3 l n (a + 2 * n) (P ++ (Z ++ S)) := by
  obtain ⟨Cs, Bs, R, h1, h2, h3, h4, rfl, h6, h7, h8⟩ := h
  simp only [List.length_append] at hn
  match Bs, h2, h7, h8, hn with
  | [], _, _, _, hn => simp only [List.flatten_cons, List.flatten_nil, List.length_append, List.length_nil, List.append_nil] at hn; omega
  | [B], h2, _, _, hn => have := (h2 B (by simp)).1; simp only [List.flatten_cons, List.flatten_nil, List.length_append, List.length_nil, List.append_nil] at hn; omega
  | B1 :: B2 :: Bs, h2, h7, h8, hn =>
    obtain ⟨a1, a2⟩ := h2 B1 (by simp)
    obtain ⟨b1, b2⟩ := h2 B2 (by simp)
    refine ⟨Cs.flatten, B1, B2, Bs.flatten ++ R, by simp, h6, a1, b1, a2, b2, fun Z z1 z2 z3 => ?_⟩
    rw [List.length_append] at z1
    refine ⟨Cs ++ [Z], Bs, R, blks_snoc h1 (by omega) z2, fun B hB => h2 B (by simp [hB]), h3, h4, by rw [flat_snoc, List.append_assoc], by rw [flat_snoc, List.length_append]; omega, h7.trans ?_, ?_⟩
    · rw [show Cs.flatten ++ ((B1 :: B2 :: Bs).flatten ++ R) = Cs.flatten ++ ((B1 ++ B2) ++ (Bs.flatten ++ R)) by simp]
      exact (Stab.rfl' _).app (z3.app (Stab.rfl' _))
    · rw [← h8]; simp only [List.length_append, List.flatten_cons]; omega
/-- The last block and the rest. -/
theorem st3_last {l row : List Fl} {n a : Nat} (h : St3 l n a row) (hn : row.length < a + 2 * n) (h0 : 0 < n) (hlt : a + n < row.length) : ∃ P X Y, row = P ++ (X ++ (Y ++ [])) ∧ P.length = a ∧ X.length = n ∧ 0 < Y.length ∧ a + n + Y.length = row.length ∧ Srt X ∧ Srt Y ∧
    ∀ Z, Z.length = (X ++ Y).length → Srt Z → Stab (X ++ Y) Z → St2 l (2 * n) (P ++ (Z ++ [])) := by
  obtain ⟨Cs, Bs, R, h1, h2, h3, h4, rfl, h6, h7, h8⟩ := h
  simp only [List.length_append] at hn hlt
  match Bs, h2, h7, h8, hn, hlt with
  | [], _, _, _, hn, hlt => simp only [List.flatten_cons, List.flatten_nil, List.length_append, List.length_nil, List.append_nil] at hlt; omega
  | B1 :: B2 :: Bs, h2, _, _, hn, _ =>
    have a1 := (h2 B1 (by simp)).1
    have b1 := (h2 B2 (by simp)).1
    simp only [List.flatten_cons, List.flatten_nil, List.length_append, List.length_nil, List.append_nil] at hn; omega
  | [B], h2, h7, h8, hn, hlt =>
    obtain ⟨a1, a2⟩ := h2 B (by simp)
    simp only [List.flatten_cons, List.flatten_nil, List.append_nil] at hn hlt h7 h8 ⊢
    refine ⟨Cs.flatten, B, R, rfl, h6, a1, by omega, by simp only [List.length_append]; omega, a2, h3, fun Z z1 z2 z3 => ?_⟩
    rw [List.length_append] at z1
    refine ⟨Cs, Z, h1, z2, by omega, rfl, h7.trans ((Stab.rfl' _).app z3), ?_⟩
    rw [← h8]; simp only [List.length_append]; omega
theorem st3_done {l row : List Fl} {n a : Nat} (h : St3 l n a row) (h0 : 0 < n) (hlt : row.length ≤ a + n) : St2 l (2 * n) row := by
  obtain ⟨Cs, Bs, R, h1, h2, h3, h4, rfl, h6, h7, h8⟩ := h
  simp only [List.length_append] at hlt
  match Bs, h2, h7, h8, hlt with
  | [], _, h7, h8, hlt => exact ⟨Cs, R, h1, h3, by omega, by simp, h7, h8⟩
  | B1 :: B2 :: Bs, h2, _, _, hlt =>
    have a1 := (h2 B1 (by simp)).1
    have b1 := (h2 B2 (by simp)).1
    simp only [List.flatten_cons, List.flatten_nil, List.length_append, List.length_nil, List.append_nil] at hlt; omega
  | [B], h2, h7, h8, hlt =>
    obtain ⟨a1, a2⟩ := h2 B (by simp)
    simp only [List.flatten_cons, List.flatten_nil, List.append_nil] at hlt h7 h8 ⊢
    have : R = [] := List.eq_nil_of_length_eq_zero (by omega)
    subst this
    exact ⟨Cs, B, h1, a2, by omega, by simp, h7, h8⟩
theorem st2_end {l row : List Fl} {n : Nat} (h : St2 l n row) (hn : row.length ≤ n) : row.length = l.length ∧ Srt row ∧ Stab l row := by
  obtain ⟨Bs, R, h1, h2, h3, rfl, h5, h6⟩ := h
  refine ⟨h6, ?_, h5⟩
  rw [List.length_append] at hn
  match Bs, h1, hn with
  | [], _, _ => simpa using h2
  | B1 :: B2 :: Bs, h1, hn =>
    have a1 := (h1 B1 (by simp)).1
    have b1 := (h1 B2 (by simp)).1
    simp only [List.flatten_cons, List.flatten_nil, List.length_append, List.length_nil, List.append_nil] at hn; omega
  | [B], h1, hn =>
    obtain ⟨a1, a2⟩ := h1 B (by simp)
    simp only [List.flatten_cons, List.flatten_nil, List.length_append, List.length_nil, List.append_nil] at hn
    have : R = [] := List.eq_nil_of_length_eq_zero (by omega)
    subst this
    simpa using a2
theorem insertion_is (g cap N : Nat) (a b : Int) (a' b' : Nat) (P X S row : List Fl) (w : World) (ea : a = a') (eb : b = b') (er : row = P ++ (X ++ S)) (hN : row.length = N) (hm : N ≤ 1000) (ha : P.length = a') (hb : a' + X.length = b') (hr : FRow w g row) :
    Calls Try.prog 53 #[.slice (some ⟨g, 0, none⟩) N cap, .int .i64 a, .int .i64 b, .func (.func 29) #[] #[]] w (SortEnd w g P X S) := by
  subst ea; subst eb; subst er
  exact insertion_any g cap N a' b' P X S w hN hm ha (by omega) hr

set_option maxRecDepth 20000 in
set_option maxHeartbeats 8000000 in
theorem stable_any (g cap N : Nat) (l : List Fl) (w : World) (hN : l.length = N) (hmx : N ≤ 1000) (hr : FRow w g l) :
    Calls Try.prog 45 #[.slice (some ⟨g, 0, none⟩) N cap, .int .i64 N, .func (.func 29) #[] #[]] w (SortEnd w g [] l []) := by
  have HN := Lib.hid hN
  have H1 := Lib.hid (st1_start l)
  clear hN
  go_enter Try.func45, Try.ntmps45
  go_wp2_with fail
  go_loopw [7, 8] (fun va vb wr => ∃ (a : Nat) (row : List Fl), va = .int .i64 a ∧ vb = .int .i64 ((a : Int) + 20) ∧ a ≤ N ∧ Hid (St1 l a row) ∧ Hid (row.length = N) ∧ FRow wr g row ∧ w.grownBy wr (some g)) (fun va _ _ => N - (intOf va).toNat)
  case atStart => exact ⟨0, l, rfl, rfl, by omega, H1, HN, hr, only_refl _ _⟩
  case round =>
    clear H1 hr
    obtain ⟨a, row, rfl, rfl, haN, hS, hL, hF, hg⟩ := hrel
    by_cases hlt : (a : Int) + 20 ≤ (N : Int)
    · obtain ⟨P, X, S, hrow, hP, hX, hgo, _⟩ := st1_part (n := 20) hS.out (by rw [hL.out]; omega)
      have HGO := Lib.hid (hgo rfl)
      have HPX := Lib.hid (And.intro hrow (And.intro hP hX))
      have w1 : IntKind.i64.wrap ((a : Int) + 20 + 20) = (a : Int) + 20 + 20 := by rw [IntKind.wrap_i64]; omega
      clear hgo hrow hP hX hS
      go_wp2_with fail
      (with_reducible refine (insertion_is g cap N _ _ a (a + 20) P X S row _ rfl (by omega) HPX.out.1 hL.out hmx HPX.out.2.1 (by have := HPX.out.2.2; omega) hF).mono ?_)
      rintro e w3 ⟨rfl, ⟨Z, z1, z2, z3, hF3⟩, hg3⟩
      have HS3 := Lib.hid (HGO.out Z z1 z2 z3)
      have HL3 := Lib.hid (show (P ++ (Z ++ S)).length = N by have := HPX.out.1; have h2 := hL.out; rw [this] at h2; simp only [List.length_append] at h2 ⊢; omega)
      clear z1 z2 z3
      go_wp2_with fail
      go_round
      case rel => exact ⟨a + 20, _, by first | rfl | go_num, by first | rfl | go_num, by omega, HS3, HL3, hF3, only_trans hg hg3⟩
      case measure => simp [intOf]; omega
    · obtain ⟨P, X, S, hrow, hP, hX, _, hgo⟩ := st1_part (n := N - a) hS.out (by rw [hL.out]; omega)
      have HGO := Lib.hid (hgo (by rw [hL.out]; omega) (by omega))
      have HPX := Lib.hid (And.intro hrow (And.intro hP hX))
      clear hgo hrow hP hX hS
      go_wp2_with fail
      (with_reducible refine (insertion_is g cap N _ _ a N P X S row _ rfl rfl HPX.out.1 hL.out hmx HPX.out.2.1 (by have := HPX.out.2.2; omega) hF).mono ?_)
      rintro e w3 ⟨rfl, ⟨Z, z1, z2, z3, hF3⟩, hg3⟩
      have HS3 := Lib.hid (HGO.out Z z1 z2 z3)
      have HL3 := Lib.hid (show (P ++ (Z ++ S)).length = N by have := HPX.out.1; have h2 := hL.out; rw [this] at h2; simp only [List.length_append] at h2 ⊢; omega)
      have hg4 := only_trans hg hg3
      generalize P ++ (Z ++ S) = row3 at *
      clear z1 z2 z3 HGO HPX hg hg3 hF hL
      go_wp2_with fail
      go_loopw [6] (fun vn wr2 => ∃ (n : Nat) (row2 : List Fl), vn = .int .i64 n ∧ 20 ≤ n ∧ n ≤ 2000 ∧ Hid (St2 l n row2) ∧ Hid (row2.length = N) ∧ FRow wr2 g row2 ∧ w.grownBy wr2 (some g)) (fun vn _ => 4000 - (intOf vn).toNat)
      case atStart => exact ⟨20, row3, rfl, by omega, by omega, HS3, HL3, hF3, hg4⟩
      case round =>
        clear HS3 HL3 hF3 hg4
        obtain ⟨n, row2, rfl, hn20, hn2, hS2, hL2, hF2, hg2⟩ := hrel
        by_cases hlt2 : (n : Int) < (N : Int)
        · have HS0 := Lib.hid (st3_start hS2.out)
          have w2 : IntKind.i64.wrap (2 * (n : Int)) = 2 * (n : Int) := by rw [IntKind.wrap_i64]; omega
          have w2' : IntKind.i64.wrap ((n : Int) * 2) = (n : Int) * 2 := by rw [IntKind.wrap_i64]; omega
          clear hS2
          go_wp2_with fail
          go_loopw [7, 8] (fun va vb wr3 => ∃ (a2 : Nat) (row4 : List Fl), va = .int .i64 a2 ∧ vb = .int .i64 ((a2 : Int) + 2 * (n : Int)) ∧ a2 ≤ N ∧ Hid (St3 l n a2 row4) ∧ Hid (row4.length = N) ∧ FRow wr3 g row4 ∧ w.grownBy wr3 (some g)) (fun va _ _ => N - (intOf va).toNat)
          case atStart => exact ⟨0, row2, rfl, by first | rfl | go_num | (congr 1; omega), by omega, HS0, hL2, hF2, hg2⟩
          case round =>
            clear HS0 hL2 hF2 hg2
            obtain ⟨a2, row4, rfl, rfl, haN2, hS4, hL4, hF4, hg4⟩ := hrel
            have v1 : IntKind.i64.wrap ((a2 : Int) + (n : Int)) = (a2 : Int) + (n : Int) := by rw [IntKind.wrap_i64]; omega
            have v2 : IntKind.i64.wrap ((a2 : Int) + 2 * (n : Int) + 2 * (n : Int)) = (a2 : Int) + 2 * (n : Int) + 2 * (n : Int) := by rw [IntKind.wrap_i64]; omega
            by_cases hlt3 : (a2 : Int) + 2 * (n : Int) ≤ (N : Int)
            · obtain ⟨P4, X4, Y4, S4, e1, e2, e3, e4, s1, s2, hgo⟩ := st3_two hS4.out (by rw [hL4.out]; omega)
              have HE := Lib.hid (And.intro e1 (And.intro e2 (And.intro e3 (And.intro e4 (And.intro s1 s2)))))
              have HGO := Lib.hid hgo
              clear e1 e2 e3 e4 s1 s2 hgo hS4
              go_wp2_with fail
              (with_reducible refine ((sym_all (2 * n)).use g cap N _ _ _ a2 (a2 + n) (a2 + 2 * n) P4 X4 Y4 S4 row4 _ rfl (by omega) (by omega) HE.out.1 hL4.out hmx HE.out.2.1 (by have := HE.out.2.2.1; omega) (by have := HE.out.2.2.2.1; omega) (by have := HE.out.2.2.1; omega) (by have := HE.out.2.2.2.1; omega) (by have := HE.out.2.2.1; have := HE.out.2.2.2.1; omega) HE.out.2.2.2.2.1 HE.out.2.2.2.2.2 hF4).mono ?_)
              rintro e w5 ⟨rfl, ⟨Z4, z1, z2, z3, hF5⟩, hg5⟩
              have HS5 := Lib.hid (HGO.out Z4 z1 z2 z3)
              have HL5 := Lib.hid (show (P4 ++ (Z4 ++ S4)).length = N by have := HE.out.1; have h2 := hL4.out; rw [this] at h2; simp only [List.length_append] at h2 z1 ⊢; omega)
              clear z1 z2 z3
              go_wp2_with fail
              go_round
              case rel => exact ⟨a2 + 2 * n, _, by first | rfl | go_num | (congr 1; omega), by first | rfl | go_num | (congr 1; omega), by omega, HS5, HL5, hF5, only_trans hg4 hg5⟩
              case measure => simp [intOf]; omega
            · by_cases hlt4 : (a2 : Int) + (n : Int) < (N : Int)
              · obtain ⟨P4, X4, Y4, e1, e2, e3, e4, e5, s1, s2, hgo⟩ := st3_last hS4.out (by rw [hL4.out]; omega) (by omega) (by rw [hL4.out]; omega)
                have HE := Lib.hid (And.intro e1 (And.intro e2 (And.intro e3 (And.intro e4 (And.intro e5 (And.intro s1 s2))))))
                have HGO := Lib.hid hgo
                clear e1 e2 e3 e4 e5 s1 s2 hgo hS4
                go_wp2_with fail
                (with_reducible refine ((sym_all (2 * n)).use g cap N _ _ _ a2 (a2 + n) N P4 X4 Y4 [] row4 _ rfl (by omega) rfl HE.out.1 hL4.out hmx HE.out.2.1 (by have := HE.out.2.2.1; omega) (by have := HE.out.2.2.2.2.1; have := hL4.out; omega) (by have := HE.out.2.2.1; omega) HE.out.2.2.2.1 (by have := HE.out.2.2.1; have := HE.out.2.2.2.2.1; have := hL4.out; omega) HE.out.2.2.2.2.2.1 HE.out.2.2.2.2.2.2 hF4).mono ?_)
                rintro e w5 ⟨rfl, ⟨Z4, z1, z2, z3, hF5⟩, hg5⟩
                have HS5 := Lib.hid (HGO.out Z4 z1 z2 z3)
                have HL5 := Lib.hid (show (P4 ++ (Z4 ++ [])).length = N by have := HE.out.1; have h2 := hL4.out; rw [this] at h2; simp only [List.length_append] at h2 z1 ⊢; omega)
                clear z1 z2 z3
                go_wp2_with fail
                go_round
                case rel => exact ⟨2 * n, _, by first | rfl | go_num | (congr 1; omega), by omega, by omega, HS5, HL5, hF5, only_trans hg4 hg5⟩
                case measure => simp [intOf]; omega
              · have HS5 := Lib.hid (st3_done hS4.out (by omega) (by rw [hL4.out]; omega))
                clear hS4
                go_wp2_with fail
                go_round
                case rel => exact ⟨2 * n, _, by first | rfl | go_num | (congr 1; omega), by omega, by omega, HS5, hL4, hF4, hg4⟩
                case measure => simp [intOf]; omega
        · have hE := st2_end hS2.out (by rw [hL2.out]; omega)
          have HE := Lib.hid hE
          clear hE hS2
          go_wp2_with fail
          go_end0
          exact ⟨rfl, ⟨row2, HE.out.1, HE.out.2.1, HE.out.2.2, by simpa using hF2⟩, hg2⟩

set_option maxRecDepth 20000 in
/-- The whole sort, at a row of a call's own. -/
theorem sortStable_any (g cap N : Nat) (l : List Fl) (w : World) (hN : l.length = N) (hmx : N ≤ 1000) (hr : FRow w g l) :
    Calls Try.prog 28 #[.slice (some ⟨g, 0, none⟩) N cap, .func (.func 29) #[] #[]] w (SortEnd w g [] l []) := by
  go_enter Try.func28, Try.ntmps28
  go_wp2_with fail
  (with_reducible refine (stable_any g cap N l _ hN hmx hr).mono ?_)
  rintro e w3 ⟨rfl, h3, hg3⟩
  go_wp2_with fail
  go_end0
  exact ⟨rfl, h3, hg3⟩
set_option maxRecDepth 20000 in
theorem insertion0_any (A : Option Addr) (cap : Nat) (fv : Value) (w : World) :
    Calls Try.prog 53 #[.slice A 0 cap, .int .i64 0, .int .i64 0, fv] w fun e w' => e = .returned (.tuple #[]) ∧ w' = w := by
  go_enter Try.func53, Try.ntmps53
  go_wp2_with fail
  go_loopw [8] (fun vi wr => vi = .int .i64 1 ∧ wr = w) (fun _ _ => 0)
  case atStart => exact ⟨rfl, rfl⟩
  case round =>
    obtain ⟨rfl, rfl⟩ := hrel
    go_wp2_with fail
    go_end0
    exact ⟨rfl, rfl⟩
set_option maxRecDepth 20000 in
theorem stable0_any (A : Option Addr) (cap : Nat) (fv : Value) (w : World) :
    Calls Try.prog 45 #[.slice A 0 cap, .int .i64 0, fv] w fun e w' => e = .returned (.tuple #[]) ∧ w' = w := by
  go_enter Try.func45, Try.ntmps45
  go_wp2_with fail
  go_loopw [7, 8] (fun va vb wr => va = .int .i64 0 ∧ vb = .int .i64 20 ∧ wr = w) (fun _ _ _ => 0)
  case atStart => exact ⟨rfl, rfl, rfl⟩
  case round =>
    obtain ⟨rfl, rfl, rfl⟩ := hrel
    go_wp2_with fail
    (with_reducible refine (insertion0_any A cap fv _).mono ?_)
    rintro e w3 ⟨rfl, rfl⟩
    go_wp2_with fail
    go_loopw [6] (fun vn wr2 => vn = .int .i64 20 ∧ wr2 = w3) (fun _ _ => 0)
    case atStart => exact ⟨rfl, rfl⟩
    case round =>
      obtain ⟨rfl, rfl⟩ := hrel
      go_wp2_with fail
      go_end0
      exact ⟨rfl, rfl⟩
set_option maxRecDepth 20000 in
theorem sortStable0_any (A : Option Addr) (cap : Nat) (fv : Value) (w : World) :
    Calls Try.prog 28 #[.slice A 0 cap, fv] w fun e w' => e = .returned (.tuple #[]) ∧ w' = w := by
  go_enter Try.func28, Try.ntmps28
  go_wp2_with fail
  (with_reducible refine (stable0_any A cap fv _).mono ?_)
  rintro e w3 ⟨rfl, rfl⟩
  go_wp2_with fail
  go_end0
  exact ⟨rfl, rfl⟩
end Go.Proofs.Ytbgnbkomckbckaa
