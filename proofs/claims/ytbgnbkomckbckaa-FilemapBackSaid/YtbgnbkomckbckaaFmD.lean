/-
  slices.insertionSortCmpFunc at files; the comparing closure of filemap.Sort.
-/
import Derived.Test.YtbgnbkomckbckaaFmB
import Derived.Test.YtbgnbkomckbckaaFmP
import Derived.Shelf.SlSortCmp.QuietGrown
namespace Go.Proofs.Ytbgnbkomckbckaa
open Go.RowKit Go.Sort

theorem below_gr (w : World) (n : Nat) (os : Array Obj) : Below w.heap.size w (grow (w.drewN n) os) :=
  ⟨rfl, rfl, rfl, by show w.heap.size ≤ (w.heap ++ os).size; rw [Array.size_append]; omega, fun k hk => by show (w.heap ++ os)[k]? = w.heap[k]?; exact Array.getElem?_append_left hk⟩
set_option maxRecDepth 20000 in
theorem sort1_any (xp xd yp yd : ByteArray) (c : Int) (hc : cmpB xp yp = c) (w : World) :
    Calls Try.prog 29 #[.agg #[.string xp, .string xd], .agg #[.string yp, .string yd]] w fun e w' => e = .returned (.int .i64 c) ∧ ∃ q os', w' = grow (w.drewN q) os' := by
  have HC := Lib.hid hc
  clear hc
  go_enter Try.func29, Try.ntmps29
  go_wp2_with fail
  refine (compare_any xp yp _).mono ?_
  rw [HC.out]
  rintro e w1 ⟨rfl, rfl⟩
  go_wp2_with fail
  go_ret
  exact ⟨rfl, 0, _, by rw [alloc_eq_grow, alloc_eq_grow, grow_grow]; rfl⟩

/-- The cells of a file, in whatever world behind. -/
theorem FRow.cellG {w : World} {g : Nat} {l : List Fl} (h : FRow w g l) {i : Nat} {xp xd : ByteArray} (hx : l[i]? = some (xp, xd)) : (∀ n os, (grow (w.drewN n) os).cell? ⟨g, i * 2, none⟩ = some (.string xp)) ∧ ∀ n os, (grow (w.drewN n) os).cell? ⟨g, i * 2 + 1, none⟩ = some (.string xd) := by
  obtain ⟨h0, h1⟩ := h.cell hx
  exact ⟨fun n os => cell_grown h.lt h0 n os, fun n os => cell_grown h.lt h1 n os⟩
theorem sw_comm (l : List Fl) (i j : Nat) : sw l i j = sw l j i := by
  by_cases h : i = j
  · subst h; rfl
  · unfold sw
    rw [List.set_comm _ _ h]
theorem at_mid (A B : List Fl) (x : Fl) (i : Nat) (h : i = A.length) : (A ++ x :: B)[i]? = some x := by
  subst h
  rw [List.getElem?_append_right (Nat.le_refl _), Nat.sub_self]; rfl

/-- A part of a row of files is sorted, the rest is as it was. -/
def SortEnd (w : World) (g : Nat) (P X S : List Fl) (e : Ending) (w' : World) : Prop := e = .returned (.tuple #[]) ∧ (∃ Z, Z.length = X.length ∧ Srt Z ∧ Stab X Z ∧ FRow w' g (P ++ (Z ++ S))) ∧ w.grownBy w' (some g)

/-- The inner round: x on its way down. -/
def InnAt (P X S B : List Fl) (x : Fl) (a i j : Nat) (row : List Fl) : Prop := ∃ A1 A2 : List Fl, A1.length + a = j ∧ A1.length + A2.length + a = i ∧ Srt (A1 ++ A2) ∧ (∀ y ∈ A2, ltF x y) ∧ Stab X ((A1 ++ A2) ++ x :: B) ∧ (A1 ++ A2 ++ x :: B).length = X.length ∧ row = P ++ (A1 ++ x :: (A2 ++ (B ++ S)))
def OutAt (P X S : List Fl) (a i : Nat) (row : List Fl) : Prop := ∃ A B : List Fl, A.length + a = i ∧ Srt A ∧ Stab X (A ++ B) ∧ (A ++ B).length = X.length ∧ row = P ++ (A ++ (B ++ S))
theorem inn_start {P X S : List Fl} {a i : Nat} {row : List Fl} (h : OutAt P X S a i row) (hi : i < a + X.length) : ∃ x B, InnAt P X S B x a i i row := by
  obtain ⟨A, B, h1, h2, h3, h4, rfl⟩ := h
  cases B with
  | nil => simp only [List.append_nil] at h4; omega
  | cons x B => exact ⟨x, B, A, [], h1, by simpa using h1, by simpa using h2, by simp, by simpa using h3, by simpa using h4, by simp⟩
theorem inn_step {P X S B : List Fl} {x : Fl} {a i j : Nat} {row : List Fl} (h : InnAt P X S B x a i (j + 1) row) (hP : P.length = a) (hj : a < j + 1) : ∃ y, row[j + 1]? = some x ∧ row[j]? = some y ∧
    (ltF x y → InnAt P X S B x a i j (sw row (j + 1) j)) ∧ (¬ ltF x y → OutAt P X S a (i + 1) row) := by
  obtain ⟨A1, A2, h1, h2, h3, h4, h5, h6, rfl⟩ := h
  rcases List.eq_nil_or_concat A1 with rfl | ⟨A0, y, e0⟩
  · simp at h1; omega
  · rw [List.concat_eq_append] at e0
    subst e0
    simp only [List.length_append, List.length_cons, List.length_nil] at h1 h2 h6
    refine ⟨y, ?_, ?_, fun hlt => ?_, fun hlt => ?_⟩
    · rw [← List.append_assoc]; exact at_mid _ _ _ _ (by simp; omega)
    · rw [show P ++ (A0 ++ [y] ++ x :: (A2 ++ (B ++ S))) = (P ++ A0) ++ y :: (x :: (A2 ++ (B ++ S))) by simp]; exact at_mid _ _ _ _ (by simp; omega)
    · refine ⟨A0, y :: A2, by omega, by simp; omega, by simpa using h3, ?_, by simpa using h5, by simp; omega, ?_⟩
      · intro z hz
        rcases List.mem_cons.1 hz with rfl | hz
        · exact hlt
        · exact h4 z hz
      · have e := sw_app (P ++ A0) [] (A2 ++ (B ++ S)) y x j (j + 1) (by simp; omega) (by simp; omega)
        rw [sw_comm, show P ++ (A0 ++ [y] ++ x :: (A2 ++ (B ++ S))) = (P ++ A0) ++ y :: ([] ++ x :: (A2 ++ (B ++ S))) by simp, e]
        simp
    · have hl := ins_law h3 (x := x) (fun z hz => leF_trans (srt_last (srt_app.1 h3).1 z hz) hlt) h4
      refine ⟨A0 ++ [y] ++ x :: A2, B, by simp; omega, hl.1, ?_, by simp; omega, by simp⟩
      refine h5.trans ?_
      rw [show (A0 ++ [y] ++ A2) ++ x :: B = ((A0 ++ [y] ++ A2) ++ [x]) ++ B by simp]
      exact hl.2.app (Stab.rfl' B)
theorem inn_end {P X S B : List Fl} {x : Fl} {a i : Nat} {row : List Fl} (h : InnAt P X S B x a i a row) : OutAt P X S a (i + 1) row := by
  obtain ⟨A1, A2, h1, h2, h3, h4, h5, h6, rfl⟩ := h
  have : A1 = [] := List.eq_nil_of_length_eq_zero (by omega)
  subst this
  have hl := ins_law (A1 := []) h3 (x := x) (by simp) h4
  refine ⟨[] ++ x :: A2, B, by simp only [List.nil_append, List.length_cons, List.length_nil] at h2 ⊢; omega, hl.1, ?_, by simp only [List.length_append, List.length_cons, List.nil_append] at h6 ⊢; omega, by simp⟩
  refine h5.trans ?_
  rw [show ([] ++ A2) ++ x :: B = (([] ++ A2) ++ [x]) ++ B by simp]
  exact hl.2.app (Stab.rfl' B)
theorem inn_len {P X S B : List Fl} {x : Fl} {a i j : Nat} {row : List Fl} (h : InnAt P X S B x a i j row) : row.length = P.length + X.length + S.length ∧ j ≤ i ∧ i < a + X.length ∧ a ≤ j := by
  obtain ⟨A1, A2, h1, h2, _, _, _, h6, rfl⟩ := h
  simp only [List.length_append, List.length_cons] at h6 ⊢
  omega
theorem out_end {P X S : List Fl} {a i : Nat} {row : List Fl} (h : OutAt P X S a i row) (hi : a + X.length ≤ i) : ∃ Z, Z.length = X.length ∧ Srt Z ∧ Stab X Z ∧ row = P ++ (Z ++ S) := by
  obtain ⟨A, B, h1, h2, h3, h4, rfl⟩ := h
  rw [List.length_append] at h4
  have : B = [] := List.eq_nil_of_length_eq_zero (by omega)
  subst this
  exact ⟨A, by simpa using h4, h2, by simpa using h3, by simp⟩
theorem out_start (P X S : List Fl) (hX : X ≠ []) : OutAt P X S P.length (P.length + 1) (P ++ (X ++ S)) := by
  cases X with
  | nil => exact absurd rfl hX
  | cons x X => exact ⟨[x], X, by simp; omega, srt_one x, Stab.rfl' _, by simp, by simp⟩

set_option maxRecDepth 20000 in
set_option maxHeartbeats 8000000 in
theorem insertion_any (g cap N a b : Nat) (P X S : List Fl) (w : World) (hN : (P ++ (X ++ S)).length = N) (hm : N ≤ 1000) (ha : P.length = a) (hb : P.length + X.length = b) (hr : FRow w g (P ++ (X ++ S))) :
    Calls Try.prog 53 #[.slice (some ⟨g, 0, none⟩) N cap, .int .i64 a, .int .i64 b, .func (.func 29) #[] #[]] w (SortEnd w g P X S) := by
  have hbN : b ≤ N := by rw [← hN, ← hb]; simp only [List.length_append]; omega
  have hPN : P.length + X.length + S.length = N := by rw [← hN]; simp only [List.length_append]; omega
  have mixed : Try.prog.follows Departure.mixedOrders = true := by kernel_rfl
  have HP := Lib.hid ha
  have HB := Lib.hid hb
  have HN := Lib.hid hPN
  by_cases hX : X = []
  · have hab : b = a := by rw [← hb, ← ha, hX]; simp
    have hq : ¬ ((a : Int) + 1 < (b : Int)) := by omega
    have hw : IntKind.i64.wrap ((a : Int) + 1) = (a : Int) + 1 := by rw [IntKind.wrap_i64]; omega
    subst hX
    clear ha hb hN hPN
    go_enter Try.func53, Try.ntmps53
    go_wp2_with fail
    go_loopw [8] (fun vi wr => vi = .int .i64 ((a : Int) + 1) ∧ wr = w) (fun _ _ => 0)
    case atStart => exact ⟨rfl, rfl⟩
    case round =>
      obtain ⟨rfl, rfl⟩ := hrel
      go_wp2_with fail
      go_end0
      exact ⟨rfl, ⟨[], rfl, List.Pairwise.nil, Stab.rfl' _, hr⟩, only_refl _ _⟩
  · have HO := Lib.hid (show OutAt P X S a (a + 1) (P ++ (X ++ S)) by rw [← ha]; exact out_start P X S hX)
    have hlt : a < b := by
      have : 0 < X.length := List.length_pos_iff.2 hX
      omega
    have hw : IntKind.i64.wrap ((a : Int) + 1) = ((a + 1 : Nat) : Int) := by rw [IntKind.wrap_i64]; omega
    have HF := Lib.hid hr
    have HX := Lib.hid hX
    clear ha hb hN hPN hX hr
    go_enter Try.func53, Try.ntmps53
    go_wp2_with fail
    go_loopw [8] (fun vi wr => ∃ (i : Nat) (row : List Fl), vi = .int .i64 i ∧ a < i ∧ i ≤ b ∧ Hid (OutAt P X S a i row) ∧ FRow wr g row ∧ w.grownBy wr (some g)) (fun vi _ => b - (intOf vi).toNat)
    case atStart => exact ⟨a + 1, _, rfl, by omega, by omega, HO, HF.out, only_refl _ _⟩
    case round =>
      obtain ⟨i, row, rfl, hai, hib, hO, hF, hg⟩ := hrel
      by_cases hil : (i : Int) < (b : Int)
      · obtain ⟨x, B, hI⟩ := inn_start hO.out (by have := HB.out; have := HP.out; omega)
        have HI := Lib.hid hI
        clear hO hI
        go_wp2_with fail
        go_loopw [9] (fun vj wr2 => ∃ (j : Nat) (row2 : List Fl), vj = .int .i64 j ∧ a ≤ j ∧ j ≤ i ∧ Hid (InnAt P X S B x a i j row2) ∧ FRow wr2 g row2 ∧ w.grownBy wr2 (some g)) (fun vj _ => (intOf vj).toNat)
        case atStart => exact ⟨i, row, rfl, by omega, by omega, HI, hF, hg⟩
        case round =>
          clear HI hF hg
          obtain ⟨j, row2, rfl, haj, hji, hI, hF, hg⟩ := hrel
          by_cases hja : (a : Int) < (j : Int)
          · obtain ⟨jp, rfl⟩ : ∃ jp, j = jp + 1 := ⟨j - 1, by omega⟩
            obtain ⟨y, hx, hy, hgo, hst⟩ := inn_step hI.out HP.out (by omega)
            obtain ⟨xp, xd⟩ := x
            obtain ⟨yp, yd⟩ := y
            have hln := inn_len hI.out
            obtain ⟨c, hc⟩ : ∃ c, cmpB xp yp = c := ⟨_, rfl⟩
            have hwp : IntKind.i64.wrap (jp : Int) = (jp : Int) := by rw [IntKind.wrap_i64]; omega
            have jz : (jp : Int) + 1 < (N : Int) := by have := HN.out; have := HB.out; omega
            have jz1 : (jp : Int) < (N : Int) := by omega
            have hja' : (a : Int) < (jp : Int) + 1 := by omega
            have p0 : (0 : Int) ≤ (jp : Int) + 1 := by omega
            have e0 : ((jp : Int) + 1).toNat = jp + 1 := by omega
            obtain ⟨x0, x1⟩ := hF.cellG hx
            obtain ⟨y0, y1⟩ := hF.cellG hy
            have HC := Lib.hid hc
            have HX2 := Lib.hid hx
            have HY2 := Lib.hid hy
            by_cases hcl : c < 0
            · have HGO := Lib.hid (hgo (by rw [← ltF_cmp]; rw [hc]; exact hcl))
              clear hI hgo hst hln hc hx hy
              go_wp2_with fail
              go_quiet_grown (first | (go_at_call 29; refine Calls.grown_of (sort1_any xp xd yp yd c HC.out _)))
              go_wp2_with fail
              have hF3 := hF.below' (below_gr wr nq osq)
              have hg3 := only_trans hg (only_below (below_gr wr nq osq) g)
              clear hF hg x0 x1 y0 y1
              generalize grow (wr.drewN nq) osq = w3 at *
              obtain ⟨x0, x1⟩ := hF3.cell HX2.out
              obtain ⟨y0, y1⟩ := hF3.cell HY2.out
              have fx0 := hF3.free ((jp + 1) * 2)
              have fx1 := hF3.free ((jp + 1) * 2 + 1)
              have fy0 := hF3.free (jp * 2)
              have fy1 := hF3.free (jp * 2 + 1)
              have HF4 := Lib.hid (hF3.swp (jp + 1) jp HX2.out HY2.out)
              have HG4 := Lib.hid (only_trans hg3 (put4_only w3 g ((jp + 1) * 2) ((jp + 1) * 2 + 1) (jp * 2) (jp * 2 + 1) (.string yp) (.string yd) (.string xp) (.string xd)))
              have hne : (jp + 1) * 2 ≠ jp * 2 := by omega
              have hne1 : (jp + 1) * 2 + 1 ≠ jp * 2 := by omega
              have hne2 : (jp + 1) * 2 ≠ jp * 2 + 1 := by omega
              clear hF3 hg3
              go_big_region_o
              all_goals go_wp2_with fail
              go_round
              case rel => exact ⟨jp, _, by first | rfl | go_num, by omega, by omega, HGO, HF4.out, only_trans HG4.out (only_drew _ _)⟩
              case measure => simp [intOf]
            · have HST := Lib.hid (hst (by rw [← ltF_cmp]; rw [hc]; exact hcl))
              clear hI hgo hst hln hc hx hy
              go_wp2_with fail
              go_quiet_grown (first | (go_at_call 29; refine Calls.grown_of (sort1_any xp xd yp yd c HC.out _)))
              go_wp2_with fail
              go_round
              case rel => exact ⟨i + 1, row2, by first | rfl | go_num, by omega, by omega, HST, hF.below' (below_gr wr nq osq), only_trans hg (only_below (below_gr wr nq osq) g)⟩
              case measure => simp [intOf]; omega
          · obtain rfl : j = a := by omega
            have HE := Lib.hid (inn_end hI.out)
            clear hI
            go_wp2_with fail
            go_big_region_o
            all_goals go_wp2_with fail
            go_round
            case rel => exact ⟨i + 1, row2, by first | rfl | go_num, by omega, by omega, HE, hF, only_trans hg (only_drew _ _)⟩
            case measure => simp [intOf]; omega
      · have hE := out_end hO.out (by have := HB.out; have := HP.out; omega)
        obtain ⟨Z, z1, z2, z3, rfl⟩ := hE
        have HZ := Lib.hid (And.intro z1 (And.intro z2 z3))
        clear z1 z2 z3 hO
        go_wp2_with fail
        go_end0
        exact ⟨rfl, ⟨Z, HZ.out.1, HZ.out.2.1, HZ.out.2.2, hF⟩, hg⟩
end Go.Proofs.Ytbgnbkomckbckaa
