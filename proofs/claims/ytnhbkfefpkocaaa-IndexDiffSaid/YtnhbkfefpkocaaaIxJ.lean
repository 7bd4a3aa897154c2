/-
  The reference's put.
-/
import Derived.Test.YtnhbkfefpkocaaaIxI
namespace Go.Proofs.Ytnhbkfefpkocaaa
open Go.RowKit Go.Sort

theorem cells_one (x : It) : ∀ u ∈ (#[.string x.p, .int .i64 x.id, .int .i64 x.sz, .string x.sm] : Array Value).toList, u.oneCell' = true := fun u hu => by
  simp at hu
  rcases hu with rfl | rfl | rfl | rfl <;> rfl
theorem compareRX_is (a b : ByteArray) (c : Int) (h : cmpB a b = c) (w : World) (ha : a.size ≤ 100000000) (hb : b.size ≤ 100000000) :
    Calls Try.prog 53 #[.string a, .string b] w fun e w' => e = .returned (.int .i64 c) ∧ Below w.heap.size w w' := by subst h; exact compareR_any a b w ha hb
theorem ownI_app {w : World} {base : Nat} {v : Value} {O : List It} {x : It} {n : Nat} (hn : O.length = n) (h : w.ownsRow base 46 4 v (n + 1) (itf O ++ (#[.string x.p, .int .i64 x.id, .int .i64 x.sz, .string x.sm] : Array Value).toList)) : w.ownsRow base 46 4 v (O ++ [x]).length (itf (O ++ [x])) := by
  rw [List.length_append, hn, itf_app]
  exact h
set_option maxRecDepth 20000 in
set_option maxHeartbeats 4000000 in
theorem rput_any (l : List It) (A : Option Addr) (n c : Nat) (hn : l.length = n) (hl : n ≤ 1000000) (hz : ∀ y ∈ l, y.p.size ≤ 100000000) (x : It) (hx : x.p.size ≤ 100000000) (w : World) (hr : Rd w A (itf l)) :
    Calls Try.prog 59 #[.slice A n c, .agg #[.string x.p, .int .i64 x.id, .int .i64 x.sz, .string x.sm]] w fun e w' => RetS w (putR l x).length (itf (putR l x)) e w' := by
  have HN := Lib.hid (And.intro hn trivial)
  have HZ := Lib.hid hz
  have HR := Lib.hid hr
  clear hn hz hr
  have hb0 := (Below.refl (w.heap.size + 1) (w.alloc (.cells #[.string x.p, .int .i64 x.id, .int .i64 x.sz, .string x.sm] 46)))
  have hbw := (Below.refl w.heap.size w).alloc (Nat.le_refl _) (.cells #[.string x.p, .int .i64 x.id, .int .i64 x.sz, .string x.sm] 46)
  have hk := Bk.new w 46 #[.string x.p, .int .i64 x.id, .int .i64 x.sz, .string x.sm]
  have hsz : (w.alloc (.cells #[.string x.p, .int .i64 x.id, .int .i64 x.sz, .string x.sm] 46)).heap.size = w.heap.size + 1 := by simp
  have HB := Lib.hid (And.intro hbw (And.intro hk (And.intro hsz hb0)))
  clear hbw hk hsz hb0
  go_enter Try.func59, Try.ntmps59
  go_wp2_with fail
  generalize w.alloc (.cells #[.string x.p, .int .i64 x.id, .int .i64 x.sz, .string x.sm] 46) = w1 at *
  go_loopw [5, 6, 7] (fun vo vd vi wr => ∃ (i : Nat) (st : List It × Bool), vi = .int .i64 (i : Nat) ∧ i ≤ n ∧ Hid ((l.take i).foldl (stepR x) ([], false) = st ∧ True) ∧ vd = .bool st.2 ∧ Hid (wr.ownsRow (w.heap.size + 1) 46 4 vo st.1.length (itf st.1)) ∧ Hid (Below (w.heap.size + 1) w1 wr)) (fun _ _ vi _ => n - iOfI vi)
  case atStart => exact ⟨0, ([], false), rfl, by omega, Lib.hid ⟨by simp, trivial⟩, rfl, Lib.hid ⟨rfl, Or.inl ⟨rfl, rfl⟩⟩, Lib.hid HB.out.2.2.2⟩
  case round =>
    obtain ⟨i, ⟨O, d⟩, rfl, hi, HST, hvd, HO, HBL⟩ := hrel
    simp only at hvd HO
    subst hvd
    obtain ⟨m, hm⟩ : ∃ m, O.length = m := ⟨_, rfl⟩
    have hm2 : m ≤ 2 * n := by
      have := fold_len x l i
      rw [HST.out.1] at this
      simp only at this
      omega
    rw [hm] at HO
    have HM := Lib.hid (And.intro hm trivial)
    clear hm
    have hbw := HB.out.1.trans (HBL.out.mono (Nat.le_add_right _ 1))
    have hkx := HB.out.2.1.below HBL.out (by omega)
    have x0 := hkx.cell_ 0 (.string x.p) rfl
    have x1 := hkx.cell_ 1 (.int .i64 x.id) rfl
    have x2 := hkx.cell_ 2 (.int .i64 x.sz) rfl
    have x3 := hkx.cell_ 3 (.string x.sm) rfl
    have HW := Lib.hid (And.intro hbw hkx)
    have hszr : w.heap.size < wr.heap.size := hkx.lt
    clear hbw hkx
    by_cases hil : i < n
    · have hl1 : (i : Int) < (n : Int) := by omega
      obtain ⟨y, hy⟩ : ∃ y, l[i]? = some y := ⟨_, List.getElem?_eq_getElem (by rw [HN.out.1]; exact hil)⟩
      obtain ⟨b, o, rfl, hbl, r0, r1, r2, r3⟩ := (HR.out.below HW.out.1).item hy
      have hyz := HZ.out y (List.mem_of_getElem? hy)
      have HY := Lib.hid hy
      obtain ⟨k, hk⟩ : ∃ k, cmpB y.p x.p = k := ⟨_, rfl⟩
      have k1 := cmp_zero y.p x.p
      have k2 : 0 < k ↔ x.p.toList < y.p.toList := by
        have h1 := cmp_lt x.p y.p
        have h2 : cmpB x.p y.p = - cmpB y.p x.p := cb_swap _ _
        rw [← h1, h2, hk]
        omega
      rw [hk] at k1
      have HK := Lib.hid (And.intro hk (And.intro k1 k2))
      have HS0 : Hid (∀ w', Below wr.heap.size wr w' → Below wr.heap.size wr w' ∧ w'.cell? ⟨b, o + i * 4, none⟩ = some (.string y.p) ∧ w'.cell? ⟨w.heap.size, 0, none⟩ = some (.string x.p)) := Lib.hid fun w' h => ⟨h, (h.cell hbl).trans r0, (HW.out.2.below' h).cell_ 0 (.string x.p) rfl⟩
      clear hy hk k1 k2 x0 x1 x2 x3 r0 r1 r2 r3
      go_wp2_with fail
      go_region_held3 (fun w' => Below wr.heap.size wr w' ∧ w'.cell? ⟨b, o + i * 4, none⟩ = some (.string y.p) ∧ w'.cell? ⟨w.heap.size, 0, none⟩ = some (.string x.p))
        (first | with_reducible exact HS0.out _ (ka wr) | with_reducible exact HS0.out _ hX)
        (first | (go_at_call 53; (with_reducible refine (compareRX_is y.p x.p k HK.out.1 _ hyz hx).mono ?_); rintro e w3 ⟨rfl, hb3⟩; have hX := below_of_drew hb3))
      all_goals
        have HB3 := Lib.hid (HBL.out.trans (hX.mono (by have := HBL.out.size; have := HB.out.2.2.1; omega)))
        have hk3 := HW.out.2.below' hX
        have x0 := hk3.cell_ 0 (.string x.p) rfl
        have x1 := hk3.cell_ 1 (.int .i64 x.id) rfl
        have x2 := hk3.cell_ 2 (.int .i64 x.sz) rfl
        have x3 := hk3.cell_ 3 (.string x.sm) rfl
        have hl3 : w.heap.size < w3.heap.size := hk3.lt
        obtain ⟨b', o', hA, hbl', r0, r1, r2, r3⟩ := ((HR.out.below HW.out.1).below hX).item HY.out
        cases hA
        have HO3 := Lib.hid (own_belowI HO.out hX)
        have hsz3 : w.heap.size + 1 ≤ w3.heap.size := hl3
        have HR3 := Lib.hid (And.intro ((HR.out.below HW.out.1).below hX) hk3)
        clear hb3 hX hk3 HS0
        by_cases hk0 : k = 0
        · have hkb : (k == 0) = true := by simp [hk0]
          have hpp := HK.out.2.1.1 hk0
          by_cases hid : x.id < y.id
          · have hstep : stepR x (O, d) y = (O ++ [y], true) := by unfold stepR; rw [if_pos hpp, if_pos hid]
            have HSTP := Lib.hid (And.intro hstep trivial)
            clear hstep hpp
            go_wp2_with fail
            go_quiet (fail)
            have HO4 : Hid ((w3.drewN nq).ownsRow (w.heap.size + 1) 46 4 u5 m (itf O)) := Lib.hid HO3.out
            have HB4 : Hid (Below (w.heap.size + 1) w1 (w3.drewN nq)) := Lib.hid (below_dnS HB3.out nq)
            have r0' : (w3.drewN nq).cell? ⟨b, o + i * 4, none⟩ = some (.string y.p) := r0
            have r1' : (w3.drewN nq).cell? ⟨b, o + i * 4 + 1, none⟩ = some (.int .i64 y.id) := r1
            have r2' : (w3.drewN nq).cell? ⟨b, o + i * 4 + 2, none⟩ = some (.int .i64 y.sz) := r2
            have r3' : (w3.drewN nq).cell? ⟨b, o + i * 4 + 3, none⟩ = some (.string y.sm) := r3
            have hs4 : w.heap.size + 1 ≤ (w3.drewN nq).heap.size := hsz3
            clear r0 r1 r2 r3 x0 x1 x2 x3 HO3 HB3 HR3 hl3 hsz3
            generalize w3.drewN nq = w4 at *
            go_wp2_with (at_builtin; go_must (refine wpList_append_new _ rfl (.tmp 33) (.tmp 38) 23 rfl (w.heap.size + 1) 46 4 48 el_item _ _ _ HO4.out (by rfl) _ (by rfl) rfl (cells_one _) (by unfold maxLen; omega) (by omega) hs4 ?_); intro v5 w5 ho5 hb5)
            have ho6 := ownI_app HM.out.1 ho5
            go_round
            case rel => exact ⟨i + 1, (O ++ [y], true), by first | rfl | go_num, by omega, Lib.hid ⟨by rw [fold_take x l i y HY.out, HST.out.1, HSTP.out.1], trivial⟩, rfl, Lib.hid ho6, Lib.hid (HB4.out.trans hb5)⟩
            case measure => simp [iOfI]; omega
          · have hstep : stepR x (O, d) y = (O ++ [x], true) := by unfold stepR; rw [if_pos hpp, if_neg hid]
            have HSTP := Lib.hid (And.intro hstep trivial)
            clear hstep hpp
            go_wp2_with fail
            go_quiet (fail)
            have HO4 : Hid ((w3.drewN nq).ownsRow (w.heap.size + 1) 46 4 u5 m (itf O)) := Lib.hid HO3.out
            have HB4 : Hid (Below (w.heap.size + 1) w1 (w3.drewN nq)) := Lib.hid (below_dnS HB3.out nq)
            have y0' : (w3.drewN nq).cell? ⟨w.heap.size, 0, none⟩ = some (.string x.p) := x0
            have y1' : (w3.drewN nq).cell? ⟨w.heap.size, 1, none⟩ = some (.int .i64 x.id) := x1
            have y2' : (w3.drewN nq).cell? ⟨w.heap.size, 2, none⟩ = some (.int .i64 x.sz) := x2
            have y3' : (w3.drewN nq).cell? ⟨w.heap.size, 3, none⟩ = some (.string x.sm) := x3
            have hs4 : w.heap.size + 1 ≤ (w3.drewN nq).heap.size := hsz3
            clear r0 r1 r2 r3 x0 x1 x2 x3 HO3 HB3 HR3 hl3 hsz3
            generalize w3.drewN nq = w4 at *
            go_wp2_with (at_builtin; go_must (refine wpList_append_new _ rfl (.tmp 40) (.tmp 42) 23 rfl (w.heap.size + 1) 46 4 48 el_item _ _ _ HO4.out (by rfl) _ (by rfl) rfl (cells_one _) (by unfold maxLen; omega) (by omega) hs4 ?_); intro v5 w5 ho5 hb5)
            have ho6 := ownI_app HM.out.1 ho5
            go_round
            case rel => exact ⟨i + 1, (O ++ [x], true), by first | rfl | go_num, by omega, Lib.hid ⟨by rw [fold_take x l i y HY.out, HST.out.1, HSTP.out.1], trivial⟩, rfl, Lib.hid ho6, Lib.hid (HB4.out.trans hb5)⟩
            case measure => simp [iOfI]; omega
        · have hkb : (k == 0) = false := by simp [hk0]
          have hpp : ¬ y.p = x.p := fun e => hk0 (HK.out.2.1.2 e)
          by_cases hpos : 0 < k ∧ d = false
          · obtain ⟨hp1, rfl⟩ := hpos
            have hstep : stepR x (O, false) y = (O ++ [x] ++ [y], true) := by unfold stepR; rw [if_neg hpp, if_pos ⟨HK.out.2.2.1 hp1, rfl⟩]
            have HSTP := Lib.hid (And.intro hstep trivial)
            clear hstep hpp
            have hm1 : (O ++ [x]).length = m + 1 := by rw [List.length_append, HM.out.1]; rfl
            have HM1 := Lib.hid (And.intro hm1 trivial)
            clear hm1 r0 r1 r2 r3
            go_wp2_with (at_builtin; go_must (first
              | (refine wpList_append_new _ rfl (.tmp 50) (.tmp 52) 23 rfl (w.heap.size + 1) 46 4 48 el_item _ _ _ HO3.out (by rfl) _ (by rfl) rfl (cells_one _) (by unfold maxLen; omega) (by omega) hsz3 ?_; intro v5 w5 ho5 hb5; have ho6 := Lib.hid (ownI_app HM.out.1 ho5); rw [HM1.out.1] at ho6; have HB5 := Lib.hid (HB3.out.trans hb5); have hs5 : w.heap.size + 1 ≤ w5.heap.size := Nat.le_trans hsz3 hb5.size; obtain ⟨b2, o2, hA2, _, s0, s1, s2, s3⟩ := (HR.out.below (HB.out.1.trans (HB5.out.mono (Nat.le_add_right _ 1)))).item HY.out; cases hA2)
              | (refine wpList_append_new _ rfl (.tmp 54) (.tmp 59) 23 rfl (w.heap.size + 1) 46 4 48 el_item _ _ _ ho6.out (by rfl) _ (by rfl) rfl (cells_one _) (by unfold maxLen; omega) (by omega) hs5 ?_; intro v7 w7 ho7 hb7)))
            have ho8 := ownI_app HM1.out.1 ho7
            go_round
            case rel => exact ⟨i + 1, (O ++ [x] ++ [y], true), by first | rfl | go_num, by omega, Lib.hid ⟨by rw [fold_take x l i y HY.out, HST.out.1, HSTP.out.1], trivial⟩, rfl, Lib.hid ho8, Lib.hid (HB5.out.trans hb7)⟩
            case measure => simp [iOfI]; omega
          · have hstep : stepR x (O, d) y = (O ++ [y], d) := by
              unfold stepR
              rw [if_neg hpp, if_neg (fun e => hpos ⟨HK.out.2.2.2 e.1, e.2⟩)]
            have HSTP := Lib.hid (And.intro hstep trivial)
            have hcase : (¬ 0 < k) ∨ (0 < k ∧ d = true) := by
              by_cases h1 : 0 < k
              · right
                refine ⟨h1, ?_⟩
                cases d with
                | true => rfl
                | false => exact absurd ⟨h1, rfl⟩ hpos
              · exact .inl h1
            clear hstep hpp hpos
            rcases hcase with hk1 | ⟨hk1, rfl⟩
            all_goals
              go_wp2_with (at_builtin; go_must (refine wpList_append_new _ rfl (.tmp 54) (.tmp 59) 23 rfl (w.heap.size + 1) 46 4 48 el_item _ _ _ HO3.out (by rfl) _ (by rfl) rfl (cells_one _) (by unfold maxLen; omega) (by omega) hsz3 ?_); intro v5 w5 ho5 hb5)
              have ho6 := ownI_app HM.out.1 ho5
              go_round
              case rel => exact ⟨i + 1, (O ++ [y], _), by first | rfl | go_num, by omega, Lib.hid ⟨by rw [fold_take x l i y HY.out, HST.out.1, HSTP.out.1], trivial⟩, rfl, Lib.hid ho6, Lib.hid (HB3.out.trans hb5)⟩
              case measure => simp [iOfI]; omega
    · obtain rfl : i = n := by omega
      have hfold : l.foldl (stepR x) ([], false) = (O, d) := by
        have := HST.out.1
        rwa [List.take_of_length_le (by rw [HN.out.1]; exact Nat.le_refl _)] at this
      have HF := Lib.hid (And.intro hfold trivial)
      clear hfold
      have hbase : w.heap.size + 1 ≤ wr.heap.size := hszr
      cases d with
      | true =>
        have hp : putR l x = O := by unfold putR; rw [HF.out.1]; rfl
        have HP := Lib.hid (And.intro hp trivial)
        obtain ⟨_, A2, c2, rfl, h1, h2, h3⟩ := Sl.own HO.out
        have H3 := Lib.hid h3
        clear hp h3
        go_wp2_with fail
        go_ret
        rw [HP.out.1, HM.out.1]
        exact ⟨A2, c2, rfl, h1, h2, H3.out, fun ad hA => by subst hA; have := (HO.out.lt ad.block rfl).1; omega, HW.out.1⟩
      | false =>
        have hp : putR l x = O ++ [x] := by unfold putR; rw [HF.out.1]; rfl
        have HP := Lib.hid (And.intro hp trivial)
        clear hp
        go_wp2_with (at_builtin; go_must (refine wpList_append_new _ rfl (.tmp 63) (.tmp 65) 23 rfl (w.heap.size + 1) 46 4 48 el_item _ _ _ HO.out (by rfl) _ (by rfl) rfl (cells_one _) (by unfold maxLen; omega) (by omega) hbase ?_); intro v5 w5 ho5 hb5)
        have ho6 := ownI_app HM.out.1 ho5
        obtain ⟨_, A2, c2, rfl, h1, h2, h3⟩ := Sl.own ho6
        have H3 := Lib.hid (And.intro h3 (And.intro ho6 (HBL.out.trans hb5)))
        clear h3 ho6 ho5 hb5
        go_wp2_with fail
        go_ret
        rw [HP.out.1]
        exact ⟨A2, c2, rfl, h1, h2, H3.out.1, fun ad hA => by subst hA; have := (H3.out.2.1.lt ad.block rfl).1; omega, HB.out.1.trans (H3.out.2.2.mono (Nat.le_add_right _ 1))⟩
end Go.Proofs.Ytnhbkfefpkocaaa
