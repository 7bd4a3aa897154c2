/-
  The reference's Take. Printed by genFmZ.py.
-/
import Derived.Test.YtbgnbkomckbckaaFmY
import Derived.Test.YtbgnbkomckbckaaFmS
namespace Go.Proofs.Ytbgnbkomckbckaa
open Go.RowKit Go.Sort

theorem takeTextR_is (s a b : ByteArray) (most k : Int) (h : takeT s.toList most = (a.toList, b.toList, k)) (w : World) (hs : s.size ≤ 9223372036854775807) :
    Calls Try.prog 35 #[.string s, .int .i64 most] w fun e w' => e = .returned (.tuple #[.string a, .string b, .int .i64 k]) ∧ Below w.heap.size w w' :=
  (takeTextRef_any s most w hs).mono fun e w' ⟨he, hb⟩ => ⟨by unfold TextEnd at he; rw [he, h]; simp only [ofL_toList], hb⟩

set_option maxRecDepth 20000 in
set_option maxHeartbeats 8000000 in
theorem rtake_any (s0 : ByteArray) (X : Int × List Fl) (hX : takeFl s0.toList = X) (w : World) (hs : s0.size ≤ 100000000) :
    Calls Try.prog 18 #[.string s0] w (TakeFEnd X w) := by
  rcases h : takeN s0.toList with _ | ⟨n, r⟩
  · have HE := Lib.hid (show X = (2, []) by rw [← hX]; unfold takeFl; rw [h])
    have H := Lib.hid h
    clear h hX
    go_enter Try.func18, Try.ntmps18
    go_wp2_with fail
    (with_reducible refine (takeRef_none s0 _ (by omega) H.out).mono ?_)
    rintro e w1 ⟨rfl, hb1⟩
    go_wp2_with fail
    go_ret2
    exact TakeFEnd.nil HE.out hb1
  · obtain ⟨s1, hs1⟩ : ∃ s1, ofL r = s1 := ⟨_, rfl⟩
    have hs1r : s1.toList = r := by rw [← hs1, toList_ofL]
    have hs1z : s1.size ≤ 100000000 := by
      have h9 := congrArg List.length (takeN_some _ _ _ h).1
      rw [List.length_append, size_toList] at h9
      rw [← size_toList, hs1r]
      omega
    have H := Lib.hid h
    have HS1 := Lib.hid hs1
    have HNB := Lib.hid (takeN_some _ _ _ h).2
    by_cases h64 : (64 : Int) < (n : Int)
    · have HE := Lib.hid (show X = (3, []) by rw [← hX]; unfold takeFl; rw [h]; simp only; rw [if_pos (by omega)])
      clear h hX hs1 hs1r
      go_enter Try.func18, Try.ntmps18
      go_wp2_with fail
      (with_reducible refine (takeRef_some s0 _ (by omega) n r H.out).mono ?_)
      rw [HS1.out]
      rintro e w1 ⟨rfl, hb1⟩
      go_wp2_with fail
      go_ret2
      exact TakeFEnd.nil HE.out hb1
    · have HT0 := Lib.hid (show TkRel X 0 n s1 [] from ⟨fun h => absurd rfl h, fun _ => by rw [← hX, hs1r]; unfold takeFl; rw [h]; simp only; rw [if_neg (by omega)]⟩)
      clear h hX hs1 hs1r
      go_enter Try.func18, Try.ntmps18
      go_wp2_with fail
      (with_reducible refine (takeRef_some s0 _ (by omega) n r H.out).mono ?_)
      rw [HS1.out]
      rintro e w1 ⟨rfl, hb1⟩
      go_wp2_with fail
      go_loopw [5, 7, 8] (fun vs vl vi wr => ∃ (i m : Nat) (s : ByteArray) (l : List Fl) (v : Value), vi = .int .i64 i ∧ vs = .string s ∧ vl = v ∧ i + m = n ∧ s.size ≤ 100000000 ∧ wr.ownsRow w.heap.size 41 2 v i (fl l) ∧ Hid (LenS l i) ∧ Hid (TkRel X 0 m s l) ∧ Below w.heap.size w wr) (fun _ _ vi _ => n - (intOf vi).toNat)
      case atStart => exact ⟨0, n, s1, [], _, rfl, rfl, rfl, by omega, hs1z, World.ownsRow_nil _ _ _ _, Lib.hid ⟨rfl, by simp⟩, HT0, hb1⟩
      case round =>
        clear hb1 H HS1 HNB HT0 hs1z
        obtain ⟨i, m, s, l, v, rfl, rfl, rfl, him, hsz, hown, HL, HT, hb⟩ := hrel
        have Hown := Lib.hid hown
        obtain ⟨_, A1, c1, hv, hq1, hq2, hq3⟩ := Sl.own hown
        subst hv
        have HR := Lib.hid hq3
        clear hq3
        by_cases hlt : (i : Int) < (n : Int)
        · obtain ⟨m, rfl⟩ : ∃ q, m = q + 1 := ⟨m - 1, by omega⟩
          obtain ⟨a, b, k, h1, ha, hbz⟩ := takeT_some s 4096
          have H1 := Lib.hid h1
          clear h1
          go_wp2_with fail
          (with_reducible refine (takeTextR_is s a b 4096 k H1.out _ (by omega)).mono ?_)
          rintro e w5 ⟨rfl, hb5⟩
          by_cases hk : k = 0
          · subst hk
            obtain ⟨d, s2, k2, h2, hdz, hs2z⟩ := takeT_some b 1048576
            have H2 := Lib.hid h2
            clear h2
            go_wp2_with fail
            (with_reducible refine (takeTextR_is b d s2 1048576 k2 H2.out _ (by omega)).mono ?_)
            rintro e w7 ⟨rfl, hb7⟩
            have hbR7 := bl hb5 hb7
            clear hb5 hb7
            by_cases hk2 : k2 = 0
            · subst hk2
              have HL2 := Lib.hid (HL.out.snoc (a := a) (d := d) (by omega) (by omega))
              rcases okP_two a with hkp | hkp
              · have HKP := Lib.hid hkp
                have HM := Lib.hid (may_is a true (by rw [hkp]; rfl))
                clear hkp
                go_wp2_with fail
                (with_reducible refine (HM.out _ (by omega)).mono ?_)
                rintro e w8 ⟨rfl, hb8⟩
                have hbR8 := bl hbR7 hb8
                clear hbR7 hb8
                rcases Nat.eq_zero_or_pos i with rfl | hLp
                · have HT2 : Hid (TkRel X 0 m s2 (l ++ [(a, d)])) := Lib.hid (tk_next HT.out H1.out H2.out HKP.out (by rw [List.eq_nil_of_length_eq_zero (LenS.len HL.out)]; simp))
                  have hown9 := own_below hown hbR8
                  have hbb9 := bl hb hbR8
                  have hz9 := hbb9.size
                  clear hown hbR8
                  go_wp2_with (at_builtin; go_must (refine wpList_append_new w8 rfl (.tmp 65) (.tmp 69) 22 rfl w.heap.size 41 2 32 el_file _ _ _ hown9 rfl _ rfl rfl (by intro u hu; simp at hu; rcases hu with rfl | rfl <;> rfl) (by unfold maxLen; omega) (by omega) hz9 ?_); intro v10 w10 hown10 hb10)
                  have hown11 : w10.ownsRow w.heap.size 41 2 v10 (0 + 1) (fl (l ++ [(a, d)])) := by rw [fl_app]; exact hown10
                  have hb11 := hbb9.trans hb10
                  go_round
                  case rel => exact ⟨0 + 1, m, s2, l ++ [(a, d)], v10, by first | rfl | go_num, rfl, rfl, by omega, by omega, hown11, HL2, HT2, hb11⟩
                  case measure => simp [intOf]; omega
                · obtain ⟨g, cg, ev, _, _, hg, hF⟩ := FRow.own hown hLp
                  simp only [Value.slice.injEq] at ev
                  obtain ⟨rfl, -, rfl⟩ := ev
                  obtain ⟨q, rfl⟩ : ∃ q, i = q + 1 := ⟨i - 1, by omega⟩
                  obtain ⟨y, hy⟩ : ∃ y, l[q]? = some y := ⟨_, getD_some (by rw [LenS.len HL.out]; omega)⟩
                  have hyz := (LenS.sz HL.out y (List.mem_of_getElem? hy)).1
                  obtain ⟨yp, yd⟩ := y
                  have hyz' : yp.size ≤ 100000000 := hyz
                  have hF8 := hF.below' hbR8
                  obtain ⟨y0, y1⟩ := hF8.cell hy
                  have HGL := Lib.hid (show l.getLast? = some (yp, yd) by rw [List.getLast?_eq_getElem?, LenS.len HL.out]; exact hy)
                  have hwq : IntKind.i64.wrap (q : Int) = (q : Int) := by rw [IntKind.wrap_i64]; omega
                  have hq0 : (0 : Int) ≤ (q : Int) := by omega
                  have hq1' : (q : Int) < ((q : Int) + 1) := by omega
                  obtain ⟨c, hc⟩ : ∃ c, cmpB yp a = c := ⟨_, rfl⟩
                  have HC := Lib.hid hc
                  have hcl := ltF_cmp (yp, yd) (a, d)
                  rw [show cmpB (yp, yd).1 (a, d).1 = c from hc] at hcl
                  have HCL := Lib.hid hcl
                  clear hc hcl hF hy hLp y1 hF8 hg hyz
                  by_cases hc0 : c < 0
                  · have HT2 : Hid (TkRel X 0 m s2 (l ++ [(a, d)])) := Lib.hid (tk_next HT.out H1.out H2.out HKP.out (by rw [HGL.out]; intro y hy; cases hy; exact HCL.out.1 hc0))
                    go_wp2_with fail
                    (with_reducible refine (compareR_is yp a c HC.out (by omega) (by omega) _).mono ?_)
                    rintro e w9 ⟨rfl, hb9⟩
                    have hbR9 := bl hbR8 hb9
                    clear hbR8 hb9 y0
                    have hbR8 := hbR9
                    clear hbR9
                    have hown9 := own_below hown hbR8
                    have hbb9 := bl hb hbR8
                    have hz9 := hbb9.size
                    clear hown hbR8
                    go_wp2_with (at_builtin; go_must (refine wpList_append_new w9 rfl (.tmp 65) (.tmp 69) 22 rfl w.heap.size 41 2 32 el_file _ _ _ hown9 rfl _ rfl rfl (by intro u hu; simp at hu; rcases hu with rfl | rfl <;> rfl) (by unfold maxLen; omega) (by omega) hz9 ?_); intro v10 w10 hown10 hb10)
                    have hown11 : w10.ownsRow w.heap.size 41 2 v10 (q + 1 + 1) (fl (l ++ [(a, d)])) := by rw [fl_app]; exact hown10
                    have hb11 := hbb9.trans hb10
                    go_round
                    case rel => exact ⟨q + 1 + 1, m, s2, l ++ [(a, d)], v10, by first | rfl | go_num, rfl, rfl, by omega, by omega, hown11, HL2, HT2, hb11⟩
                    case measure => simp [intOf]; omega
                  · have HE : Hid (X = (2, [])) := Lib.hid ((tk_order HT.out H1.out H2.out HKP.out HGL.out (fun h => hc0 (HCL.out.2 h)) []).1 (by decide))
                    go_wp2_with fail
                    (with_reducible refine (compareR_is yp a c HC.out (by omega) (by omega) _).mono ?_)
                    rintro e w9 ⟨rfl, hb9⟩
                    have hbE := bl hb (bl hbR8 hb9)
                    go_wp2_with fail
                    go_ret2
                    exact TakeFEnd.nil HE.out hbE
              · have HM := Lib.hid (may_is a false (by rw [hkp]; rfl))
                have HE : Hid (X = (5, [])) := Lib.hid ((tk_path HT.out H1.out H2.out hkp []).1 (by decide))
                clear hkp
                go_wp2_with fail
                (with_reducible refine (HM.out _ (by omega)).mono ?_)
                rintro e w8 ⟨rfl, hb8⟩
                have hbE := bl hb (bl hbR7 hb8)
                go_wp2_with fail
                go_ret2
                exact TakeFEnd.nil HE.out hbE
            · have HE := Lib.hid (tk_bad2 HT.out H1.out H2.out hk2)
              have hk0 : (k2 == 0) = false := by simp [hk2]
              have hbE := bl hb hbR7
              clear hk2
              go_wp2_with fail
              go_ret2
              exact TakeFEnd.nil HE.out hbE
          · have HE := Lib.hid (tk_bad1 HT.out H1.out hk)
            have hk0 : (k == 0) = false := by simp [hk]
            have hbE := bl hb hb5
            clear hk
            go_wp2_with fail
            go_ret2
            exact TakeFEnd.nil HE.out hbE
        · obtain rfl : m = 0 := by omega
          have HX := Lib.hid (HT.out.2 rfl)
          by_cases hse : s.toList = []
          · have hse' : s.size = 0 := by rw [← size_toList, hse]; rfl
            obtain ⟨k, hk⟩ : ∃ k, checkF l = k := ⟨_, rfl⟩
            have HK := Lib.hid hk
            have HSE := Lib.hid hse
            clear hk hse
            go_wp2_with fail
            (with_reducible refine (rcheck_any l A1 i c1 k HK.out (LenS.len HL.out) (by omega) (LenS.sz HL.out) _ HR.out).mono ?_)
            rintro e w5 ⟨rfl, hb5⟩
            have hbE := bl hb hb5
            have hr5 := Lib.hid (HR.out.below hb5)
            by_cases hk : k = 0
            · subst hk
              have HE := Lib.hid (show X = (0, l) by rw [HX.out, tkF]; unfold fin; simp only; rw [if_neg (by simp), if_neg (by rw [HSE.out]; simp), if_neg (by rw [HK.out]; simp)])
              go_wp2_with fail
              go_ret2
              exact TakeFEnd.good HE.out (LenS.len HL.out) hq1 hq2 hr5.out hbE
            · have HE := Lib.hid (show X = (k, []) by rw [HX.out, tkF]; unfold fin; simp only; rw [if_neg (by simp), if_neg (by rw [HSE.out]; simp), if_pos (by rw [HK.out]; exact hk), HK.out])
              have hk0 : (k == 0) = false := by simp [hk]
              clear hk
              go_wp2_with fail
              go_ret2
              exact TakeFEnd.nil HE.out hbE
          · have hse' : (0 : Int) < (s.size : Int) := by
              have h9 : s.toList.length ≠ 0 := fun h0 => hse (List.eq_nil_of_length_eq_zero h0)
              rw [size_toList] at h9
              omega
            have HE := Lib.hid (show X = (2, []) by rw [HX.out, tkF]; unfold fin; simp only; rw [if_neg (by simp), if_pos hse])
            clear hse
            go_wp2_with fail
            go_ret2
            exact TakeFEnd.nil HE.out hb
end Go.Proofs.Ytbgnbkomckbckaa
