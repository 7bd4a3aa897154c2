/-
  May files be side by side: filemap.Check.
-/
import Derived.Test.YtbgnbkomckbckaaFmL
import Derived.Test.YtbgnbkomckbckaaPathD
namespace Go.Proofs.Ytbgnbkomckbckaa
open Go.RowKit

/-- A file whose path is another's, or in its folder. -/
def bad (x y : Fl) : Bool := decide (x.1 = y.1) || und x.1.toList y.1.toList
def two (x y : Fl) : Bool := bad y x || bad x y
def clashAny : List Fl → Bool
  | [] => false
  | x :: l => l.any (two x) || clashAny l
def chk1 : List Fl → Int
  | [] => 0
  | x :: l => if okP x.1 = 0 then (if 1048576 < x.2.size then 3 else chk1 l) else 5
def checkF (l : List Fl) : Int := if 64 < l.length then 3 else if chk1 l = 0 then (if clashAny l then 6 else 0) else chk1 l
theorem okP_two (p : ByteArray) : okP p = 0 ∨ okP p = 5 := by unfold okP; split <;> simp
theorem check_is (p : ByteArray) (k : Int) (h : okP p = k) (w : World) (hs : p.size ≤ 9223372036854775807) :
    Calls Try.prog 25 #[.string p] w fun e w' => e = .returned (.int .i64 k) ∧ Below w.heap.size w w' := by subst h; exact check_any p w hs
theorem under_is (p f : ByteArray) (b : Bool) (h : und p.toList f.toList = b) (w : World) (hp : p.size ≤ 100000000) (hf : f.size ≤ 100000000) :
    Calls Try.prog 44 #[.string p, .string f] w fun e w' => e = .returned (.bool b) ∧ w' = w := by subst h; exact under_any p f w hp hf

set_option maxRecDepth 20000 in
set_option maxHeartbeats 2000000 in
theorem clash_any (xp xd yp yd : ByteArray) (b : Bool) (hb : bad (yp, yd) (xp, xd) = b) (w : World) (hx : xp.size ≤ 100000000) (hy : yp.size ≤ 100000000) :
    Calls Try.prog 26 #[.agg #[.string xp, .string xd], .agg #[.string yp, .string yd]] w fun e w' => e = .returned (.bool b) ∧ Below w.heap.size w w' := by
  have hbw := ((Below.refl w.heap.size w).alloc (Nat.le_refl _) (.cells #[.string xp, .string xd] 41)).alloc (by simp) (.cells #[.string yp, .string yd] 41)
  by_cases h1 : xp = yp
  · have H := Lib.hid (show b = true by rw [← hb]; unfold bad; simp [h1])
    have e1 : (xp.toList == yp.toList) = true := by rw [h1]; simp
    clear h1 hb
    go_enter Try.func26, Try.ntmps26
    go_wp2_with fail
    go_ret
    exact ⟨by rw [H.out]; rfl, hbw⟩
  · have e1 : (xp.toList == yp.toList) = false := by rw [beq_eq_false_iff_ne]; intro e; exact h1 (str_eq e)
    have H := Lib.hid (show und yp.toList xp.toList = b by rw [← hb]; unfold bad; simp [Ne.symm h1])
    clear h1 hb
    go_enter Try.func26, Try.ntmps26
    go_wp2_with fail
    (with_reducible refine (under_is yp xp b H.out _ hy hx).mono ?_)
    rintro e w1 ⟨rfl, rfl⟩
    go_wp2_with fail
    go_ret
    exact ⟨rfl, hbw⟩

theorem drop_cons {l : List Fl} {i : Nat} {x : Fl} (hx : l[i]? = some x) : l.drop i = x :: l.drop (i + 1) := by
  have hi := (List.getElem?_eq_some_iff.1 hx).1
  rw [List.drop_eq_getElem_cons hi, (List.getElem?_eq_some_iff.1 hx).2]

set_option maxRecDepth 20000 in
set_option maxHeartbeats 8000000 in
theorem fcheck_any (l : List Fl) (A : Option Addr) (n c : Nat) (k : Int) (hk : checkF l = k) (hn : l.length = n) (hc : n ≤ c) (hn70 : n ≤ 1000) (hsz : ∀ x ∈ l, x.1.size ≤ 100000000 ∧ x.2.size ≤ 100000000) (w : World) (hr : Rd w A (fl l)) :
    Calls Try.prog 12 #[.slice A n c] w fun e w' => e = .returned (.int .i64 k) ∧ Below w.heap.size w w' := by
  have Hn := Lib.hid hn
  have HK := Lib.hid hk
  have HZ := Lib.hid hsz
  by_cases h64 : (64 : Int) < (n : Int)
  · have H := Lib.hid (show k = 3 by rw [← hk]; unfold checkF; rw [if_pos (by omega)])
    clear hn hk hsz
    go_enter Try.func12, Try.ntmps12
    go_wp2_with fail
    go_ret
    exact ⟨by rw [H.out]; rfl, Below.refl _ _⟩
  · have HK2 := Lib.hid (show (if chk1 l = 0 then (if clashAny l then 6 else 0) else chk1 l) = k by rw [← hk]; unfold checkF; rw [if_neg (show ¬ 64 < l.length by omega)])
    clear hn hk hsz HK
    go_enter Try.func12, Try.ntmps12
    go_wp2_with fail
    go_loopw [15] (fun vi wr => ∃ i : Nat, vi = .int .i64 i ∧ i ≤ n ∧ Hid (chk1 (l.drop i) = chk1 l) ∧ Rd wr A (fl l) ∧ Below w.heap.size w wr) (fun vi _ => n - (intOf vi).toNat)
    case atStart => exact ⟨0, rfl, by omega, Lib.hid rfl, hr, Below.refl _ _⟩
    case round =>
      clear hr
      obtain ⟨i, rfl, hi, hC, hr, hb⟩ := hrel
      by_cases hlt : (i : Int) < (n : Int)
      · have hil : i < l.length := by rw [Hn.out]; omega
        obtain ⟨x, hx⟩ : ∃ x, l[i]? = some x := ⟨_, getD_some hil⟩
        obtain ⟨b, o, rfl, q0, q1⟩ := hr.file hx
        have hxs := HZ.out x (List.mem_of_getElem? hx)
        obtain ⟨xp, xd⟩ := x
        rw [show (o + (i * 2 + 1) : Nat) = o + i * 2 + 1 by omega] at q1
        have hD := drop_cons hx
        have HD := Lib.hid hD
        have hbb := hb.alloc hb.size (.cells #[.string xp, .string xd] 41)
        have hB := Bk.new wr 41 #[.string xp, .string xd]
        have hr2 := hr.below ((Below.refl wr.heap.size wr).alloc (Nat.le_refl _) (.cells #[.string xp, .string xd] 41))
        have hxs1 : xp.size ≤ 100000000 := hxs.1
        have hxs2 : xd.size ≤ 100000000 := hxs.2
        clear hx hil hD hxs hr hb
        rcases okP_two xp with h0 | h5
        · have H0 := Lib.hid h0
          clear h0
          go_wp2_with fail
          (with_reducible refine (check_is xp 0 H0.out _ (by omega)).mono ?_)
          rintro e w1 ⟨rfl, hb1⟩
          have hb2 := bl hbb hb1
          have hr3 := hr2.below hb1
          have hB2 := hB.below' hb1
          have p0 := hB2.cell 0
          have p1 := hB2.cell 1
          simp only [List.getElem?_toArray, List.getElem?_cons_succ, List.getElem?_cons_zero] at p0 p1
          clear hbb hb1 hr2 hB
          by_cases hd : (1048576 : Int) < (xd.size : Int)
          · have H := Lib.hid (show k = 3 by
              rw [← HK2.out, ← hC.out, HD.out, chk1, if_pos H0.out, if_pos (show 1048576 < xd.size by omega)]; rfl)
            go_wp2_with fail
            go_ret
            exact ⟨by rw [H.out]; rfl, hb2⟩
          · have HC2 := Lib.hid (show chk1 (l.drop (i + 1)) = chk1 l by
              rw [← hC.out, HD.out, chk1, if_pos H0.out, if_neg (show ¬ 1048576 < xd.size by omega)])
            go_wp2_with fail
            go_round
            case rel => exact ⟨i + 1, by first | rfl | go_num, by omega, HC2, hr3, hb2⟩
            case measure => simp [intOf]; omega
        · have H5 := Lib.hid h5
          have e5 : chk1 (l.drop i) = 5 := by
            have hne : ¬ okP (xp, xd).1 = 0 := by show ¬ okP xp = 0; rw [h5]; decide
            rw [HD.out, chk1, if_neg hne]
          have H := Lib.hid (show k = 5 by rw [← HK2.out, ← hC.out, e5]; rfl)
          clear e5
          clear h5
          go_wp2_with fail
          (with_reducible refine (check_is xp 5 H5.out _ (by omega)).mono ?_)
          rintro e w1 ⟨rfl, hb1⟩
          go_wp2_with fail
          go_ret
          exact ⟨by rw [H.out]; rfl, bl hbb hb1⟩
      · obtain rfl : i = n := by omega
        have hc0 : chk1 l = 0 := by rw [← hC.out, List.drop_eq_nil_of_le (by rw [Hn.out]; exact Nat.le_refl _)]; rfl
        have HK3 := Lib.hid (show (if clashAny l then (6 : Int) else 0) = k by rw [← HK2.out, if_pos hc0])
        clear hC HK2 hc0
        go_wp2_with fail
        go_loopw [32] (fun vi wr2 => ∃ j : Nat, vi = .int .i64 j ∧ j ≤ i ∧ Hid (clashAny (l.drop j) = clashAny l) ∧ Rd wr2 A (fl l) ∧ Below w.heap.size w wr2) (fun vi _ => i - (intOf vi).toNat)
        case atStart => exact ⟨0, rfl, by omega, Lib.hid rfl, hr, hb⟩
        case round =>
          clear hr hb
          obtain ⟨j, rfl, hj, hC, hr, hb⟩ := hrel
          by_cases hlt2 : (j : Int) < (i : Int)
          · have hjl : j < l.length := by rw [Hn.out]; omega
            obtain ⟨x, hx⟩ : ∃ x, l[j]? = some x := ⟨_, getD_some hjl⟩
            obtain ⟨b, o, rfl, q0, q1⟩ := hr.file hx
            have hxs := HZ.out x (List.mem_of_getElem? hx)
            obtain ⟨xp, xd⟩ := x
            rw [show (o + (j * 2 + 1) : Nat) = o + j * 2 + 1 by omega] at q1
            have HD := Lib.hid (drop_cons hx)
            have hbb := hb.alloc hb.size (.cells #[.string xp, .string xd] 41)
            have hB := Bk.new wr 41 #[.string xp, .string xd]
            have hr2 := hr.below ((Below.refl wr.heap.size wr).alloc (Nat.le_refl _) (.cells #[.string xp, .string xd] 41))
            have hxs1 : xp.size ≤ 100000000 := hxs.1
            have w1 : IntKind.i64.wrap ((j : Int) + 1) = (j : Int) + 1 := by rw [IntKind.wrap_i64]; omega
            have HJ := Lib.hid hjl
            clear hx hjl hxs hr hb
            by_cases hcj : c = j + 1
            all_goals
              go_wp2_with fail
              go_loopw [42] (fun vm wr2 => ∃ m : Nat, vm = .int .i64 m ∧ m + j + 1 ≤ i ∧ Hid (((l.drop (j + 1)).drop m).any (two (xp, xd)) = (l.drop (j + 1)).any (two (xp, xd))) ∧ Bk wr2 wr.heap.size 41 #[.string xp, .string xd] ∧ Rd wr2 (some ⟨b, o, none⟩) (fl l) ∧ Below w.heap.size w wr2) (fun vm _ => i - (intOf vm).toNat)
              case atStart => exact ⟨0, rfl, by omega, Lib.hid rfl, hB, hr2, hbb⟩
              case round =>
                clear hB hr2 hbb q0 q1
                obtain ⟨m, rfl, hm, hAn, hB, hr2, hbb⟩ := hrel
                by_cases hlt3 : (m : Int) < ((i - (j + 1) : Nat) : Int)
                · first
                  | (exfalso; omega)
                  | skip
                  all_goals
                    have hml : j + 1 + m < l.length := by rw [Hn.out]; omega
                    obtain ⟨y, hy⟩ : ∃ y, l[j + 1 + m]? = some y := ⟨_, getD_some hml⟩
                    obtain ⟨b', o', e0, q0, q1⟩ := hr2.file hy
                    cases e0
                    have hys := HZ.out y (List.mem_of_getElem? hy)
                    obtain ⟨yp, yd⟩ := y
                    rw [show (o + ((j + 1 + m) * 2 + 1) : Nat) = o + (j + 1) * 2 + m * 2 + 1 by omega] at q1
                    rw [show (o + (j + 1 + m) * 2 : Nat) = o + (j + 1) * 2 + m * 2 by omega] at q0
                    have hys1 : yp.size ≤ 100000000 := hys.1
                    have hD2 : (l.drop (j + 1)).drop m = (yp, yd) :: (l.drop (j + 1)).drop (m + 1) := by
                      rw [List.drop_drop, List.drop_drop, drop_cons hy]; rfl
                    have HD2 := Lib.hid hD2
                    have hbb2 := hbb.alloc hbb.size (.cells #[.string yp, .string yd] 41)
                    have hB2 := hB.alloc (.cells #[.string yp, .string yd] 41)
                    have hY := Bk.new wr 41 #[.string yp, .string yd]
                    have hr4 := hr2.below ((Below.refl wr.heap.size wr).alloc (Nat.le_refl _) (.cells #[.string yp, .string yd] 41))
                    have p0 := hB2.cell 0
                    have p1 := hB2.cell 1
                    have y0 := hY.cell 0
                    have y1 := hY.cell 1
                    simp only [List.getElem?_toArray, List.getElem?_cons_succ, List.getElem?_cons_zero] at p0 p1 y0 y1
                    obtain ⟨t1, h1⟩ : ∃ t, bad (yp, yd) (xp, xd) = t := ⟨_, rfl⟩
                    obtain ⟨t2, h2⟩ : ∃ t, bad (xp, xd) (yp, yd) = t := ⟨_, rfl⟩
                    have HT := Lib.hid (show two (xp, xd) (yp, yd) = (t1 || t2) by unfold two; rw [h1, h2])
                    have H1 := Lib.hid h1
                    have H2 := Lib.hid h2
                    have HK6 : Hid ((t1 || t2) = true → k = 6) := Lib.hid fun ht => by
                      have e1 : clashAny (l.drop j) = true := by
                        rw [HD.out, clashAny, ← hAn.out, HD2.out, List.any_cons, HT.out, ht]; rfl
                      rw [← HK3.out, ← hC.out, e1]; rfl
                    clear hy hml hys hD2 h1 h2 hbb hB hr2 hY
                    cases t1 with
                    | true =>
                      have H := Lib.hid (HK6.out rfl)
                      go_wp2_with fail
                      (with_reducible refine (clash_any xp xd yp yd true H1.out _ hxs1 hys1).mono ?_)
                      rintro e w3 ⟨rfl, hb3⟩
                      go_wp2_with fail
                      go_ret
                      exact ⟨by rw [H.out]; rfl, bl hbb2 hb3⟩
                    | false =>
                      go_wp2_with fail
                      (with_reducible refine (clash_any xp xd yp yd false H1.out _ hxs1 hys1).mono ?_)
                      rintro e w3 ⟨rfl, hb3⟩
                      have hB3 := hB2.below' hb3
                      have hY3 := (Bk.new _ 41 #[.string yp, .string yd]).below' hb3
                      have hr5 := hr4.below hb3
                      have hbb3 := bl hbb2 hb3
                      clear p0 p1 y0 y1 hB2 hr4 hbb2 hb3
                      have p0 := hB3.cell 0
                      have p1 := hB3.cell 1
                      have y0 := hY3.cell 0
                      have y1 := hY3.cell 1
                      simp only [List.getElem?_toArray, List.getElem?_cons_succ, List.getElem?_cons_zero] at p0 p1 y0 y1
                      cases t2 with
                      | true =>
                        have H := Lib.hid (HK6.out rfl)
                        go_wp2_with fail
                        (with_reducible refine (clash_any yp yd xp xd true H2.out _ hys1 hxs1).mono ?_)
                        rintro e w4 ⟨rfl, hb4⟩
                        go_wp2_with fail
                        go_ret
                        exact ⟨by rw [H.out]; rfl, bl hbb3 hb4⟩
                      | false =>
                        have HA2 := Lib.hid (show ((l.drop (j + 1)).drop (m + 1)).any (two (xp, xd)) = (l.drop (j + 1)).any (two (xp, xd)) by
                          rw [← hAn.out, HD2.out, List.any_cons, HT.out]; rfl)
                        go_wp2_with fail
                        (with_reducible refine (clash_any yp yd xp xd false H2.out _ hys1 hxs1).mono ?_)
                        rintro e w4 ⟨rfl, hb4⟩
                        have hB4 := hB3.below' hb4
                        have hr6 := hr5.below hb4
                        have hbb4 := bl hbb3 hb4
                        clear p0 p1 y0 y1 hB3 hY3 hr5 hbb3 hb4
                        go_wp2_with fail
                        go_round
                        case rel => exact ⟨m + 1, by first | rfl | go_num, by omega, HA2, hB4, hr6, hbb4⟩
                        case measure => simp [intOf]; omega
                · have HC2 := Lib.hid (show clashAny (l.drop (j + 1)) = clashAny l by
                    have e0 : (l.drop (j + 1)).drop m = [] := List.drop_eq_nil_of_le (by rw [List.length_drop, Hn.out]; omega)
                    rw [← hC.out, HD.out, clashAny, ← hAn.out, e0]; rfl)
                  go_wp2_with fail
                  go_round
                  case rel =>
                    first
                    | exact ⟨j + 1, by first | rfl | go_num, by omega, HC2, hr2, hbb⟩
                    | exact ⟨_, _, _, _, _, ⟨j + 1, rfl, by omega, HC2⟩, rfl, rfl, rfl, rfl, by first | rfl | go_num⟩
                  case measure => simp [intOf]; omega
          · have hc0 : clashAny l = false := by rw [← hC.out, List.drop_eq_nil_of_le (by rw [Hn.out]; omega)]; rfl
            have H := Lib.hid (show k = 0 by rw [← HK3.out, hc0]; rfl)
            go_wp2_with fail
            go_ret
            exact ⟨by rw [H.out]; rfl, hb⟩
end Go.Proofs.Ytbgnbkomckbckaa
