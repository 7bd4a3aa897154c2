/-
  The reference's Check.
-/
import Derived.Test.YtbgnbkomckbckaaFmM
namespace Go.Proofs.Ytbgnbkomckbckaa
open Go.RowKit

theorem und_irr (x : Fl) : und x.1.toList x.1.toList = false := by unfold und; exact decide_eq_false (by omega)
/-- Is there a file in another one's way? -/
theorem clash_iff (l : List Fl) : clashAny l = true ↔ ∃ (i k : Nat) (x y : Fl), i ≠ k ∧ l[i]? = some x ∧ l[k]? = some y ∧ bad x y = true := by
  induction l with
  | nil => simp [clashAny]
  | cons z l ih =>
    rw [clashAny, Bool.or_eq_true, ih]
    constructor
    · rintro (h | ⟨i, k, x, y, h1, h2, h3, h4⟩)
      · obtain ⟨y, hy, ht⟩ := List.any_eq_true.1 h
        obtain ⟨k, hk, e⟩ := List.mem_iff_getElem.1 hy
        have hy2 : l[k]? = some y := by rw [List.getElem?_eq_getElem hk, e]
        unfold two at ht
        rw [Bool.or_eq_true] at ht
        rcases ht with ht | ht
        · exact ⟨k + 1, 0, y, z, by omega, hy2, rfl, ht⟩
        · exact ⟨0, k + 1, z, y, by omega, rfl, hy2, ht⟩
      · exact ⟨i + 1, k + 1, x, y, by omega, h2, h3, h4⟩
    · rintro ⟨i, k, x, y, h1, h2, h3, h4⟩
      match i, k, h1, h2, h3 with
      | 0, 0, h1, _, _ => exact absurd rfl h1
      | 0, k + 1, _, h2, h3 =>
        simp only [List.getElem?_cons_zero, Option.some.injEq] at h2
        subst h2
        exact .inl (List.any_eq_true.2 ⟨y, List.mem_of_getElem? h3, by unfold two; rw [h4, Bool.or_true]⟩)
      | i + 1, 0, _, h2, h3 =>
        simp only [List.getElem?_cons_zero, Option.some.injEq] at h3
        subst h3
        exact .inl (List.any_eq_true.2 ⟨x, List.mem_of_getElem? h2, by unfold two; rw [h4, Bool.true_or]⟩)
      | i + 1, k + 1, h1, h2, h3 => exact .inr ⟨i, k, x, y, by omega, h2, h3, h4⟩
theorem may_is (p : ByteArray) (b : Bool) (h : okP p = if b then 0 else 5) (w : World) (hs : p.size ≤ 100000000) :
    Calls Try.prog 36 #[.string p] w fun e w' => e = .returned (.bool b) ∧ Below w.heap.size w w' := by
  have e : pathOk p.toList = b := by
    unfold okP at h
    cases hq : pathOk p.toList <;> cases b <;> simp [hq] at h ⊢
  subst e
  exact may_any p w hs
theorem underR_is (p f : ByteArray) (b : Bool) (h : und p.toList f.toList = b) (w : World) (hp : p.size ≤ 100000000) (hf : f.size ≤ 100000000) :
    Calls Try.prog 39 #[.string p, .string f] w fun e w' => e = .returned (.bool b) ∧ ∃ q, w' = w.drewN q := by subst h; exact (underR_any p f w hp hf).mono fun e w' ⟨he, hw⟩ => ⟨he, 0, hw⟩
/-- No file stands in the way of those before i, nor of i up to k. -/
def Clear (l : List Fl) (i k : Nat) : Prop := (∀ i' k' x y, i' < i → i' ≠ k' → l[i']? = some x → l[k']? = some y → bad x y = false) ∧ ∀ k' x y, k' < k → i ≠ k' → l[i]? = some x → l[k']? = some y → bad x y = false

set_option maxRecDepth 20000 in
set_option maxHeartbeats 8000000 in
theorem rcheck_any (l : List Fl) (A : Option Addr) (n c : Nat) (k : Int) (hk : checkF l = k) (hn : l.length = n) (hn70 : n ≤ 1000) (hsz : ∀ x ∈ l, x.1.size ≤ 100000000 ∧ x.2.size ≤ 100000000) (w : World) (hr : Rd w A (fl l)) :
    Calls Try.prog 22 #[.slice A n c] w fun e w' => e = .returned (.int .i64 k) ∧ Below w.heap.size w w' := by
  have Hn := Lib.hid hn
  have HZ := Lib.hid hsz
  have mixed : Try.prog.follows Departure.mixedOrders = true := by kernel_rfl
  by_cases h64 : (64 : Int) < (n : Int)
  · have H := Lib.hid (show k = 3 by rw [← hk]; unfold checkF; rw [if_pos (by omega)])
    clear hn hk hsz
    go_enter Try.func22, Try.ntmps22
    go_wp2_with fail
    go_ret
    exact ⟨by rw [H.out]; rfl, Below.refl _ _⟩
  · have HK2 := Lib.hid (show (if chk1 l = 0 then (if clashAny l then 6 else 0) else chk1 l) = k by rw [← hk]; unfold checkF; rw [if_neg (show ¬ 64 < l.length by omega)])
    clear hn hk hsz
    go_enter Try.func22, Try.ntmps22
    go_wp2_with fail
    go_loopw [3] (fun vi wr => ∃ i : Nat, vi = .int .i64 i ∧ i ≤ n ∧ Hid (chk1 (l.drop i) = chk1 l) ∧ Rd wr A (fl l) ∧ Below w.heap.size w wr) (fun vi _ => n - (intOf vi).toNat)
    case atStart => exact ⟨0, rfl, by omega, Lib.hid rfl, hr, Below.refl _ _⟩
    case round =>
      clear hr
      obtain ⟨i, rfl, hi, hC, hr, hb⟩ := hrel
      by_cases hlt : (i : Int) < (n : Int)
      · have hil : i < l.length := by rw [Hn.out]; omega
        obtain ⟨x, hx⟩ : ∃ x, l[i]? = some x := ⟨_, getD_some hil⟩
        have HX := Lib.hid hx
        obtain ⟨b, o, rfl, q0, q1⟩ := hr.file hx
        have hxs := HZ.out x (List.mem_of_getElem? hx)
        obtain ⟨xp, xd⟩ := x
        rw [show (o + (i * 2 + 1) : Nat) = o + i * 2 + 1 by omega] at q1
        have HD := Lib.hid (drop_cons hx)
        have hxs1 : xp.size ≤ 100000000 := hxs.1
        have hxs2 : xd.size ≤ 100000000 := hxs.2
        clear hx hil hxs
        rcases okP_two xp with h0 | h5
        · have H0 := Lib.hid h0
          clear h0
          go_wp2_with fail
          (with_reducible refine (may_is xp true (by simp [H0.out]) _ hxs1).mono ?_)
          rintro e w1 ⟨rfl, hb1⟩
          have hb2 := bl hb hb1
          have hr3 := hr.below hb1
          obtain ⟨b', o', e0, q0, q1⟩ := hr3.file HX.out
          cases e0
          rw [show (o + (i * 2 + 1) : Nat) = o + i * 2 + 1 by omega] at q1
          clear hb hb1 hr
          by_cases hd : (1048576 : Int) < (xd.size : Int)
          · have H := Lib.hid (show k = 3 by
              rw [← HK2.out, ← hC.out, HD.out, chk1, if_pos H0.out, if_pos (show 1048576 < xd.size by omega)]; rfl)
            go_wp2_with fail
            go_ret
            exact ⟨by rw [H.out]; rfl, hb2⟩
          · have HC2 := Lib.hid (show chk1 (l.drop (i + 1)) = chk1 l by
              rw [← hC.out, HD.out, chk1, if_pos H0.out, if_neg (show ¬ 1048576 < xd.size by omega)])
            go_wp2_with fail
            go_round
            case rel => exact ⟨i + 1, by first | rfl | go_num, by omega, HC2, hr3, hb2⟩
            case measure => simp [intOf]; omega
        · have H5 := Lib.hid h5
          have e5 : chk1 (l.drop i) = 5 := by
            have hne : ¬ okP (xp, xd).1 = 0 := by show ¬ okP xp = 0; rw [h5]; decide
            rw [HD.out, chk1, if_neg hne]
          have H := Lib.hid (show k = 5 by rw [← HK2.out, ← hC.out, e5]; rfl)
          clear e5
          clear h5
          go_wp2_with fail
          (with_reducible refine (may_is xp false (by simp [H5.out]) _ hxs1).mono ?_)
          rintro e w1 ⟨rfl, hb1⟩
          go_wp2_with fail
          go_ret
          exact ⟨by rw [H.out]; rfl, bl hb hb1⟩
      · obtain rfl : i = n := by omega
        have hc0 : chk1 l = 0 := by rw [← hC.out, List.drop_eq_nil_of_le (by rw [Hn.out]; exact Nat.le_refl _)]; rfl
        have HK3 := Lib.hid (show (if clashAny l then (6 : Int) else 0) = k by rw [← HK2.out, if_pos hc0])
        clear hC HK2 hc0
        go_wp2_with fail
        go_loopw [4] (fun vi wr2 => ∃ j : Nat, vi = .int .i64 j ∧ j ≤ i ∧ Hid (Clear l j 0) ∧ Rd wr2 A (fl l) ∧ Below w.heap.size w wr2) (fun vi _ => i - (intOf vi).toNat)
        case atStart => exact ⟨0, rfl, by omega, Lib.hid ⟨fun _ _ _ _ h => absurd h (by omega), fun _ _ _ h => absurd h (by omega)⟩, hr, hb⟩
        case round =>
          clear hr hb
          obtain ⟨j, rfl, hj, hC, hr, hb⟩ := hrel
          by_cases hlt2 : (j : Int) < (i : Int)
          · go_wp2_with fail
            go_loopw [5] (fun vm wr2 => ∃ m : Nat, vm = .int .i64 m ∧ m ≤ i ∧ Hid (Clear l j m) ∧ Rd wr2 A (fl l) ∧ Below w.heap.size w wr2) (fun vm _ => i - (intOf vm).toNat)
            case atStart => exact ⟨0, rfl, by omega, hC, hr, hb⟩
            case round =>
              clear hr hb hC
              obtain ⟨m, rfl, hm, hC, hr, hb⟩ := hrel
              by_cases hlt3 : (m : Int) < (i : Int)
              · by_cases hjm : j = m
                · have hjb : ((j : Int) != (m : Int)) = false := by simp [hjm]
                  have hjb2 : ((j : Int) == (m : Int)) = true := by simp [hjm]
                  have HC2 := Lib.hid (show Clear l j (m + 1) from ⟨hC.out.1, fun k' x y h1 h2 => hC.out.2 k' x y (by omega) h2⟩)
                  clear hC hjm
                  go_wp2_with fail
                  go_quiet (fail)
                  go_wp2_with fail
                  go_round
                  case rel => exact ⟨m + 1, by first | rfl | go_num, by omega, HC2, hr, below_dn hb _⟩
                  case measure => simp [intOf]; omega
                · have hjb : ((j : Int) != (m : Int)) = true := by simp; omega
                  have hjb2 : ((j : Int) == (m : Int)) = false := by simp; omega
                  have hjl : j < l.length := by rw [Hn.out]; omega
                  have hml : m < l.length := by rw [Hn.out]; omega
                  obtain ⟨x, hx⟩ : ∃ x, l[j]? = some x := ⟨_, getD_some hjl⟩
                  obtain ⟨y, hy⟩ : ∃ y, l[m]? = some y := ⟨_, getD_some hml⟩
                  obtain ⟨b, o, rfl, q0, q1⟩ := hr.file hx
                  obtain ⟨b', o', e0, y0, y1⟩ := hr.file hy
                  cases e0
                  have hxs := (HZ.out x (List.mem_of_getElem? hx)).1
                  have hys := (HZ.out y (List.mem_of_getElem? hy)).1
                  have q0n : ∀ n, (wr.drewN n).cell? ⟨b, o + j * 2, none⟩ = some (.string x.1) := fun _ => q0
                  have y0n : ∀ n, (wr.drewN n).cell? ⟨b, o + m * 2, none⟩ = some (.string y.1) := fun _ => y0
                  have HB1 : Hid (bad x y = true → k = 6) := Lib.hid fun hbd => by
                    have e1 : clashAny l = true := (clash_iff l).2 ⟨j, m, x, y, hjm, hx, hy, hbd⟩
                    rw [← HK3.out, e1]; rfl
                  have HB2 : Hid (bad x y = false → Clear l j (m + 1)) := Lib.hid fun hbd => ⟨hC.out.1, fun k' x' y' h1 h2 h3 h4 => by
                    by_cases hk : k' < m
                    · exact hC.out.2 k' x' y' hk h2 h3 h4
                    · obtain rfl : k' = m := by omega
                      rw [hx] at h3
                      rw [hy] at h4
                      cases h3
                      cases h4
                      exact hbd⟩
                  have HJM := Lib.hid hjm
                  clear hx hy hC hjm hjl hml q1 y1 q0 y0
                  obtain ⟨xp, xd⟩ := x
                  obtain ⟨yp, yd⟩ := y
                  by_cases he : xp = yp
                  · have e1 : (xp.toList == yp.toList) = true := by rw [he]; simp
                    have H := Lib.hid (HB1.out (by unfold bad; simp [he]))
                    clear he HB1 HB2
                    go_wp2_with fail
                    go_quiet (fail)
                    go_wp2_with fail
                    go_ret
                    exact ⟨by rw [H.out]; rfl, below_dn hb _⟩
                  · have e1 : (xp.toList == yp.toList) = false := by rw [beq_eq_false_iff_ne]; intro e; exact he (str_eq e)
                    obtain ⟨t, ht⟩ : ∃ t, und xp.toList yp.toList = t := ⟨_, rfl⟩
                    have hbt : bad (xp, xd) (yp, yd) = t := by unfold bad; simp [he, ht]
                    have HT := Lib.hid ht
                    rw [hbt] at HB1 HB2
                    clear he ht hbt
                    cases t with
                    | true =>
                      have H := Lib.hid (HB1.out rfl)
                      go_wp2_with fail
                      go_quiet (first | (go_at_call 39; refine Calls.quiet_of (underR_is xp yp true HT.out _ hxs hys)))
                      go_wp2_with fail
                      go_ret
                      exact ⟨by rw [H.out]; rfl, below_dn hb _⟩
                    | false =>
                      have HC2 := Lib.hid (HB2.out rfl)
                      go_wp2_with fail
                      go_quiet (first | (go_at_call 39; refine Calls.quiet_of (underR_is xp yp false HT.out _ hxs hys)))
                      go_wp2_with fail
                      go_round
                      case rel => exact ⟨m + 1, by first | rfl | go_num, by omega, HC2, hr, below_dn hb _⟩
                      case measure => simp [intOf]; omega
              · obtain rfl : m = i := by omega
                have HC2 := Lib.hid (show Clear l (j + 1) 0 from ⟨fun i' k' x y h1 h2 h3 h4 => by
                  by_cases hi' : i' < j
                  · exact hC.out.1 i' k' x y hi' h2 h3 h4
                  · obtain rfl : i' = j := by omega
                    exact hC.out.2 k' x y (by have := (List.getElem?_eq_some_iff.1 h4).1; have := Hn.out; omega) h2 h3 h4, fun _ _ _ h => absurd h (by omega)⟩)
                go_wp2_with fail
                go_round
                case rel => exact ⟨j + 1, by first | rfl | go_num, by omega, HC2, hr, hb⟩
                case measure => simp [intOf]; omega
          · have hc0 : clashAny l = false := by
              cases hcl : clashAny l with
              | false => rfl
              | true =>
                obtain ⟨i', k', x, y, h1, h2, h3, h4⟩ := (clash_iff l).1 hcl
                have := hC.out.1 i' k' x y (by have := (List.getElem?_eq_some_iff.1 h2).1; have := Hn.out; omega) h1 h2 h3
                rw [h4] at this
                cases this
            have H := Lib.hid (show k = 0 by rw [← HK3.out, hc0]; rfl)
            go_wp2_with fail
            go_ret
            exact ⟨by rw [H.out]; rfl, hb⟩
end Go.Proofs.Ytbgnbkomckbckaa
