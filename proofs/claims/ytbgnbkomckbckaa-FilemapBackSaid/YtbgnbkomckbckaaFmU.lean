/-
  The reference's Same at files; slices.Equal; filemap.Same.
-/
import Derived.Test.YtbgnbkomckbckaaFmT
namespace Go.Proofs.Ytbgnbkomckbckaa
open Go.RowKit Go.Sort

theorem beq_str (a b : ByteArray) : (a.toList == b.toList) = decide (a = b) := by
  by_cases h : a = b
  · subst h; simp
  · rw [decide_eq_false h, beq_eq_false_iff_ne]
    exact fun e => h (str_eq e)
theorem take_eq_step {l m : List Fl} {i : Nat} {x y : Fl} (h : l.take i = m.take i) (hx : l[i]? = some x) (hy : m[i]? = some y) (he : x = y) : l.take (i + 1) = m.take (i + 1) := by
  rw [List.take_add_one, List.take_add_one, h, hx, hy, he]

set_option maxRecDepth 20000 in
set_option maxHeartbeats 4000000 in
theorem same_any (l m : List Fl) (A B : Option Addr) (n k c d : Nat) (w : World) (hn : l.length = n) (hk : m.length = k) (hn70 : n ≤ 1000) (hr : Rd w A (fl l)) (hs : Rd w B (fl m)) :
    Calls Try.prog 14 #[.slice A n c, .slice B k d] w fun e w' => e = .returned (.bool (decide (l = m))) ∧ Below w.heap.size w w' := by
  have Hn := Lib.hid hn
  have Hk := Lib.hid hk
  have mixed : Try.prog.follows Departure.mixedOrders = true := by kernel_rfl
  obtain ⟨t, ht⟩ : ∃ t, decide (l = m) = t := ⟨_, rfl⟩
  rw [ht]
  have HT := Lib.hid ht
  clear hn hk ht
  by_cases hnk : (n : Int) = (k : Int)
  · have hnk2 : ((n : Int) != (k : Int)) = false := by simp [hnk]
    obtain rfl : n = k := by omega
    clear hnk2 hnk
    go_enter Try.func14, Try.ntmps14
    go_wp2_with fail
    go_loopw [5] (fun vi wr => ∃ i : Nat, vi = .int .i64 i ∧ i ≤ n ∧ Hid (l.take i = m.take i) ∧ Rd wr A (fl l) ∧ Rd wr B (fl m) ∧ Below w.heap.size w wr) (fun vi _ => n - (intOf vi).toNat)
    case atStart => exact ⟨0, rfl, by omega, Lib.hid (by simp), hr, hs, Below.refl _ _⟩
    case round =>
      clear hr hs
      obtain ⟨i, rfl, hi, hE, hr, hs, hb⟩ := hrel
      by_cases hlt : (i : Int) < (n : Int)
      · obtain ⟨x, hx⟩ : ∃ x, l[i]? = some x := ⟨_, getD_some (by rw [Hn.out]; omega)⟩
        obtain ⟨y, hy⟩ : ∃ y, m[i]? = some y := ⟨_, getD_some (by rw [Hk.out]; omega)⟩
        obtain ⟨b, o, rfl, q0, q1⟩ := hr.file hx
        obtain ⟨b', o', rfl, y0, y1⟩ := hs.file hy
        rw [show (o + (i * 2 + 1) : Nat) = o + i * 2 + 1 by omega] at q1
        rw [show (o' + (i * 2 + 1) : Nat) = o' + i * 2 + 1 by omega] at y1
        have q0n : ∀ n, (wr.drewN n).cell? ⟨b, o + i * 2, none⟩ = some (.string x.1) := fun _ => q0
        have q1n : ∀ n, (wr.drewN n).cell? ⟨b, o + i * 2 + 1, none⟩ = some (.string x.2) := fun _ => q1
        have y0n : ∀ n, (wr.drewN n).cell? ⟨b', o' + i * 2, none⟩ = some (.string y.1) := fun _ => y0
        have y1n : ∀ n, (wr.drewN n).cell? ⟨b', o' + i * 2 + 1, none⟩ = some (.string y.2) := fun _ => y1
        have HX := Lib.hid hx
        have HY := Lib.hid hy
        have HNE : Hid (x ≠ y → t = false) := Lib.hid fun hne => by
          rw [← HT.out]
          refine decide_eq_false fun e => hne ?_
          rw [e, hy] at hx
          cases hx
          rfl
        clear hx hy q0 q1 y0 y1
        obtain ⟨xp, xd⟩ := x
        obtain ⟨yp, yd⟩ := y
        by_cases h1 : xp = yp
        · have e1 : (xp.toList == yp.toList) = true := by rw [h1]; simp
          have H1 := Lib.hid h1
          clear h1
          by_cases h2 : xd = yd
          · have e2 : (xd.toList == yd.toList) = true := by rw [h2]; simp
            have HE2 := Lib.hid (take_eq_step hE.out HX.out HY.out (by rw [H1.out, h2]))
            clear h2
            go_wp2_with fail
            go_quiet (fail)
            go_wp2_with fail
            go_round
            case rel => exact ⟨i + 1, by first | rfl | go_num, by omega, HE2, hr, hs, below_dn hb _⟩
            case measure => simp [intOf]; omega
          · have e2 : (xd.toList == yd.toList) = false := by rw [beq_str]; exact decide_eq_false h2
            have H := Lib.hid (HNE.out (fun e => h2 (by cases e; rfl)))
            clear h2
            go_wp2_with fail
            go_quiet (fail)
            go_wp2_with fail
            go_ret
            exact ⟨by rw [H.out]; rfl, below_dn hb _⟩
        · have e1 : (xp.toList == yp.toList) = false := by rw [beq_str]; exact decide_eq_false h1
          have H := Lib.hid (HNE.out (fun e => h1 (by cases e; rfl)))
          clear h1
          go_wp2_with fail
          go_quiet (fail)
          go_wp2_with fail
          go_ret
          exact ⟨by rw [H.out]; rfl, below_dn hb _⟩
      · obtain rfl : i = n := by omega
        have H := Lib.hid (show t = true by
          rw [← HT.out]
          refine decide_eq_true ?_
          have h := hE.out
          rw [List.take_of_length_le (by rw [Hn.out]; exact Nat.le_refl _), List.take_of_length_le (by rw [Hk.out]; exact Nat.le_refl _)] at h
          exact h)
        go_wp2_with fail
        go_ret
        exact ⟨by rw [H.out]; rfl, hb⟩
  · have hnk2 : ((n : Int) == (k : Int)) = false := by simp; omega
    have H := Lib.hid (show t = false by
      rw [← HT.out]
      exact decide_eq_false fun e => hnk (by rw [← Hn.out, ← Hk.out, e]))
    go_enter Try.func14, Try.ntmps14
    go_wp2_with fail
    go_ret
    exact ⟨by rw [H.out]; rfl, Below.refl _ _⟩
end Go.Proofs.Ytbgnbkomckbckaa
