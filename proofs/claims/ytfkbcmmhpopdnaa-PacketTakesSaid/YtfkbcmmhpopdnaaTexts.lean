/-
  The walk of encs.SameTexts.
-/
import Derived.Test.YtfkbcmmhpopdnaaBase
import Derived.Test.YtfkbcmmhpopdnaaProg
import Derived.Lib.Hide
import Derived.BigQuiet
import Derived.Deep.QuietTactic
namespace Go.Proofs.Ytfkbcmmhpopdnaa
open Go.RowKit

set_option maxRecDepth 20000 in
set_option maxHeartbeats 2000000 in
theorem sameTexts_any (A : Option Addr) (n c : Nat) (xs : List ByteArray) (B : Option Addr) (m d : Nat) (ys : List ByteArray) (w : World) (hx : xs.length = n) (hy : ys.length = m) (hrx : Rd w A (xs.map Value.string)) (hry : Rd w B (ys.map Value.string)) (hn : n ≤ 9223372036854775807) (hm : m ≤ 9223372036854775807)
    (b : Bool) (hb : decide (xs = ys) = b) :
    Calls Try.prog 28 #[.slice A n c, .slice B m d] w fun e w' => e = .returned (.bool b) ∧ Below w.heap.size w w' := by
  have Hx := Lib.hid hx
  have Hy := Lib.hid hy
  have Hb := Lib.hid hb
  clear hx hy hb
  by_cases h : n = m
  · subst h
    go_enter Try.func28, Try.ntmps28
    go_wp2_with fail
    go_loopw [5] (fun i wr => ∃ (k q : Nat), k ≤ n ∧ i = .int .i64 k ∧ Hid (xs.take k = ys.take k) ∧ wr = w.drewN q) (fun i _ => n - (intOf i).toNat)
    case atStart => exact ⟨0, 0, by omega, rfl, Lib.hid (by simp), rfl⟩
    case round =>
      obtain ⟨k, q, hk, rfl, hf, rfl⟩ := hrel
      by_cases hlt : k < n
      · have hkx : k < xs.length := by rw [Hx.out]; exact hlt
        have hky : k < ys.length := by rw [Hy.out]; exact hlt
        obtain ⟨b1, o1, rfl, hc1⟩ := hrx.at_ (k := k) (by simpa using hkx)
        obtain ⟨b2, o2, rfl, hc2⟩ := hry.at_ (k := k) (by simpa using hky)
        obtain ⟨x, hx⟩ : ∃ x, xs[k] = x := ⟨_, rfl⟩
        obtain ⟨y, hy⟩ : ∃ y, ys[k] = y := ⟨_, rfl⟩
        have hc1' : w.cell? ⟨b1, o1 + k, none⟩ = some (.string x) := by rw [hc1]; simp [hx]
        have hc2' : w.cell? ⟨b2, o2 + k, none⟩ = some (.string y) := by rw [hc2]; simp [hy]
        have s1 : xs.take (k + 1) = xs.take k ++ [x] := by rw [List.take_succ_eq_append_getElem hkx, hx]
        have s2 : ys.take (k + 1) = ys.take k ++ [y] := by rw [List.take_succ_eq_append_getElem hky, hy]
        have g1 : xs[k]? = some x := by rw [List.getElem?_eq_getElem hkx, hx]
        have g2 : ys[k]? = some y := by rw [List.getElem?_eq_getElem hky, hy]
        have Hk := Lib.hid (And.intro (And.intro s1 s2) (And.intro g1 g2))
        have i0 : (0 : Int) ≤ ↑k := by omega
        have i1 : (↑k : Int) < ↑n := by omega
        clear hc1 hc2 hx hy s1 s2 hkx hky g1 g2
        by_cases e : x = y
        · subst e
          have H := Lib.hid (show xs.take (k + 1) = ys.take (k + 1) by rw [Hk.out.1.1, Hk.out.1.2, hf.out])
          clear Hk hf
          go_wp2_with fail
          go_quiet (fail)
          go_wp2_with fail
          go_roundw
          case rel => exact ⟨k + 1, _, by omega, by go_num, H, rfl⟩
          case measure => simp [intOf]; omega
        · have t : (x.toList == y.toList) = false := by rw [beq_eq_false_iff_ne]; intro h; exact e (str_eq h)
          have H : b = false := by
            rw [← Hb.out]
            refine decide_eq_false fun h => e ?_
            obtain ⟨h1, h2⟩ := Hk.out.2
            subst h
            exact Option.some.inj (h1.symm.trans h2)
          subst H
          clear e Hk hf Hb
          go_wp2_with fail
          go_quiet (fail)
          go_wp2_with fail
          go_ret
          exact ⟨rfl, below_drewN (below_drewN (Below.refl _ _) _) _⟩
      · obtain rfl : k = n := by omega
        have H : b = true := by
          rw [← Hb.out]
          have := hf.out
          rw [List.take_of_length_le (by rw [Hx.out]; exact Nat.le_refl _), List.take_of_length_le (by rw [Hy.out]; exact Nat.le_refl _)] at this
          exact decide_eq_true this
        subst H
        clear hf Hb
        go_wp2_with fail
        go_ret
        exact ⟨rfl, below_drewN (Below.refl _ _) _⟩
  · have t : (((n : Nat) : Int) == (m : Int)) = false := by rw [beq_eq_false_iff_ne]; omega
    have t' : (((n : Nat) : Int) != (m : Int)) = true := by simp [bne, t]
    have H : b = false := by
      rw [← Hb.out]
      refine decide_eq_false fun e => h ?_
      rw [← Hx.out, ← Hy.out, e]
    subst H
    clear Hb
    go_enter Try.func28, Try.ntmps28
    go_wp2_with fail
    go_ret
    exact ⟨rfl, Below.refl _ _⟩
end Go.Proofs.Ytfkbcmmhpopdnaa
