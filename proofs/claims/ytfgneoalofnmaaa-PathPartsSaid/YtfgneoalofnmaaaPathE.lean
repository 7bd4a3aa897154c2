/-
  The walk of the law PathChecks.
-/
import Derived.Test.YtfgneoalofnmaaaPathD
import Derived.Test.YtfgneoalofnmaaaFrame
namespace Go.Proofs.Ytfgneoalofnmaaa
open Go.RowKit

theorem okP_true {p : ByteArray} (h : pathOk p.toList = true) : okP p = 0 := by unfold okP; rw [h]; rfl
theorem okP_false {p : ByteArray} (h : pathOk p.toList = false) : okP p = 5 := by unfold okP; rw [h]; rfl
theorem may_k (p : ByteArray) (k : Bool) (h : pathOk p.toList = k) (hs : p.size ≤ 1000000) (w : World) :
    Calls Try.prog 10 #[.string p] w fun e w' => e = .returned (.bool k) ∧ Below w.heap.size w w' := by subst h; exact may_any p w hs

set_option maxRecDepth 20000 in
set_option maxHeartbeats 2000000 in
theorem pathChecks_walk (s : ByteArray) (w : World) (hs : s.size ≤ 140737488351232) :
    Calls Try.prog 3 #[.string s] w (Yes w) := by
  have hsz := cutL_size s
  cases hk : pathOk (cutL s).toList with
  | true =>
    have Ho := Lib.hid (okP_true hk)
    have Hm := Lib.hid hk
    clear hk
    go_enter Try.func3, Try.ntmps3
    go_wp2_with fail
    refine (cut_any s _ (by omega)).mono ?_
    rintro e w0 ⟨rfl, rfl⟩
    generalize cutL s = c at *
    have b0 := Below.refl w0.heap.size w0
    go_wp2_with fail
    (with_reducible refine (check_k _ 0 Ho.out (by omega) _).mono ?_)
    rintro e w1 ⟨rfl, h1⟩
    have b1 := bl b0 h1
    clear h1
    go_wp2_with fail
    (with_reducible refine (may_k _ true Hm.out (by omega) _).mono ?_)
    rintro e w2 ⟨rfl, h2⟩
    have b2 := bl b1 h2
    clear h2
    go_wp2_with fail
    (with_reducible refine (may_k _ true Hm.out (by omega) _).mono ?_)
    rintro e w3 ⟨rfl, h3⟩
    have b3 := bl b2 h3
    clear h3
    go_wp2_with fail
    (with_reducible refine (awakeP_any _).mono ?_)
    rintro e w4 ⟨rfl, h4⟩
    have b4 := bl b3 h4
    clear h4
    go_wp2_with fail
    go_ret
    exact ⟨rfl, b4⟩
  | false =>
    have Ho := Lib.hid (okP_false hk)
    have Hm := Lib.hid hk
    clear hk
    go_enter Try.func3, Try.ntmps3
    go_wp2_with fail
    refine (cut_any s _ (by omega)).mono ?_
    rintro e w0 ⟨rfl, rfl⟩
    generalize cutL s = c at *
    have b0 := Below.refl w0.heap.size w0
    go_wp2_with fail
    (with_reducible refine (check_k _ 5 Ho.out (by omega) _).mono ?_)
    rintro e w1 ⟨rfl, h1⟩
    have b1 := bl b0 h1
    clear h1
    go_wp2_with fail
    (with_reducible refine (may_k _ false Hm.out (by omega) _).mono ?_)
    rintro e w2 ⟨rfl, h2⟩
    have b2 := bl b1 h2
    clear h2
    go_wp2_with fail
    (with_reducible refine (may_k _ false Hm.out (by omega) _).mono ?_)
    rintro e w3 ⟨rfl, h3⟩
    have b3 := bl b2 h3
    clear h3
    go_wp2_with fail
    (with_reducible refine (check_k _ 5 Ho.out (by omega) _).mono ?_)
    rintro e w4 ⟨rfl, h4⟩
    have b4 := bl b3 h4
    clear h4
    go_wp2_with fail
    (with_reducible refine (awakeP_any _).mono ?_)
    rintro e w5 ⟨rfl, h5⟩
    have b5 := bl b4 h5
    clear h5
    go_wp2_with fail
    go_ret
    exact ⟨rfl, b5⟩
end Go.Proofs.Ytfgneoalofnmaaa
