/-
  The walk of the law PathUnder.
-/
import Derived.Test.YtfgneoalofnmaaaPathF
namespace Go.Proofs.Ytfgneoalofnmaaa
open Go.RowKit

theorem under_k (p f : ByteArray) (k : Bool) (h : und p.toList f.toList = k) (hp : p.size ≤ 1000000) (hf : f.size ≤ 1000000) (w : World) :
    Calls Try.prog 14 #[.string p, .string f] w fun e w' => e = .returned (.bool k) ∧ w' = w := by subst h; exact under_any p f w hp hf
theorem underR_k (p f : ByteArray) (k : Bool) (h : und p.toList f.toList = k) (hp : p.size ≤ 1000000) (hf : f.size ≤ 1000000) (w : World) :
    Calls Try.prog 15 #[.string p, .string f] w fun e w' => e = .returned (.bool k) ∧ w' = w := by subst h; exact underR_any p f w hp hf

set_option maxRecDepth 20000 in
set_option maxHeartbeats 2000000 in
theorem pathUnder_walk (s t : ByteArray) (w : World) (hs : s.size ≤ 140737488351232) (ht : t.size ≤ 140737488351232) :
    Calls Try.prog 5 #[.string s, .string t] w (Yes w) := by
  have hsz := cutL_size s
  have htz := cutL_size t
  have H2 := Lib.hid (und_self (cutL s).toList)
  cases hk : und (cutL s).toList (cutL t).toList with
  | true =>
    have H1 := Lib.hid hk
    have H3 := Lib.hid (show cmpB (cutL t) (cutL s) = -1 from und_cmp hk)
    clear hk
    go_enter Try.func5, Try.ntmps5
    go_wp2_with fail
    refine (cut_any s _ (by omega)).mono ?_
    rintro e w1 ⟨rfl, rfl⟩
    go_wp2_with fail
    refine (cut_any t _ (by omega)).mono ?_
    rintro e w1 ⟨rfl, rfl⟩
    generalize cutL s = a at *
    generalize cutL t = b at *
    go_wp2_with fail
    (with_reducible refine (under_k a b true H1.out (by omega) (by omega) _).mono ?_)
    rintro e w1 ⟨rfl, rfl⟩
    go_wp2_with fail
    (with_reducible refine (underR_k a b true H1.out (by omega) (by omega) _).mono ?_)
    rintro e w1 ⟨rfl, rfl⟩
    go_wp2_with fail
    (with_reducible refine (under_k a a false H2.out (by omega) (by omega) _).mono ?_)
    rintro e w1 ⟨rfl, rfl⟩
    go_wp2_with fail
    (with_reducible refine (compare_k _ _ _ H3.out _).mono ?_)
    rintro e w1 ⟨rfl, rfl⟩
    go_wp2_with fail
    (with_reducible refine (awakeP_any _).mono ?_)
    rintro e w2 ⟨rfl, b2⟩
    go_wp2_with fail
    go_ret
    exact ⟨rfl, b2⟩
  | false =>
    have H1 := Lib.hid hk
    clear hk
    go_enter Try.func5, Try.ntmps5
    go_wp2_with fail
    refine (cut_any s _ (by omega)).mono ?_
    rintro e w1 ⟨rfl, rfl⟩
    go_wp2_with fail
    refine (cut_any t _ (by omega)).mono ?_
    rintro e w1 ⟨rfl, rfl⟩
    generalize cutL s = a at *
    generalize cutL t = b at *
    go_wp2_with fail
    (with_reducible refine (under_k a b false H1.out (by omega) (by omega) _).mono ?_)
    rintro e w1 ⟨rfl, rfl⟩
    go_wp2_with fail
    (with_reducible refine (underR_k a b false H1.out (by omega) (by omega) _).mono ?_)
    rintro e w1 ⟨rfl, rfl⟩
    go_wp2_with fail
    (with_reducible refine (under_k a a false H2.out (by omega) (by omega) _).mono ?_)
    rintro e w1 ⟨rfl, rfl⟩
    go_wp2_with fail
    (with_reducible refine (awakeP_any _).mono ?_)
    rintro e w2 ⟨rfl, b2⟩
    go_wp2_with fail
    go_ret
    exact ⟨rfl, b2⟩
end Go.Proofs.Ytfgneoalofnmaaa
