/-
  The walk of the law PathParts.
-/
import Derived.Test.YtfgneoalofnmaaaPathI
import Derived.Test.YtfgneoalofnmaaaPathJ
import Derived.Test.YtfgneoalofnmaaaTexts
namespace Go.Proofs.Ytfgneoalofnmaaa
open Go.RowKit

theorem join_cc (x y : List UInt8) (t : List (List UInt8)) (s : List UInt8) : Lib.join (x :: y :: t) s = x ++ s ++ Lib.join (y :: t) s := by
  rw [Lib.join_cons, Lib.join_cons]; simp [Lib.joinTail]
theorem join_spl (n : Nat) : ∀ p : List UInt8, p.length ≤ n → Lib.join (spl p) [47] = p ∧ ∀ x ∈ spl p, noSl x = true := by
  induction n with
  | zero =>
    intro p hp
    have : p = [] := List.eq_nil_of_length_eq_zero (by omega)
    subst this
    exact ⟨rfl, by decide⟩
  | succ n ih =>
    intro p hp
    rcases idx_cases p with ⟨_, h⟩ | ⟨i, _, hi, h2, he⟩
    · rw [spl_none p h]
      refine ⟨Lib.join_one _ _, fun x hx => ?_⟩
      simp at hx; subst hx; exact decide_eq_true h
    · obtain ⟨h3, h4⟩ := ih (p.drop (i + 1)) (by rw [List.length_drop]; omega)
      have hs : spl p = p.take i :: spl (p.drop (i + 1)) := by
        conv => lhs; rw [he]
        exact spl_some _ _ h2
      rw [hs]
      refine ⟨?_, fun x hx => ?_⟩
      · obtain ⟨y, t, hyt⟩ := List.exists_cons_of_ne_nil (spl_ne (p.drop (i + 1)))
        rw [hyt, join_cc, ← hyt, h3]
        conv => rhs; rw [he]
        simp
      · rcases List.mem_cons.1 hx with rfl | hx
        · exact decide_eq_true h2
        · exact h4 x hx
theorem splB_list (s : ByteArray) : (splB s).map (·.toList) = spl s.toList := by
  unfold splB
  rw [List.map_map]
  conv => rhs; rw [← List.map_id (spl s.toList)]
  exact List.map_congr_left fun x _ => toList_ofL x
theorem jn_splB (s : ByteArray) : jn (splB s) = s.toList := by
  unfold jn; rw [splB_list]; exact (join_spl _ _ (Nat.le_refl _)).1
theorem joinOk_splB {s : ByteArray} (h : pathOk s.toList = true) : joinS (splB s) = s ∧ joinE (splB s) = 0 := by
  obtain ⟨e1, e2⟩ := join_good (xs := splB s) ⟨fun x hx => by
    obtain ⟨y, hy, rfl⟩ := List.mem_map.1 hx
    rw [toList_ofL]; exact (join_spl _ _ (Nat.le_refl _)).2 y hy, by rw [jn_splB]; exact h⟩
  exact ⟨by rw [e1, jn_splB, ofL_toList], e2⟩
theorem join_k (A : Option Addr) (n c : Nat) (xs : List ByteArray) (S : ByteArray) (E : Int) (w : World) (hS : joinS xs = S) (hE : joinE xs = E) (hx : xs.length = n) (hc : n ≤ c) (hr : Rd w A (sv xs)) (hn : n ≤ 1000000) (hz : (jn xs).length ≤ 1000000) :
    Calls Try.prog 16 #[.slice A n c] w fun e w' => e = .returned (.tuple #[.string S, .int .i64 E]) ∧ Below w.heap.size w w' := by
  subst hS; subst hE; exact join_any A n c xs w hx hc hr hn hz
theorem joinR_k (A : Option Addr) (n c : Nat) (xs : List ByteArray) (S : ByteArray) (E : Int) (w : World) (hS : joinS xs = S) (hE : joinE xs = E) (hx : xs.length = n) (hr : Rd w A (sv xs)) (hn : n ≤ 1000000) (hz : (jn xs).length ≤ 1000000) :
    Calls Try.prog 17 #[.slice A n c] w fun e w' => e = .returned (.tuple #[.string S, .int .i64 E]) ∧ Below w.heap.size w w' := by
  subst hS; subst hE; exact joinR_any A n c xs w hx hr hn hz
/-- The reference's parts, as texts. -/
theorem splitB_any (p : ByteArray) (w : World) (hs : p.size ≤ 1000000) :
    Calls Try.prog 20 #[.string p] w (RetS w (splB p).length (sv (splB p))) := by
  have h := split_any p w hs
  rw [tv_spl, show (spl p.toList).length = (splB p).length by unfold splB; rw [List.length_map]] at h
  exact h

set_option maxRecDepth 20000 in
set_option maxHeartbeats 2000000 in
theorem pathParts_walk (s : ByteArray) (w : World) (hs : s.size ≤ 140737488351232) :
    Calls Try.prog 7 #[.string s] w (Yes w) := by
  have hsz := cutL_size s
  cases hk : pathOk (cutL s).toList with
  | true =>
    have Hm := Lib.hid hk
    have HJ := Lib.hid (joinOk_splB hk)
    have hlen : (splB (cutL s)).length ≤ 5001 := by unfold splB spl; have := (foldP_le (cutL s).toList).1; rw [size_toList] at this; simp; omega
    have hjl : (jn (splB (cutL s))).length ≤ 5001 := by rw [jn_splB, size_toList]; omega
    clear hk
    go_enter Try.func7, Try.ntmps7
    go_wp2_with fail
    refine (cut_any s _ (by omega)).mono ?_
    rintro e w0 ⟨rfl, rfl⟩
    generalize cutL s = a at *
    go_wp2_with fail
    (with_reducible refine (partsP_ok a _ (by omega) Hm.out).mono ?_)
    rintro e w1 ⟨A, c, rfl, hc1, hc2, hr1, b1⟩
    obtain ⟨P, hP⟩ : ∃ P, splB a = P := ⟨_, rfl⟩
    have HP := Lib.hid hP
    rw [hP] at HJ hlen hjl hr1 hc1
    obtain ⟨n, hn⟩ : ∃ n, P.length = n := ⟨_, rfl⟩
    have Hn := Lib.hid hn
    rw [hP, hn]
    rw [hn] at hlen hc1
    clear hP hn
    have hc3 : c ≤ 9223372036854775807 := hc2
    go_wp2_with fail
    (with_reducible refine (may_k a true Hm.out (by omega) _).mono ?_)
    rintro e w2 ⟨rfl, h2⟩
    have hr2 := hr1.below h2
    have b2 := bl b1 h2
    clear h2 hr1
    go_wp2_with fail
    (with_reducible refine (join_k A n c P a 0 _ HJ.out.1 HJ.out.2 Hn.out hc1 hr2 (by omega) (by omega)).mono ?_)
    rintro e w3 ⟨rfl, h3⟩
    have hr3 := hr2.below h3
    have b3 := bl b2 h3
    clear h3 hr2
    go_wp2_with fail
    (refine (splitB_any a _ (by omega)).mono ?_)
    rintro e w4 ⟨A4, c4, rfl, hc4, hc5, hr4, _, h4⟩
    have hr5 := hr3.below h4
    have b4 := bl b3 h4
    rw [HP.out] at hr4
    rw [HP.out, Hn.out]
    clear h4 hr3 hc4
    go_wp2_with fail
    (with_reducible refine (sameTexts_any A n c P A4 n c4 P _ Hn.out Hn.out hr5 hr4 (by omega) (by omega) true (decide_eq_true rfl)).mono ?_)
    rintro e w5 ⟨rfl, h5⟩
    have b5 := bl b4 h5
    clear h5 hr4 hr5
    go_wp2_with fail
    (with_reducible refine (awakeP_any _).mono ?_)
    rintro e w6 ⟨rfl, h6⟩
    go_wp2_with fail
    go_ret
    exact ⟨rfl, bl b5 h6⟩
  | false =>
    have Hm := Lib.hid hk
    clear hk
    go_enter Try.func7, Try.ntmps7
    go_wp2_with fail
    refine (cut_any s _ (by omega)).mono ?_
    rintro e w0 ⟨rfl, rfl⟩
    generalize cutL s = a at *
    go_wp2_with fail
    (with_reducible refine (partsP_bad a _ (by omega) Hm.out).mono ?_)
    rintro e w1 ⟨rfl, b1⟩
    go_wp2_with fail
    (with_reducible refine (may_k a false Hm.out (by omega) _).mono ?_)
    rintro e w2 ⟨rfl, h2⟩
    have b2 := bl b1 h2
    clear h2
    go_wp2_with fail
    (with_reducible refine (awakeP_any _).mono ?_)
    rintro e w6 ⟨rfl, h6⟩
    go_wp2_with fail
    go_ret
    exact ⟨rfl, bl b2 h6⟩
end Go.Proofs.Ytfgneoalofnmaaa
