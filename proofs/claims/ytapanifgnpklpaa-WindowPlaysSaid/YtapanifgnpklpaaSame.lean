/-
  The walk of the reference's Same: two lists of ints.
-/
import Derived.Test.YtapanifgnpklpaaBitL
namespace Go.Proofs.Ytapanifgnpklpaa
open Go.RowKit

/-- Two lists of ints, the same? -/
def sameI (a b : List Int) : Bool := decide (a = b)
theorem rd_int {w : World} {A : Option Addr} {xs : List Int} (h : Rd w A (intVals xs)) (k : Nat) (hk : k < xs.length) : ∃ b o, A = some ⟨b, o, none⟩ ∧ w.cell? ⟨b, o + k, none⟩ = some (.int .i64 (xs.getD k 0)) := by
  obtain ⟨b, o, e, hc⟩ := h.at_ (k := k) (by simpa [intVals] using hk)
  refine ⟨b, o, e, ?_⟩
  rw [hc]
  simp [intVals, List.getD_eq_getElem?_getD, List.getElem?_eq_getElem hk]
theorem same_of (a b : List Int) (h : a.length = b.length) (h2 : ∀ k, k < a.length → a.getD k 0 = b.getD k 0) : sameI a b = true := by
  unfold sameI
  rw [decide_eq_true_eq]
  refine List.ext_getElem h fun i h1 h3 => ?_
  have := h2 i h1
  simpa [List.getD_eq_getElem?_getD, List.getElem?_eq_getElem h1, List.getElem?_eq_getElem h3] using this
theorem same_not (a b : List Int) (k : Nat) (h2 : a.getD k 0 ≠ b.getD k 0) : sameI a b = false := by
  unfold sameI
  rw [decide_eq_false_iff_not]
  rintro rfl
  exact h2 rfl

set_option maxHeartbeats 1000000 in
theorem same_any (A B : Option Addr) (n m c d : Nat) (xs ys : List Int) (w : World) (hx : xs.length = n) (hy : ys.length = m) (hr : Rd w A (intVals xs)) (hs : Rd w B (intVals ys)) (hn : n ≤ 9223372036854775807) (hm : m ≤ 9223372036854775807) :
    Calls Try.prog 20 #[.slice A n c, .slice B m d] w fun e w' => e = .returned (.bool (sameI xs ys)) ∧ Below w.heap.size w w' := by
  have Hx := Lib.hid hx
  have Hy := Lib.hid hy
  clear hx hy
  by_cases hne : n = m
  · subst hne
    have e0 : ((n : Int) != (n : Int)) = false := by simp
    go_enter Try.func20, Try.ntmps20
    go_wp2
    go_loopw [5] (fun i wr => ∃ k : Nat, k ≤ n ∧ i = .int .i64 k ∧ (∀ j, j < k → Hid (xs.getD j 0 = ys.getD j 0)) ∧ ∃ q, wr = w.drewN q) (fun i _ => n - (intOf i).toNat)
    case atStart => exact ⟨0, by omega, rfl, fun j hj => by omega, 0, rfl⟩
    case round =>
      obtain ⟨k, hk, rfl, hp, q, rfl⟩ := hrel
      by_cases hlt : (k : Int) < (n : Int)
      · obtain ⟨b, o, rfl, hc1⟩ := rd_int hr k (by rw [Hx.out]; omega)
        obtain ⟨b2, o2, rfl, hc2⟩ := rd_int hs k (by rw [Hy.out]; omega)
        by_cases he : xs.getD k 0 = ys.getD k 0
        · have hp' : ∀ j, j < k + 1 → Hid (xs.getD j 0 = ys.getD j 0) := by
            intro j hj
            by_cases hjk : j = k
            · subst hjk; exact he
            · exact hp j (by omega)
          have Hp := Lib.hid hp'
          rw [← he] at hc2
          generalize xs.getD k 0 = z at hc1 hc2
          clear he hp hp'
          go_wp2
          go_quiet (fail)
          go_wp2
          go_roundw
          case rel => exact ⟨k + 1, by omega, by go_num, Hp.out, _, rfl⟩
          case measure => simp [intOf]; omega
        · have H := Lib.hid (same_not xs ys k he)
          have hb : (xs.getD k 0 == ys.getD k 0) = false := beq_eq_false_iff_ne.2 he
          generalize xs.getD k 0 = z at hc1 hb
          generalize ys.getD k 0 = z2 at hc2 hb
          clear he hp
          go_wp2
          go_quiet (fail)
          go_wp2
          go_ret
          exact ⟨by rw [H.out]; rfl, below_drewN (below_drewN (Below.refl _ _) _) _⟩
      · have H := Lib.hid (same_of xs ys (by rw [Hx.out, Hy.out]) (fun j hj => (hp j (by rw [Hx.out] at hj; omega)).out))
        clear hp
        go_wp2
        go_ret
        exact ⟨by rw [H.out]; rfl, below_drewN (Below.refl _ _) _⟩
  · have H := Lib.hid (show sameI xs ys = false by unfold sameI; rw [decide_eq_false_iff_not]; rintro rfl; exact hne (by rw [← Hx.out, Hy.out]))
    have e0 : ((n : Int) == (m : Int)) = false := beq_eq_false_iff_ne.2 (by omega)
    go_enter Try.func20, Try.ntmps20
    go_wp2
    go_ret
    exact ⟨by rw [H.out]; rfl, Below.refl _ _⟩

end Go.Proofs.Ytapanifgnpklpaa
