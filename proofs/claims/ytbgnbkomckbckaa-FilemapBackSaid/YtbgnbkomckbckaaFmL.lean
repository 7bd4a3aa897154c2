/-
  sledgelaw12.Few.
-/
import Derived.Test.YtbgnbkomckbckaaFmK
namespace Go.Proofs.Ytbgnbkomckbckaa
open Go.RowKit

theorem Rd.file {w : World} {A : Option Addr} {l : List Fl} (h : Rd w A (fl l)) {i : Nat} {x : Fl} (hx : l[i]? = some x) : ∃ b o, A = some ⟨b, o, none⟩ ∧ w.cell? ⟨b, o + i * 2, none⟩ = some (.string x.1) ∧ w.cell? ⟨b, o + (i * 2 + 1), none⟩ = some (.string x.2) := by
  have hi : i < l.length := (List.getElem?_eq_some_iff.1 hx).1
  obtain ⟨b, o, e, hc⟩ := h (by intro e; have := fl_len l; rw [e] at this; simp at this; omega)
  refine ⟨b, o, e, hc _ _ ?_, hc _ _ ?_⟩
  · rw [fl_get0, hx]; rfl
  · rw [fl_get1, hx]; rfl
theorem Rd.takeF {w : World} {A : Option Addr} {l : List Fl} (h : Rd w A (fl l)) (k : Nat) : Rd w A (fl (l.take k)) := by
  have h1 := h.take (k * 2)
  have e : (fl l).take (k * 2) = fl (l.take k) := by
    clear h h1
    induction k generalizing l with
    | zero => simp [fl]
    | succ k ih =>
      cases l with
      | nil => simp [fl]
      | cons x l => rw [show (k + 1) * 2 = k * 2 + 1 + 1 by omega]; simp only [fl, List.take_succ_cons]; rw [ih]
  rw [e] at h1
  exact h1
theorem below_dn {w w' : World} {B : Nat} (h : Below B w w') (n : Nat) : Below B w (w'.drewN n) := ⟨h.os, h.tape, h.output, h.size, h.block⟩
/-- Not too many files, nor too great. -/
def Small (l : List Fl) : Prop := l.length ≤ 70 ∧ ∀ x ∈ l, x.1.size ≤ 3000000 ∧ x.2.size ≤ 3000000
theorem small_step {l : List Fl} {k : Nat} {x : Fl} (h : ∀ y ∈ l.take k, y.1.size ≤ 3000000 ∧ y.2.size ≤ 3000000) (hx : l[k]? = some x) (h1 : x.1.size ≤ 3000000) (h2 : x.2.size ≤ 3000000) : ∀ y ∈ l.take (k + 1), y.1.size ≤ 3000000 ∧ y.2.size ≤ 3000000 := by
  intro y hy
  rw [List.take_add_one, hx] at hy
  rcases List.mem_append.1 hy with hy | hy
  · exact h y hy
  · simp at hy; subst hy; exact ⟨h1, h2⟩
set_option maxRecDepth 20000 in
set_option maxHeartbeats 4000000 in
theorem few_any (l : List Fl) (A : Option Addr) (n c : Nat) (hn : l.length = n) (hc : n ≤ c) (w : World) (hr : Rd w A (fl l)) :
    Calls Try.prog 9 #[.slice A n c] w fun e w' => ∃ k, k ≤ n ∧ Small (l.take k) ∧ e = .returned (.slice A k c) ∧ Below w.heap.size w w' := by
  have Hn := Lib.hid hn
  have mixed : Try.prog.follows Departure.mixedOrders = true := by kernel_rfl
  clear hn
  go_enter Try.func9, Try.ntmps9
  go_wp2_with fail
  go_loopw [3, 4] (fun vs vi wr => ∃ (s i : Nat), vs = .int .i64 s ∧ vi = .int .i64 i ∧ s ≤ 3000000 ∧ i ≤ n ∧ i ≤ 70 ∧ Hid (∀ y ∈ l.take i, y.1.size ≤ 3000000 ∧ y.2.size ≤ 3000000) ∧ Rd wr A (fl l) ∧ Below w.heap.size w wr) (fun _ vi _ => n - (intOf vi).toNat)
  case atStart => exact ⟨0, 0, rfl, rfl, by omega, by omega, by omega, Lib.hid (by simp), hr, Below.refl _ _⟩
  case round =>
    clear hr
    obtain ⟨s, i, rfl, rfl, hs, hi, hi7, hA, hr, hb⟩ := hrel
    by_cases hlt : (i : Int) < (n : Int)
    · have hil : i < l.length := by rw [Hn.out]; omega
      obtain ⟨x, hx⟩ : ∃ x, l[i]? = some x := ⟨_, getD_some hil⟩
      obtain ⟨b, o, rfl, q0, q1⟩ := hr.file hx
      obtain ⟨xp, xd⟩ := x
      obtain ⟨p, hp⟩ : ∃ p : Nat, min (xp.size : Int) 4194304 = p := ⟨min xp.size 4194304, by omega⟩
      obtain ⟨d, hd⟩ : ∃ d : Nat, min (xd.size : Int) 4194304 = d := ⟨min xd.size 4194304, by omega⟩
      have hp2 : p ≤ 4194304 := by omega
      have hd2 : d ≤ 4194304 := by omega
      have w1 : IntKind.i64.wrap ((s : Int) + (p : Int)) = (s : Int) + (p : Int) := by rw [IntKind.wrap_i64]; omega
      have w2 : IntKind.i64.wrap ((s : Int) + (p : Int) + (d : Int)) = (s : Int) + (p : Int) + (d : Int) := by rw [IntKind.wrap_i64]; omega
      have HP : Hid (p ≤ 3000000 → xp.size ≤ 3000000) := Lib.hid (by omega)
      have HD : Hid (d ≤ 3000000 → xd.size ≤ 3000000) := Lib.hid (by omega)
      have HX := Lib.hid hx
      clear hx hil
      have k0 : (o + (i * 2 + 1) : Nat) = o + i * 2 + 1 := by omega
      rw [k0] at q1
      clear k0
      by_cases hbig : (3000000 : Int) < (s : Int) + (p : Int) + (d : Int)
      · go_wp2_with fail
        go_quiet (fail)
        go_wp2_with fail
        go_ret
        exact ⟨i, by omega, ⟨by rw [List.length_take]; omega, hA.out⟩, rfl, below_dn hb _⟩
      · by_cases h70 : (70 : Int) ≤ (i : Int)
        · go_wp2_with fail
          go_quiet (fail)
          go_wp2_with fail
          go_ret
          exact ⟨i, by omega, ⟨by rw [List.length_take]; omega, hA.out⟩, rfl, below_dn hb _⟩
        · go_wp2_with fail
          go_quiet (fail)
          go_wp2_with fail
          go_round
          case rel => exact ⟨s + p + d, i + 1, by first | rfl | go_num | (congr 1; omega), by first | rfl | go_num, by omega, by omega, by omega, Lib.hid (small_step hA.out HX.out (HP.out (by omega)) (HD.out (by omega))), hr, below_dn hb _⟩
          case measure => simp [intOf]; omega
    · obtain rfl : i = n := by omega
      go_wp2_with fail
      go_ret
      exact ⟨i, by omega, ⟨by rw [List.length_take]; omega, hA.out⟩, rfl, hb⟩
end Go.Proofs.Ytbgnbkomckbckaa
