/-
  Packets: the small walks (plain, number, word, sums).
-/
import Derived.Test.YtfkbcmmhpopdnaaHdrX
import Derived.Test.YtfkbcmmhpopdnaaBitT
namespace Go.Proofs.Ytfkbcmmhpopdnaa
open Go.RowKit

/-- Is a number one of 32 bits, from one on? -/
def w32 (n least : Int) : Bool := decide (least ≤ n ∧ n ≤ 4294967295)
theorem numW_any (n least : Int) (b : Bool) (hb : w32 n least = b) (w : World) :
    Calls Try.prog 19 #[.int .i64 n, .int .i64 least] w fun e w' => e = .returned (.bool b) ∧ w = w' := by
  by_cases h1 : least ≤ n
  · by_cases h2 : n ≤ 4294967295
    · have H := Lib.hid (show b = true from hb ▸ decide_eq_true ⟨h1, h2⟩)
      clear hb
      go_enter Try.func19, Try.ntmps19
      go_wp2
      go_ret
      exact ⟨by rw [H.out]; rfl, rfl⟩
    · have H := Lib.hid (show b = false from hb ▸ decide_eq_false (fun h => h2 h.2))
      clear hb
      go_enter Try.func19, Try.ntmps19
      go_wp2
      go_ret
      exact ⟨by rw [H.out]; rfl, rfl⟩
  · have H := Lib.hid (show b = false from hb ▸ decide_eq_false (fun h => h1 h.1))
    clear hb
    go_enter Try.func19, Try.ntmps19
    go_wp2
    go_ret
    exact ⟨by rw [H.out]; rfl, rfl⟩

/-- Has a packet nothing in the fields that its kind has not? -/
def plnB (kind seq id i n : Int) (pn : Nat) : Bool :=
  if kind = 1 then decide (seq = 0 ∧ id = 0 ∧ i = 0 ∧ n = 0 ∧ pn = 0) else if kind = 2 then decide (seq = 0 ∧ n = 0) else if kind = 3 then decide (pn = 0) else decide (i = 0 ∧ n = 0 ∧ pn = 0)
set_option maxRecDepth 20000 in
theorem plain_any (kind fr seq id i n : Int) (text : ByteArray) (A : Option Addr) (pn pc : Nat) (w : World) :
    Calls Try.prog 20 #[.agg #[.int .i64 kind, .int .i64 fr, .int .i64 seq, .int .i64 id, .int .i64 i, .int .i64 n, .string text, .slice A pn pc]] w fun e w' => e = .returned (.bool (plnB kind seq id i n pn)) ∧ Below w.heap.size w w' := by
  obtain ⟨b, hb⟩ : ∃ b, plnB kind seq id i n pn = b := ⟨_, rfl⟩
  rw [hb]
  have Hb := Lib.hid hb
  clear hb
  go_enter Try.func20, Try.ntmps20
  go_wp2
  all_goals go_ret
  all_goals refine ⟨ret_bool ?_, (Below.refl _ _).alloc (Nat.le_refl _) _⟩
  all_goals (have hp1 : ((pn : Int) == 0) = decide (pn = 0) := by rw [Bool.eq_iff_iff]; simp)
  all_goals rw [← Hb.out]; unfold plnB
  all_goals (clear Hb; simp_all <;> (try (rw [Bool.eq_iff_iff]; simp)))
theorem plain_k (kind fr seq id i n : Int) (text : ByteArray) (A : Option Addr) (pn pc : Nat) (b : Bool) (hb : plnB kind seq id i n pn = b) (w : World) :
    Calls Try.prog 20 #[.agg #[.int .i64 kind, .int .i64 fr, .int .i64 seq, .int .i64 id, .int .i64 i, .int .i64 n, .string text, .slice A pn pc]] w fun e w' => e = .returned (.bool b) ∧ Below w.heap.size w w' := by subst hb; exact plain_any kind fr seq id i n text A pn pc w
end Go.Proofs.Ytfkbcmmhpopdnaa
