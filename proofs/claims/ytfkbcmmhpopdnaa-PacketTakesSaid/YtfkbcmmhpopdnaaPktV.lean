/-
  Packets, the reference's Take: num, and body where there is no proof.
-/
import Derived.Test.YtfkbcmmhpopdnaaPktT1
namespace Go.Proofs.Ytfkbcmmhpopdnaa
open Go.RowKit

/-- A number of bytes, the highest first. -/
def numI (s : ByteArray) : Int := (num s.toList : Int)
theorem ext_le (s : ByteArray) (a b : Nat) (h : b ≤ a + 4) : (s.extract a b).size ≤ 4 := by
  rw [← size_toList, toList_ext, List.length_take]; omega

set_option maxRecDepth 20000 in
theorem numR_any (s : ByteArray) (hs : s.size ≤ 4) (w : World) :
    Calls Try.prog 27 #[.string s] w fun e w' => e = .returned (.int .i64 (numI s)) ∧ w = w' := by
  obtain ⟨N, hN⟩ : ∃ N, numI s = N := ⟨_, rfl⟩
  rw [hN]
  have HN := Lib.hid hN
  clear hN
  go_enter Try.func27, Try.ntmps27
  go_wp2_with fail
  go_loop [3, 4] (fun n i => ∃ (k m : Nat), k ≤ s.size ∧ i = .int .i64 k ∧ n = .int .i64 m ∧ Hid (m = num (s.toList.take k)) ∧ m < 256 ^ k) (fun _ i => s.size - (intOf i).toNat)
  case atStart => exact ⟨0, 0, by omega, rfl, rfl, Lib.hid rfl, by decide⟩
  case round =>
    obtain ⟨k, m, hk, rfl, rfl, hf, hm⟩ := hrel
    have hp : (256 : Nat) ^ k ≤ 256 ^ 4 := Nat.pow_le_pow_right (by omega) (by omega)
    have hm4 : m ≤ 4294967295 := by omega
    by_cases hlt : k < s.size
    · have hb := UInt8.toNat_lt s[k]
      have H := Lib.hid (show 256 * m + s[k].toNat = num (s.toList.take (k + 1)) by
        rw [num_take_succ _ _ (by rw [size_toList]; exact hlt), ← getElem_toList s k hlt, hf.out]; omega)
      have hm2 : 256 * m + s[k].toNat < 256 ^ (k + 1) := by rw [Nat.pow_succ]; omega
      clear hm hp hf
      go_wp2_with fail
      go_round
      case rel => exact ⟨k + 1, 256 * m + s[k].toNat, by omega, by go_num, by go_num, H, hm2⟩
      case measure => simp [intOf]; omega
    · obtain rfl : k = s.size := by omega
      have H := Lib.hid (show (m : Int) = N by
        rw [← HN.out]; unfold numI
        rw [hf.out, List.take_of_length_le (by rw [size_toList]; exact Nat.le_refl _)])
      clear hf hm hp
      go_wp2_with fail
      go_ret
      exact ⟨by rw [← H.out]; rfl, rfl⟩

/-- What 'body' tells. -/
def BodyEnd (kind fr seq id i n : Int) (text : ByteArray) (P : List ByteArray) (w : World) (e : Ending) (w' : World) : Prop :=
  ∃ (A : Option Addr) (pn pc : Nat), e = .returned (.agg #[.int .i64 kind, .int .i64 fr, .int .i64 seq, .int .i64 id, .int .i64 i, .int .i64 n, .string text, .slice A pn pc]) ∧ P.length = pn ∧ pn ≤ pc ∧ pc ≤ 9223372036854775807 ∧ Rd w' A (P.map Value.string) ∧ (∀ ad, A = some ad → w.heap.size ≤ ad.block) ∧ Below w.heap.size w w'

set_option maxRecDepth 20000 in
set_option maxHeartbeats 2000000 in
theorem body_1 (fr : Int) (s : ByteArray) (hs : s.size ≤ 1000) (w : World) : Calls Try.prog 26 #[.int .i64 1, .int .i64 fr, .string s] w (BodyEnd 1 fr 0 0 0 0 s [] w) := by
  go_enter Try.func26, Try.ntmps26
  go_wp2_with fail
  exact bodyPost_ret (v := .agg #[.int .i64 1, .int .i64 fr, .int .i64 0, .int .i64 0, .int .i64 0, .int .i64 0, .string s, .slice none 0 0]) (by simp [results, Try.results26, go_sem]) rfl ⟨none, 0, 0, rfl, rfl, by omega, by omega, Rd.nil _ _, fun _ h => (by cases h), ((Below.refl _ _).alloc (Nat.le_refl _) _).alloc (by simp) _⟩

set_option maxRecDepth 20000 in
set_option maxHeartbeats 2000000 in
theorem body_3 (fr : Int) (s : ByteArray) (hs : s.size ≤ 1000) (hl : 12 ≤ s.size) (w : World) : Calls Try.prog 26 #[.int .i64 3, .int .i64 fr, .string s] w (BodyEnd 3 fr (numI (s.extract 0 4)) (numI (s.extract 4 8)) (numI (s.extract 8 10)) (numI (s.extract 10 12)) (s.extract 12 s.size) [] w) := by
  go_enter Try.func26, Try.ntmps26
  go_wp2_with (go_at_call 27; refine (numR_any _ (ext_le _ _ _ (by omega)) _).mono ?_; rintro e w1 ⟨rfl, rfl⟩)
  exact bodyPost_ret (v := .agg #[.int .i64 3, .int .i64 fr, .int .i64 (numI (s.extract 0 4)), .int .i64 (numI (s.extract 4 8)), .int .i64 (numI (s.extract 8 10)), .int .i64 (numI (s.extract 10 12)), .string (s.extract 12 s.size), .slice none 0 0]) (by simp [results, Try.results26, go_sem]) rfl ⟨none, 0, 0, rfl, rfl, by omega, by omega, Rd.nil _ _, fun _ h => (by cases h), ((Below.refl _ _).alloc (Nat.le_refl _) _).alloc (by simp) _⟩

set_option maxRecDepth 20000 in
set_option maxHeartbeats 2000000 in
theorem body_4 (fr : Int) (s : ByteArray) (hs : s.size ≤ 1000) (hl : 8 ≤ s.size) (w : World) : Calls Try.prog 26 #[.int .i64 4, .int .i64 fr, .string s] w (BodyEnd 4 fr (numI (s.extract 0 4)) (numI (s.extract 4 8)) 0 0 (s.extract 8 s.size) [] w) := by
  go_enter Try.func26, Try.ntmps26
  go_wp2_with (go_at_call 27; refine (numR_any _ (ext_le _ _ _ (by omega)) _).mono ?_; rintro e w1 ⟨rfl, rfl⟩)
  exact bodyPost_ret (v := .agg #[.int .i64 4, .int .i64 fr, .int .i64 (numI (s.extract 0 4)), .int .i64 (numI (s.extract 4 8)), .int .i64 0, .int .i64 0, .string (s.extract 8 s.size), .slice none 0 0]) (by simp [results, Try.results26, go_sem]) rfl ⟨none, 0, 0, rfl, rfl, by omega, by omega, Rd.nil _ _, fun _ h => (by cases h), ((Below.refl _ _).alloc (Nat.le_refl _) _).alloc (by simp) _⟩

set_option maxRecDepth 20000 in
set_option maxHeartbeats 2000000 in
theorem body_0 (kind fr : Int) (s : ByteArray) (hs : s.size ≤ 1000) (n1 : ¬ kind = 1) (n2 : ¬ (kind = 2 ∧ 231 ≤ s.size)) (n3 : ¬ (kind = 3 ∧ 12 ≤ s.size)) (n4 : ¬ (kind = 4 ∧ 8 ≤ s.size)) (w : World) : Calls Try.prog 26 #[.int .i64 kind, .int .i64 fr, .string s] w (BodyEnd kind fr 0 0 0 0 ⟨#[]⟩ [] w) := by
  have fin : ∀ k : Int, BodyEnd k fr 0 0 0 0 ⟨#[]⟩ [] w (.returned (.agg #[.int .i64 k, .int .i64 fr, .int .i64 0, .int .i64 0, .int .i64 0, .int .i64 0, .string ⟨#[]⟩, .slice none 0 0])) ((w.alloc (.cells #[.int .i64 k, .int .i64 fr, .int .i64 0, .int .i64 0, .int .i64 0, .int .i64 0, .string ⟨#[]⟩, .slice none 0 0] 24)).alloc (.cells #[.int .i64 k, .int .i64 fr, .int .i64 0, .int .i64 0, .int .i64 0, .int .i64 0, .string ⟨#[]⟩, .slice none 0 0] 24)) :=
    fun k => ⟨none, 0, 0, rfl, rfl, by omega, by omega, Rd.nil _ _, fun _ h => (by cases h), ((Below.refl _ _).alloc (Nat.le_refl _) _).alloc (by simp) _⟩
  have Fin := Lib.hid fin
  clear fin
  by_cases k2 : kind = 2
  · subst k2
    have hl : ¬ 231 ≤ s.size := fun h => n2 ⟨rfl, h⟩
    clear n1 n2 n3 n4
    go_enter Try.func26, Try.ntmps26
    go_wp2_with fail
    exact bodyPost_ret (by simp [results, Try.results26, go_sem]) rfl (Fin.out 2)
  · by_cases k3 : kind = 3
    · subst k3
      have hl : ¬ 12 ≤ s.size := fun h => n3 ⟨rfl, h⟩
      clear n1 n2 n3 n4
      go_enter Try.func26, Try.ntmps26
      go_wp2_with fail
      exact bodyPost_ret (by simp [results, Try.results26, go_sem]) rfl (Fin.out 3)
    · by_cases k4 : kind = 4
      · subst k4
        have hl : ¬ 8 ≤ s.size := fun h => n4 ⟨rfl, h⟩
        clear n1 n2 n3 n4
        go_enter Try.func26, Try.ntmps26
        go_wp2_with fail
        exact bodyPost_ret (by simp [results, Try.results26, go_sem]) rfl (Fin.out 4)
      · clear n2 n3 n4
        go_enter Try.func26, Try.ntmps26
        go_wp2_with fail
        exact bodyPost_ret (by simp [results, Try.results26, go_sem]) rfl (Fin.out kind)
end Go.Proofs.Ytfkbcmmhpopdnaa
