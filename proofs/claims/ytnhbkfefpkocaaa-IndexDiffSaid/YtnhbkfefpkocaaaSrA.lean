/-
  The reference's sha: rotr; the plain words in 64 bits; the tables; rows of words as ints.
-/
import Derived.Test.YtnhbkfefpkocaaaShH
namespace Go.Proofs.Ytnhbkfefpkocaaa
open Go.RowKit Go.Lib

theorem rot63 (x k : Nat) (h : x < 4294967296) : bits .or .i64 ((x : Int) / 2 ^ k) (bits .and .i64 (IntKind.i64.wrap ((x : Int) * 2 ^ (32 - k))) 4294967295) = (rot x k : Nat) := by
  have e1 : (x : Int) / 2 ^ k = ((x / 2 ^ k : Nat) : Int) := by simp
  have e2 : IntKind.i64.wrap ((x : Int) * 2 ^ (32 - k)) % 4294967296 = ((x * 2 ^ (32 - k) % 4294967296 : Nat) : Int) := by
    have : (x : Int) * 2 ^ (32 - k) = ((x * 2 ^ (32 - k) : Nat) : Int) := by simp
    rw [this]
    generalize x * 2 ^ (32 - k) = y
    rw [IntKind.wrap_i64]
    omega
  rw [low32, e1, e2]
  refine or63 _ _ (Nat.lt_of_le_of_lt (Nat.div_le_self _ _) (by omega)) (by omega)
set_option maxRecDepth 20000 in
set_option maxHeartbeats 2000000 in
theorem rotr_any (x k : Nat) (w : World) (h1 : x < 4294967296) (hk : k ≤ 32) :
    Calls Try.prog 86 #[.int .i64 x, .int .i64 k] w fun e w' => e = .returned (.int .i64 (rot x k : Nat)) ∧ ∃ m, w' = w.drewN m := by
  go_enter Try.func86, Try.ntmps86
  go_wp2_with fail
  go_quiet (fail)
  go_wp2_with fail
  go_ret
  have hr := rot63 x k h1
  rw [IntWalk.i64_left] at hr
  exact ⟨congrArg (fun n => Ending.returned (Value.int .i64 n)) hr, _, rfl⟩
theorem rotr_g {x k r : Nat} (hr : rot x k = r) (h1 : x < 4294967296) (hk : k ≤ 32) (w : World) :
    Calls Try.prog 86 #[.int .i64 x, .int .i64 (k : Nat)] w fun e w' => e = .returned (.int .i64 (r : Nat)) ∧ ∃ m, w' = w.drewN m := by
  subst hr
  exact rotr_any x k w h1 hk

theorem one63 (e f g h k w r1 r2 r3 : Nat) (he : e < 4294967296) (hf : f < 4294967296) (hg : g < 4294967296) (hh : h < 4294967296) (hk : k < 4294967296) (hw : w < 4294967296) (h1 : rot e 6 = r1) (h2 : rot e 11 = r2) (h3 : rot e 25 = r3) :
    ∃ x1 x2 x3 x4 x5 x6 p1 p2 p3 p4 : Nat, bits .xor .i64 (r1 : Int) (r2 : Int) = (x1 : Int) ∧ bits .xor .i64 (x1 : Int) (r3 : Int) = (x2 : Int) ∧ bits .and .i64 (e : Int) (f : Int) = (x3 : Int) ∧
      IntKind.i64.wrap (4294967295 - (e : Int)) = (x4 : Int) ∧ bits .and .i64 (x4 : Int) (g : Int) = (x5 : Int) ∧ bits .xor .i64 (x3 : Int) (x5 : Int) = (x6 : Int) ∧
      IntKind.i64.wrap ((h : Int) + x2) = (p1 : Int) ∧ IntKind.i64.wrap ((p1 : Int) + x6) = (p2 : Int) ∧ IntKind.i64.wrap ((p2 : Int) + k) = (p3 : Int) ∧ IntKind.i64.wrap ((p3 : Int) + w) = (p4 : Int) ∧ bits .and .i64 (p4 : Int) 4294967295 = (oneW e f g h k w : Nat) := by
  have l1 : r1 < 4294967296 := by rw [← h1]; exact rot_lt _ _ he
  have l2 : r2 < 4294967296 := by rw [← h2]; exact rot_lt _ _ he
  have l3 : r3 < 4294967296 := by rw [← h3]; exact rot_lt _ _ he
  have l12 := Nat.xor_lt_two_pow (n := 32) l1 l2
  have l123 := Nat.xor_lt_two_pow (n := 32) l12 l3
  have l5 : (4294967295 - e) &&& g < 4294967296 := Nat.and_lt_two_pow (n := 32) _ hg
  have l6 : e &&& f < 4294967296 := Nat.and_lt_two_pow (n := 32) _ hf
  have l56 := Nat.xor_lt_two_pow (n := 32) l6 l5
  simp only [Nat.reducePow] at l12 l123 l56
  refine ⟨r1 ^^^ r2, r1 ^^^ r2 ^^^ r3, e &&& f, 4294967295 - e, (4294967295 - e) &&& g, (e &&& f) ^^^ ((4294967295 - e) &&& g), h + (r1 ^^^ r2 ^^^ r3), h + (r1 ^^^ r2 ^^^ r3) + ((e &&& f) ^^^ ((4294967295 - e) &&& g)), h + (r1 ^^^ r2 ^^^ r3) + ((e &&& f) ^^^ ((4294967295 - e) &&& g)) + k, h + (r1 ^^^ r2 ^^^ r3) + ((e &&& f) ^^^ ((4294967295 - e) &&& g)) + k + w,
    xor63 _ _ (by omega) (by omega), xor63 _ _ (by omega) (by omega), and63 _ _ (by omega) (by omega), ?_, and63 _ _ (by omega) (by omega), xor63 _ _ (by omega) (by omega), ?_, ?_, ?_, ?_, ?_⟩
  · rw [IntKind.wrap_i64]; omega
  · rw [IntKind.wrap_i64]; omega
  · rw [IntKind.wrap_i64]; omega
  · rw [IntKind.wrap_i64]; omega
  · rw [IntKind.wrap_i64]; omega
  · rw [low32]; unfold oneW; rw [h1, h2, h3]; omega
theorem two63 (a b c r1 r2 r3 : Nat) (ha : a < 4294967296) (hb : b < 4294967296) (hc : c < 4294967296) (h1 : rot a 2 = r1) (h2 : rot a 13 = r2) (h3 : rot a 22 = r3) :
    ∃ x1 x2 x3 x4 x5 x6 x7 p1 : Nat, bits .xor .i64 (r1 : Int) (r2 : Int) = (x1 : Int) ∧ bits .xor .i64 (x1 : Int) (r3 : Int) = (x2 : Int) ∧ bits .and .i64 (a : Int) (b : Int) = (x3 : Int) ∧
      bits .and .i64 (a : Int) (c : Int) = (x4 : Int) ∧ bits .xor .i64 (x3 : Int) (x4 : Int) = (x5 : Int) ∧ bits .and .i64 (b : Int) (c : Int) = (x6 : Int) ∧ bits .xor .i64 (x5 : Int) (x6 : Int) = (x7 : Int) ∧
      IntKind.i64.wrap ((x2 : Int) + x7) = (p1 : Int) ∧ bits .and .i64 (p1 : Int) 4294967295 = (twoW a b c : Nat) := by
  have l1 : r1 < 4294967296 := by rw [← h1]; exact rot_lt _ _ ha
  have l2 : r2 < 4294967296 := by rw [← h2]; exact rot_lt _ _ ha
  have l3 : r3 < 4294967296 := by rw [← h3]; exact rot_lt _ _ ha
  have l12 := Nat.xor_lt_two_pow (n := 32) l1 l2
  have l123 := Nat.xor_lt_two_pow (n := 32) l12 l3
  have m1 : a &&& b < 4294967296 := Nat.and_lt_two_pow (n := 32) _ hb
  have m2 : a &&& c < 4294967296 := Nat.and_lt_two_pow (n := 32) _ hc
  have m3 : b &&& c < 4294967296 := Nat.and_lt_two_pow (n := 32) _ hc
  have m12 := Nat.xor_lt_two_pow (n := 32) m1 m2
  have m123 := Nat.xor_lt_two_pow (n := 32) m12 m3
  simp only [Nat.reducePow] at l12 l123 m12 m123
  refine ⟨r1 ^^^ r2, r1 ^^^ r2 ^^^ r3, a &&& b, a &&& c, (a &&& b) ^^^ (a &&& c), b &&& c, (a &&& b) ^^^ (a &&& c) ^^^ (b &&& c), (r1 ^^^ r2 ^^^ r3) + ((a &&& b) ^^^ (a &&& c) ^^^ (b &&& c)),
    xor63 _ _ (by omega) (by omega), xor63 _ _ (by omega) (by omega), and63 _ _ (by omega) (by omega), and63 _ _ (by omega) (by omega), xor63 _ _ (by omega) (by omega), and63 _ _ (by omega) (by omega), xor63 _ _ (by omega) (by omega), ?_, ?_⟩
  · rw [IntKind.wrap_i64]; omega
  · rw [low32]; unfold twoW; rw [h1, h2, h3]; omega
theorem s63 (x r1 r2 d : Nat) (a b c : Nat) (hx : x < 4294967296) (h1 : rot x a = r1) (h2 : rot x b = r2) (hd : x / 2 ^ c = d) :
    ∃ x1 x2 : Nat, bits .xor .i64 (r1 : Int) (r2 : Int) = (x1 : Int) ∧ bits .xor .i64 (x1 : Int) (d : Int) = (x2 : Int) ∧ x2 = rot x a ^^^ rot x b ^^^ x / 2 ^ c ∧ x2 < 4294967296 := by
  have l1 : r1 < 4294967296 := by rw [← h1]; exact rot_lt _ _ hx
  have l2 : r2 < 4294967296 := by rw [← h2]; exact rot_lt _ _ hx
  have l3 : d < 4294967296 := by rw [← hd]; exact Nat.lt_of_le_of_lt (Nat.div_le_self _ _) hx
  have l12 := Nat.xor_lt_two_pow (n := 32) l1 l2
  have l123 := Nat.xor_lt_two_pow (n := 32) l12 l3
  simp only [Nat.reducePow] at l12 l123
  exact ⟨r1 ^^^ r2, r1 ^^^ r2 ^^^ d, xor63 _ _ (by omega) (by omega), xor63 _ _ (by omega) (by omega), by rw [h1, h2, hd], l123⟩

/-- Words as ints. -/
def natVals (l : List Nat) : List Value := l.map fun k => Value.int .i64 (k : Nat)
theorem natVals_length (l : List Nat) : (natVals l).length = l.length := by simp [natVals]
theorem natVals_get (l : List Nat) (i : Nat) (h : i < l.length) : (natVals l)[i]? = some (.int .i64 (l.getD i 0 : Nat)) := by
  unfold natVals
  simp [h]
theorem natVals_snoc (l : List Nat) (x : Nat) (X : Int) (h : (x : Int) = X) : natVals l ++ [.int .i64 X] = natVals (l ++ [x]) := by simp [natVals, h]
theorem el_intH : El Try.prog 63 3 1 8 := El.mk_ (z := .int .i64 0) Try.underlying63 (by kernel_rfl) (by decide) (by rfl)
set_option maxRecDepth 20000 in
theorem rstart_any (w : World) : Calls Try.prog 83 #[] w fun e w' => e = .returned (.slice (some ⟨w.heap.size, 0, none⟩) 8 8) ∧ w' = w.alloc (.cells (natVals startW).toArray 3) := by
  go_enter Try.func83, Try.ntmps83
  go_wp2_with fail
  go_ret
  exact ⟨rfl, rfl⟩
set_option maxRecDepth 20000 in
theorem rrounds_any (w : World) : Calls Try.prog 84 #[] w fun e w' => e = .returned (.slice (some ⟨w.heap.size, 0, none⟩) 64 64) ∧ w' = w.alloc (.cells (natVals kTab).toArray 3) := by
  go_enter Try.func84, Try.ntmps84
  go_wp2_with fail
  go_ret
  exact ⟨rfl, rfl⟩
end Go.Proofs.Ytnhbkfefpkocaaa
