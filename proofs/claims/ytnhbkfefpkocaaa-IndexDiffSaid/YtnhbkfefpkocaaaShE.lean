/-
  sha: rounds one by one; a row of eight words. No function in sight.
-/
import Derived.Test.YtnhbkfefpkocaaaShC
namespace Go.Proofs.Ytnhbkfefpkocaaa
open Go.RowKit

def row8 (V : List Nat) : Array Value := (V.map fun k => Value.int .u32 (k : Nat)).toArray
/-- Eight words. -/
def Wd8 (V : List Nat) : Prop := V.length = 8 ∧ ∀ x ∈ V, x < 4294967296
theorem eight {α : Type} {l : List α} (h : l.length = 8) : ∃ a b c d e f g i, l = [a, b, c, d, e, f, g, i] := by
  match l, h with
  | [a, b, c, d, e, f, g, i], _ => exact ⟨a, b, c, d, e, f, g, i, rfl⟩
theorem oneW_lt (e f g h k w : Nat) : oneW e f g h k w < 4294967296 := by unfold oneW; omega
theorem twoW_lt (a b c : Nat) : twoW a b c < 4294967296 := by unfold twoW; omega
theorem rndW_ok {V : List Nat} (h : Wd8 V) (k w : Nat) : Wd8 (rndW V k w) := by
  obtain ⟨a, b, c, d, e, f, g, i, rfl⟩ := eight h.1
  refine ⟨rfl, fun x hx => ?_⟩
  have hh := h.2
  simp only [rndW, List.mem_cons, List.not_mem_nil, or_false] at hx
  rcases hx with rfl | rfl | rfl | rfl | rfl | rfl | rfl | rfl
  · omega
  · exact hh _ (by simp)
  · exact hh _ (by simp)
  · exact hh _ (by simp)
  · omega
  · exact hh _ (by simp)
  · exact hh _ (by simp)
  · exact hh _ (by simp)
theorem rnds_step : ∀ (i : Nat) (V K W : List Nat), i < K.length → i < W.length → rndsW V (K.take (i + 1)) (W.take (i + 1)) = rndW (rndsW V (K.take i) (W.take i)) (K.getD i 0) (W.getD i 0)
  | 0, V, k :: K, w :: W, _, _ => by simp [rndsW]
  | i + 1, V, k :: K, w :: W, hk, hw => by
    simp only [List.length_cons] at hk hw
    have ih := rnds_step i (rndW V k w) K W (by omega) (by omega)
    simp only [List.take_succ_cons, rndsW, List.getD_cons_succ]
    exact ih
  | _, _, [], _, hk, _ => by simp at hk
  | _, _, _ :: _, [], _, hw => by simp at hw
theorem rnds_ok : ∀ (K W V : List Nat), Wd8 V → Wd8 (rndsW V K W)
  | [], W, V, h => by cases W <;> simpa [rndsW] using h
  | k :: K, [], V, h => by simpa [rndsW] using h
  | k :: K, w :: W, V, h => rnds_ok K W (rndW V k w) (rndW_ok h k w)
theorem one_facts (e f g h k w r1 r2 r3 : Nat) (he : e < 4294967296) (hf : f < 4294967296) (hg : g < 4294967296) (h1 : rot e 6 = r1) (h2 : rot e 11 = r2) (h3 : rot e 25 = r3) :
    ∃ x1 x2 x3 x4 x5 x6 p1 p2 p3 : Nat, bits .xor .u32 (r1 : Int) (r2 : Int) = (x1 : Int) ∧ bits .xor .u32 (x1 : Int) (r3 : Int) = (x2 : Int) ∧ bits .and .u32 (e : Int) (f : Int) = (x3 : Int) ∧
      bits .xor .u32 (if IntKind.u32.signed = true then -1 else IntKind.u32.max) (e : Int) = (x4 : Int) ∧ bits .and .u32 (x4 : Int) (g : Int) = (x5 : Int) ∧ bits .xor .u32 (x3 : Int) (x5 : Int) = (x6 : Int) ∧
      IntKind.u32.wrap ((h : Int) + x2) = (p1 : Int) ∧ IntKind.u32.wrap ((p1 : Int) + x6) = (p2 : Int) ∧ IntKind.u32.wrap ((p2 : Int) + k) = (p3 : Int) ∧ IntKind.u32.wrap ((p3 : Int) + w) = (oneW e f g h k w : Nat) := by
  have l1 : r1 < 4294967296 := by rw [← h1]; exact rot_lt _ _ he
  have l2 : r2 < 4294967296 := by rw [← h2]; exact rot_lt _ _ he
  have l3 : r3 < 4294967296 := by rw [← h3]; exact rot_lt _ _ he
  have l12 := Nat.xor_lt_two_pow (n := 32) l1 l2
  have l4 : 4294967295 - e < 4294967296 := by omega
  have e4 : bits .xor .u32 (if IntKind.u32.signed = true then -1 else IntKind.u32.max) (e : Int) = ((4294967295 - e : Nat) : Int) := by
    rw [show (if IntKind.u32.signed = true then (-1 : Int) else IntKind.u32.max) = ((4294967295 : Nat) : Int) by decide, xor32 _ _ (by omega) he]
    congr 1
    exact Nat.eq_of_testBit_eq fun i => by
      rw [Nat.testBit_xor, show 4294967295 = 2 ^ 32 - 1 by decide, Nat.testBit_two_pow_sub_one, show 2 ^ 32 - 1 - e = 2 ^ 32 - (e + 1) by omega, Nat.testBit_two_pow_sub_succ (by omega)]
      by_cases hi : i < 32
      · simp [hi]
      · simp [hi, Nat.testBit_lt_two_pow (x := e) (i := i) (by have := Nat.pow_le_pow_right (n := 2) (by omega) (show 32 ≤ i by omega); omega)]
  have l5 : (4294967295 - e) &&& g < 4294967296 := Nat.and_lt_two_pow (n := 32) _ hg
  have l6 : e &&& f < 4294967296 := Nat.and_lt_two_pow (n := 32) _ hf
  refine ⟨r1 ^^^ r2, r1 ^^^ r2 ^^^ r3, e &&& f, 4294967295 - e, (4294967295 - e) &&& g, (e &&& f) ^^^ ((4294967295 - e) &&& g), (h + (r1 ^^^ r2 ^^^ r3)) % 4294967296, (h + (r1 ^^^ r2 ^^^ r3) + ((e &&& f) ^^^ ((4294967295 - e) &&& g))) % 4294967296, (h + (r1 ^^^ r2 ^^^ r3) + ((e &&& f) ^^^ ((4294967295 - e) &&& g)) + k) % 4294967296,
    xor32 _ _ l1 l2, xor32 _ _ l12 l3, and32 _ _ he hf, e4, and32 _ _ l4 hg, xor32 _ _ l6 l5, ?_, ?_, ?_, ?_⟩
  · rw [IntKind.wrap_u32]; omega
  · rw [IntKind.wrap_u32]; omega
  · rw [IntKind.wrap_u32]; omega
  · rw [IntKind.wrap_u32]; unfold oneW; rw [h1, h2, h3]; omega
theorem two_facts (a b c r1 r2 r3 : Nat) (ha : a < 4294967296) (hb : b < 4294967296) (hc : c < 4294967296) (h1 : rot a 2 = r1) (h2 : rot a 13 = r2) (h3 : rot a 22 = r3) :
    ∃ x1 x2 x3 x4 x5 x6 x7 : Nat, bits .xor .u32 (r1 : Int) (r2 : Int) = (x1 : Int) ∧ bits .xor .u32 (x1 : Int) (r3 : Int) = (x2 : Int) ∧ bits .and .u32 (a : Int) (b : Int) = (x3 : Int) ∧
      bits .and .u32 (a : Int) (c : Int) = (x4 : Int) ∧ bits .xor .u32 (x3 : Int) (x4 : Int) = (x5 : Int) ∧ bits .and .u32 (b : Int) (c : Int) = (x6 : Int) ∧ bits .xor .u32 (x5 : Int) (x6 : Int) = (x7 : Int) ∧
      IntKind.u32.wrap ((x2 : Int) + x7) = (twoW a b c : Nat) := by
  have l1 : r1 < 4294967296 := by rw [← h1]; exact rot_lt _ _ ha
  have l2 : r2 < 4294967296 := by rw [← h2]; exact rot_lt _ _ ha
  have l3 : r3 < 4294967296 := by rw [← h3]; exact rot_lt _ _ ha
  have l12 := Nat.xor_lt_two_pow (n := 32) l1 l2
  have m1 : a &&& b < 4294967296 := Nat.and_lt_two_pow (n := 32) _ hb
  have m2 : a &&& c < 4294967296 := Nat.and_lt_two_pow (n := 32) _ hc
  have m3 : b &&& c < 4294967296 := Nat.and_lt_two_pow (n := 32) _ hc
  have m12 := Nat.xor_lt_two_pow (n := 32) m1 m2
  refine ⟨r1 ^^^ r2, r1 ^^^ r2 ^^^ r3, a &&& b, a &&& c, (a &&& b) ^^^ (a &&& c), b &&& c, (a &&& b) ^^^ (a &&& c) ^^^ (b &&& c), xor32 _ _ l1 l2, xor32 _ _ l12 l3, and32 _ _ ha hb, and32 _ _ ha hc, xor32 _ _ m1 m2, and32 _ _ hb hc, xor32 _ _ m12 m3, ?_⟩
  rw [IntKind.wrap_u32]; unfold twoW; rw [h1, h2, h3]; omega
/-- The first k words of H with those of V added. -/
def addT (H V : List Nat) (k : Nat) : List Nat := (List.zipWith (fun x y => (x + y) % 4294967296) H V).take k ++ H.drop k
theorem addT_zero (H V : List Nat) : addT H V 0 = H := by simp [addT]
theorem addT_all (H V : List Nat) (n : Nat) (h1 : H.length = n) (h2 : V.length = n) : addT H V n = List.zipWith (fun x y => (x + y) % 4294967296) H V := by
  unfold addT
  rw [List.take_of_length_le (by simp; omega), List.drop_eq_nil_of_le (by omega), List.append_nil]
theorem addT_len (H V : List Nat) (k n : Nat) (h1 : H.length = n) (h2 : V.length = n) : (addT H V k).length = n := by
  unfold addT; simp; omega
theorem addT_get : ∀ (H V : List Nat) (k : Nat), k < H.length → k < V.length → (addT H V k).getD k 0 = H.getD k 0 ∧ (addT H V k).set k ((H.getD k 0 + V.getD k 0) % 4294967296) = addT H V (k + 1)
  | h :: H, v :: V, 0, _, _ => by simp [addT]
  | h :: H, v :: V, k + 1, hk, hv => by
    simp only [List.length_cons] at hk hv
    have ih := addT_get H V k (by omega) (by omega)
    have e : ∀ j, addT (h :: H) (v :: V) (j + 1) = (h + v) % 4294967296 :: addT H V j := fun j => by simp [addT]
    rw [e, e]
    simpa using ih
  | [], _, _, hk, _ => by simp at hk
  | _ :: _, [], _, _, hv => by simp at hv
theorem row8_get (V : List Nat) (k : Nat) (h : k < V.length) : (row8 V)[k]? = some (.int .u32 (V.getD k 0 : Nat)) := by
  unfold row8
  simp [h]
theorem row8_set (V : List Nat) (k x : Nat) : (row8 V).setIfInBounds k (.int .u32 (x : Nat)) = row8 (V.set k x) := by
  unfold row8
  simp [List.map_set]
theorem row8_size (V : List Nat) : (row8 V).size = V.length := by simp [row8]
theorem row8_one (W : List Nat) : (row8 W).all (·.oneCell') = true := by
  unfold row8
  rw [List.all_toArray, List.all_eq_true]
  intro x hx
  obtain ⟨k, _, rfl⟩ := List.mem_map.1 hx
  rfl
theorem zip8_ok {H V : List Nat} (h1 : H.length = 8) (h2 : V.length = 8) : Wd8 (List.zipWith (fun x y => (x + y) % 4294967296) H V) := by
  obtain ⟨a, b, c, d, e, f, g, i, rfl⟩ := eight h1
  obtain ⟨a', b', c', d', e', f', g', i', rfl⟩ := eight h2
  refine ⟨rfl, fun x hx => ?_⟩
  simp only [List.zipWith_cons_cons, List.zipWith_nil_left, List.mem_cons, List.not_mem_nil, or_false] at hx
  omega
end Go.Proofs.Ytnhbkfefpkocaaa
