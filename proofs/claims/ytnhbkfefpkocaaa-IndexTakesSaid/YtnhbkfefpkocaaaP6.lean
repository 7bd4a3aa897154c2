/-
  sha: turn; the plain sha. sha: a block's first 16 words; rows of words. No function in sight.
-/
import Derived.Test.YtnhbkfefpkocaaaP1
import Derived.Test.YtnhbkfefpkocaaaProg
import Derived.Lib.Hide
import Derived.BigQuiet
import Derived.Deep.QuietTactic
namespace Go.Proofs.Ytnhbkfefpkocaaa
open Go.RowKit

set_option maxRecDepth 20000 in
set_option maxHeartbeats 2000000 in
theorem turn_any (x k : Nat) (w : World) (h1 : x < 4294967296) (hk : k ≤ 32) :
    Calls Try.prog 108 #[.int .u32 x, .int .i64 k] w fun e w' => e = .returned (.int .u32 (rot x k : Nat)) ∧ ∃ m, w' = w.drewN m := by
  have hr := rot32 x k h1
  go_enter Try.func108, Try.ntmps108
  go_wp2_with fail
  go_quiet (fail)
  go_wp2_with fail
  go_ret
  exact ⟨rfl, _, rfl⟩

def s0W (x : Nat) : Nat := rot x 7 ^^^ rot x 18 ^^^ x / 8
def s1W (x : Nat) : Nat := rot x 17 ^^^ rot x 19 ^^^ x / 1024
/-- The next word of the schedule. -/
def nextW (W : List Nat) : Nat := (W.getD (W.length - 16) 0 + s0W (W.getD (W.length - 15) 0) + W.getD (W.length - 7) 0 + s1W (W.getD (W.length - 2) 0)) % 4294967296
def schedW : Nat → List Nat → List Nat
  | 0, W => W
  | n + 1, W => schedW n (W ++ [nextW W])
/-- Four bytes, the greatest first. -/
def word4 (a b c d : Nat) : Nat := a * 16777216 + b * 65536 + c * 256 + d
def first16 : List UInt8 → List Nat
  | a :: b :: c :: d :: l => word4 a.toNat b.toNat c.toNat d.toNat :: first16 l
  | _ => []
def kTab : List Nat := [1116352408, 1899447441, 3049323471, 3921009573, 961987163, 1508970993, 2453635748, 2870763221, 3624381080, 310598401, 607225278, 1426881987, 1925078388, 2162078206, 2614888103, 3248222580,
  3835390401, 4022224774, 264347078, 604807628, 770255983, 1249150122, 1555081692, 1996064986, 2554220882, 2821834349, 2952996808, 3210313671, 3336571891, 3584528711, 113926993, 338241895,
  666307205, 773529912, 1294757372, 1396182291, 1695183700, 1986661051, 2177026350, 2456956037, 2730485921, 2820302411, 3259730800, 3345764771, 3516065817, 3600352804, 4094571909, 275423344,
  430227734, 506948616, 659060556, 883997877, 958139571, 1322822218, 1537002063, 1747873779, 1955562222, 2024104815, 2227730452, 2361852424, 2428436474, 2756734187, 3204031479, 3329325298]
def oneW (e f g h k w : Nat) : Nat := (h + (rot e 6 ^^^ rot e 11 ^^^ rot e 25) + ((e &&& f) ^^^ ((4294967295 - e) &&& g)) + k + w) % 4294967296
def twoW (a b c : Nat) : Nat := ((rot a 2 ^^^ rot a 13 ^^^ rot a 22) + ((a &&& b) ^^^ (a &&& c) ^^^ (b &&& c))) % 4294967296
/-- A round. -/
def rndW : List Nat → Nat → Nat → List Nat
  | [a, b, c, d, e, f, g, h], k, w => [(oneW e f g h k w + twoW a b c) % 4294967296, a, b, c, (d + oneW e f g h k w) % 4294967296, e, f, g]
  | v, _, _ => v
def rndsW : List Nat → List Nat → List Nat → List Nat
  | v, k :: ks, w :: ws => rndsW (rndW v k w) ks ws
  | v, _, _ => v
/-- A block mixed in. -/
def mixW (h : List Nat) (b : List UInt8) : List Nat := List.zipWith (fun x y => (x + y) % 4294967296) h (rndsW h kTab (schedW 48 (first16 b)))
def startW : List Nat := [1779033703, 3144134277, 1013904242, 2773480762, 1359893119, 2600822924, 528734635, 1541459225]
def bytes4 (x : Nat) : List UInt8 := [UInt8.ofNat (x / 16777216), UInt8.ofNat (x / 65536), UInt8.ofNat (x / 256), UInt8.ofNat x]
/-- All whole blocks of bytes. -/
def blocksW : Nat → List Nat → List UInt8 → List Nat
  | 0, h, _ => h
  | n + 1, h, b => blocksW n (mixW h (b.take 64)) (b.drop 64)
/-- What stands behind a text of n bytes. -/
def padW (n : Nat) : List UInt8 := 128 :: (List.replicate ((119 - n % 64) % 64) 0 ++ bytes4 (n * 8 / 4294967296) ++ bytes4 (n * 8))
def shaW (s : List UInt8) : List UInt8 := (blocksW ((s.length + (padW s.length).length) / 64) startW (s ++ padW s.length)).flatMap bytes4

end Go.Proofs.Ytnhbkfefpkocaaa
namespace Go.Proofs.Ytnhbkfefpkocaaa
open Go.RowKit

theorem shl_or (a b k : Nat) (h : b < 2 ^ k) : a * 2 ^ k ||| b = a * 2 ^ k + b := by
  rw [Nat.mul_comm]
  exact (Nat.two_pow_add_eq_or_of_lt h a).symm
theorem word4_bits (b0 b1 b2 b3 : UInt8) :
    bits .or .u32 (bits .or .u32 (bits .or .u32 ((b0.toNat : Int) % 4294967296 * 16777216 % 4294967296) ((b1.toNat : Int) % 4294967296 * 65536 % 4294967296)) ((b2.toNat : Int) % 4294967296 * 256 % 4294967296)) ((b3.toNat : Int) % 4294967296) = (word4 b0.toNat b1.toNat b2.toNat b3.toNat : Nat) := by
  have h0 := UInt8.toNat_lt b0
  have h1 := UInt8.toNat_lt b1
  have h2 := UInt8.toNat_lt b2
  have h3 := UInt8.toNat_lt b3
  generalize b0.toNat = x0 at *
  generalize b1.toNat = x1 at *
  generalize b2.toNat = x2 at *
  generalize b3.toNat = x3 at *
  rw [show (x0 : Int) % 4294967296 * 16777216 % 4294967296 = ((x0 * 2 ^ 24 : Nat) : Int) by simp only [Nat.reducePow]; omega,
    show (x1 : Int) % 4294967296 * 65536 % 4294967296 = ((x1 * 2 ^ 16 : Nat) : Int) by simp only [Nat.reducePow]; omega,
    show (x2 : Int) % 4294967296 * 256 % 4294967296 = ((x2 * 2 ^ 8 : Nat) : Int) by simp only [Nat.reducePow]; omega,
    show (x3 : Int) % 4294967296 = (x3 : Int) by omega]
  have p24 : (2 : Nat) ^ 24 = 16777216 := rfl
  have p16 : (2 : Nat) ^ 16 = 65536 := rfl
  have p8 : (2 : Nat) ^ 8 = 256 := rfl
  rw [or32 _ _ (by rw [p24]; omega) (by rw [p16]; omega), shl_or x0 _ 24 (by rw [p16, p24]; omega), or32 _ _ (by rw [p24, p16]; omega) (by rw [p8]; omega)]
  rw [show x0 * 2 ^ 24 + x1 * 2 ^ 16 = (x0 * 256 + x1) * 2 ^ 16 by rw [p24, p16]; omega, shl_or _ _ 16 (by rw [p8, p16]; omega), or32 _ _ (by rw [p8, p16]; omega) (by omega)]
  rw [show (x0 * 256 + x1) * 2 ^ 16 + x2 * 2 ^ 8 = ((x0 * 256 + x1) * 256 + x2) * 2 ^ 8 by rw [p16, p8]; omega, shl_or _ _ 8 (by rw [p8]; omega)]
  unfold word4
  rw [p8]
  refine congrArg (fun n : Nat => (n : Int)) ?_
  omega
theorem first16_len : ∀ (i : Nat) (b : List UInt8), 4 * i ≤ b.length → (first16 (b.take (4 * i))).length = i
  | 0, b, _ => by simp [first16]
  | i + 1, x0 :: x1 :: x2 :: x3 :: l, h => by
    rw [show 4 * (i + 1) = 4 * i + 1 + 1 + 1 + 1 by omega]
    simp only [List.take_succ_cons, first16, List.length_cons]
    rw [first16_len i l (by simp at h; omega)]
  | i + 1, [], h | i + 1, [_], h | i + 1, [_, _], h | i + 1, [_, _, _], h => by simp at h <;> omega
theorem first16_step : ∀ (i : Nat) (b : List UInt8) (b0 b1 b2 b3 : UInt8), b[4 * i]? = some b0 → b[4 * i + 1]? = some b1 → b[4 * i + 2]? = some b2 → b[4 * i + 3]? = some b3 →
    first16 (b.take (4 * (i + 1))) = first16 (b.take (4 * i)) ++ [word4 b0.toNat b1.toNat b2.toNat b3.toNat]
  | 0, x0 :: x1 :: x2 :: x3 :: l, b0, b1, b2, b3, h0, h1, h2, h3 => by
    simp at h0 h1 h2 h3
    subst h0 h1 h2 h3
    simp [first16]
  | i + 1, x0 :: x1 :: x2 :: x3 :: l, b0, b1, b2, b3, h0, h1, h2, h3 => by
    have ih := first16_step i l b0 b1 b2 b3
    rw [show 4 * (i + 1) = 4 * i + 1 + 1 + 1 + 1 by omega] at h0 h1 h2 h3
    rw [show 4 * (i + 1 + 1) = 4 * (i + 1) + 1 + 1 + 1 + 1 by omega, show 4 * (i + 1) = 4 * i + 1 + 1 + 1 + 1 by omega]
    simp only [List.take_succ_cons, first16, List.cons_append]
    rw [show 4 * i + 1 + 1 + 1 + 1 = 4 * (i + 1) by omega, ih (by simpa using h0) (by simpa using h1) (by simpa using h2) (by simpa using h3)]
  | i, [], b0, _, _, _, h, _, _, _ => by simp at h
  | i, [_], _, b1, _, _, _, h, _, _ => by rw [List.getElem?_eq_none (by simp)] at h; cases h
  | i, [_, _], _, _, b2, _, _, _, h, _ => by rw [List.getElem?_eq_none (by simp)] at h; cases h
  | i, [_, _, _], _, _, _, b3, _, _, _, h => by rw [List.getElem?_eq_none (by simp)] at h; cases h
end Go.Proofs.Ytnhbkfefpkocaaa
