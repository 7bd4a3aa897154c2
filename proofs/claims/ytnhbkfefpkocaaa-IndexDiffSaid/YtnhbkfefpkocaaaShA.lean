/-
  sha: turn; the plain sha.
-/
import Derived.Test.YtnhbkfefpkocaaaShP
import Derived.Test.YtnhbkfefpkocaaaProg
import Derived.Lib.Hide
import Derived.BigQuiet
import Derived.Deep.QuietTactic
namespace Go.Proofs.Ytnhbkfefpkocaaa
open Go.RowKit

set_option maxRecDepth 20000 in
set_option maxHeartbeats 2000000 in
theorem turn_any (x k : Nat) (w : World) (h1 : x < 4294967296) (hk : k ≤ 32) :
    Calls Try.prog 108 #[.int .u32 x, .int .i64 k] w fun e w' => e = .returned (.int .u32 (rot x k : Nat)) ∧ ∃ m, w' = w.drewN m := by
  have hr := rot32 x k h1
  go_enter Try.func108, Try.ntmps108
  go_wp2_with fail
  go_quiet (fail)
  go_wp2_with fail
  go_ret
  exact ⟨rfl, _, rfl⟩

def s0W (x : Nat) : Nat := rot x 7 ^^^ rot x 18 ^^^ x / 8
def s1W (x : Nat) : Nat := rot x 17 ^^^ rot x 19 ^^^ x / 1024
/-- The next word of the schedule. -/
def nextW (W : List Nat) : Nat := (W.getD (W.length - 16) 0 + s0W (W.getD (W.length - 15) 0) + W.getD (W.length - 7) 0 + s1W (W.getD (W.length - 2) 0)) % 4294967296
def schedW : Nat → List Nat → List Nat
  | 0, W => W
  | n + 1, W => schedW n (W ++ [nextW W])
/-- Four bytes, the greatest first. -/
def word4 (a b c d : Nat) : Nat := a * 16777216 + b * 65536 + c * 256 + d
def first16 : List UInt8 → List Nat
  | a :: b :: c :: d :: l => word4 a.toNat b.toNat c.toNat d.toNat :: first16 l
  | _ => []
def kTab : List Nat := [1116352408, 1899447441, 3049323471, 3921009573, 961987163, 1508970993, 2453635748, 2870763221, 3624381080, 310598401, 607225278, 1426881987, 1925078388, 2162078206, 2614888103, 3248222580,
  3835390401, 4022224774, 264347078, 604807628, 770255983, 1249150122, 1555081692, 1996064986, 2554220882, 2821834349, 2952996808, 3210313671, 3336571891, 3584528711, 113926993, 338241895,
  666307205, 773529912, 1294757372, 1396182291, 1695183700, 1986661051, 2177026350, 2456956037, 2730485921, 2820302411, 3259730800, 3345764771, 3516065817, 3600352804, 4094571909, 275423344,
  430227734, 506948616, 659060556, 883997877, 958139571, 1322822218, 1537002063, 1747873779, 1955562222, 2024104815, 2227730452, 2361852424, 2428436474, 2756734187, 3204031479, 3329325298]
def oneW (e f g h k w : Nat) : Nat := (h + (rot e 6 ^^^ rot e 11 ^^^ rot e 25) + ((e &&& f) ^^^ ((4294967295 - e) &&& g)) + k + w) % 4294967296
def twoW (a b c : Nat) : Nat := ((rot a 2 ^^^ rot a 13 ^^^ rot a 22) + ((a &&& b) ^^^ (a &&& c) ^^^ (b &&& c))) % 4294967296
/-- A round. -/
def rndW : List Nat → Nat → Nat → List Nat
  | [a, b, c, d, e, f, g, h], k, w => [(oneW e f g h k w + twoW a b c) % 4294967296, a, b, c, (d + oneW e f g h k w) % 4294967296, e, f, g]
  | v, _, _ => v
def rndsW : List Nat → List Nat → List Nat → List Nat
  | v, k :: ks, w :: ws => rndsW (rndW v k w) ks ws
  | v, _, _ => v
/-- A block mixed in. -/
def mixW (h : List Nat) (b : List UInt8) : List Nat := List.zipWith (fun x y => (x + y) % 4294967296) h (rndsW h kTab (schedW 48 (first16 b)))
def startW : List Nat := [1779033703, 3144134277, 1013904242, 2773480762, 1359893119, 2600822924, 528734635, 1541459225]
def bytes4 (x : Nat) : List UInt8 := [UInt8.ofNat (x / 16777216), UInt8.ofNat (x / 65536), UInt8.ofNat (x / 256), UInt8.ofNat x]
/-- All whole blocks of bytes. -/
def blocksW : Nat → List Nat → List UInt8 → List Nat
  | 0, h, _ => h
  | n + 1, h, b => blocksW n (mixW h (b.take 64)) (b.drop 64)
/-- What stands behind a text of n bytes. -/
def padW (n : Nat) : List UInt8 := 128 :: (List.replicate ((119 - n % 64) % 64) 0 ++ bytes4 (n * 8 / 4294967296) ++ bytes4 (n * 8))
def shaW (s : List UInt8) : List UInt8 := (blocksW ((s.length + (padW s.length).length) / 64) startW (s ++ padW s.length)).flatMap bytes4

end Go.Proofs.Ytnhbkfefpkocaaa
