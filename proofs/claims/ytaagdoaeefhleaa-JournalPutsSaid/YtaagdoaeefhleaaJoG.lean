/-
  Chapter 23's example (awake).
-/
import Derived.Test.YtaagdoaeefhleaaJoF
namespace Go.Proofs.Ytaagdoaeefhleaa
open Go.RowKit

theorem zeros_is (n : Int) (k : Nat) (hn : n = k) (c : ByteArray) (hc : ofL (List.replicate k 0) = c) (w : World) (hk : k ≤ 1000) : Calls Try.prog 10 #[.int .i64 n] w fun e w' => e = .returned (.string c) ∧ Below w.heap.size w w' := by subst hc; subst hn; exact zeros_any k w hk
theorem new_is (n : Int) (L : List Bool) (h : newB n = L) (w : World) : Calls Try.prog 11 #[.int .i64 n] w fun e w' => e = .returned (.agg #[.int .i64 (L.length : Nat), .int .u64 (wdN L 0 : Nat), .int .u64 (wdN L 1 : Nat), .int .u64 (wdN L 2 : Nat), .int .u64 (wdN L 3 : Nat)]) ∧ Below w.heap.size w w' := by subst h; exact new_any n w
theorem with_is (L : List Bool) (i : Int) (M : List Bool) (h : setB L i true = M) (hL : L.length ≤ 256) (w : World) : Calls Try.prog 12 #[.agg #[.int .i64 (L.length : Nat), .int .u64 (wdN L 0 : Nat), .int .u64 (wdN L 1 : Nat), .int .u64 (wdN L 2 : Nat), .int .u64 (wdN L 3 : Nat)], .int .i64 i] w fun e w' => e = .returned (.agg #[.int .i64 (M.length : Nat), .int .u64 (wdN M 0 : Nat), .int .u64 (wdN M 1 : Nat), .int .u64 (wdN M 2 : Nat), .int .u64 (wdN M 3 : Nat)]) ∧ Below w.heap.size w w' := by subst h; exact with_any L i w hL
theorem jput_is (id : Int) (sa : ByteArray) (n bs raw : Int) (ro ta : ByteArray) (ba : Int) (L : List Bool) (s : ByteArray) (k : Int) (hs : jS id sa n bs raw ro ta ba L = s) (hk : okE (recOk id sa n bs raw ro ta ba L) = k) (w : World) :
    Calls Try.prog 7 #[.agg #[.int .i64 id, .string sa, .int .i64 n, .int .i64 bs, .int .i64 raw, .string ro, .string ta, .int .i64 ba, .int .i64 (L.length : Nat), .int .u64 (wdN L 0 : Nat), .int .u64 (wdN L 1 : Nat), .int .u64 (wdN L 2 : Nat), .int .u64 (wdN L 3 : Nat)]] w fun e w' => e = .returned (.tuple #[.string s, .int .i64 k]) ∧ Below w.heap.size w w' := by subst hs; subst hk; exact jput_any id sa n bs raw ro ta ba L w
theorem jcheck_is (id : Int) (sa : ByteArray) (n bs raw : Int) (ro ta : ByteArray) (ba : Int) (L : List Bool) (k : Int) (hk : okE (recOk id sa n bs raw ro ta ba L) = k) (w : World) :
    Calls Try.prog 9 #[.agg #[.int .i64 id, .string sa, .int .i64 n, .int .i64 bs, .int .i64 raw, .string ro, .string ta, .int .i64 ba, .int .i64 (L.length : Nat), .int .u64 (wdN L 0 : Nat), .int .u64 (wdN L 1 : Nat), .int .u64 (wdN L 2 : Nat), .int .u64 (wdN L 3 : Nat)]] w fun e w' => e = .returned (.int .i64 k) ∧ Below w.heap.size w w' := by subst hk; exact jcheck_any id sa n bs raw ro ta ba L w
theorem jputRef_is (id : Int) (sa : ByteArray) (n bs raw : Int) (ro ta : ByteArray) (ba : Int) (A : Option Addr) (m c : Nat) (L : List Bool) (s : ByteArray) (k : Int) (hs : jS id sa n bs raw ro ta ba L = s) (hk : okE (recOk id sa n bs raw ro ta ba L) = k) (w : World) (hL : L.length = m) (hm : m ≤ 256) (hr : Rd w A (L.map Value.bool)) :
    Calls Try.prog 8 #[.agg #[.int .i64 id, .string sa, .int .i64 n, .int .i64 bs, .int .i64 raw, .string ro, .string ta, .int .i64 ba], .slice A m c] w fun e w' => e = .returned (.tuple #[.string s, .int .i64 k]) ∧ Below w.heap.size w w' := by subst hs; subst hk; exact jputRef_any id sa n bs raw ro ta ba A m c L w hL hm hr

theorem awk_bytes : (jS 7 (ofL (List.replicate 16 0)) 5 900 9 (ofL (List.replicate 32 0)) (ofL (List.replicate 32 0)) 13 [true, false, false, true, false]).toList =
    [83, 76, 74, 49] ++ ([83, 76, 71, 49] ++ be 7 4 ++ List.replicate 16 0 ++ be 5 2 ++ be 900 4 ++ be 9 4 ++ List.replicate 32 0 ++ List.replicate 32 0) ++ be 13 2 ++ putW [true, false, false, true, false] 4 := by
  have h : recOk 7 (ofL (List.replicate 16 0)) 5 900 9 (ofL (List.replicate 32 0)) (ofL (List.replicate 32 0)) 13 [true, false, false, true, false] = true := by decide
  unfold jS
  rw [h]
  unfold allS hdrS
  rw [if_pos rfl]
  simp only [toList_app, toList_ofL]
  rw [show (⟨#[83, 76, 74, 49]⟩ : ByteArray).toList = [83, 76, 74, 49] from toList_ofL [83, 76, 74, 49], show (⟨#[83, 76, 71, 49]⟩ : ByteArray).toList = [83, 76, 71, 49] from toList_ofL [83, 76, 71, 49]]
theorem awk_list : ([83, 76, 74, 49] ++ ([83, 76, 71, 49] ++ be 7 4 ++ List.replicate 16 0 ++ be 5 2 ++ be 900 4 ++ be 9 4 ++ List.replicate 32 0 ++ List.replicate 32 0) ++ be 13 2 ++ putW [true, false, false, true, false] 4 : List UInt8) =
    [83, 76, 74, 49, 83, 76, 71, 49, 0, 0, 0, 7] ++ List.replicate 16 0 ++ [0, 5, 0, 0, 3, 132, 0, 0, 0, 9] ++ List.replicate 64 0 ++ [0, 13, 0, 0, 0, 0, 0, 0, 0, 9] ++ List.replicate 24 0 := by decide +kernel
end Go.Proofs.Ytaagdoaeefhleaa
