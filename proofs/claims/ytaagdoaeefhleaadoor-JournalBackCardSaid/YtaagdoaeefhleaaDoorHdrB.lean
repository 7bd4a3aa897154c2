/-
  header.Take of a header's own bytes.
-/
import Derived.Test.YtaagdoaeefhleaaDoorP4
namespace Go.Proofs.YtaagdoaeefhleaaDoor
open Go.RowKit

theorem nm_be {x : Int} {k : Nat} {l : List UInt8} (h0 : 0 ≤ x) (h1 : x < 256 ^ k) : nmH (ofL (be x k ++ l)) k = x := by
  unfold nmH
  rw [toList_ofL, List.take_left' (be_length x k), num_be, Int.emod_eq_of_lt h0 h1]
theorem suf_of (a l : List UInt8) (k : Nat) (h : a.length = k) : (ofL (a ++ l)).extract k (ofL (a ++ l)).size = ofL l := str_eq (by rw [toList_suf, toList_ofL, toList_ofL, List.drop_left' h])
theorem take_be {x : Int} {k : Nat} {l : List UInt8} (h0 : 0 ≤ x) (h1 : x < 256 ^ k) (hk : 1 ≤ k) (hk4 : k ≤ 4) : takeF (ofL (be x k ++ l)).toList (k : Int) = (x, (ofL l).toList, 0) := by
  rw [takeF_k (ofL (be x k ++ l)) k hk hk4 (by rw [size_ofL, List.length_append, be_length]; omega), nm_be h0 h1, suf_of _ _ _ (be_length x k)]
theorem pre_of (t : ByteArray) (l : List UInt8) (k : Nat) (h : t.size = k) : (ofL (t.toList ++ l)).extract 0 k = t := str_eq (by rw [toList_ext, toList_ofL, List.drop_zero, Nat.sub_zero, List.take_left' (by rw [size_toList]; exact h)])
theorem parts_own (s : ByteArray) (id : Int) (sa : ByteArray) (n bs raw : Int) (ro ta : ByteArray) (hok : hdrOk id sa n bs raw ro ta = true)
    (hs : s.toList = [83, 76, 71, 49] ++ (be id 4 ++ (sa.toList ++ (be n 2 ++ (be bs 4 ++ (be raw 4 ++ (ro.toList ++ ta.toList))))))) :
    ∃ c1 c2 c3 c4 c5 c6 c7 c8, Parts s id sa n bs raw ro ta c1 c2 c3 c4 c5 c6 c7 c8 := by
  unfold hdrOk at hok
  obtain ⟨a1, a2, a3, a4, a5, a6, a7, a8, a9, a10⟩ := of_decide_eq_true hok
  have e : s = ofL ([83, 76, 71, 49] ++ (be id 4 ++ (sa.toList ++ (be n 2 ++ (be bs 4 ++ (be raw 4 ++ (ro.toList ++ ta.toList))))))) := by rw [← hs, ofL_toList]
  have hta : (ofL ta.toList) = ta := ofL_toList ta
  refine ⟨ofL (be id 4 ++ (sa.toList ++ (be n 2 ++ (be bs 4 ++ (be raw 4 ++ (ro.toList ++ ta.toList)))))), ofL (sa.toList ++ (be n 2 ++ (be bs 4 ++ (be raw 4 ++ (ro.toList ++ ta.toList))))), ofL (be n 2 ++ (be bs 4 ++ (be raw 4 ++ (ro.toList ++ ta.toList)))), ofL (be bs 4 ++ (be raw 4 ++ (ro.toList ++ ta.toList))), ofL (be raw 4 ++ (ro.toList ++ ta.toList)), ofL (ro.toList ++ ta.toList), ofL ta.toList, (ofL ta.toList).extract 32 (ofL ta.toList).size, ?_⟩
  unfold Parts
  rw [e]
  refine ⟨suf_of _ _ 4 rfl, ?_, take_be (by omega) (by omega) (by omega) (by omega), ?_, pre_of _ _ 16 a3, suf_of _ _ 16 (by rw [size_toList]; exact a3), ?_, take_be (by omega) (by omega) (by omega) (by omega), ?_,
    take_be (by omega) (by omega) (by omega) (by omega), ?_, take_be (by omega) (by omega) (by omega) (by omega), ?_, pre_of _ _ 32 a4, suf_of _ _ 32 (by rw [size_toList]; exact a4), ?_, ?_, rfl, ?_⟩
  · rw [size_ofL]; simp only [List.length_append, be_length, size_toList]; omega
  · rw [size_ofL]; simp only [List.length_append, be_length, size_toList]; omega
  · rw [size_ofL]; simp only [List.length_append, be_length, size_toList]; omega
  · rw [size_ofL]; simp only [List.length_append, be_length, size_toList]; omega
  · rw [size_ofL]; simp only [List.length_append, be_length, size_toList]; omega
  · rw [size_ofL]; simp only [List.length_append, be_length, size_toList]; omega
  · rw [size_ofL, size_toList]; exact a5
  · rw [hta]; exact str_eq (by rw [toList_ext, List.drop_zero, Nat.sub_zero, List.take_of_length_le (by rw [size_toList]; omega)])
  · rw [hta, suf_size _ _ (by omega)]; omega
theorem htake_own (s : ByteArray) (id : Int) (sa : ByteArray) (n bs raw : Int) (ro ta : ByteArray) (hok : hdrOk id sa n bs raw ro ta = true)
    (hs : s.toList = [83, 76, 71, 49] ++ (be id 4 ++ (sa.toList ++ (be n 2 ++ (be bs 4 ++ (be raw 4 ++ (ro.toList ++ ta.toList))))))) (w : World) :
    Calls Tryd.prog 26 #[.string s] w fun e w' => e = .returned (.tuple #[.agg #[.int .i64 id, .string sa, .int .i64 n, .int .i64 bs, .int .i64 raw, .string ro, .string ta], .int .i64 0]) ∧ Below w.heap.size w w' := by
  obtain ⟨c1, c2, c3, c4, c5, c6, c7, c8, hp⟩ := parts_own s id sa n bs raw ro ta hok hs
  have hok2 := hok
  unfold hdrOk at hok2
  obtain ⟨a1, a2, a3, a4, a5, a6, a7, a8, a9, a10⟩ := of_decide_eq_true hok2
  have h98 : s.size = 98 := by rw [← size_toList, hs]; simp only [List.length_append, be_length, size_toList, List.length_cons, List.length_nil]; omega
  have hq : ((s.extract 0 4).toList == [83, 76, 71, 49]) = true := by rw [toList_ext, hs, List.drop_zero]; simp
  refine (htake_parts s w h98 hq id sa n bs raw ro ta c1 c2 c3 c4 c5 c6 c7 c8 hp).mono ?_
  rintro e w' ⟨he, hb⟩
  rw [hok] at he
  exact ⟨he, hb⟩
end Go.Proofs.YtaagdoaeefhleaaDoor
