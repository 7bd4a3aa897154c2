/-
  The walk of the reference's Take.
-/
import Derived.Test.YtaagdoaeefhleaaDoorBitS
import Derived.Test.YtaagdoaeefhleaaDoorP7
import Derived.Deep.RegionHeld3
import Derived.Deep.Cut
import Derived.Deep.CutRange
namespace Go.Proofs.YtaagdoaeefhleaaDoor
open Go.RowKit

/-- What the reference's Take leaves. -/
def RTEnd (w : World) (L : List Bool) (code : Int) (e : Ending) (w' : World) : Prop := ∃ A c, e = .returned (.tuple #[.slice A L.length c, .int .i64 code]) ∧ L.length ≤ c ∧ c ≤ maxLen ∧ Rd w' A (L.map Value.bool) ∧ Below w.heap.size w w'
theorem RTEnd.nil (w w' : World) (code : Int) (hb : Below w.heap.size w w') : RTEnd w [] code (.returned (.tuple #[.slice none 0 0, .int .i64 code])) w' :=
  ⟨none, 0, rfl, by simp, by simp, Rd.nil _ _, hb⟩

theorem i64_and1 (u : Int) : bits .and .i64 u 1 = u % 2 := by
  show IntKind.i64.wrap ((BitVec.ofInt 64 u &&& BitVec.ofInt 64 1).toNat : Int) = _
  rw [BitVec.toNat_and, show (BitVec.ofInt 64 1).toNat = 2 ^ 1 - 1 from rfl, Nat.and_two_pow_sub_one_eq_mod, BitVec.toNat_ofInt, IntKind.wrap_i64]
  simp only [Nat.reducePow]
  omega
theorem byte_bit (x r : Nat) (hx : x < 256) : (bits .and .i64 (wrap64 (x : Int) / 2 ^ r) 1 == 1) = x.testBit r := by
  rw [i64_and1, show wrap64 (x : Int) = x by unfold wrap64; omega, Nat.testBit_eq_decide_div_mod_eq]
  have e : (2 : Int) ^ r = ((2 ^ r : Nat) : Int) := by simp
  rw [e, show ((x : Int) / ((2 ^ r : Nat) : Int)) = ((x / 2 ^ r : Nat) : Int) by simp]
  generalize x / 2 ^ r = y
  by_cases h : y % 2 = 1
  · rw [decide_eq_true h, beq_iff_eq]; omega
  · rw [decide_eq_false h, beq_eq_false_iff_ne]; omega
theorem bit_at (s : ByteArray) (k : Nat) (hk : k < 256) (h : 8 * (k / 64) + 7 - k % 64 / 8 < s.size) : (bits .and .i64 (wrap64 ((s[8 * (k / 64) + 7 - k % 64 / 8]'h).toNat : Int) / 2 ^ (k % 8)) 1 == 1) = (bitsT s.toList).getD k false := by
  have hb := UInt8.toNat_lt (s[8 * (k / 64) + 7 - k % 64 / 8]'h)
  rw [byte_bit _ _ hb, bitsT_getD _ _ hk, bitAt, getElem_toList]
  congr 2
  rw [List.getD_eq_getElem?_getD, List.getElem?_eq_getElem (by rw [size_toList]; exact h)]
  rfl
theorem takeB_bad (N : Nat) (s : List UInt8) (hN : N ≤ 256) (hs : s.length = 32) (k : Nat) (h : (bitsT s).getD k false = true) (hk : N ≤ k) : takeB (N : Nat) s = ([], 2) := by
  have hw : wiR (bitsT s) (fullB N) 0 ≠ true := fun hw => by have := full_ok _ _ hw k h; omega
  unfold takeB
  rw [if_neg (by omega), if_neg (by omega), show ((N : Int)).toNat = N from by omega, if_neg hw]
theorem takeB_ok (N : Nat) (s : List UInt8) (hN : N ≤ 256) (hs : s.length = 32) (h : ∀ j, j < 256 → (bitsT s).getD j false = true → j < N) : takeB (N : Nat) s = ((bitsT s).take N, 0) := by
  have hw : wiR (bitsT s) (fullB N) 0 = true := by
    rw [wiR_iff]
    intro i _ hi
    have := getD_in hi
    rw [bitsT_length] at this
    rw [fullB_getD, decide_eq_true_eq]
    exact h i this hi
  unfold takeB
  rw [if_neg (by omega), if_neg (by omega), show ((N : Int)).toNat = N from by omega, if_pos hw]
theorem take_more (T : List Bool) (N k : Nat) (h : k < T.length) (hk : k < N) (b : Bool) (hb : T.getD k false = b) : (T.take (min k N)).map Value.bool ++ [Value.bool b] = (T.take (min (k + 1) N)).map Value.bool := by
  rw [show min k N = k by omega, show min (k + 1) N = k + 1 by omega, List.take_succ_eq_append_getElem h, List.map_append, ← hb, List.getD_eq_getElem?_getD, List.getElem?_eq_getElem h]
  rfl

set_option maxRecDepth 20000 in
set_option maxHeartbeats 4000000 in
theorem takeRef_any (n : Int) (s : ByteArray) (w : World) (_hs : s.size ≤ 9223372036854775807) :
    Calls Tryd.prog 32 #[.int .i64 n, .string s] w (RTEnd w (takeB n s.toList).1 (takeB n s.toList).2) := by
  by_cases h0 : n < 0
  · have H := Lib.hid (show takeB n s.toList = ([], 1) by unfold takeB; rw [if_pos (.inl h0)])
    rw [H.out]
    go_enter Tryd.func32, Tryd.ntmps32
    go_wp2
    go_ret2
    exact RTEnd.nil _ _ _ (Below.refl _ _)
  · by_cases h1 : 256 < n
    · have H := Lib.hid (show takeB n s.toList = ([], 1) by unfold takeB; rw [if_pos (.inr h1)])
      rw [H.out]
      go_enter Tryd.func32, Tryd.ntmps32
      go_wp2
      go_ret2
      exact RTEnd.nil _ _ _ (Below.refl _ _)
    · by_cases h2 : s.size = 32
      · have Hsz := Lib.hid h2
        obtain ⟨N, rfl⟩ : ∃ N : Nat, n = N := ⟨n.toNat, by omega⟩
        have e32 : ((s.size : Int) == 32) = true := by rw [h2]; rfl
        have e32' : ((s.size : Int) != 32) = false := by rw [h2]; rfl
        obtain ⟨T, hT⟩ : ∃ T, bitsT s.toList = T := ⟨_, rfl⟩
        have HT := Lib.hid hT
        clear hT h2
        go_enter Tryd.func32, Tryd.ntmps32
        go_wp2
        go_loopw [6, 7, 8, 9] (fun v i _ _ wr => ∃ k : Nat, k ≤ 256 ∧ i = .int .i64 k ∧ wr.ownsRow w.heap.size 4 1 v (min k N) ((T.take (min k N)).map Value.bool) ∧ Hid (∀ j, j < k → T.getD j false = true → j < N) ∧ Below w.heap.size w wr) (fun _ i _ _ _ => 256 - (intOf i).toNat)
        case atStart => exact ⟨0, by omega, rfl, by simpa using World.ownsRow_nil _ _ _ _, fun j hj => by omega, Below.refl _ _⟩
        case round =>
          obtain ⟨k, hk, rfl, hown, Hin, hb⟩ := hrel
          have hsz := hb.size
          by_cases hlt : (k : Int) < 256
          · have hin : 8 * (k / 64) + 7 - k % 64 / 8 < s.size := by rw [Hsz.out]; omega
            have htest := bit_at s k (by omega) hin
            rw [HT.out] at htest
            by_cases hkN : (k : Int) < (N : Int)
            · have hkN2 : ¬ (N : Int) ≤ (k : Int) := by omega
              rcases hv : T.getD k false with _ | _
              all_goals
                have Hmore := Lib.hid (take_more T N k (by rw [← HT.out, bitsT_length]; omega) (by omega) _ hv)
                have Hin2 : Hid (∀ j, j < k + 1 → T.getD j false = true → j < N) := fun j hj _ => by omega
                have hm1 : min k N + 1 = min (k + 1) N := by omega
                have Hm1 := Lib.hid hm1
                rw [hv] at htest
                clear hv hm1
                go_wp2_with (at_builtin; go_must (refine wpList_append_new wr rfl (.tmp 49) (.tmp 51) 33 rfl w.heap.size 4 1 1 el_bool _ _ _ hown rfl _ rfl rfl (by intro u hu; simp at hu; subst hu; rfl) (by unfold maxLen; omega) (by omega) hsz ?_); intro v1 w1 hown1 hb1)
                go_roundw
                case rel => exact ⟨k + 1, by omega, by go_num, by rw [← Hmore.out, ← Hm1.out]; exact hown1, Hin2, hb.trans hb1⟩
                case measure => simp [intOf]; omega
            · have hkN2 : (N : Int) ≤ (k : Int) := by omega
              rcases hv : T.getD k false with _ | _
              · have Hin2 : Hid (∀ j, j < k + 1 → T.getD j false = true → j < N) := fun j hj hj2 => by
                  by_cases hjk : j = k
                  · subst hjk; rw [hv] at hj2; cases hj2
                  · exact Hin.out j (by omega) hj2
                have Hm1 := Lib.hid (show min (k + 1) N = min k N by omega)
                rw [hv] at htest
                clear hv
                go_wp2
                go_roundw
                case rel => exact ⟨k + 1, by omega, by go_num, by rw [Hm1.out]; exact hown, Hin2, hb⟩
                case measure => simp [intOf]; omega
              · have H := Lib.hid (takeB_bad N s.toList (by omega) (by rw [size_toList]; exact Hsz.out) k (by rw [HT.out]; exact hv) (by omega))
                rw [hv] at htest
                clear hv
                go_wp2
                go_ret2
                rw [H.out]
                exact RTEnd.nil _ _ _ hb
          · obtain rfl : k = 256 := by omega
            have H := Lib.hid (takeB_ok N s.toList (by omega) (by rw [size_toList]; exact Hsz.out) (by rw [HT.out]; exact Hin.out))
            have HN := Lib.hid (show min 256 N = N by omega)
            have HNl := Lib.hid (show (T.take N).length = N by rw [List.length_take, ← HT.out, bitsT_length]; omega)
            go_wp2
            go_ret2
            rw [H.out, HT.out]
            rw [HN.out] at hown
            obtain ⟨_, A1, c1, rfl, hn1, hm1, hr1⟩ := Sl.own hown
            exact ⟨A1, c1, by rw [HNl.out]; rfl, by rw [HNl.out]; exact hn1, hm1, hr1, hb⟩
      · have H := Lib.hid (show takeB n s.toList = ([], 2) by unfold takeB; rw [if_neg (by omega), if_pos (by rw [size_toList]; exact h2)])
        rw [H.out]
        have e32 : ((s.size : Int) == 32) = false := beq_eq_false_iff_ne.2 (by omega)
        go_enter Tryd.func32, Tryd.ntmps32
        go_wp2
        go_ret2
        exact RTEnd.nil _ _ _ (Below.refl _ _)
end Go.Proofs.YtaagdoaeefhleaaDoor
