/-
  The walks of enc.PutNum and sledgeref01.PutAll: a list's numbers, one behind the other. The walks of sledgeref01.PutAll, enc.TakeNum, sledgeref01.TakeNum, the texts, Fixed and Take.
-/
import Derived.Test.YtnhbkfefpkocaaaEnc
import Derived.Deep.DeepMust
namespace Go.Proofs.Ytnhbkfefpkocaaa
open Go.RowKit

theorem Try.info5 : (Try.prog.info? 5).map (fun i => (i.zero, i.size, i.bytes)) = some (some (.int .u8 0), 1, 1) := by kernel_rfl

theorem el_byte : El Try.prog 80 5 1 1 := El.mk_ (z := .int .u8 0) Try.underlying80 Try.info5 (by omega) rfl

/-- The bytes that are laid when the number's first j bytes are. -/
def putPart (x : Nat) (j : Nat) : List UInt8 := byteOf ((247 + wid x : Nat) : Int) :: (be (x : Int) (wid x)).take j
theorem putPart_all (x : Nat) (h : 248 ≤ x) : putPart x (wid x) = putN x := by
  rw [putN_mid x h, putPart, List.take_of_length_le (by rw [be_length]; omega)]
theorem putPart_snoc (x j : Nat) (h : j < wid x) : putPart x (j + 1) = putPart x j ++ [byteOf ((x : Int) / 2 ^ (8 * (wid x - 1 - j)))] := by
  rw [putPart, be_take _ _ _ h]; rfl
theorem putPart_length (x j : Nat) (h : j ≤ wid x) : (putPart x j).length = j + 1 := by
  rw [putPart, List.length_cons, List.length_take, be_length]; omega
theorem take_snoc {α : Type} (l : List α) (k : Nat) (h : k < l.length) : l.take (k + 1) = l.take k ++ [l[k]] := List.take_succ_eq_append_getElem h

theorem width_int (n : Int) (w : World) (h0 : 0 ≤ n) (hn : n ≤ 72057594037927935) :
    Calls Try.prog 69 #[.int .i64 n] w fun e w' => e = .returned (.int .i64 (wid n.toNat)) ∧ w = w' := by
  have h := width_any n.toNat w (by omega)
  rwa [show ((n.toNat : Nat) : Int) = n from by omega] at h

theorem width_max (w : World) :
    Calls Try.prog 69 #[.int .i64 72057594037927935] w fun e w' => e = .returned (.int .i64 7) ∧ w = w' := by
  have h := width_int 72057594037927935 w (by omega) (by omega)
  exact h

set_option maxHeartbeats 2000000 in
theorem putNum_any (A : Option Addr) (n c : Nat) (xs : List Int) (w : World) (hx : xs.length = n) (hr : Rd w A (xs.map (Value.int .i64))) (hn : n ≤ 1000000000000) :
    Calls Try.prog 41 #[.slice A n c] w fun e w' => e = .returned (.string (ofL (putNums xs))) ∧ Below w.heap.size w w' := by
  go_enter Try.func41, Try.ntmps41
  go_wp2
  go_loopw [3, 5, 6, 7, 10] (fun b x5 x6 x7 i wr => ∃ k : Nat, k ≤ n ∧ i = .int .i64 k ∧ wr.ownsRow w.heap.size 5 1 b (putNums (xs.take k)).length (byteVals (putNums (xs.take k))) ∧ Below w.heap.size w wr) (fun _ _ _ _ i _ => n - (intOf i).toNat)
  case atStart => exact ⟨0, by omega, rfl, World.ownsRow_nil _ _ _ _, Below.refl _ _⟩
  case round =>
    obtain ⟨k, hk, rfl, hown, hb⟩ := hrel
    have hsz := hb.size
    by_cases hlt : k < n
    · obtain ⟨bb, oo, rfl, hcell⟩ := (hr.below hb).at_ (k := k) (by simp; omega)
      have hsn : putNums (xs.take (k + 1)) = putNums (xs.take k) ++ putN (clampN xs[k]) := by rw [take_snoc _ _ (by omega), putNums_snoc]
      have hlen : (putNums (xs.take k)).length ≤ 9 * n := by have := putNums_length (xs.take k); have := List.length_take_le k xs; omega
      rw [List.getElem_map] at hcell
      generalize xs[k] = x at hcell hsn
      have Hsn := Lib.hid hsn
      clear hsn
      generalize putNums (xs.take k) = L at hown hlen Hsn
      by_cases hs : x < 248
      · have hp : putN (clampN x) = [byteOf (if x < 0 then 0 else x)] := by
          rw [putN_lo _ (by unfold clampN; omega)]
          congr 2
          unfold clampN
          split <;> omega
        have Hp := Lib.hid hp
        clear hp
        by_cases h0 : x < 0
        all_goals
          go_wp2_with (at_builtin; go_must (refine wpList_append_new wr rfl (.tmp 19) (.tmp 22) 80 rfl w.heap.size 5 1 1 el_byte _ _ _ hown rfl _ rfl rfl (by intro u hu; simp at hu; subst hu; rfl) (by unfold maxLen; omega) (by omega) hsz ?_); intro v1 w1 hown1 hb1)
          go_roundw
          case rel =>
            refine ⟨k + 1, by omega, by go_num, ?_, hb.trans hb1⟩
            rw [Hsn.out, Hp.out]
            rw [byteVals_snoc _ (byteOf (if x < 0 then 0 else x)) _ (by rw [byteOf_toNat]; split <;> omega)] at hown1
            simpa using hown1
          case measure => simp [intOf]; omega
      · by_cases hM : 72057594037927935 < x
        · have hp : putN (clampN x) = putPart 72057594037927935 7 := by rw [clampN_hi x hM, ← putPart_all _ (by omega), wid_max]
          have Hp := Lib.hid hp
          clear hp
          obtain ⟨wo, rfl⟩ : ∃ wo : World, wo = wr := ⟨_, rfl⟩
          go_wp2_with (first
            | (go_at_call 69; refine (width_max _).mono ?_; rintro e w' ⟨rfl, rfl⟩)
            | (at_builtin; go_must (refine wpList_append_new wo rfl (.tmp 26) (.tmp 30) 80 rfl w.heap.size 5 1 1 el_byte _ _ _ hown rfl _ rfl rfl (by intro u hu; simp at hu; subst hu; rfl) (by unfold maxLen; omega) (by omega) hsz ?_); intro v1 w1 hown1 hb1))
          have hsz1 := hb1.size
          rw [byteVals_snoc _ (byteOf 254) _ (by rw [byteOf_toNat]; omega)] at hown1
          go_loopw [3, 7, 33] (fun b x7 i wr => ∃ j : Nat, j ≤ 7 ∧ i = .int .i64 j ∧ wr.ownsRow w.heap.size 5 1 b (L.length + j + 1) (byteVals (L ++ putPart 72057594037927935 j)) ∧ Below w.heap.size w wr) (fun _ _ i _ => 7 - (intOf i).toNat)
          case atStart => exact ⟨0, by omega, rfl, by rw [putPart, wid_max]; exact hown1, hb.trans hb1⟩
          case round =>
            obtain ⟨j, hj, rfl, howni, hbi⟩ := hrel
            have hszi := hbi.size
            by_cases hlj : j < 7
            · go_wp2_with (at_builtin; go_must (refine wpList_append_new wr rfl (.tmp 36) (.tmp 45) 80 rfl w.heap.size 5 1 1 el_byte _ _ _ howni rfl _ rfl rfl (by intro u hu; simp at hu; subst hu; rfl) (by unfold maxLen; omega) (by omega) hszi ?_); intro v2 w2 hown2 hb2)
              rw [byteVals_snoc _ (byteOf (72057594037927935 / 2 ^ (8 * (7 - 1 - j)))) _ (by rw [byteOf_toNat]), List.append_assoc] at hown2
              have hps := putPart_snoc 72057594037927935 j (by rw [wid_max]; omega)
              go_roundw
              case rel => exact ⟨j + 1, by omega, by go_num, by rw [hps, wid_max]; exact hown2, hbi.trans hb2⟩
              case measure => simp [intOf]; omega
            · obtain rfl : j = 7 := by omega
              go_wp2
              go_roundw
              case rel =>
                refine ⟨k + 1, by omega, by go_num, ?_, hbi⟩
                rw [Hsn.out, Hp.out, List.length_append, putPart_length _ _ (by rw [wid_max]; omega)]
                exact howni
              case measure => simp [intOf]; omega
        · have hp : putN (clampN x) = putPart x.toNat (wid x.toNat) := by rw [clampN_mid x (by omega) (by omega), putPart_all _ (by omega)]
          have Hp := Lib.hid hp
          have h7 := wid_le7 x.toNat (by omega)
          have h1 := wid_pos x.toNat
          clear hp
          obtain ⟨wo, rfl⟩ : ∃ wo : World, wo = wr := ⟨_, rfl⟩
          go_wp2_with (first
            | (go_at_call 69; refine (width_int _ _ (by omega) (by omega)).mono ?_; rintro e w' ⟨rfl, rfl⟩)
            | (at_builtin; go_must (refine wpList_append_new wo rfl (.tmp 26) (.tmp 30) 80 rfl w.heap.size 5 1 1 el_byte _ _ _ hown rfl _ rfl rfl (by intro u hu; simp at hu; subst hu; rfl) (by unfold maxLen; omega) (by omega) hsz ?_); intro v1 w1 hown1 hb1))
          have hsz1 := hb1.size
          rw [byteVals_snoc _ (byteOf (247 + (wid x.toNat : Int))) _ (by rw [byteOf_toNat]; omega)] at hown1
          go_loopw [3, 7, 33] (fun b x7 i wr => ∃ j : Nat, j ≤ wid x.toNat ∧ i = .int .i64 j ∧ wr.ownsRow w.heap.size 5 1 b (L.length + j + 1) (byteVals (L ++ putPart x.toNat j)) ∧ Below w.heap.size w wr) (fun _ _ i _ => wid x.toNat - (intOf i).toNat)
          case atStart => exact ⟨0, by omega, rfl, hown1, hb.trans hb1⟩
          case round =>
            obtain ⟨j, hj, rfl, howni, hbi⟩ := hrel
            have hszi := hbi.size
            by_cases hlj : j < wid x.toNat
            · go_wp2_with (at_builtin; go_must (refine wpList_append_new wr rfl (.tmp 36) (.tmp 45) 80 rfl w.heap.size 5 1 1 el_byte _ _ _ howni rfl _ rfl rfl (by intro u hu; simp at hu; subst hu; rfl) (by unfold maxLen; omega) (by omega) hszi ?_); intro v2 w2 hown2 hb2)
              rw [byteVals_snoc _ (byteOf (x / 2 ^ (8 * (wid x.toNat - 1 - j)))) _ (by rw [byteOf_toNat]), List.append_assoc] at hown2
              have hps := putPart_snoc x.toNat j (by omega)
              go_roundw
              case rel => exact ⟨j + 1, by omega, by go_num, by rw [hps, show ((x.toNat : Nat) : Int) = x from by omega]; exact hown2, hbi.trans hb2⟩
              case measure => simp [intOf]; omega
            · have hje : j = wid x.toNat := by omega
              rw [hje] at howni
              clear hje
              go_wp2
              go_roundw
              case rel =>
                refine ⟨k + 1, by omega, by go_num, ?_, hbi⟩
                rw [Hsn.out, Hp.out, List.length_append, putPart_length _ _ (by omega)]
                exact howni
              case measure => simp [intOf]; omega
    · have hc := conv_own hown 80 9 5 Try.underlying80 Try.underlying5 Try.underlying9
      go_wp2
      go_ret
      exact ⟨ret_str (by rw [List.take_of_length_le (by omega)]), hb⟩
end Go.Proofs.Ytnhbkfefpkocaaa
namespace Go.Proofs.Ytnhbkfefpkocaaa
open Go.RowKit


end Go.Proofs.Ytnhbkfefpkocaaa
