/-
  A record is taken back: the plain law, and journal.Take of it. The law JournalBack: the walk.
-/
import Derived.Test.YtaagdoaeefhleaaDoorP14
import Derived.Test.YtaagdoaeefhleaaDoorHdrB
namespace Go.Proofs.YtaagdoaeefhleaaDoor
open Go.RowKit

theorem extOk_num {id : Int} {sa : ByteArray} {n bs raw : Int} {ro ta : ByteArray} {ba : Int} (h : extOk id sa n bs raw ro ta ba = true) : 1 ≤ n ∧ n ≤ 256 ∧ 0 ≤ ba ∧ ba ≤ 1024 - n := by
  unfold extOk at h
  simp only [Bool.and_eq_true, decide_eq_true_eq] at h
  have := hdrOk_parts h.1
  omega
theorem mark_list : (⟨#[83, 76, 71, 49]⟩ : ByteArray).toList = [83, 76, 71, 49] := toList_ofL _
theorem mark_listJ : (⟨#[83, 76, 74, 49]⟩ : ByteArray).toList = [83, 76, 74, 49] := toList_ofL _
theorem allS_list (id : Int) (sa : ByteArray) (n bs raw : Int) (ro ta : ByteArray) :
    (allS id sa n bs raw ro ta).toList = [83, 76, 71, 49] ++ (be id 4 ++ (sa.toList ++ (be n 2 ++ (be bs 4 ++ (be raw 4 ++ (ro.toList ++ ta.toList)))))) := by
  unfold allS hdrS
  simp only [toList_app, toList_ofL, mark_list, List.append_assoc]
theorem jS_list {id : Int} {sa : ByteArray} {n bs raw : Int} {ro ta : ByteArray} {ba : Int} {L : List Bool} (hok : recOk id sa n bs raw ro ta ba L = true) :
    (jS id sa n bs raw ro ta ba L).toList = [83, 76, 74, 49] ++ ((allS id sa n bs raw ro ta).toList ++ (be ba 2 ++ putW L 4)) := by
  unfold jS
  rw [if_pos hok]
  simp only [toList_app, toList_ofL, mark_listJ, List.append_assoc]
/-- What stands where in a record's bytes with others behind. -/
theorem jown_parts (id : Int) (sa : ByteArray) (n bs raw : Int) (ro ta : ByteArray) (ba : Int) (L : List Bool) (x : ByteArray) (hok : recOk id sa n bs raw ro ta ba L = true) (s : ByteArray) (hs : s = jS id sa n bs raw ro ta ba L ++ x) :
    s.size = 136 + x.size ∧ markB s = true ∧ zeroB s = false ∧ s.extract 136 s.size = x ∧ (s.extract 4 s.size).extract 0 98 = allS id sa n bs raw ro ta ∧ (s.extract 4 s.size).extract 98 (s.extract 4 s.size).size = ofL (be ba 2 ++ (putW L 4 ++ x.toList)) := by
  have h98 := allS_size (recOk_hdr hok)
  have hl : s.toList = [83, 76, 74, 49] ++ ((allS id sa n bs raw ro ta).toList ++ (be ba 2 ++ (putW L 4 ++ x.toList))) := by rw [hs, toList_app, jS_list hok]; simp only [List.append_assoc]
  have hA : (allS id sa n bs raw ro ta).toList.length = 98 := by rw [size_toList, h98]
  refine ⟨?_, ?_, ?_, ?_, ?_, ?_⟩
  · rw [← size_toList, hl]; simp only [List.length_append, hA, be_length, putW_length, size_toList, List.length_cons, List.length_nil]; omega
  · rw [mark_is, toList_ext, hl]; rfl
  · unfold zeroB; rw [hl]; rfl
  · refine str_eq ?_
    rw [toList_suf, hl, ← List.append_assoc, ← List.append_assoc, ← List.append_assoc]
    exact List.drop_left' (by simp only [List.length_append, hA, be_length, putW_length, List.length_cons, List.length_nil])
  · refine str_eq ?_
    rw [toList_ext, toList_suf, hl, List.drop_left' (by rfl), List.drop_zero]
    exact List.take_left' (by rw [hA])
  · refine str_eq ?_
    rw [toList_suf, toList_suf, hl, List.drop_left' (by rfl), toList_ofL]
    exact List.drop_left' hA
theorem zeroB_zs (k : Nat) : zeroB (ofL (List.replicate k 0)) = true := by
  unfold zeroB
  rw [toList_ofL, List.all_eq_true]
  intro x hx
  rw [List.eq_of_mem_replicate hx]; rfl
theorem zeroB_app (x y : ByteArray) : zeroB (x ++ y) = (zeroB x && zeroB y) := by
  unfold zeroB
  rw [toList_app, List.all_append]

set_option maxRecDepth 20000 in
theorem jback_yes (id : Int) (sa : ByteArray) (n bs raw : Int) (ro ta : ByteArray) (ba : Int) (L : List Bool) (hL : L.length ≤ 256) (hok : recOk id sa n bs raw ro ta ba L = true) (x : ByteArray) (hx : x.size ≤ 200) (hxz : zeroB x = true) (s : ByteArray) (hs : jS id sa n bs raw ro ta ba L ++ x = s) (w : World) :
    Calls Tryd.prog 10 #[.string s] w (JYes id sa n bs raw ro ta ba L 0 w) := by
  obtain ⟨z, hm, hz, hv, hc, hu⟩ := jown_parts id sa n bs raw ro ta ba L x hok s hs.symm
  have hln := recOk_len hok
  obtain ⟨n0, n1, b0, b1⟩ := extOk_num hln.1
  have hts : (s.extract 4 s.size).size = s.size - 4 := suf_size _ _ (by omega)
  have hus : (ofL (be ba 2 ++ (putW L 4 ++ x.toList))).size = 34 + x.size := by rw [size_ofL, List.length_append, List.length_append, be_length, putW_length, size_toList]; omega
  have hrs : (ofL (putW L 4 ++ x.toList)).size = 32 + x.size := by rw [size_ofL, List.length_append, putW_length, size_toList]
  have hg : (ofL (putW L 4 ++ x.toList)).extract 0 32 = ofL (putW L 4) := str_eq (by rw [toList_ext, toList_ofL, toList_ofL, List.drop_zero]; exact List.take_left' (by rw [putW_length]))
  have hT : takeB n (ofL (putW L 4)).toList = (L, 0) := by
    have h := takeB_put L hL
    rw [toList_ofL, ← hln.2]
    exact h
  exact jtake_head s x w (by omega) hz (by omega) hm hv hxz (s.extract 4 s.size) (allS id sa n bs raw ro ta) rfl ⟨by omega, by omega⟩ hc (ofL (be ba 2 ++ (putW L 4 ++ x.toList))) (ofL (putW L 4 ++ x.toList)) (ofL (putW L 4)) ba hu (by omega)
    (take_be (k := 2) b0 (by omega) (by omega) (by omega)) ⟨by omega, by omega⟩ hg id sa n bs raw ro ta (fun w => htake_own _ id sa n bs raw ro ta (recOk_hdr hok) (allS_list id sa n bs raw ro ta) w) L 0 hT true (.inr (.inr ⟨rfl, hok, rfl⟩))
theorem jback_no (id : Int) (sa : ByteArray) (n bs raw : Int) (ro ta : ByteArray) (ba : Int) (L : List Bool) (hok : recOk id sa n bs raw ro ta ba L = true) (x : ByteArray) (hx : x.size ≤ 200) (hxz : zeroB x = false) (s : ByteArray) (hs : jS id sa n bs raw ro ta ba L ++ x = s) (w : World) :
    Calls Tryd.prog 10 #[.string s] w (JNo w 2) := by
  obtain ⟨z, hm, hz, hv, _, _⟩ := jown_parts id sa n bs raw ro ta ba L x hok s hs.symm
  exact jtake_tail s x w (by omega) hz (by omega) hm hv hxz
theorem and127 (u : Int) : bits .and .i64 u 127 = u % 128 := by
  show IntKind.i64.wrap ((BitVec.ofInt 64 u &&& BitVec.ofInt 64 127).toNat : Int) = _
  rw [BitVec.toNat_and, show (BitVec.ofInt 64 127).toNat = 2 ^ 7 - 1 from rfl, Nat.and_two_pow_sub_one_eq_mod, BitVec.toNat_ofInt, IntKind.wrap_i64]
  simp only [Nat.reducePow]
  omega
theorem conv_one (W : World) (c : Int) (h0 : 0 ≤ c) (h1 : c ≤ 255) : (convert 44 9 (.slice (some ⟨W.heap.size, 0, none⟩) 1 1)).run Tryd.prog (W.alloc (.cells #[.int .u8 c] 5)) = .ok (.string (ofL [byteOf c])) (W.alloc (.cells #[.int .u8 c] 5)) := by
  refine conv_back _ 44 9 5 ⟨W.heap.size, 0, none⟩ 1 [byteOf c] 1 rfl Tryd.underlying44 Tryd.underlying5 Tryd.underlying9 ?_
  intro j u hj
  match j, hj with
  | 0, hj =>
    simp only [List.map_cons, List.getElem?_cons_zero, Option.some.injEq, byteOf_toNat] at hj
    rw [Int.emod_eq_of_lt h0 (by omega)] at hj
    subst hj
    rw [add_mk, World.cell?_alloc_mark]; rfl
theorem zeroB_byte (c : Int) (h0 : 0 ≤ c) (h1 : c ≤ 255) : zeroB (ofL [byteOf c]) = decide (c = 0) := by
  have h := byteOf_toNat c
  rw [Int.emod_eq_of_lt h0 (by omega)] at h
  unfold zeroB
  rw [toList_ofL, List.all_cons, List.all_nil, Bool.and_true]
  by_cases hc : c = 0
  · subst hc; rfl
  · rw [decide_eq_false hc, beq_eq_false_iff_ne]
    intro e
    rw [e] at h
    simp at h
    omega
end Go.Proofs.YtaagdoaeefhleaaDoor
namespace Go.Proofs.YtaagdoaeefhleaaDoor
open Go.RowKit

set_option maxRecDepth 20000 in
set_option maxHeartbeats 8000000 in
theorem journalBack_walk (id : Int) (sa : ByteArray) (n bs raw : Int) (ro ta : ByteArray) (ba : Int) (A : Option Addr) (a ca : Nat) (xs : List Int) (m c : Int) (w : World) (hx : xs.length = a) (hr : Rd w A (xs.map (Value.int .i64))) (_ha : a ≤ ca) (hca : ca * 8 ≤ 140737488351232) (_l : -9223372036854775808 ≤ m) (_u : m ≤ 9223372036854775807) (c0 : 0 ≤ c) (c1 : c ≤ 255) :
    Calls Tryd.prog 3 #[.agg #[.int .i64 id, .string sa, .int .i64 n, .int .i64 bs, .int .i64 raw, .string ro, .string ta, .int .i64 ba], .slice A a ca, .int .i64 m, .int .u8 c] w (Yes w) := by
  have Hx := Lib.hid hx
  clear hx
  have hb := (Below.refl w.heap.size w).alloc (Nat.le_refl _) (.cells #[.int .i64 id, .string sa, .int .i64 n, .int .i64 bs, .int .i64 raw, .string ro, .string ta, .int .i64 ba] 25)
  have hE : Bk (w.alloc (.cells #[.int .i64 id, .string sa, .int .i64 n, .int .i64 bs, .int .i64 raw, .string ro, .string ta, .int .i64 ba] 25)) w.heap.size 25 #[.int .i64 id, .string sa, .int .i64 n, .int .i64 bs, .int .i64 raw, .string ro, .string ta, .int .i64 ba] := Bk.new _ _ _
  have hr0 := hr.below hb
  rcases hl : lightB sa ro ta with _ | _
  · have HL := Lib.hid hl
    clear hl
    go_enter Tryd.func3, Tryd.ntmps3
    go_wp2_with fail
    (with_reducible refine (light_is id sa n bs raw ro ta ba false HL.out _).mono ?_)
    rintro e w1 ⟨rfl, hb1⟩
    go_wp2_with fail
    (with_reducible refine (awakeJ_any _).mono ?_)
    rintro e w2 ⟨rfl, hb2⟩
    go_wp2_with fail
    go_ret
    exact ⟨rfl, bl (bl hb hb1) hb2⟩
  · have HL := Lib.hid hl
    clear hl
    have hL : (ofB n xs).length ≤ 256 := by rw [ofB_length]; exact clampB_le n
    have HO := Lib.hid (fun w h => of_any n A a ca xs w Hx.out h (by omega))
    generalize ofB n xs = L at hL HO
    rcases hok : recOk id sa n bs raw ro ta ba L with _ | _
    · have HS := Lib.hid (show jS id sa n bs raw ro ta ba L = ⟨#[]⟩ by unfold jS; rw [hok]; rfl)
      have HK := Lib.hid (show okE (recOk id sa n bs raw ro ta ba L) = 1 by rw [hok]; rfl)
      clear hok
      go_enter Tryd.func3, Tryd.ntmps3
      go_wp2_with fail
      (with_reducible refine (light_is id sa n bs raw ro ta ba true HL.out _).mono ?_)
      rintro e w1 ⟨rfl, hb1⟩
      have hE1 := hE.below' hb1
      have hB1 := bl hb hb1
      have hr1 := hr0.below hb1
      clear hE hb hb1 hr0 hr
      have e0 := hE1.cell 0
      have e1 := hE1.cell 1
      have e2 := hE1.cell 2
      have e3 := hE1.cell 3
      have e4 := hE1.cell 4
      have e5 := hE1.cell 5
      have e6 := hE1.cell 6
      have e7 := hE1.cell 7
      simp only [List.getElem?_toArray, List.getElem?_cons_succ, List.getElem?_cons_zero] at e0 e1 e2 e3 e4 e5 e6 e7
      go_wp2_with fail
      refine (HO.out _ hr1).mono ?_
      rintro e w2 ⟨A2, c2, rfl, hn2, hm2, _, hb2⟩
      have hE2 := hE1.below' hb2
      have hB2 := bl hB1 hb2
      clear hE1 hB1 hb2 hr1 hn2 hm2 e0 e1 e2 e3 e4 e5 e6 e7
      unfold setV
      have hbs := (Below.refl w2.heap.size w2).alloc (Nat.le_refl _) (.cells #[.int .i64 (L.length : Nat), .int .u64 (wdN L 0 : Nat), .int .u64 (wdN L 1 : Nat), .int .u64 (wdN L 2 : Nat), .int .u64 (wdN L 3 : Nat)] 32)
      have hbr := ((Below.refl w2.heap.size w2).alloc (Nat.le_refl _) (.cells #[.int .i64 (L.length : Nat), .int .u64 (wdN L 0 : Nat), .int .u64 (wdN L 1 : Nat), .int .u64 (wdN L 2 : Nat), .int .u64 (wdN L 3 : Nat)] 32)).alloc (by simp) (.cells #[.int .i64 id, .string sa, .int .i64 n, .int .i64 bs, .int .i64 raw, .string ro, .string ta, .int .i64 ba, .int .i64 (L.length : Nat), .int .u64 (wdN L 0 : Nat), .int .u64 (wdN L 1 : Nat), .int .u64 (wdN L 2 : Nat), .int .u64 (wdN L 3 : Nat)] 37)
      have hS2 : Bk (w2.alloc (.cells #[.int .i64 (L.length : Nat), .int .u64 (wdN L 0 : Nat), .int .u64 (wdN L 1 : Nat), .int .u64 (wdN L 2 : Nat), .int .u64 (wdN L 3 : Nat)] 32)) w2.heap.size 32 #[.int .i64 (L.length : Nat), .int .u64 (wdN L 0 : Nat), .int .u64 (wdN L 1 : Nat), .int .u64 (wdN L 2 : Nat), .int .u64 (wdN L 3 : Nat)] := Bk.new _ _ _
      have g0 := hS2.cell 0
      have g1 := hS2.cell 1
      have g2 := hS2.cell 2
      have g3 := hS2.cell 3
      have g4 := hS2.cell 4
      simp only [List.getElem?_toArray, List.getElem?_cons_succ, List.getElem?_cons_zero] at g0 g1 g2 g3 g4
      have hE2b := hE2.below' hbs
      have e0 := hE2b.cell 0
      have e1 := hE2b.cell 1
      have e2 := hE2b.cell 2
      have e3 := hE2b.cell 3
      have e4 := hE2b.cell 4
      have e5 := hE2b.cell 5
      have e6 := hE2b.cell 6
      have e7 := hE2b.cell 7
      simp only [List.getElem?_toArray, List.getElem?_cons_succ, List.getElem?_cons_zero] at e0 e1 e2 e3 e4 e5 e6 e7
      have hR : Bk ((w2.alloc (.cells #[.int .i64 (L.length : Nat), .int .u64 (wdN L 0 : Nat), .int .u64 (wdN L 1 : Nat), .int .u64 (wdN L 2 : Nat), .int .u64 (wdN L 3 : Nat)] 32)).alloc (.cells #[.int .i64 id, .string sa, .int .i64 n, .int .i64 bs, .int .i64 raw, .string ro, .string ta, .int .i64 ba, .int .i64 (L.length : Nat), .int .u64 (wdN L 0 : Nat), .int .u64 (wdN L 1 : Nat), .int .u64 (wdN L 2 : Nat), .int .u64 (wdN L 3 : Nat)] 37)) (w2.heap.size + 1) 37 #[.int .i64 id, .string sa, .int .i64 n, .int .i64 bs, .int .i64 raw, .string ro, .string ta, .int .i64 ba, .int .i64 (L.length : Nat), .int .u64 (wdN L 0 : Nat), .int .u64 (wdN L 1 : Nat), .int .u64 (wdN L 2 : Nat), .int .u64 (wdN L 3 : Nat)] := by
        have h := Bk.new (w2.alloc (.cells #[.int .i64 (L.length : Nat), .int .u64 (wdN L 0 : Nat), .int .u64 (wdN L 1 : Nat), .int .u64 (wdN L 2 : Nat), .int .u64 (wdN L 3 : Nat)] 32)) 37 #[.int .i64 id, .string sa, .int .i64 n, .int .i64 bs, .int .i64 raw, .string ro, .string ta, .int .i64 ba, .int .i64 (L.length : Nat), .int .u64 (wdN L 0 : Nat), .int .u64 (wdN L 1 : Nat), .int .u64 (wdN L 2 : Nat), .int .u64 (wdN L 3 : Nat)]
        simpa using h
      have hB3 := bl hB2 hbr
      clear hE2 hE2b hbs hbr hS2 hB2
      go_wp2_with fail
      (with_reducible refine (jput_is id sa n bs raw ro ta ba L ⟨#[]⟩ 1 HS.out HK.out _).mono ?_)
      rintro e w4 ⟨rfl, hb4⟩
      have hR4 := hR.below' hb4
      have hB4 := bl hB3 hb4
      clear hR hB3 hb4 e0 e1 e2 e3 e4 e5 e6 e7 g0 g1 g2 g3 g4
      go_wp2_with fail
      (with_reducible refine (awakeJ_any _).mono ?_)
      rintro e w5 ⟨rfl, hb5⟩
      go_wp2_with fail
      go_ret
      exact ⟨rfl, bl hB4 hb5⟩
    · have HOK := Lib.hid hok
      obtain ⟨k, hk, hk2⟩ : ∃ k : Nat, bits .and .i64 m 127 = (k : Int) ∧ k ≤ 127 := ⟨(m % 128).toNat, by rw [and127]; omega, by omega⟩
      obtain ⟨S, hS⟩ : ∃ S, jS id sa n bs raw ro ta ba L = S := ⟨_, rfl⟩
      obtain ⟨y, hy⟩ : ∃ y, ofL (List.replicate k 0) = y := ⟨_, rfl⟩
      have hyz : y.size = k := by rw [← hy, size_ofL, List.length_replicate]
      have hSz : S.size = 136 := by
        have h := (jown_parts id sa n bs raw ro ta ba L ⟨#[]⟩ hok _ rfl).1
        have e : jS id sa n bs raw ro ta ba L ++ (⟨#[]⟩ : ByteArray) = S := by rw [hS]; exact str_eq (by rw [toList_app, show (⟨#[]⟩ : ByteArray).toList = [] from toList_ofL [], List.append_nil])
        rw [e] at h
        exact h
      obtain ⟨S1, hS1⟩ : ∃ S1, S ++ y = S1 := ⟨_, rfl⟩
      have hS1z : S1.size = 136 + k := by rw [← hS1, ByteArray.size_append, hSz, hyz]
      obtain ⟨b1, hb1'⟩ : ∃ b, ofL [byteOf c] = b := ⟨_, rfl⟩
      have hb1z : b1.size = 1 := by rw [← hb1', size_ofL]; rfl
      obtain ⟨S2, hS2⟩ : ∃ S2, S1 ++ b1 = S2 := ⟨_, rfl⟩
      have m1 : ¬ (9223372036854775807 < S.size + y.size) := by omega
      have m2 : ¬ (9223372036854775807 < S1.size + b1.size) := by omega
      have HZS := Lib.hid (fun w => zeros_is (k : Int) k rfl y hy w (by omega))
      have HS := Lib.hid hS
      have HK := Lib.hid (show okE (recOk id sa n bs raw ro ta ba L) = 0 by rw [hok]; rfl)
      have HYes := Lib.hid (fun w => jback_yes id sa n bs raw ro ta ba L hL hok y (by omega) (by rw [← hy]; exact zeroB_zs k) S1 (by rw [hS]; exact hS1) w)
      have hcv : ∀ W : World, (convert 44 9 (.slice (some ⟨W.heap.size, 0, none⟩) 1 1)).run Tryd.prog (W.alloc (.cells #[.int .u8 c] 5)) = .ok (.string b1) (W.alloc (.cells #[.int .u8 c] 5)) := fun W => by rw [← hb1']; exact conv_one W c c0 c1
      have HS2 : jS id sa n bs raw ro ta ba L ++ (y ++ b1) = S2 := by rw [hS, ← hS2, ← hS1]; exact str_eq (by simp only [toList_app, List.append_assoc])
      have hyb : (y ++ b1).size = k + 1 := by rw [ByteArray.size_append, hyz, hb1z]
      have hzb : zeroB (y ++ b1) = decide (c = 0) := by rw [zeroB_app, ← hy, zeroB_zs, ← hb1', zeroB_byte c c0 c1]; rfl
      by_cases hc : c = 0
      · have HNo := Lib.hid (fun w => jback_yes id sa n bs raw ro ta ba L hL hok (y ++ b1) (by omega) (by rw [hzb, decide_eq_true hc]) S2 HS2 w)
        clear c0 c1
        subst hc
        clear hok hS hy hSz hyz hS1z hb1' hb1z HS2 hyb hzb
        have hq := neq_rec id sa n bs raw ro ta ba (L.length : Nat) (wdN L 0 : Nat) (wdN L 1 : Nat) (wdN L 2 : Nat) (wdN L 3 : Nat)
        have hq2 := eq_rec id sa n bs raw ro ta ba (L.length : Nat) (wdN L 0 : Nat) (wdN L 1 : Nat) (wdN L 2 : Nat) (wdN L 3 : Nat)
        have hq3 := eq_rec 0 ⟨#[]⟩ 0 0 0 ⟨#[]⟩ ⟨#[]⟩ 0 0 0 0 0 0
        go_enter Tryd.func3, Tryd.ntmps3
        go_wp2_with fail
        (with_reducible refine (light_is id sa n bs raw ro ta ba true HL.out _).mono ?_)
        rintro e w1 ⟨rfl, hb1⟩
        have hE1 := hE.below' hb1
        have hB1 := bl hb hb1
        have hr1 := hr0.below hb1
        clear hE hb hb1 hr0 hr
        have e0 := hE1.cell 0
        have e1 := hE1.cell 1
        have e2 := hE1.cell 2
        have e3 := hE1.cell 3
        have e4 := hE1.cell 4
        have e5 := hE1.cell 5
        have e6 := hE1.cell 6
        have e7 := hE1.cell 7
        simp only [List.getElem?_toArray, List.getElem?_cons_succ, List.getElem?_cons_zero] at e0 e1 e2 e3 e4 e5 e6 e7
        go_wp2_with fail
        refine (HO.out _ hr1).mono ?_
        rintro e w2 ⟨A2, c2, rfl, hn2, hm2, _, hb2⟩
        have hE2 := hE1.below' hb2
        have hB2 := bl hB1 hb2
        clear hE1 hB1 hb2 hr1 hn2 hm2 e0 e1 e2 e3 e4 e5 e6 e7
        unfold setV
        have hbs := (Below.refl w2.heap.size w2).alloc (Nat.le_refl _) (.cells #[.int .i64 (L.length : Nat), .int .u64 (wdN L 0 : Nat), .int .u64 (wdN L 1 : Nat), .int .u64 (wdN L 2 : Nat), .int .u64 (wdN L 3 : Nat)] 32)
        have hbr := ((Below.refl w2.heap.size w2).alloc (Nat.le_refl _) (.cells #[.int .i64 (L.length : Nat), .int .u64 (wdN L 0 : Nat), .int .u64 (wdN L 1 : Nat), .int .u64 (wdN L 2 : Nat), .int .u64 (wdN L 3 : Nat)] 32)).alloc (by simp) (.cells #[.int .i64 id, .string sa, .int .i64 n, .int .i64 bs, .int .i64 raw, .string ro, .string ta, .int .i64 ba, .int .i64 (L.length : Nat), .int .u64 (wdN L 0 : Nat), .int .u64 (wdN L 1 : Nat), .int .u64 (wdN L 2 : Nat), .int .u64 (wdN L 3 : Nat)] 37)
        have hS2 : Bk (w2.alloc (.cells #[.int .i64 (L.length : Nat), .int .u64 (wdN L 0 : Nat), .int .u64 (wdN L 1 : Nat), .int .u64 (wdN L 2 : Nat), .int .u64 (wdN L 3 : Nat)] 32)) w2.heap.size 32 #[.int .i64 (L.length : Nat), .int .u64 (wdN L 0 : Nat), .int .u64 (wdN L 1 : Nat), .int .u64 (wdN L 2 : Nat), .int .u64 (wdN L 3 : Nat)] := Bk.new _ _ _
        have g0 := hS2.cell 0
        have g1 := hS2.cell 1
        have g2 := hS2.cell 2
        have g3 := hS2.cell 3
        have g4 := hS2.cell 4
        simp only [List.getElem?_toArray, List.getElem?_cons_succ, List.getElem?_cons_zero] at g0 g1 g2 g3 g4
        have hE2b := hE2.below' hbs
        have e0 := hE2b.cell 0
        have e1 := hE2b.cell 1
        have e2 := hE2b.cell 2
        have e3 := hE2b.cell 3
        have e4 := hE2b.cell 4
        have e5 := hE2b.cell 5
        have e6 := hE2b.cell 6
        have e7 := hE2b.cell 7
        simp only [List.getElem?_toArray, List.getElem?_cons_succ, List.getElem?_cons_zero] at e0 e1 e2 e3 e4 e5 e6 e7
        have hR : Bk ((w2.alloc (.cells #[.int .i64 (L.length : Nat), .int .u64 (wdN L 0 : Nat), .int .u64 (wdN L 1 : Nat), .int .u64 (wdN L 2 : Nat), .int .u64 (wdN L 3 : Nat)] 32)).alloc (.cells #[.int .i64 id, .string sa, .int .i64 n, .int .i64 bs, .int .i64 raw, .string ro, .string ta, .int .i64 ba, .int .i64 (L.length : Nat), .int .u64 (wdN L 0 : Nat), .int .u64 (wdN L 1 : Nat), .int .u64 (wdN L 2 : Nat), .int .u64 (wdN L 3 : Nat)] 37)) (w2.heap.size + 1) 37 #[.int .i64 id, .string sa, .int .i64 n, .int .i64 bs, .int .i64 raw, .string ro, .string ta, .int .i64 ba, .int .i64 (L.length : Nat), .int .u64 (wdN L 0 : Nat), .int .u64 (wdN L 1 : Nat), .int .u64 (wdN L 2 : Nat), .int .u64 (wdN L 3 : Nat)] := by
          have h := Bk.new (w2.alloc (.cells #[.int .i64 (L.length : Nat), .int .u64 (wdN L 0 : Nat), .int .u64 (wdN L 1 : Nat), .int .u64 (wdN L 2 : Nat), .int .u64 (wdN L 3 : Nat)] 32)) 37 #[.int .i64 id, .string sa, .int .i64 n, .int .i64 bs, .int .i64 raw, .string ro, .string ta, .int .i64 ba, .int .i64 (L.length : Nat), .int .u64 (wdN L 0 : Nat), .int .u64 (wdN L 1 : Nat), .int .u64 (wdN L 2 : Nat), .int .u64 (wdN L 3 : Nat)]
          simpa using h
        have hB3 := bl hB2 hbr
        clear hE2 hE2b hbs hbr hS2 hB2
        go_wp2_with fail
        (with_reducible refine (jput_is id sa n bs raw ro ta ba L S 0 HS.out HK.out _).mono ?_)
        rintro e w4 ⟨rfl, hb4⟩
        have hR4 := hR.below' hb4
        have hB4 := bl hB3 hb4
        clear hR hB3 hb4 e0 e1 e2 e3 e4 e5 e6 e7 g0 g1 g2 g3 g4
        go_wp2_with fail
        refine (HZS.out _).mono ?_
        rintro e w5 ⟨rfl, hb1⟩
        have hR5 := hR4.below' hb1
        have hB5 := bl hB4 hb1
        clear hR4 hB4 hb1
        go_wp2_with fail
        (with_reducible refine (HYes.out _).mono ?_)
        rintro e w6 ⟨rfl, hb1⟩
        have hR6 := (hR5.below' hb1).alloc (.cells #[.int .i64 id, .string sa, .int .i64 n, .int .i64 bs, .int .i64 raw, .string ro, .string ta, .int .i64 ba, .int .i64 (L.length : Nat), .int .u64 (wdN L 0 : Nat), .int .u64 (wdN L 1 : Nat), .int .u64 (wdN L 2 : Nat), .int .u64 (wdN L 3 : Nat)] 37)
        have hT6 : Bk (w6.alloc (.cells #[.int .i64 id, .string sa, .int .i64 n, .int .i64 bs, .int .i64 raw, .string ro, .string ta, .int .i64 ba, .int .i64 (L.length : Nat), .int .u64 (wdN L 0 : Nat), .int .u64 (wdN L 1 : Nat), .int .u64 (wdN L 2 : Nat), .int .u64 (wdN L 3 : Nat)] 37)) w6.heap.size 37 #[.int .i64 id, .string sa, .int .i64 n, .int .i64 bs, .int .i64 raw, .string ro, .string ta, .int .i64 ba, .int .i64 (L.length : Nat), .int .u64 (wdN L 0 : Nat), .int .u64 (wdN L 1 : Nat), .int .u64 (wdN L 2 : Nat), .int .u64 (wdN L 3 : Nat)] := Bk.new _ _ _
        have hB6 := (bl hB5 hb1).alloc (bl hB5 hb1).size (.cells #[.int .i64 id, .string sa, .int .i64 n, .int .i64 bs, .int .i64 raw, .string ro, .string ta, .int .i64 ba, .int .i64 (L.length : Nat), .int .u64 (wdN L 0 : Nat), .int .u64 (wdN L 1 : Nat), .int .u64 (wdN L 2 : Nat), .int .u64 (wdN L 3 : Nat)] 37)
        clear hR5 hB5 hb1
        have r0 := hR6.cell 0
        have r1 := hR6.cell 1
        have r2 := hR6.cell 2
        have r3 := hR6.cell 3
        have r4 := hR6.cell 4
        have r5 := hR6.cell 5
        have r6 := hR6.cell 6
        have r7 := hR6.cell 7
        have r8 := hR6.cell 8
        have r9 := hR6.cell 9
        have r10 := hR6.cell 10
        have r11 := hR6.cell 11
        have r12 := hR6.cell 12
        simp only [List.getElem?_toArray, List.getElem?_cons_succ, List.getElem?_cons_zero] at r0 r1 r2 r3 r4 r5 r6 r7 r8 r9 r10 r11 r12
        have t0 := hT6.cell 0
        have t1 := hT6.cell 1
        have t2 := hT6.cell 2
        have t3 := hT6.cell 3
        have t4 := hT6.cell 4
        have t5 := hT6.cell 5
        have t6 := hT6.cell 6
        have t7 := hT6.cell 7
        have t8 := hT6.cell 8
        have t9 := hT6.cell 9
        have t10 := hT6.cell 10
        have t11 := hT6.cell 11
        have t12 := hT6.cell 12
        simp only [List.getElem?_toArray, List.getElem?_cons_succ, List.getElem?_cons_zero] at t0 t1 t2 t3 t4 t5 t6 t7 t8 t9 t10 t11 t12
        go_upto_region 12 with (fail)
        clear r0 r1 r2 r3 r4 r5 r6 r7 r8 r9 r10 r11 r12 t0 t1 t2 t3 t4 t5 t6 t7 t8 t9 t10 t11 t12
        generalize (w6.alloc (.cells #[.int .i64 id, .string sa, .int .i64 n, .int .i64 bs, .int .i64 raw, .string ro, .string ta, .int .i64 ba, .int .i64 (L.length : Nat), .int .u64 (wdN L 0 : Nat), .int .u64 (wdN L 1 : Nat), .int .u64 (wdN L 2 : Nat), .int .u64 (wdN L 3 : Nat)] 37)) = w7 at *
        have hcv7 := hcv w7
        go_wp2_with fail
        (with_reducible refine (HNo.out _).mono ?_)
        rintro e w8 ⟨rfl, hb1⟩
        have hR8 := (((hR6.alloc _).below' hb1)).alloc (.cells #[.int .i64 id, .string sa, .int .i64 n, .int .i64 bs, .int .i64 raw, .string ro, .string ta, .int .i64 ba, .int .i64 (L.length : Nat), .int .u64 (wdN L 0 : Nat), .int .u64 (wdN L 1 : Nat), .int .u64 (wdN L 2 : Nat), .int .u64 (wdN L 3 : Nat)] 37)
        have hU8 : Bk (w8.alloc (.cells #[.int .i64 id, .string sa, .int .i64 n, .int .i64 bs, .int .i64 raw, .string ro, .string ta, .int .i64 ba, .int .i64 (L.length : Nat), .int .u64 (wdN L 0 : Nat), .int .u64 (wdN L 1 : Nat), .int .u64 (wdN L 2 : Nat), .int .u64 (wdN L 3 : Nat)] 37)) w8.heap.size 37 #[.int .i64 id, .string sa, .int .i64 n, .int .i64 bs, .int .i64 raw, .string ro, .string ta, .int .i64 ba, .int .i64 (L.length : Nat), .int .u64 (wdN L 0 : Nat), .int .u64 (wdN L 1 : Nat), .int .u64 (wdN L 2 : Nat), .int .u64 (wdN L 3 : Nat)] := Bk.new _ _ _
        have hB7 := hB6.alloc hB6.size (.cells #[.int .u8 0] 5)
        have hB8 := (bl hB7 hb1).alloc (bl hB7 hb1).size (.cells #[.int .i64 id, .string sa, .int .i64 n, .int .i64 bs, .int .i64 raw, .string ro, .string ta, .int .i64 ba, .int .i64 (L.length : Nat), .int .u64 (wdN L 0 : Nat), .int .u64 (wdN L 1 : Nat), .int .u64 (wdN L 2 : Nat), .int .u64 (wdN L 3 : Nat)] 37)
        clear hR6 hB6 hB7 hb1
        have r0 := hR8.cell 0
        have r1 := hR8.cell 1
        have r2 := hR8.cell 2
        have r3 := hR8.cell 3
        have r4 := hR8.cell 4
        have r5 := hR8.cell 5
        have r6 := hR8.cell 6
        have r7 := hR8.cell 7
        have r8 := hR8.cell 8
        have r9 := hR8.cell 9
        have r10 := hR8.cell 10
        have r11 := hR8.cell 11
        have r12 := hR8.cell 12
        simp only [List.getElem?_toArray, List.getElem?_cons_succ, List.getElem?_cons_zero] at r0 r1 r2 r3 r4 r5 r6 r7 r8 r9 r10 r11 r12
        have u0 := hU8.cell 0
        have u1 := hU8.cell 1
        have u2 := hU8.cell 2
        have u3 := hU8.cell 3
        have u4 := hU8.cell 4
        have u5 := hU8.cell 5
        have u6 := hU8.cell 6
        have u7 := hU8.cell 7
        have u8 := hU8.cell 8
        have u9 := hU8.cell 9
        have u10 := hU8.cell 10
        have u11 := hU8.cell 11
        have u12 := hU8.cell 12
        simp only [List.getElem?_toArray, List.getElem?_cons_succ, List.getElem?_cons_zero] at u0 u1 u2 u3 u4 u5 u6 u7 u8 u9 u10 u11 u12
        go_wp2_with fail
        (with_reducible refine (awakeJ_any _).mono ?_)
        rintro e w9 ⟨rfl, hb1⟩
        go_wp2_with fail
        go_ret
        exact ⟨rfl, bl hB8 hb1⟩
      · have HNo := Lib.hid (fun w => jback_no id sa n bs raw ro ta ba L hok (y ++ b1) (by omega) (by rw [hzb, decide_eq_false hc]) S2 HS2 w)
        clear hok hS hy hSz hyz hS1z hb1' hb1z HS2 hyb hzb
        have hq := neq_rec id sa n bs raw ro ta ba (L.length : Nat) (wdN L 0 : Nat) (wdN L 1 : Nat) (wdN L 2 : Nat) (wdN L 3 : Nat)
        have hq2 := eq_rec id sa n bs raw ro ta ba (L.length : Nat) (wdN L 0 : Nat) (wdN L 1 : Nat) (wdN L 2 : Nat) (wdN L 3 : Nat)
        have hq3 := eq_rec 0 ⟨#[]⟩ 0 0 0 ⟨#[]⟩ ⟨#[]⟩ 0 0 0 0 0 0
        go_enter Tryd.func3, Tryd.ntmps3
        go_wp2_with fail
        (with_reducible refine (light_is id sa n bs raw ro ta ba true HL.out _).mono ?_)
        rintro e w1 ⟨rfl, hb1⟩
        have hE1 := hE.below' hb1
        have hB1 := bl hb hb1
        have hr1 := hr0.below hb1
        clear hE hb hb1 hr0 hr
        have e0 := hE1.cell 0
        have e1 := hE1.cell 1
        have e2 := hE1.cell 2
        have e3 := hE1.cell 3
        have e4 := hE1.cell 4
        have e5 := hE1.cell 5
        have e6 := hE1.cell 6
        have e7 := hE1.cell 7
        simp only [List.getElem?_toArray, List.getElem?_cons_succ, List.getElem?_cons_zero] at e0 e1 e2 e3 e4 e5 e6 e7
        go_wp2_with fail
        refine (HO.out _ hr1).mono ?_
        rintro e w2 ⟨A2, c2, rfl, hn2, hm2, _, hb2⟩
        have hE2 := hE1.below' hb2
        have hB2 := bl hB1 hb2
        clear hE1 hB1 hb2 hr1 hn2 hm2 e0 e1 e2 e3 e4 e5 e6 e7
        unfold setV
        have hbs := (Below.refl w2.heap.size w2).alloc (Nat.le_refl _) (.cells #[.int .i64 (L.length : Nat), .int .u64 (wdN L 0 : Nat), .int .u64 (wdN L 1 : Nat), .int .u64 (wdN L 2 : Nat), .int .u64 (wdN L 3 : Nat)] 32)
        have hbr := ((Below.refl w2.heap.size w2).alloc (Nat.le_refl _) (.cells #[.int .i64 (L.length : Nat), .int .u64 (wdN L 0 : Nat), .int .u64 (wdN L 1 : Nat), .int .u64 (wdN L 2 : Nat), .int .u64 (wdN L 3 : Nat)] 32)).alloc (by simp) (.cells #[.int .i64 id, .string sa, .int .i64 n, .int .i64 bs, .int .i64 raw, .string ro, .string ta, .int .i64 ba, .int .i64 (L.length : Nat), .int .u64 (wdN L 0 : Nat), .int .u64 (wdN L 1 : Nat), .int .u64 (wdN L 2 : Nat), .int .u64 (wdN L 3 : Nat)] 37)
        have hS2 : Bk (w2.alloc (.cells #[.int .i64 (L.length : Nat), .int .u64 (wdN L 0 : Nat), .int .u64 (wdN L 1 : Nat), .int .u64 (wdN L 2 : Nat), .int .u64 (wdN L 3 : Nat)] 32)) w2.heap.size 32 #[.int .i64 (L.length : Nat), .int .u64 (wdN L 0 : Nat), .int .u64 (wdN L 1 : Nat), .int .u64 (wdN L 2 : Nat), .int .u64 (wdN L 3 : Nat)] := Bk.new _ _ _
        have g0 := hS2.cell 0
        have g1 := hS2.cell 1
        have g2 := hS2.cell 2
        have g3 := hS2.cell 3
        have g4 := hS2.cell 4
        simp only [List.getElem?_toArray, List.getElem?_cons_succ, List.getElem?_cons_zero] at g0 g1 g2 g3 g4
        have hE2b := hE2.below' hbs
        have e0 := hE2b.cell 0
        have e1 := hE2b.cell 1
        have e2 := hE2b.cell 2
        have e3 := hE2b.cell 3
        have e4 := hE2b.cell 4
        have e5 := hE2b.cell 5
        have e6 := hE2b.cell 6
        have e7 := hE2b.cell 7
        simp only [List.getElem?_toArray, List.getElem?_cons_succ, List.getElem?_cons_zero] at e0 e1 e2 e3 e4 e5 e6 e7
        have hR : Bk ((w2.alloc (.cells #[.int .i64 (L.length : Nat), .int .u64 (wdN L 0 : Nat), .int .u64 (wdN L 1 : Nat), .int .u64 (wdN L 2 : Nat), .int .u64 (wdN L 3 : Nat)] 32)).alloc (.cells #[.int .i64 id, .string sa, .int .i64 n, .int .i64 bs, .int .i64 raw, .string ro, .string ta, .int .i64 ba, .int .i64 (L.length : Nat), .int .u64 (wdN L 0 : Nat), .int .u64 (wdN L 1 : Nat), .int .u64 (wdN L 2 : Nat), .int .u64 (wdN L 3 : Nat)] 37)) (w2.heap.size + 1) 37 #[.int .i64 id, .string sa, .int .i64 n, .int .i64 bs, .int .i64 raw, .string ro, .string ta, .int .i64 ba, .int .i64 (L.length : Nat), .int .u64 (wdN L 0 : Nat), .int .u64 (wdN L 1 : Nat), .int .u64 (wdN L 2 : Nat), .int .u64 (wdN L 3 : Nat)] := by
          have h := Bk.new (w2.alloc (.cells #[.int .i64 (L.length : Nat), .int .u64 (wdN L 0 : Nat), .int .u64 (wdN L 1 : Nat), .int .u64 (wdN L 2 : Nat), .int .u64 (wdN L 3 : Nat)] 32)) 37 #[.int .i64 id, .string sa, .int .i64 n, .int .i64 bs, .int .i64 raw, .string ro, .string ta, .int .i64 ba, .int .i64 (L.length : Nat), .int .u64 (wdN L 0 : Nat), .int .u64 (wdN L 1 : Nat), .int .u64 (wdN L 2 : Nat), .int .u64 (wdN L 3 : Nat)]
          simpa using h
        have hB3 := bl hB2 hbr
        clear hE2 hE2b hbs hbr hS2 hB2
        go_wp2_with fail
        (with_reducible refine (jput_is id sa n bs raw ro ta ba L S 0 HS.out HK.out _).mono ?_)
        rintro e w4 ⟨rfl, hb4⟩
        have hR4 := hR.below' hb4
        have hB4 := bl hB3 hb4
        clear hR hB3 hb4 e0 e1 e2 e3 e4 e5 e6 e7 g0 g1 g2 g3 g4
        go_wp2_with fail
        refine (HZS.out _).mono ?_
        rintro e w5 ⟨rfl, hb1⟩
        have hR5 := hR4.below' hb1
        have hB5 := bl hB4 hb1
        clear hR4 hB4 hb1
        go_wp2_with fail
        (with_reducible refine (HYes.out _).mono ?_)
        rintro e w6 ⟨rfl, hb1⟩
        have hR6 := (hR5.below' hb1).alloc (.cells #[.int .i64 id, .string sa, .int .i64 n, .int .i64 bs, .int .i64 raw, .string ro, .string ta, .int .i64 ba, .int .i64 (L.length : Nat), .int .u64 (wdN L 0 : Nat), .int .u64 (wdN L 1 : Nat), .int .u64 (wdN L 2 : Nat), .int .u64 (wdN L 3 : Nat)] 37)
        have hT6 : Bk (w6.alloc (.cells #[.int .i64 id, .string sa, .int .i64 n, .int .i64 bs, .int .i64 raw, .string ro, .string ta, .int .i64 ba, .int .i64 (L.length : Nat), .int .u64 (wdN L 0 : Nat), .int .u64 (wdN L 1 : Nat), .int .u64 (wdN L 2 : Nat), .int .u64 (wdN L 3 : Nat)] 37)) w6.heap.size 37 #[.int .i64 id, .string sa, .int .i64 n, .int .i64 bs, .int .i64 raw, .string ro, .string ta, .int .i64 ba, .int .i64 (L.length : Nat), .int .u64 (wdN L 0 : Nat), .int .u64 (wdN L 1 : Nat), .int .u64 (wdN L 2 : Nat), .int .u64 (wdN L 3 : Nat)] := Bk.new _ _ _
        have hB6 := (bl hB5 hb1).alloc (bl hB5 hb1).size (.cells #[.int .i64 id, .string sa, .int .i64 n, .int .i64 bs, .int .i64 raw, .string ro, .string ta, .int .i64 ba, .int .i64 (L.length : Nat), .int .u64 (wdN L 0 : Nat), .int .u64 (wdN L 1 : Nat), .int .u64 (wdN L 2 : Nat), .int .u64 (wdN L 3 : Nat)] 37)
        clear hR5 hB5 hb1
        have r0 := hR6.cell 0
        have r1 := hR6.cell 1
        have r2 := hR6.cell 2
        have r3 := hR6.cell 3
        have r4 := hR6.cell 4
        have r5 := hR6.cell 5
        have r6 := hR6.cell 6
        have r7 := hR6.cell 7
        have r8 := hR6.cell 8
        have r9 := hR6.cell 9
        have r10 := hR6.cell 10
        have r11 := hR6.cell 11
        have r12 := hR6.cell 12
        simp only [List.getElem?_toArray, List.getElem?_cons_succ, List.getElem?_cons_zero] at r0 r1 r2 r3 r4 r5 r6 r7 r8 r9 r10 r11 r12
        have t0 := hT6.cell 0
        have t1 := hT6.cell 1
        have t2 := hT6.cell 2
        have t3 := hT6.cell 3
        have t4 := hT6.cell 4
        have t5 := hT6.cell 5
        have t6 := hT6.cell 6
        have t7 := hT6.cell 7
        have t8 := hT6.cell 8
        have t9 := hT6.cell 9
        have t10 := hT6.cell 10
        have t11 := hT6.cell 11
        have t12 := hT6.cell 12
        simp only [List.getElem?_toArray, List.getElem?_cons_succ, List.getElem?_cons_zero] at t0 t1 t2 t3 t4 t5 t6 t7 t8 t9 t10 t11 t12
        go_upto_region 12 with (fail)
        clear r0 r1 r2 r3 r4 r5 r6 r7 r8 r9 r10 r11 r12 t0 t1 t2 t3 t4 t5 t6 t7 t8 t9 t10 t11 t12
        generalize (w6.alloc (.cells #[.int .i64 id, .string sa, .int .i64 n, .int .i64 bs, .int .i64 raw, .string ro, .string ta, .int .i64 ba, .int .i64 (L.length : Nat), .int .u64 (wdN L 0 : Nat), .int .u64 (wdN L 1 : Nat), .int .u64 (wdN L 2 : Nat), .int .u64 (wdN L 3 : Nat)] 37)) = w7 at *
        have hcv7 := hcv w7
        go_wp2_with fail
        (with_reducible refine (HNo.out _).mono ?_)
        rintro e w8 ⟨rfl, hb1⟩
        have hR8 := (((hR6.alloc _).below' hb1)).alloc (.cells #[.int .i64 0, .string ⟨#[]⟩, .int .i64 0, .int .i64 0, .int .i64 0, .string ⟨#[]⟩, .string ⟨#[]⟩, .int .i64 0, .int .i64 0, .int .u64 0, .int .u64 0, .int .u64 0, .int .u64 0] 37)
        have hU8 : Bk (w8.alloc (.cells #[.int .i64 0, .string ⟨#[]⟩, .int .i64 0, .int .i64 0, .int .i64 0, .string ⟨#[]⟩, .string ⟨#[]⟩, .int .i64 0, .int .i64 0, .int .u64 0, .int .u64 0, .int .u64 0, .int .u64 0] 37)) w8.heap.size 37 #[.int .i64 0, .string ⟨#[]⟩, .int .i64 0, .int .i64 0, .int .i64 0, .string ⟨#[]⟩, .string ⟨#[]⟩, .int .i64 0, .int .i64 0, .int .u64 0, .int .u64 0, .int .u64 0, .int .u64 0] := Bk.new _ _ _
        have hB7 := hB6.alloc hB6.size (.cells #[.int .u8 c] 5)
        have hB8 := (bl hB7 hb1).alloc (bl hB7 hb1).size (.cells #[.int .i64 0, .string ⟨#[]⟩, .int .i64 0, .int .i64 0, .int .i64 0, .string ⟨#[]⟩, .string ⟨#[]⟩, .int .i64 0, .int .i64 0, .int .u64 0, .int .u64 0, .int .u64 0, .int .u64 0] 37)
        clear hR6 hB6 hB7 hb1
        have r0 := hR8.cell 0
        have r1 := hR8.cell 1
        have r2 := hR8.cell 2
        have r3 := hR8.cell 3
        have r4 := hR8.cell 4
        have r5 := hR8.cell 5
        have r6 := hR8.cell 6
        have r7 := hR8.cell 7
        have r8 := hR8.cell 8
        have r9 := hR8.cell 9
        have r10 := hR8.cell 10
        have r11 := hR8.cell 11
        have r12 := hR8.cell 12
        simp only [List.getElem?_toArray, List.getElem?_cons_succ, List.getElem?_cons_zero] at r0 r1 r2 r3 r4 r5 r6 r7 r8 r9 r10 r11 r12
        have u0 := hU8.cell 0
        have u1 := hU8.cell 1
        have u2 := hU8.cell 2
        have u3 := hU8.cell 3
        have u4 := hU8.cell 4
        have u5 := hU8.cell 5
        have u6 := hU8.cell 6
        have u7 := hU8.cell 7
        have u8 := hU8.cell 8
        have u9 := hU8.cell 9
        have u10 := hU8.cell 10
        have u11 := hU8.cell 11
        have u12 := hU8.cell 12
        simp only [List.getElem?_toArray, List.getElem?_cons_succ, List.getElem?_cons_zero] at u0 u1 u2 u3 u4 u5 u6 u7 u8 u9 u10 u11 u12
        go_wp2_with fail
        (with_reducible refine (awakeJ_any _).mono ?_)
        rintro e w9 ⟨rfl, hb1⟩
        go_wp2_with fail
        go_ret
        exact ⟨rfl, bl hB8 hb1⟩
end Go.Proofs.YtaagdoaeefhleaaDoor
