/-
  index.Put. The taker: num, text, sum. index.Take. The reference's one. Printed by genIxTf.py.
-/
import Derived.Test.YtnhbkfefpkocaaaIxPa
import Derived.Test.YtnhbkfefpkocaaaP11
import Derived.Deep.CutBlock
import Derived.Test.YtnhbkfefpkocaaaP3
namespace Go.Proofs.Ytnhbkfefpkocaaa
open Go.RowKit Go.Sort

theorem putTextI_is (s t : ByteArray) (h : ofL (putT s.toList) = t) (w : World) (hs : s.size ≤ 4611686018427387904) :
    Calls Try.prog 42 #[.string s] w fun e w' => e = .returned (.string t) ∧ Below w.heap.size w w' := by subst h; exact putText_any s w hs
theorem putNum_oneI (n : Int) (s : ByteArray) (h : ofL (putN (clampN n)) = s) (w : World) : Calls Try.prog 41 #[.slice (some ⟨w.heap.size, 0, none⟩) 1 1] (w.alloc (.cells #[.int .i64 n] 3)) fun e w' =>
    e = .returned (.string s) ∧ Below w.heap.size w w' := by subst h; exact putNum_one n w
theorem putNum_twoI (n m : Int) (s : ByteArray) (h : ofL (putN (clampN n) ++ putN (clampN m)) = s) (w : World) : Calls Try.prog 41 #[.slice (some ⟨w.heap.size, 0, none⟩) 2 2] (w.alloc (.cells #[.int .i64 n, .int .i64 m] 3)) fun e w' =>
    e = .returned (.string s) ∧ Below w.heap.size w w' := by
  subst h
  exact (putNum_any _ 2 2 [n, m] _ rfl (Rd.new _ _ _) (by omega)).mono fun e w' ⟨he, hb⟩ => ⟨by rw [he]; simp [putNums], below_of_alloc hb⟩
theorem below_dn (w : World) (k : Nat) : Below w.heap.size w (w.drewN k) := below_dnS (Below.refl _ _) k
theorem str_of (l : List UInt8) : ∃ s : ByteArray, ofL l = s ∧ s.toList = l ∧ s.size = l.length := ⟨_, rfl, toList_ofL l, size_ofL l⟩

set_option maxRecDepth 20000 in
set_option maxHeartbeats 8000000 in
theorem xput_any (L : List It) (A : Option Addr) (n c : Nat) (hn : L.length = n) (hl : n ≤ 1000) (hz : ∀ y ∈ L, y.p.size ≤ 1000000 ∧ y.sm.size ≤ 1000000) (s : ByteArray) (hs : ofL (putX L) = s) (w : World) (hr : Rd w A (itf L)) :
    Calls Try.prog 17 #[.agg #[.slice A n c]] w fun e w' => e = .returned (.string s) ∧ Below w.heap.size w w' := by
  have mixed : Try.prog.follows Departure.mixedOrders = true := by kernel_rfl
  have HN := Lib.hid (And.intro hn (And.intro hz (And.intro hs hr)))
  obtain ⟨w1, hw1⟩ : ∃ w1, w.alloc (.cells #[.slice A n c] 25) = w1 := ⟨_, rfl⟩
  have hb1 : Below w.heap.size w w1 := by rw [← hw1]; exact (Below.refl _ _).alloc (Nat.le_refl _) _
  have hk1 : Bk w1 w.heap.size 25 #[.slice A n c] := by rw [← hw1]; exact Bk.new _ _ _
  have cx := hk1.cell_ 0 (.slice A n c) rfl
  have H1 := Lib.hid (And.intro hb1 hk1)
  have HW1 := Lib.hid hw1
  obtain ⟨s0, hs0, hs0l, hs0z⟩ := str_of (putN (clampN (n : Int)))
  have h09 := putN_length (clampN (n : Int))
  have HS0 := Lib.hid (And.intro hs0 (And.intro hs0l (And.intro hs0z h09)))
  have hcv := fun w => Go.Lib.run_convert_string_bytes (P := Try.prog) w 9 80 5 s0 Try.underlying9 Try.underlying80 Try.underlying5
  clear hn hz hs hr hb1 hk1 hw1 hs0 hs0l hs0z h09
  go_enter Try.func17, Try.ntmps17
  go_upto_region 1 with (fail)
  rw [HW1.out]
  clear HW1
  go_wp2_with fail
  refine (putNum_oneI (n : Int) s0 HS0.out.1 w1).mono ?_
  rintro e w2 ⟨rfl, hb2⟩
  have hb2' := bl H1.out.1 hb2
  have hO := OwnB.conv w2 5 s0 (by have := HS0.out.2.2.1; have := HS0.out.2.2.2; unfold maxLen; omega)
  have hbc := Go.Lib.bytesWorld_below w2 5 s0
  have hcv2 := hcv w2
  have hb3 := bl hb2' hbc
  have hk3 := (H1.out.2.below' hb2).below' hbc
  have hz2 := hb2'.size
  rw [HS0.out.2.1] at hO
  clear hb2' hb2 hbc hcv cx
  generalize Value.slice (some ⟨w2.heap.size, 0, none⟩) s0.size (grownCap w2 s0.size 0 5) = v5 at *
  generalize Go.Lib.bytesWorld w2 5 s0 = w3 at *
  have cx := hk3.cell_ 0 (.slice A n c) rfl
  have hO' : OwnB w3 w.heap.size 5 v5 (putN (clampN (n : Int)) ++ restP [] (L.take 0)) := by
    obtain ⟨g, cap, cur, fz, e1, e2, e3⟩ := hO
    have e4 : putN (clampN (n : Int)) ++ restP [] (L.take 0) = putN (clampN (n : Int)) := by simp [restP]
    rw [e4]
    exact ⟨g, cap, cur, fz, e1, Nat.le_trans hz2 e2, e3⟩
  have HB3 := Lib.hid (And.intro hb3 hO')
  clear hO hz2 hb3 hk3 hO'
  go_wp2_with fail
  go_loopw [3, 4, 17] (fun v3 v4 vi wr => ∃ (i : Nat) (v : Value) (Lb : List UInt8) (last : ByteArray), vi = .int .i64 (i : Nat) ∧ v3 = v ∧ v4 = .string last ∧ i ≤ n ∧ Lb.length ≤ 9 + i * 3000000 ∧ last.size ≤ 1000000 ∧ Hid (OwnB wr w.heap.size 5 v Lb) ∧ Hid (Lb = putN (clampN (n : Int)) ++ restP [] (L.take i) ∧ True) ∧ Hid (last.toList = lastP [] (L.take i) ∧ True) ∧ Hid (Below w.heap.size w wr)) (fun _ _ vi _ => n - iOfI vi)
  case atStart => exact ⟨0, _, _, ⟨#[]⟩, rfl, rfl, rfl, by omega, by have := HS0.out.2.2.2; simp [restP]; omega, by decide, Lib.hid HB3.out.2, Lib.hid ⟨rfl, trivial⟩, Lib.hid ⟨toList_nil, trivial⟩, Lib.hid HB3.out.1⟩
  case round =>
    clear HB3 cx
    obtain ⟨i, v, Lb, last, rfl, rfl, rfl, hi, hLb, hlz, HO, HL, HLA, HB⟩ := hrel
    by_cases hin : i < n
    · have hin1 : (i : Int) < (n : Int) := by omega
      obtain ⟨x, hx⟩ : ∃ x, L[i]? = some x := ⟨_, List.getElem?_eq_getElem (by rw [HN.out.1]; exact hin)⟩
      obtain ⟨b, o, rfl, _, q0, q1, q2, q3⟩ := (HN.out.2.2.2.below HB.out).item hx
      have hxz := HN.out.2.1 x (List.mem_of_getElem? hx)
      have hxz1 : x.p.size ≤ 1000000 := hxz.1
      have hxz2 : x.sm.size ≤ 1000000 := hxz.2
      have HX := Lib.hid hx
      obtain ⟨w5, hw5⟩ : ∃ w5, wr.alloc (.cells #[.string x.p, .int .i64 x.id, .int .i64 x.sz, .string x.sm] 46) = w5 := ⟨_, rfl⟩
      have hb5 : Below wr.heap.size wr w5 := by rw [← hw5]; exact (Below.refl _ _).alloc (Nat.le_refl _) _
      have hk5 : Bk w5 wr.heap.size 46 #[.string x.p, .int .i64 x.id, .int .i64 x.sz, .string x.sm] := by rw [← hw5]; exact Bk.new _ _ _
      have hone := HO.out.ne
      have H5 := Lib.hid (And.intro (bl HB.out hb5) (And.intro hk5 (And.intro (HO.out.below' hb5) hone)))
      have HW5 := Lib.hid hw5
      have c0 := hk5.cell_ 0 (.string x.p) rfl
      have c0n : ∀ k, (w5.drewN k).cell? _ = some _ := fun _ => c0
      clear hx hxz hb5 hk5 hone hw5 HO c0
      go_upto_region 6 with (fail)
      rw [HW5.out]
      clear HW5 q0 q1 q2 q3
      obtain ⟨cm, hcm⟩ : ∃ cm, comI last.toList x.p.toList = cm := ⟨_, rfl⟩
      have hcl := comI_le last.toList x.p.toList
      rw [hcm, size_toList, size_toList] at hcl
      have hcl1 : cm ≤ x.p.size := hcl.2
      have HCM := Lib.hid (And.intro hcm trivial)
      clear hcm hcl
      go_upto_block 2 with (fail)
      go_cut [7] from 18 to 70 (fun vs wx => vs = .int .i64 (cm : Nat) ∧ ∃ q, wx = w5.drewN q)
      case first =>
        go_wp2_with fail
        go_loopw [7] (fun vs wx => ∃ (s q : Nat), vs = .int .i64 (s : Nat) ∧ s ≤ last.size ∧ s ≤ x.p.size ∧ Hid (last.toList.take s = x.p.toList.take s ∧ True) ∧ wx = w5.drewN q) (fun vs _ => last.size - iOfI vs)
        case atStart => exact ⟨0, 0, rfl, by omega, by omega, Lib.hid ⟨by simp, trivial⟩, rfl⟩
        case round =>
          obtain ⟨t, q, rfl, ht1, ht2, HT, rfl⟩ := hrel
          have c0q : ∀ k, ((w5.drewN q).drewN k).cell? _ = some _ := fun k => c0n (q + k)
          by_cases hl1 : t < last.size
          · have hl1' : (t : Int) < (last.size : Int) := by omega
            by_cases hl2 : t < x.p.size
            · have hl2' : (t : Int) < (x.p.size : Int) := by omega
              by_cases hb : last[t] = x.p[t]
              · have hb1 : ((last[t].toNat : Int) == (x.p[t].toNat : Int)) = true := by rw [hb]; simp
                have HT2 := Lib.hid (show last.toList.take (t + 1) = x.p.toList.take (t + 1) ∧ True by
                  rw [List.take_add_one, List.take_add_one, HT.out.1, List.getElem?_eq_getElem (by rw [size_toList]; exact hl1), List.getElem?_eq_getElem (by rw [size_toList]; exact hl2), ← getElem_toList last t hl1, ← getElem_toList x.p t hl2, hb]
                  exact ⟨rfl, trivial⟩)
                clear hb
                go_wp2_with fail
                go_quiet (fail)
                go_wp2_with fail
                exact ⟨⟨t + 1, q + nq, by first | rfl | go_num, by omega, by omega, HT2, rfl⟩, by simp [iOfI]; omega⟩
              · have hb1 : ((last[t].toNat : Int) == (x.p[t].toNat : Int)) = false := by
                  rw [beq_eq_false_iff_ne]
                  exact fun e => hb (UInt8.toNat_inj.1 (by omega))
                have HE := Lib.hid (show cm = t by
                  rw [← HCM.out.1]
                  refine comI_stop _ _ t (by rw [size_toList]; omega) (by rw [size_toList]; omega) HT.out.1 (.inr (.inr fun e => hb ?_))
                  rw [List.getElem?_eq_getElem (by rw [size_toList]; exact hl1), List.getElem?_eq_getElem (by rw [size_toList]; exact hl2), ← getElem_toList last t hl1, ← getElem_toList x.p t hl2] at e
                  exact Option.some.inj e)
                clear hb
                go_wp2_with fail
                go_quiet (fail)
                go_wp2_with fail
                go_meet
                exact ⟨by rw [HE.out], q + nq, by rw [World.drewN_drewN]⟩
            · have hl2' : ¬ ((t : Int) < (x.p.size : Int)) := by omega
              have HE := Lib.hid (show cm = t by
                rw [← HCM.out.1]
                exact comI_stop _ _ t (by rw [size_toList]; omega) (by rw [size_toList]; omega) HT.out.1 (.inr (.inl (by rw [size_toList]; omega))))
              go_wp2_with fail
              go_quiet (fail)
              go_wp2_with fail
              go_meet
              exact ⟨by rw [HE.out], q + nq, by rw [World.drewN_drewN]⟩
          · have hl1' : ¬ ((t : Int) < (last.size : Int)) := by omega
            have HE := Lib.hid (show cm = t by
              rw [← HCM.out.1]
              exact comI_stop _ _ t (by rw [size_toList]; omega) (by rw [size_toList]; omega) HT.out.1 (.inl (by rw [size_toList]; omega)))
            go_wp2_with fail
            go_quiet (fail)
            go_wp2_with fail
            go_meet
            exact ⟨by rw [HE.out], q + nq, by rw [World.drewN_drewN]⟩
      case rest =>
        obtain ⟨rfl, q, hwq⟩ := hcut
        have hbq := below_dn w5 q
        rw [← hwq] at hbq
        clear hwq c0n
        obtain ⟨w6, rfl⟩ : ∃ w6, w6 = wc := ⟨_, rfl⟩
        have hb6 := bl H5.out.1 hbq
        have hk6 := H5.out.2.1.below' hbq
        have hO6 := H5.out.2.2.1.below' hbq
        obtain ⟨s1, hs1, hs1l, hs1z⟩ := str_of (putN (clampN ((cm : Nat) : Int)))
        obtain ⟨xq, hxq⟩ : ∃ xq, x.p.extract cm x.p.size = xq := ⟨_, rfl⟩
        have hxql : xq.toList = x.p.toList.drop cm := by rw [← hxq, toList_suf]
        have hxqz : xq.size ≤ 1000000 := by rw [← size_toList, hxql, List.length_drop, size_toList]; omega
        obtain ⟨s2, hs2, hs2l, hs2z⟩ := str_of (putT xq.toList)
        obtain ⟨s3, hs3, hs3l, hs3z⟩ := str_of (putN (clampN x.id) ++ putN (clampN x.sz))
        have hz1 : s1.size ≤ 9 := by rw [hs1z]; exact putN_length _
        have hz2 : s2.size ≤ 1000009 := by rw [hs2z]; have := putT_lenL xq.toList; rw [size_toList] at this; omega
        have hz3 : s3.size ≤ 18 := by rw [hs3z, List.length_append]; have := putN_length (clampN x.id); have := putN_length (clampN x.sz); omega
        have HS := Lib.hid (And.intro hs1 (And.intro hs2 (And.intro hs3 (And.intro hs1l (And.intro hs2l (And.intro hs3l hxql))))))
        have H6 := Lib.hid (And.intro hb6 (And.intro hk6 (And.intro hO6 (H5.out.2.2.2))))
        clear hs1 hs2 hs3 hs1l hs2l hs3l hs1z hs2z hs3z hxql hb6 hk6 hO6 hbq
        go_wp2_with fail
        refine (putNum_oneI (cm : Nat) s1 HS.out.1 w6).mono ?_
        rintro e w7 ⟨rfl, hb7⟩
        have hz7 : w.heap.size ≤ w7.heap.size := (bl H6.out.1 hb7).size
        have hO7 := H6.out.2.2.1.below' hb7
        have HB7 := Lib.hid (And.intro (bl H6.out.1 hb7) (And.intro (H6.out.2.1.below' hb7) hO7))
        clear hb7 hO7
        go_upto_region 10 with (at_builtin; go_must (refine wpList_append_bytes rfl (.tmp 44) (.tmp 47) 80 9 rfl w.heap.size 5 el_byte Try.underlying9 (by kernel_rfl) _ _ rfl HB7.out.2.2 _ rfl (by omega) hz7 ?_); intro v8 w8 hO8 hb8 hg8 hk8)
        have hk8' := HB7.out.2.1.onlyV hg8 H6.out.2.2.2
        have hn8 := hk8 wr.heap.size HB7.out.2.1.lt H6.out.2.2.2
        have H8 := Lib.hid (And.intro (HB7.out.1.trans hb8) (And.intro hk8' (And.intro hO8 hn8)))
        have c0 := hk8'.cell_ 0 (.string x.p) rfl
        clear hO8 hb8 hg8 hk8 hk8' hn8 hz7
        go_wp2_with fail
        refine (putTextI_is xq s2 HS.out.2.1 w8 (by omega)).mono ?_
        rintro e w9 ⟨rfl, hb9⟩
        have hz9 : w.heap.size ≤ w9.heap.size := (bl H8.out.1 hb9).size
        have hO9 := H8.out.2.2.1.below' hb9
        have HB9 := Lib.hid (And.intro (bl H8.out.1 hb9) (And.intro (H8.out.2.1.below' hb9) hO9))
        have hL9 : (Lb ++ s1.toList).length + s2.size ≤ 1000000000000 := by rw [List.length_append, size_toList]; omega
        clear hb9 hO9 c0 hxq
        go_upto_region 11 with (at_builtin; go_must (refine wpList_append_bytes rfl (.tmp 49) (.tmp 54) 80 9 rfl w.heap.size 5 el_byte Try.underlying9 (by kernel_rfl) _ _ rfl HB9.out.2.2 _ rfl hL9 hz9 ?_); intro v10 w10 hO10 hb10 hg10 hk10)
        have hk10' := HB9.out.2.1.onlyV hg10 H8.out.2.2.2
        have hn10 := hk10 wr.heap.size HB9.out.2.1.lt H8.out.2.2.2
        have H10 := Lib.hid (And.intro (HB9.out.1.trans hb10) (And.intro hk10' (And.intro hO10 hn10)))
        have c1 := hk10'.cell_ 1 (.int .i64 x.id) rfl
        have c2 := hk10'.cell_ 2 (.int .i64 x.sz) rfl
        clear hO10 hb10 hg10 hk10 hk10' hn10 hz9 hL9
        go_wp2_with fail
        refine (putNum_twoI x.id x.sz s3 HS.out.2.2.1 w10).mono ?_
        rintro e w11 ⟨rfl, hb11⟩
        have hz11 : w.heap.size ≤ w11.heap.size := (bl H10.out.1 hb11).size
        have hO11 := H10.out.2.2.1.below' hb11
        have HB11 := Lib.hid (And.intro (bl H10.out.1 hb11) (And.intro (H10.out.2.1.below' hb11) hO11))
        have hL11 : (Lb ++ s1.toList ++ s2.toList).length + s3.size ≤ 1000000000000 := by rw [List.length_append, List.length_append, size_toList, size_toList]; omega
        clear hb11 hO11 c1 c2
        go_upto_region 12 with (at_builtin; go_must (refine wpList_append_bytes rfl (.tmp 56) (.tmp 62) 80 9 rfl w.heap.size 5 el_byte Try.underlying9 (by kernel_rfl) _ _ rfl HB11.out.2.2 _ rfl hL11 hz11 ?_); intro v12 w12 hO12 hb12 hg12 hk12)
        have hk12' := HB11.out.2.1.onlyV hg12 H10.out.2.2.2
        have hn12 := hk12 wr.heap.size HB11.out.2.1.lt H10.out.2.2.2
        have H12 := Lib.hid (And.intro (HB11.out.1.trans hb12) (And.intro hk12' (And.intro hO12 hn12)))
        have c3 := hk12'.cell_ 3 (.string x.sm) rfl
        have hz12 : w.heap.size ≤ w12.heap.size := H12.out.1.size
        have hL12 : (Lb ++ s1.toList ++ s2.toList ++ s3.toList).length + x.sm.size ≤ 1000000000000 := by rw [List.length_append, List.length_append, List.length_append, size_toList, size_toList, size_toList]; omega
        clear hO12 hb12 hg12 hk12 hk12' hn12 hz11 hL11
        go_upto_region 13 with (at_builtin; go_must (refine wpList_append_bytes rfl (.tmp 64) (.tmp 66) 80 9 rfl w.heap.size 5 el_byte Try.underlying9 (by kernel_rfl) _ _ rfl H12.out.2.2.1 _ rfl hL12 hz12 ?_); intro v14 w14 hO14 hb14 hg14 hk14)
        have hk14' := H12.out.2.1.onlyV hg14 H12.out.2.2.2
        have HB14 := Lib.hid (H12.out.1.trans hb14)
        have c0 := hk14'.cell_ 0 (.string x.p) rfl
        have HO14 := Lib.hid hO14
        have HL14 := Lib.hid (show Lb ++ s1.toList ++ s2.toList ++ s3.toList ++ x.sm.toList = putN (clampN (n : Int)) ++ restP [] (L.take (i + 1)) ∧ True from ⟨by
          rw [List.take_add_one, HX.out, Option.toList_some, restP_snoc, HL.out.1, HS.out.2.2.2.1, HS.out.2.2.2.2.1, HS.out.2.2.2.2.2.1, HS.out.2.2.2.2.2.2]
          unfold oneP
          rw [← HLA.out.1, HCM.out.1]
          simp only [List.append_assoc], trivial⟩)
        have hLl : (Lb ++ s1.toList ++ s2.toList ++ s3.toList ++ x.sm.toList).length ≤ 9 + (i + 1) * 3000000 := by
          simp only [List.length_append, size_toList]
          omega
        have HLA14 := Lib.hid (show x.p.toList = lastP [] (L.take (i + 1)) ∧ True from ⟨by rw [List.take_add_one, HX.out, Option.toList_some, lastP_snoc], trivial⟩)
        clear hO14 hb14 hg14 hk14 hk14' c3 hz12 hL12
        go_wp2_with fail
        go_round
        case rel => exact ⟨i + 1, v14, _, x.p, by first | rfl | go_num, rfl, rfl, by omega, hLl, hxz1, HO14, HL14, HLA14, HB14⟩
        case measure => simp [iOfI]; omega
    · obtain rfl : i = n := by omega
      have hin1 : ¬ ((i : Int) < (i : Int)) := by omega
      have hL2 : Lb = putX L := by
        rw [HL.out.1, List.take_of_length_le (by rw [HN.out.1]; exact Nat.le_refl _)]
        unfold putX
        rw [HN.out.1]
      have hcs := conv_ownB (P := Try.prog) HO.out 80 9 5 Try.underlying80 Try.underlying5 Try.underlying9
      rw [hL2, HN.out.2.2.1] at hcs
      clear hL2 HL
      go_wp2_with fail
      go_ret
      exact ⟨rfl, HB.out⟩
end Go.Proofs.Ytnhbkfefpkocaaa
namespace Go.Proofs.Ytnhbkfefpkocaaa
open Go.RowKit Go.Sort

/-- What the taker's methods tell, and leave. -/
def numS (s : ByteArray) (e : Int) : Int × ByteArray × Int := if e ≠ 0 then (0, s, e) else match takeN s.toList with | none => (0, ⟨#[]⟩, 2) | some (n, r) => ((n : Int), ofL r, 0)
def textS (s : ByteArray) (e : Int) (most : Int) : ByteArray × ByteArray × Int := if e ≠ 0 then (⟨#[]⟩, s, e) else (ofL (takeT s.toList most).1, ofL (takeT s.toList most).2.1, (takeT s.toList most).2.2)
def sumS (s : ByteArray) (e : Int) : ByteArray × ByteArray × Int := if e ≠ 0 then (⟨#[]⟩, s, e) else if s.size < 32 then (⟨#[]⟩, s, 2) else (ofL (s.toList.take 32), ofL (s.toList.drop 32), 0)
theorem below_grown {w w' : World} (g : Nat) (h : Below w.heap.size w w') : w.grownBy w' (some g) := ⟨h.os, h.tape, h.output, h.size, fun k hk _ => h.block k hk⟩
theorem numS_size (s : ByteArray) (e : Int) : (numS s e).2.1.size ≤ s.size := by
  unfold numS
  split
  · exact Nat.le_refl _
  · split
    · exact Nat.zero_le _
    · next n r h =>
      have := congrArg List.length (takeN_some _ _ _ h).1
      rw [List.length_append, size_toList] at this
      simp only [size_ofL]
      omega
theorem textS_size (s : ByteArray) (e most : Int) : (textS s e most).2.1.size ≤ s.size ∧ (textS s e most).1.size ≤ s.size := by
  unfold textS
  split
  · exact ⟨Nat.le_refl _, Nat.zero_le _⟩
  · have := takeT_len s.toList most
    rw [size_toList] at this
    simp only [size_ofL]
    exact ⟨this.2, this.1⟩
theorem sumS_size (s : ByteArray) (e : Int) : (sumS s e).2.1.size ≤ s.size := by
  unfold sumS
  split
  · exact Nat.le_refl _
  · split
    · exact Nat.le_refl _
    · simp only [size_ofL, List.length_drop, size_toList]; omega

set_option maxRecDepth 20000 in
set_option maxHeartbeats 2000000 in
theorem num_any (g : Nat) (s : ByteArray) (e : Int) (r : Int) (s' : ByteArray) (e' : Int) (h : numS s e = (r, s', e')) (hs : s.size ≤ 1000000000) (w : World) (hb : Bk w g 86 #[.string s, .int .i64 e]) :
    Calls Try.prog 44 #[.pointer (some ⟨g, 0, none⟩)] w fun en w' => en = .returned (.int .i64 r) ∧ Bk w' g 86 #[.string s', .int .i64 e'] ∧ w.grownBy w' (some g) := by
  have c0 := hb.cell_ 0 (.string s) rfl
  have c1 := hb.cell_ 1 (.int .i64 e) rfl
  have HB := Lib.hid hb
  have HH := Lib.hid h
  clear hb h
  by_cases he : e = 0
  · subst he
    have HH2 := HH.out
    unfold numS at HH2
    rw [if_neg (by simp)] at HH2
    cases ht : takeN s.toList with
    | none =>
      rw [ht] at HH2
      simp only [Prod.mk.injEq] at HH2
      obtain ⟨rfl, rfl, rfl⟩ := HH2
      have HT := Lib.hid ht
      clear ht
      go_enter Try.func44, Try.ntmps44
      go_wp2_with fail
      refine (takeNum_none s w (by omega) HT.out).mono ?_
      rintro en w1 ⟨rfl, hb1⟩
      have hk1 := HB.out.below' hb1
      have z0 := hk1.cell_ 0 (.string s) rfl
      have z1 := hk1.cell_ 1 (.int .i64 0) rfl
      have y0 := hk1.frozen 0
      have y1 := hk1.frozen 1
      have H1 := Lib.hid (And.intro hb1 hk1)
      clear hb1 hk1 c0 c1
      go_wp2_with fail
      try go_region
      go_wp2_with fail
      go_ret
      refine ⟨rfl, (H1.out.2.set_ 0 _).set_ 1 _, ?_⟩
      exact only_trans (below_grown g H1.out.1) (only_trans (only_set _ g 0 _) (only_set _ g 1 _))
    | some x =>
      obtain ⟨n, rr⟩ := x
      rw [ht] at HH2
      simp only [Prod.mk.injEq] at HH2
      obtain ⟨rfl, rfl, rfl⟩ := HH2
      have HT := Lib.hid ht
      clear ht
      obtain ⟨s1, hs1⟩ : ∃ s1, ofL rr = s1 := ⟨_, rfl⟩
      have HS1 := Lib.hid hs1
      rw [hs1]
      clear hs1
      go_enter Try.func44, Try.ntmps44
      go_wp2_with fail
      refine (takeNum_some s w (by omega) n rr HT.out).mono ?_
      rw [HS1.out]
      rintro en w1 ⟨rfl, hb1⟩
      have hk1 := HB.out.below' hb1
      have z0 := hk1.cell_ 0 (.string s) rfl
      have z1 := hk1.cell_ 1 (.int .i64 0) rfl
      have y0 := hk1.frozen 0
      have y1 := hk1.frozen 1
      have H1 := Lib.hid (And.intro hb1 hk1)
      clear hb1 hk1 c0 c1
      go_wp2_with fail
      try go_region
      go_wp2_with fail
      go_ret
      refine ⟨rfl, (H1.out.2.set_ 0 _).set_ 1 _, ?_⟩
      exact only_trans (below_grown g H1.out.1) (only_trans (only_set _ g 0 _) (only_set _ g 1 _))
  · have e0 : (e == 0) = false := by simp [he]
    have e1 : (e != 0) = true := by simp [he]
    have HH2 := HH.out
    unfold numS at HH2
    rw [if_pos he] at HH2
    simp only [Prod.mk.injEq] at HH2
    obtain ⟨rfl, rfl, rfl⟩ := HH2
    clear he
    go_enter Try.func44, Try.ntmps44
    go_wp2_with fail
    go_ret
    exact ⟨rfl, HB.out, below_grown g (Below.refl _ _)⟩

set_option maxRecDepth 20000 in
set_option maxHeartbeats 2000000 in
theorem text_any (g : Nat) (s : ByteArray) (e most : Int) (r s' : ByteArray) (e' : Int) (h : textS s e most = (r, s', e')) (hs : s.size ≤ 1000000000) (w : World) (hb : Bk w g 86 #[.string s, .int .i64 e]) :
    Calls Try.prog 45 #[.pointer (some ⟨g, 0, none⟩), .int .i64 most] w fun en w' => en = .returned (.string r) ∧ Bk w' g 86 #[.string s', .int .i64 e'] ∧ w.grownBy w' (some g) := by
  have c0 := hb.cell_ 0 (.string s) rfl
  have c1 := hb.cell_ 1 (.int .i64 e) rfl
  have HB := Lib.hid hb
  have HH := Lib.hid h
  clear hb h
  by_cases he : e = 0
  · subst he
    have HH2 := HH.out
    unfold textS at HH2
    rw [if_neg (by simp)] at HH2
    simp only [Prod.mk.injEq] at HH2
    have HT := Lib.hid (show takeT s.toList most = (r.toList, s'.toList, e') by
      obtain ⟨rfl, rfl, rfl⟩ := HH2
      rw [toList_ofL, toList_ofL])
    clear HH2
    go_enter Try.func45, Try.ntmps45
    go_wp2_with fail
    refine (takeText_any s most w (by omega)).mono ?_
    rintro en w1 ⟨hen, hb1⟩
    unfold TextEnd at hen
    rw [HT.out, ofL_toList, ofL_toList] at hen
    subst hen
    have hk1 := HB.out.below' hb1
    have z0 := hk1.cell_ 0 (.string s) rfl
    have z1 := hk1.cell_ 1 (.int .i64 0) rfl
    have y0 := hk1.frozen 0
    have y1 := hk1.frozen 1
    have H1 := Lib.hid (And.intro hb1 hk1)
    clear hb1 hk1 c0 c1
    go_wp2_with fail
    try go_region
    go_wp2_with fail
    go_ret
    refine ⟨rfl, (H1.out.2.set_ 0 _).set_ 1 _, ?_⟩
    exact only_trans (below_grown g H1.out.1) (only_trans (only_set _ g 0 _) (only_set _ g 1 _))
  · have e0 : (e == 0) = false := by simp [he]
    have e1 : (e != 0) = true := by simp [he]
    have HH2 := HH.out
    unfold textS at HH2
    rw [if_pos he] at HH2
    simp only [Prod.mk.injEq] at HH2
    obtain ⟨rfl, rfl, rfl⟩ := HH2
    clear he
    go_enter Try.func45, Try.ntmps45
    go_wp2_with fail
    go_ret
    exact ⟨rfl, HB.out, below_grown g (Below.refl _ _)⟩

set_option maxRecDepth 20000 in
set_option maxHeartbeats 2000000 in
theorem sum_any (g : Nat) (s : ByteArray) (e : Int) (r s' : ByteArray) (e' : Int) (h : sumS s e = (r, s', e')) (hs : s.size ≤ 1000000000) (w : World) (hb : Bk w g 86 #[.string s, .int .i64 e]) :
    Calls Try.prog 46 #[.pointer (some ⟨g, 0, none⟩)] w fun en w' => en = .returned (.string r) ∧ Bk w' g 86 #[.string s', .int .i64 e'] ∧ w.grownBy w' (some g) := by
  have c0 := hb.cell_ 0 (.string s) rfl
  have c1 := hb.cell_ 1 (.int .i64 e) rfl
  have y0 := hb.frozen 0
  have y1 := hb.frozen 1
  have HB := Lib.hid hb
  have HH2 := h
  clear hb h
  unfold sumS at HH2
  by_cases he : e = 0
  · subst he
    rw [if_neg (by simp)] at HH2
    by_cases hl : s.size < 32
    · rw [if_pos hl] at HH2
      simp only [Prod.mk.injEq] at HH2
      obtain ⟨rfl, rfl, rfl⟩ := HH2
      have hl1 : (s.size : Int) < 32 := by omega
      go_enter Try.func46, Try.ntmps46
      go_wp2_with fail
      go_ret
      exact ⟨rfl, HB.out.set_ 1 _, only_set _ g 1 _⟩
    · rw [if_neg hl] at HH2
      simp only [Prod.mk.injEq] at HH2
      have HT := Lib.hid (show s.extract 0 32 = r ∧ s.extract 32 s.size = s' ∧ e' = 0 from ⟨by rw [← HH2.1]; exact str_eq (by rw [toList_pre, toList_ofL]), by rw [← HH2.2.1]; exact str_eq (by rw [toList_suf, toList_ofL]), HH2.2.2.symm⟩)
      have hl1 : ¬ ((s.size : Int) < 32) := by omega
      have hl2 : (32 : Int) ≤ (s.size : Int) := by omega
      have hl3 : 32 ≤ s.size := by omega
      have q1 := HT.out.1
      have q2 := HT.out.2.1
      clear HH2 hl
      go_enter Try.func46, Try.ntmps46
      go_wp2_with fail
      go_ret
      obtain ⟨_, _, rfl⟩ := HT.out
      exact ⟨rfl, HB.out.set_ 0 _, only_set _ g 0 _⟩
  · have e0 : (e == 0) = false := by simp [he]
    have e1 : (e != 0) = true := by simp [he]
    rw [if_pos he] at HH2
    simp only [Prod.mk.injEq] at HH2
    obtain ⟨rfl, rfl, rfl⟩ := HH2
    clear he
    go_enter Try.func46, Try.ntmps46
    go_wp2_with fail
    go_ret
    exact ⟨rfl, HB.out, below_grown g (Below.refl _ _)⟩
end Go.Proofs.Ytnhbkfefpkocaaa
namespace Go.Proofs.Ytnhbkfefpkocaaa
open Go.RowKit Go.Sort

section
variable {s s1 s2 s3 s4 s5 p sm : ByteArray} {c e1 e2 id e3 sz e4 e5 : Int}
theorem numS_bad {s : ByteArray} {e : Int} (h : e ≠ 0) : numS s e = (0, s, e) := by unfold numS; rw [if_pos h]
theorem textS_bad {s : ByteArray} {e most : Int} (h : e ≠ 0) : textS s e most = (⟨#[]⟩, s, e) := by unfold textS; rw [if_pos h]
theorem sumS_bad {s : ByteArray} {e : Int} (h : e ≠ 0) : sumS s e = (⟨#[]⟩, s, e) := by unfold sumS; rw [if_pos h]
theorem numS_cases (s : ByteArray) : (numS s 0 = (0, ⟨#[]⟩, 2) ∧ takeN s.toList = none) ∨ ∃ (n : Nat) (r : List UInt8), numS s 0 = ((n : Int), ofL r, 0) ∧ takeN s.toList = some (n, r) := by
  unfold numS
  rw [if_neg (by simp)]
  cases takeN s.toList with
  | none => exact .inl ⟨rfl, rfl⟩
  | some x => exact .inr ⟨x.1, x.2, rfl, rfl⟩
theorem oneS_law (h1 : numS s 0 = (c, s1, e1)) (h2 : textS s1 e1 4096 = (p, s2, e2)) (h3 : numS s2 e2 = (id, s3, e3)) (h4 : numS s3 e3 = (sz, s4, e4)) (h5 : sumS s4 e4 = (sm, s5, e5)) :
    (e5 ≠ 0 ∧ (oneT s.toList).1 = e5) ∨ (e5 = 0 ∧ oneT s.toList = (0, c.toNat, p.toList, id.toNat, sz.toNat, sm.toList, s5.toList) ∧ 0 ≤ c ∧ 0 ≤ id ∧ 0 ≤ sz) := by
  unfold oneT
  rcases numS_cases s with ⟨k1, k2⟩ | ⟨n, r, k1, k2⟩
  · rw [k1] at h1
    simp only [Prod.mk.injEq] at h1
    obtain ⟨rfl, rfl, rfl⟩ := h1
    rw [textS_bad (by decide)] at h2
    simp only [Prod.mk.injEq] at h2
    obtain ⟨rfl, rfl, rfl⟩ := h2
    rw [numS_bad (by decide)] at h3
    simp only [Prod.mk.injEq] at h3
    obtain ⟨rfl, rfl, rfl⟩ := h3
    rw [numS_bad (by decide)] at h4
    simp only [Prod.mk.injEq] at h4
    obtain ⟨rfl, rfl, rfl⟩ := h4
    rw [sumS_bad (by decide)] at h5
    simp only [Prod.mk.injEq] at h5
    obtain ⟨rfl, rfl, rfl⟩ := h5
    left
    rw [k2]
    exact ⟨by decide, rfl⟩
  · rw [k1] at h1
    simp only [Prod.mk.injEq] at h1
    obtain ⟨rfl, rfl, rfl⟩ := h1
    rw [k2]
    simp only
    unfold textS at h2
    rw [if_neg (by simp), toList_ofL] at h2
    simp only [Prod.mk.injEq] at h2
    obtain ⟨rfl, rfl, rfl⟩ := h2
    by_cases ht : (takeT r 4096).2.2 ≠ 0
    · rw [numS_bad ht] at h3
      simp only [Prod.mk.injEq] at h3
      obtain ⟨rfl, rfl, rfl⟩ := h3
      rw [numS_bad ht] at h4
      simp only [Prod.mk.injEq] at h4
      obtain ⟨rfl, rfl, rfl⟩ := h4
      rw [sumS_bad ht] at h5
      simp only [Prod.mk.injEq] at h5
      obtain ⟨rfl, rfl, rfl⟩ := h5
      left
      rw [if_pos ht]
      exact ⟨ht, rfl⟩
    · rw [if_neg ht]
      rw [Decidable.not_not.1 ht] at h3
      rcases numS_cases (ofL (takeT r 4096).2.1) with ⟨k3, k4⟩ | ⟨n2, r2, k3, k4⟩
      · rw [k3] at h3
        simp only [Prod.mk.injEq] at h3
        obtain ⟨rfl, rfl, rfl⟩ := h3
        rw [numS_bad (by decide)] at h4
        simp only [Prod.mk.injEq] at h4
        obtain ⟨rfl, rfl, rfl⟩ := h4
        rw [sumS_bad (by decide)] at h5
        simp only [Prod.mk.injEq] at h5
        obtain ⟨rfl, rfl, rfl⟩ := h5
        left
        rw [toList_ofL] at k4
        rw [k4]
        exact ⟨by decide, rfl⟩
      · rw [k3] at h3
        simp only [Prod.mk.injEq] at h3
        obtain ⟨rfl, rfl, rfl⟩ := h3
        rw [toList_ofL] at k4
        rw [k4]
        simp only
        rcases numS_cases (ofL r2) with ⟨k5, k6⟩ | ⟨n3, r3, k5, k6⟩
        · rw [k5] at h4
          simp only [Prod.mk.injEq] at h4
          obtain ⟨rfl, rfl, rfl⟩ := h4
          rw [sumS_bad (by decide)] at h5
          simp only [Prod.mk.injEq] at h5
          obtain ⟨rfl, rfl, rfl⟩ := h5
          left
          rw [toList_ofL] at k6
          rw [k6]
          exact ⟨by decide, rfl⟩
        · rw [k5] at h4
          simp only [Prod.mk.injEq] at h4
          obtain ⟨rfl, rfl, rfl⟩ := h4
          rw [toList_ofL] at k6
          rw [k6]
          simp only
          unfold sumS at h5
          rw [if_neg (by simp), size_ofL] at h5
          by_cases hl : r3.length < 32
          · rw [if_pos hl] at h5
            simp only [Prod.mk.injEq] at h5
            obtain ⟨rfl, rfl, rfl⟩ := h5
            left
            rw [if_pos hl]
            exact ⟨by decide, rfl⟩
          · rw [if_neg hl] at h5
            simp only [Prod.mk.injEq] at h5
            obtain ⟨rfl, rfl, rfl⟩ := h5
            right
            rw [if_neg hl]
            refine ⟨rfl, ?_, by omega, by omega, by omega⟩
            simp only [toList_ofL, Int.toNat_natCast]
end
/-- The loop's relation: what is left gives the whole's answer. -/
def TkX (s0 : ByteArray) (O : Int × List It) (n : Nat) (last s : ByteArray) (e : Int) (acc : List It) : Prop :=
  (e ≠ 0 ∧ O = (e, [])) ∨ (e = 0 ∧ O = finX s0.toList (tkI n last.toList s.toList acc) ∧ (acc = [] → last = ⟨#[]⟩) ∧ ∃ n0 r, takeN s0.toList = some (n0, r) ∧ tkI n last.toList s.toList acc = tkI n0 [] r [])
theorem TkX.bad {s0 : ByteArray} {O : Int × List It} {n : Nat} {last s : ByteArray} {e : Int} {acc : List It} (h : TkX s0 O (n + 1) last s 0 acc) (h1 : (oneT s.toList).1 = e) (he : e ≠ 0) : O = (e, []) := by
  rcases h with ⟨h, _⟩ | ⟨_, hO, _⟩
  · exact absurd rfl h
  · rw [hO, tkI, if_pos (by rw [h1]; exact he), h1]
    unfold finX
    rw [if_pos (by simpa using he)]
/-- An item that the loop refuses. -/
def BadX (last : ByteArray) (cn : Nat) (ap : ByteArray) (id : Int) : Prop := last.size < cn ∨ okP ap ≠ 0 ∨ id < 1 ∨ 4294967295 < id ∨ ¬ last.toList < ap.toList
theorem TkX.next {s0 : ByteArray} {O : Int × List It} {n : Nat} {last s r ap sm : ByteArray} {acc : List It} {cn idn szn : Nat} {p : List UInt8} (h : TkX s0 O (n + 1) last s 0 acc) (h1 : oneT s.toList = (0, cn, p, idn, szn, sm.toList, r.toList)) (hap : cn ≤ last.size → ap.toList = last.toList.take cn ++ p) :
    (BadX last cn ap (idn : Int) → O = (2, [])) ∧ (¬ BadX last cn ap (idn : Int) → TkX s0 O n ap r 0 (acc ++ [⟨ap, (idn : Int), (szn : Int), sm⟩])) := by
  rcases h with ⟨h, _⟩ | ⟨_, hO, _, n0, r0, q1, q2⟩
  · exact absurd rfl h
  · rw [tkI, h1] at hO q2
    simp only at hO q2
    rw [if_neg (by simp)] at hO q2
    have hx : cn ≤ last.size → itX last.toList (0, cn, p, idn, szn, sm.toList, r.toList) = ⟨ap, (idn : Int), (szn : Int), sm⟩ := fun hc => by
      unfold itX
      simp only
      rw [← hap hc, ofL_toList, ofL_toList]
    by_cases hc : last.size < cn
    · rw [if_pos (.inl (by rw [size_toList]; exact hc))] at hO
      refine ⟨fun _ => by rw [hO]; unfold finX; rw [if_pos (by simp)], fun hb => absurd (.inl hc) hb⟩
    · rw [hx (by omega)] at hO q2
      simp only [size_toList] at hO q2
      unfold BadX
      refine ⟨fun hb => ?_, fun hb => ?_⟩
      · rw [if_pos hb] at hO
        rw [hO]; unfold finX; rw [if_pos (by simp)]
      · rw [if_neg hb] at hO q2
        exact .inr ⟨rfl, hO, fun e => by simp at e, n0, r0, q1, q2⟩
/-- Memory in Take: the result's box, the taker, the index's box and its row. -/
def TkW (w : World) (xb : Nat) (v : Value) (k : Nat) (acc : List It) (s : ByteArray) (e : Int) (wr : World) : Prop :=
  Bk wr w.heap.size 25 #[.slice none 0 0] ∧ Bk wr (w.heap.size + 1) 86 #[.string s, .int .i64 e] ∧ Bk wr xb 25 #[v] ∧ wr.ownsRow (xb + 1) 46 4 v k (itf acc) ∧ w.heap.size + 2 ≤ xb ∧ Below w.heap.size w wr
section
variable {w : World} {xb : Nat} {v : Value} {k : Nat} {acc : List It} {s : ByteArray} {e : Int} {wr : World}
theorem TkW.below (h : TkW w xb v k acc s e wr) {w' : World} (hb : Below wr.heap.size wr w') : TkW w xb v k acc s e w' :=
  ⟨h.1.below' hb, h.2.1.below' hb, h.2.2.1.below' hb, own_belowI h.2.2.2.1 hb, h.2.2.2.2.1, bl h.2.2.2.2.2 hb⟩
theorem TkW.off (h : TkW w xb v k acc s e wr) {j : Nat} (hj : j ≤ xb) : v.ownBlock ≠ some j := fun hv => by have := (h.2.2.2.1.lt j hv).1; omega
theorem TkW.step (h : TkW w xb v k acc s e wr) {w' : World} {s' : ByteArray} {e' : Int} (hk : Bk w' (w.heap.size + 1) 86 #[.string s', .int .i64 e']) (hg : wr.grownBy w' (some (w.heap.size + 1))) : TkW w xb v k acc s' e' w' :=
  ⟨h.1.only hg (by omega), hk, h.2.2.1.only hg (by have := h.2.2.2.2.1; omega), h.2.2.2.1.kept hg (Or.inr (h.off (by have := h.2.2.2.2.1; omega))), h.2.2.2.2.1, h.2.2.2.2.2.trans (below_only hg (by omega) h.2.2.2.2.2.size)⟩
theorem TkW.setE (h : TkW w xb v k acc s e wr) (e' : Int) : TkW w xb v k acc s e' (wr.setCell ⟨w.heap.size + 1, 1, none⟩ (.int .i64 e')) := h.step (h.2.1.set_ 1 _) (only_set _ _ _ _)
/-- An item more, and the index's box. -/
theorem TkW.putX (h : TkW w xb v k acc s e wr) {w5 : World} {v5 : Value} {k5 : Nat} {acc5 : List It} (hb : Below (xb + 1) wr w5) (ho : w5.ownsRow (xb + 1) 46 4 v5 k5 (itf acc5)) : TkW w xb v5 k5 acc5 s e (w5.setCell ⟨xb, 0, none⟩ v5) := by
  have hx := h.2.2.2.2.1
  have hg := only_set w5 xb 0 v5
  exact ⟨(h.1.below hb (by omega)).only hg (by omega), (h.2.1.below hb (by omega)).only hg (by omega), (h.2.2.1.below hb (by omega)).set_ 0 _, ho.kept hg (Or.inr fun hv => by have := (ho.lt xb hv).1; omega), hx, (h.2.2.2.2.2.trans (hb.mono (by omega))).setCell (p := ⟨xb, 0, none⟩) (show w.heap.size ≤ xb by omega) _⟩
/-- A store elsewhere: into a box that is younger. -/
theorem TkW.far (h : TkW w xb v k acc s e wr) {ab : Nat} (hab : xb < ab) (hv : v.ownBlock ≠ some ab) (i : Nat) (u : Value) : TkW w xb v k acc s e (wr.setCell ⟨ab, i, none⟩ u) := by
  have hg := only_set wr ab i u
  have := h.2.2.2.2.1
  exact ⟨h.1.only hg (by omega), h.2.1.only hg (by omega), h.2.2.1.only hg (by omega), h.2.2.2.1.kept hg (Or.inr hv), h.2.2.2.2.1, h.2.2.2.2.2.setCell (p := ⟨ab, i, none⟩) (show w.heap.size ≤ ab by omega) _⟩
end
end Go.Proofs.Ytnhbkfefpkocaaa
namespace Go.Proofs.Ytnhbkfefpkocaaa
open Go.RowKit Go.Sort

theorem takeTextRI_is (s a b : ByteArray) (most k : Int) (h : takeT s.toList most = (a.toList, b.toList, k)) (w : World) (hs : s.size ≤ 9223372036854775807) :
    Calls Try.prog 77 #[.string s, .int .i64 most] w fun e w' => e = .returned (.tuple #[.string a, .string b, .int .i64 k]) ∧ Below w.heap.size w w' :=
  (takeTextRef_any s most w hs).mono fun e w' ⟨he, hb⟩ => ⟨by unfold TextEnd at he; rw [he, h]; simp only [ofL_toList], hb⟩
/-- What one tells. -/
def oneV (t : Int × Nat × List UInt8 × Nat × Nat × List UInt8 × List UInt8) : Value := .tuple #[.agg #[.string (ofL t.2.2.1), .int .i64 (t.2.2.2.1 : Nat), .int .i64 (t.2.2.2.2.1 : Nat), .string (ofL t.2.2.2.2.2.1)], .int .i64 (t.2.1 : Nat), .string (ofL t.2.2.2.2.2.2), .int .i64 t.1]
theorem size_tl {s : ByteArray} {n : Nat} {r : List UInt8} (h : takeN s.toList = some (n, r)) : (ofL r).size ≤ s.size := by
  have := congrArg List.length (takeN_some _ _ _ h).1
  rw [List.length_append, size_toList] at this
  rw [size_ofL]
  omega

set_option maxRecDepth 20000 in
set_option maxHeartbeats 8000000 in
theorem oneI_any (s : ByteArray) (hs : s.size ≤ 1000000000) (t : Int × Nat × List UInt8 × Nat × Nat × List UInt8 × List UInt8) (h : oneT s.toList = t) (w : World) :
    Calls Try.prog 51 #[.string s] w fun e w' => e = .returned (oneV t) ∧ Below w.heap.size w w' := by
  obtain ⟨w1, hw1⟩ : ∃ w1, (w.alloc (.cells #[.string ⟨#[]⟩, .int .i64 0, .int .i64 0, .string ⟨#[]⟩] 46)).alloc (.cells #[.string ⟨#[]⟩, .int .i64 0, .int .i64 0, .string ⟨#[]⟩] 46) = w1 := ⟨_, rfl⟩
  have hb1 : Below w.heap.size w w1 := by rw [← hw1]; exact ((Below.refl _ w).alloc (Nat.le_refl _) _).alloc (by simp only [World.size_alloc]; omega) _
  have hk1 : Bk w1 w.heap.size 46 #[.string ⟨#[]⟩, .int .i64 0, .int .i64 0, .string ⟨#[]⟩] := by rw [← hw1]; exact (Bk.new w _ _).alloc _
  have hx1 : Bk w1 (w.heap.size + 1) 46 #[.string ⟨#[]⟩, .int .i64 0, .int .i64 0, .string ⟨#[]⟩] := by
    rw [← hw1]
    have := Bk.new (w.alloc (.cells #[.string ⟨#[]⟩, .int .i64 0, .int .i64 0, .string ⟨#[]⟩] 46)) 46 #[.string ⟨#[]⟩, .int .i64 0, .int .i64 0, .string ⟨#[]⟩]
    rwa [World.size_alloc] at this
  have H1 := Lib.hid (And.intro hk1 (And.intro hx1 hb1))
  have HW1 := Lib.hid hw1
  unfold oneT at h
  clear hb1 hk1 hx1 hw1
  rcases hn : takeN s.toList with _ | ⟨c, r⟩
  · rw [hn] at h
    have HX := Lib.hid (show oneV t = .tuple #[.agg #[.string ⟨#[]⟩, .int .i64 0, .int .i64 0, .string ⟨#[]⟩], .int .i64 0, .string ⟨#[]⟩, .int .i64 2] by rw [← h]; rfl)
    have HN := Lib.hid hn
    clear h hn
    go_enter Try.func51, Try.ntmps51
    go_upto_region 2 with (fail)
    rw [HW1.out]
    clear HW1
    go_wp2_with fail
    refine (takeRef_none s w1 (by omega) HN.out).mono ?_
    rintro e w2 ⟨rfl, hb2⟩
    have hk2 := H1.out.1.below' hb2
    have hx2 := H1.out.2.1.below' hb2
    have hbb2 := bl H1.out.2.2 hb2
    have H2 := Lib.hid (And.intro hk2 (And.intro hx2 hbb2))
    have z0 := hk2.cell_ 0 (.string ⟨#[]⟩) rfl
    have z1 := hk2.cell_ 1 (.int .i64 0) rfl
    have z2 := hk2.cell_ 2 (.int .i64 0) rfl
    have z3 := hk2.cell_ 3 (.string ⟨#[]⟩) rfl
    have f0 := hk2.frozen 0
    have f1 := hk2.frozen 1
    have f2 := hk2.frozen 2
    have f3 := hk2.frozen 3
    have x0 := hx2.cell_ 0 (.string ⟨#[]⟩) rfl
    have x1 := hx2.cell_ 1 (.int .i64 0) rfl
    have x2 := hx2.cell_ 2 (.int .i64 0) rfl
    have x3 := hx2.cell_ 3 (.string ⟨#[]⟩) rfl
    clear hk2 hx2 hbb2 hb2
    go_wp2_with fail
    have hB4 := H2.out.1.four (.string ⟨#[]⟩) (.int .i64 0) (.int .i64 0) (.string ⟨#[]⟩)
    have d0 := hB4.cell_ 0 (.string ⟨#[]⟩) rfl
    have d1 := hB4.cell_ 1 (.int .i64 0) rfl
    have d2 := hB4.cell_ 2 (.int .i64 0) rfl
    have d3 := hB4.cell_ 3 (.string ⟨#[]⟩) rfl
    refine bodyPost_ret (v := .tuple #[.agg #[.string ⟨#[]⟩, .int .i64 0, .int .i64 0, .string ⟨#[]⟩], .int .i64 0, .string ⟨#[]⟩, .int .i64 2]) (by simp [results, Try.results51, go_sem, d0, d1, d2, d3]) rfl ?_
    rw [HX.out]
    exact ⟨rfl, ke H2.out.2.2 _ (Nat.le_refl _) _ _ _ _⟩
  · rw [hn] at h
    simp only at h
    obtain ⟨s1, hs1, hs1l, _⟩ := str_of r
    have hs1z : s1.size ≤ 1000000000 := by have := size_tl hn; rw [hs1] at this; omega
    obtain ⟨p, hp, hpl, _⟩ := str_of (takeT r 4096).1
    obtain ⟨s2, hs2, hs2l, hs2z⟩ := str_of (takeT r 4096).2.1
    have hs2z : s2.size ≤ 1000000000 := by have := (takeT_len r 4096).2; rw [← hs1l, size_toList, hs1l] at this; omega
    obtain ⟨k, hk⟩ : ∃ k, (takeT r 4096).2.2 = k := ⟨_, rfl⟩
    have HT := Lib.hid (show takeT s1.toList 4096 = (p.toList, s2.toList, k) by rw [hs1l, hpl, hs2l, ← hk])
    rw [hk, ← hs2l] at h
    have HN := Lib.hid (And.intro hn hs1)
    by_cases hk0 : k = 0
    · rw [if_neg (by simpa using hk0)] at h
      rcases hn2 : takeN s2.toList with _ | ⟨id, r3⟩
      · rw [hn2] at h
        have HX := Lib.hid (show oneV t = .tuple #[.agg #[.string ⟨#[]⟩, .int .i64 0, .int .i64 0, .string ⟨#[]⟩], .int .i64 0, .string ⟨#[]⟩, .int .i64 2] by rw [← h]; rfl)
        have HN2 := Lib.hid hn2
        subst hk0
        clear h hn hn2 hk hs1 hs1l hp hpl hs2 hs2l
        go_enter Try.func51, Try.ntmps51
        go_upto_region 2 with (fail)
        rw [HW1.out]
        clear HW1
        go_wp2_with fail
        refine (takeRef_some s w1 (by omega) c r HN.out.1).mono ?_
        rw [HN.out.2]
        rintro e w2 ⟨rfl, hb2⟩
        have hk2 := H1.out.1.below' hb2
        have hx2 := H1.out.2.1.below' hb2
        have hbb2 := bl H1.out.2.2 hb2
        have H2 := Lib.hid (And.intro hk2 (And.intro hx2 hbb2))
        clear hk2 hx2 hbb2 hb2
        go_wp2_with fail
        refine (takeTextRI_is s1 p s2 4096 0 HT.out w2 (by omega)).mono ?_
        rintro e w3 ⟨rfl, hb3⟩
        have hk3 := H2.out.1.below' hb3
        have hx3 := H2.out.2.1.below' hb3
        have hbb3 := bl H2.out.2.2 hb3
        have H3 := Lib.hid (And.intro hk3 (And.intro hx3 hbb3))
        clear hk3 hx3 hbb3 hb3
        go_wp2_with fail
        refine (takeRef_none s2 w3 (by omega) HN2.out).mono ?_
        rintro e w4 ⟨rfl, hb4⟩
        have hk4 := H3.out.1.below' hb4
        have hx4 := H3.out.2.1.below' hb4
        have hbb4 := bl H3.out.2.2 hb4
        have H4 := Lib.hid (And.intro hk4 (And.intro hx4 hbb4))
        have z0 := hk4.cell_ 0 (.string ⟨#[]⟩) rfl
        have z1 := hk4.cell_ 1 (.int .i64 0) rfl
        have z2 := hk4.cell_ 2 (.int .i64 0) rfl
        have z3 := hk4.cell_ 3 (.string ⟨#[]⟩) rfl
        have f0 := hk4.frozen 0
        have f1 := hk4.frozen 1
        have f2 := hk4.frozen 2
        have f3 := hk4.frozen 3
        have x0 := hx4.cell_ 0 (.string ⟨#[]⟩) rfl
        have x1 := hx4.cell_ 1 (.int .i64 0) rfl
        have x2 := hx4.cell_ 2 (.int .i64 0) rfl
        have x3 := hx4.cell_ 3 (.string ⟨#[]⟩) rfl
        clear hk4 hx4 hbb4 hb4
        go_wp2_with fail
        have hB4 := H4.out.1.four (.string ⟨#[]⟩) (.int .i64 0) (.int .i64 0) (.string ⟨#[]⟩)
        have d0 := hB4.cell_ 0 (.string ⟨#[]⟩) rfl
        have d1 := hB4.cell_ 1 (.int .i64 0) rfl
        have d2 := hB4.cell_ 2 (.int .i64 0) rfl
        have d3 := hB4.cell_ 3 (.string ⟨#[]⟩) rfl
        refine bodyPost_ret (v := .tuple #[.agg #[.string ⟨#[]⟩, .int .i64 0, .int .i64 0, .string ⟨#[]⟩], .int .i64 0, .string ⟨#[]⟩, .int .i64 2]) (by simp [results, Try.results51, go_sem, d0, d1, d2, d3]) rfl ?_
        rw [HX.out]
        exact ⟨rfl, ke H4.out.2.2 _ (Nat.le_refl _) _ _ _ _⟩
      · rw [hn2] at h
        simp only at h
        obtain ⟨s3, hs3, hs3l, _⟩ := str_of r3
        have hs3z : s3.size ≤ 1000000000 := by have := size_tl hn2; rw [hs3] at this; omega
        rw [← hs3l] at h
        have HN2 := Lib.hid (And.intro hn2 hs3)
        rcases hn3 : takeN s3.toList with _ | ⟨sz, r4⟩
        · rw [hn3] at h
          have HX := Lib.hid (show oneV t = .tuple #[.agg #[.string ⟨#[]⟩, .int .i64 0, .int .i64 0, .string ⟨#[]⟩], .int .i64 0, .string ⟨#[]⟩, .int .i64 2] by rw [← h]; rfl)
          have HN3 := Lib.hid hn3
          subst hk0
          clear h hn hn2 hn3 hk hs1 hs1l hp hpl hs2 hs2l hs3 hs3l
          go_enter Try.func51, Try.ntmps51
          go_upto_region 2 with (fail)
          rw [HW1.out]
          clear HW1
          go_wp2_with fail
          refine (takeRef_some s w1 (by omega) c r HN.out.1).mono ?_
          rw [HN.out.2]
          rintro e w2 ⟨rfl, hb2⟩
          have hk2 := H1.out.1.below' hb2
          have hx2 := H1.out.2.1.below' hb2
          have hbb2 := bl H1.out.2.2 hb2
          have H2 := Lib.hid (And.intro hk2 (And.intro hx2 hbb2))
          clear hk2 hx2 hbb2 hb2
          go_wp2_with fail
          refine (takeTextRI_is s1 p s2 4096 0 HT.out w2 (by omega)).mono ?_
          rintro e w3 ⟨rfl, hb3⟩
          have hk3 := H2.out.1.below' hb3
          have hx3 := H2.out.2.1.below' hb3
          have hbb3 := bl H2.out.2.2 hb3
          have H3 := Lib.hid (And.intro hk3 (And.intro hx3 hbb3))
          clear hk3 hx3 hbb3 hb3
          go_wp2_with fail
          refine (takeRef_some s2 w3 (by omega) id r3 HN2.out.1).mono ?_
          rw [HN2.out.2]
          rintro e w4 ⟨rfl, hb4⟩
          have hk4 := H3.out.1.below' hb4
          have hx4 := H3.out.2.1.below' hb4
          have hbb4 := bl H3.out.2.2 hb4
          have H4 := Lib.hid (And.intro hk4 (And.intro hx4 hbb4))
          clear hk4 hx4 hbb4 hb4
          go_wp2_with fail
          refine (takeRef_none s3 w4 (by omega) HN3.out).mono ?_
          rintro e w5 ⟨rfl, hb5⟩
          have hk5 := H4.out.1.below' hb5
          have hx5 := H4.out.2.1.below' hb5
          have hbb5 := bl H4.out.2.2 hb5
          have H5 := Lib.hid (And.intro hk5 (And.intro hx5 hbb5))
          have z0 := hk5.cell_ 0 (.string ⟨#[]⟩) rfl
          have z1 := hk5.cell_ 1 (.int .i64 0) rfl
          have z2 := hk5.cell_ 2 (.int .i64 0) rfl
          have z3 := hk5.cell_ 3 (.string ⟨#[]⟩) rfl
          have f0 := hk5.frozen 0
          have f1 := hk5.frozen 1
          have f2 := hk5.frozen 2
          have f3 := hk5.frozen 3
          have x0 := hx5.cell_ 0 (.string ⟨#[]⟩) rfl
          have x1 := hx5.cell_ 1 (.int .i64 0) rfl
          have x2 := hx5.cell_ 2 (.int .i64 0) rfl
          have x3 := hx5.cell_ 3 (.string ⟨#[]⟩) rfl
          clear hk5 hx5 hbb5 hb5
          go_wp2_with fail
          have hB4 := H5.out.1.four (.string ⟨#[]⟩) (.int .i64 0) (.int .i64 0) (.string ⟨#[]⟩)
          have d0 := hB4.cell_ 0 (.string ⟨#[]⟩) rfl
          have d1 := hB4.cell_ 1 (.int .i64 0) rfl
          have d2 := hB4.cell_ 2 (.int .i64 0) rfl
          have d3 := hB4.cell_ 3 (.string ⟨#[]⟩) rfl
          refine bodyPost_ret (v := .tuple #[.agg #[.string ⟨#[]⟩, .int .i64 0, .int .i64 0, .string ⟨#[]⟩], .int .i64 0, .string ⟨#[]⟩, .int .i64 2]) (by simp [results, Try.results51, go_sem, d0, d1, d2, d3]) rfl ?_
          rw [HX.out]
          exact ⟨rfl, ke H5.out.2.2 _ (Nat.le_refl _) _ _ _ _⟩
        · rw [hn3] at h
          simp only at h
          obtain ⟨s4, hs4, hs4l, hs4n⟩ := str_of r4
          have hs4z : s4.size ≤ 1000000000 := by have := size_tl hn3; rw [hs4] at this; omega
          have HN3 := Lib.hid (And.intro hn3 hs4)
          subst hk0
          rw [← hs4n] at h
          by_cases hl : s4.size < 32
          · rw [if_pos hl] at h
            have HX := Lib.hid (show oneV t = .tuple #[.agg #[.string ⟨#[]⟩, .int .i64 0, .int .i64 0, .string ⟨#[]⟩], .int .i64 0, .string ⟨#[]⟩, .int .i64 2] by rw [← h]; rfl)
            have hl1 : (s4.size : Int) < 32 := by omega
            clear h hn hn2 hn3 hk hs1 hs1l hp hpl hs2 hs2l hs3 hs3l hs4 hs4l hs4n hl
            go_enter Try.func51, Try.ntmps51
            go_upto_region 2 with (fail)
            rw [HW1.out]
            clear HW1
            go_wp2_with fail
            refine (takeRef_some s w1 (by omega) c r HN.out.1).mono ?_
            rw [HN.out.2]
            rintro e w2 ⟨rfl, hb2⟩
            have hk2 := H1.out.1.below' hb2
            have hx2 := H1.out.2.1.below' hb2
            have hbb2 := bl H1.out.2.2 hb2
            have H2 := Lib.hid (And.intro hk2 (And.intro hx2 hbb2))
            clear hk2 hx2 hbb2 hb2
            go_wp2_with fail
            refine (takeTextRI_is s1 p s2 4096 0 HT.out w2 (by omega)).mono ?_
            rintro e w3 ⟨rfl, hb3⟩
            have hk3 := H2.out.1.below' hb3
            have hx3 := H2.out.2.1.below' hb3
            have hbb3 := bl H2.out.2.2 hb3
            have H3 := Lib.hid (And.intro hk3 (And.intro hx3 hbb3))
            clear hk3 hx3 hbb3 hb3
            go_wp2_with fail
            refine (takeRef_some s2 w3 (by omega) id r3 HN2.out.1).mono ?_
            rw [HN2.out.2]
            rintro e w4 ⟨rfl, hb4⟩
            have hk4 := H3.out.1.below' hb4
            have hx4 := H3.out.2.1.below' hb4
            have hbb4 := bl H3.out.2.2 hb4
            have H4 := Lib.hid (And.intro hk4 (And.intro hx4 hbb4))
            clear hk4 hx4 hbb4 hb4
            go_wp2_with fail
            refine (takeRef_some s3 w4 (by omega) sz r4 HN3.out.1).mono ?_
            rw [HN3.out.2]
            rintro e w5 ⟨rfl, hb5⟩
            have hk5 := H4.out.1.below' hb5
            have hx5 := H4.out.2.1.below' hb5
            have hbb5 := bl H4.out.2.2 hb5
            have H5 := Lib.hid (And.intro hk5 (And.intro hx5 hbb5))
            have z0 := hk5.cell_ 0 (.string ⟨#[]⟩) rfl
            have z1 := hk5.cell_ 1 (.int .i64 0) rfl
            have z2 := hk5.cell_ 2 (.int .i64 0) rfl
            have z3 := hk5.cell_ 3 (.string ⟨#[]⟩) rfl
            have f0 := hk5.frozen 0
            have f1 := hk5.frozen 1
            have f2 := hk5.frozen 2
            have f3 := hk5.frozen 3
            have x0 := hx5.cell_ 0 (.string ⟨#[]⟩) rfl
            have x1 := hx5.cell_ 1 (.int .i64 0) rfl
            have x2 := hx5.cell_ 2 (.int .i64 0) rfl
            have x3 := hx5.cell_ 3 (.string ⟨#[]⟩) rfl
            clear hk5 hx5 hbb5 hb5
            go_wp2_with fail
            have hB4 := H5.out.1.four (.string ⟨#[]⟩) (.int .i64 0) (.int .i64 0) (.string ⟨#[]⟩)
            have d0 := hB4.cell_ 0 (.string ⟨#[]⟩) rfl
            have d1 := hB4.cell_ 1 (.int .i64 0) rfl
            have d2 := hB4.cell_ 2 (.int .i64 0) rfl
            have d3 := hB4.cell_ 3 (.string ⟨#[]⟩) rfl
            refine bodyPost_ret (v := .tuple #[.agg #[.string ⟨#[]⟩, .int .i64 0, .int .i64 0, .string ⟨#[]⟩], .int .i64 0, .string ⟨#[]⟩, .int .i64 2]) (by simp [results, Try.results51, go_sem, d0, d1, d2, d3]) rfl ?_
            rw [HX.out]
            exact ⟨rfl, ke H5.out.2.2 _ (Nat.le_refl _) _ _ _ _⟩
          · rw [if_neg hl] at h
            obtain ⟨sm, hsm⟩ : ∃ sm, s4.extract 0 32 = sm := ⟨_, rfl⟩
            obtain ⟨s5, hs5⟩ : ∃ s5, s4.extract 32 s4.size = s5 := ⟨_, rfl⟩
            have HX := Lib.hid (show oneV t = .tuple #[.agg #[.string p, .int .i64 (id : Nat), .int .i64 (sz : Nat), .string sm], .int .i64 (c : Nat), .string s5, .int .i64 0] by
              rw [← h]
              unfold oneV
              simp only
              rw [hp, ← hs4l, ← toList_pre, ← toList_suf, ofL_toList, ofL_toList, hsm, hs5])
            have hl1 : ¬ ((s4.size : Int) < 32) := by omega
            have hl2 : (32 : Int) ≤ (s4.size : Int) := by omega
            have hl3 : 32 ≤ s4.size := by omega
            clear h hn hn2 hn3 hk hs1 hs1l hp hpl hs2 hs2l hs3 hs3l hs4 hs4l hs4n hl
            go_enter Try.func51, Try.ntmps51
            go_upto_region 2 with (fail)
            rw [HW1.out]
            clear HW1
            go_wp2_with fail
            refine (takeRef_some s w1 (by omega) c r HN.out.1).mono ?_
            rw [HN.out.2]
            rintro e w2 ⟨rfl, hb2⟩
            have hk2 := H1.out.1.below' hb2
            have hx2 := H1.out.2.1.below' hb2
            have hbb2 := bl H1.out.2.2 hb2
            have H2 := Lib.hid (And.intro hk2 (And.intro hx2 hbb2))
            clear hk2 hx2 hbb2 hb2
            go_wp2_with fail
            refine (takeTextRI_is s1 p s2 4096 0 HT.out w2 (by omega)).mono ?_
            rintro e w3 ⟨rfl, hb3⟩
            have hk3 := H2.out.1.below' hb3
            have hx3 := H2.out.2.1.below' hb3
            have hbb3 := bl H2.out.2.2 hb3
            have H3 := Lib.hid (And.intro hk3 (And.intro hx3 hbb3))
            clear hk3 hx3 hbb3 hb3
            go_wp2_with fail
            refine (takeRef_some s2 w3 (by omega) id r3 HN2.out.1).mono ?_
            rw [HN2.out.2]
            rintro e w4 ⟨rfl, hb4⟩
            have hk4 := H3.out.1.below' hb4
            have hx4 := H3.out.2.1.below' hb4
            have hbb4 := bl H3.out.2.2 hb4
            have H4 := Lib.hid (And.intro hk4 (And.intro hx4 hbb4))
            clear hk4 hx4 hbb4 hb4
            go_wp2_with fail
            refine (takeRef_some s3 w4 (by omega) sz r4 HN3.out.1).mono ?_
            rw [HN3.out.2]
            rintro e w5 ⟨rfl, hb5⟩
            have hk5 := H4.out.1.below' hb5
            have hx5 := H4.out.2.1.below' hb5
            have hbb5 := bl H4.out.2.2 hb5
            have H5 := Lib.hid (And.intro hk5 (And.intro hx5 hbb5))
            have z0 := hk5.cell_ 0 (.string ⟨#[]⟩) rfl
            have z1 := hk5.cell_ 1 (.int .i64 0) rfl
            have z2 := hk5.cell_ 2 (.int .i64 0) rfl
            have z3 := hk5.cell_ 3 (.string ⟨#[]⟩) rfl
            have f0 := hk5.frozen 0
            have f1 := hk5.frozen 1
            have f2 := hk5.frozen 2
            have f3 := hk5.frozen 3
            have x0 := hx5.cell_ 0 (.string ⟨#[]⟩) rfl
            have x1 := hx5.cell_ 1 (.int .i64 0) rfl
            have x2 := hx5.cell_ 2 (.int .i64 0) rfl
            have x3 := hx5.cell_ 3 (.string ⟨#[]⟩) rfl
            clear hk5 hx5 hbb5 hb5 x0 x1 x2 x3
            go_wp2_with fail
            go_region
            go_wp2_with fail
            have hB4 := H5.out.1.four (.string p) (.int .i64 (id : Nat)) (.int .i64 (sz : Nat)) (.string sm)
            have d0 := hB4.cell_ 0 (.string p) rfl
            have d1 := hB4.cell_ 1 (.int .i64 (id : Nat)) rfl
            have d2 := hB4.cell_ 2 (.int .i64 (sz : Nat)) rfl
            have d3 := hB4.cell_ 3 (.string sm) rfl
            refine bodyPost_ret (v := .tuple #[.agg #[.string p, .int .i64 (id : Nat), .int .i64 (sz : Nat), .string sm], .int .i64 (c : Nat), .string s5, .int .i64 0]) (by simp [results, Try.results51, go_sem, d0, d1, d2, d3]) rfl ?_
            rw [HX.out]
            exact ⟨rfl, by first | exact (ke H5.out.2.2 _ (Nat.le_refl _) _ _ _ _).drew | exact ke H5.out.2.2 _ (Nat.le_refl _) _ _ _ _⟩
    · rw [if_pos (by simpa using hk0)] at h
      have HX := Lib.hid (show oneV t = .tuple #[.agg #[.string ⟨#[]⟩, .int .i64 0, .int .i64 0, .string ⟨#[]⟩], .int .i64 0, .string ⟨#[]⟩, .int .i64 k] by rw [← h]; rfl)
      have e0 : (k == 0) = false := by simp [hk0]
      have e1 : (k != 0) = true := by simp [hk0]
      clear h hn hk hs1 hs1l hp hpl hs2 hs2l hk0
      go_enter Try.func51, Try.ntmps51
      go_upto_region 2 with (fail)
      rw [HW1.out]
      clear HW1
      go_wp2_with fail
      refine (takeRef_some s w1 (by omega) c r HN.out.1).mono ?_
      rw [HN.out.2]
      rintro e w2 ⟨rfl, hb2⟩
      have hk2 := H1.out.1.below' hb2
      have hx2 := H1.out.2.1.below' hb2
      have hbb2 := bl H1.out.2.2 hb2
      have H2 := Lib.hid (And.intro hk2 (And.intro hx2 hbb2))
      clear hk2 hx2 hbb2 hb2
      go_wp2_with fail
      refine (takeTextRI_is s1 p s2 4096 k HT.out w2 (by omega)).mono ?_
      rintro e w3 ⟨rfl, hb3⟩
      have hk3 := H2.out.1.below' hb3
      have hx3 := H2.out.2.1.below' hb3
      have hbb3 := bl H2.out.2.2 hb3
      have H3 := Lib.hid (And.intro hk3 (And.intro hx3 hbb3))
      have z0 := hk3.cell_ 0 (.string ⟨#[]⟩) rfl
      have z1 := hk3.cell_ 1 (.int .i64 0) rfl
      have z2 := hk3.cell_ 2 (.int .i64 0) rfl
      have z3 := hk3.cell_ 3 (.string ⟨#[]⟩) rfl
      have f0 := hk3.frozen 0
      have f1 := hk3.frozen 1
      have f2 := hk3.frozen 2
      have f3 := hk3.frozen 3
      have x0 := hx3.cell_ 0 (.string ⟨#[]⟩) rfl
      have x1 := hx3.cell_ 1 (.int .i64 0) rfl
      have x2 := hx3.cell_ 2 (.int .i64 0) rfl
      have x3 := hx3.cell_ 3 (.string ⟨#[]⟩) rfl
      clear hk3 hx3 hbb3 hb3
      go_wp2_with fail
      have hB4 := H3.out.1.four (.string ⟨#[]⟩) (.int .i64 0) (.int .i64 0) (.string ⟨#[]⟩)
      have d0 := hB4.cell_ 0 (.string ⟨#[]⟩) rfl
      have d1 := hB4.cell_ 1 (.int .i64 0) rfl
      have d2 := hB4.cell_ 2 (.int .i64 0) rfl
      have d3 := hB4.cell_ 3 (.string ⟨#[]⟩) rfl
      refine bodyPost_ret (v := .tuple #[.agg #[.string ⟨#[]⟩, .int .i64 0, .int .i64 0, .string ⟨#[]⟩], .int .i64 0, .string ⟨#[]⟩, .int .i64 k]) (by simp [results, Try.results51, go_sem, d0, d1, d2, d3]) rfl ?_
      rw [HX.out]
      exact ⟨rfl, ke H3.out.2.2 _ (Nat.le_refl _) _ _ _ _⟩
end Go.Proofs.Ytnhbkfefpkocaaa
