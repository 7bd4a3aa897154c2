/-
  index.Put.
-/
import Derived.Test.YtnhbkfefpkocaaaIxPa
import Derived.Test.YtnhbkfefpkocaaaP11
import Derived.Deep.CutBlock
namespace Go.Proofs.Ytnhbkfefpkocaaa
open Go.RowKit Go.Sort

theorem putTextI_is (s t : ByteArray) (h : ofL (putT s.toList) = t) (w : World) (hs : s.size ≤ 4611686018427387904) :
    Calls Try.prog 42 #[.string s] w fun e w' => e = .returned (.string t) ∧ Below w.heap.size w w' := by subst h; exact putText_any s w hs
theorem putNum_oneI (n : Int) (s : ByteArray) (h : ofL (putN (clampN n)) = s) (w : World) : Calls Try.prog 41 #[.slice (some ⟨w.heap.size, 0, none⟩) 1 1] (w.alloc (.cells #[.int .i64 n] 3)) fun e w' =>
    e = .returned (.string s) ∧ Below w.heap.size w w' := by subst h; exact putNum_one n w
theorem putNum_twoI (n m : Int) (s : ByteArray) (h : ofL (putN (clampN n) ++ putN (clampN m)) = s) (w : World) : Calls Try.prog 41 #[.slice (some ⟨w.heap.size, 0, none⟩) 2 2] (w.alloc (.cells #[.int .i64 n, .int .i64 m] 3)) fun e w' =>
    e = .returned (.string s) ∧ Below w.heap.size w w' := by
  subst h
  exact (putNum_any _ 2 2 [n, m] _ rfl (Rd.new _ _ _) (by omega)).mono fun e w' ⟨he, hb⟩ => ⟨by rw [he]; simp [putNums], below_of_alloc hb⟩
theorem below_dn (w : World) (k : Nat) : Below w.heap.size w (w.drewN k) := below_dnS (Below.refl _ _) k
theorem str_of (l : List UInt8) : ∃ s : ByteArray, ofL l = s ∧ s.toList = l ∧ s.size = l.length := ⟨_, rfl, toList_ofL l, size_ofL l⟩

set_option maxRecDepth 20000 in
set_option maxHeartbeats 8000000 in
theorem xput_any (L : List It) (A : Option Addr) (n c : Nat) (hn : L.length = n) (hl : n ≤ 1000) (hz : ∀ y ∈ L, y.p.size ≤ 1000000 ∧ y.sm.size ≤ 1000000) (s : ByteArray) (hs : ofL (putX L) = s) (w : World) (hr : Rd w A (itf L)) :
    Calls Try.prog 17 #[.agg #[.slice A n c]] w fun e w' => e = .returned (.string s) ∧ Below w.heap.size w w' := by
  have mixed : Try.prog.follows Departure.mixedOrders = true := by kernel_rfl
  have HN := Lib.hid (And.intro hn (And.intro hz (And.intro hs hr)))
  obtain ⟨w1, hw1⟩ : ∃ w1, w.alloc (.cells #[.slice A n c] 25) = w1 := ⟨_, rfl⟩
  have hb1 : Below w.heap.size w w1 := by rw [← hw1]; exact (Below.refl _ _).alloc (Nat.le_refl _) _
  have hk1 : Bk w1 w.heap.size 25 #[.slice A n c] := by rw [← hw1]; exact Bk.new _ _ _
  have cx := hk1.cell_ 0 (.slice A n c) rfl
  have H1 := Lib.hid (And.intro hb1 hk1)
  have HW1 := Lib.hid hw1
  obtain ⟨s0, hs0, hs0l, hs0z⟩ := str_of (putN (clampN (n : Int)))
  have h09 := putN_length (clampN (n : Int))
  have HS0 := Lib.hid (And.intro hs0 (And.intro hs0l (And.intro hs0z h09)))
  have hcv := fun w => Go.Lib.run_convert_string_bytes (P := Try.prog) w 9 80 5 s0 Try.underlying9 Try.underlying80 Try.underlying5
  clear hn hz hs hr hb1 hk1 hw1 hs0 hs0l hs0z h09
  go_enter Try.func17, Try.ntmps17
  go_upto_region 1 with (fail)
  rw [HW1.out]
  clear HW1
  go_wp2_with fail
  refine (putNum_oneI (n : Int) s0 HS0.out.1 w1).mono ?_
  rintro e w2 ⟨rfl, hb2⟩
  have hb2' := bl H1.out.1 hb2
  have hO := OwnB.conv w2 5 s0 (by have := HS0.out.2.2.1; have := HS0.out.2.2.2; unfold maxLen; omega)
  have hbc := Go.Lib.bytesWorld_below w2 5 s0
  have hcv2 := hcv w2
  have hb3 := bl hb2' hbc
  have hk3 := (H1.out.2.below' hb2).below' hbc
  have hz2 := hb2'.size
  rw [HS0.out.2.1] at hO
  clear hb2' hb2 hbc hcv cx
  generalize Value.slice (some ⟨w2.heap.size, 0, none⟩) s0.size (grownCap w2 s0.size 0 5) = v5 at *
  generalize Go.Lib.bytesWorld w2 5 s0 = w3 at *
  have cx := hk3.cell_ 0 (.slice A n c) rfl
  have hO' : OwnB w3 w.heap.size 5 v5 (putN (clampN (n : Int)) ++ restP [] (L.take 0)) := by
    obtain ⟨g, cap, cur, fz, e1, e2, e3⟩ := hO
    have e4 : putN (clampN (n : Int)) ++ restP [] (L.take 0) = putN (clampN (n : Int)) := by simp [restP]
    rw [e4]
    exact ⟨g, cap, cur, fz, e1, Nat.le_trans hz2 e2, e3⟩
  have HB3 := Lib.hid (And.intro hb3 hO')
  clear hO hz2 hb3 hk3 hO'
  go_wp2_with fail
  go_loopw [3, 4, 17] (fun v3 v4 vi wr => ∃ (i : Nat) (v : Value) (Lb : List UInt8) (last : ByteArray), vi = .int .i64 (i : Nat) ∧ v3 = v ∧ v4 = .string last ∧ i ≤ n ∧ Lb.length ≤ 9 + i * 3000000 ∧ last.size ≤ 1000000 ∧ Hid (OwnB wr w.heap.size 5 v Lb) ∧ Hid (Lb = putN (clampN (n : Int)) ++ restP [] (L.take i) ∧ True) ∧ Hid (last.toList = lastP [] (L.take i) ∧ True) ∧ Hid (Below w.heap.size w wr)) (fun _ _ vi _ => n - iOfI vi)
  case atStart => exact ⟨0, _, _, ⟨#[]⟩, rfl, rfl, rfl, by omega, by have := HS0.out.2.2.2; simp [restP]; omega, by decide, Lib.hid HB3.out.2, Lib.hid ⟨rfl, trivial⟩, Lib.hid ⟨toList_nil, trivial⟩, Lib.hid HB3.out.1⟩
  case round =>
    clear HB3 cx
    obtain ⟨i, v, Lb, last, rfl, rfl, rfl, hi, hLb, hlz, HO, HL, HLA, HB⟩ := hrel
    by_cases hin : i < n
    · have hin1 : (i : Int) < (n : Int) := by omega
      obtain ⟨x, hx⟩ : ∃ x, L[i]? = some x := ⟨_, List.getElem?_eq_getElem (by rw [HN.out.1]; exact hin)⟩
      obtain ⟨b, o, rfl, _, q0, q1, q2, q3⟩ := (HN.out.2.2.2.below HB.out).item hx
      have hxz := HN.out.2.1 x (List.mem_of_getElem? hx)
      have hxz1 : x.p.size ≤ 1000000 := hxz.1
      have hxz2 : x.sm.size ≤ 1000000 := hxz.2
      have HX := Lib.hid hx
      obtain ⟨w5, hw5⟩ : ∃ w5, wr.alloc (.cells #[.string x.p, .int .i64 x.id, .int .i64 x.sz, .string x.sm] 46) = w5 := ⟨_, rfl⟩
      have hb5 : Below wr.heap.size wr w5 := by rw [← hw5]; exact (Below.refl _ _).alloc (Nat.le_refl _) _
      have hk5 : Bk w5 wr.heap.size 46 #[.string x.p, .int .i64 x.id, .int .i64 x.sz, .string x.sm] := by rw [← hw5]; exact Bk.new _ _ _
      have hone := HO.out.ne
      have H5 := Lib.hid (And.intro (bl HB.out hb5) (And.intro hk5 (And.intro (HO.out.below' hb5) hone)))
      have HW5 := Lib.hid hw5
      have c0 := hk5.cell_ 0 (.string x.p) rfl
      have c0n : ∀ k, (w5.drewN k).cell? _ = some _ := fun _ => c0
      clear hx hxz hb5 hk5 hone hw5 HO c0
      go_upto_region 6 with (fail)
      rw [HW5.out]
      clear HW5 q0 q1 q2 q3
      obtain ⟨cm, hcm⟩ : ∃ cm, comI last.toList x.p.toList = cm := ⟨_, rfl⟩
      have hcl := comI_le last.toList x.p.toList
      rw [hcm, size_toList, size_toList] at hcl
      have hcl1 : cm ≤ x.p.size := hcl.2
      have HCM := Lib.hid (And.intro hcm trivial)
      clear hcm hcl
      go_upto_block 2 with (fail)
      go_cut [7] from 18 to 70 (fun vs wx => vs = .int .i64 (cm : Nat) ∧ ∃ q, wx = w5.drewN q)
      case first =>
        go_wp2_with fail
        go_loopw [7] (fun vs wx => ∃ (s q : Nat), vs = .int .i64 (s : Nat) ∧ s ≤ last.size ∧ s ≤ x.p.size ∧ Hid (last.toList.take s = x.p.toList.take s ∧ True) ∧ wx = w5.drewN q) (fun vs _ => last.size - iOfI vs)
        case atStart => exact ⟨0, 0, rfl, by omega, by omega, Lib.hid ⟨by simp, trivial⟩, rfl⟩
        case round =>
          obtain ⟨t, q, rfl, ht1, ht2, HT, rfl⟩ := hrel
          have c0q : ∀ k, ((w5.drewN q).drewN k).cell? _ = some _ := fun k => c0n (q + k)
          by_cases hl1 : t < last.size
          · have hl1' : (t : Int) < (last.size : Int) := by omega
            by_cases hl2 : t < x.p.size
            · have hl2' : (t : Int) < (x.p.size : Int) := by omega
              by_cases hb : last[t] = x.p[t]
              · have hb1 : ((last[t].toNat : Int) == (x.p[t].toNat : Int)) = true := by rw [hb]; simp
                have HT2 := Lib.hid (show last.toList.take (t + 1) = x.p.toList.take (t + 1) ∧ True by
                  rw [List.take_add_one, List.take_add_one, HT.out.1, List.getElem?_eq_getElem (by rw [size_toList]; exact hl1), List.getElem?_eq_getElem (by rw [size_toList]; exact hl2), ← getElem_toList last t hl1, ← getElem_toList x.p t hl2, hb]
                  exact ⟨rfl, trivial⟩)
                clear hb
                go_wp2_with fail
                go_quiet (fail)
                go_wp2_with fail
                exact ⟨⟨t + 1, q + nq, by first | rfl | go_num, by omega, by omega, HT2, rfl⟩, by simp [iOfI]; omega⟩
              · have hb1 : ((last[t].toNat : Int) == (x.p[t].toNat : Int)) = false := by
                  rw [beq_eq_false_iff_ne]
                  exact fun e => hb (UInt8.toNat_inj.1 (by omega))
                have HE := Lib.hid (show cm = t by
                  rw [← HCM.out.1]
                  refine comI_stop _ _ t (by rw [size_toList]; omega) (by rw [size_toList]; omega) HT.out.1 (.inr (.inr fun e => hb ?_))
                  rw [List.getElem?_eq_getElem (by rw [size_toList]; exact hl1), List.getElem?_eq_getElem (by rw [size_toList]; exact hl2), ← getElem_toList last t hl1, ← getElem_toList x.p t hl2] at e
                  exact Option.some.inj e)
                clear hb
                go_wp2_with fail
                go_quiet (fail)
                go_wp2_with fail
                go_meet
                exact ⟨by rw [HE.out], q + nq, by rw [World.drewN_drewN]⟩
            · have hl2' : ¬ ((t : Int) < (x.p.size : Int)) := by omega
              have HE := Lib.hid (show cm = t by
                rw [← HCM.out.1]
                exact comI_stop _ _ t (by rw [size_toList]; omega) (by rw [size_toList]; omega) HT.out.1 (.inr (.inl (by rw [size_toList]; omega))))
              go_wp2_with fail
              go_quiet (fail)
              go_wp2_with fail
              go_meet
              exact ⟨by rw [HE.out], q + nq, by rw [World.drewN_drewN]⟩
          · have hl1' : ¬ ((t : Int) < (last.size : Int)) := by omega
            have HE := Lib.hid (show cm = t by
              rw [← HCM.out.1]
              exact comI_stop _ _ t (by rw [size_toList]; omega) (by rw [size_toList]; omega) HT.out.1 (.inl (by rw [size_toList]; omega)))
            go_wp2_with fail
            go_quiet (fail)
            go_wp2_with fail
            go_meet
            exact ⟨by rw [HE.out], q + nq, by rw [World.drewN_drewN]⟩
      case rest =>
        obtain ⟨rfl, q, hwq⟩ := hcut
        have hbq := below_dn w5 q
        rw [← hwq] at hbq
        clear hwq c0n
        obtain ⟨w6, rfl⟩ : ∃ w6, w6 = wc := ⟨_, rfl⟩
        have hb6 := bl H5.out.1 hbq
        have hk6 := H5.out.2.1.below' hbq
        have hO6 := H5.out.2.2.1.below' hbq
        obtain ⟨s1, hs1, hs1l, hs1z⟩ := str_of (putN (clampN ((cm : Nat) : Int)))
        obtain ⟨xq, hxq⟩ : ∃ xq, x.p.extract cm x.p.size = xq := ⟨_, rfl⟩
        have hxql : xq.toList = x.p.toList.drop cm := by rw [← hxq, toList_suf]
        have hxqz : xq.size ≤ 1000000 := by rw [← size_toList, hxql, List.length_drop, size_toList]; omega
        obtain ⟨s2, hs2, hs2l, hs2z⟩ := str_of (putT xq.toList)
        obtain ⟨s3, hs3, hs3l, hs3z⟩ := str_of (putN (clampN x.id) ++ putN (clampN x.sz))
        have hz1 : s1.size ≤ 9 := by rw [hs1z]; exact putN_length _
        have hz2 : s2.size ≤ 1000009 := by rw [hs2z]; have := putT_lenL xq.toList; rw [size_toList] at this; omega
        have hz3 : s3.size ≤ 18 := by rw [hs3z, List.length_append]; have := putN_length (clampN x.id); have := putN_length (clampN x.sz); omega
        have HS := Lib.hid (And.intro hs1 (And.intro hs2 (And.intro hs3 (And.intro hs1l (And.intro hs2l (And.intro hs3l hxql))))))
        have H6 := Lib.hid (And.intro hb6 (And.intro hk6 (And.intro hO6 (H5.out.2.2.2))))
        clear hs1 hs2 hs3 hs1l hs2l hs3l hs1z hs2z hs3z hxql hb6 hk6 hO6 hbq
        go_wp2_with fail
        refine (putNum_oneI (cm : Nat) s1 HS.out.1 w6).mono ?_
        rintro e w7 ⟨rfl, hb7⟩
        have hz7 : w.heap.size ≤ w7.heap.size := (bl H6.out.1 hb7).size
        have hO7 := H6.out.2.2.1.below' hb7
        have HB7 := Lib.hid (And.intro (bl H6.out.1 hb7) (And.intro (H6.out.2.1.below' hb7) hO7))
        clear hb7 hO7
        go_upto_region 10 with (at_builtin; go_must (refine wpList_append_bytes rfl (.tmp 44) (.tmp 47) 80 9 rfl w.heap.size 5 el_byte Try.underlying9 (by kernel_rfl) _ _ rfl HB7.out.2.2 _ rfl (by omega) hz7 ?_); intro v8 w8 hO8 hb8 hg8 hk8)
        have hk8' := HB7.out.2.1.onlyV hg8 H6.out.2.2.2
        have hn8 := hk8 wr.heap.size HB7.out.2.1.lt H6.out.2.2.2
        have H8 := Lib.hid (And.intro (HB7.out.1.trans hb8) (And.intro hk8' (And.intro hO8 hn8)))
        have c0 := hk8'.cell_ 0 (.string x.p) rfl
        clear hO8 hb8 hg8 hk8 hk8' hn8 hz7
        go_wp2_with fail
        refine (putTextI_is xq s2 HS.out.2.1 w8 (by omega)).mono ?_
        rintro e w9 ⟨rfl, hb9⟩
        have hz9 : w.heap.size ≤ w9.heap.size := (bl H8.out.1 hb9).size
        have hO9 := H8.out.2.2.1.below' hb9
        have HB9 := Lib.hid (And.intro (bl H8.out.1 hb9) (And.intro (H8.out.2.1.below' hb9) hO9))
        have hL9 : (Lb ++ s1.toList).length + s2.size ≤ 1000000000000 := by rw [List.length_append, size_toList]; omega
        clear hb9 hO9 c0 hxq
        go_upto_region 11 with (at_builtin; go_must (refine wpList_append_bytes rfl (.tmp 49) (.tmp 54) 80 9 rfl w.heap.size 5 el_byte Try.underlying9 (by kernel_rfl) _ _ rfl HB9.out.2.2 _ rfl hL9 hz9 ?_); intro v10 w10 hO10 hb10 hg10 hk10)
        have hk10' := HB9.out.2.1.onlyV hg10 H8.out.2.2.2
        have hn10 := hk10 wr.heap.size HB9.out.2.1.lt H8.out.2.2.2
        have H10 := Lib.hid (And.intro (HB9.out.1.trans hb10) (And.intro hk10' (And.intro hO10 hn10)))
        have c1 := hk10'.cell_ 1 (.int .i64 x.id) rfl
        have c2 := hk10'.cell_ 2 (.int .i64 x.sz) rfl
        clear hO10 hb10 hg10 hk10 hk10' hn10 hz9 hL9
        go_wp2_with fail
        refine (putNum_twoI x.id x.sz s3 HS.out.2.2.1 w10).mono ?_
        rintro e w11 ⟨rfl, hb11⟩
        have hz11 : w.heap.size ≤ w11.heap.size := (bl H10.out.1 hb11).size
        have hO11 := H10.out.2.2.1.below' hb11
        have HB11 := Lib.hid (And.intro (bl H10.out.1 hb11) (And.intro (H10.out.2.1.below' hb11) hO11))
        have hL11 : (Lb ++ s1.toList ++ s2.toList).length + s3.size ≤ 1000000000000 := by rw [List.length_append, List.length_append, size_toList, size_toList]; omega
        clear hb11 hO11 c1 c2
        go_upto_region 12 with (at_builtin; go_must (refine wpList_append_bytes rfl (.tmp 56) (.tmp 62) 80 9 rfl w.heap.size 5 el_byte Try.underlying9 (by kernel_rfl) _ _ rfl HB11.out.2.2 _ rfl hL11 hz11 ?_); intro v12 w12 hO12 hb12 hg12 hk12)
        have hk12' := HB11.out.2.1.onlyV hg12 H10.out.2.2.2
        have hn12 := hk12 wr.heap.size HB11.out.2.1.lt H10.out.2.2.2
        have H12 := Lib.hid (And.intro (HB11.out.1.trans hb12) (And.intro hk12' (And.intro hO12 hn12)))
        have c3 := hk12'.cell_ 3 (.string x.sm) rfl
        have hz12 : w.heap.size ≤ w12.heap.size := H12.out.1.size
        have hL12 : (Lb ++ s1.toList ++ s2.toList ++ s3.toList).length + x.sm.size ≤ 1000000000000 := by rw [List.length_append, List.length_append, List.length_append, size_toList, size_toList, size_toList]; omega
        clear hO12 hb12 hg12 hk12 hk12' hn12 hz11 hL11
        go_upto_region 13 with (at_builtin; go_must (refine wpList_append_bytes rfl (.tmp 64) (.tmp 66) 80 9 rfl w.heap.size 5 el_byte Try.underlying9 (by kernel_rfl) _ _ rfl H12.out.2.2.1 _ rfl hL12 hz12 ?_); intro v14 w14 hO14 hb14 hg14 hk14)
        have hk14' := H12.out.2.1.onlyV hg14 H12.out.2.2.2
        have HB14 := Lib.hid (H12.out.1.trans hb14)
        have c0 := hk14'.cell_ 0 (.string x.p) rfl
        have HO14 := Lib.hid hO14
        have HL14 := Lib.hid (show Lb ++ s1.toList ++ s2.toList ++ s3.toList ++ x.sm.toList = putN (clampN (n : Int)) ++ restP [] (L.take (i + 1)) ∧ True from ⟨by
          rw [List.take_add_one, HX.out, Option.toList_some, restP_snoc, HL.out.1, HS.out.2.2.2.1, HS.out.2.2.2.2.1, HS.out.2.2.2.2.2.1, HS.out.2.2.2.2.2.2]
          unfold oneP
          rw [← HLA.out.1, HCM.out.1]
          simp only [List.append_assoc], trivial⟩)
        have hLl : (Lb ++ s1.toList ++ s2.toList ++ s3.toList ++ x.sm.toList).length ≤ 9 + (i + 1) * 3000000 := by
          simp only [List.length_append, size_toList]
          omega
        have HLA14 := Lib.hid (show x.p.toList = lastP [] (L.take (i + 1)) ∧ True from ⟨by rw [List.take_add_one, HX.out, Option.toList_some, lastP_snoc], trivial⟩)
        clear hO14 hb14 hg14 hk14 hk14' c3 hz12 hL12
        go_wp2_with fail
        go_round
        case rel => exact ⟨i + 1, v14, _, x.p, by first | rfl | go_num, rfl, rfl, by omega, hLl, hxz1, HO14, HL14, HLA14, HB14⟩
        case measure => simp [iOfI]; omega
    · obtain rfl : i = n := by omega
      have hin1 : ¬ ((i : Int) < (i : Int)) := by omega
      have hL2 : Lb = putX L := by
        rw [HL.out.1, List.take_of_length_le (by rw [HN.out.1]; exact Nat.le_refl _)]
        unfold putX
        rw [HN.out.1]
      have hcs := conv_ownB (P := Try.prog) HO.out 80 9 5 Try.underlying80 Try.underlying5 Try.underlying9
      rw [hL2, HN.out.2.2.1] at hcs
      clear hL2 HL
      go_wp2_with fail
      go_ret
      exact ⟨rfl, HB.out⟩
end Go.Proofs.Ytnhbkfefpkocaaa
