/-
  The reference's Put (index).
-/
import Derived.Test.YtnhbkfefpkocaaaP16
import Derived.Deep.RegionHeld3
namespace Go.Proofs.Ytnhbkfefpkocaaa
open Go.RowKit Go.Sort

theorem putRI_is (n : Int) (s : ByteArray) (h : ofL (putN (clampN n)) = s) (w : World) :
    Calls Try.prog 48 #[.int .i64 n] w fun e w' => e = .returned (.string s) ∧ Below w.heap.size w w' := by subst h; exact put_any n w
theorem putTextRI_is (s t : ByteArray) (h : ofL (putT s.toList) = t) (w : World) (hs : s.size ≤ 4611686018427387904) :
    Calls Try.prog 49 #[.string s] w fun e w' => e = .returned (.string t) ∧ Below w.heap.size w w' := by subst h; exact putTextRef_any s w hs

set_option maxRecDepth 20000 in
set_option maxHeartbeats 8000000 in
theorem rputX_any (L : List It) (A : Option Addr) (n c : Nat) (hn : L.length = n) (hl : n ≤ 1000) (hz : ∀ y ∈ L, y.p.size ≤ 1000000 ∧ y.sm.size ≤ 1000000) (s : ByteArray) (hs : ofL (putX L) = s) (w : World) (hr : Rd w A (itf L)) :
    Calls Try.prog 23 #[.slice A n c] w fun e w' => e = .returned (.string s) ∧ Below w.heap.size w w' := by
  have mixed : Try.prog.follows Departure.mixedOrders = true := by kernel_rfl
  have HN := Lib.hid (And.intro hn (And.intro hz (And.intro hs hr)))
  obtain ⟨s0, hs0, hs0l, hs0z⟩ := str_of (putN (clampN (n : Int)))
  have h09 : s0.size ≤ 9 := by rw [hs0z]; exact putN_length _
  have HS0 := Lib.hid (And.intro hs0 hs0l)
  clear hn hz hs hr hs0 hs0l hs0z
  go_enter Try.func23, Try.ntmps23
  go_wp2_with fail
  refine (putRI_is (n : Int) s0 HS0.out.1 w).mono ?_
  rintro e w2 ⟨rfl, hb2⟩
  have HB2 := Lib.hid hb2
  clear hb2
  go_wp2_with fail
  go_loopw [3, 4, 5] (fun v3 v4 vi wr => ∃ (i : Nat) (a last : ByteArray), vi = .int .i64 (i : Nat) ∧ v3 = .string a ∧ v4 = .string last ∧ i ≤ n ∧ a.size ≤ 9 + i * 3000000 ∧ last.size ≤ 1000000 ∧ Hid (a.toList = putN (clampN (n : Int)) ++ restP [] (L.take i) ∧ True) ∧ Hid (last.toList = lastP [] (L.take i) ∧ True) ∧ Hid (Below w.heap.size w wr)) (fun _ _ vi _ => n - iOfI vi)
  case atStart => exact ⟨0, s0, ⟨#[]⟩, rfl, rfl, rfl, by omega, by omega, by decide, Lib.hid ⟨by rw [HS0.out.2]; simp [restP], trivial⟩, Lib.hid ⟨toList_nil, trivial⟩, HB2⟩
  case round =>
    clear HB2
    obtain ⟨i, a, last, rfl, rfl, rfl, hi, haz, hlz, HL, HLA, HB⟩ := hrel
    obtain ⟨wr0, rfl⟩ : ∃ wr0, wr0 = wr := ⟨_, rfl⟩
    by_cases hin : i < n
    · have hin1 : (i : Int) < (n : Int) := by omega
      obtain ⟨x, hx⟩ : ∃ x, L[i]? = some x := ⟨_, List.getElem?_eq_getElem (by rw [HN.out.1]; exact hin)⟩
      obtain ⟨b, o, rfl, hbl, q0, q1, q2, q3⟩ := (HN.out.2.2.2.below HB.out).item hx
      have hxz := HN.out.2.1 x (List.mem_of_getElem? hx)
      have hxz1 : x.p.size ≤ 1000000 := hxz.1
      have hxz2 : x.sm.size ≤ 1000000 := hxz.2
      have HX := Lib.hid hx
      have c0n : ∀ k, (wr0.drewN k).cell? _ = some _ := fun _ => q0
      have HQ := Lib.hid (And.intro q0 (And.intro q1 (And.intro q2 q3)))
      obtain ⟨cm, hcm⟩ : ∃ cm, comI last.toList x.p.toList = cm := ⟨_, rfl⟩
      have hcl := comI_le last.toList x.p.toList
      rw [hcm, size_toList, size_toList] at hcl
      have hcl1 : cm ≤ x.p.size := hcl.2
      have HCM := Lib.hid (And.intro hcm trivial)
      clear hcm hcl hx hxz hbl q0 q1 q2 q3
      go_upto_block 2 with (fail)
      go_cut [6] from 10 to 82 (fun vs wx => vs = .int .i64 (cm : Nat) ∧ ∃ q, wx = wr0.drewN q)
      case first =>
        go_wp2_with fail
        go_loopw [6] (fun vs wx => ∃ (s q : Nat), vs = .int .i64 (s : Nat) ∧ s ≤ last.size ∧ s ≤ x.p.size ∧ Hid (last.toList.take s = x.p.toList.take s ∧ True) ∧ wx = wr0.drewN q) (fun vs _ => last.size - iOfI vs)
        case atStart => exact ⟨0, 0, rfl, by omega, by omega, Lib.hid ⟨by simp, trivial⟩, rfl⟩
        case round =>
          obtain ⟨t, q, rfl, ht1, ht2, HT, rfl⟩ := hrel
          have c0q : ∀ k, ((wr0.drewN q).drewN k).cell? _ = some _ := fun k => c0n (q + k)
          by_cases hl1 : t < last.size
          · have hl1' : (t : Int) < (last.size : Int) := by omega
            by_cases hl2 : t < x.p.size
            · have hl2' : (t : Int) < (x.p.size : Int) := by omega
              by_cases hb : last[t] = x.p[t]
              · have hb1 : ((last[t].toNat : Int) == (x.p[t].toNat : Int)) = true := by rw [hb]; simp
                have HT2 := Lib.hid (show last.toList.take (t + 1) = x.p.toList.take (t + 1) ∧ True by
                  rw [List.take_add_one, List.take_add_one, HT.out.1, List.getElem?_eq_getElem (by rw [size_toList]; exact hl1), List.getElem?_eq_getElem (by rw [size_toList]; exact hl2), ← getElem_toList last t hl1, ← getElem_toList x.p t hl2, hb]
                  exact ⟨rfl, trivial⟩)
                clear hb
                go_wp2_with fail
                go_quiet (fail)
                go_wp2_with fail
                exact ⟨⟨t + 1, q + nq, by first | rfl | go_num, by omega, by omega, HT2, rfl⟩, by simp [iOfI]; omega⟩
              · have hb1 : ((last[t].toNat : Int) == (x.p[t].toNat : Int)) = false := by
                  rw [beq_eq_false_iff_ne]
                  exact fun e => hb (UInt8.toNat_inj.1 (by omega))
                have HE := Lib.hid (show cm = t by
                  rw [← HCM.out.1]
                  refine comI_stop _ _ t (by rw [size_toList]; omega) (by rw [size_toList]; omega) HT.out.1 (.inr (.inr fun e => hb ?_))
                  rw [List.getElem?_eq_getElem (by rw [size_toList]; exact hl1), List.getElem?_eq_getElem (by rw [size_toList]; exact hl2), ← getElem_toList last t hl1, ← getElem_toList x.p t hl2] at e
                  exact Option.some.inj e)
                clear hb
                go_wp2_with fail
                go_quiet (fail)
                go_wp2_with fail
                go_meet
                exact ⟨by rw [HE.out], q + nq, by rw [World.drewN_drewN]⟩
            · have hl2' : ¬ ((t : Int) < (x.p.size : Int)) := by omega
              have HE := Lib.hid (show cm = t by
                rw [← HCM.out.1]
                exact comI_stop _ _ t (by rw [size_toList]; omega) (by rw [size_toList]; omega) HT.out.1 (.inr (.inl (by rw [size_toList]; omega))))
              go_wp2_with fail
              go_quiet (fail)
              go_wp2_with fail
              go_meet
              exact ⟨by rw [HE.out], q + nq, by rw [World.drewN_drewN]⟩
          · have hl1' : ¬ ((t : Int) < (last.size : Int)) := by omega
            have HE := Lib.hid (show cm = t by
              rw [← HCM.out.1]
              exact comI_stop _ _ t (by rw [size_toList]; omega) (by rw [size_toList]; omega) HT.out.1 (.inl (by rw [size_toList]; omega)))
            go_wp2_with fail
            go_quiet (fail)
            go_wp2_with fail
            go_meet
            exact ⟨by rw [HE.out], q + nq, by rw [World.drewN_drewN]⟩
      case rest =>
        obtain ⟨rfl, q, hwq⟩ := hcut
        have hbq := below_dn wr0 q
        rw [← hwq] at hbq
        clear hwq c0n
        obtain ⟨w6, rfl⟩ : ∃ w6, w6 = wc := ⟨_, rfl⟩
        have r0 := (hbq.cell (World.block_lt_of_cell? wr0 _ HQ.out.1)).trans HQ.out.1
        have r1 := (hbq.cell (World.block_lt_of_cell? wr0 _ HQ.out.2.1)).trans HQ.out.2.1
        have r2 := (hbq.cell (World.block_lt_of_cell? wr0 _ HQ.out.2.2.1)).trans HQ.out.2.2.1
        have r3 := (hbq.cell (World.block_lt_of_cell? wr0 _ HQ.out.2.2.2)).trans HQ.out.2.2.2
        obtain ⟨s1, hs1, hs1l, hs1z⟩ := str_of (putN (clampN ((cm : Nat) : Int)))
        obtain ⟨xq, hxq⟩ : ∃ xq, x.p.extract cm x.p.size = xq := ⟨_, rfl⟩
        have hxql : xq.toList = x.p.toList.drop cm := by rw [← hxq, toList_suf]
        have hxqz : xq.size ≤ 1000000 := by rw [← size_toList, hxql, List.length_drop, size_toList]; omega
        obtain ⟨s2, hs2, hs2l, hs2z⟩ := str_of (putT xq.toList)
        obtain ⟨s3, hs3, hs3l, hs3z⟩ := str_of (putN (clampN x.id))
        obtain ⟨s4, hs4, hs4l, hs4z⟩ := str_of (putN (clampN x.sz))
        have hz1 : s1.size ≤ 9 := by rw [hs1z]; exact putN_length _
        have hz2 : s2.size ≤ 1000009 := by rw [hs2z]; have := putT_lenL xq.toList; rw [size_toList] at this; omega
        have hz3 : s3.size ≤ 9 := by rw [hs3z]; exact putN_length _
        have hz4 : s4.size ≤ 9 := by rw [hs4z]; exact putN_length _
        obtain ⟨t1, ht1⟩ : ∃ t1, a ++ s1 = t1 := ⟨_, rfl⟩
        obtain ⟨t2, ht2⟩ : ∃ t2, t1 ++ s2 = t2 := ⟨_, rfl⟩
        obtain ⟨t3, ht3⟩ : ∃ t3, t2 ++ s3 = t3 := ⟨_, rfl⟩
        obtain ⟨t4, ht4⟩ : ∃ t4, t3 ++ s4 = t4 := ⟨_, rfl⟩
        obtain ⟨t5, ht5⟩ : ∃ t5, t4 ++ x.sm = t5 := ⟨_, rfl⟩
        have k1 : t1.size = a.size + s1.size := by rw [← ht1, ByteArray.size_append]
        have k2 : t2.size = t1.size + s2.size := by rw [← ht2, ByteArray.size_append]
        have k3 : t3.size = t2.size + s3.size := by rw [← ht3, ByteArray.size_append]
        have k4 : t4.size = t3.size + s4.size := by rw [← ht4, ByteArray.size_append]
        have k5 : t5.size = t4.size + x.sm.size := by rw [← ht5, ByteArray.size_append]
        have n1 : ¬ (9223372036854775807 < a.size + s1.size) := by omega
        have n2 : ¬ (9223372036854775807 < t1.size + s2.size) := by omega
        have n3 : ¬ (9223372036854775807 < t2.size + s3.size) := by omega
        have n4 : ¬ (9223372036854775807 < t3.size + s4.size) := by omega
        have n5 : ¬ (9223372036854775807 < t4.size + x.sm.size) := by omega
        have ht5z : t5.size ≤ 9 + (i + 1) * 3000000 := by omega
        have HT5 := Lib.hid (show t5.toList = putN (clampN (n : Int)) ++ restP [] (L.take (i + 1)) ∧ True from ⟨by
          rw [← ht5, ← ht4, ← ht3, ← ht2, ← ht1]
          simp only [toList_app]
          rw [List.take_add_one, HX.out, Option.toList_some, restP_snoc, HL.out.1, hs1l, hs2l, hs3l, hs4l, hxql]
          unfold oneP
          rw [← HLA.out.1, HCM.out.1]
          simp only [List.append_assoc], trivial⟩)
        have HS := Lib.hid (And.intro hs1 (And.intro hs2 (And.intro hs3 hs4)))
        have HBQ := Lib.hid (HB.out.trans (hbq.mono HB.out.size))
        have HS0 : Hid (∀ w', Below w6.heap.size w6 w' → Below w6.heap.size w6 w' ∧ w'.cell? ⟨b, o + i * 4, none⟩ = some (.string x.p) ∧ w'.cell? ⟨b, o + i * 4 + 1, none⟩ = some (.int .i64 x.id) ∧ w'.cell? ⟨b, o + i * 4 + 2, none⟩ = some (.int .i64 x.sz) ∧ w'.cell? ⟨b, o + i * 4 + 3, none⟩ = some (.string x.sm)) := Lib.hid fun w' h => ⟨h, (h.cell (World.block_lt_of_cell? w6 _ r0)).trans r0, (h.cell (World.block_lt_of_cell? w6 _ r1)).trans r1, (h.cell (World.block_lt_of_cell? w6 _ r2)).trans r2, (h.cell (World.block_lt_of_cell? w6 _ r3)).trans r3⟩
        have hcx : (cm : Int) ≤ (x.p.size : Int) := by omega
        clear hs1 hs2 hs3 hs4 hs1l hs2l hs3l hs4l hs1z hs2z hs3z hs4z hxql hbq k1 k2 k3 k4 k5 r0 r1 r2 r3
        go_upto_region 9 with (fail)
        go_region_held3 (fun w' => Below w6.heap.size w6 w' ∧ w'.cell? ⟨b, o + i * 4, none⟩ = some (.string x.p) ∧ w'.cell? ⟨b, o + i * 4 + 1, none⟩ = some (.int .i64 x.id) ∧ w'.cell? ⟨b, o + i * 4 + 2, none⟩ = some (.int .i64 x.sz) ∧ w'.cell? ⟨b, o + i * 4 + 3, none⟩ = some (.string x.sm))
          (first | with_reducible exact HS0.out _ (ka w6) | with_reducible exact HS0.out _ hX1 | with_reducible exact HS0.out _ hX2 | with_reducible exact HS0.out _ hX3 | with_reducible exact HS0.out _ hX4)
          (first
            | (go_at_call 48; (with_reducible refine (putRI_is (cm : Nat) s1 HS.out.1 _).mono ?_); rintro e w7 ⟨rfl, hb7⟩; have hX1 := below_of_drew hb7)
            | (go_at_call 49; (with_reducible refine (putTextRI_is xq s2 HS.out.2.1 _ (by omega)).mono ?_); rintro e w8 ⟨rfl, hb8⟩; have hX2 := bl hX1 hb8)
            | (go_at_call 48; (with_reducible refine (putRI_is x.id s3 HS.out.2.2.1 _).mono ?_); rintro e w9 ⟨rfl, hb9⟩; have hX3 := bl hX2 hb9)
            | (go_at_call 48; (with_reducible refine (putRI_is x.sz s4 HS.out.2.2.2 _).mono ?_); rintro e w10 ⟨rfl, hb10⟩; have hX4 := bl hX3 hb10))
        all_goals
          have u0 := (HS0.out _ hX4).2.1
          have HBZ := Lib.hid (HBQ.out.trans (hX4.mono HBQ.out.size))
          go_wp2_with fail
          exact ⟨⟨i + 1, t5, x.p, by first | rfl | go_num, rfl, rfl, by omega, ht5z, hxz1, HT5, Lib.hid ⟨by rw [List.take_add_one, HX.out, Option.toList_some, lastP_snoc], trivial⟩, HBZ⟩, by simp [iOfI]; omega⟩
    · obtain rfl : i = n := by omega
      have hin1 : ¬ ((i : Int) < (i : Int)) := by omega
      have hL2 : a = s := by
        rw [← HN.out.2.2.1]
        refine str_eq ?_
        rw [toList_ofL, HL.out.1, List.take_of_length_le (by rw [HN.out.1]; exact Nat.le_refl _)]
        unfold putX
        rw [HN.out.1]
      subst hL2
      go_wp2_with fail
      go_ret
      exact ⟨rfl, HB.out⟩
end Go.Proofs.Ytnhbkfefpkocaaa
