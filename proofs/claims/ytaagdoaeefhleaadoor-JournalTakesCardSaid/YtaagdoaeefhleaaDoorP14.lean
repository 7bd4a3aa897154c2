/-
  Both Takes come to the same. The law JournalTakes: the walk.
-/
import Derived.Test.YtaagdoaeefhleaaDoorJnY
import Derived.Test.YtaagdoaeefhleaaDoorJoI
import Derived.Test.YtaagdoaeefhleaaDoorRList
namespace Go.Proofs.YtaagdoaeefhleaaDoor
open Go.RowKit

theorem takeB_len {n : Int} {s : List UInt8} {M : List Bool} (h : takeB n s = (M, 0)) : (M.length : Int) = n ∧ M.length ≤ 256 := by
  unfold takeB at h
  split at h
  · simp at h
  · rename_i h1
    split at h
    · simp at h
    · split at h
      · simp only [Prod.mk.injEq, and_true] at h
        rw [← h, List.length_take, bitsT_length]
        omega
      · simp at h
theorem RNo.of {w : World} {k : Int} {e : Ending} {w' : World} (h : REnd w #[.int .i64 0, .string ⟨#[]⟩, .int .i64 0, .int .i64 0, .int .i64 0, .string ⟨#[]⟩, .string ⟨#[]⟩, .int .i64 0] [] k e w') : ∃ A c, e = .returned (.tuple #[.agg #[.int .i64 0, .string ⟨#[]⟩, .int .i64 0, .int .i64 0, .int .i64 0, .string ⟨#[]⟩, .string ⟨#[]⟩, .int .i64 0], .slice A 0 c, .int .i64 k]) ∧ Below w.heap.size w w' := by
  obtain ⟨A, c, h1, _, _, _, h2⟩ := h
  exact ⟨A, c, h1, h2⟩
theorem jtake_both (s : ByteArray) (hs : s.size ≤ 1000) : (∃ k, k ≠ 0 ∧ (∀ w, Calls Tryd.prog 10 #[.string s] w (JNo w k)) ∧ (∀ w, Calls Tryd.prog 11 #[.string s] w (REnd w #[.int .i64 0, .string ⟨#[]⟩, .int .i64 0, .int .i64 0, .int .i64 0, .string ⟨#[]⟩, .string ⟨#[]⟩, .int .i64 0] [] k))) ∨
    (∃ (id : Int) (sa : ByteArray) (n bs raw : Int) (ro ta : ByteArray) (ba : Int) (L : List Bool), L.length ≤ 256 ∧ (∀ w, Calls Tryd.prog 10 #[.string s] w (JYes id sa n bs raw ro ta ba L 0 w)) ∧ (∀ w, Calls Tryd.prog 11 #[.string s] w (REnd w #[.int .i64 id, .string sa, .int .i64 n, .int .i64 bs, .int .i64 raw, .string ro, .string ta, .int .i64 ba] L 0))) := by
  rcases hz : zeroB s with _ | _
  · by_cases hl : s.size < 136
    · exact .inl ⟨2, by decide, fun w => jtake_short s w hs hz hl, fun w => (jtakeR_nomark s w hs hz (.inl hl)).mono fun e w' h => h.end⟩
    · have hl' : 136 ≤ s.size := by omega
      rcases hm : markB s with _ | _
      · exact .inl ⟨2, by decide, fun w => jtake_nomark s w hs hz hl' hm, fun w => (jtakeR_nomark s w hs hz (.inr ⟨hl', by rw [← mark_is]; exact hm⟩)).mono fun e w' h => h.end⟩
      · have hq : ((s.extract 0 4).toList == [83, 76, 74, 49]) = true := by rw [← mark_is]; exact hm
        obtain ⟨v, hv⟩ : ∃ v, s.extract 136 s.size = v := ⟨_, rfl⟩
        rcases hvz : zeroB v with _ | _
        · exact .inl ⟨2, by decide, fun w => jtake_tail s v w hs hz hl' hm hv hvz, fun w => (jtakeR_tail s v w hs hz hq hl' hv hvz).mono fun e w' h => h.end⟩
        · have hts : (s.extract 4 s.size).size = s.size - 4 := suf_size _ _ (by omega)
          have hc0 : (s.extract 4 s.size).extract 0 98 = s.extract 4 102 := str_eq (by rw [toList_ext, toList_suf, toList_ext, List.drop_zero])
          have hu : (s.extract 4 s.size).extract 98 (s.extract 4 s.size).size = s.extract 102 s.size := str_eq (by rw [toList_suf, toList_suf, toList_suf, List.drop_drop])
          have hus : (s.extract 102 s.size).size = s.size - 102 := suf_size _ _ (by omega)
          have hr : (s.extract 102 s.size).extract 2 (s.extract 102 s.size).size = s.extract 104 s.size := str_eq (by rw [toList_suf, toList_suf, toList_suf, List.drop_drop])
          have hrs : (s.extract 104 s.size).size = s.size - 104 := suf_size _ _ (by omega)
          have hg : (s.extract 104 s.size).extract 0 32 = s.extract 104 136 := str_eq (by rw [toList_ext, toList_suf, toList_ext, List.drop_zero])
          have hgs : (s.extract 104 136).size ≤ 1000 := by rw [← size_toList, toList_ext, List.length_take]; omega
          have h98 : (s.extract 4 102).size = 98 := by rw [← size_toList, toList_ext, List.length_take, List.length_drop, size_toList]; omega
          have hbase := takeF_k (s.extract 102 s.size) 2 (by omega) (by omega) (by omega)
          rw [hr] at hbase
          obtain ⟨b, id, sa, n, bs, raw, ro, ta, H1, H2⟩ := head_both (s.extract 4 102) h98
          cases b with
          | false =>
            exact .inl ⟨2, by decide, fun w => jtake_nohead s v w hs hz hl' hm hv hvz _ _ rfl ⟨by omega, by omega⟩ hc0 (fun w => H1 w), fun w => (jtakeR_nohead s v w hs hz hq hl' hv hvz _ rfl (fun w => H2 w)).mono fun e w' h => h.end⟩
          | true =>
            obtain ⟨L, kc, hT⟩ : ∃ L kc, takeB n (s.extract 104 136).toList = (L, kc) := ⟨_, _, rfl⟩
            by_cases hk : kc = 0
            · subst hk
              obtain ⟨hn, h256⟩ := takeB_len hT
              rcases hok : extOk id sa n bs raw ro ta (nmH (s.extract 102 s.size) 2) with _ | _
              · exact .inl ⟨2, by decide, fun w => jtake_head s v w hs hz hl' hm hv hvz _ _ rfl ⟨by omega, by omega⟩ hc0 _ _ _ _ hu (by omega) hbase ⟨by omega, by omega⟩ hg id sa n bs raw ro ta (fun w => H1 w) L 0 hT false (.inr (.inl ⟨rfl, by unfold recOk; rw [hok]; rfl, rfl⟩)),
                  fun w => jtakeR_head s v w hs hz hq hl' hv hvz _ rfl _ _ _ _ rfl (by omega) hbase rfl hgs id sa n bs raw ro ta (fun w => H2 w) L 0 hT _ _ _ (.inr (.inl ⟨rfl, hok, rfl, rfl, rfl⟩))⟩
              · exact .inr ⟨id, sa, n, bs, raw, ro, ta, nmH (s.extract 102 s.size) 2, L, h256, fun w => jtake_head s v w hs hz hl' hm hv hvz _ _ rfl ⟨by omega, by omega⟩ hc0 _ _ _ _ hu (by omega) hbase ⟨by omega, by omega⟩ hg id sa n bs raw ro ta (fun w => H1 w) L 0 hT true (.inr (.inr ⟨rfl, by unfold recOk; rw [hok, decide_eq_true hn]; rfl, rfl⟩)),
                  fun w => jtakeR_head s v w hs hz hq hl' hv hvz _ rfl _ _ _ _ rfl (by omega) hbase rfl hgs id sa n bs raw ro ta (fun w => H2 w) L 0 hT _ _ _ (.inr (.inr ⟨rfl, hok, rfl, rfl, rfl⟩))⟩
            · exact .inl ⟨2, by decide, fun w => jtake_head s v w hs hz hl' hm hv hvz _ _ rfl ⟨by omega, by omega⟩ hc0 _ _ _ _ hu (by omega) hbase ⟨by omega, by omega⟩ hg id sa n bs raw ro ta (fun w => H1 w) L kc hT false (.inl ⟨hk, rfl⟩),
                fun w => jtakeR_head s v w hs hz hq hl' hv hvz _ rfl _ _ _ _ rfl (by omega) hbase rfl hgs id sa n bs raw ro ta (fun w => H2 w) L kc hT _ _ _ (.inl ⟨hk, rfl, rfl, rfl⟩)⟩
  · exact .inl ⟨8, by decide, fun w => jtake_zero s w hs hz, fun w => (jtakeR_zero s w hs hz).mono fun e w' h => h.end⟩
theorem list_agg (L : List Bool) (w : World) (hL : L.length ≤ 256) : Calls Tryd.prog 14 #[.agg #[.int .i64 (L.length : Nat), .int .u64 (wdN L 0 : Nat), .int .u64 (wdN L 1 : Nat), .int .u64 (wdN L 2 : Nat), .int .u64 (wdN L 3 : Nat)]] w (RetS w (listR L 0).length (intVals (listR L 0))) := list_any L w hL
end Go.Proofs.YtaagdoaeefhleaaDoor
namespace Go.Proofs.YtaagdoaeefhleaaDoor
open Go.RowKit

set_option maxRecDepth 20000 in
set_option maxHeartbeats 8000000 in
theorem journalTakes_in (c : ByteArray) (hc : c.size ≤ 1000) (s : ByteArray) (w : World) (hs : (1000 < s.size ∧ s.extract 0 1000 = c) ∨ (s.size ≤ 1000 ∧ s = c)) :
    Calls Tryd.prog 4 #[.string s] w (Yes w) := by
  have hi : (((1000 : Int) < (s.size : Int)) ∧ s.extract 0 1000 = c) ∨ (¬ ((1000 : Int) < (s.size : Int)) ∧ s = c) := hs.imp (fun h => ⟨by omega, h.2⟩) (fun h => ⟨by omega, h.2⟩)
  clear hs
  rcases jtake_both c hc with ⟨k, hk, H1, H2⟩ | ⟨id, sa, n, bs, raw, ro, ta, ba, L, h256, H1, H2⟩
  · have HX := Lib.hid H1
    have HY := Lib.hid H2
    have hk' : (k == 0) = false := by simp [hk]
    have hqz := eq_rec 0 ⟨#[]⟩ 0 0 0 ⟨#[]⟩ ⟨#[]⟩ 0 0 0 0 0 0
    clear H1 H2
    rcases hi with ⟨h1, h2⟩ | ⟨h1, rfl⟩
    all_goals
      go_enter Tryd.func4, Tryd.ntmps4
      go_wp2_with fail
      (with_reducible refine (HX.out _).mono ?_)
      rintro e w1 ⟨rfl, hb1⟩
      have hX := Bk.new w1 37 #[.int .i64 0, .string ⟨#[]⟩, .int .i64 0, .int .i64 0, .int .i64 0, .string ⟨#[]⟩, .string ⟨#[]⟩, .int .i64 0, .int .i64 0, .int .u64 0, .int .u64 0, .int .u64 0, .int .u64 0]
      have hb2 := hb1.alloc hb1.size (.cells #[.int .i64 0, .string ⟨#[]⟩, .int .i64 0, .int .i64 0, .int .i64 0, .string ⟨#[]⟩, .string ⟨#[]⟩, .int .i64 0, .int .i64 0, .int .u64 0, .int .u64 0, .int .u64 0, .int .u64 0] 37)
      clear hb1
      go_wp2_with fail
      (with_reducible refine (HY.out _).mono ?_)
      rintro e w2 ⟨A, c, rfl, hc1, hc2, hrd, hb1⟩
      have hX2 := (hX.below' hb1).alloc (.cells #[.int .i64 0, .string ⟨#[]⟩, .int .i64 0, .int .i64 0, .int .i64 0, .string ⟨#[]⟩, .string ⟨#[]⟩, .int .i64 0] 25)
      have hY := Bk.new w2 25 #[.int .i64 0, .string ⟨#[]⟩, .int .i64 0, .int .i64 0, .int .i64 0, .string ⟨#[]⟩, .string ⟨#[]⟩, .int .i64 0]
      have hrd2 := hrd.below ((Below.refl w2.heap.size w2).alloc (Nat.le_refl _) (.cells #[.int .i64 0, .string ⟨#[]⟩, .int .i64 0, .int .i64 0, .int .i64 0, .string ⟨#[]⟩, .string ⟨#[]⟩, .int .i64 0] 25))
      have hb3 := (bl hb2 hb1).alloc (bl hb2 hb1).size (.cells #[.int .i64 0, .string ⟨#[]⟩, .int .i64 0, .int .i64 0, .int .i64 0, .string ⟨#[]⟩, .string ⟨#[]⟩, .int .i64 0] 25)
      clear hX hb2 hb1 hrd
      have q0 := hX2.cell 0
      have q1 := hX2.cell 1
      have q2 := hX2.cell 2
      have q3 := hX2.cell 3
      have q4 := hX2.cell 4
      have q5 := hX2.cell 5
      have q6 := hX2.cell 6
      have q7 := hX2.cell 7
      have q8 := hX2.cell 8
      have q9 := hX2.cell 9
      have q10 := hX2.cell 10
      have q11 := hX2.cell 11
      have q12 := hX2.cell 12
      simp only [List.getElem?_toArray, List.getElem?_cons_succ, List.getElem?_cons_zero] at q0 q1 q2 q3 q4 q5 q6 q7 q8 q9 q10 q11 q12
      have p0 := hY.cell 0
      have p1 := hY.cell 1
      have p2 := hY.cell 2
      have p3 := hY.cell 3
      have p4 := hY.cell 4
      have p5 := hY.cell 5
      have p6 := hY.cell 6
      have p7 := hY.cell 7
      simp only [List.getElem?_toArray, List.getElem?_cons_succ, List.getElem?_cons_zero] at p0 p1 p2 p3 p4 p5 p6 p7
      go_wp2_with fail
      (with_reducible refine (awakeJ_any _).mono ?_)
      rintro e w3 ⟨rfl, hb1⟩
      go_wp2_with fail
      go_ret
      exact ⟨rfl, bl hb3 hb1⟩
  · have HX := Lib.hid H1
    have HY := Lib.hid H2
    clear H1 H2
    rcases hi with ⟨h1, h2⟩ | ⟨h1, rfl⟩
    all_goals
      go_enter Tryd.func4, Tryd.ntmps4
      go_wp2_with fail
      (with_reducible refine (HX.out _).mono ?_)
      rintro e w1 ⟨rfl, hb1⟩
      have hX := Bk.new w1 37 #[.int .i64 id, .string sa, .int .i64 n, .int .i64 bs, .int .i64 raw, .string ro, .string ta, .int .i64 ba, .int .i64 (L.length : Nat), .int .u64 (wdN L 0 : Nat), .int .u64 (wdN L 1 : Nat), .int .u64 (wdN L 2 : Nat), .int .u64 (wdN L 3 : Nat)]
      have hb2 := hb1.alloc hb1.size (.cells #[.int .i64 id, .string sa, .int .i64 n, .int .i64 bs, .int .i64 raw, .string ro, .string ta, .int .i64 ba, .int .i64 (L.length : Nat), .int .u64 (wdN L 0 : Nat), .int .u64 (wdN L 1 : Nat), .int .u64 (wdN L 2 : Nat), .int .u64 (wdN L 3 : Nat)] 37)
      clear hb1
      go_wp2_with fail
      (with_reducible refine (HY.out _).mono ?_)
      rintro e w2 ⟨A, c, rfl, hc1, hc2, hrd, hb1⟩
      have hX2 := (hX.below' hb1).alloc (.cells #[.int .i64 id, .string sa, .int .i64 n, .int .i64 bs, .int .i64 raw, .string ro, .string ta, .int .i64 ba] 25)
      have hY := Bk.new w2 25 #[.int .i64 id, .string sa, .int .i64 n, .int .i64 bs, .int .i64 raw, .string ro, .string ta, .int .i64 ba]
      have hrd2 := hrd.below ((Below.refl w2.heap.size w2).alloc (Nat.le_refl _) (.cells #[.int .i64 id, .string sa, .int .i64 n, .int .i64 bs, .int .i64 raw, .string ro, .string ta, .int .i64 ba] 25))
      have hb3 := (bl hb2 hb1).alloc (bl hb2 hb1).size (.cells #[.int .i64 id, .string sa, .int .i64 n, .int .i64 bs, .int .i64 raw, .string ro, .string ta, .int .i64 ba] 25)
      clear hX hb2 hb1 hrd
      have q0 := hX2.cell 0
      have q1 := hX2.cell 1
      have q2 := hX2.cell 2
      have q3 := hX2.cell 3
      have q4 := hX2.cell 4
      have q5 := hX2.cell 5
      have q6 := hX2.cell 6
      have q7 := hX2.cell 7
      have q8 := hX2.cell 8
      have q9 := hX2.cell 9
      have q10 := hX2.cell 10
      have q11 := hX2.cell 11
      have q12 := hX2.cell 12
      simp only [List.getElem?_toArray, List.getElem?_cons_succ, List.getElem?_cons_zero] at q0 q1 q2 q3 q4 q5 q6 q7 q8 q9 q10 q11 q12
      have p0 := hY.cell 0
      have p1 := hY.cell 1
      have p2 := hY.cell 2
      have p3 := hY.cell 3
      have p4 := hY.cell 4
      have p5 := hY.cell 5
      have p6 := hY.cell 6
      have p7 := hY.cell 7
      simp only [List.getElem?_toArray, List.getElem?_cons_succ, List.getElem?_cons_zero] at p0 p1 p2 p3 p4 p5 p6 p7
      go_wp2_with fail
      (with_reducible refine (size_agg L _).mono ?_)
      rintro e w3 ⟨rfl, hb1⟩
      have hX4 := hX2.below' hb1
      have hrd4 := hrd2.below hb1
      have hb4 := bl hb3 hb1
      clear hX2 hrd2 hb3 hb1 hY p0 p1 p2 p3 p4 p5 p6 p7 q0 q1 q2 q3 q4 q5 q6 q7 q8 q9 q10 q11 q12
      have q0 := hX4.cell 0
      have q1 := hX4.cell 1
      have q2 := hX4.cell 2
      have q3 := hX4.cell 3
      have q4 := hX4.cell 4
      have q5 := hX4.cell 5
      have q6 := hX4.cell 6
      have q7 := hX4.cell 7
      have q8 := hX4.cell 8
      have q9 := hX4.cell 9
      have q10 := hX4.cell 10
      have q11 := hX4.cell 11
      have q12 := hX4.cell 12
      simp only [List.getElem?_toArray, List.getElem?_cons_succ, List.getElem?_cons_zero] at q0 q1 q2 q3 q4 q5 q6 q7 q8 q9 q10 q11 q12
      go_wp2_with fail
      (with_reducible refine (list_agg L _ h256).mono ?_)
      rintro e w5 ⟨A5, c5, rfl, hc51, hc52, hr5, _, hb1⟩
      have hrd5 := hrd4.below hb1
      have hb5 := bl hb4 hb1
      clear hX4 hrd4 hb4 hb1 q0 q1 q2 q3 q4 q5 q6 q7 q8 q9 q10 q11 q12
      go_wp2_with fail
      (with_reducible refine (listRef_any A L.length c L _ rfl (by omega) hrd5).mono ?_)
      rintro e w6 ⟨A6, c6, rfl, hc61, hc62, hr6, _, hb1⟩
      have hr5b := hr5.below hb1
      have hb6 := bl hb5 hb1
      clear hr5 hrd5 hb5 hb1
      have hll := listR_length L 0
      go_wp2_with fail
      (with_reducible refine (same_any A5 A6 _ _ c5 c6 (listR L 0) (listR L 0) _ rfl rfl hr5b hr6 (by omega) (by omega)).mono ?_)
      rw [sameI_self]
      rintro e w7 ⟨rfl, hb1⟩
      have hb7 := bl hb6 hb1
      clear hr5b hr6 hb6 hb1
      go_wp2_with fail
      (with_reducible refine (awakeJ_any _).mono ?_)
      rintro e w8 ⟨rfl, hb1⟩
      go_wp2_with fail
      go_ret
      exact ⟨rfl, bl hb7 hb1⟩
theorem journalTakes_walk (s : ByteArray) (w : World) (_hs : s.size ≤ 140737488351232) : Calls Tryd.prog 4 #[.string s] w (Yes w) := by
  by_cases h : 1000 < s.size
  · exact journalTakes_in (s.extract 0 1000) (by rw [← size_toList, toList_ext, List.length_take]; omega) s w (.inl ⟨h, rfl⟩)
  · exact journalTakes_in s (by omega) s w (.inr ⟨by omega, rfl⟩)
end Go.Proofs.YtaagdoaeefhleaaDoor
