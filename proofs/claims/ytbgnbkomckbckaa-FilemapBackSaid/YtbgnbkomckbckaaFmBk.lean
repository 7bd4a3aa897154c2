/-
  slices.Equal at files (the same ones); filemap.Same; the law FilemapBack: the walk.
-/
import Derived.Test.YtbgnbkomckbckaaFmTk
import Derived.Laws.StructEq
namespace Go.Proofs.Ytbgnbkomckbckaa
open Go.RowKit Go.Sort

theorem eq_file (xp xd : ByteArray) (w : World) : (Op.equalIn 10000 41 (.agg #[.string xp, .string xd]) (.agg #[.string xp, .string xd])).run Try.prog w = .ok true w := by
  have u4 := Try.underlying9
  have a4' := Try.isAgg9
  have z4 := Try.sizeOf9
  have hS : Try.prog.underlying 41 = some (.struct (Try.prog.fieldsOf 41)) := by kernel_rfl
  have hp : Try.prog.stoodInHeld 41 = false := by kernel_rfl
  rw [show (10000 : Nat) = 9999 + 1 from rfl, run_equalIn_agg w 9999 41 _ _ hS hp]
  simp only [Program.fieldsOf, Try.underlying41]
  go_simp
theorem neq_file (xp xd : ByteArray) (w : World) : (binOp .neq 41 (.agg #[.string xp, .string xd]) (.agg #[.string xp, .string xd])).run Try.prog w = .ok (.bool false) w := by
  rw [run_neq_struct, eq_file]
  rfl

set_option maxRecDepth 20000 in
set_option maxHeartbeats 4000000 in
theorem equalF_any (l : List Fl) (A B : Option Addr) (n c d : Nat) (w : World) (hn : l.length = n) (hn70 : n ≤ 1000) (hr : Rd w A (fl l)) (hs : Rd w B (fl l)) :
    Calls Try.prog 37 #[.slice A n c, .slice B n d] w fun e w' => e = .returned (.bool true) ∧ Below w.heap.size w w' := by
  have Hn := Lib.hid hn
  clear hn
  go_enter Try.func37, Try.ntmps37
  go_wp2_with fail
  go_loopw [13] (fun vi wr => ∃ i : Nat, vi = .int .i64 i ∧ i ≤ n ∧ Rd wr A (fl l) ∧ Rd wr B (fl l) ∧ Below w.heap.size w wr) (fun vi _ => n - (intOf vi).toNat)
  case atStart => exact ⟨0, rfl, by omega, hr, hs, Below.refl _ _⟩
  case round =>
    clear hr hs
    obtain ⟨i, rfl, hi, hr, hs, hb⟩ := hrel
    by_cases hlt : (i : Int) < (n : Int)
    · obtain ⟨x, hx⟩ : ∃ x, l[i]? = some x := ⟨_, getD_some (by rw [Hn.out]; omega)⟩
      obtain ⟨b, o, rfl, q0, q1⟩ := hr.file hx
      obtain ⟨b', o', rfl, y0, y1⟩ := hs.file hx
      rw [show (o + (i * 2 + 1) : Nat) = o + i * 2 + 1 by omega] at q1
      rw [show (o' + (i * 2 + 1) : Nat) = o' + i * 2 + 1 by omega] at y1
      obtain ⟨xp, xd⟩ := x
      have q0n : ∀ n, (wr.drewN n).cell? ⟨b, o + i * 2, none⟩ = some (.string xp) := fun _ => q0
      have q1n : ∀ n, (wr.drewN n).cell? ⟨b, o + i * 2 + 1, none⟩ = some (.string xd) := fun _ => q1
      have y0n : ∀ n, (wr.drewN n).cell? ⟨b', o' + i * 2, none⟩ = some (.string xp) := fun _ => y0
      have y1n : ∀ n, (wr.drewN n).cell? ⟨b', o' + i * 2 + 1, none⟩ = some (.string xd) := fun _ => y1
      have hne := neq_file xp xd
      clear hx q0 q1 y0 y1
      go_wp2_with fail
      go_quiet (fail)
      go_wp2_with fail
      go_round
      case rel => exact ⟨i + 1, by first | rfl | go_num, by omega, hr, hs, below_dn hb _⟩
      case measure => simp [intOf]; omega
    · go_wp2_with fail
      go_ret
      exact ⟨rfl, hb⟩

set_option maxRecDepth 20000 in
set_option maxHeartbeats 4000000 in
theorem fsame_any (l m : List Fl) (A B : Option Addr) (n c d : Nat) (h : sortF l = sortF m) (w : World) (hn : l.length = n) (hm : m.length = n) (hn70 : n ≤ 1000) (hr : Rd w A (fl l)) (hs : Rd w B (fl m)) :
    Calls Try.prog 19 #[.slice A n c, .slice B n d] w fun e w' => e = .returned (.bool true) ∧ Below w.heap.size w w' := by
  have Hn := Lib.hid hn
  have Hm := Lib.hid hm
  have H := Lib.hid h
  clear hn hm h
  go_enter Try.func19, Try.ntmps19
  go_wp2_with fail
  (with_reducible refine (sort_any l A n c Hn.out hn70 _ hr).mono ?_)
  rintro e w1 ⟨v, rfl, A1, c1, rfl, _, _, hr1, _, hb1⟩
  have hs1 := hs.below hb1
  have HL := Lib.hid (show (sortF l).length = n by rw [(sortF_law l).2.2]; exact Hn.out)
  simp only [HL.out]
  clear hr hs
  go_wp2_with fail
  (with_reducible refine (sort_any m B n d Hm.out hn70 _ hs1).mono ?_)
  rw [← H.out]
  rintro e w2 ⟨v, rfl, A2, c2, rfl, _, _, hr2, _, hb2⟩
  have hr3 := hr1.below hb2
  have hb3 := bl hb1 hb2
  simp only [HL.out]
  clear hr1 hs1 hb1 hb2
  go_wp2_with fail
  (with_reducible refine (equalF_any (sortF l) A1 A2 n c1 c2 _ HL.out hn70 hr3 hr2).mono ?_)
  rintro e w3 ⟨rfl, hb4⟩
  go_wp2_with fail
  go_ret
  exact ⟨rfl, bl hb3 hb4⟩

theorem check_small {l : List Fl} (h : checkF l = 0) {y : Fl} (hy : y ∈ l) : y.1.size ≤ 4096 ∧ y.2.size ≤ 1048576 := by
  have h1 := ((check_ok _).1 h).2.1 y hy
  have h2 := h1.1
  unfold okP at h2
  split at h2
  · rename_i h3
    unfold pathOk at h3
    have h4 := (of_decide_eq_true h3).2.1
    rw [size_toList] at h4
    omega
  · cases h2
theorem putL_len : ∀ l : List Fl, (∀ x ∈ l, x.1.size ≤ 4096 ∧ x.2.size ≤ 1048576) → (putL l).length ≤ l.length * 1052690
  | [], _ => by simp [putL]
  | x :: l, h => by
    have h1 := h x (by simp)
    have h2 := putL_len l (fun y hy => h y (by simp [hy]))
    have h3 := putT_len x.1
    have h4 := putT_len x.2
    unfold putL at h2 ⊢
    simp only [List.flatMap_cons, List.length_append, List.length_cons]
    omega
theorem putF_len {l : List Fl} (h : checkF l = 0) : (putF l).length ≤ 100000000 := by
  have h1 := putL_len (sortF l) (fun x hx => check_small h (sortF_mem.1 hx))
  have h2 := ((check_ok _).1 h).1
  rw [(sortF_law l).2.2] at h1
  have h3 := putN_length (clampN (l.length : Int))
  unfold putF
  rw [List.length_append]
  omega
theorem sortF_sortF (l : List Fl) : sortF (sortF l) = sortF l := (sortF_unique (sortF_law l).1 (Stab.rfl' _)).symm
set_option maxRecDepth 20000 in
set_option maxHeartbeats 8000000 in
theorem filemapBack_walk (A : Option Addr) (n c : Nat) (l : List Fl) (w : World) (hn : l.length = n) (hc : n ≤ c) (_hm : c ≤ 9223372036854775807) (hr : Rd w A (fl l)) :
    Calls Try.prog 8 #[.slice A n c] w (Yes w) := by
  have Hn := Lib.hid hn
  clear hn
  go_enter Try.func8, Try.ntmps8
  go_wp2_with fail
  (with_reducible refine (few_any l A n c Hn.out hc _ hr).mono ?_)
  rintro e w1 ⟨k, hk, hsm, rfl, hb1⟩
  have hr1 := (hr.takeF k).below hb1
  have HL := Lib.hid (show (l.take k).length = k by rw [List.length_take, Hn.out]; omega)
  obtain ⟨h1, h2⟩ := small_sz hsm
  have HSM := Lib.hid h2
  have HTOT := Lib.hid hsm
  have hk1 : k ≤ 1000 := by have := HL.out; omega
  have hkc : k ≤ c := by omega
  generalize l.take k = m at *
  clear hr hsm h1 h2
  obtain ⟨ke, hke⟩ : ∃ ke, checkF m = ke := ⟨_, rfl⟩
  obtain ⟨s, hs⟩ : ∃ s, putS m = s := ⟨_, rfl⟩
  have HK := Lib.hid hke
  have HS := Lib.hid hs
  clear hke hs
  go_wp2_with fail
  (with_reducible refine (put_any' m _ k c ke s HK.out HS.out HL.out hkc hk1 HSM.out _ hr1).mono ?_)
  rintro e w4 ⟨rfl, hb4⟩
  have hr4 := hr1.below hb4
  have hb5 := bl hb1 hb4
  clear hr1 hb1 hb4
  by_cases he : ke = 0
  · subst he
    have HSF := Lib.hid (show s.toList = putF m by rw [← HS.out]; unfold putS; rw [if_pos HK.out, toList_ofL])
    have HTK := Lib.hid (show takeFl s.toList = (0, sortF m) by rw [HSF.out]; exact take_back HK.out)
    have hsz : s.size ≤ 100000000 := by rw [← size_toList, HSF.out]; exact putF_len HK.out
    have HSL := Lib.hid (show (sortF m).length = k by rw [(sortF_law m).2.2]; exact HL.out)
    go_wp2_with fail
    (with_reducible refine (ftake_any s _ HTK.out _ hsz).mono ?_)
    rintro e w5 ⟨B, cB, rfl, q1, q2, hrB, hb6⟩
    simp only [HSL.out]
    simp only at hrB
    have hr6 := hr4.below hb6
    have hb7 := bl hb5 hb6
    clear hr4 hb5 hb6
    go_wp2_with fail
    (with_reducible refine (rsort_any m _ k c HL.out hk1 HSM.out _ hr6).mono ?_)
    rintro e w8 ⟨v, rfl, hO, hb8⟩
    obtain ⟨B8, c8, rfl, _, _, hrS⟩ := hO.slice HL.out
    have hr9 := hr6.below hb8
    have hrB9 := hrB.below hb8
    have hb9 := bl hb7 hb8
    clear hr6 hrB hb7 hb8 hO
    have HSS := Lib.hid (same_is (sortF m) (sortF m) B B8 k k cB c8 true (decide_eq_true rfl) w8 HSL.out HSL.out hk1 hrB9 hrS)
    go_wp2_with fail
    refine HSS.out.mono ?_
    rintro e w10 ⟨rfl, hb10⟩
    have hr11 := hr9.below hb10
    have hrB11 := hrB9.below hb10
    have hb11 := bl hb9 hb10
    clear hr9 hrB9 hb9 hb10 hrS
    go_wp2_with fail
    (with_reducible refine (fsame_any m (sortF m) _ B k c cB (sortF_sortF m).symm _ HL.out HSL.out hk1 hr11 hrB11).mono ?_)
    rintro e w12 ⟨rfl, hb12⟩
    go_wp2_with fail
    (with_reducible refine (awakeF_any _).mono ?_)
    rintro e w13 ⟨rfl, hb13⟩
    go_wp2_with fail
    go_ret
    exact ⟨rfl, bl (bl hb11 hb12) hb13⟩
  · have he0 : (ke == 0) = false := by simp [he]
    have hse : s.toList.isEmpty = true := by rw [← HS.out]; unfold putS; rw [if_neg (by rw [HK.out]; exact he), b0]; rfl
    clear he
    go_wp2_with fail
    (with_reducible refine (awakeF_any _).mono ?_)
    rintro e w13 ⟨rfl, hb13⟩
    go_wp2_with fail
    go_ret
    exact ⟨rfl, bl hb5 hb13⟩
end Go.Proofs.Ytbgnbkomckbckaa
