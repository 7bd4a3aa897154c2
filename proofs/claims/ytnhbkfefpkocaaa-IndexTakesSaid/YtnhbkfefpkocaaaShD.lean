/-
  sha: mix.
-/
import Derived.Test.YtnhbkfefpkocaaaShI
import Derived.Laws.CopyOwn
namespace Go.Proofs.Ytnhbkfefpkocaaa
open Go.RowKit Go.Sort

/-- Memory in mix: h, the result, v. -/
structure MxR (w wr : World) (H V : List Nat) : Prop where
  bh : Bk wr w.heap.size 125 (row8 H)
  bz : ∃ z, Bk wr (w.heap.size + 1) 125 z ∧ z.size = 8
  bv : Bk wr (w.heap.size + 1 + 1) 125 (row8 V)
  bl : Below w.heap.size w wr
theorem MxR.below {w wr w' : World} {H V : List Nat} (h : MxR w wr H V) (hb : Below wr.heap.size wr w') : MxR w w' H V :=
  ⟨h.bh.below' hb, by obtain ⟨z, h1, h2⟩ := h.bz; exact ⟨z, h1.below' hb, h2⟩, h.bv.below' hb, h.bl.trans (hb.mono h.bl.size)⟩
theorem gr_below (w : World) (n : Nat) (os : Array Obj) : Below w.heap.size w (Sort.grow (w.drewN n) os) :=
  ⟨rfl, rfl, rfl, by show w.heap.size ≤ (w.heap ++ os).size; rw [Array.size_append]; omega, fun k hk => by show (w.heap ++ os)[k]? = w.heap[k]?; exact Array.getElem?_append_left hk⟩
theorem gr_below2 (w : World) (n : Nat) (os : Array Obj) : Below w.heap.size w (Sort.grow (w.drewN n) os) := gr_below w n os
theorem turn_g {x k r : Nat} (hr : rot x k = r) (h1 : x < 4294967296) (hk : k ≤ 32) (w : World) :
    Calls Try.prog 108 #[.int .u32 x, .int .i64 (k : Nat)] w fun e w' => e = .returned (.int .u32 (r : Nat)) ∧ ∃ q os', w' = Sort.grow (w.drewN q) os' := by
  subst hr
  exact (turn_any x k w h1 hk).mono fun e w' ⟨a, m, hm⟩ => ⟨a, m, #[], by rw [hm, Sort.grow_empty]⟩

set_option maxRecDepth 20000 in
set_option maxHeartbeats 4000000 in
theorem mix_any (h0 h1 h2 h3 h4 h5 h6 h7 : Nat) (b : List UInt8) (A : Option Addr) (c : Nat) (hn : b.length = 64) (w : World) (hr : Rd w A (byteVals b)) (hH : Wd8 [h0, h1, h2, h3, h4, h5, h6, h7]) :
    Calls Try.prog 90 #[.agg #[.int .u32 (h0 : Nat), .int .u32 (h1 : Nat), .int .u32 (h2 : Nat), .int .u32 (h3 : Nat), .int .u32 (h4 : Nat), .int .u32 (h5 : Nat), .int .u32 (h6 : Nat), .int .u32 (h7 : Nat)], .slice A 64 c] w fun e w' => e = .returned (.agg (row8 (mixW [h0, h1, h2, h3, h4, h5, h6, h7] b))) ∧ Below w.heap.size w w' := by
  have mixed : Try.prog.follows Departure.mixedOrders = true := by kernel_rfl
  have HWD : Hid (∀ w', Below w.heap.size w w' → Calls Try.prog 107 #[.slice A 64 c] w' fun e w'' => e = .returned (.agg (row64 (schedW 48 (first16 b)))) ∧ Below w'.heap.size w' w'') := Lib.hid fun w' hb => by
    have := words_any b A 64 c hn (Nat.le_refl _) w' (hr.below hb)
    rw [List.take_of_length_le (by omega)] at this
    exact this
  have hS := sched_ok (W := first16 b) (first16_lt _) (by have := first16_len 16 b (by omega); rw [List.take_of_length_le (by omega)] at this; exact this) 48 (by omega)
  obtain ⟨WW, hWW⟩ : ∃ WW, schedW 48 (first16 b) = WW := ⟨_, rfl⟩
  rw [hWW] at hS HWD
  have HMX := Lib.hid (show mixW [h0, h1, h2, h3, h4, h5, h6, h7] b = List.zipWith (fun x y => (x + y) % 4294967296) [h0, h1, h2, h3, h4, h5, h6, h7] (rndsW [h0, h1, h2, h3, h4, h5, h6, h7] kTab WW) by unfold mixW; rw [hWW])
  have HSW := Lib.hid hS
  have HH := Lib.hid hH
  have HCG : Hid (∀ i, i < 64 → (row64 WW)[i]? = some (.int .u32 (WW.getD i 0 : Nat))) := Lib.hid fun i hi => row64_get WW i (by rw [hS.2]; exact hi)
  obtain ⟨C, hC⟩ : ∃ C, row64 WW = C := ⟨_, rfl⟩
  rw [hC] at HWD HCG
  have H3 : Hid (MxR w (((w.alloc (.cells (row8 [h0, h1, h2, h3, h4, h5, h6, h7]) 125)).alloc (.cells #[.int .u32 0, .int .u32 0, .int .u32 0, .int .u32 0, .int .u32 0, .int .u32 0, .int .u32 0, .int .u32 0] 125)).alloc (.cells (row8 [h0, h1, h2, h3, h4, h5, h6, h7]) 125)) [h0, h1, h2, h3, h4, h5, h6, h7] [h0, h1, h2, h3, h4, h5, h6, h7]) := Lib.hid (by
    refine ⟨((Bk.new w _ _).alloc _).alloc _, ⟨#[.int .u32 0, .int .u32 0, .int .u32 0, .int .u32 0, .int .u32 0, .int .u32 0, .int .u32 0, .int .u32 0], ?_, rfl⟩, ?_, (((Below.refl _ w).alloc (Nat.le_refl _) _).alloc (by simp) _).alloc (by simp; omega) _⟩
    · have := (Bk.new (w.alloc (.cells (row8 [h0, h1, h2, h3, h4, h5, h6, h7]) 125)) 125 #[.int .u32 0, .int .u32 0, .int .u32 0, .int .u32 0, .int .u32 0, .int .u32 0, .int .u32 0, .int .u32 0]).alloc (.cells (row8 [h0, h1, h2, h3, h4, h5, h6, h7]) 125)
      rw [World.size_alloc] at this
      exact this
    · have := Bk.new ((w.alloc (.cells (row8 [h0, h1, h2, h3, h4, h5, h6, h7]) 125)).alloc (.cells #[.int .u32 0, .int .u32 0, .int .u32 0, .int .u32 0, .int .u32 0, .int .u32 0, .int .u32 0, .int .u32 0] 125)) 125 (row8 [h0, h1, h2, h3, h4, h5, h6, h7])
      rw [World.size_alloc, World.size_alloc] at this
      exact this)
  clear hn hr hH hS hWW hC
  go_enter Try.func90, Try.ntmps90
  go_wp2_with fail
  refine (HWD.out _ H3.out.bl).mono ?_
  rintro e w4 ⟨rfl, hb4⟩
  have H4 := Lib.hid (H3.out.below hb4)
  clear hb4
  go_wp2_with fail
  go_loopw [16] (fun vi wr => ∃ (i : Nat) (V : List Nat), vi = .int .i64 i ∧ i ≤ 64 ∧ Hid (V = rndsW [h0, h1, h2, h3, h4, h5, h6, h7] (kTab.take i) (WW.take i)) ∧ Hid (MxR w wr [h0, h1, h2, h3, h4, h5, h6, h7] V)) (fun vi _ => 64 - (intOf vi).toNat)
  case atStart => exact ⟨0, _, rfl, by omega, Lib.hid (by simp [rndsW, kTab]), H4⟩
  case round =>
    clear H3 H4
    obtain ⟨i, V, rfl, hi, HV, HM⟩ := hrel
    by_cases hlt : i < 64
    · have hl1 : (i : Int) < 64 := by omega
      have hW8 : Wd8 V := by rw [HV.out]; exact rnds_ok _ _ _ HH.out
      obtain ⟨v0, v1, v2, v3, v4, v5, v6, v7, rfl⟩ := eight hW8.1
      have c0 := HM.out.bv.cell 0
      have c1 := HM.out.bv.cell 1
      have c2 := HM.out.bv.cell 2
      have c3 := HM.out.bv.cell 3
      have c4 := HM.out.bv.cell 4
      have c5 := HM.out.bv.cell 5
      have c6 := HM.out.bv.cell 6
      have c7 := HM.out.bv.cell 7
      simp only [row8, List.map_cons, List.map_nil, List.getElem?_toArray, List.getElem?_cons_succ, List.getElem?_cons_zero] at c0 c1 c2 c3 c4 c5 c6 c7
      obtain ⟨wi, hwi⟩ : ∃ x, WW.getD i 0 = x := ⟨_, rfl⟩
      obtain ⟨ki, hki⟩ : ∃ x, kTab.getD i 0 = x := ⟨_, rfl⟩
      have hci := HCG.out i hlt
      rw [hwi] at hci
      have ywi : wi < 4294967296 := by rw [← hwi]; exact sched_get HSW.out.1 (by rw [HSW.out.2]; exact hlt)
      have y0 : v0 < 4294967296 := hW8.2 _ (by simp)
      have y1 : v1 < 4294967296 := hW8.2 _ (by simp)
      have y2 : v2 < 4294967296 := hW8.2 _ (by simp)
      have y4 : v4 < 4294967296 := hW8.2 _ (by simp)
      have y5 : v5 < 4294967296 := hW8.2 _ (by simp)
      have y6 : v6 < 4294967296 := hW8.2 _ (by simp)
      have y7 : v7 < 4294967296 := hW8.2 _ (by simp)
      obtain ⟨r1, hr1⟩ : ∃ r, rot v4 6 = r := ⟨_, rfl⟩
      obtain ⟨r2, hr2⟩ : ∃ r, rot v4 11 = r := ⟨_, rfl⟩
      obtain ⟨r3, hr3⟩ : ∃ r, rot v4 25 = r := ⟨_, rfl⟩
      obtain ⟨r4, hr4⟩ : ∃ r, rot v0 2 = r := ⟨_, rfl⟩
      obtain ⟨r5, hr5⟩ : ∃ r, rot v0 13 = r := ⟨_, rfl⟩
      obtain ⟨r6, hr6⟩ : ∃ r, rot v0 22 = r := ⟨_, rfl⟩
      have T1 : Hid (∀ w', Calls Try.prog 108 #[.int .u32 v4, .int .i64 6] w' fun e w'' => e = .returned (.int .u32 (r1 : Nat)) ∧ ∃ q os', w'' = Sort.grow (w'.drewN q) os') := Lib.hid fun w' => turn_g hr1 y4 (by omega) w'
      have T2 : Hid (∀ w', Calls Try.prog 108 #[.int .u32 v4, .int .i64 11] w' fun e w'' => e = .returned (.int .u32 (r2 : Nat)) ∧ ∃ q os', w'' = Sort.grow (w'.drewN q) os') := Lib.hid fun w' => turn_g hr2 y4 (by omega) w'
      have T3 : Hid (∀ w', Calls Try.prog 108 #[.int .u32 v4, .int .i64 25] w' fun e w'' => e = .returned (.int .u32 (r3 : Nat)) ∧ ∃ q os', w'' = Sort.grow (w'.drewN q) os') := Lib.hid fun w' => turn_g hr3 y4 (by omega) w'
      have T4 : Hid (∀ w', Calls Try.prog 108 #[.int .u32 v0, .int .i64 2] w' fun e w'' => e = .returned (.int .u32 (r4 : Nat)) ∧ ∃ q os', w'' = Sort.grow (w'.drewN q) os') := Lib.hid fun w' => turn_g hr4 y0 (by omega) w'
      have T5 : Hid (∀ w', Calls Try.prog 108 #[.int .u32 v0, .int .i64 13] w' fun e w'' => e = .returned (.int .u32 (r5 : Nat)) ∧ ∃ q os', w'' = Sort.grow (w'.drewN q) os') := Lib.hid fun w' => turn_g hr5 y0 (by omega) w'
      have T6 : Hid (∀ w', Calls Try.prog 108 #[.int .u32 v0, .int .i64 22] w' fun e w'' => e = .returned (.int .u32 (r6 : Nat)) ∧ ∃ q os', w'' = Sort.grow (w'.drewN q) os') := Lib.hid fun w' => turn_g hr6 y0 (by omega) w'
      have TR : Hid (∀ w', Calls Try.prog 109 #[.int .i64 i] w' fun e w'' => e = .returned (.int .u32 (ki : Nat)) ∧ ∃ q os', w'' = Sort.grow (w'.drewN q) os') := Lib.hid fun w' => by rw [← hki]; exact round_any i w' hlt
      have HO := Lib.hid (one_facts v4 v5 v6 v7 ki wi r1 r2 r3 y4 y5 y6 hr1 hr2 hr3)
      have HT := Lib.hid (two_facts v0 v1 v2 r4 r5 r6 y0 y1 y2 hr4 hr5 hr6)
      obtain ⟨one, hone⟩ : ∃ o, oneW v4 v5 v6 v7 ki wi = o := ⟨_, rfl⟩
      obtain ⟨two, htwo⟩ : ∃ o, twoW v0 v1 v2 = o := ⟨_, rfl⟩
      have HN := Lib.hid (show rndsW [h0, h1, h2, h3, h4, h5, h6, h7] (kTab.take (i + 1)) (WW.take (i + 1)) = [(one + two) % 4294967296, v0, v1, v2, (v3 + one) % 4294967296, v4, v5, v6] by
        rw [rnds_step i [h0, h1, h2, h3, h4, h5, h6, h7] kTab WW hlt (by rw [HSW.out.2]; exact hlt), ← HV.out, hki, hwi, ← hone, ← htwo]
        rfl)
      rw [hone] at HO
      rw [htwo] at HT
      clear hr1 hr2 hr3 hr4 hr5 hr6 ywi y0 y1 y2 y4 y5 y6 y7 hki hwi hW8 hone htwo HV
      have hix : ∀ w', (Instr.index 140 (.agg C) (.int .i64 (i : Int))).run Try.prog w' = .ok (.int .u32 (wi : Nat)) w' := fun w' => run_index_agg 140 124 64 C i _ w' Try.underlying140 (by kernel_rfl) (by kernel_rfl) (by kernel_rfl) hlt hci
      go_wp2_with fail
      go_quiet (fail)
      go_wp2_with fail
      have HM2 : Hid (MxR w (wr.drewN nq) [h0, h1, h2, h3, h4, h5, h6, h7] [v0, v1, v2, v3, v4, v5, v6, v7]) := Lib.hid (HM.out.below (below_dnS (Below.refl _ _) nq))
      clear c0 c1 c2 c3 c4 c5 c6 c7 hci HM
      generalize wr.drewN nq = wa at *
      have HV8 := Lib.hid (And.intro HM2.out.bv trivial)
      have lv := HM2.out.bv.lt
      have c5 : ∀ n os, (grow (wa.drewN n) os).cell? ⟨w.heap.size + 1 + 1, 5, none⟩ = some (.int .u32 (v5 : Nat)) := fun n os => cell_grown (w := wa) (a := ⟨w.heap.size + 1 + 1, 5, none⟩) lv ((HV8.out.1.cell 5).trans rfl) n os
      have c6 : ∀ n os, (grow (wa.drewN n) os).cell? ⟨w.heap.size + 1 + 1, 6, none⟩ = some (.int .u32 (v6 : Nat)) := fun n os => cell_grown (w := wa) (a := ⟨w.heap.size + 1 + 1, 6, none⟩) lv ((HV8.out.1.cell 6).trans rfl) n os
      have c7 : ∀ n os, (grow (wa.drewN n) os).cell? ⟨w.heap.size + 1 + 1, 7, none⟩ = some (.int .u32 (v7 : Nat)) := fun n os => cell_grown (w := wa) (a := ⟨w.heap.size + 1 + 1, 7, none⟩) lv ((HV8.out.1.cell 7).trans rfl) n os
      clear lv HV8 hix
      obtain ⟨x1, x2, x3, x4, x5, x6, p1, p2, p3, q1, q2, q3, q4, q5, q6, q7, q8, q9, q10⟩ := HO.out
      clear HO
      refine wp_region_quiet_grown mixed (by kernel_rfl) ?_
      repeat (quiet_step ((first | (go_at_call 108; first | (with_reducible refine Calls.grown_of (T1.out _)) | (with_reducible refine Calls.grown_of (T2.out _)) | (with_reducible refine Calls.grown_of (T3.out _))) | (go_at_call 109; with_reducible refine Calls.grown_of (TR.out _)))))
      refine wpQuiet_nil ?_
      intro _ hw'
      obtain ⟨⟨nq, osq⟩, hw'⟩ := hw'
      subst hw'
      go_wp2_with fail
      have HM3 : Hid (MxR w (grow (wa.drewN nq) osq) [h0, h1, h2, h3, h4, h5, h6, h7] [v0, v1, v2, v3, v4, v5, v6, v7]) := Lib.hid (HM2.out.below (gr_below2 wa nq osq))
      clear c5 c6 c7 HM2 q1 q2 q3 q4 q5 q6 q7 q8 q9 q10 T1 T2 T3 TR
      generalize grow (wa.drewN nq) osq = wb at *
      have HV8 := Lib.hid (And.intro HM3.out.bv trivial)
      have lv := HM3.out.bv.lt
      have c1 : ∀ n os, (grow (wb.drewN n) os).cell? ⟨w.heap.size + 1 + 1, 1, none⟩ = some (.int .u32 (v1 : Nat)) := fun n os => cell_grown (w := wb) (a := ⟨w.heap.size + 1 + 1, 1, none⟩) lv ((HV8.out.1.cell 1).trans rfl) n os
      have c2 : ∀ n os, (grow (wb.drewN n) os).cell? ⟨w.heap.size + 1 + 1, 2, none⟩ = some (.int .u32 (v2 : Nat)) := fun n os => cell_grown (w := wb) (a := ⟨w.heap.size + 1 + 1, 2, none⟩) lv ((HV8.out.1.cell 2).trans rfl) n os
      clear lv HV8 nq osq
      obtain ⟨z1, z2, z3, z4, z5, z6, z7, q1, q2, q3, q4, q5, q6, q7, q8⟩ := HT.out
      clear HT
      refine wp_region_quiet_grown mixed (by kernel_rfl) ?_
      repeat (quiet_step ((go_at_call 108; first | (with_reducible refine Calls.grown_of (T4.out _)) | (with_reducible refine Calls.grown_of (T5.out _)) | (with_reducible refine Calls.grown_of (T6.out _)))))
      refine wpQuiet_nil ?_
      intro _ hw'
      obtain ⟨⟨nq, osq⟩, hw'⟩ := hw'
      subst hw'
      go_wp2_with fail
      have HM4 : Hid (MxR w (grow (wb.drewN nq) osq) [h0, h1, h2, h3, h4, h5, h6, h7] [v0, v1, v2, v3, v4, v5, v6, v7]) := Lib.hid (HM3.out.below (gr_below2 wb nq osq))
      clear c1 c2 HM3 q1 q2 q3 q4 q5 q6 q7 q8 T4 T5 T6
      generalize grow (wb.drewN nq) osq = wc at *
      clear nq osq
      have hg : wc.heap[w.heap.size + 1 + 1]? = some (.cells ([.int .u32 (v0 : Nat), .int .u32 (v1 : Nat), .int .u32 (v2 : Nat), .int .u32 (v3 : Nat), .int .u32 (v4 : Nat), .int .u32 (v5 : Nat), .int .u32 (v6 : Nat), .int .u32 (v7 : Nat)] : List Value).toArray 125 (0, 0)) := HM4.out.bv
      have hsrc : ∀ j v, ([.int .u32 (v0 : Nat), .int .u32 (v1 : Nat), .int .u32 (v2 : Nat), .int .u32 (v3 : Nat), .int .u32 (v4 : Nat), .int .u32 (v5 : Nat), .int .u32 (v6 : Nat)] : List Value)[j]? = some v → wc.cell? ((⟨w.heap.size + 1 + 1, 0, none⟩ : Addr).add j) = some v := by
        intro j v hv
        have hj : j < 7 := (List.getElem?_eq_some_iff.1 hv).1
        have h7 : j = 0 ∨ j = 1 ∨ j = 2 ∨ j = 3 ∨ j = 4 ∨ j = 5 ∨ j = 6 := by omega
        rcases h7 with rfl | rfl | rfl | rfl | rfl | rfl | rfl
        · exact (HM4.out.bv.cell 0).trans hv
        · exact (HM4.out.bv.cell 1).trans hv
        · exact (HM4.out.bv.cell 2).trans hv
        · exact (HM4.out.bv.cell 3).trans hv
        · exact (HM4.out.bv.cell 4).trans hv
        · exact (HM4.out.bv.cell 5).trans hv
        · exact (HM4.out.bv.cell 6).trans hv
      have HSG := Lib.hid (And.intro hg hsrc)
      clear hg hsrc
      go_region_law (refine step_copy_splice rfl (.tmp 75) (.tmp 76) 144 144 rfl 124 rfl rfl (some ⟨w.heap.size + 1 + 1, 1, none⟩) (some ⟨w.heap.size + 1 + 1, 0, none⟩) 7 7 7 8 rfl rfl (w.heap.size + 1 + 1) 1 [.int .u32 (v0 : Nat), .int .u32 (v1 : Nat), .int .u32 (v2 : Nat), .int .u32 (v3 : Nat), .int .u32 (v4 : Nat), .int .u32 (v5 : Nat), .int .u32 (v6 : Nat), .int .u32 (v7 : Nat)] 125 HSG.out.1 [.int .u32 (v0 : Nat), .int .u32 (v1 : Nat), .int .u32 (v2 : Nat), .int .u32 (v3 : Nat), .int .u32 (v4 : Nat), .int .u32 (v5 : Nat), .int .u32 (v6 : Nat)] rfl (fun _ => ⟨rfl, ⟨w.heap.size + 1 + 1, 0, none⟩, rfl, HSG.out.2⟩) (by simp) (by intro v hv; simp only [List.mem_cons, List.not_mem_nil, or_false] at hv; rcases hv with rfl | rfl | rfl | rfl | rfl | rfl | rfl <;> rfl) (w.heap.size + 1 + 1) wc ⟨rfl, rfl, rfl, Nat.le_refl _, fun _ _ => rfl⟩ (Nat.le_refl _) ?_; intro w5 hg5 hb5)
      all_goals
        have hB5 : Bk w5 (w.heap.size + 1 + 1) 125 (row8 [v0, v0, v1, v2, v3, v4, v5, v6]) := hg5.out
        have HS := Lib.hid (And.intro HM4.out.bh (And.intro HM4.out.bz (And.intro HM4.out.bl hb5)))
        have c0 : w5.cell? ⟨w.heap.size + 1 + 1, 0, none⟩ = some (.int .u32 (v0 : Nat)) := (hB5.cell 0).trans rfl
        have c4 : w5.cell? ⟨w.heap.size + 1 + 1, 4, none⟩ = some (.int .u32 (v3 : Nat)) := (hB5.cell 4).trans rfl
        have f0 := hB5.frozen 0
        have f4 := hB5.frozen 4
        have HB5 := Lib.hid hB5
        clear hg5 hb5 hB5 HSG HM4
        go_wp2_with fail
        have hB6 := (HB5.out.set_ 4 (.int .u32 ((v3 + one) % 4294967296 : Nat))).set_ 0 (.int .u32 ((one + two) % 4294967296 : Nat))
        rw [show (((v3 : Int) + one) % 4294967296) = (((v3 + one) % 4294967296 : Nat) : Int) by omega, show (((one : Int) + two) % 4294967296) = (((one + two) % 4294967296 : Nat) : Int) by omega]
        go_round
        case rel =>
          refine ⟨i + 1, _, by first | rfl | go_num, by omega, Lib.hid HN.out.symm, Lib.hid ⟨?_, ?_, ?_, ?_⟩⟩
          · exact (((HS.out.1.below HS.out.2.2.2 (by omega)).far (by simp; omega) _).far (by simp; omega) _)
          · obtain ⟨z, h1, h2⟩ := HS.out.2.1
            exact ⟨z, (((h1.below HS.out.2.2.2 (by omega)).far (by simp) _).far (by simp) _), h2⟩
          · exact hB6
          · exact ((HS.out.2.2.1.trans (HS.out.2.2.2.mono (by omega))).setCell (p := ⟨w.heap.size + 1 + 1, 4, none⟩) (by simp; omega) _).setCell (p := ⟨w.heap.size + 1 + 1, 0, none⟩) (by simp; omega) _
        case measure => simp [intOf]; omega
    · obtain rfl : i = 64 := by omega
      have hVL : V.length = 8 := by rw [HV.out]; exact (rnds_ok _ _ _ HH.out).1
      have HV2 : Hid (V = rndsW [h0, h1, h2, h3, h4, h5, h6, h7] kTab WW) := Lib.hid (by
        rw [HV.out, List.take_of_length_le (by decide), List.take_of_length_le (by rw [HSW.out.2]; omega)])
      obtain ⟨H, hH⟩ : ∃ H, [h0, h1, h2, h3, h4, h5, h6, h7] = H := ⟨_, rfl⟩
      have hHL : H.length = 8 := by rw [← hH]; rfl
      rw [hH] at HM HV2 HMX
      have HLN := Lib.hid (And.intro hVL hHL)
      have HHE := Lib.hid hH
      clear hVL hHL hH
      go_wp2_with fail
      go_loopw [88] (fun vi wr2 => ∃ k : Nat, vi = .int .i64 (k : Nat) ∧ k ≤ 8 ∧ Hid (MxR w wr2 (addT H V k) V)) (fun vi _ => 8 - (intOf vi).toNat)
      case atStart => exact ⟨0, rfl, by omega, Lib.hid (by rw [addT_zero]; exact HM.out)⟩
      case round =>
        clear HM HV
        obtain ⟨k, rfl, hk, HM⟩ := hrel
        by_cases hlt : (k : Int) < 8
        · have hkn : k < 8 := by omega
          have hs := addT_get H V k (by rw [HLN.out.2]; exact hkn) (by rw [HLN.out.1]; exact hkn)
          have hln := addT_len H V k 8 HLN.out.2 HLN.out.1
          obtain ⟨x, hx⟩ : ∃ x, H.getD k 0 = x := ⟨_, rfl⟩
          obtain ⟨y, hy⟩ : ∃ y, V.getD k 0 = y := ⟨_, rfl⟩
          rw [hx, hy] at hs
          have ch := (HM.out.bh.cell k).trans (row8_get _ k (by rw [hln]; exact hkn))
          rw [hs.1] at ch
          have cv := (HM.out.bv.cell k).trans (row8_get V k (by rw [HLN.out.1]; exact hkn))
          rw [hy] at cv
          have fh := HM.out.bh.frozen k
          have HST := Lib.hid hs.2
          clear hs hx hy hln
          go_wp2_with fail
          go_big_region_o
          all_goals go_wp2_with fail
          have hB2 := HM.out.bh.set_ k (.int .u32 ((x + y) % 4294967296 : Nat))
          rw [row8_set, HST.out] at hB2
          rw [show (((x : Int) + y) % 4294967296) = (((x + y) % 4294967296 : Nat) : Int) by omega]
          go_round
          case rel =>
            refine ⟨k + 1, by first | rfl | go_num, by omega, Lib.hid ⟨hB2, ?_, ?_, ?_⟩⟩
            · obtain ⟨z, h1, h2⟩ := HM.out.bz
              exact ⟨z, h1.far (by simp) _, h2⟩
            · exact HM.out.bv.far (by simp; omega) _
            · exact (HM.out.bl.setCell (p := ⟨w.heap.size, k, none⟩) (by simp) _).drew
          case measure => simp [intOf]; omega
        · obtain rfl : k = 8 := by omega
          have HRW : Hid (mixW H b = addT H V 8) := Lib.hid (by rw [HMX.out, addT_all H V 8 HLN.out.2 HLN.out.1, HV2.out])
          obtain ⟨z, hz1, hz2⟩ := HM.out.bz
          have hB := HM.out.bh
          have hbl := HM.out.bl
          have hsz : (row8 (addT H V 8)).size = 8 := by rw [row8_size, addT_len H V 8 8 HLN.out.2 HLN.out.1]
          have hon := row8_one (addT H V 8)
          obtain ⟨C, hC⟩ : ∃ C, row8 (addT H V 8) = C := ⟨_, rfl⟩
          rw [hC] at hB hsz hon
          have HCE := Lib.hid hC
          have hi : (Try.prog.info? 125).map (·.size) = some C.size := by rw [hsz]; kernel_rfl
          have HI := Lib.hid hi
          have HZ2 := Lib.hid (show z.size = C.size by rw [hz2, hsz])
          have HON := Lib.hid hon
          have HZ1 := Lib.hid hz1
          have HB1 := Lib.hid hB
          have HBL := Lib.hid hbl
          have HRES := Lib.hid (setRow_heap wr (w.heap.size + 1) z C 125 (0, 0) hz1)
          clear hi hz2 hsz hon hz1 hB hC hbl
          have hg1 : wr.heap[w.heap.size]? = some (.cells C 125 (0, 0)) := HB1.out
          have hg2 : wr.heap[w.heap.size + 1]? = some (.cells z 125 (0, 0)) := HZ1.out
          go_wp2_with (first | (refine wpList_load_row rfl 125 _ rfl (w.heap.size) rfl 125 _ (0, 0) _ hg1 Try.underlying125 rfl HI.out ?_) | (refine wpList_store_row rfl 125 _ _ rfl (w.heap.size + 1) C rfl rfl 125 z hg2 HI.out HZ2.out HON.out ?_))
          rw [show mixW [h0, h1, h2, h3, h4, h5, h6, h7] b = mixW H b by rw [HHE.out], HRW.out, HCE.out]
          refine bodyPost_ret (results_cell_row Try.results90 _ _ (w.heap.size + 1) 125 C (0, 0) _ rfl HRES.out Try.underlying125 rfl HI.out) rfl ⟨rfl, ?_⟩
          exact below_setRow HBL.out (by omega) C
end Go.Proofs.Ytnhbkfefpkocaaa
