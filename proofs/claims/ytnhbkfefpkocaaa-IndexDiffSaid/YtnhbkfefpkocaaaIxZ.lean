/-
  The walk of IndexDiff.
-/
import Derived.Test.YtnhbkfefpkocaaaIxY
import Derived.Test.YtnhbkfefpkocaaaIxQ
namespace Go.Proofs.Ytnhbkfefpkocaaa
open Go.RowKit Go.Sort

theorem good_full {L : List It} (h : ∀ y ∈ L, GoodI y) : Full L := fun x hx => ⟨(h x hx).2.2.2.2.2.2, fun e => by
  have h1 := (h x hx).1
  rw [okP_bad (fun h => h.1 (by rw [e]; exact toList_nil))] at h1
  cases h1⟩
theorem bytesLess_true : ∀ {a b : List UInt8}, a < b → Op.bytesLess a b = true
  | [], [], h => absurd h (List.lt_irrefl _)
  | _ :: _, [], h => absurd h (List.not_lt_nil _)
  | [], _ :: _, _ => by simp [Op.bytesLess]
  | x :: a, y :: b, h => by
    rw [Op.bytesLess]
    rcases List.cons_lt_cons_iff.1 h with h2 | ⟨rfl, h2⟩
    · simp [h2]
    · have := bytesLess_true h2
      simp [this]
theorem cnt_succ {α β : Type} (f : α → Option β) (L : List α) (i : Nat) (x : α) (h : L[i]? = some x) : ((L.take (i + 1)).filterMap f).length = ((L.take i).filterMap f).length + (if (f x).isSome then 1 else 0) := by
  rw [List.take_add_one, h, List.filterMap_append, List.length_append]
  cases hf : f x <;> simp [hf]
theorem cnt_le {α β : Type} (f : α → Option β) (L : List α) (i : Nat) : ((L.take i).filterMap f).length ≤ i := Nat.le_trans (List.length_filterMap_le _ _) (by rw [List.length_take]; omega)
theorem below_dn (w : World) (k : Nat) : Below w.heap.size w (w.drewN k) := below_dnS (Below.refl _ _) k

set_option maxRecDepth 20000 in
set_option maxHeartbeats 8000000 in
theorem indexDiff_walk (A0 : Option Addr) (n0 c0 : Nat) (P0 : List Pt) (A1 : Option Addr) (n1 c1 : Nat) (P1 : List Pt) (w : World) (hn : P0.length = n0) (hnb : n0 ≤ 9223372036854775807) (hr : Rd w A0 (pf P0)) (hok : ∀ x ∈ P0, PtOk w x)
    (hn1 : P1.length = n1) (hnb1 : n1 ≤ 9223372036854775807) (hr1 : Rd w A1 (pf P1)) (hok1 : ∀ x ∈ P1, PtOk w x) :
    Calls Try.prog 5 #[.slice A0 n0 c0, .slice A1 n1 c1] w fun e w' => e = .returned (.bool true) ∧ Below w.heap.size w w' := by
  have mixed : Try.prog.follows Departure.mixedOrders = true := by kernel_rfl
  have HOF := Lib.hid (of_any P0 A0 n0 c0 hn hnb w hr hok)
  have HP1 := Lib.hid (fun (w' : World) (hb : Below w.heap.size w w') => of_any P1 A1 n1 c1 hn1 hnb1 w' (hr1.below hb) (fun x hx => (hok1 x hx).below hb))
  clear hn hr hok hn1 hr1 hok1
  go_enter Try.func5, Try.ntmps5
  go_wp2_with fail
  refine HOF.out.mono ?_
  rintro e w2 ⟨L, A, B, c, d, rfl, hc, hcm, hd, hdm, hrA, hrB, hfA, hfB, hG, hb2⟩
  clear HOF
  have hn480 := hG.2.2
  obtain ⟨n, hn⟩ : ∃ n, L.length = n := ⟨_, rfl⟩
  rw [hn] at hc hd hn480 ⊢
  obtain ⟨w3, hw3⟩ : ∃ w3, w2.alloc (.cells #[.slice A n c] 25) = w3 := ⟨_, rfl⟩
  have hb3 : Below w2.heap.size w2 w3 := by rw [← hw3]; exact (Below.refl _ _).alloc (Nat.le_refl _) _
  have hk3 : Bk w3 w2.heap.size 25 #[.slice A n c] := by rw [← hw3]; exact Bk.new _ _ _
  have HA := Lib.hid (And.intro hn (And.intro hG.1 (good_full hG.2.1)))
  have H3 := Lib.hid (And.intro (bl hb2 hb3) (And.intro (hrA.below hb3) (And.intro (hrB.below hb3) hk3)))
  have HW3 := Lib.hid hw3
  clear hn hrA hrB hfA hfB hG hb2 hb3 hk3 hw3
  go_wp2_with fail
  rw [HW3.out]
  clear HW3
  refine (HP1.out w3 H3.out.1).mono ?_
  rintro e w4 ⟨M, A', B', c', d', rfl, hc', hcm', hd', hdm', hrA', hrB', hfA', hfB', hG', hb4⟩
  clear HP1
  have hm480 := hG'.2.2
  obtain ⟨m, hm⟩ : ∃ m, M.length = m := ⟨_, rfl⟩
  rw [hm] at hc' hd' hm480 ⊢
  obtain ⟨w5, hw5⟩ : ∃ w5, w4.alloc (.cells #[.slice A' m c'] 25) = w5 := ⟨_, rfl⟩
  have hb5 : Below w4.heap.size w4 w5 := by rw [← hw5]; exact (Below.refl _ _).alloc (Nat.le_refl _) _
  have hk5 : Bk w5 w4.heap.size 25 #[.slice A' m c'] := by rw [← hw5]; exact Bk.new _ _ _
  have hb35 := bl hb4 hb5
  have hk3' := H3.out.2.2.2.below' hb35
  have x5 := hk3'.cell_ 0 (.slice A n c) rfl
  have y5 := hk5.cell_ 0 (.slice A' m c') rfl
  obtain ⟨D, hD⟩ : ∃ D, diffI L M = D := ⟨_, rfl⟩
  have hperm := diffI_perm L M HA.out.2.1 hG'.1 HA.out.2.2 (good_full hG'.2.1)
  have hsrt := diffI_srt L M HA.out.2.1 hG'.1 HA.out.2.2
  rw [hD] at hperm hsrt
  have hDl : D.length ≤ n + m := by rw [← hD, ← HA.out.1, ← hm]; exact diffI_len_le L M
  have HM := Lib.hid (And.intro hm (And.intro hD (And.intro hperm hsrt)))
  have H5 := Lib.hid (And.intro (bl H3.out.1 hb35) (And.intro (H3.out.2.1.below hb35) (And.intro (H3.out.2.2.1.below hb35) (And.intro hk3' (And.intro (hrA'.below hb5) (hrB'.below hb5))))))
  have HW5 := Lib.hid hw5
  clear hm hrA' hrB' hfA' hfB' hG' hb4 hb5 hk5 hw5 hb35 hk3' hD hperm hsrt H3
  go_upto_region 5 with (fail)
  rw [HW5.out]
  clear HW5
  go_wp2_with fail
  refine (xdiff_any L M A A' n c m c' HA.out.1 HM.out.1 (by omega) (by omega) hc hcm hc' hcm' D HM.out.2.1 w5 H5.out.2.1 H5.out.2.2.2.2.1).mono ?_
  rintro e w6 ⟨DA, dc, rfl, hdc, hdcm, hrD, hb6⟩
  obtain ⟨nd, hnd⟩ : ∃ nd, D.length = nd := ⟨_, rfl⟩
  rw [hnd] at hdc hDl ⊢
  have hk6 := H5.out.2.2.2.1.below' hb6
  have H6 := Lib.hid (And.intro (bl H5.out.1 hb6) (And.intro (H5.out.2.1.below hb6) (And.intro (H5.out.2.2.1.below hb6) (And.intro hk6 (And.intro (H5.out.2.2.2.2.2.below hb6) (And.intro hrD hnd))))))
  clear hrD hb6 hk6 hnd x5 y5 H5
  go_wp2_with fail
  go_loopw [12, 13] (fun vn vi wr => ∃ i k : Nat, vn = .int .i64 (k : Nat) ∧ vi = .int .i64 (i : Nat) ∧ i ≤ n ∧ k ≤ i ∧ Hid (((L.take i).filterMap (wantA M)).length = k ∧ True) ∧ Hid (Below w6.heap.size w6 wr)) (fun _ vi _ => n - iOfI vi)
  case atStart => exact ⟨0, 0, rfl, rfl, by omega, by omega, Lib.hid ⟨by simp, trivial⟩, Lib.hid (Below.refl _ _)⟩
  case round =>
    obtain ⟨i, k, rfl, rfl, hi, hki, HC, HB⟩ := hrel
    by_cases hin : i < n
    · have hin1 : (i : Int) < (n : Int) := by omega
      obtain ⟨x, hx⟩ : ∃ x, L[i]? = some x := ⟨_, List.getElem?_eq_getElem (by rw [HA.out.1]; exact hin)⟩
      obtain ⟨g, o, rfl, hbl, q0, q1, q2, q3⟩ := (H6.out.2.2.1.below HB.out).item hx
      have HX := Lib.hid hx
      clear hx
      go_wp2_with fail
      refine (rfind_any M B' m d' HM.out.1 (by omega) x.p wr (H6.out.2.2.2.2.1.below HB.out)).mono ?_
      rintro e w8 ⟨kf, rfl, hk, hb8⟩
      have hwf := want_find hk
      have HB8 := Lib.hid (HB.out.trans (hb8.mono HB.out.size))
      have r0 : ∀ k, (w8.drewN k).cell? _ = some _ := fun _ => (hb8.cell (World.block_lt_of_cell? wr _ q0)).trans q0
      have r1 : ∀ k, (w8.drewN k).cell? _ = some _ := fun _ => (hb8.cell (World.block_lt_of_cell? wr _ q1)).trans q1
      have r2 : ∀ k, (w8.drewN k).cell? _ = some _ := fun _ => (hb8.cell (World.block_lt_of_cell? wr _ q2)).trans q2
      have r3 : ∀ k, (w8.drewN k).cell? _ = some _ := fun _ => (hb8.cell (World.block_lt_of_cell? wr _ q3)).trans q3
      clear hk hb8 q0 q1 q2 q3 hbl
      rcases hwf with ⟨rfl, hw⟩ | ⟨j, y, rfl, hy, hw⟩
      · have HW := Lib.hid hw
        clear hw
        go_wp2_with fail
        go_quiet (fail)
        have HB9 := Lib.hid (HB8.out.trans ((below_dn w8 nq).mono HB8.out.size))
        have p0 := r0 nq
        have p1 := r1 nq
        have p2 := r2 nq
        have p3 := r3 nq
        clear r0 r1 r2 r3
        generalize w8.drewN nq = w9 at *
        obtain ⟨w10, hw10⟩ : ∃ w10, w9.alloc (.cells #[.string x.p, .int .i64 x.id, .int .i64 x.sz, .string x.sm, .string ⟨#[]⟩, .int .i64 0, .int .i64 0, .string ⟨#[]⟩] 48) = w10 := ⟨_, rfl⟩
        have hb10 : Below w9.heap.size w9 w10 := by rw [← hw10]; exact (Below.refl _ _).alloc (Nat.le_refl _) _
        have hk10 : Bk w10 w9.heap.size 48 (ch8 (x, default)).toArray := by rw [← hw10]; exact Bk.new _ _ _
        have HW10 := Lib.hid hw10
        clear hw10
        go_upto_region 13 with (fail)
        rw [HW10.out]
        clear HW10 p0 p1 p2 p3
        have HBZ := Lib.hid (HB9.out.trans (hb10.mono HB9.out.size))
        clear hb10
        have c0x := hk10.cell_ 0 (.string x.p) rfl
        have c1x := hk10.cell_ 1 (.int .i64 x.id) rfl
        have c2x := hk10.cell_ 2 (.int .i64 x.sz) rfl
        have c3x := hk10.cell_ 3 (.string x.sm) rfl
        have c4x := hk10.cell_ 4 (.string ⟨#[]⟩) rfl
        have c5x := hk10.cell_ 5 (.int .i64 0) rfl
        have c6x := hk10.cell_ 6 (.int .i64 0) rfl
        have c7x := hk10.cell_ 7 (.string ⟨#[]⟩) rfl
        have hin2 : (x, default) ∈ D := HM.out.2.2.1.mem_iff.2 (List.mem_append.2 (.inl (List.mem_filterMap.2 ⟨x, List.mem_of_getElem? HX.out, HW.out⟩)))
        have HAM := Lib.hid (among_any D DA nd dc H6.out.2.2.2.2.2.2 (by omega) x default hin2 w10 (H6.out.2.2.2.2.2.1.below HBZ.out))
        have hcc := cnt_succ (wantA M) L i x HX.out
        rw [HC.out.1, HW.out] at hcc
        have HCC := Lib.hid (And.intro hcc trivial)
        clear hin2 hcc hk10
        go_wp2_with (go_at_call 20; refine HAM.out.mono ?_; rintro e w12 ⟨rfl, hb12⟩; have HB12 := Lib.hid (HBZ.out.trans (hb12.mono HBZ.out.size)))
        go_round
        case rel => exact ⟨i + 1, k + 1, by first | rfl | go_num, by first | rfl | go_num, by omega, by omega, Lib.hid ⟨HCC.out.1, trivial⟩, HB12⟩
        case measure => simp [iOfI]; omega
      · obtain ⟨g2, o2, rfl, hbl2, q0, q1, q2, q3⟩ := (H6.out.2.2.2.2.1.below HB8.out).item hy
        have s0 : ∀ k, (w8.drewN k).cell? _ = some _ := fun _ => q0
        have s1 : ∀ k, (w8.drewN k).cell? _ = some _ := fun _ => q1
        have s2 : ∀ k, (w8.drewN k).cell? _ = some _ := fun _ => q2
        have s3 : ∀ k, (w8.drewN k).cell? _ = some _ := fun _ => q3
        have hjm : (j : Int) < (m : Int) := by have := (List.getElem?_eq_some_iff.1 hy).1; rw [HM.out.1] at this; omega
        have HY := Lib.hid hy
        clear hy q0 q1 q2 q3 hbl2
        by_cases hsm : x.sm = y.sm
        · have e0 : (x.sm.toList == y.sm.toList) = true := by rw [hsm]; simp
          by_cases hsz : x.sz = y.sz
          · have e1 : (x.sz == y.sz) = true := by rw [hsz]; simp
            rw [if_pos ⟨hsm, hsz⟩] at hw
            have HW := Lib.hid hw
            have hcc := cnt_succ (wantA M) L i x HX.out
            rw [HC.out.1, HW.out] at hcc
            have HCC := Lib.hid (And.intro hcc trivial)
            clear hw hsm hsz hcc
            go_wp2_with fail
            go_quiet (fail)
            have HB9 := Lib.hid (HB8.out.trans ((below_dn w8 nq).mono HB8.out.size))
            go_wp2_with fail
            go_round
            case rel => exact ⟨i + 1, k, by first | rfl | go_num, by first | rfl | go_num, by omega, by omega, Lib.hid ⟨HCC.out.1, trivial⟩, HB9⟩
            case measure => simp [iOfI]; omega
          · have e1 : (x.sz == y.sz) = false := beq_eq_false_iff_ne.2 hsz
            rw [if_neg (fun h => hsz h.2)] at hw
            have HW := Lib.hid hw
            clear hw hsm hsz
            go_wp2_with fail
            go_quiet (fail)
            have HB9 := Lib.hid (HB8.out.trans ((below_dn w8 nq).mono HB8.out.size))
            have p0 := r0 nq
            have p1 := r1 nq
            have p2 := r2 nq
            have p3 := r3 nq
            have t0 := s0 nq
            have t1 := s1 nq
            have t2 := s2 nq
            have t3 := s3 nq
            clear r0 r1 r2 r3 s0 s1 s2 s3
            generalize w8.drewN nq = w9 at *
            obtain ⟨w10, hw10⟩ : ∃ w10, w9.alloc (.cells #[.string x.p, .int .i64 x.id, .int .i64 x.sz, .string x.sm, .string ⟨#[]⟩, .int .i64 0, .int .i64 0, .string ⟨#[]⟩] 48) = w10 := ⟨_, rfl⟩
            have hb10 : Below w9.heap.size w9 w10 := by rw [← hw10]; exact (Below.refl _ _).alloc (Nat.le_refl _) _
            have hk10 : Bk w10 w9.heap.size 48 (ch8 (x, default)).toArray := by rw [← hw10]; exact Bk.new _ _ _
            have HW10 := Lib.hid hw10
            clear hw10
            go_upto_region 13 with (fail)
            rw [HW10.out]
            clear HW10 p0 p1 p2 p3
            have q0 := (hb10.cell (World.block_lt_of_cell? w9 _ t0)).trans t0
            have q1 := (hb10.cell (World.block_lt_of_cell? w9 _ t1)).trans t1
            have q2 := (hb10.cell (World.block_lt_of_cell? w9 _ t2)).trans t2
            have q3 := (hb10.cell (World.block_lt_of_cell? w9 _ t3)).trans t3
            have z0 := hk10.cell_ 4 (.string ⟨#[]⟩) rfl
            have z1 := hk10.cell_ 5 (.int .i64 0) rfl
            have z2 := hk10.cell_ 6 (.int .i64 0) rfl
            have z3 := hk10.cell_ 7 (.string ⟨#[]⟩) rfl
            have f0 := hk10.frozen 4
            have f1 := hk10.frozen 5
            have f2 := hk10.frozen 6
            have f3 := hk10.frozen 7
            obtain ⟨w11, hw11⟩ : ∃ w11, (((w10.setCell ⟨w9.heap.size, 4, none⟩ (.string y.p)).setCell ⟨w9.heap.size, 5, none⟩ (.int .i64 y.id)).setCell ⟨w9.heap.size, 6, none⟩ (.int .i64 y.sz)).setCell ⟨w9.heap.size, 7, none⟩ (.string y.sm) = w11 := ⟨_, rfl⟩
            have hk11 : Bk w11 w9.heap.size 48 (ch8 (x, y)).toArray := by rw [← hw11]; exact hk10.fourB y
            have hb11 : Below w9.heap.size w9 w11 := by rw [← hw11]; exact ke8 hb10 _ (Nat.le_refl _) _ _ _ _
            have HBZ := Lib.hid (HB9.out.trans (hb11.mono HB9.out.size))
            have HW11 := Lib.hid hw11
            clear hw11 t0 t1 t2 t3 hb11 hb10
            go_upto_region 15 with (fail)
            rw [HW11.out]
            clear HW11 q0 q1 q2 q3 z0 z1 z2 z3 f0 f1 f2 f3
            have c0x := hk11.cell_ 0 (.string x.p) rfl
            have c1x := hk11.cell_ 1 (.int .i64 x.id) rfl
            have c2x := hk11.cell_ 2 (.int .i64 x.sz) rfl
            have c3x := hk11.cell_ 3 (.string x.sm) rfl
            have c4x := hk11.cell_ 4 (.string y.p) rfl
            have c5x := hk11.cell_ 5 (.int .i64 y.id) rfl
            have c6x := hk11.cell_ 6 (.int .i64 y.sz) rfl
            have c7x := hk11.cell_ 7 (.string y.sm) rfl
            have hin2 : (x, y) ∈ D := HM.out.2.2.1.mem_iff.2 (List.mem_append.2 (.inl (List.mem_filterMap.2 ⟨x, List.mem_of_getElem? HX.out, HW.out⟩)))
            have HAM := Lib.hid (among_any D DA nd dc H6.out.2.2.2.2.2.2 (by omega) x y hin2 w11 (H6.out.2.2.2.2.2.1.below HBZ.out))
            have hcc := cnt_succ (wantA M) L i x HX.out
            rw [HC.out.1, HW.out] at hcc
            have HCC := Lib.hid (And.intro hcc trivial)
            clear hin2 hcc hk10 hk11
            go_wp2_with (go_at_call 20; refine HAM.out.mono ?_; rintro e w12 ⟨rfl, hb12⟩; have HB12 := Lib.hid (HBZ.out.trans (hb12.mono HBZ.out.size)))
            go_round
            case rel => exact ⟨i + 1, k + 1, by first | rfl | go_num, by first | rfl | go_num, by omega, by omega, Lib.hid ⟨HCC.out.1, trivial⟩, HB12⟩
            case measure => simp [iOfI]; omega
        · have e0 : (x.sm.toList == y.sm.toList) = false := by rw [beq_strI]; exact decide_eq_false hsm
          rw [if_neg (fun h => hsm h.1)] at hw
          have HW := Lib.hid hw
          clear hw hsm
          go_wp2_with fail
          go_quiet (fail)
          have HB9 := Lib.hid (HB8.out.trans ((below_dn w8 nq).mono HB8.out.size))
          have p0 := r0 nq
          have p1 := r1 nq
          have p2 := r2 nq
          have p3 := r3 nq
          have t0 := s0 nq
          have t1 := s1 nq
          have t2 := s2 nq
          have t3 := s3 nq
          clear r0 r1 r2 r3 s0 s1 s2 s3
          generalize w8.drewN nq = w9 at *
          obtain ⟨w10, hw10⟩ : ∃ w10, w9.alloc (.cells #[.string x.p, .int .i64 x.id, .int .i64 x.sz, .string x.sm, .string ⟨#[]⟩, .int .i64 0, .int .i64 0, .string ⟨#[]⟩] 48) = w10 := ⟨_, rfl⟩
          have hb10 : Below w9.heap.size w9 w10 := by rw [← hw10]; exact (Below.refl _ _).alloc (Nat.le_refl _) _
          have hk10 : Bk w10 w9.heap.size 48 (ch8 (x, default)).toArray := by rw [← hw10]; exact Bk.new _ _ _
          have HW10 := Lib.hid hw10
          clear hw10
          go_upto_region 13 with (fail)
          rw [HW10.out]
          clear HW10 p0 p1 p2 p3
          have q0 := (hb10.cell (World.block_lt_of_cell? w9 _ t0)).trans t0
          have q1 := (hb10.cell (World.block_lt_of_cell? w9 _ t1)).trans t1
          have q2 := (hb10.cell (World.block_lt_of_cell? w9 _ t2)).trans t2
          have q3 := (hb10.cell (World.block_lt_of_cell? w9 _ t3)).trans t3
          have z0 := hk10.cell_ 4 (.string ⟨#[]⟩) rfl
          have z1 := hk10.cell_ 5 (.int .i64 0) rfl
          have z2 := hk10.cell_ 6 (.int .i64 0) rfl
          have z3 := hk10.cell_ 7 (.string ⟨#[]⟩) rfl
          have f0 := hk10.frozen 4
          have f1 := hk10.frozen 5
          have f2 := hk10.frozen 6
          have f3 := hk10.frozen 7
          obtain ⟨w11, hw11⟩ : ∃ w11, (((w10.setCell ⟨w9.heap.size, 4, none⟩ (.string y.p)).setCell ⟨w9.heap.size, 5, none⟩ (.int .i64 y.id)).setCell ⟨w9.heap.size, 6, none⟩ (.int .i64 y.sz)).setCell ⟨w9.heap.size, 7, none⟩ (.string y.sm) = w11 := ⟨_, rfl⟩
          have hk11 : Bk w11 w9.heap.size 48 (ch8 (x, y)).toArray := by rw [← hw11]; exact hk10.fourB y
          have hb11 : Below w9.heap.size w9 w11 := by rw [← hw11]; exact ke8 hb10 _ (Nat.le_refl _) _ _ _ _
          have HBZ := Lib.hid (HB9.out.trans (hb11.mono HB9.out.size))
          have HW11 := Lib.hid hw11
          clear hw11 t0 t1 t2 t3 hb11 hb10
          go_upto_region 15 with (fail)
          rw [HW11.out]
          clear HW11 q0 q1 q2 q3 z0 z1 z2 z3 f0 f1 f2 f3
          have c0x := hk11.cell_ 0 (.string x.p) rfl
          have c1x := hk11.cell_ 1 (.int .i64 x.id) rfl
          have c2x := hk11.cell_ 2 (.int .i64 x.sz) rfl
          have c3x := hk11.cell_ 3 (.string x.sm) rfl
          have c4x := hk11.cell_ 4 (.string y.p) rfl
          have c5x := hk11.cell_ 5 (.int .i64 y.id) rfl
          have c6x := hk11.cell_ 6 (.int .i64 y.sz) rfl
          have c7x := hk11.cell_ 7 (.string y.sm) rfl
          have hin2 : (x, y) ∈ D := HM.out.2.2.1.mem_iff.2 (List.mem_append.2 (.inl (List.mem_filterMap.2 ⟨x, List.mem_of_getElem? HX.out, HW.out⟩)))
          have HAM := Lib.hid (among_any D DA nd dc H6.out.2.2.2.2.2.2 (by omega) x y hin2 w11 (H6.out.2.2.2.2.2.1.below HBZ.out))
          have hcc := cnt_succ (wantA M) L i x HX.out
          rw [HC.out.1, HW.out] at hcc
          have HCC := Lib.hid (And.intro hcc trivial)
          clear hin2 hcc hk10 hk11
          go_wp2_with (go_at_call 20; refine HAM.out.mono ?_; rintro e w12 ⟨rfl, hb12⟩; have HB12 := Lib.hid (HBZ.out.trans (hb12.mono HBZ.out.size)))
          go_round
          case rel => exact ⟨i + 1, k + 1, by first | rfl | go_num, by first | rfl | go_num, by omega, by omega, Lib.hid ⟨HCC.out.1, trivial⟩, HB12⟩
          case measure => simp [iOfI]; omega
    · obtain rfl : i = n := by omega
      have hin1 : ¬ ((i : Int) < (i : Int)) := by omega
      have hka : (L.filterMap (wantA M)).length = k := by rw [← HC.out.1, List.take_of_length_le (by rw [HA.out.1]; exact Nat.le_refl _)]
      have HKA := Lib.hid (And.intro hka trivial)
      clear hka HC
      have HB1 := HB
      clear HB
      go_wp2_with fail
      go_loopw [12, 16] (fun vn vj wr => ∃ j kb : Nat, vn = .int .i64 ((k + kb : Nat) : Int) ∧ vj = .int .i64 (j : Nat) ∧ j ≤ m ∧ kb ≤ j ∧ Hid (((M.take j).filterMap (wantB L)).length = kb ∧ True) ∧ Hid (Below w6.heap.size w6 wr)) (fun _ vj _ => m - iOfI vj)
      case atStart => exact ⟨0, 0, rfl, rfl, by omega, by omega, Lib.hid ⟨by simp, trivial⟩, HB1⟩
      case round =>
        clear HB1
        obtain ⟨j, kb, rfl, rfl, hj, hkj, HC, HB⟩ := hrel
        by_cases hjm : j < m
        · have hjm1 : (j : Int) < (m : Int) := by omega
          obtain ⟨y, hy⟩ : ∃ y, M[j]? = some y := ⟨_, List.getElem?_eq_getElem (by rw [HM.out.1]; exact hjm)⟩
          obtain ⟨g, o, rfl, hbl, q0, q1, q2, q3⟩ := (H6.out.2.2.2.2.1.below HB.out).item hy
          have HY := Lib.hid hy
          clear hy
          go_wp2_with fail
          refine (rfind_any L B i d HA.out.1 (by omega) y.p wr (H6.out.2.2.1.below HB.out)).mono ?_
          rintro e w8 ⟨kf, rfl, hk, hb8⟩
          have hwf := want_findB hk
          have HB8 := Lib.hid (HB.out.trans (hb8.mono HB.out.size))
          have r0 := (hb8.cell (World.block_lt_of_cell? wr _ q0)).trans q0
          have r1 := (hb8.cell (World.block_lt_of_cell? wr _ q1)).trans q1
          have r2 := (hb8.cell (World.block_lt_of_cell? wr _ q2)).trans q2
          have r3 := (hb8.cell (World.block_lt_of_cell? wr _ q3)).trans q3
          have hcc := cnt_succ (wantB L) M j y HY.out
          rw [HC.out.1] at hcc
          clear hk hb8 q0 q1 q2 q3 hbl
          rcases hwf with ⟨rfl, hw⟩ | ⟨hkf, hw⟩
          · rw [hw] at hcc
            have HCC := Lib.hid (And.intro hcc trivial)
            have hin2 : (default, y) ∈ D := HM.out.2.2.1.mem_iff.2 (List.mem_append.2 (.inr (List.mem_filterMap.2 ⟨y, List.mem_of_getElem? HY.out, hw⟩)))
            have HAM := Lib.hid (among_any D DA nd dc H6.out.2.2.2.2.2.2 (by omega) default y hin2 w8 (H6.out.2.2.2.2.2.1.below HB8.out))
            clear hin2 hcc hw
            go_wp2_with (go_at_call 20; refine HAM.out.mono ?_; rintro e w12 ⟨rfl, hb12⟩; have HB12 := Lib.hid (HB8.out.trans (hb12.mono HB8.out.size)))
            go_round
            case rel => exact ⟨j + 1, kb + 1, by first | rfl | go_num, by first | rfl | go_num, by omega, by omega, Lib.hid ⟨HCC.out.1, trivial⟩, HB12⟩
            case measure => simp [iOfI]; omega
          · rw [hw] at hcc
            have HCC := Lib.hid (And.intro hcc trivial)
            clear hcc hw
            go_wp2_with fail
            go_round
            case rel => exact ⟨j + 1, kb, by first | rfl | go_num, by first | rfl | go_num, by omega, by omega, Lib.hid ⟨HCC.out.1, trivial⟩, HB8⟩
            case measure => simp [iOfI]; omega
        · obtain rfl : j = m := by omega
          have hin2 : ¬ ((j : Int) < (j : Int)) := by omega
          have hkb : (M.filterMap (wantB L)).length = kb := by rw [← HC.out.1, List.take_of_length_le (by rw [HM.out.1]; exact Nat.le_refl _)]
          have hall : nd = k + kb := by rw [← H6.out.2.2.2.2.2.2, HM.out.2.2.1.length_eq, List.length_append, HKA.out.1, hkb]
          have HALL := Lib.hid (And.intro hall trivial)
          have HB2 := HB
          clear HB HC hkb hall
          go_wp2_with fail
          go_loopw [17] (fun vj wr => ∃ t : Nat, vj = .int .i64 ((t + 1 : Nat) : Int) ∧ t ≤ nd ∧ Hid (Below w6.heap.size w6 wr)) (fun vj _ => nd + 2 - iOfI vj)
          case atStart => exact ⟨0, rfl, by omega, HB2⟩
          case round =>
            clear HB2
            obtain ⟨t, rfl, ht, HB⟩ := hrel
            by_cases htn : t + 1 < nd
            · have htn1 : (t : Int) + 1 < (nd : Int) := by omega
              have htn2 : (t : Int) < (nd : Int) := by omega
              obtain ⟨⟨x1, y1⟩, hx1⟩ : ∃ y, D[t]? = some y := ⟨_, List.getElem?_eq_getElem (by rw [H6.out.2.2.2.2.2.2]; omega)⟩
              obtain ⟨⟨x2, y2⟩, hx2⟩ : ∃ y, D[t + 1]? = some y := ⟨_, List.getElem?_eq_getElem (by rw [H6.out.2.2.2.2.2.2]; omega)⟩
              obtain ⟨g, o, rfl, hbl, q0, q1, q2, q3, q4, q5, q6, q7⟩ := (H6.out.2.2.2.2.2.1.below HB.out).chg hx1
              obtain ⟨g', o', hgo, hbl', p0, p1, p2, p3, p4, p5, p6, p7⟩ := (H6.out.2.2.2.2.2.1.below HB.out).chg hx2
              cases hgo
              obtain ⟨pa, hpa⟩ : ∃ pa, pathC (x1, y1) = pa := ⟨_, rfl⟩
              obtain ⟨pb, hpb⟩ : ∃ pb, pathC (x2, y2) = pb := ⟨_, rfl⟩
              have hlt : pa.toList < pb.toList := by
                have := List.pairwise_iff_getElem.1 HM.out.2.2.2 t (t + 1) (List.getElem?_eq_some_iff.1 hx1).1 (List.getElem?_eq_some_iff.1 hx2).1 (by omega)
                rw [(List.getElem?_eq_some_iff.1 hx1).2, (List.getElem?_eq_some_iff.1 hx2).2, hpa, hpb] at this
                exact this
              have HPP := Lib.hid (And.intro hpa (And.intro hpb hlt))
              have q0' := fun q os => cell_grown (w := wr) hbl q0 q os
              have p0' := fun q os => cell_grown (w := wr) hbl p0 q os
              have q1' := fun q os => cell_grown (w := wr) hbl q1 q os
              have p1' := fun q os => cell_grown (w := wr) hbl p1 q os
              have q2' := fun q os => cell_grown (w := wr) hbl q2 q os
              have p2' := fun q os => cell_grown (w := wr) hbl p2 q os
              have q3' := fun q os => cell_grown (w := wr) hbl q3 q os
              have p3' := fun q os => cell_grown (w := wr) hbl p3 q os
              have q4' := fun q os => cell_grown (w := wr) hbl q4 q os
              have p4' := fun q os => cell_grown (w := wr) hbl p4 q os
              have q5' := fun q os => cell_grown (w := wr) hbl q5 q os
              have p5' := fun q os => cell_grown (w := wr) hbl p5 q os
              have q6' := fun q os => cell_grown (w := wr) hbl q6 q os
              have p6' := fun q os => cell_grown (w := wr) hbl p6 q os
              have q7' := fun q os => cell_grown (w := wr) hbl q7 q os
              have p7' := fun q os => cell_grown (w := wr) hbl p7 q os
              have ei2 : IntKind.i64.wrap (t : Int) = (t : Int) := by rw [IntKind.wrap_i64]; omega
              have ei3 : (0 : Int) ≤ (t : Int) + 1 := by omega
              have ei4 : ((t : Int) + 1).toNat = t + 1 := by omega
              clear hx1 hx2 hpa hpb hlt p0 p1 p2 p3 p4 p5 p6 p7 q0 q1 q2 q3 q4 q5 q6 q7 hbl hbl'
              go_wp2_with fail
              go_quiet_grown (first | (go_at_call 21; with_reducible refine Calls.grown_of (path_any x1 y1 pa HPP.out.1 _)) | (go_at_call 21; with_reducible refine Calls.grown_of (path_any x2 y2 pb HPP.out.2.1 _)))
              have HB9 := Lib.hid (HB.out.trans ((gr_bel wr nq osq).mono HB.out.size))
              have hlt := HPP.out.2.2
              rw [show (!Op.bytesLess pa.toList pb.toList) = false by rw [bytesLess_true hlt]; rfl]
              clear hlt
              go_wp2_with fail
              exact ⟨⟨t + 1, by first | rfl | go_num, by omega, HB9⟩, by simp [iOfI]; omega⟩
            · have htn1 : ¬ ((t : Int) + 1 < (nd : Int)) := by omega
              have hnn : (nd : Int) = (k : Int) + (kb : Int) := by have := HALL.out.1; omega
              have hnb : ((nd : Int) == (k : Int) + (kb : Int)) = true := by simp [hnn]
              have HB9 := HB
              have x9 := (H6.out.2.2.2.1.below' HB.out).cell_ 0 (.slice A i c) rfl
              have HXX := Lib.hid (xdiff_any L L A A i c i c HA.out.1 HA.out.1 (by omega) (by omega) hc hcm hc hcm [] (diffI_self L) wr (H6.out.2.1.below HB.out) (H6.out.2.1.below HB.out))
              clear HB hnn
              go_wp2_with (go_at_call 18; refine HXX.out.mono ?_; rintro e w10 ⟨DB, db, rfl, hd1, hd2, hrz, hb10⟩; have HB10 := Lib.hid (HB9.out.trans (hb10.mono HB9.out.size)); clear hrz hb10)
              refine (awakeI_any w10).mono ?_
              rintro e w11 ⟨rfl, hb11⟩
              have H11 := Lib.hid (bl (H6.out.1.trans (HB10.out.mono H6.out.1.size)) hb11)
              clear hb11
              go_wp2_with fail
              go_ret
              exact ⟨rfl, H11.out⟩
end Go.Proofs.Ytnhbkfefpkocaaa
