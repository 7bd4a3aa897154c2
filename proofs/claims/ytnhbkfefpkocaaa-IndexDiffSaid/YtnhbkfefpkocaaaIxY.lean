/-
  The law's path and among.
-/
import Derived.Test.YtnhbkfefpkocaaaIxX
namespace Go.Proofs.Ytnhbkfefpkocaaa
open Go.RowKit Go.Sort

set_option maxRecDepth 20000 in
theorem path_any (x y : It) (p : ByteArray) (hp : pathC (x, y) = p) (w : World) :
    Calls Try.prog 21 #[.agg #[.string x.p, .int .i64 x.id, .int .i64 x.sz, .string x.sm, .string y.p, .int .i64 y.id, .int .i64 y.sz, .string y.sm]] w fun e w' => e = .returned (.string p) ∧ ∃ q os', w' = grow (w.drewN q) os' := by
  have HP := Lib.hid (And.intro hp trivial)
  clear hp
  by_cases h : x.p = ⟨#[]⟩
  · have e1 : x.p.toList = [] := by rw [h]; exact toList_nil
    have e0 : x.p.toList.isEmpty = true := by rw [e1]; rfl
    have HE := Lib.hid h
    clear h
    go_enter Try.func21, Try.ntmps21
    go_wp2_with fail
    go_ret
    refine ⟨?_, 0, _, by rw [alloc_eq_grow]; rfl⟩
    rw [← HP.out.1]
    unfold pathC
    rw [if_pos HE.out]
    rfl
  · have e1 : ¬ x.p.toList = [] := fun e => h (str_eqX (e.trans toList_nil.symm))
    have e0 : x.p.toList.isEmpty = false := by cases e : x.p.toList with
      | nil => exact absurd e e1
      | cons a l => rfl
    have HE := Lib.hid h
    clear h
    go_enter Try.func21, Try.ntmps21
    go_wp2_with fail
    go_ret
    refine ⟨?_, 0, _, by rw [alloc_eq_grow]; rfl⟩
    rw [← HP.out.1]
    unfold pathC
    rw [if_neg HE.out]
    rfl

theorem eq_itemI (u x : It) (w : World) : (Op.equalIn 9999 46 (.agg #[.string u.p, .int .i64 u.id, .int .i64 u.sz, .string u.sm]) (.agg #[.string x.p, .int .i64 x.id, .int .i64 x.sz, .string x.sm])).run Try.prog w = .ok (decide (u = x)) w := by
  have HX := Lib.hid (fun (e : u = x) => e)
  by_cases h0 : u.p = x.p
  · have e0 : (u.p.toList == x.p.toList) = true := by rw [h0]; simp
    by_cases h1 : u.id = x.id
    · have e1 : (u.id == x.id) = true := by rw [h1]; simp
      by_cases h2 : u.sz = x.sz
      · have e2 : (u.sz == x.sz) = true := by rw [h2]; simp
        by_cases h3 : u.sm = x.sm
        · have e3 : (u.sm.toList == x.sm.toList) = true := by rw [h3]; simp
          rw [decide_eq_true (it_ext h0 h1 h2 h3)]
          clear h0 h1 h2 h3
          go_simp
        · have e3 : (u.sm.toList == x.sm.toList) = false := by rw [beq_strI]; exact decide_eq_false h3
          rw [decide_eq_false (fun e => h3 (by rw [e]))]
          clear h0 h1 h2 h3
          go_simp
      · have e2 : (u.sz == x.sz) = false := beq_eq_false_iff_ne.2 h2
        rw [decide_eq_false (fun e => h2 (by rw [e]))]
        clear h0 h1 h2
        go_simp
    · have e1 : (u.id == x.id) = false := beq_eq_false_iff_ne.2 h1
      rw [decide_eq_false (fun e => h1 (by rw [e]))]
      clear h0 h1
      go_simp
  · have e0 : (u.p.toList == x.p.toList) = false := by rw [beq_strI]; exact decide_eq_false h0
    rw [decide_eq_false (fun e => h0 (by rw [e]))]
    clear h0
    go_simp

set_option maxRecDepth 20000 in
set_option maxHeartbeats 4000000 in
theorem among_any (D : List (It × It)) (A : Option Addr) (n c : Nat) (hn : D.length = n) (hl : n ≤ 1000000) (x y : It) (hin : (x, y) ∈ D) (w : World) (hr : Rd w A (chf D)) :
    Calls Try.prog 20 #[.slice A n c, .agg #[.string x.p, .int .i64 x.id, .int .i64 x.sz, .string x.sm, .string y.p, .int .i64 y.id, .int .i64 y.sz, .string y.sm]] w fun e w' => e = .returned (.bool true) ∧ Below w.heap.size w w' := by
  have mixed : Try.prog.follows Departure.mixedOrders = true := by kernel_rfl
  have HN := Lib.hid (And.intro hn (And.intro hin hr))
  obtain ⟨w1, hw1⟩ : ∃ w1, w.alloc (.cells #[.string x.p, .int .i64 x.id, .int .i64 x.sz, .string x.sm, .string y.p, .int .i64 y.id, .int .i64 y.sz, .string y.sm] 48) = w1 := ⟨_, rfl⟩
  have hb1 : Below w.heap.size w w1 := by rw [← hw1]; exact (Below.refl _ _).alloc (Nat.le_refl _) _
  have hk1 : Bk w1 w.heap.size 48 (ch8 (x, y)).toArray := by rw [← hw1]; exact Bk.new _ _ _
  have H1 := Lib.hid (And.intro hb1 (And.intro hk1 (hr.below hb1)))
  have HW1 := Lib.hid hw1
  clear hn hin hr hb1 hk1 hw1
  go_enter Try.func20, Try.ntmps20
  go_wp2_with fail
  rw [HW1.out]
  clear HW1
  go_loopw [5] (fun vi wr => ∃ i : Nat, vi = .int .i64 (i : Nat) ∧ i ≤ n ∧ Hid ((x, y) ∉ D.take i) ∧ Hid (Below w1.heap.size w1 wr)) (fun vi _ => n - iOfI vi)
  case atStart => exact ⟨0, rfl, by omega, Lib.hid (by simp), Lib.hid (Below.refl _ _)⟩
  case round =>
    obtain ⟨i, rfl, hi, HA, HB⟩ := hrel
    by_cases hin : i < n
    · have hin1 : (i : Int) < (n : Int) := by omega
      obtain ⟨⟨u, v⟩, hy⟩ : ∃ y, D[i]? = some y := ⟨_, List.getElem?_eq_getElem (by rw [HN.out.1]; exact hin)⟩
      obtain ⟨g, o, rfl, hbl, r0, r1, r2, r3, r4, r5, r6, r7⟩ := (H1.out.2.2.below HB.out).chg hy
      have hk := H1.out.2.1.below' HB.out
      have HY := Lib.hid hy
      have q0 : ∀ k, (wr.drewN k).cell? _ = some _ := fun k => hk.cell_ 0 (.string x.p) rfl
      have q1 : ∀ k, (wr.drewN k).cell? _ = some _ := fun k => hk.cell_ 1 (.int .i64 x.id) rfl
      have q2 : ∀ k, (wr.drewN k).cell? _ = some _ := fun k => hk.cell_ 2 (.int .i64 x.sz) rfl
      have q3 : ∀ k, (wr.drewN k).cell? _ = some _ := fun k => hk.cell_ 3 (.string x.sm) rfl
      have q4 : ∀ k, (wr.drewN k).cell? _ = some _ := fun k => hk.cell_ 4 (.string y.p) rfl
      have q5 : ∀ k, (wr.drewN k).cell? _ = some _ := fun k => hk.cell_ 5 (.int .i64 y.id) rfl
      have q6 : ∀ k, (wr.drewN k).cell? _ = some _ := fun k => hk.cell_ 6 (.int .i64 y.sz) rfl
      have q7 : ∀ k, (wr.drewN k).cell? _ = some _ := fun k => hk.cell_ 7 (.string y.sm) rfl
      have s0 : ∀ k, (wr.drewN k).cell? _ = some _ := fun _ => r0
      have s1 : ∀ k, (wr.drewN k).cell? _ = some _ := fun _ => r1
      have s2 : ∀ k, (wr.drewN k).cell? _ = some _ := fun _ => r2
      have s3 : ∀ k, (wr.drewN k).cell? _ = some _ := fun _ => r3
      have s4 : ∀ k, (wr.drewN k).cell? _ = some _ := fun _ => r4
      have s5 : ∀ k, (wr.drewN k).cell? _ = some _ := fun _ => r5
      have s6 : ∀ k, (wr.drewN k).cell? _ = some _ := fun _ => r6
      have s7 : ∀ k, (wr.drewN k).cell? _ = some _ := fun _ => r7
      clear hk hy hbl r0 r1 r2 r3 r4 r5 r6 r7
      go_upto_region 4 with (fail)
      go_cut [17] from 6 to 17 (fun vb wx => vb = .bool (decide ((u, v) = (x, y))) ∧ ∃ k, wx = wr.drewN k)
      case first =>
        have k1 := fun w => eq_itemI u x w
        have k2 := fun w => eq_itemI v y w
        by_cases h1 : u = x
        · rw [decide_eq_true h1] at k1
          by_cases h2 : v = y
          · rw [decide_eq_true h2] at k2
            have HD := Lib.hid (show decide ((u, v) = (x, y)) = true from decide_eq_true (by rw [h1, h2]))
            clear h1 h2
            go_wp2_with fail
            go_quiet (fail)
            go_wp2_with fail
            go_meet
            exact ⟨by rw [HD.out], _, rfl⟩
          · rw [decide_eq_false h2] at k2
            have HD := Lib.hid (show decide ((u, v) = (x, y)) = false from decide_eq_false (fun e => h2 (Prod.mk.inj e).2))
            clear h1 h2
            go_wp2_with fail
            go_quiet (fail)
            go_wp2_with fail
            go_meet
            exact ⟨by rw [HD.out], _, rfl⟩
        · rw [decide_eq_false h1] at k1
          have HD := Lib.hid (show decide ((u, v) = (x, y)) = false from decide_eq_false (fun e => h1 (Prod.mk.inj e).1))
          clear h1
          go_wp2_with fail
          go_quiet (fail)
          go_wp2_with fail
          go_meet
          exact ⟨by rw [HD.out], _, rfl⟩
      case rest =>
        obtain ⟨rfl, kk, rfl⟩ := hcut
        have hbk : Below wr.heap.size wr (wr.drewN kk) := below_dnS (Below.refl _ _) kk
        by_cases he : (u, v) = (x, y)
        · have HE := Lib.hid (And.intro he trivial)
          rw [decide_eq_true he]
          have hbz := Lib.hid (bl H1.out.1 (bl HB.out hbk))
          clear he hbk
          go_wp2_with fail
          go_ret
          exact ⟨rfl, hbz.out⟩
        · have HE := Lib.hid he
          rw [decide_eq_false he]
          have hbz := Lib.hid (bl HB.out hbk)
          clear he hbk
          go_wp2_with fail
          go_round
          case rel => exact ⟨i + 1, by first | rfl | go_num, by omega, Lib.hid (fun hm => by
            rw [List.take_add_one, HY.out] at hm
            rcases List.mem_append.1 hm with h | h
            · exact HA.out h
            · simp only [Option.toList_some, List.mem_singleton] at h
              exact HE.out h.symm), hbz⟩
          case measure => simp [iOfI]; omega
    · obtain rfl : i = n := by omega
      exact absurd HN.out.2.1 (by have := HA.out; rwa [List.take_of_length_le (by rw [HN.out.1]; exact Nat.le_refl _)] at this)
end Go.Proofs.Ytnhbkfefpkocaaa
