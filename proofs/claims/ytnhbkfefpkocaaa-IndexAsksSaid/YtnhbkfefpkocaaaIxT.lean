/-
  The archives' numbers: plain; sledgeref01.Same at like lists; index.Archives.
-/
import Derived.Test.YtnhbkfefpkocaaaIxG
import Derived.Test.YtnhbkfefpkocaaaShelf
import Derived.Sort.OwnSortedInts
import Derived.Lib.RowBridge
import Derived.Lib.SlBuf
namespace Go.Proofs.Ytnhbkfefpkocaaa
open Go.RowKit Go.Sort

theorem inc_ext : ∀ (a b : List Int), a.Pairwise (· < ·) → b.Pairwise (· < ·) → (∀ x, x ∈ a ↔ x ∈ b) → a = b
  | [], [], _, _, _ => rfl
  | [], y :: b, _, _, h => by have := (h y).2 (by simp); simp at this
  | x :: a, [], _, _, h => by have := (h x).1 (by simp); simp at this
  | x :: a, y :: b, ha, hb, h => by
    rw [List.pairwise_cons] at ha hb
    have hx := (h x).1 (by simp)
    have hy := (h y).2 (by simp)
    have e : x = y := by
      rcases List.mem_cons.1 hx with h1 | h1
      · exact h1
      · rcases List.mem_cons.1 hy with h2 | h2
        · exact h2.symm
        · have := hb.1 x h1; have := ha.1 y h2; omega
    subst e
    congr 1
    refine inc_ext a b ha.2 hb.2 fun z => ⟨fun hz => ?_, fun hz => ?_⟩
    · rcases List.mem_cons.1 ((h z).1 (by simp [hz])) with h1 | h1
      · have := ha.1 z hz; omega
      · exact h1
    · rcases List.mem_cons.1 ((h z).2 (by simp [hz])) with h1 | h1
      · have := hb.1 z hz; omega
      · exact h1
theorem inc_len : ∀ (a l : List Int), a.Pairwise (· < ·) → (∀ x ∈ a, x ∈ l) → a.length ≤ l.length
  | [], _, _, _ => by simp
  | x :: a, l, ha, h => by
    rw [List.pairwise_cons] at ha
    have hx : x ∈ l := h x (by simp)
    have ih := inc_len a (l.erase x) ha.2 fun y hy => by
      have hne : y ≠ x := by have := ha.1 y hy; omega
      exact (List.mem_erase_of_ne hne).2 (h y (by simp [hy]))
    rw [List.length_erase_of_mem hx] at ih
    have : 0 < l.length := List.length_pos_of_mem hx
    simp only [List.length_cons]
    omega
theorem compact_inc (zs : List Int) (hs : zs.Pairwise (· ≤ ·)) : (Lib.compact zs).Pairwise (· < ·) ∧ ∀ x, x ∈ Lib.compact zs ↔ x ∈ zs := by
  have key : ∀ m, m ≤ zs.length → (Lib.compactUpTo zs.toArray m).Pairwise (· < ·) ∧ ∀ x, x ∈ Lib.compactUpTo zs.toArray m ↔ x ∈ zs.take m := by
    intro m
    induction m with
    | zero => intro _; exact ⟨by simp [Lib.compactUpTo], by simp [Lib.compactUpTo]⟩
    | succ m ih =>
      intro hm
      obtain ⟨h1, h2⟩ := ih (by omega)
      obtain ⟨z, hz⟩ : ∃ z, zs[m]? = some z := ⟨_, List.getElem?_eq_getElem (by omega)⟩
      have hzm : zs.toArray[m]! = z := by simp [getElem!_def, hz]
      rw [Lib.compactUpTo_succ, List.take_add_one, hz, hzm]
      by_cases hk : Lib.keeps zs.toArray m = true
      · rw [if_pos hk]
        have hgt : ∀ x ∈ zs.take m, x < z := by
          intro x hx
          obtain ⟨i, hi⟩ := List.mem_iff_getElem?.1 hx
          rw [List.getElem?_take] at hi
          split at hi
          · rename_i him
            unfold Lib.keeps at hk
            have hk2 := of_decide_eq_true hk
            rcases hk2 with h0 | h0
            · omega
            · obtain ⟨y, hy⟩ : ∃ y, zs[m - 1]? = some y := ⟨_, List.getElem?_eq_getElem (by omega)⟩
              have hym : zs.toArray[m - 1]! = y := by simp [getElem!_def, hy]
              rw [hzm, hym] at h0
              have hyz : y ≤ z := by
                have := List.pairwise_iff_getElem.1 hs (m - 1) m (by omega) (by omega) (by omega)
                rw [(List.getElem?_eq_some_iff.1 hy).2, (List.getElem?_eq_some_iff.1 hz).2] at this
                exact this
              have hxy : x ≤ y := by
                rcases Nat.lt_or_ge i (m - 1) with h | h
                · have := List.pairwise_iff_getElem.1 hs i (m - 1) (by omega) (by omega) h
                  rw [(List.getElem?_eq_some_iff.1 hi).2, (List.getElem?_eq_some_iff.1 hy).2] at this
                  exact this
                · have : i = m - 1 := by omega
                  rw [this, hy] at hi
                  cases hi
                  exact Int.le_refl _
              omega
          · cases hi
        refine ⟨List.pairwise_append.2 ⟨h1, by simp, fun a ha b hb => ?_⟩, fun x => ?_⟩
        · simp at hb
          rw [hb]
          exact hgt a ((h2 a).1 ha)
        · rw [List.mem_append, List.mem_append, h2 x]; simp
      · rw [if_neg hk, List.append_nil]
        refine ⟨h1, fun x => ?_⟩
        rw [h2 x, List.mem_append]
        constructor
        · exact fun h => .inl h
        · rintro (h | h)
          · exact h
          · simp at h
            subst h
            unfold Lib.keeps at hk
            have hk2 : ¬ (m = 0 ∨ zs.toArray[m]! ≠ zs.toArray[m - 1]!) := fun h => hk (decide_eq_true h)
            have hm0 : m ≠ 0 := fun h => hk2 (.inl h)
            have he : zs.toArray[m]! = zs.toArray[m - 1]! := Classical.not_not.1 fun h => hk2 (.inr h)
            obtain ⟨y, hy⟩ : ∃ y, zs[m - 1]? = some y := ⟨_, List.getElem?_eq_getElem (by omega)⟩
            have hym : zs.toArray[m - 1]! = y := by simp [getElem!_def, hy]
            rw [hzm, hym] at he
            rw [he]
            exact List.mem_iff_getElem?.2 ⟨m - 1, by rw [List.getElem?_take, if_pos (by omega), hy]⟩
  obtain ⟨h1, h2⟩ := key zs.length (Nat.le_refl _)
  refine ⟨h1, fun x => ?_⟩
  have := h2 x
  rwa [List.take_length] at this
/-- The archives' numbers, rising. -/
def idsI (L : List It) : List Int := L.map fun y => y.id
def arcI (L : List It) : List Int := Lib.compact ((idsI L).mergeSort fun x y => decide (x ≤ y))
theorem arcI_inc (L : List It) : (arcI L).Pairwise (· < ·) ∧ ∀ x, x ∈ arcI L ↔ x ∈ idsI L := by
  have hs : ((idsI L).mergeSort fun x y => decide (x ≤ y)).Pairwise (· ≤ ·) := by
    have := List.pairwise_mergeSort (le := fun x y : Int => decide (x ≤ y)) (fun a b c h1 h2 => by simp at h1 h2 ⊢; omega) (fun a b => by simp; omega) (idsI L)
    exact this.imp fun h => by simpa using h
  obtain ⟨h1, h2⟩ := compact_inc _ hs
  refine ⟨h1, fun x => ?_⟩
  rw [show arcI L = Lib.compact ((idsI L).mergeSort fun x y => decide (x ≤ y)) from rfl, h2 x]
  exact List.mem_mergeSort
theorem arcI_len (L : List It) : (arcI L).length ≤ L.length := by
  have := inc_len (arcI L) (idsI L) (arcI_inc L).1 fun x hx => ((arcI_inc L).2 x).1 hx
  simpa [idsI] using this

theorem infoX : (Try.prog.info? 3).map (fun i => (i.zero, i.size, i.bytes)) = some (some (.int .i64 0), 1, 8) := by kernel_rfl
theorem el_intX : El Try.prog 63 3 1 8 := El.mk_ (z := .int .i64 0) Try.underlying63 infoX (by omega) rfl
theorem rd_intX {w : World} {A : Option Addr} {xs : List Int} (h : Rd w A (xs.map (Value.int .i64))) (k : Nat) (hk : k < xs.length) : ∃ b o, A = some ⟨b, o, none⟩ ∧ w.cell? ⟨b, o + k, none⟩ = some (.int .i64 (xs.getD k 0)) := by
  obtain ⟨b, o, e, hc⟩ := h.at_ (k := k) (by simpa using hk)
  refine ⟨b, o, e, ?_⟩
  rw [hc]
  simp [List.getD_eq_getElem?_getD, List.getElem?_eq_getElem hk]
set_option maxHeartbeats 1000000 in
theorem same_eqX (A B : Option Addr) (n c d : Nat) (xs : List Int) (w : World) (hx : xs.length = n) (hr : Rd w A (xs.map (Value.int .i64))) (hs : Rd w B (xs.map (Value.int .i64))) (hn : n ≤ 9223372036854775807) :
    Calls Try.prog 28 #[.slice A n c, .slice B n d] w fun e w' => e = .returned (.bool true) ∧ Below w.heap.size w w' := by
  have Hx := Lib.hid (And.intro hx trivial)
  clear hx
  have e0 : ((n : Int) != (n : Int)) = false := by simp
  go_enter Try.func28, Try.ntmps28
  go_wp2_with fail
  go_loopw [5] (fun i wr => ∃ k : Nat, k ≤ n ∧ i = .int .i64 k ∧ ∃ q, wr = w.drewN q) (fun i _ => n - iOfI i)
  case atStart => exact ⟨0, by omega, rfl, 0, rfl⟩
  case round =>
    obtain ⟨k, hk, rfl, q, rfl⟩ := hrel
    by_cases hlt : (k : Int) < (n : Int)
    · obtain ⟨b, o, rfl, hc1⟩ := rd_intX hr k (by rw [Hx.out.1]; omega)
      obtain ⟨b2, o2, rfl, hc2⟩ := rd_intX hs k (by rw [Hx.out.1]; omega)
      generalize xs.getD k 0 = z at hc1 hc2
      go_wp2_with fail
      go_quiet (fail)
      go_wp2_with fail
      go_roundw
      case rel => exact ⟨k + 1, by omega, by go_num, _, rfl⟩
      case measure => simp [iOfI]; omega
    · go_wp2_with fail
      go_ret
      exact ⟨rfl, below_dnS (Below.refl _ _) _⟩

theorem own_belowT {w w' : World} {base n : Nat} {v : Value} {xs : List Value} {e : TypeId} {size : Nat} (h : w.ownsRow base e size v n xs) (hb : Below w.heap.size w w') : w'.ownsRow base e size v n xs := own_below h hb
/-- Numbers as a call's answer. -/
def IntsE (w : World) (l : List Int) (e : Ending) (w' : World) : Prop := ∃ B d, e = .returned (.slice B l.length d) ∧ l.length ≤ d ∧ d ≤ maxLen ∧ Rd w' B (l.map (Value.int .i64)) ∧ Below w.heap.size w w'
theorem idsI_succ {L : List It} {i : Nat} {y : It} (h : L[i]? = some y) : idsI (L.take (i + 1)) = idsI (L.take i) ++ [y.id] := by
  unfold idsI
  rw [List.take_add_one, h]
  simp
/-- Numbers sorted in a row of a call's own. -/
theorem sortX_any (zs : List Int) (v : Value) (base : Nat) (w : World) (ho : w.ownsRow base 3 1 v zs.length (zs.map (Value.int .i64))) (hl : zs.length ≤ 1000000) (hbase : base ≤ w.heap.size) :
    Calls Try.prog 57 #[v] w fun e w' => e = .returned (.tuple #[]) ∧ w'.ownsRow base 3 1 v zs.length ((zs.mergeSort fun x y => decide (x ≤ y)).map (Value.int .i64)) ∧ Below base w w' := by
  rcases ho.2 with ⟨rfl, h0⟩ | ⟨g, cap, cur, rfl, hbg, hg, hnc, hcm, hcs, htk⟩
  · have hz : zs = [] := List.eq_nil_of_length_eq_zero h0
    subst hz
    refine (Try.slices_Sort_int_none none 0 w).mono fun e w' h => ?_
    obtain ⟨rfl, rfl⟩ := h
    exact ⟨rfl, ⟨by simp, Or.inl ⟨rfl, rfl⟩⟩, Below.refl _ _⟩
  · have hglt := (Array.getElem?_eq_some_iff.1 hg).1
    refine (Try.slices_Sort_int g 0 cap zs w (holds_of_blockI hg (by simpa using htk)) hglt (by omega)).mono fun e w' h => ?_
    obtain ⟨rfl, n, os, rfl⟩ := h
    refine ⟨rfl, ?_, ?_⟩
    · exact ownsRow_sortedI (List.length_mergeSort _) hbg hg hnc hcm hcs
    · exact below_only (grownBy_sortedI _) hbg hbase
/-- Like numbers put together, in a row of a call's own. -/
theorem compX_any (zs : List Int) (v : Value) (base : Nat) (w : World) (ho : w.ownsRow base 3 1 v zs.length (zs.map (Value.int .i64))) (hl : zs.length ≤ 1000000) (hbase : base ≤ w.heap.size) :
    Calls Try.prog 58 #[v] w fun e w' => ∃ B d, e = .returned (.slice B (Lib.compact zs).length d) ∧ (Lib.compact zs).length ≤ d ∧ d ≤ maxLen ∧ Rd w' B ((Lib.compact zs).map (Value.int .i64)) ∧ Below base w w' := by
  rcases ho.2 with ⟨rfl, h0⟩ | ⟨g, cap, cur, rfl, hbg, hg, hnc, hcm, hcs, htk⟩
  · have hz : zs = [] := List.eq_nil_of_length_eq_zero h0
    subst hz
    refine (Try.slices_Compact_int_empty none 0 w).mono fun e w' h => ?_
    obtain ⟨rfl, rfl⟩ := h
    exact ⟨none, 0, rfl, by simp [Lib.compact, Lib.compactUpTo], by unfold maxLen; omega, by simpa [Lib.compact, Lib.compactUpTo] using Rd.nil _ _, Below.refl _ _⟩
  · have hc : ∀ j, j < zs.length → w.cell? ⟨g, 0 + j, none⟩ = some (.int .i64 (zs.getD j 0)) := fun j hj => by
      have hh := (holds_of_blockI hg (by simpa using htk)) j (by simpa using hj)
      rw [hh.1]
      simp [List.getD_eq_getElem?_getD, List.getElem?_eq_getElem hj]
    have hf : ∀ j, j < zs.length → w.frozen? ⟨g, 0 + j, none⟩ = false := fun j hj => ((holds_of_blockI hg (by simpa using htk)) j (by simpa using hj)).2
    refine (Try.slices_Compact_int_cells g 0 zs.length cap zs w (Nat.le_refl _) (by omega) hnc hc hf).mono fun e w' h => ?_
    rw [List.take_length] at h
    obtain ⟨rfl, q, rfl⟩ := h
    have hle := Lib.compact_length_le zs
    refine ⟨some ⟨g, 0, none⟩, cap, rfl, by omega, hcm, fun _ => ⟨g, 0, rfl, fun j u hj => ?_⟩, Lib.below_setCells g hbg _ 0 (below_dnS (Below.refl _ _) q)⟩
    have hy : (Lib.compact zs ++ List.replicate (zs.length - (Lib.compact zs).length) 0).length = zs.length := by simp; omega
    have hjl : j < (Lib.compact zs).length := by have := (List.getElem?_eq_some_iff.1 hj).1; simpa using this
    have hcell := Lib.cells_after_ints (q := q) (Nat.le_refl zs.length) hy hc j (by rw [Lib.after_length (Nat.le_refl _) hy]; omega)
    rw [hcell]
    rw [List.getD_eq_getElem?_getD, List.append_assoc, List.getElem?_append_left hjl]
    rw [List.getElem?_map] at hj
    cases hz : (Lib.compact zs)[j]? with
    | none => rw [hz] at hj; cases hj
    | some z => rw [hz] at hj; simpa using hj

set_option maxRecDepth 20000 in
set_option maxHeartbeats 4000000 in
theorem xarc_any (L : List It) (A : Option Addr) (n c : Nat) (hn : L.length = n) (hl : n ≤ 1000000) (w : World) (hr : Rd w A (itf L)) :
    Calls Try.prog 29 #[.agg #[.slice A n c]] w (IntsE w (arcI L)) := by
  have HN := Lib.hid (And.intro hn trivial)
  obtain ⟨w1, hw1⟩ : ∃ w1, w.alloc (.cells #[.slice A n c] 25) = w1 := ⟨_, rfl⟩
  have hb1 : Below w.heap.size w w1 := by rw [← hw1]; exact (Below.refl _ _).alloc (Nat.le_refl _) _
  have hs1 : w.heap.size ≤ w1.heap.size := hb1.size
  have cx := (by rw [← hw1]; exact Bk.new _ _ _ : Bk w1 w.heap.size 25 #[.slice A n c]).cell_ 0 (.slice A n c) rfl
  have H1 := Lib.hid (And.intro hb1 (hr.below hb1))
  have HW1 := Lib.hid hw1
  clear hn hr hb1 hw1
  go_enter Try.func29, Try.ntmps29
  go_wp2_with fail
  rw [HW1.out]
  clear HW1
  clear cx
  go_loopw [3, 9] (fun vo vi wr => ∃ i : Nat, vi = .int .i64 (i : Nat) ∧ i ≤ n ∧ Hid (wr.ownsRow w1.heap.size 3 1 vo i ((idsI (L.take i)).map (Value.int .i64))) ∧ Hid (Below w1.heap.size w1 wr)) (fun _ vi _ => n - iOfI vi)
  case atStart => exact ⟨0, rfl, by omega, Lib.hid ⟨rfl, Or.inl ⟨rfl, rfl⟩⟩, Lib.hid (Below.refl _ _)⟩
  case round =>
    obtain ⟨i, rfl, hi, HO, HB⟩ := hrel
    by_cases hin : i < n
    · have hin1 : (i : Int) < (n : Int) := by omega
      obtain ⟨y, hy⟩ : ∃ y, L[i]? = some y := ⟨_, List.getElem?_eq_getElem (by rw [HN.out.1]; exact hin)⟩
      obtain ⟨g, o, rfl, hbl, r0, r1, r2, r3⟩ := (H1.out.2.below HB.out).item hy
      have hs := idsI_succ hy
      obtain ⟨wa, hwa⟩ : ∃ wa, wr.alloc (.cells #[.string y.p, .int .i64 y.id, .int .i64 y.sz, .string y.sm] 46) = wa := ⟨_, rfl⟩
      have hba : Below wr.heap.size wr wa := by rw [← hwa]; exact (Below.refl wr.heap.size wr).alloc (Nat.le_refl _) _
      have hka : Bk wa wr.heap.size 46 #[.string y.p, .int .i64 y.id, .int .i64 y.sz, .string y.sm] := by rw [← hwa]; exact Bk.new _ _ _
      have y1 := hka.cell_ 1 (.int .i64 y.id) rfl
      have HH := Lib.hid (And.intro hs (And.intro (own_belowT HO.out hba) (And.intro (bl HB.out hba) (bl HB.out hba).size)))
      have HWA := Lib.hid hwa
      clear hy hs hbl hba hka hwa
      go_upto_region 5 with (fail)
      rw [HWA.out]
      clear HWA r0 r1 r2 r3
      go_wp2_with (at_builtin; go_must (refine wpList_append_new _ rfl (.tmp 13) (.tmp 16) 63 rfl w1.heap.size 3 1 8 el_intX _ _ _ HH.out.2.1 (by rfl) _ (by rfl) rfl (by intro u hu; simp at hu; subst hu; rfl) (by unfold maxLen; omega) (by omega) HH.out.2.2.2 ?_); intro v5 w5 ho5 hb5)
      have ho6 : w5.ownsRow w1.heap.size 3 1 v5 (i + 1) ((idsI (L.take (i + 1))).map (Value.int .i64)) := by
        rw [HH.out.1, List.map_append]
        exact ho5
      have H6 := Lib.hid (And.intro ho6 (HH.out.2.2.1.trans hb5))
      clear ho5 hb5 ho6
      first
        | (go_round
           case rel => exact ⟨i + 1, by first | rfl | go_num, by omega, Lib.hid H6.out.1, Lib.hid H6.out.2⟩
           case measure => simp [iOfI]; omega)
        | exact ⟨⟨i + 1, by first | rfl | go_num, by omega, Lib.hid H6.out.1, Lib.hid H6.out.2⟩, by simp [iOfI]; omega⟩
    · obtain rfl : i = n := by omega
      have htk : L.take i = L := List.take_of_length_le (by rw [HN.out.1]; omega)
      have hin1 : ¬ ((i : Int) < (i : Int)) := by omega
      have hid : (idsI L).length = i := by unfold idsI; rw [List.length_map]; exact HN.out.1
      have HO2 : Hid (wr.ownsRow w1.heap.size 3 1 u3 (idsI L).length ((idsI L).map (Value.int .i64))) := Lib.hid (by
        have := HO.out
        rw [htk] at this
        rw [hid]
        exact this)
      have HI := Lib.hid (And.intro hid HB.out.size)
      clear htk hid
      go_wp2_with fail
      refine (sortX_any (idsI L) u3 w1.heap.size wr HO2.out (by rw [HI.out.1]; exact hl) HI.out.2).mono ?_
      rintro e w7 ⟨rfl, ho7, hb7⟩
      have ho7' : w7.ownsRow w1.heap.size 3 1 u3 ((idsI L).mergeSort fun x y => decide (x ≤ y)).length (((idsI L).mergeSort fun x y => decide (x ≤ y)).map (Value.int .i64)) := by
        rw [List.length_mergeSort]
        exact ho7
      have H7 := Lib.hid (And.intro ho7' (HB.out.trans hb7))
      clear ho7 ho7' hb7
      go_wp2_with fail
      refine (compX_any _ u3 w1.heap.size w7 H7.out.1 (by rw [List.length_mergeSort, HI.out.1]; exact hl) H7.out.2.size).mono ?_
      rintro e w8 ⟨B, d, rfl, h1, h2, h3, hb8⟩
      have H8 := Lib.hid (And.intro h3 (bl H1.out.1 (H7.out.2.trans hb8)))
      clear h3 hb8
      go_wp2_with fail
      go_ret
      exact ⟨B, d, rfl, h1, h2, H8.out.1, H8.out.2⟩
end Go.Proofs.Ytnhbkfefpkocaaa
