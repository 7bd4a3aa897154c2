/-
  The reference's Same at items; index.List, index.Len.
-/
import Derived.Test.YtnhbkfefpkocaaaIxE
import Derived.Laws.StructEq
namespace Go.Proofs.Ytnhbkfefpkocaaa
open Go.RowKit Go.Sort

theorem it_ext {x y : It} (h0 : x.p = y.p) (h1 : x.id = y.id) (h2 : x.sz = y.sz) (h3 : x.sm = y.sm) : x = y := by
  cases x
  cases y
  simp only at h0 h1 h2 h3
  subst h0 h1 h2 h3
  rfl
instance : DecidableEq It := fun x y =>
  if h : x.p = y.p ∧ x.id = y.id ∧ x.sz = y.sz ∧ x.sm = y.sm then .isTrue (it_ext h.1 h.2.1 h.2.2.1 h.2.2.2) else .isFalse fun e => h (by rw [e]; exact ⟨rfl, rfl, rfl, rfl⟩)
theorem beq_strI (a b : ByteArray) : (a.toList == b.toList) = decide (a = b) := by
  by_cases h : a = b
  · subst h; simp
  · rw [decide_eq_false h, beq_eq_false_iff_ne]
    exact fun e => h (str_eq e)
theorem take_eqI {l m : List It} {i : Nat} {x y : It} (h : l.take i = m.take i) (hx : l[i]? = some x) (hy : m[i]? = some y) (he : x = y) : l.take (i + 1) = m.take (i + 1) := by
  rw [List.take_add_one, List.take_add_one, h, hx, hy, he]

set_option maxRecDepth 20000 in
set_option maxHeartbeats 4000000 in
theorem sameI_any (l m : List It) (A B : Option Addr) (n k c d : Nat) (w : World) (hn : l.length = n) (hk : m.length = k) (hn70 : n ≤ 1000000) (hr : Rd w A (itf l)) (hs : Rd w B (itf m)) :
    Calls Try.prog 11 #[.slice A n c, .slice B k d] w fun e w' => e = .returned (.bool (decide (l = m))) ∧ Below w.heap.size w w' := by
  have Hn := Lib.hid (And.intro hn trivial)
  have Hk := Lib.hid (And.intro hk trivial)
  have mixed : Try.prog.follows Departure.mixedOrders = true := by kernel_rfl
  obtain ⟨t, ht⟩ : ∃ t, decide (l = m) = t := ⟨_, rfl⟩
  rw [ht]
  have HT := Lib.hid ht
  clear hn hk ht
  by_cases hnk : (n : Int) = (k : Int)
  · have hnk2 : ((n : Int) != (k : Int)) = false := by simp [hnk]
    obtain rfl : n = k := by omega
    clear hnk2 hnk
    go_enter Try.func11, Try.ntmps11
    go_wp2_with fail
    go_loopw [5] (fun vi wr => ∃ i : Nat, vi = .int .i64 i ∧ i ≤ n ∧ Hid (l.take i = m.take i) ∧ Rd wr A (itf l) ∧ Rd wr B (itf m) ∧ Below w.heap.size w wr) (fun vi _ => n - iOfI vi)
    case atStart => exact ⟨0, rfl, by omega, Lib.hid (by simp), hr, hs, Below.refl _ _⟩
    case round =>
      clear hr hs
      obtain ⟨i, rfl, hi, hE, hr, hs, hb⟩ := hrel
      by_cases hlt : (i : Int) < (n : Int)
      · obtain ⟨x, hx⟩ : ∃ x, l[i]? = some x := ⟨_, List.getElem?_eq_getElem (by rw [Hn.out.1]; omega)⟩
        obtain ⟨y, hy⟩ : ∃ y, m[i]? = some y := ⟨_, List.getElem?_eq_getElem (by rw [Hk.out.1]; omega)⟩
        obtain ⟨b, o, rfl, _, q0, q1, q2, q3⟩ := hr.item hx
        obtain ⟨b', o', rfl, _, y0, y1, y2, y3⟩ := hs.item hy
        have q0n : ∀ n, (wr.drewN n).cell? ⟨b, o + i * 4, none⟩ = some (.string x.p) := fun _ => q0
        have q1n : ∀ n, (wr.drewN n).cell? ⟨b, o + i * 4 + 1, none⟩ = some (.int .i64 x.id) := fun _ => q1
        have q2n : ∀ n, (wr.drewN n).cell? ⟨b, o + i * 4 + 2, none⟩ = some (.int .i64 x.sz) := fun _ => q2
        have q3n : ∀ n, (wr.drewN n).cell? ⟨b, o + i * 4 + 3, none⟩ = some (.string x.sm) := fun _ => q3
        have y0n : ∀ n, (wr.drewN n).cell? ⟨b', o' + i * 4, none⟩ = some (.string y.p) := fun _ => y0
        have y1n : ∀ n, (wr.drewN n).cell? ⟨b', o' + i * 4 + 1, none⟩ = some (.int .i64 y.id) := fun _ => y1
        have y2n : ∀ n, (wr.drewN n).cell? ⟨b', o' + i * 4 + 2, none⟩ = some (.int .i64 y.sz) := fun _ => y2
        have y3n : ∀ n, (wr.drewN n).cell? ⟨b', o' + i * 4 + 3, none⟩ = some (.string y.sm) := fun _ => y3
        have HX := Lib.hid hx
        have HY := Lib.hid hy
        have HNE : Hid (x ≠ y → t = false) := Lib.hid fun hne => by
          rw [← HT.out]
          refine decide_eq_false fun e => hne ?_
          rw [e, hy] at hx
          cases hx
          rfl
        clear hx hy q0 q1 q2 q3 y0 y1 y2 y3
        by_cases h0 : x.p = y.p
        · have e0 : (x.p.toList == y.p.toList) = true := by rw [h0]; simp
          have H0 := Lib.hid h0
          clear h0
          by_cases h1 : x.id = y.id
          · have e1 : (x.id == y.id) = true := by rw [h1]; simp
            have H1 := Lib.hid h1
            clear h1
            by_cases h2 : x.sz = y.sz
            · have e2 : (x.sz == y.sz) = true := by rw [h2]; simp
              have H2 := Lib.hid h2
              clear h2
              by_cases h3 : x.sm = y.sm
              · have e3 : (x.sm.toList == y.sm.toList) = true := by rw [h3]; simp
                have H3 := Lib.hid h3
                clear h3
                have HE2 := Lib.hid (take_eqI hE.out HX.out HY.out (it_ext H0.out H1.out H2.out H3.out))
                go_wp2_with fail
                go_quiet (fail)
                go_wp2_with fail
                go_round
                case rel => exact ⟨i + 1, by first | rfl | go_num, by omega, HE2, hr, hs, below_dnS hb _⟩
                case measure => simp [iOfI]; omega
              · have e3 : (x.sm.toList == y.sm.toList) = false := by rw [beq_strI]; exact decide_eq_false h3
                have H := Lib.hid (HNE.out (fun e => h3 (by rw [e])))
                clear h3
                go_wp2_with fail
                go_quiet (fail)
                go_wp2_with fail
                go_ret
                exact ⟨by rw [H.out]; rfl, below_dnS hb _⟩
            · have e2 : (x.sz == y.sz) = false := beq_eq_false_iff_ne.2 h2
              have H := Lib.hid (HNE.out (fun e => h2 (by rw [e])))
              clear h2
              go_wp2_with fail
              go_quiet (fail)
              go_wp2_with fail
              go_ret
              exact ⟨by rw [H.out]; rfl, below_dnS hb _⟩
          · have e1 : (x.id == y.id) = false := beq_eq_false_iff_ne.2 h1
            have H := Lib.hid (HNE.out (fun e => h1 (by rw [e])))
            clear h1
            go_wp2_with fail
            go_quiet (fail)
            go_wp2_with fail
            go_ret
            exact ⟨by rw [H.out]; rfl, below_dnS hb _⟩
        · have e0 : (x.p.toList == y.p.toList) = false := by rw [beq_strI]; exact decide_eq_false h0
          have H := Lib.hid (HNE.out (fun e => h0 (by rw [e])))
          clear h0
          go_wp2_with fail
          go_quiet (fail)
          go_wp2_with fail
          go_ret
          exact ⟨by rw [H.out]; rfl, below_dnS hb _⟩
      · obtain rfl : i = n := by omega
        have H := Lib.hid (show t = true by
          rw [← HT.out]
          refine decide_eq_true ?_
          have h := hE.out
          rw [List.take_of_length_le (by rw [Hn.out.1]; exact Nat.le_refl _), List.take_of_length_le (by rw [Hk.out.1]; exact Nat.le_refl _)] at h
          exact h)
        go_wp2_with fail
        go_ret
        exact ⟨by rw [H.out]; rfl, hb⟩
  · have hnk2 : ((n : Int) == (k : Int)) = false := by simp; omega
    have H := Lib.hid (show t = false by
      rw [← HT.out]
      exact decide_eq_false fun e => hnk (by rw [← Hn.out.1, ← Hk.out.1, e]))
    go_enter Try.func11, Try.ntmps11
    go_wp2_with fail
    go_ret
    exact ⟨by rw [H.out]; rfl, Below.refl _ _⟩

set_option maxRecDepth 20000 in
theorem list_any (l : List It) (A : Option Addr) (n c : Nat) (hn : l.length = n) (hl : n ≤ 1000000) (w : World) (hr : Rd w A (itf l)) :
    Calls Try.prog 12 #[.agg #[.slice A n c]] w fun e w' => ∃ B d, e = .returned (.slice B n d) ∧ n ≤ d ∧ d ≤ maxLen ∧ Rd w' B (itf l) ∧ Below w.heap.size w w' := by
  have HN := Lib.hid (And.intro hn trivial)
  have HR := Lib.hid hr
  clear hn hr
  have hb0 := (Below.refl w.heap.size w).alloc (Nat.le_refl _) (.cells #[.slice A n c] 25)
  have HB := Lib.hid hb0
  clear hb0
  go_enter Try.func12, Try.ntmps12
  go_wp2_with fail
  refine (cloneI_any l A n c HN.out.1 hl _ (HR.out.below HB.out)).mono ?_
  rintro e w1 ⟨v, rfl, ho, hb⟩
  obtain ⟨_, B, d, rfl, h1, h2, h3⟩ := Sl.own ho
  have H := Lib.hid (And.intro h3 (HB.out.trans (hb.mono (by simp))))
  rw [HN.out.1] at h1 ⊢
  clear ho hb h3
  go_wp2_with fail
  go_ret
  exact ⟨B, d, rfl, h1, h2, H.out.1, H.out.2⟩
set_option maxRecDepth 20000 in
theorem len_any (A : Option Addr) (n c : Nat) (w : World) :
    Calls Try.prog 32 #[.agg #[.slice A n c]] w fun e w' => e = .returned (.int .i64 (n : Nat)) ∧ Below w.heap.size w w' := by
  go_enter Try.func32, Try.ntmps32
  go_wp2_with fail
  go_ret
  exact ⟨rfl, (Below.refl w.heap.size w).alloc (Nat.le_refl _) _⟩
end Go.Proofs.Ytnhbkfefpkocaaa
