/-
  The reference's Same at items; index.List, index.Len. index.at, index.Find; chapter 44's example (awake). Chapter 44's example (awake). The reference's put, plain. The reference's put.
-/
import Derived.Test.YtnhbkfefpkocaaaP9
import Derived.Laws.StructEq
namespace Go.Proofs.Ytnhbkfefpkocaaa
open Go.RowKit Go.Sort

theorem it_ext {x y : It} (h0 : x.p = y.p) (h1 : x.id = y.id) (h2 : x.sz = y.sz) (h3 : x.sm = y.sm) : x = y := by
  cases x
  cases y
  simp only at h0 h1 h2 h3
  subst h0 h1 h2 h3
  rfl
instance : DecidableEq It := fun x y =>
  if h : x.p = y.p ∧ x.id = y.id ∧ x.sz = y.sz ∧ x.sm = y.sm then .isTrue (it_ext h.1 h.2.1 h.2.2.1 h.2.2.2) else .isFalse fun e => h (by rw [e]; exact ⟨rfl, rfl, rfl, rfl⟩)
theorem beq_strI (a b : ByteArray) : (a.toList == b.toList) = decide (a = b) := by
  by_cases h : a = b
  · subst h; simp
  · rw [decide_eq_false h, beq_eq_false_iff_ne]
    exact fun e => h (str_eq e)
theorem take_eqI {l m : List It} {i : Nat} {x y : It} (h : l.take i = m.take i) (hx : l[i]? = some x) (hy : m[i]? = some y) (he : x = y) : l.take (i + 1) = m.take (i + 1) := by
  rw [List.take_add_one, List.take_add_one, h, hx, hy, he]

set_option maxRecDepth 20000 in
set_option maxHeartbeats 4000000 in
theorem sameI_any (l m : List It) (A B : Option Addr) (n k c d : Nat) (w : World) (hn : l.length = n) (hk : m.length = k) (hn70 : n ≤ 1000000) (hr : Rd w A (itf l)) (hs : Rd w B (itf m)) :
    Calls Try.prog 11 #[.slice A n c, .slice B k d] w fun e w' => e = .returned (.bool (decide (l = m))) ∧ Below w.heap.size w w' := by
  have Hn := Lib.hid (And.intro hn trivial)
  have Hk := Lib.hid (And.intro hk trivial)
  have mixed : Try.prog.follows Departure.mixedOrders = true := by kernel_rfl
  obtain ⟨t, ht⟩ : ∃ t, decide (l = m) = t := ⟨_, rfl⟩
  rw [ht]
  have HT := Lib.hid ht
  clear hn hk ht
  by_cases hnk : (n : Int) = (k : Int)
  · have hnk2 : ((n : Int) != (k : Int)) = false := by simp [hnk]
    obtain rfl : n = k := by omega
    clear hnk2 hnk
    go_enter Try.func11, Try.ntmps11
    go_wp2_with fail
    go_loopw [5] (fun vi wr => ∃ i : Nat, vi = .int .i64 i ∧ i ≤ n ∧ Hid (l.take i = m.take i) ∧ Rd wr A (itf l) ∧ Rd wr B (itf m) ∧ Below w.heap.size w wr) (fun vi _ => n - iOfI vi)
    case atStart => exact ⟨0, rfl, by omega, Lib.hid (by simp), hr, hs, Below.refl _ _⟩
    case round =>
      clear hr hs
      obtain ⟨i, rfl, hi, hE, hr, hs, hb⟩ := hrel
      by_cases hlt : (i : Int) < (n : Int)
      · obtain ⟨x, hx⟩ : ∃ x, l[i]? = some x := ⟨_, List.getElem?_eq_getElem (by rw [Hn.out.1]; omega)⟩
        obtain ⟨y, hy⟩ : ∃ y, m[i]? = some y := ⟨_, List.getElem?_eq_getElem (by rw [Hk.out.1]; omega)⟩
        obtain ⟨b, o, rfl, _, q0, q1, q2, q3⟩ := hr.item hx
        obtain ⟨b', o', rfl, _, y0, y1, y2, y3⟩ := hs.item hy
        have q0n : ∀ n, (wr.drewN n).cell? ⟨b, o + i * 4, none⟩ = some (.string x.p) := fun _ => q0
        have q1n : ∀ n, (wr.drewN n).cell? ⟨b, o + i * 4 + 1, none⟩ = some (.int .i64 x.id) := fun _ => q1
        have q2n : ∀ n, (wr.drewN n).cell? ⟨b, o + i * 4 + 2, none⟩ = some (.int .i64 x.sz) := fun _ => q2
        have q3n : ∀ n, (wr.drewN n).cell? ⟨b, o + i * 4 + 3, none⟩ = some (.string x.sm) := fun _ => q3
        have y0n : ∀ n, (wr.drewN n).cell? ⟨b', o' + i * 4, none⟩ = some (.string y.p) := fun _ => y0
        have y1n : ∀ n, (wr.drewN n).cell? ⟨b', o' + i * 4 + 1, none⟩ = some (.int .i64 y.id) := fun _ => y1
        have y2n : ∀ n, (wr.drewN n).cell? ⟨b', o' + i * 4 + 2, none⟩ = some (.int .i64 y.sz) := fun _ => y2
        have y3n : ∀ n, (wr.drewN n).cell? ⟨b', o' + i * 4 + 3, none⟩ = some (.string y.sm) := fun _ => y3
        have HX := Lib.hid hx
        have HY := Lib.hid hy
        have HNE : Hid (x ≠ y → t = false) := Lib.hid fun hne => by
          rw [← HT.out]
          refine decide_eq_false fun e => hne ?_
          rw [e, hy] at hx
          cases hx
          rfl
        clear hx hy q0 q1 q2 q3 y0 y1 y2 y3
        by_cases h0 : x.p = y.p
        · have e0 : (x.p.toList == y.p.toList) = true := by rw [h0]; simp
          have H0 := Lib.hid h0
          clear h0
          by_cases h1 : x.id = y.id
          · have e1 : (x.id == y.id) = true := by rw [h1]; simp
            have H1 := Lib.hid h1
            clear h1
            by_cases h2 : x.sz = y.sz
            · have e2 : (x.sz == y.sz) = true := by rw [h2]; simp
              have H2 := Lib.hid h2
              clear h2
              by_cases h3 : x.sm = y.sm
              · have e3 : (x.sm.toList == y.sm.toList) = true := by rw [h3]; simp
                have H3 := Lib.hid h3
                clear h3
                have HE2 := Lib.hid (take_eqI hE.out HX.out HY.out (it_ext H0.out H1.out H2.out H3.out))
                go_wp2_with fail
                go_quiet (fail)
                go_wp2_with fail
                go_round
                case rel => exact ⟨i + 1, by first | rfl | go_num, by omega, HE2, hr, hs, below_dnS hb _⟩
                case measure => simp [iOfI]; omega
              · have e3 : (x.sm.toList == y.sm.toList) = false := by rw [beq_strI]; exact decide_eq_false h3
                have H := Lib.hid (HNE.out (fun e => h3 (by rw [e])))
                clear h3
                go_wp2_with fail
                go_quiet (fail)
                go_wp2_with fail
                go_ret
                exact ⟨by rw [H.out]; rfl, below_dnS hb _⟩
            · have e2 : (x.sz == y.sz) = false := beq_eq_false_iff_ne.2 h2
              have H := Lib.hid (HNE.out (fun e => h2 (by rw [e])))
              clear h2
              go_wp2_with fail
              go_quiet (fail)
              go_wp2_with fail
              go_ret
              exact ⟨by rw [H.out]; rfl, below_dnS hb _⟩
          · have e1 : (x.id == y.id) = false := beq_eq_false_iff_ne.2 h1
            have H := Lib.hid (HNE.out (fun e => h1 (by rw [e])))
            clear h1
            go_wp2_with fail
            go_quiet (fail)
            go_wp2_with fail
            go_ret
            exact ⟨by rw [H.out]; rfl, below_dnS hb _⟩
        · have e0 : (x.p.toList == y.p.toList) = false := by rw [beq_strI]; exact decide_eq_false h0
          have H := Lib.hid (HNE.out (fun e => h0 (by rw [e])))
          clear h0
          go_wp2_with fail
          go_quiet (fail)
          go_wp2_with fail
          go_ret
          exact ⟨by rw [H.out]; rfl, below_dnS hb _⟩
      · obtain rfl : i = n := by omega
        have H := Lib.hid (show t = true by
          rw [← HT.out]
          refine decide_eq_true ?_
          have h := hE.out
          rw [List.take_of_length_le (by rw [Hn.out.1]; exact Nat.le_refl _), List.take_of_length_le (by rw [Hk.out.1]; exact Nat.le_refl _)] at h
          exact h)
        go_wp2_with fail
        go_ret
        exact ⟨by rw [H.out]; rfl, hb⟩
  · have hnk2 : ((n : Int) == (k : Int)) = false := by simp; omega
    have H := Lib.hid (show t = false by
      rw [← HT.out]
      exact decide_eq_false fun e => hnk (by rw [← Hn.out.1, ← Hk.out.1, e]))
    go_enter Try.func11, Try.ntmps11
    go_wp2_with fail
    go_ret
    exact ⟨by rw [H.out]; rfl, Below.refl _ _⟩

set_option maxRecDepth 20000 in
theorem list_any (l : List It) (A : Option Addr) (n c : Nat) (hn : l.length = n) (hl : n ≤ 1000000) (w : World) (hr : Rd w A (itf l)) :
    Calls Try.prog 12 #[.agg #[.slice A n c]] w fun e w' => ∃ B d, e = .returned (.slice B n d) ∧ n ≤ d ∧ d ≤ maxLen ∧ Rd w' B (itf l) ∧ Below w.heap.size w w' := by
  have HN := Lib.hid (And.intro hn trivial)
  have HR := Lib.hid hr
  clear hn hr
  have hb0 := (Below.refl w.heap.size w).alloc (Nat.le_refl _) (.cells #[.slice A n c] 25)
  have HB := Lib.hid hb0
  clear hb0
  go_enter Try.func12, Try.ntmps12
  go_wp2_with fail
  refine (cloneI_any l A n c HN.out.1 hl _ (HR.out.below HB.out)).mono ?_
  rintro e w1 ⟨v, rfl, ho, hb⟩
  obtain ⟨_, B, d, rfl, h1, h2, h3⟩ := Sl.own ho
  have H := Lib.hid (And.intro h3 (HB.out.trans (hb.mono (by simp))))
  rw [HN.out.1] at h1 ⊢
  clear ho hb h3
  go_wp2_with fail
  go_ret
  exact ⟨B, d, rfl, h1, h2, H.out.1, H.out.2⟩
set_option maxRecDepth 20000 in
theorem len_any (A : Option Addr) (n c : Nat) (w : World) :
    Calls Try.prog 32 #[.agg #[.slice A n c]] w fun e w' => e = .returned (.int .i64 (n : Nat)) ∧ Below w.heap.size w w' := by
  go_enter Try.func32, Try.ntmps32
  go_wp2_with fail
  go_ret
  exact ⟨rfl, (Below.refl w.heap.size w).alloc (Nat.le_refl _) _⟩
end Go.Proofs.Ytnhbkfefpkocaaa
namespace Go.Proofs.Ytnhbkfefpkocaaa
open Go.RowKit Go.Sort

set_option maxRecDepth 20000 in
theorem at_any (L : List It) (A : Option Addr) (n c : Nat) (hn : L.length = n) (hl : n ≤ 1000000) (hS : SrtI L) (p : ByteArray) (w : World) (hr : Rd w A (itf L)) :
    Calls Try.prog 54 #[.agg #[.slice A n c], .string p] w fun e w' => e = .returned (.tuple #[.int .i64 (posI p L : Nat), .bool (foundI p L)]) ∧ Below w.heap.size w w' := by
  have HN := Lib.hid (And.intro hn hS)
  have HR := Lib.hid hr
  clear hn hr hS
  have hb0 := (Below.refl w.heap.size w).alloc (Nat.le_refl _) (.cells #[.slice A n c] 25)
  have HB := Lib.hid hb0
  clear hb0
  go_enter Try.func54, Try.ntmps54
  go_wp2_with fail
  refine (bsearch_any L A n c HN.out.1 HN.out.2 hl ⟨p, 0, 0, ⟨#[]⟩⟩ _ (HR.out.below HB.out)).mono ?_
  rintro e w1 ⟨rfl, q, os, hw⟩
  have hb1 : Below w.heap.size w w1 := HB.out.trans ((by rw [hw]; exact gr_bel _ _ _ : Below _ _ w1).mono (by simp))
  have H := Lib.hid (And.intro hb1 trivial)
  clear hw hb1
  go_wp2_with fail
  go_ret2
  exact ⟨rfl, H.out.1⟩

/-- What Find tells. -/
def findI (L : List It) (p : ByteArray) : It := if foundI p L = true then L.getD (posI p L) default else default
set_option maxRecDepth 20000 in
set_option maxHeartbeats 1000000 in
theorem find_any (L : List It) (A : Option Addr) (n c : Nat) (hn : L.length = n) (hl : n ≤ 1000000) (hS : SrtI L) (p : ByteArray) (x : It) (b : Bool) (hx : findI L p = x) (hb : foundI p L = b) (w : World) (hr : Rd w A (itf L)) :
    Calls Try.prog 25 #[.agg #[.slice A n c], .string p] w fun e w' => e = .returned (.tuple #[.agg #[.string x.p, .int .i64 x.id, .int .i64 x.sz, .string x.sm], .bool b]) ∧ Below w.heap.size w w' := by
  have HN := Lib.hid (And.intro hn hS)
  have HR := Lib.hid hr
  have HX := Lib.hid (And.intro hx hb)
  clear hn hr hS hx hb
  have hb0 := ((Below.refl w.heap.size w).alloc (Nat.le_refl _) (.cells #[.slice A n c] 25)).alloc (by simp) (.cells #[.string ⟨#[]⟩, .int .i64 0, .int .i64 0, .string ⟨#[]⟩] 46)
  have hk0 := ((Bk.new w 25 #[.slice A n c])).alloc (.cells #[.string ⟨#[]⟩, .int .i64 0, .int .i64 0, .string ⟨#[]⟩] 46)
  have hk1 := Bk.new (w.alloc (.cells #[.slice A n c] 25)) 46 #[.string ⟨#[]⟩, .int .i64 0, .int .i64 0, .string ⟨#[]⟩]
  rw [World.size_alloc] at hk1
  have HB := Lib.hid (And.intro hb0 (And.intro hk0 hk1))
  clear hb0 hk0 hk1
  go_enter Try.func25, Try.ntmps25
  go_wp2_with fail
  have hsz : ((w.alloc (.cells #[.slice A n c] 25)).alloc (.cells #[.string ⟨#[]⟩, .int .i64 0, .int .i64 0, .string ⟨#[]⟩] 46)).heap.size = w.heap.size + 2 := by simp
  have HSZ := Lib.hid (And.intro hsz trivial)
  clear hsz
  generalize (w.alloc (.cells #[.slice A n c] 25)).alloc (.cells #[.string ⟨#[]⟩, .int .i64 0, .int .i64 0, .string ⟨#[]⟩] 46) = w2 at *
  refine (at_any L A n c HN.out.1 hl HN.out.2 p w2 (HR.out.below HB.out.1)).mono ?_
  rintro e w3 ⟨rfl, hb3⟩
  have hB3 := HB.out.1.trans (hb3.mono (by rw [HSZ.out.1]; omega))
  have hx3 := HB.out.2.1.below' hb3
  have hr3 := HB.out.2.2.below' hb3
  have cx := hx3.cell_ 0 (.slice A n c) rfl
  have c0 := hr3.cell_ 0 (.string ⟨#[]⟩) rfl
  have c1 := hr3.cell_ 1 (.int .i64 0) rfl
  have c2 := hr3.cell_ 2 (.int .i64 0) rfl
  have c3 := hr3.cell_ 3 (.string ⟨#[]⟩) rfl
  have f0 := hr3.frozen 0
  have f1 := hr3.frozen 1
  have f2 := hr3.frozen 2
  have f3 := hr3.frozen 3
  have H3 := Lib.hid (And.intro hB3 (And.intro hr3 (HR.out.below hB3)))
  clear hb3 hB3 hx3 hr3
  rw [HX.out.2]
  obtain ⟨pos, hpos⟩ : ∃ pos, posI p L = pos := ⟨_, rfl⟩
  rw [hpos]
  have HP := Lib.hid (And.intro hpos trivial)
  clear hpos
  cases b with
  | false =>
    have hxd : x = default := by rw [← HX.out.1]; unfold findI; rw [HX.out.2]; rfl
    subst hxd
    go_wp2_with fail
    have hB4 := H3.out.2.1.four (.string ⟨#[]⟩) (.int .i64 0) (.int .i64 0) (.string ⟨#[]⟩)
    have d0 := hB4.cell_ 0 (.string ⟨#[]⟩) rfl
    have d1 := hB4.cell_ 1 (.int .i64 0) rfl
    have d2 := hB4.cell_ 2 (.int .i64 0) rfl
    have d3 := hB4.cell_ 3 (.string ⟨#[]⟩) rfl
    refine bodyPost_ret (v := .tuple #[.agg #[.string ⟨#[]⟩, .int .i64 0, .int .i64 0, .string ⟨#[]⟩], .bool false]) (by simp [results, Try.results25, go_sem, d0, d1, d2, d3]) rfl ⟨rfl, ?_⟩
    exact ke H3.out.1 (w.heap.size + 1) (by omega) _ _ _ _
  | true =>
    have hget : L[pos]? = some x := by
      have h1 := HX.out.1
      have h2 := HX.out.2
      unfold findI at h1
      rw [if_pos h2, HP.out.1] at h1
      unfold foundI at h2
      rw [HP.out.1] at h2
      obtain ⟨y, hy, _⟩ := of_decide_eq_true h2
      rw [← h1, List.getD_eq_getElem?_getD, hy]
      rfl
    have hpn : (pos : Int) < (n : Int) := by have := (List.getElem?_eq_some_iff.1 hget).1; rw [HN.out.1] at this; omega
    obtain ⟨b, o, rfl, _, r0, r1, r2, r3⟩ := H3.out.2.2.item hget
    clear hget
    go_wp2_with fail
    have hB4 := H3.out.2.1.four (.string x.p) (.int .i64 x.id) (.int .i64 x.sz) (.string x.sm)
    have d0 := hB4.cell_ 0 (.string x.p) rfl
    have d1 := hB4.cell_ 1 (.int .i64 x.id) rfl
    have d2 := hB4.cell_ 2 (.int .i64 x.sz) rfl
    have d3 := hB4.cell_ 3 (.string x.sm) rfl
    refine bodyPost_ret (v := .tuple #[.agg #[.string x.p, .int .i64 x.id, .int .i64 x.sz, .string x.sm], .bool true]) (by simp [results, Try.results25, go_sem, d0, d1, d2, d3]) rfl ⟨rfl, ?_⟩
    exact ke H3.out.1 (w.heap.size + 1) (by omega) _ _ _ _
end Go.Proofs.Ytnhbkfefpkocaaa
namespace Go.Proofs.Ytnhbkfefpkocaaa
open Go.RowKit Go.Sort

theorem b97 : (⟨#[97]⟩ : ByteArray).toList = [97] := toList_ofL [97]
theorem b98 : (⟨#[98]⟩ : ByteArray).toList = [98] := toList_ofL [98]
theorem ok97 : okP ⟨#[97]⟩ = 0 := by unfold okP; rw [b97]; decide
theorem ok98 : okP ⟨#[98]⟩ = 0 := by unfold okP; rw [b98]; decide
theorem lt_ab : ([97] : List UInt8) < [98] := by decide
theorem nlt_aa : ¬ ([97] : List UInt8) < [97] := by decide
theorem nlt_ba : ¬ ([98] : List UInt8) < [97] := by decide
theorem nlt_bb : ¬ ([98] : List UInt8) < [98] := by decide
theorem ne_ab : (⟨#[97]⟩ : ByteArray) ≠ ⟨#[98]⟩ := fun e => by have := congrArg ByteArray.toList e; rw [b97, b98] at this; cases this
/-- The example's index behind its first archive, and behind its second one. -/
def aw1 (s1 s2 : ByteArray) : List It := [⟨⟨#[97]⟩, 1, 1, s1⟩, ⟨⟨#[98]⟩, 1, 0, s2⟩]
def aw2 (s3 s2 : ByteArray) : List It := [⟨⟨#[97]⟩, 2, 2, s3⟩, ⟨⟨#[98]⟩, 1, 0, s2⟩]
theorem pos_a (x y : It) (hx : x.p = ⟨#[97]⟩) : posI ⟨#[97]⟩ [x, y] = 0 := by
  unfold posI
  rw [List.takeWhile_cons_of_neg (by rw [hx, b97]; simp)]
  rfl
theorem pos_b (x y : It) (hx : x.p = ⟨#[97]⟩) (hy : y.p = ⟨#[98]⟩) : posI ⟨#[98]⟩ [x, y] = 1 := by
  unfold posI
  rw [List.takeWhile_cons_of_pos (by rw [hx, b97, b98]; simpa using lt_ab), List.takeWhile_cons_of_neg (by rw [hy, b98]; simp)]
  rfl
theorem found_a (x y : It) (hx : x.p = ⟨#[97]⟩) : foundI ⟨#[97]⟩ [x, y] = true := by
  unfold foundI
  rw [pos_a x y hx]
  exact decide_eq_true ⟨x, rfl, hx⟩
theorem found_b (x y : It) (hx : x.p = ⟨#[97]⟩) (hy : y.p = ⟨#[98]⟩) : foundI ⟨#[98]⟩ [x, y] = true := by
  unfold foundI
  rw [pos_b x y hx hy]
  exact decide_eq_true ⟨y, rfl, hy⟩
theorem put_first (x : It) : putI [] x = [x] := by
  have h : foundI x.p [] = false := by simp [foundI, posI]
  unfold putI
  rw [if_neg (by rw [h]; simp)]
  rfl
theorem put_second (x y : It) (hx : x.p = ⟨#[97]⟩) (hy : y.p = ⟨#[98]⟩) : putI [x] y = [x, y] := by
  have hp : posI y.p [x] = 1 := by
    unfold posI
    rw [List.takeWhile_cons_of_pos (by rw [hx, hy, b97, b98]; simpa using lt_ab)]
    rfl
  have h : foundI y.p [x] = false := by unfold foundI; rw [hp]; simp
  unfold putI
  rw [if_neg (by rw [h]; simp), hp]
  rfl
theorem put_third (x y z : It) (hx : x.p = ⟨#[97]⟩) (hz : z.p = ⟨#[97]⟩) (hid : x.id ≤ z.id) : putI [x, y] z = [z, y] := by
  unfold putI
  rw [hz, if_pos (found_a x y hx), pos_a x y hx]
  simp [hid]
def fa : List Fl := [(⟨#[97]⟩, ⟨#[120]⟩), (⟨#[98]⟩, ⟨#[]⟩)]
def fb : List Fl := [(⟨#[97]⟩, ⟨#[121, 121]⟩)]
theorem aw_with1 : ∃ s1 s2, withI [] 1 fa = (aw1 s1 s2, 0) := by
  refine ⟨ofL (shaW (⟨#[120]⟩ : ByteArray).toList), ofL (shaW (⟨#[]⟩ : ByteArray).toList), ?_⟩
  generalize h1 : ofL (shaW (⟨#[120]⟩ : ByteArray).toList) = s1
  generalize h2 : ofL (shaW (⟨#[]⟩ : ByteArray).toList) = s2
  have e1 : itOf 1 (⟨#[97]⟩, ⟨#[120]⟩) = ⟨⟨#[97]⟩, 1, 1, s1⟩ := by unfold itOf; rw [h1]; rfl
  have e2 : itOf 1 (⟨#[98]⟩, ⟨#[]⟩) = ⟨⟨#[98]⟩, 1, 0, s2⟩ := by unfold itOf; rw [h2]; rfl
  unfold withI fa
  rw [if_neg (by omega), withL, if_pos ok97, withL, if_pos ok98, e1, e2, put_first, put_second _ _ rfl rfl, withL]
  rfl
theorem aw_with2 (s1 s2 : ByteArray) : ∃ s3, withI (aw1 s1 s2) 2 fb = (aw2 s3 s2, 0) := by
  refine ⟨ofL (shaW (⟨#[121, 121]⟩ : ByteArray).toList), ?_⟩
  generalize h1 : ofL (shaW (⟨#[121, 121]⟩ : ByteArray).toList) = s3
  have e1 : itOf 2 (⟨#[97]⟩, ⟨#[121, 121]⟩) = ⟨⟨#[97]⟩, 2, 2, s3⟩ := by unfold itOf; rw [h1]; rfl
  unfold withI fb aw1
  rw [if_neg (by omega), withL, if_pos ok97, e1, put_third _ _ _ rfl rfl (show (1 : Int) ≤ 2 by omega), withL]
  rfl
theorem aw_srt (x y : It) (hx : x.p = ⟨#[97]⟩) (hy : y.p = ⟨#[98]⟩) : SrtI [x, y] := by
  refine srtI_cons.2 ⟨fun z hz => ?_, List.pairwise_singleton _ _⟩
  simp at hz
  subst hz
  rw [hx, hy, b97, b98]
  exact lt_ab
theorem fa_small : ∀ f ∈ fa, f.1.size ≤ 100000000 ∧ f.2.size ≤ 1000000000 := fun f hf => by
  unfold fa at hf
  simp only [List.mem_cons, List.not_mem_nil, or_false] at hf
  rcases hf with rfl | rfl
  · exact ⟨by decide, by decide⟩
  · exact ⟨by decide, by decide⟩
theorem fb_small : ∀ f ∈ fb, f.1.size ≤ 100000000 ∧ f.2.size ≤ 1000000000 := fun f hf => by
  unfold fb at hf
  simp only [List.mem_cons, List.not_mem_nil, or_false] at hf
  subst hf
  exact ⟨by decide, by decide⟩

set_option maxRecDepth 20000 in
set_option maxHeartbeats 2000000 in
theorem awakeI_any (w : World) : Calls Try.prog 14 #[] w fun e w' => e = .returned (.bool true) ∧ Below w.heap.size w w' := by
  obtain ⟨s1, s2, hw1⟩ := aw_with1
  obtain ⟨s3, hw2⟩ := aw_with2 s1 s2
  have HW := Lib.hid (And.intro hw1 hw2)
  clear hw1 hw2
  have hb0 := ((Below.refl w.heap.size w).alloc (Nat.le_refl _) (.cells #[.slice none 0 0] 25))
  have hk0 := Bk.new w 25 #[.slice none 0 0]
  have HB := Lib.hid (And.intro hb0 hk0)
  clear hb0 hk0
  go_enter Try.func14, Try.ntmps14
  go_wp2_with fail
  have hsz : (w.alloc (.cells #[.slice none 0 0] 25)).heap.size = w.heap.size + 1 := by simp
  have HSZ := Lib.hid (And.intro hsz trivial)
  clear hsz
  generalize w.alloc (.cells #[.slice none 0 0] 25) = w1 at *
  have hrA : Rd (w1.alloc (.cells #[.string ⟨#[97]⟩, .string ⟨#[120]⟩, .string ⟨#[98]⟩, .string ⟨#[]⟩] 73)) (some ⟨w.heap.size + 1, 0, none⟩) (fl fa) := by
    rw [← HSZ.out.1]
    exact Rd.new w1 73 #[.string ⟨#[97]⟩, .string ⟨#[120]⟩, .string ⟨#[98]⟩, .string ⟨#[]⟩]
  have hal := (Below.refl w1.heap.size w1).alloc (Nat.le_refl _) (.cells #[.string ⟨#[97]⟩, .string ⟨#[120]⟩, .string ⟨#[98]⟩, .string ⟨#[]⟩] 73)
  have HAL := Lib.hid hal
  refine (with_any [] none 0 0 rfl (by omega) List.Pairwise.nil 1 fa (some ⟨w.heap.size + 1, 0, none⟩) 2 2 rfl (by omega) fa_small _ (Rd.nil _ _) hrA).mono ?_
  clear hrA hal
  rw [HW.out.1]
  rintro e w2 ⟨v1, rfl, hs1, hb2⟩
  obtain ⟨A1, c1, hv1, _, _, hr1, hA1⟩ := hs1
  change v1 = .slice A1 2 c1 at hv1
  subst hv1
  have hb12 : Below w1.heap.size w1 w2 := below_of_alloc hb2
  have hx2 := HB.out.2.below' hb12
  have cx := hx2.cell_ 0 (.slice none 0 0) rfl
  have fx := hx2.frozen 0
  have hB2' := hx2.set_ 0 (.slice A1 2 c1)
  have hon := only_set w2 w.heap.size 0 (.slice A1 2 c1)
  have H2 := Lib.hid (And.intro (show Bk (w2.setCell ⟨w.heap.size, 0, none⟩ (.slice A1 2 c1)) w.heap.size 25 #[.slice A1 2 c1] from hB2') (And.intro ((HB.out.1.trans (hb12.mono (by rw [HSZ.out.1]; omega))).setCell (p := ⟨w.heap.size, 0, none⟩) (Nat.le_refl _) (.slice A1 2 c1)) (show Rd (w2.setCell ⟨w.heap.size, 0, none⟩ (.slice A1 2 c1)) A1 (itf (aw1 s1 s2)) from hr1.only hon (Off.fresh hA1 (by rw [World.size_alloc, HSZ.out.1]; omega)))))
  clear hA1 hr1 hb2 hb12 hx2 hB2' hon
  go_wp2_with fail
  have hsz2 : (w2.setCell ⟨w.heap.size, 0, none⟩ (.slice A1 2 c1)).heap.size = w2.heap.size := by simp
  obtain ⟨g2, hg2⟩ : ∃ g2, w2.heap.size = g2 := ⟨_, rfl⟩
  rw [hg2] at hsz2 ⊢
  have HS2 := Lib.hid (And.intro hsz2 hg2)
  clear hsz2 hg2 cx fx
  generalize w2.setCell ⟨w.heap.size, 0, none⟩ (.slice A1 2 c1) = w3 at *
  have hrB : Rd (w3.alloc (.cells #[.string ⟨#[97]⟩, .string ⟨#[121, 121]⟩] 73)) (some ⟨g2, 0, none⟩) (fl fb) := by
    rw [← HS2.out.1]
    exact Rd.new w3 73 #[.string ⟨#[97]⟩, .string ⟨#[121, 121]⟩]
  have hal := (Below.refl w3.heap.size w3).alloc (Nat.le_refl _) (.cells #[.string ⟨#[97]⟩, .string ⟨#[121, 121]⟩] 73)
  refine (with_any (aw1 s1 s2) A1 2 c1 rfl (by omega) (aw_srt _ _ rfl rfl) 2 fb (some ⟨g2, 0, none⟩) 1 1 rfl (by omega) fb_small _ (H2.out.2.2.below hal) hrB).mono ?_
  clear hrB hal
  rw [HW.out.2]
  rintro e w4 ⟨v2, rfl, hs4, hb4⟩
  obtain ⟨A2, c2, hv2, _, _, hr4, hA2⟩ := hs4
  change v2 = .slice A2 2 c2 at hv2
  subst hv2
  have hb34 : Below w3.heap.size w3 w4 := below_of_alloc hb4
  have hx4 := H2.out.1.below' hb34
  have cx := hx4.cell_ 0 (.slice A1 2 c1) rfl
  have fx := hx4.frozen 0
  have hgw : w.heap.size < g2 := by rw [← HS2.out.1]; exact H2.out.1.lt
  have hon := only_set w4 w.heap.size 0 (.slice A2 2 c2)
  have H4 := Lib.hid (And.intro (show Bk (w4.setCell ⟨w.heap.size, 0, none⟩ (.slice A2 2 c2)) w.heap.size 25 #[.slice A2 2 c2] from hx4.set_ 0 (.slice A2 2 c2)) (And.intro ((H2.out.2.1.trans (hb34.mono (by rw [HS2.out.1]; omega))).setCell (p := ⟨w.heap.size, 0, none⟩) (Nat.le_refl _) (.slice A2 2 c2)) (show Rd (w4.setCell ⟨w.heap.size, 0, none⟩ (.slice A2 2 c2)) A2 (itf (aw2 s3 s2)) from hr4.only hon (Off.fresh hA2 (by rw [World.size_alloc, HS2.out.1]; omega)))))
  clear hb4 hb34 hx4 hon hr4 hA2 H2
  go_wp2_with fail
  have hcc := World.cell?_setCell_same w4 ⟨w.heap.size, 0, none⟩ (.slice A2 2 c2) cx
  clear cx fx
  generalize w4.setCell ⟨w.heap.size, 0, none⟩ (.slice A2 2 c2) = w5 at *
  have hfA := find_any (aw2 s3 s2) A2 2 c2 rfl (by omega) (aw_srt _ _ rfl rfl) ⟨#[97]⟩ ⟨⟨#[97]⟩, 2, 2, s3⟩ true (by unfold findI aw2; rw [if_pos (found_a _ _ rfl), pos_a _ _ rfl]; rfl) (found_a _ _ rfl)
  have hfB := find_any (aw2 s3 s2) A2 2 c2 rfl (by omega) (aw_srt _ _ rfl rfl) ⟨#[98]⟩ ⟨⟨#[98]⟩, 1, 0, s2⟩ true (by unfold findI aw2; rw [if_pos (found_b _ _ rfl rfl), pos_b _ _ rfl rfl]; rfl) (found_b _ _ rfl rfl)
  have HFA := Lib.hid hfA
  have HFB := Lib.hid hfB
  clear hfA hfB
  go_wp2_with fail
  refine (HFA.out w5 H4.out.2.2).mono ?_
  rintro e w6 ⟨rfl, hb6⟩
  have cx6 := (H4.out.1.below' hb6).cell_ 0 (.slice A2 2 c2) rfl
  have H6 := Lib.hid (And.intro (H4.out.1.below' hb6) (And.intro (bl H4.out.2.1 hb6) (H4.out.2.2.below hb6)))
  have l6 : w.heap.size < w6.heap.size := (H4.out.1.below' hb6).lt
  have hbA : Bk (w6.alloc (.cells #[.string ⟨#[97]⟩, .int .i64 2, .int .i64 2, .string s3] 46)) w6.heap.size 46 #[.string ⟨#[97]⟩, .int .i64 2, .int .i64 2, .string s3] := Bk.new w6 _ _
  have H7 := Lib.hid (And.intro (H6.out.1.alloc (.cells #[.string ⟨#[97]⟩, .int .i64 2, .int .i64 2, .string s3] 46)) (And.intro (H6.out.2.1.alloc H6.out.2.1.size (.cells #[.string ⟨#[97]⟩, .int .i64 2, .int .i64 2, .string s3] 46)) (And.intro (H6.out.2.2.below ((Below.refl _ w6).alloc (Nat.le_refl _) (.cells #[.string ⟨#[97]⟩, .int .i64 2, .int .i64 2, .string s3] 46))) hbA)))
  clear hb6 hcc H4 hbA
  go_wp2_with fail
  obtain ⟨gA, hgA⟩ : ∃ gA, w6.heap.size = gA := ⟨_, rfl⟩
  rw [hgA] at H7 l6 ⊢
  clear H6 cx6 hgA
  generalize w6.alloc (.cells #[.string ⟨#[97]⟩, .int .i64 2, .int .i64 2, .string s3] 46) = w7 at *
  refine (HFB.out w7 H7.out.2.2.1).mono ?_
  rintro e w8 ⟨rfl, hb8⟩
  have hx8 := H7.out.1.below' hb8
  have cx8 := hx8.cell_ 0 (.slice A2 2 c2) rfl
  have l8 : w.heap.size < w8.heap.size := hx8.lt
  have hA8 := H7.out.2.2.2.below' hb8
  have a1 := hA8.cell_ 1 (.int .i64 2) rfl
  have a2 := hA8.cell_ 2 (.int .i64 2) rfl
  have lA : gA < w8.heap.size := hA8.lt
  have H8 := Lib.hid (bl H7.out.2.1 hb8)
  clear hb8 hx8 hA8 H7
  go_wp2_with fail
  refine (len_any A2 2 c2 _).mono ?_
  rintro e w9 ⟨rfl, hb9⟩
  have H9 := Lib.hid (bl H8.out (below_of_alloc hb9))
  clear hb9
  go_wp2_with fail
  go_ret
  exact ⟨rfl, H9.out⟩
end Go.Proofs.Ytnhbkfefpkocaaa
namespace Go.Proofs.Ytnhbkfefpkocaaa
open Go.RowKit Go.Sort

/-- One step of the reference's put. -/
def stepR (x : It) (st : List It × Bool) (y : It) : List It × Bool :=
  if y.p = x.p then (st.1 ++ [if x.id < y.id then y else x], true)
  else if x.p.toList < y.p.toList ∧ st.2 = false then (st.1 ++ [x] ++ [y], true) else (st.1 ++ [y], st.2)
def putR (l : List It) (x : It) : List It := if (l.foldl (stepR x) ([], false)).2 = true then (l.foldl (stepR x) ([], false)).1 else (l.foldl (stepR x) ([], false)).1 ++ [x]
theorem fold_low (x : It) : ∀ (A O : List It), (∀ a ∈ A, a.p.toList < x.p.toList) → A.foldl (stepR x) (O, false) = (O ++ A, false)
  | [], O, _ => by simp
  | a :: A, O, h => by
    have ha := h a (by simp)
    have h1 : ¬ a.p = x.p := fun e => by rw [e] at ha; exact lt_irr _ ha
    have h2 : ¬ (x.p.toList < a.p.toList ∧ (O, false).2 = false) := fun e => lt_irr _ (lt_tr ha e.1)
    rw [List.foldl_cons]
    unfold stepR
    rw [if_neg h1, if_neg h2]
    show List.foldl (stepR x) (O ++ [a], false) A = _
    rw [fold_low x A (O ++ [a]) fun b hb => h b (by simp [hb])]
    simp
theorem fold_high (x : It) : ∀ (B O : List It), (∀ b ∈ B, x.p.toList < b.p.toList) → B.foldl (stepR x) (O, true) = (O ++ B, true)
  | [], O, _ => by simp
  | b :: B, O, h => by
    have hb := h b (by simp)
    have h1 : ¬ b.p = x.p := fun e => by rw [e] at hb; exact lt_irr _ hb
    have h2 : ¬ (x.p.toList < b.p.toList ∧ (O, true).2 = false) := fun e => by cases e.2
    rw [List.foldl_cons]
    unfold stepR
    rw [if_neg h1, if_neg h2]
    show List.foldl (stepR x) (O ++ [b], true) B = _
    rw [fold_high x B (O ++ [b]) fun c hc => h c (by simp [hc])]
    simp
theorem putR_eq (x : It) (L : List It) (hS : SrtI L) : putR L x = putI L x := by
  obtain ⟨A, B, hL, _, hA, h⟩ := putI_split x L hS
  have hf : L.foldl (stepR x) ([], false) = B.foldl (stepR x) (A, false) := by
    rw [hL, List.foldl_append, fold_low x A [] hA]
    rfl
  unfold putR
  rw [hf]
  rcases h with ⟨_, y, B', rfl, hy, hB, _, _, hput⟩ | ⟨_, hB, hput⟩
  · rw [hput, List.foldl_cons]
    have e : stepR x (A, false) y = (A ++ [if x.id < y.id then y else x], true) := by unfold stepR; rw [if_pos hy]
    rw [e, fold_high x B' _ hB, if_pos rfl]
    have e2 : (if x.id < y.id then y else x) = if y.id ≤ x.id then x else y := by
      by_cases hlt : x.id < y.id
      · rw [if_pos hlt, if_neg (by omega)]
      · rw [if_neg hlt, if_pos (by omega)]
    simp [e2]
  · rw [hput]
    cases B with
    | nil => simp
    | cons b B' =>
      have hb := hB b (by simp)
      have h1 : ¬ b.p = x.p := fun e => by rw [e] at hb; exact lt_irr _ hb
      rw [List.foldl_cons]
      have e : stepR x (A, false) b = (A ++ [x] ++ [b], true) := by unfold stepR; rw [if_neg h1, if_pos ⟨hb, rfl⟩]
      rw [e, fold_high x B' _ fun c hc => hB c (by simp [hc]), if_pos rfl]
      simp
theorem stepR_len (x : It) (st : List It × Bool) (y : It) : (stepR x st y).1.length ≤ st.1.length + 2 := by
  unfold stepR
  split
  · simp
  · split
    · simp
    · simp
theorem fold_take (x : It) (l : List It) (i : Nat) (y : It) (h : l[i]? = some y) : (l.take (i + 1)).foldl (stepR x) ([], false) = stepR x ((l.take i).foldl (stepR x) ([], false)) y := by
  rw [List.take_add_one, h]
  simp
theorem fold_len (x : It) (l : List It) (i : Nat) : ((l.take i).foldl (stepR x) ([], false)).1.length ≤ 2 * i := by
  induction i with
  | zero => simp
  | succ i ih =>
    cases hy : l[i]? with
    | none =>
      have : l.take (i + 1) = l.take i := by rw [List.take_add_one, hy]; simp
      rw [this]; omega
    | some y =>
      rw [fold_take x l i y hy]
      have := stepR_len x ((l.take i).foldl (stepR x) ([], false)) y
      omega
end Go.Proofs.Ytnhbkfefpkocaaa
namespace Go.Proofs.Ytnhbkfefpkocaaa
open Go.RowKit Go.Sort

theorem cells_one (x : It) : ∀ u ∈ (#[.string x.p, .int .i64 x.id, .int .i64 x.sz, .string x.sm] : Array Value).toList, u.oneCell' = true := fun u hu => by
  simp at hu
  rcases hu with rfl | rfl | rfl | rfl <;> rfl
theorem compareRX_is (a b : ByteArray) (c : Int) (h : cmpB a b = c) (w : World) (ha : a.size ≤ 100000000) (hb : b.size ≤ 100000000) :
    Calls Try.prog 53 #[.string a, .string b] w fun e w' => e = .returned (.int .i64 c) ∧ Below w.heap.size w w' := by subst h; exact compareR_any a b w ha hb
theorem ownI_app {w : World} {base : Nat} {v : Value} {O : List It} {x : It} {n : Nat} (hn : O.length = n) (h : w.ownsRow base 46 4 v (n + 1) (itf O ++ (#[.string x.p, .int .i64 x.id, .int .i64 x.sz, .string x.sm] : Array Value).toList)) : w.ownsRow base 46 4 v (O ++ [x]).length (itf (O ++ [x])) := by
  rw [List.length_append, hn, itf_app]
  exact h
set_option maxRecDepth 20000 in
set_option maxHeartbeats 4000000 in
theorem rput_any (l : List It) (A : Option Addr) (n c : Nat) (hn : l.length = n) (hl : n ≤ 1000000) (hz : ∀ y ∈ l, y.p.size ≤ 100000000) (x : It) (hx : x.p.size ≤ 100000000) (w : World) (hr : Rd w A (itf l)) :
    Calls Try.prog 59 #[.slice A n c, .agg #[.string x.p, .int .i64 x.id, .int .i64 x.sz, .string x.sm]] w fun e w' => RetS w (putR l x).length (itf (putR l x)) e w' := by
  have HN := Lib.hid (And.intro hn trivial)
  have HZ := Lib.hid hz
  have HR := Lib.hid hr
  clear hn hz hr
  have hb0 := (Below.refl (w.heap.size + 1) (w.alloc (.cells #[.string x.p, .int .i64 x.id, .int .i64 x.sz, .string x.sm] 46)))
  have hbw := (Below.refl w.heap.size w).alloc (Nat.le_refl _) (.cells #[.string x.p, .int .i64 x.id, .int .i64 x.sz, .string x.sm] 46)
  have hk := Bk.new w 46 #[.string x.p, .int .i64 x.id, .int .i64 x.sz, .string x.sm]
  have hsz : (w.alloc (.cells #[.string x.p, .int .i64 x.id, .int .i64 x.sz, .string x.sm] 46)).heap.size = w.heap.size + 1 := by simp
  have HB := Lib.hid (And.intro hbw (And.intro hk (And.intro hsz hb0)))
  clear hbw hk hsz hb0
  go_enter Try.func59, Try.ntmps59
  go_wp2_with fail
  generalize w.alloc (.cells #[.string x.p, .int .i64 x.id, .int .i64 x.sz, .string x.sm] 46) = w1 at *
  go_loopw [5, 6, 7] (fun vo vd vi wr => ∃ (i : Nat) (st : List It × Bool), vi = .int .i64 (i : Nat) ∧ i ≤ n ∧ Hid ((l.take i).foldl (stepR x) ([], false) = st ∧ True) ∧ vd = .bool st.2 ∧ Hid (wr.ownsRow (w.heap.size + 1) 46 4 vo st.1.length (itf st.1)) ∧ Hid (Below (w.heap.size + 1) w1 wr)) (fun _ _ vi _ => n - iOfI vi)
  case atStart => exact ⟨0, ([], false), rfl, by omega, Lib.hid ⟨by simp, trivial⟩, rfl, Lib.hid ⟨rfl, Or.inl ⟨rfl, rfl⟩⟩, Lib.hid HB.out.2.2.2⟩
  case round =>
    obtain ⟨i, ⟨O, d⟩, rfl, hi, HST, hvd, HO, HBL⟩ := hrel
    simp only at hvd HO
    subst hvd
    obtain ⟨m, hm⟩ : ∃ m, O.length = m := ⟨_, rfl⟩
    have hm2 : m ≤ 2 * n := by
      have := fold_len x l i
      rw [HST.out.1] at this
      simp only at this
      omega
    rw [hm] at HO
    have HM := Lib.hid (And.intro hm trivial)
    clear hm
    have hbw := HB.out.1.trans (HBL.out.mono (Nat.le_add_right _ 1))
    have hkx := HB.out.2.1.below HBL.out (by omega)
    have x0 := hkx.cell_ 0 (.string x.p) rfl
    have x1 := hkx.cell_ 1 (.int .i64 x.id) rfl
    have x2 := hkx.cell_ 2 (.int .i64 x.sz) rfl
    have x3 := hkx.cell_ 3 (.string x.sm) rfl
    have HW := Lib.hid (And.intro hbw hkx)
    have hszr : w.heap.size < wr.heap.size := hkx.lt
    clear hbw hkx
    by_cases hil : i < n
    · have hl1 : (i : Int) < (n : Int) := by omega
      obtain ⟨y, hy⟩ : ∃ y, l[i]? = some y := ⟨_, List.getElem?_eq_getElem (by rw [HN.out.1]; exact hil)⟩
      obtain ⟨b, o, rfl, hbl, r0, r1, r2, r3⟩ := (HR.out.below HW.out.1).item hy
      have hyz := HZ.out y (List.mem_of_getElem? hy)
      have HY := Lib.hid hy
      obtain ⟨k, hk⟩ : ∃ k, cmpB y.p x.p = k := ⟨_, rfl⟩
      have k1 := cmp_zero y.p x.p
      have k2 : 0 < k ↔ x.p.toList < y.p.toList := by
        have h1 := cmp_lt x.p y.p
        have h2 : cmpB x.p y.p = - cmpB y.p x.p := cb_swap _ _
        rw [← h1, h2, hk]
        omega
      rw [hk] at k1
      have HK := Lib.hid (And.intro hk (And.intro k1 k2))
      have HS0 : Hid (∀ w', Below wr.heap.size wr w' → Below wr.heap.size wr w' ∧ w'.cell? ⟨b, o + i * 4, none⟩ = some (.string y.p) ∧ w'.cell? ⟨w.heap.size, 0, none⟩ = some (.string x.p)) := Lib.hid fun w' h => ⟨h, (h.cell hbl).trans r0, (HW.out.2.below' h).cell_ 0 (.string x.p) rfl⟩
      clear hy hk k1 k2 x0 x1 x2 x3 r0 r1 r2 r3
      go_wp2_with fail
      go_region_held3 (fun w' => Below wr.heap.size wr w' ∧ w'.cell? ⟨b, o + i * 4, none⟩ = some (.string y.p) ∧ w'.cell? ⟨w.heap.size, 0, none⟩ = some (.string x.p))
        (first | with_reducible exact HS0.out _ (ka wr) | with_reducible exact HS0.out _ hX)
        (first | (go_at_call 53; (with_reducible refine (compareRX_is y.p x.p k HK.out.1 _ hyz hx).mono ?_); rintro e w3 ⟨rfl, hb3⟩; have hX := below_of_drew hb3))
      all_goals
        have HB3 := Lib.hid (HBL.out.trans (hX.mono (by have := HBL.out.size; have := HB.out.2.2.1; omega)))
        have hk3 := HW.out.2.below' hX
        have x0 := hk3.cell_ 0 (.string x.p) rfl
        have x1 := hk3.cell_ 1 (.int .i64 x.id) rfl
        have x2 := hk3.cell_ 2 (.int .i64 x.sz) rfl
        have x3 := hk3.cell_ 3 (.string x.sm) rfl
        have hl3 : w.heap.size < w3.heap.size := hk3.lt
        obtain ⟨b', o', hA, hbl', r0, r1, r2, r3⟩ := ((HR.out.below HW.out.1).below hX).item HY.out
        cases hA
        have HO3 := Lib.hid (own_belowI HO.out hX)
        have hsz3 : w.heap.size + 1 ≤ w3.heap.size := hl3
        have HR3 := Lib.hid (And.intro ((HR.out.below HW.out.1).below hX) hk3)
        clear hb3 hX hk3 HS0
        by_cases hk0 : k = 0
        · have hkb : (k == 0) = true := by simp [hk0]
          have hpp := HK.out.2.1.1 hk0
          by_cases hid : x.id < y.id
          · have hstep : stepR x (O, d) y = (O ++ [y], true) := by unfold stepR; rw [if_pos hpp, if_pos hid]
            have HSTP := Lib.hid (And.intro hstep trivial)
            clear hstep hpp
            go_wp2_with fail
            go_quiet (fail)
            have HO4 : Hid ((w3.drewN nq).ownsRow (w.heap.size + 1) 46 4 u5 m (itf O)) := Lib.hid HO3.out
            have HB4 : Hid (Below (w.heap.size + 1) w1 (w3.drewN nq)) := Lib.hid (below_dnS HB3.out nq)
            have r0' : (w3.drewN nq).cell? ⟨b, o + i * 4, none⟩ = some (.string y.p) := r0
            have r1' : (w3.drewN nq).cell? ⟨b, o + i * 4 + 1, none⟩ = some (.int .i64 y.id) := r1
            have r2' : (w3.drewN nq).cell? ⟨b, o + i * 4 + 2, none⟩ = some (.int .i64 y.sz) := r2
            have r3' : (w3.drewN nq).cell? ⟨b, o + i * 4 + 3, none⟩ = some (.string y.sm) := r3
            have hs4 : w.heap.size + 1 ≤ (w3.drewN nq).heap.size := hsz3
            clear r0 r1 r2 r3 x0 x1 x2 x3 HO3 HB3 HR3 hl3 hsz3
            generalize w3.drewN nq = w4 at *
            go_wp2_with (at_builtin; go_must (refine wpList_append_new _ rfl (.tmp 33) (.tmp 38) 23 rfl (w.heap.size + 1) 46 4 48 el_item _ _ _ HO4.out (by rfl) _ (by rfl) rfl (cells_one _) (by unfold maxLen; omega) (by omega) hs4 ?_); intro v5 w5 ho5 hb5)
            have ho6 := ownI_app HM.out.1 ho5
            go_round
            case rel => exact ⟨i + 1, (O ++ [y], true), by first | rfl | go_num, by omega, Lib.hid ⟨by rw [fold_take x l i y HY.out, HST.out.1, HSTP.out.1], trivial⟩, rfl, Lib.hid ho6, Lib.hid (HB4.out.trans hb5)⟩
            case measure => simp [iOfI]; omega
          · have hstep : stepR x (O, d) y = (O ++ [x], true) := by unfold stepR; rw [if_pos hpp, if_neg hid]
            have HSTP := Lib.hid (And.intro hstep trivial)
            clear hstep hpp
            go_wp2_with fail
            go_quiet (fail)
            have HO4 : Hid ((w3.drewN nq).ownsRow (w.heap.size + 1) 46 4 u5 m (itf O)) := Lib.hid HO3.out
            have HB4 : Hid (Below (w.heap.size + 1) w1 (w3.drewN nq)) := Lib.hid (below_dnS HB3.out nq)
            have y0' : (w3.drewN nq).cell? ⟨w.heap.size, 0, none⟩ = some (.string x.p) := x0
            have y1' : (w3.drewN nq).cell? ⟨w.heap.size, 1, none⟩ = some (.int .i64 x.id) := x1
            have y2' : (w3.drewN nq).cell? ⟨w.heap.size, 2, none⟩ = some (.int .i64 x.sz) := x2
            have y3' : (w3.drewN nq).cell? ⟨w.heap.size, 3, none⟩ = some (.string x.sm) := x3
            have hs4 : w.heap.size + 1 ≤ (w3.drewN nq).heap.size := hsz3
            clear r0 r1 r2 r3 x0 x1 x2 x3 HO3 HB3 HR3 hl3 hsz3
            generalize w3.drewN nq = w4 at *
            go_wp2_with (at_builtin; go_must (refine wpList_append_new _ rfl (.tmp 40) (.tmp 42) 23 rfl (w.heap.size + 1) 46 4 48 el_item _ _ _ HO4.out (by rfl) _ (by rfl) rfl (cells_one _) (by unfold maxLen; omega) (by omega) hs4 ?_); intro v5 w5 ho5 hb5)
            have ho6 := ownI_app HM.out.1 ho5
            go_round
            case rel => exact ⟨i + 1, (O ++ [x], true), by first | rfl | go_num, by omega, Lib.hid ⟨by rw [fold_take x l i y HY.out, HST.out.1, HSTP.out.1], trivial⟩, rfl, Lib.hid ho6, Lib.hid (HB4.out.trans hb5)⟩
            case measure => simp [iOfI]; omega
        · have hkb : (k == 0) = false := by simp [hk0]
          have hpp : ¬ y.p = x.p := fun e => hk0 (HK.out.2.1.2 e)
          by_cases hpos : 0 < k ∧ d = false
          · obtain ⟨hp1, rfl⟩ := hpos
            have hstep : stepR x (O, false) y = (O ++ [x] ++ [y], true) := by unfold stepR; rw [if_neg hpp, if_pos ⟨HK.out.2.2.1 hp1, rfl⟩]
            have HSTP := Lib.hid (And.intro hstep trivial)
            clear hstep hpp
            have hm1 : (O ++ [x]).length = m + 1 := by rw [List.length_append, HM.out.1]; rfl
            have HM1 := Lib.hid (And.intro hm1 trivial)
            clear hm1 r0 r1 r2 r3
            go_wp2_with (at_builtin; go_must (first
              | (refine wpList_append_new _ rfl (.tmp 50) (.tmp 52) 23 rfl (w.heap.size + 1) 46 4 48 el_item _ _ _ HO3.out (by rfl) _ (by rfl) rfl (cells_one _) (by unfold maxLen; omega) (by omega) hsz3 ?_; intro v5 w5 ho5 hb5; have ho6 := Lib.hid (ownI_app HM.out.1 ho5); rw [HM1.out.1] at ho6; have HB5 := Lib.hid (HB3.out.trans hb5); have hs5 : w.heap.size + 1 ≤ w5.heap.size := Nat.le_trans hsz3 hb5.size; obtain ⟨b2, o2, hA2, _, s0, s1, s2, s3⟩ := (HR.out.below (HB.out.1.trans (HB5.out.mono (Nat.le_add_right _ 1)))).item HY.out; cases hA2)
              | (refine wpList_append_new _ rfl (.tmp 54) (.tmp 59) 23 rfl (w.heap.size + 1) 46 4 48 el_item _ _ _ ho6.out (by rfl) _ (by rfl) rfl (cells_one _) (by unfold maxLen; omega) (by omega) hs5 ?_; intro v7 w7 ho7 hb7)))
            have ho8 := ownI_app HM1.out.1 ho7
            go_round
            case rel => exact ⟨i + 1, (O ++ [x] ++ [y], true), by first | rfl | go_num, by omega, Lib.hid ⟨by rw [fold_take x l i y HY.out, HST.out.1, HSTP.out.1], trivial⟩, rfl, Lib.hid ho8, Lib.hid (HB5.out.trans hb7)⟩
            case measure => simp [iOfI]; omega
          · have hstep : stepR x (O, d) y = (O ++ [y], d) := by
              unfold stepR
              rw [if_neg hpp, if_neg (fun e => hpos ⟨HK.out.2.2.2 e.1, e.2⟩)]
            have HSTP := Lib.hid (And.intro hstep trivial)
            have hcase : (¬ 0 < k) ∨ (0 < k ∧ d = true) := by
              by_cases h1 : 0 < k
              · right
                refine ⟨h1, ?_⟩
                cases d with
                | true => rfl
                | false => exact absurd ⟨h1, rfl⟩ hpos
              · exact .inl h1
            clear hstep hpp hpos
            rcases hcase with hk1 | ⟨hk1, rfl⟩
            all_goals
              go_wp2_with (at_builtin; go_must (refine wpList_append_new _ rfl (.tmp 54) (.tmp 59) 23 rfl (w.heap.size + 1) 46 4 48 el_item _ _ _ HO3.out (by rfl) _ (by rfl) rfl (cells_one _) (by unfold maxLen; omega) (by omega) hsz3 ?_); intro v5 w5 ho5 hb5)
              have ho6 := ownI_app HM.out.1 ho5
              go_round
              case rel => exact ⟨i + 1, (O ++ [y], _), by first | rfl | go_num, by omega, Lib.hid ⟨by rw [fold_take x l i y HY.out, HST.out.1, HSTP.out.1], trivial⟩, rfl, Lib.hid ho6, Lib.hid (HB3.out.trans hb5)⟩
              case measure => simp [iOfI]; omega
    · obtain rfl : i = n := by omega
      have hfold : l.foldl (stepR x) ([], false) = (O, d) := by
        have := HST.out.1
        rwa [List.take_of_length_le (by rw [HN.out.1]; exact Nat.le_refl _)] at this
      have HF := Lib.hid (And.intro hfold trivial)
      clear hfold
      have hbase : w.heap.size + 1 ≤ wr.heap.size := hszr
      cases d with
      | true =>
        have hp : putR l x = O := by unfold putR; rw [HF.out.1]; rfl
        have HP := Lib.hid (And.intro hp trivial)
        obtain ⟨_, A2, c2, rfl, h1, h2, h3⟩ := Sl.own HO.out
        have H3 := Lib.hid h3
        clear hp h3
        go_wp2_with fail
        go_ret
        rw [HP.out.1, HM.out.1]
        exact ⟨A2, c2, rfl, h1, h2, H3.out, fun ad hA => by subst hA; have := (HO.out.lt ad.block rfl).1; omega, HW.out.1⟩
      | false =>
        have hp : putR l x = O ++ [x] := by unfold putR; rw [HF.out.1]; rfl
        have HP := Lib.hid (And.intro hp trivial)
        clear hp
        go_wp2_with (at_builtin; go_must (refine wpList_append_new _ rfl (.tmp 63) (.tmp 65) 23 rfl (w.heap.size + 1) 46 4 48 el_item _ _ _ HO.out (by rfl) _ (by rfl) rfl (cells_one _) (by unfold maxLen; omega) (by omega) hbase ?_); intro v5 w5 ho5 hb5)
        have ho6 := ownI_app HM.out.1 ho5
        obtain ⟨_, A2, c2, rfl, h1, h2, h3⟩ := Sl.own ho6
        have H3 := Lib.hid (And.intro h3 (And.intro ho6 (HBL.out.trans hb5)))
        clear h3 ho6 ho5 hb5
        go_wp2_with fail
        go_ret
        rw [HP.out.1]
        exact ⟨A2, c2, rfl, h1, h2, H3.out.1, fun ad hA => by subst hA; have := (H3.out.2.1.lt ad.block rfl).1; omega, HB.out.1.trans (H3.out.2.2.mono (Nat.le_add_right _ 1))⟩
end Go.Proofs.Ytnhbkfefpkocaaa
