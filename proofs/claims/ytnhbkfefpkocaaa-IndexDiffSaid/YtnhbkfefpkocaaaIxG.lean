/-
  index.at, index.Find; chapter 44's example (awake).
-/
import Derived.Test.YtnhbkfefpkocaaaIxF
namespace Go.Proofs.Ytnhbkfefpkocaaa
open Go.RowKit Go.Sort

set_option maxRecDepth 20000 in
theorem at_any (L : List It) (A : Option Addr) (n c : Nat) (hn : L.length = n) (hl : n ≤ 1000000) (hS : SrtI L) (p : ByteArray) (w : World) (hr : Rd w A (itf L)) :
    Calls Try.prog 54 #[.agg #[.slice A n c], .string p] w fun e w' => e = .returned (.tuple #[.int .i64 (posI p L : Nat), .bool (foundI p L)]) ∧ Below w.heap.size w w' := by
  have HN := Lib.hid (And.intro hn hS)
  have HR := Lib.hid hr
  clear hn hr hS
  have hb0 := (Below.refl w.heap.size w).alloc (Nat.le_refl _) (.cells #[.slice A n c] 25)
  have HB := Lib.hid hb0
  clear hb0
  go_enter Try.func54, Try.ntmps54
  go_wp2_with fail
  refine (bsearch_any L A n c HN.out.1 HN.out.2 hl ⟨p, 0, 0, ⟨#[]⟩⟩ _ (HR.out.below HB.out)).mono ?_
  rintro e w1 ⟨rfl, q, os, hw⟩
  have hb1 : Below w.heap.size w w1 := HB.out.trans ((by rw [hw]; exact gr_bel _ _ _ : Below _ _ w1).mono (by simp))
  have H := Lib.hid (And.intro hb1 trivial)
  clear hw hb1
  go_wp2_with fail
  go_ret2
  exact ⟨rfl, H.out.1⟩

/-- What Find tells. -/
def findI (L : List It) (p : ByteArray) : It := if foundI p L = true then L.getD (posI p L) default else default
set_option maxRecDepth 20000 in
set_option maxHeartbeats 1000000 in
theorem find_any (L : List It) (A : Option Addr) (n c : Nat) (hn : L.length = n) (hl : n ≤ 1000000) (hS : SrtI L) (p : ByteArray) (x : It) (b : Bool) (hx : findI L p = x) (hb : foundI p L = b) (w : World) (hr : Rd w A (itf L)) :
    Calls Try.prog 25 #[.agg #[.slice A n c], .string p] w fun e w' => e = .returned (.tuple #[.agg #[.string x.p, .int .i64 x.id, .int .i64 x.sz, .string x.sm], .bool b]) ∧ Below w.heap.size w w' := by
  have HN := Lib.hid (And.intro hn hS)
  have HR := Lib.hid hr
  have HX := Lib.hid (And.intro hx hb)
  clear hn hr hS hx hb
  have hb0 := ((Below.refl w.heap.size w).alloc (Nat.le_refl _) (.cells #[.slice A n c] 25)).alloc (by simp) (.cells #[.string ⟨#[]⟩, .int .i64 0, .int .i64 0, .string ⟨#[]⟩] 46)
  have hk0 := ((Bk.new w 25 #[.slice A n c])).alloc (.cells #[.string ⟨#[]⟩, .int .i64 0, .int .i64 0, .string ⟨#[]⟩] 46)
  have hk1 := Bk.new (w.alloc (.cells #[.slice A n c] 25)) 46 #[.string ⟨#[]⟩, .int .i64 0, .int .i64 0, .string ⟨#[]⟩]
  rw [World.size_alloc] at hk1
  have HB := Lib.hid (And.intro hb0 (And.intro hk0 hk1))
  clear hb0 hk0 hk1
  go_enter Try.func25, Try.ntmps25
  go_wp2_with fail
  have hsz : ((w.alloc (.cells #[.slice A n c] 25)).alloc (.cells #[.string ⟨#[]⟩, .int .i64 0, .int .i64 0, .string ⟨#[]⟩] 46)).heap.size = w.heap.size + 2 := by simp
  have HSZ := Lib.hid (And.intro hsz trivial)
  clear hsz
  generalize (w.alloc (.cells #[.slice A n c] 25)).alloc (.cells #[.string ⟨#[]⟩, .int .i64 0, .int .i64 0, .string ⟨#[]⟩] 46) = w2 at *
  refine (at_any L A n c HN.out.1 hl HN.out.2 p w2 (HR.out.below HB.out.1)).mono ?_
  rintro e w3 ⟨rfl, hb3⟩
  have hB3 := HB.out.1.trans (hb3.mono (by rw [HSZ.out.1]; omega))
  have hx3 := HB.out.2.1.below' hb3
  have hr3 := HB.out.2.2.below' hb3
  have cx := hx3.cell_ 0 (.slice A n c) rfl
  have c0 := hr3.cell_ 0 (.string ⟨#[]⟩) rfl
  have c1 := hr3.cell_ 1 (.int .i64 0) rfl
  have c2 := hr3.cell_ 2 (.int .i64 0) rfl
  have c3 := hr3.cell_ 3 (.string ⟨#[]⟩) rfl
  have f0 := hr3.frozen 0
  have f1 := hr3.frozen 1
  have f2 := hr3.frozen 2
  have f3 := hr3.frozen 3
  have H3 := Lib.hid (And.intro hB3 (And.intro hr3 (HR.out.below hB3)))
  clear hb3 hB3 hx3 hr3
  rw [HX.out.2]
  obtain ⟨pos, hpos⟩ : ∃ pos, posI p L = pos := ⟨_, rfl⟩
  rw [hpos]
  have HP := Lib.hid (And.intro hpos trivial)
  clear hpos
  cases b with
  | false =>
    have hxd : x = default := by rw [← HX.out.1]; unfold findI; rw [HX.out.2]; rfl
    subst hxd
    go_wp2_with fail
    have hB4 := H3.out.2.1.four (.string ⟨#[]⟩) (.int .i64 0) (.int .i64 0) (.string ⟨#[]⟩)
    have d0 := hB4.cell_ 0 (.string ⟨#[]⟩) rfl
    have d1 := hB4.cell_ 1 (.int .i64 0) rfl
    have d2 := hB4.cell_ 2 (.int .i64 0) rfl
    have d3 := hB4.cell_ 3 (.string ⟨#[]⟩) rfl
    refine bodyPost_ret (v := .tuple #[.agg #[.string ⟨#[]⟩, .int .i64 0, .int .i64 0, .string ⟨#[]⟩], .bool false]) (by simp [results, Try.results25, go_sem, d0, d1, d2, d3]) rfl ⟨rfl, ?_⟩
    exact ke H3.out.1 (w.heap.size + 1) (by omega) _ _ _ _
  | true =>
    have hget : L[pos]? = some x := by
      have h1 := HX.out.1
      have h2 := HX.out.2
      unfold findI at h1
      rw [if_pos h2, HP.out.1] at h1
      unfold foundI at h2
      rw [HP.out.1] at h2
      obtain ⟨y, hy, _⟩ := of_decide_eq_true h2
      rw [← h1, List.getD_eq_getElem?_getD, hy]
      rfl
    have hpn : (pos : Int) < (n : Int) := by have := (List.getElem?_eq_some_iff.1 hget).1; rw [HN.out.1] at this; omega
    obtain ⟨b, o, rfl, _, r0, r1, r2, r3⟩ := H3.out.2.2.item hget
    clear hget
    go_wp2_with fail
    have hB4 := H3.out.2.1.four (.string x.p) (.int .i64 x.id) (.int .i64 x.sz) (.string x.sm)
    have d0 := hB4.cell_ 0 (.string x.p) rfl
    have d1 := hB4.cell_ 1 (.int .i64 x.id) rfl
    have d2 := hB4.cell_ 2 (.int .i64 x.sz) rfl
    have d3 := hB4.cell_ 3 (.string x.sm) rfl
    refine bodyPost_ret (v := .tuple #[.agg #[.string x.p, .int .i64 x.id, .int .i64 x.sz, .string x.sm], .bool true]) (by simp [results, Try.results25, go_sem, d0, d1, d2, d3]) rfl ⟨rfl, ?_⟩
    exact ke H3.out.1 (w.heap.size + 1) (by omega) _ _ _ _
end Go.Proofs.Ytnhbkfefpkocaaa
