/-
  slices.Clone at files; filemap.Sort.
-/
import Derived.Test.YtbgnbkomckbckaaFmI
import Derived.Test.YtbgnbkomckbckaaFmK
import Derived.Lib.SliceRun
namespace Go.Proofs.Ytbgnbkomckbckaa
open Go.RowKit Go.Sort

theorem Try.info41 : (Try.prog.info? 41).map (fun i => (i.zero, i.size, i.bytes)) = some (some (.agg #[.string ⟨#[]⟩, .string ⟨#[]⟩]), 2, 32) := by kernel_rfl
theorem el_file : El Try.prog 22 41 2 32 := El.mk_ (z := .agg #[.string ⟨#[]⟩, .string ⟨#[]⟩]) Try.underlying22 Try.info41 (by omega) rfl
/-- Files in a slice, nil or not. -/
def FSl (l : List Fl) (w : World) (v : Value) (w' : World) : Prop :=
  ∃ (A : Option Addr) (c : Nat), v = .slice A l.length c ∧ l.length ≤ c ∧ c ≤ maxLen ∧ Rd w' A (fl l) ∧ (l ≠ [] → ∃ g, A = some ⟨g, 0, none⟩ ∧ w.heap.size ≤ g ∧ FRow w' g l) ∧ Below w.heap.size w w'
def CloneEnd (l : List Fl) (w : World) (e : Ending) (w' : World) : Prop := ∃ v, e = .returned v ∧ FSl l w v w'
theorem FRow.rd {w : World} {g : Nat} {l : List Fl} (h : FRow w g l) : Rd w (some ⟨g, 0, none⟩) (fl l) := by
  obtain ⟨cur, h1, h2⟩ := h
  rw [← h2]
  exact h1.rd _
set_option maxRecDepth 20000 in
set_option maxHeartbeats 2000000 in
theorem clone_any (l : List Fl) (A : Option Addr) (n c : Nat) (hn : l.length = n) (hl : n ≤ 1000) (w : World) (hr : Rd w A (fl l)) :
    Calls Try.prog 27 #[.slice A n c] w (CloneEnd l w) := by
  have Hn := Lib.hid hn
  clear hn
  cases A with
  | none =>
    have h0 : l = [] := by
      rcases List.eq_nil_or_concat l with h | ⟨a, b, h⟩
      · exact h
      · obtain ⟨_, _, e, _⟩ := hr (by intro e; have := fl_len l; rw [e, h] at this; simp at this)
        cases e
    subst h0
    obtain rfl : n = 0 := Hn.out.symm
    clear Hn
    have hnil := fun w => Go.Lib.run_eql_slice_nil (P := Try.prog) w 22 41 none 0 c 0 0 Try.underlying22
    go_enter Try.func27, Try.ntmps27
    go_wp2_with fail
    go_ret
    exact ⟨_, rfl, none, 0, rfl, by simp, by unfold maxLen; omega, Rd.nil _ _, fun h => absurd rfl h, Below.refl _ _⟩
  | some ad =>
    have hnil := fun w => Go.Lib.run_eql_slice_nil (P := Try.prog) w 22 41 (some ad) n c 0 0 Try.underlying22
    have hfl := Lib.hid (show (fl l).length = n * 2 by rw [fl_len, Hn.out])
    have hw := (Below.refl w.heap.size w).alloc (Nat.le_refl _) (.cells #[] 41)
    have ho := World.ownsRow_lit (base := w.heap.size) (e := 41) (size := 2) w #[] 0 (Nat.le_refl _) (by unfold maxLen; omega) rfl
    have hr2 := hr.below ((Below.refl w.heap.size w).alloc (Nat.le_refl _) (.cells #[] 41))
    go_enter Try.func27, Try.ntmps27
    go_wp2_with (at_builtin; go_must (refine wpList_append_src _ rfl (.tmp 5) (.tmp 6) 22 rfl w.heap.size 41 2 32 el_file _ _ _ ho rfl _ _ _ _ hr2 hfl.out rfl (fl_one l) (by unfold maxLen; omega) (by omega) (by simp) ?_); intro v1 w1 hown1 hb1; simp only [Nat.zero_add, List.nil_append] at hown1; obtain ⟨_, A1, c1, hv1, hq1, hq2, hq3⟩ := Sl.own hown1; have Hv := Lib.hid hv1; have HO := Lib.hid hown1; have HQ3 := Lib.hid hq3; clear hv1 hown1 hq3; rw [Hv.out])
    go_ret
    refine ⟨_, rfl, A1, c1, by rw [Hn.out]; rfl, by rw [Hn.out]; exact hq1, hq2, HQ3.out, fun hne => ?_, hw.trans hb1⟩
    rcases HO.out.2 with ⟨_, h0⟩ | ⟨g, cap, cur, hv, hg, hg2, _, _, _, ht⟩
    · exact absurd (List.eq_nil_of_length_eq_zero (Hn.out.trans h0)) hne
    · rw [Hv.out] at hv
      simp only [Value.slice.injEq] at hv
      refine ⟨g, hv.1, hg, cur, hg2, ?_⟩
      rw [Hn.out]
      exact ht

set_option maxRecDepth 20000 in
set_option maxHeartbeats 2000000 in
/-- filemap.Sort. -/
theorem sort_any (l : List Fl) (A : Option Addr) (n c : Nat) (hn : l.length = n) (hl : n ≤ 1000) (w : World) (hr : Rd w A (fl l)) :
    Calls Try.prog 15 #[.slice A n c] w (CloneEnd (sortF l) w) := by
  have Hn := Lib.hid hn
  go_enter Try.func15, Try.ntmps15
  go_wp2_with fail
  (with_reducible refine (clone_any l A n c hn hl w hr).mono ?_)
  rintro e w1 ⟨v, rfl, A1, c1, rfl, h1, h2, h3, h4, hb⟩
  by_cases hne : l = []
  · subst hne
    obtain rfl : n = 0 := hn.symm
    clear hn h4
    go_wp2_with fail
    (with_reducible refine (sortStable0_any A1 c1 _ _).mono ?_)
    rintro e w2 ⟨rfl, rfl⟩
    go_wp2_with fail
    go_ret
    exact ⟨_, rfl, A1, c1, rfl, by simp [sortF], h2, Rd.nil _ _, fun h => absurd rfl h, hb⟩
  · obtain ⟨g, rfl, hg, hF⟩ := h4 hne
    clear hne h3 hr
    rw [hn] at h1 ⊢
    clear hn
    go_wp2_with fail
    (with_reducible refine (sortStable_any g c1 n l _ Hn.out hl hF).mono ?_)
    rintro e w2 ⟨rfl, ⟨Z, z1, z2, z3, hF2⟩, hg2⟩
    have e : Z = sortF l := sortF_unique z2 z3
    subst e
    simp only [List.nil_append, List.append_nil] at hF2
    have HF2 := Lib.hid hF2
    clear z1 z2 z3
    go_wp2_with fail
    go_ret
    exact ⟨_, rfl, some ⟨g, 0, none⟩, c1, by rw [(sortF_law l).2.2, Hn.out]; rfl, by rw [(sortF_law l).2.2, Hn.out]; exact h1, h2, hF2.rd, fun _ => ⟨g, rfl, hg, hF2⟩, hb.trans (below_only hg2 hg hb.size)⟩
end Go.Proofs.Ytbgnbkomckbckaa
