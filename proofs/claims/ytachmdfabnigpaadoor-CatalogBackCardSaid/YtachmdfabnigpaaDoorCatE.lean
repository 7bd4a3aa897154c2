/-
  Entries in a row: slices.Clone.
-/
import Derived.Test.YtachmdfabnigpaaDoorCatD
import Derived.Lib.SliceRun
namespace Go.Proofs.YtachmdfabnigpaaDoor
open Go.RowKit Go.Sort

theorem Tryd.info25 : (Tryd.prog.info? 25).map (fun i => (i.zero, i.size, i.bytes)) = some (some (.agg #[.int .i64 0, .string ⟨#[]⟩, .int .i64 0, .int .i64 0, .int .i64 0, .string ⟨#[]⟩, .string ⟨#[]⟩, .int .i64 0]), 8, 88) := by kernel_rfl
theorem el_ext : El Tryd.prog 68 25 8 88 := El.mk_ (z := .agg #[.int .i64 0, .string ⟨#[]⟩, .int .i64 0, .int .i64 0, .int .i64 0, .string ⟨#[]⟩, .string ⟨#[]⟩, .int .i64 0]) Tryd.underlying68 Tryd.info25 (by omega) rfl

/-- The cells of entries. -/
def flat (l : List Ent) : List Value := (flatK Ent.cs 8 l.toArray).toList
theorem flat_len (l : List Ent) : (flat l).length = l.length * 8 := by unfold flat; rw [Array.length_toList, size_flatK]; rfl
theorem flat_one (l : List Ent) : ∀ u ∈ flat l, u.oneCell' = true := fun u hu => by
  obtain ⟨t, ht, rfl⟩ := List.mem_iff_getElem.1 hu
  unfold flat at ht ⊢
  rw [Array.length_toList] at ht
  rw [Array.getElem_toList, ← getElem!_pos _ t ht, get_flatK _ _ _ t (by simpa using ht)]
  have h8 : t % 8 < (Ent.cs l.toArray[t / 8]!).length := by rw [Ent.len]; omega
  rw [getElem!_pos (Ent.cs l.toArray[t / 8]!) (t % 8) h8]
  exact Ent.one _ _ (List.getElem_mem h8)
theorem holds_flat {w : World} {g n : Nat} {e : TypeId} {cur : Array Value} {l : List Ent} (h : Bk w g e cur) (ht : cur.toList.take (n * 8) = flat l) : Ents w g l := by
  refine ⟨h.lt, fun j hj => ⟨?_, by rw [Nat.zero_add]; exact h.frozen j⟩⟩
  rw [Nat.zero_add, h.cell j]
  have h1 : (flat l)[j]? = some (flatK Ent.cs 8 l.toArray)[j]! := by
    unfold flat
    rw [Array.getElem?_toList, getElem!_pos _ j hj, Array.getElem?_eq_getElem hj]
  rw [← ht, List.getElem?_take] at h1
  split at h1
  · rw [Array.getElem?_toList] at h1; exact h1
  · cases h1

/-- Entries in a slice, nil or not. -/
def CloneEnd (l : List Ent) (w : World) (e : Ending) (w' : World) : Prop :=
  ∃ (A : Option Addr) (c : Nat), e = .returned (.slice A l.length c) ∧ (l ≠ [] → ∃ g, A = some ⟨g, 0, none⟩ ∧ w.heap.size ≤ g ∧ Ents w' g l) ∧ Below w.heap.size w w'
set_option maxRecDepth 20000 in
set_option maxHeartbeats 2000000 in
theorem clone_any (l : List Ent) (A : Option Addr) (n c : Nat) (hn : l.length = n) (hl : n ≤ 1000) (w : World) (hr : Rd w A (flat l)) :
    Calls Tryd.prog 37 #[.slice A n c] w (CloneEnd l w) := by
  have Hn := Lib.hid hn
  clear hn
  cases A with
  | none =>
    have h0 : l = [] := by
      rcases List.eq_nil_or_concat l with h | ⟨a, b, h⟩
      · exact h
      · obtain ⟨_, _, e, _⟩ := hr (by intro e; have := flat_len l; rw [e, h] at this; simp at this)
        cases e
    subst h0
    obtain rfl : n = 0 := Hn.out.symm
    clear Hn
    have hnil := fun w => Go.Lib.run_eql_slice_nil (P := Tryd.prog) w 68 25 none 0 c 0 0 Tryd.underlying68
    go_enter Tryd.func37, Tryd.ntmps37
    go_wp2_with fail
    go_ret
    exact ⟨none, 0, rfl, fun h => absurd rfl h, Below.refl _ _⟩
  | some ad =>
    have hnil := fun w => Go.Lib.run_eql_slice_nil (P := Tryd.prog) w 68 25 (some ad) n c 0 0 Tryd.underlying68
    have hfl := Lib.hid (show (flat l).length = n * 8 by rw [flat_len, Hn.out])
    have hw := (Below.refl w.heap.size w).alloc (Nat.le_refl _) (.cells #[] 25)
    have ho := World.ownsRow_lit (base := w.heap.size) (e := 25) (size := 8) w #[] 0 (Nat.le_refl _) (by unfold maxLen; omega) rfl
    have hr2 := hr.below ((Below.refl w.heap.size w).alloc (Nat.le_refl _) (.cells #[] 25))
    go_enter Tryd.func37, Tryd.ntmps37
    go_wp2_with (at_builtin; go_must (refine wpList_append_src _ rfl (.tmp 5) (.tmp 6) 68 rfl w.heap.size 25 8 88 el_ext _ _ _ ho rfl _ _ _ _ hr2 hfl.out rfl (flat_one l) (by unfold maxLen; omega) (by omega) (by simp) ?_); intro v1 w1 hown1 hb1; simp only [Nat.zero_add, List.nil_append] at hown1; obtain ⟨_, A1, c1, hv1, hq1, hq2, hq3⟩ := Sl.own hown1; have Hv := Lib.hid hv1; have HO := Lib.hid hown1; clear hv1 hown1 hq3; rw [Hv.out])
    go_ret
    refine ⟨A1, c1, by rw [Hn.out]; rfl, fun hne => ?_, hw.trans hb1⟩
    rcases HO.out.2 with ⟨_, h0⟩ | ⟨g, cap, cur, hv, hg, hg2, _, _, _, ht⟩
    · exact absurd (List.eq_nil_of_length_eq_zero (Hn.out.trans h0)) hne
    · rw [Hv.out] at hv
      simp only [Value.slice.injEq] at hv
      exact ⟨g, hv.1, hg, holds_flat hg2 ht⟩
end Go.Proofs.YtachmdfabnigpaaDoor
