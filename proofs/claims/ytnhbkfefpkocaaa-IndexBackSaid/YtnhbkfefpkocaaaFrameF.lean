/-
  The frame of a law's row: a list of api.Files as an argument.
-/
import Derived.Test.YtnhbkfefpkocaaaFrame
import Derived.Test.YtnhbkfefpkocaaaP4
import Derived.Deep.Slices
import Derived.Deep.Fields
import Derived.ChangeSame
namespace Go.Proofs.Ytnhbkfefpkocaaa
open Go.ChangeShapes Go.WideShapes Go.ChangeAt Go.RowKit Go.Deep

theorem cells_file : Try.prog.cellsOf 73 = 2 := by kernel_rfl
theorem cells_strF : Try.prog.cellsOf 9 = 1 := by kernel_rfl
theorem list2 {α : Type} {l : List α} (h : l.length = 2) : ∃ a b, l = [a, b] := by
  match l, h with
  | [a, b], _ => exact ⟨a, b, rfl⟩
theorem opt_someF {α : Type} {xs : List α} {n i : Nat} (h : xs.length = n) (hi : i < n) : ∃ y, xs[i]? = some y := ⟨xs[i]'(by omega), List.getElem?_eq_getElem (by omega)⟩
section
variable {H : Type} {enc : TypeId × Value → H} {w : World} {base : Nat} {sp : Nat → Bool} {held : Bool}
theorem one_strF {fuel : Nat} {c : Value} {x : DataW H × List MemPlace} (h : DataW.trod enc Try.prog w base sp held fuel 9 [c] = some x) : ∃ s, c = .string s := by
  obtain ⟨n, hc, _, _⟩ := DataW.trod_string Try.underlying9 h
  exact ⟨n, by simpa using hc⟩
set_option maxRecDepth 20000 in
theorem open_file {fuel : Nat} {l : List Value} {x : DataW H × List MemPlace} (hf : DataW.trod enc Try.prog w base sp held fuel 73 l = some x) :
    ∃ (y : Fl), l = [.string y.1, .string y.2] := by
  obtain ⟨xs, n, _, _, hcl, hlen, hg⟩ := DataW.trod_struct Try.underlying73 hf
  rw [cells_file] at hcl
  obtain ⟨c0, c1, rfl⟩ := list2 hcl
  obtain ⟨y0, e0⟩ := opt_someF (i := 0) hlen (by decide)
  obtain ⟨y1, e1⟩ := opt_someF (i := 1) hlen (by decide)
  have h0 := hg 0
  have h1 := hg 1
  simp only [List.getElem?_toArray, List.getElem?_cons_zero, List.getElem?_cons_succ, Option.some.injEq, forall_eq', cells_strF, List.drop_zero, List.drop_succ_cons, List.take_succ_cons, List.take_zero] at h0 h1
  rw [e0] at h0; rw [e1] at h1
  obtain ⟨p, rfl⟩ := one_strF h0
  obtain ⟨d, rfl⟩ := one_strF h1
  exact ⟨(p, d), rfl⟩
/-- A list of files out of their cells. -/
theorem files_of {w : World} {b o : Nat} : ∀ (n : Nat), (∀ i, i < n → ∃ y : Fl, w.cell? ⟨b, o + i * 2, none⟩ = some (.string y.1) ∧ w.cell? ⟨b, o + (i * 2 + 1), none⟩ = some (.string y.2)) →
    ∃ l : List Fl, l.length = n ∧ ∀ j u, (fl l)[j]? = some u → w.cell? ⟨b, o + j, none⟩ = some u
  | 0, _ => ⟨[], rfl, fun j u h => by simp [fl] at h⟩
  | n + 1, h => by
    obtain ⟨l, hl, hc⟩ := files_of n fun i hi => h i (by omega)
    obtain ⟨y, h0, h1⟩ := h n (by omega)
    refine ⟨l ++ [y], by simp [hl], fun j u hj => ?_⟩
    rw [fl_app] at hj
    by_cases hjn : j < (fl l).length
    · rw [List.getElem?_append_left hjn] at hj
      exact hc j u hj
    · rw [List.getElem?_append_right (by omega)] at hj
      rw [fl_len, hl] at hj hjn
      obtain ⟨k, rfl⟩ : ∃ k, j = n * 2 + k := ⟨j - n * 2, by omega⟩
      rw [Nat.add_sub_cancel_left] at hj
      match k, hj with
      | 0, hj => simp [fl] at hj; rw [← hj]; exact h0
      | 1, hj => simp [fl] at hj; rw [← hj]; exact h1
      | k + 2, hj => simp [fl] at hj
end
section
variable {H : Type} {enc : TypeId × Value → H} {w : World} {b0 : Nat} {v : Value} {d : DataW H} {p : List MemPlace} {ts : List TypeId} {ds : List (DataW H)}
set_option maxRecDepth 20000 in
/-- An argument's shape, by its type: a list of files. -/
theorem arg_files (hval : Value.okWide Try.prog w .any b0 35 v) (h : DataW.Trod enc Try.prog w 0 (fun _ => true) true 35 v d p) (_hsz : (DataW.weightsEach Try.prog ts ds).all (· ≤ reachBytes) = true) (j : Nat) (_ht : ts[j]? = some 35) (_hd : ds[j]? = some d) :
    ∃ (A : Option Addr) (n c : Nat) (l : List Fl), v = .slice A n c ∧ l.length = n ∧ n ≤ c ∧ c ≤ 9223372036854775807 ∧ Rd w A (fl l) := by
  obtain ⟨a0, len, cap, rfl⟩ := okWide_slice Try.underlying35 hval
  obtain ⟨fuel, hf⟩ := h
  rcases open_slice Try.underlying35 hf with ⟨hcs, _⟩ | ⟨a, len', cap', m, n, D, Pl, hcs, _, hl, hm, hmm, _, hi⟩
  · simp [Value.cells] at hcs
    obtain ⟨rfl, rfl, rfl⟩ := hcs
    exact ⟨none, 0, 0, [], rfl, rfl, by omega, by omega, Rd.nil _ _⟩
  · simp [Value.cells] at hcs
    obtain ⟨rfl, rfl, rfl⟩ := hcs
    have hml : cap ≤ 9223372036854775807 := hm
    have hall : ∀ i, i < len → ∃ y : Fl, w.cell? ((a.add (i * 2)).add 0) = some (.string y.1) ∧ w.cell? ((a.add (i * 2)).add 1) = some (.string y.2) := fun i hin => by
      obtain ⟨cs', hc, ht'⟩ := hi i (by rw [hmm]; split <;> omega)
      rw [cells_file] at hc
      obtain ⟨_, hcl, hat⟩ := World.cells?_some hc
      obtain ⟨y, rfl⟩ := open_file ht'
      exact ⟨y, hat 0 (by decide), hat 1 (by decide)⟩
    by_cases h0 : len = 0
    · subst h0
      exact ⟨some a, 0, cap, [], rfl, rfl, by omega, by omega, Rd.nil _ _⟩
    · obtain ⟨b, o, sp⟩ := a
      have hsp : sp = none := by
        obtain ⟨y, h0, _⟩ := hall 0 (by omega)
        rw [Nat.zero_mul] at h0
        cases sp with
        | none => rfl
        | some x => simp [Addr.add, World.cell?] at h0; split at h0 <;> simp at h0
      subst hsp
      obtain ⟨l, hl2, hc⟩ := files_of (w := w) (b := b) (o := o) len fun i hin => by
        obtain ⟨y, h0, h1⟩ := hall i hin
        rw [add_mk, add_mk] at h0 h1
        exact ⟨y, h0, h1⟩
      exact ⟨some ⟨b, o, none⟩, len, cap, l, rfl, hl2, hl, by omega, fun _ => ⟨b, o, rfl, hc⟩⟩
end
end Go.Proofs.Ytnhbkfefpkocaaa
