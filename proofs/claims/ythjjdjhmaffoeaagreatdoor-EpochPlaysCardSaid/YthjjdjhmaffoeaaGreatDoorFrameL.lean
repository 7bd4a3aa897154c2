/-
  The frame of a law's row: a list of deeds on a disk as an argument.
-/
import Derived.Test.YthjjdjhmaffoeaaGreatDoorFrame
import Derived.Test.YthjjdjhmaffoeaaGreatDoorDdA
import Derived.Deep.Slices
import Derived.Deep.Fields
import Derived.ChangeSame
namespace Go.Proofs.YthjjdjhmaffoeaaGreatDoor
open Go.ChangeShapes Go.WideShapes Go.ChangeAt Go.RowKit Go.Deep
set_option maxRecDepth 20000

theorem cells_deed : Tryz.prog.cellsOf 31 = 3 := by kernel_rfl
theorem cells_strK : Tryz.prog.cellsOf 9 = 1 := by kernel_rfl
theorem cells_intK : Tryz.prog.cellsOf 3 = 1 := by kernel_rfl
theorem list3 {α : Type} {l : List α} (h : l.length = 3) : ∃ a b c, l = [a, b, c] := by
  match l, h with
  | [a, b, c], _ => exact ⟨a, b, c, rfl⟩
theorem opt_someK {α : Type} {xs : List α} {n i : Nat} (h : xs.length = n) (hi : i < n) : ∃ y, xs[i]? = some y := ⟨xs[i]'(by omega), List.getElem?_eq_getElem (by omega)⟩
section
variable {H : Type} {enc : TypeId × Value → H} {w : World} {base : Nat} {sp : Nat → Bool} {held : Bool}
theorem one_strK {fuel : Nat} {c : Value} {x : DataW H × List MemPlace} (h : DataW.trod enc Tryz.prog w base sp held fuel 9 [c] = some x) : ∃ s, c = .string s ∧ s.size ≤ 9223372036854775807 := by
  obtain ⟨n, hc, _, hs⟩ := DataW.trod_string Tryz.underlying9 h
  exact ⟨n, by simpa using hc, hs⟩
theorem one_intK {fuel : Nat} {c : Value} {x : DataW H × List MemPlace} (h : DataW.trod enc Tryz.prog w base sp held fuel 3 [c] = some x) : ∃ n : Int, c = .int .i64 n ∧ -9223372036854775808 ≤ n ∧ n ≤ 9223372036854775807 := by
  obtain ⟨n, hc, _, wn⟩ := DataW.trod_int Tryz.underlying3 h
  simp only [Lit.wf, IntKind.min, IntKind.max, IntKind.signed, IntKind.bits, Bool.and_eq_true, decide_eq_true_eq, if_true] at wn
  exact ⟨n, by simpa using hc, by omega, by omega⟩
theorem open_deed {fuel : Nat} {l : List Value} {x : DataW H × List MemPlace} (hf : DataW.trod enc Tryz.prog w base sp held fuel 31 l = some x) :
    ∃ (y : Dd), y.ok ∧ l = [.int .i64 y.k, .int .i64 y.i, .string y.s] := by
  obtain ⟨xs, n, _, _, hcl, hlen, hg⟩ := DataW.trod_struct Tryz.underlying31 hf
  rw [cells_deed] at hcl
  obtain ⟨c0, c1, c2, rfl⟩ := list3 hcl
  obtain ⟨y0, e0⟩ := opt_someK (i := 0) hlen (by decide)
  obtain ⟨y1, e1⟩ := opt_someK (i := 1) hlen (by decide)
  obtain ⟨y2, e2⟩ := opt_someK (i := 2) hlen (by decide)
  have h0 := hg 0
  have h1 := hg 1
  have h2 := hg 2
  simp only [List.getElem?_toArray, List.getElem?_cons_zero, List.getElem?_cons_succ, Option.some.injEq, forall_eq', cells_strK, cells_intK, List.drop_zero, List.drop_succ_cons, List.take_succ_cons, List.take_zero] at h0 h1 h2
  rw [e0] at h0; rw [e1] at h1; rw [e2] at h2
  obtain ⟨k, rfl, k1, k2⟩ := one_intK h0
  obtain ⟨i, rfl, i1, i2⟩ := one_intK h1
  obtain ⟨s, rfl, hs⟩ := one_strK h2
  exact ⟨⟨k, i, s⟩, ⟨⟨k1, k2⟩, ⟨i1, i2⟩, hs⟩, rfl⟩
/-- A list of deeds out of their cells. -/
theorem deeds_of {w : World} {b o : Nat} : ∀ (n : Nat), (∀ i, i < n → ∃ y : Dd, y.ok ∧ w.cell? ⟨b, o + i * 3, none⟩ = some (.int .i64 y.k) ∧ w.cell? ⟨b, o + (i * 3 + 1), none⟩ = some (.int .i64 y.i) ∧ w.cell? ⟨b, o + (i * 3 + 2), none⟩ = some (.string y.s)) →
    ∃ l : List Dd, l.length = n ∧ (∀ x ∈ l, x.ok) ∧ ∀ j u, (dl l)[j]? = some u → w.cell? ⟨b, o + j, none⟩ = some u
  | 0, _ => ⟨[], rfl, by simp, fun j u h => by simp [dl] at h⟩
  | n + 1, h => by
    obtain ⟨l, hl, hok, hc⟩ := deeds_of n fun i hi => h i (by omega)
    obtain ⟨y, hy, h0, h1, h2⟩ := h n (by omega)
    refine ⟨l ++ [y], by simp [hl], fun x hx => ?_, fun j u hj => ?_⟩
    · rcases List.mem_append.1 hx with hx | hx
      · exact hok x hx
      · simp at hx; subst hx; exact hy
    rw [dl_app] at hj
    by_cases hjn : j < (dl l).length
    · rw [List.getElem?_append_left hjn] at hj
      exact hc j u hj
    · rw [List.getElem?_append_right (by omega)] at hj
      rw [dl_len, hl] at hj hjn
      obtain ⟨k, rfl⟩ : ∃ k, j = n * 3 + k := ⟨j - n * 3, by omega⟩
      rw [Nat.add_sub_cancel_left] at hj
      match k, hj with
      | 0, hj => simp [dl] at hj; rw [← hj]; exact h0
      | 1, hj => simp [dl] at hj; rw [← hj]; exact h1
      | 2, hj => simp [dl] at hj; rw [← hj]; exact h2
      | k + 3, hj => simp [dl] at hj
end
section
variable {H : Type} {enc : TypeId × Value → H} {w : World} {b0 : Nat} {v : Value} {d : DataW H} {p : List MemPlace} {ts : List TypeId} {ds : List (DataW H)}
/-- An argument's shape, by its type: a list of deeds. -/
theorem arg_ddeeds (hval : Value.okWide Tryz.prog w .any b0 22 v) (h : DataW.Trod enc Tryz.prog w 0 (fun _ => true) true 22 v d p) (_hsz : (DataW.weightsEach Tryz.prog ts ds).all (· ≤ reachBytes) = true) (j : Nat) (_ht : ts[j]? = some 22) (_hd : ds[j]? = some d) :
    ∃ (A : Option Addr) (n c : Nat) (l : List Dd), v = .slice A n c ∧ l.length = n ∧ n ≤ c ∧ c ≤ 9223372036854775807 ∧ Rd w A (dl l) ∧ ∀ x ∈ l, x.ok := by
  obtain ⟨a0, len, cap, rfl⟩ := okWide_slice Tryz.underlying22 hval
  obtain ⟨fuel, hf⟩ := h
  rcases open_slice Tryz.underlying22 hf with ⟨hcs, _⟩ | ⟨a, len', cap', m, n, D, Pl, hcs, _, hl, hm, hmm, _, hi⟩
  · simp [Value.cells] at hcs
    obtain ⟨rfl, rfl, rfl⟩ := hcs
    exact ⟨none, 0, 0, [], rfl, rfl, by omega, by omega, Rd.nil _ _, by simp⟩
  · simp [Value.cells] at hcs
    obtain ⟨rfl, rfl, rfl⟩ := hcs
    have hml : cap ≤ 9223372036854775807 := hm
    have hall : ∀ i, i < len → ∃ y : Dd, y.ok ∧ w.cell? ((a.add (i * 3)).add 0) = some (.int .i64 y.k) ∧ w.cell? ((a.add (i * 3)).add 1) = some (.int .i64 y.i) ∧ w.cell? ((a.add (i * 3)).add 2) = some (.string y.s) := fun i hin => by
      obtain ⟨cs', hc, ht'⟩ := hi i (by rw [hmm]; split <;> omega)
      rw [cells_deed] at hc
      obtain ⟨_, hcl, hat⟩ := World.cells?_some hc
      obtain ⟨y, hy, rfl⟩ := open_deed ht'
      exact ⟨y, hy, hat 0 (by decide), hat 1 (by decide), hat 2 (by decide)⟩
    by_cases h0 : len = 0
    · subst h0
      exact ⟨some a, 0, cap, [], rfl, rfl, by omega, by omega, Rd.nil _ _, by simp⟩
    · obtain ⟨b, o, sp⟩ := a
      have hsp : sp = none := by
        obtain ⟨y, _, h0, _⟩ := hall 0 (by omega)
        rw [Nat.zero_mul] at h0
        cases sp with
        | none => rfl
        | some x => simp [Addr.add, World.cell?] at h0; split at h0 <;> simp at h0
      subst hsp
      obtain ⟨l, hl2, hok, hc⟩ := deeds_of (w := w) (b := b) (o := o) len fun i hin => by
        obtain ⟨y, hy, h0, h1, h2⟩ := hall i hin
        rw [add_mk, add_mk] at h0 h1 h2
        exact ⟨y, hy, h0, h1, h2⟩
      exact ⟨some ⟨b, o, none⟩, len, cap, l, rfl, hl2, hl, by omega, fun _ => ⟨b, o, rfl, hc⟩, hok⟩
end
end Go.Proofs.YthjjdjhmaffoeaaGreatDoor
