/-
  The frame of a law's row: a list of parts (an archive's number and its files) as an argument.
-/
import Derived.Test.YtnhbkfefpkocaaaFrameF
import Derived.Test.YtnhbkfefpkocaaaP9
namespace Go.Proofs.Ytnhbkfefpkocaaa
open Go.ChangeShapes Go.WideShapes Go.ChangeAt Go.RowKit Go.Deep

section
variable {H : Type} {enc : TypeId × Value → H} {P : Program} {w : World} {base : Nat} {spare : Nat → Bool} {held : Bool}
theorem open_slice_fields {t e : TypeId} {fs : Array Field} {fuel : Nat} {cs : List Value} {x : DataW H × List MemPlace} (ht : P.underlying t = some (.slice e)) (he : P.underlying e = some (.struct fs))
    (hone : oneCellFields P fs = true) (hC : P.cellsOf e = fs.size) (h : DataW.trod enc P w base spare held fuel t cs = some x) :
    (cs = [.slice none 0 0] ∧ x = (.nil, [])) ∨
    ∃ (a : Addr) (len cap m : Nat) (D : Nat → DataW H) (Pl : Nat → List MemPlace), cs = [.slice (some a) len cap] ∧ base ≤ a.block ∧ len ≤ cap ∧ cap ≤ maxLen ∧ m = (if spare a.block then cap else len) ∧
      x = (.slice ((List.range len).map D) ((List.range (m - len)).map fun j => D (len + j)), MemPlace.row a (m * fs.size) ++ (List.range m).flatMap Pl) ∧
      ∀ i, i < m → ∃ (ys : List (DataW H × List MemPlace)) (n : Nat), D i = .agg (ys.map (·.1)) ∧ Pl i = ys.flatMap (·.2) ∧ ys.length = fs.size ∧
        ∀ (j : Nat) (f : Field), fs[j]? = some f → ∃ (v : Value) (y : DataW H × List MemPlace), w.cell? (a.add (i * fs.size + j)) = some v ∧ ys[j]? = some y ∧ DataW.trod enc P w base spare held n f.type [v] = some y := by
  rcases open_slice ht h with h0 | ⟨a, len, cap, m, n, D, Pl, hcs, hb, hl, hm, hmm, hx, hi⟩
  · exact .inl h0
  · refine .inr ⟨a, len, cap, m, D, Pl, hcs, hb, hl, hm, hmm, by rw [hC] at hx; exact hx, fun i him => ?_⟩
    obtain ⟨cs', hc, ht'⟩ := hi i him
    rw [hC] at hc
    obtain ⟨ys, n', hn', hy, hlen, hyl, hf⟩ := DataW.trod_struct he ht'
    obtain ⟨_, hcl, hat⟩ := World.cells?_some hc
    simp only [Prod.mk.injEq] at hy
    refine ⟨ys, n', hy.1, hy.2, hyl, fun j f hj => ?_⟩
    obtain ⟨ho, hk⟩ := hone_of hone j f hj
    have hjl : j < fs.size := (Array.getElem?_eq_some_iff.1 hj).1
    have hcell := hat j hjl
    have hv : cs'[j]? = some (cs'[j]'(by omega)) := List.getElem?_eq_getElem (by omega)
    have h1 := hf j f hj
    rw [ho, hk] at h1
    have hone' : (cs'.drop j).take 1 = [cs'[j]'(by omega)] := by
      rw [List.drop_eq_getElem_cons (by omega)]
      rfl
    rw [hone'] at h1
    have hys : ys[j]? = some (ys[j]'(by omega)) := List.getElem?_eq_getElem (by omega)
    refine ⟨_, _, ?_, hys, h1.trans hys⟩
    rw [← Go.Deep.add_add, hcell, hv]
end

section
variable {H : Type} {enc : TypeId × Value → H} {w : World} {base : Nat} {sp : Nat → Bool} {held : Bool}
theorem cell_intQ {fuel : Nat} {c : Value} {x : DataW H × List MemPlace} (h : DataW.trod enc Try.prog w base sp held fuel 3 [c] = some x) : ∃ n, c = .int .i64 n := by
  obtain ⟨n, hc, _, _⟩ := DataW.trod_int Try.underlying3 h
  exact ⟨n, by simpa using hc⟩
set_option maxRecDepth 20000 in
theorem cell_files {fuel : Nat} {c : Value} {x : DataW H × List MemPlace} (h : DataW.trod enc Try.prog w base sp held fuel 35 [c] = some x) :
    ∃ (A : Option Addr) (n c' : Nat) (l : List Fl), c = .slice A n c' ∧ l.length = n ∧ n ≤ c' ∧ c' ≤ maxLen ∧ Rd w A (fl l) := by
  rcases open_slice Try.underlying35 h with ⟨hcs, _⟩ | ⟨a, len, cap, m, n, D, Pl, hcs, _, hl, hm, hmm, _, hi⟩
  · exact ⟨none, 0, 0, [], by simpa using hcs, rfl, by omega, by omega, Rd.nil _ _⟩
  · have hall : ∀ i, i < len → ∃ y : Fl, w.cell? ((a.add (i * 2)).add 0) = some (.string y.1) ∧ w.cell? ((a.add (i * 2)).add 1) = some (.string y.2) := fun i hin => by
      obtain ⟨cs', hc, ht'⟩ := hi i (by rw [hmm]; split <;> omega)
      rw [cells_file] at hc
      obtain ⟨_, hcl, hat⟩ := World.cells?_some hc
      obtain ⟨y, rfl⟩ := open_file ht'
      exact ⟨y, hat 0 (by decide), hat 1 (by decide)⟩
    by_cases h0 : len = 0
    · subst h0
      exact ⟨some a, 0, cap, [], by simpa using hcs, rfl, by omega, hm, Rd.nil _ _⟩
    · obtain ⟨b, o, sp2⟩ := a
      have hsp : sp2 = none := by
        obtain ⟨y, h0, _⟩ := hall 0 (by omega)
        rw [Nat.zero_mul] at h0
        cases sp2 with
        | none => rfl
        | some x => simp [Addr.add, World.cell?] at h0; split at h0 <;> simp at h0
      subst hsp
      obtain ⟨l, hl2, hc⟩ := files_of (w := w) (b := b) (o := o) len fun i hin => by
        obtain ⟨y, h0, h1⟩ := hall i hin
        rw [add_mk, add_mk] at h0 h1
        exact ⟨y, h0, h1⟩
      exact ⟨some ⟨b, o, none⟩, len, cap, l, by simpa using hcs, hl2, hl, hm, fun _ => ⟨b, o, rfl, hc⟩⟩
end
theorem plain_addrQ {w : World} {a : Addr} {n : Int} (h : w.cell? (a.add 0) = some (.int .i64 n)) : ∃ b o, a = ⟨b, o, none⟩ := by
  obtain ⟨b, o, sp⟩ := a
  simp only [Addr.add, if_pos, World.cell?] at h
  cases sp with
  | none => exact ⟨b, o, rfl⟩
  | some x => simp at h; split at h <;> simp at h
/-- A list of parts out of their cells. -/
theorem parts_of {w : World} {b o : Nat} : ∀ (n : Nat), (∀ i, i < n → ∃ y : Pt, PtOk w y ∧ w.cell? ⟨b, o + i * 2, none⟩ = some (.int .i64 y.id) ∧ w.cell? ⟨b, o + (i * 2 + 1), none⟩ = some (.slice y.fa y.fn y.fc)) →
    ∃ l : List Pt, l.length = n ∧ (∀ x ∈ l, PtOk w x) ∧ ∀ j u, (pf l)[j]? = some u → w.cell? ⟨b, o + j, none⟩ = some u
  | 0, _ => ⟨[], rfl, by simp, fun j u h => by simp [pf] at h⟩
  | n + 1, h => by
    obtain ⟨l, hl, hp, hc⟩ := parts_of n fun i hi => h i (by omega)
    obtain ⟨y, hy, h0, h1⟩ := h n (by omega)
    refine ⟨l ++ [y], by simp [hl], fun x hx => ?_, fun j u hj => ?_⟩
    · rcases List.mem_append.1 hx with hx | hx
      · exact hp x hx
      · simp at hx; rw [hx]; exact hy
    · rw [pf_app] at hj
      by_cases hjn : j < (pf l).length
      · rw [List.getElem?_append_left hjn] at hj
        exact hc j u hj
      · rw [List.getElem?_append_right (by omega)] at hj
        rw [pf_len, hl] at hj hjn
        obtain ⟨k, rfl⟩ : ∃ k, j = n * 2 + k := ⟨j - n * 2, by omega⟩
        rw [Nat.add_sub_cancel_left] at hj
        match k, hj with
        | 0, hj => simp [pf] at hj; rw [← hj]; exact h0
        | 1, hj => simp [pf] at hj; rw [← hj]; exact h1
        | k + 2, hj => simp [pf] at hj
section
variable {H : Type} {enc : TypeId × Value → H} {w : World} {b0 : Nat} {v : Value} {d : DataW H} {p : List MemPlace} {ts : List TypeId} {ds : List (DataW H)}
set_option maxRecDepth 20000 in
/-- An argument's shape, by its type: a list of parts. -/
theorem arg_parts (hval : Value.okWide Try.prog w .any b0 22 v) (h : DataW.Trod enc Try.prog w 0 (fun _ => true) true 22 v d p) (_hsz : (DataW.weightsEach Try.prog ts ds).all (· ≤ reachBytes) = true) (j : Nat) (_ht : ts[j]? = some 22) (_hd : ds[j]? = some d) :
    ∃ (A : Option Addr) (n c : Nat) (P : List Pt), v = .slice A n c ∧ P.length = n ∧ n ≤ 9223372036854775807 ∧ Rd w A (pf P) ∧ ∀ x ∈ P, PtOk w x := by
  obtain ⟨a0, len, cap, rfl⟩ := okWide_slice Try.underlying22 hval
  obtain ⟨fuel, hf⟩ := h
  rcases open_slice_fields Try.underlying22 Try.underlying37 (by kernel_rfl) (by kernel_rfl) hf with ⟨hcs, _⟩ | ⟨a, len', cap', m, D, Pl, hcs, _, hl, hm, hmm, _, hi⟩
  · simp [Value.cells] at hcs
    obtain ⟨rfl, rfl, rfl⟩ := hcs
    exact ⟨none, 0, 0, [], rfl, rfl, by omega, Rd.nil _ _, by simp⟩
  · simp [Value.cells] at hcs
    obtain ⟨rfl, rfl, rfl⟩ := hcs
    have hml : cap ≤ 9223372036854775807 := hm
    have e2 : ∀ x0 x1 : Field, (#[x0, x1] : Array Field).size = 2 := fun _ _ => rfl
    by_cases h0 : len = 0
    · subst h0
      exact ⟨some a, 0, cap, [], rfl, rfl, by omega, Rd.nil _ _, by simp⟩
    · have hpl : ∃ b o, a = ⟨b, o, none⟩ := by
        obtain ⟨ys, n, _, _, _, hfl⟩ := hi 0 (by rw [hmm]; split <;> omega)
        have h0 := hfl 0
        simp only [List.getElem?_toArray, List.getElem?_cons_zero, Option.some.injEq, forall_eq', Nat.zero_mul, Nat.add_zero] at h0
        obtain ⟨v0, y0, c0, _, t0⟩ := h0
        obtain ⟨k, rfl⟩ := cell_intQ t0
        exact plain_addrQ c0
      obtain ⟨b, o, rfl⟩ := hpl
      obtain ⟨P, hP, hPk, hPc⟩ := parts_of (w := w) (b := b) (o := o) len fun i hin => by
        obtain ⟨ys, n, _, _, _, hfl⟩ := hi i (by rw [hmm]; split <;> omega)
        have h0 := hfl 0
        have h1 := hfl 1
        simp only [e2, List.getElem?_toArray, List.getElem?_cons_zero, List.getElem?_cons_succ, Option.some.injEq, forall_eq'] at h0 h1
        obtain ⟨v0, y0, c0, _, t0⟩ := h0
        obtain ⟨v1, y1, c1, _, t1⟩ := h1
        obtain ⟨k, rfl⟩ := cell_intQ t0
        obtain ⟨FA, fn, fc, fs, rfl, hx, hln, hfm, hr⟩ := cell_files t1
        rw [add_mk] at c0 c1
        exact ⟨⟨k, FA, fn, fc, fs⟩, ⟨hx, hln, hfm, hr⟩, c0, c1⟩
      exact ⟨some ⟨b, o, none⟩, len, cap, P, rfl, hP, by omega, fun _ => ⟨b, o, rfl, hPc⟩, hPk⟩
end
end Go.Proofs.Ytnhbkfefpkocaaa
