/-
  The frame of a law's row: a list of deeds as an argument (a slice of structs of three ints and a list of ints).
-/
import Derived.Test.YtapanifgnpklpaaFrame
import Derived.Deep.Slices
import Derived.Deep.Fields
import Derived.ChangeSame
namespace Go.Proofs.Ytapanifgnpklpaa
open Go.ChangeShapes Go.WideShapes Go.ChangeAt Go.RowKit Go.Deep

/-- Deed i of a list: its four cells, and its list's cells. -/
def DeedAt (w : World) (A : Option Addr) (i : Nat) : Prop :=
  ∃ (b o : Nat) (k t s : Int) (LA : Option Addr) (ln lc : Nat) (xs : List Int), A = some ⟨b, o, none⟩ ∧ w.cell? ⟨b, o + i * 4, none⟩ = some (.int .i64 k) ∧ w.cell? ⟨b, o + i * 4 + 1, none⟩ = some (.int .i64 t) ∧ w.cell? ⟨b, o + i * 4 + 2, none⟩ = some (.int .i64 s) ∧
    w.cell? ⟨b, o + i * 4 + 3, none⟩ = some (.slice LA ln lc) ∧ xs.length = ln ∧ ln ≤ 9223372036854775807 ∧ Rd w LA (xs.map (Value.int .i64))
def DeedsAt (w : World) (A : Option Addr) (n : Nat) : Prop := ∀ i, i < n → DeedAt w A i
theorem DeedAt.below {w w' : World} {A : Option Addr} {i : Nat} (h : DeedAt w A i) (hb : Below w.heap.size w w') : DeedAt w' A i := by
  obtain ⟨b, o, k, t, s, LA, ln, lc, xs, hA, h0, h1, h2, h3, hx, hl, hr⟩ := h
  have kk : ∀ {a : Addr} {v : Value}, w.cell? a = some v → w'.cell? a = some v := fun h => (hb.cell (World.block_lt_of_cell? w _ h)).trans h
  exact ⟨b, o, k, t, s, LA, ln, lc, xs, hA, kk h0, kk h1, kk h2, kk h3, hx, hl, hr.below hb⟩

section
variable {H : Type} {enc : TypeId × Value → H} {P : Program} {w : World} {base : Nat} {spare : Nat → Bool} {held : Bool}
theorem open_slice_fields {t e : TypeId} {fs : Array Field} {fuel : Nat} {cs : List Value} {x : DataW H × List MemPlace} (ht : P.underlying t = some (.slice e)) (he : P.underlying e = some (.struct fs))
    (hone : oneCellFields P fs = true) (hC : P.cellsOf e = fs.size) (h : DataW.trod enc P w base spare held fuel t cs = some x) :
    (cs = [.slice none 0 0] ∧ x = (.nil, [])) ∨
    ∃ (a : Addr) (len cap m : Nat) (D : Nat → DataW H) (Pl : Nat → List MemPlace), cs = [.slice (some a) len cap] ∧ base ≤ a.block ∧ len ≤ cap ∧ cap ≤ maxLen ∧ m = (if spare a.block then cap else len) ∧
      x = (.slice ((List.range len).map D) ((List.range (m - len)).map fun j => D (len + j)), MemPlace.row a (m * fs.size) ++ (List.range m).flatMap Pl) ∧
      ∀ i, i < m → ∃ (ys : List (DataW H × List MemPlace)) (n : Nat), D i = .agg (ys.map (·.1)) ∧ Pl i = ys.flatMap (·.2) ∧ ys.length = fs.size ∧
        ∀ (j : Nat) (f : Field), fs[j]? = some f → ∃ (v : Value) (y : DataW H × List MemPlace), w.cell? (a.add (i * fs.size + j)) = some v ∧ ys[j]? = some y ∧ DataW.trod enc P w base spare held n f.type [v] = some y := by
  rcases open_slice ht h with h0 | ⟨a, len, cap, m, n, D, Pl, hcs, hb, hl, hm, hmm, hx, hi⟩
  · exact .inl h0
  · refine .inr ⟨a, len, cap, m, D, Pl, hcs, hb, hl, hm, hmm, by rw [hC] at hx; exact hx, fun i him => ?_⟩
    obtain ⟨cs', hc, ht'⟩ := hi i him
    rw [hC] at hc
    obtain ⟨ys, n', hn', hy, hlen, hyl, hf⟩ := DataW.trod_struct he ht'
    obtain ⟨_, hcl, hat⟩ := World.cells?_some hc
    simp only [Prod.mk.injEq] at hy
    refine ⟨ys, n', hy.1, hy.2, hyl, fun j f hj => ?_⟩
    obtain ⟨ho, hk⟩ := hone_of hone j f hj
    have hjl : j < fs.size := (Array.getElem?_eq_some_iff.1 hj).1
    have hcell := hat j hjl
    have hv : cs'[j]? = some (cs'[j]'(by omega)) := List.getElem?_eq_getElem (by omega)
    have h1 := hf j f hj
    rw [ho, hk] at h1
    have hone' : (cs'.drop j).take 1 = [cs'[j]'(by omega)] := by
      rw [List.drop_eq_getElem_cons (by omega)]
      rfl
    rw [hone'] at h1
    have hys : ys[j]? = some (ys[j]'(by omega)) := List.getElem?_eq_getElem (by omega)
    refine ⟨_, _, ?_, hys, h1.trans hys⟩
    rw [← Go.Deep.add_add, hcell, hv]
end

section
variable {H : Type} {enc : TypeId × Value → H} {w : World} {base : Nat} {sp : Nat → Bool} {held : Bool}
theorem cell_int {fuel : Nat} {c : Value} {x : DataW H × List MemPlace} (h : DataW.trod enc Try.prog w base sp held fuel 3 [c] = some x) : ∃ n, c = .int .i64 n := by
  obtain ⟨n, hc, _, _⟩ := DataW.trod_int Try.underlying3 h
  exact ⟨n, by simpa using hc⟩
theorem cell_ints {fuel : Nat} {c : Value} {x : DataW H × List MemPlace} (h : DataW.trod enc Try.prog w base sp held fuel 22 [c] = some x) :
    ∃ (LA : Option Addr) (ln lc : Nat) (xs : List Int), c = .slice LA ln lc ∧ xs.length = ln ∧ ln ≤ 9223372036854775807 ∧ Rd w LA (xs.map (Value.int .i64)) := by
  rcases open_ints Try.underlying22 Try.underlying3 (by kernel_rfl) h with ⟨hcs, _⟩ | ⟨a, len', cap', zs, hcs, _, hl, hm, hz, hx, hcell, _⟩
  · exact ⟨none, 0, 0, [], by simpa using hcs, rfl, by omega, Rd.nil _ _⟩
  · have hml : cap' ≤ 9223372036854775807 := hm
    refine ⟨some a, len', cap', zs.take len', by simpa using hcs, ?_, by omega, rd_of_ints hcell⟩
    rw [List.length_take, hz]
    split <;> omega
end
theorem plain_addr {w : World} {a : Addr} {n : Int} (h : w.cell? (a.add 0) = some (.int .i64 n)) : ∃ b o, a = ⟨b, o, none⟩ := by
  obtain ⟨b, o, sp⟩ := a
  simp only [Addr.add, if_pos, World.cell?] at h
  cases sp with
  | none => exact ⟨b, o, rfl⟩
  | some x => simp at h; split at h <;> simp at h

section
variable {H : Type} {enc : TypeId × Value → H} {w : World} {b0 : Nat} {v : Value} {d : DataW H} {p : List MemPlace} {ts : List TypeId} {ds : List (DataW H)}
/-- An argument's shape, by its type: a list of deeds. -/
theorem arg_deeds (hval : Value.okWide Try.prog w .any b0 46 v) (h : DataW.Trod enc Try.prog w 0 (fun _ => true) true 46 v d p) (_hsz : (DataW.weightsEach Try.prog ts ds).all (· ≤ reachBytes) = true) (j : Nat) (_ht : ts[j]? = some 46) (_hd : ds[j]? = some d) :
    ∃ (A : Option Addr) (n c : Nat), v = .slice A n c ∧ n ≤ 9223372036854775807 ∧ DeedsAt w A n := by
  obtain ⟨a0, len, cap, rfl⟩ := okWide_slice Try.underlying46 hval
  obtain ⟨fuel, hf⟩ := h
  rcases open_slice_fields Try.underlying46 Try.underlying50 (by kernel_rfl) (by kernel_rfl) hf with ⟨hcs, _⟩ | ⟨a, len', cap', m, D, Pl, hcs, _, hl, hm, hmm, _, hi⟩
  · simp [Value.cells] at hcs
    obtain ⟨rfl, rfl, rfl⟩ := hcs
    exact ⟨none, 0, 0, rfl, by omega, fun i hi => absurd hi (by omega)⟩
  · simp [Value.cells] at hcs
    obtain ⟨rfl, rfl, rfl⟩ := hcs
    have hml : cap ≤ 9223372036854775807 := hm
    have e4 : ∀ x0 x1 x2 x3 : Field, (#[x0, x1, x2, x3] : Array Field).size = 4 := fun _ _ _ _ => rfl
    have hpl : 0 < len → ∃ b o, a = ⟨b, o, none⟩ := by
      intro h0
      obtain ⟨ys, n, _, _, _, hfl⟩ := hi 0 (by rw [hmm]; split <;> omega)
      have h0 := hfl 0
      simp only [List.getElem?_toArray, List.getElem?_cons_zero, Option.some.injEq, forall_eq', Nat.zero_mul, Nat.add_zero] at h0
      obtain ⟨v0, y0, c0, _, t0⟩ := h0
      obtain ⟨k, rfl⟩ := cell_int t0
      exact plain_addr c0
    refine ⟨some a, len, cap, rfl, by omega, fun i hin => ?_⟩
    obtain ⟨ys, n, _, _, _, hfl⟩ := hi i (by rw [hmm]; split <;> omega)
    have h0 := hfl 0
    have h1 := hfl 1
    have h2 := hfl 2
    have h3 := hfl 3
    simp only [e4, List.getElem?_toArray, List.getElem?_cons_zero, List.getElem?_cons_succ, Option.some.injEq, forall_eq'] at h0 h1 h2 h3
    obtain ⟨v0, y0, c0, _, t0⟩ := h0
    obtain ⟨v1, y1, c1, _, t1⟩ := h1
    obtain ⟨v2, y2, c2, _, t2⟩ := h2
    obtain ⟨v3, y3, c3, _, t3⟩ := h3
    obtain ⟨k, rfl⟩ := cell_int t0
    obtain ⟨t, rfl⟩ := cell_int t1
    obtain ⟨s, rfl⟩ := cell_int t2
    obtain ⟨LA, ln, lc, xs, rfl, hx, hln, hr⟩ := cell_ints t3
    obtain ⟨b, o, rfl⟩ := hpl (by omega)
    rw [add_mk] at c0 c1 c2 c3
    exact ⟨b, o, k, t, s, LA, ln, lc, xs, rfl, c0, c1, c2, c3, hx, hln, hr⟩
end
end Go.Proofs.Ytapanifgnpklpaa
