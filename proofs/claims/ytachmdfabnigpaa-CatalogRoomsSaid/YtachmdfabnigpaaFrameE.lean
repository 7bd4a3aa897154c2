/-
  The frame of a law's row: a list of api.Extents as an argument.
-/
import Derived.Test.YtachmdfabnigpaaFrameX
import Derived.Deep.Slices
import Derived.Deep.Fields
import Derived.ChangeSame
namespace Go.Proofs.Ytachmdfabnigpaa
open Go.ChangeShapes Go.WideShapes Go.ChangeAt Go.RowKit Go.Deep

/-- Entry i of a list: its eight cells. -/
def ExtIn (w : World) (A : Option Addr) (i : Nat) : Prop :=
  ∃ (b o : Nat) (id : Int) (sa : ByteArray) (n bs raw : Int) (ro ta : ByteArray) (ba : Int), A = some ⟨b, o, none⟩ ∧ w.cell? ⟨b, o + i * 8, none⟩ = some (.int .i64 id) ∧ w.cell? ⟨b, o + i * 8 + 1, none⟩ = some (.string sa) ∧ w.cell? ⟨b, o + i * 8 + 2, none⟩ = some (.int .i64 n) ∧
    w.cell? ⟨b, o + i * 8 + 3, none⟩ = some (.int .i64 bs) ∧ w.cell? ⟨b, o + i * 8 + 4, none⟩ = some (.int .i64 raw) ∧ w.cell? ⟨b, o + i * 8 + 5, none⟩ = some (.string ro) ∧ w.cell? ⟨b, o + i * 8 + 6, none⟩ = some (.string ta) ∧ w.cell? ⟨b, o + i * 8 + 7, none⟩ = some (.int .i64 ba)
def ExtsIn (w : World) (A : Option Addr) (n : Nat) : Prop := ∀ i, i < n → ExtIn w A i
theorem ExtIn.below {w w' : World} {A : Option Addr} {i : Nat} (h : ExtIn w A i) (hb : Below w.heap.size w w') : ExtIn w' A i := by
  obtain ⟨b, o, id, sa, n, bs, raw, ro, ta, ba, hA, h0, h1, h2, h3, h4, h5, h6, h7⟩ := h
  have kk : ∀ {a : Addr} {v : Value}, w.cell? a = some v → w'.cell? a = some v := fun h => (hb.cell (World.block_lt_of_cell? w _ h)).trans h
  exact ⟨b, o, id, sa, n, bs, raw, ro, ta, ba, hA, kk h0, kk h1, kk h2, kk h3, kk h4, kk h5, kk h6, kk h7⟩
theorem ExtsIn.below {w w' : World} {A : Option Addr} {n : Nat} (h : ExtsIn w A n) (hb : Below w.heap.size w w') : ExtsIn w' A n := fun i hi => (h i hi).below hb

section
variable {H : Type} {enc : TypeId × Value → H} {w : World} {base : Nat} {sp : Nat → Bool} {held : Bool}
theorem open_ext {fuel : Nat} {l : List Value} {x : DataW H × List MemPlace} (hf : DataW.trod enc Try.prog w base sp held fuel 25 l = some x) :
    ∃ (id : Int) (sa : ByteArray) (n bs raw : Int) (ro ta : ByteArray) (ba : Int), l = [.int .i64 id, .string sa, .int .i64 n, .int .i64 bs, .int .i64 raw, .string ro, .string ta, .int .i64 ba] := by
  obtain ⟨xs, n, _, _, hcl, hlen, hg⟩ := DataW.trod_struct Try.underlying25 hf
  rw [cells_ext] at hcl
  obtain ⟨c0, c1, c2, c3, c4, c5, c6, c7, rfl⟩ := list8 hcl
  obtain ⟨y0, e0⟩ := opt_some (i := 0) hlen (by decide)
  obtain ⟨y1, e1⟩ := opt_some (i := 1) hlen (by decide)
  have h0 := hg 0
  have h1 := hg 1
  simp only [List.getElem?_toArray, List.getElem?_cons_zero, List.getElem?_cons_succ, Option.some.injEq, forall_eq', cells_int, cells_head, List.drop_zero, List.drop_succ_cons, List.take_succ_cons, List.take_zero] at h0 h1
  rw [e0] at h0; rw [e1] at h1
  obtain ⟨id, sa, nn, bs, raw, ro, ta, he⟩ := open_head h0
  obtain ⟨ba, rfl⟩ := one_int h1
  simp only [List.cons.injEq] at he
  obtain ⟨rfl, rfl, rfl, rfl, rfl, rfl, rfl, _⟩ := he
  exact ⟨id, sa, nn, bs, raw, ro, ta, ba, rfl⟩
end
section
variable {H : Type} {enc : TypeId × Value → H} {w : World} {b0 : Nat} {v : Value} {d : DataW H} {p : List MemPlace} {ts : List TypeId} {ds : List (DataW H)}
/-- An argument's shape, by its type: a list of extents. -/
theorem arg_extents (hval : Value.okWide Try.prog w .any b0 34 v) (h : DataW.Trod enc Try.prog w 0 (fun _ => true) true 34 v d p) (_hsz : (DataW.weightsEach Try.prog ts ds).all (· ≤ reachBytes) = true) (j : Nat) (_ht : ts[j]? = some 34) (_hd : ds[j]? = some d) :
    ∃ (A : Option Addr) (n c : Nat), v = .slice A n c ∧ n ≤ 9223372036854775807 ∧ ExtsIn w A n := by
  obtain ⟨a0, len, cap, rfl⟩ := okWide_slice Try.underlying34 hval
  obtain ⟨fuel, hf⟩ := h
  rcases open_slice Try.underlying34 hf with ⟨hcs, _⟩ | ⟨a, len', cap', m, n, D, Pl, hcs, _, hl, hm, hmm, _, hi⟩
  · simp [Value.cells] at hcs
    obtain ⟨rfl, rfl, rfl⟩ := hcs
    exact ⟨none, 0, 0, rfl, by omega, fun i hi => absurd hi (by omega)⟩
  · simp [Value.cells] at hcs
    obtain ⟨rfl, rfl, rfl⟩ := hcs
    have hml : cap ≤ 9223372036854775807 := hm
    have hall : ∀ i, i < len → ∃ (id : Int) (sa : ByteArray) (n bs raw : Int) (ro ta : ByteArray) (ba : Int), w.cell? ((a.add (i * 8)).add 0) = some (.int .i64 id) ∧ w.cell? ((a.add (i * 8)).add 1) = some (.string sa) ∧ w.cell? ((a.add (i * 8)).add 2) = some (.int .i64 n) ∧ w.cell? ((a.add (i * 8)).add 3) = some (.int .i64 bs) ∧
        w.cell? ((a.add (i * 8)).add 4) = some (.int .i64 raw) ∧ w.cell? ((a.add (i * 8)).add 5) = some (.string ro) ∧ w.cell? ((a.add (i * 8)).add 6) = some (.string ta) ∧ w.cell? ((a.add (i * 8)).add 7) = some (.int .i64 ba) := fun i hin => by
      obtain ⟨cs', hc, ht'⟩ := hi i (by rw [hmm]; split <;> omega)
      rw [cells_ext] at hc
      obtain ⟨_, hcl, hat⟩ := World.cells?_some hc
      obtain ⟨id, sa, n, bs, raw, ro, ta, ba, rfl⟩ := open_ext ht'
      exact ⟨id, sa, n, bs, raw, ro, ta, ba, hat 0 (by decide), hat 1 (by decide), hat 2 (by decide), hat 3 (by decide), hat 4 (by decide), hat 5 (by decide), hat 6 (by decide), hat 7 (by decide)⟩
    refine ⟨some a, len, cap, rfl, by omega, fun i hin => ?_⟩
    obtain ⟨b, o, sp⟩ := a
    have hsp : sp = none := by
      obtain ⟨id, sa, n, bs, raw, ro, ta, ba, h0, _⟩ := hall 0 (by omega)
      rw [Nat.zero_mul] at h0
      cases sp with
      | none => rfl
      | some x => simp [Addr.add, World.cell?] at h0; split at h0 <;> simp at h0
    subst hsp
    obtain ⟨id, sa, n, bs, raw, ro, ta, ba, h0, h1, h2, h3, h4, h5, h6, h7⟩ := hall i hin
    rw [add_mk, add_mk] at h0 h1 h2 h3 h4 h5 h6 h7
    exact ⟨b, o, id, sa, n, bs, raw, ro, ta, ba, rfl, h0, h1, h2, h3, h4, h5, h6, h7⟩
end
end Go.Proofs.Ytachmdfabnigpaa
