/-
  The frame of a law's row: an api.Extent as an argument (a struct of a struct).
-/
import Derived.Test.YtachmdfabnigpaaDoorFrame
namespace Go.Proofs.YtachmdfabnigpaaDoor
open Go.ChangeShapes Go.WideShapes Go.ChangeAt Go.RowKit
set_option maxRecDepth 20000

theorem cells_head : Tryd.prog.cellsOf 23 = 7 := by kernel_rfl
theorem cells_ext : Tryd.prog.cellsOf 25 = 8 := by kernel_rfl
theorem cells_int : Tryd.prog.cellsOf 3 = 1 := by kernel_rfl
theorem cells_str : Tryd.prog.cellsOf 9 = 1 := by kernel_rfl

section
variable {H : Type} {enc : TypeId × Value → H} {w : World} {base : Nat} {sp : Nat → Bool} {held : Bool}
theorem list7 {α : Type} {l : List α} (h : l.length = 7) : ∃ a b c d e f g, l = [a, b, c, d, e, f, g] := by
  match l, h with
  | [a, b, c, d, e, f, g], _ => exact ⟨a, b, c, d, e, f, g, rfl⟩
theorem list8 {α : Type} {l : List α} (h : l.length = 8) : ∃ a b c d e f g i, l = [a, b, c, d, e, f, g, i] := by
  match l, h with
  | [a, b, c, d, e, f, g, i], _ => exact ⟨a, b, c, d, e, f, g, i, rfl⟩
theorem opt_some {α : Type} {xs : List α} {n i : Nat} (h : xs.length = n) (hi : i < n) : ∃ y, xs[i]? = some y := ⟨xs[i]'(by omega), List.getElem?_eq_getElem (by omega)⟩
theorem one_int {fuel : Nat} {c : Value} {x : DataW H × List MemPlace} (h : DataW.trod enc Tryd.prog w base sp held fuel 3 [c] = some x) : ∃ n, c = .int .i64 n := by
  obtain ⟨n, hc, _, _⟩ := DataW.trod_int Tryd.underlying3 h
  exact ⟨n, by simpa using hc⟩
theorem one_str {fuel : Nat} {c : Value} {x : DataW H × List MemPlace} (h : DataW.trod enc Tryd.prog w base sp held fuel 9 [c] = some x) : ∃ s, c = .string s := by
  obtain ⟨n, hc, _, _⟩ := DataW.trod_string Tryd.underlying9 h
  exact ⟨n, by simpa using hc⟩
/-- A header's cells. -/
theorem open_head {fuel : Nat} {cs : List Value} {x : DataW H × List MemPlace} (h : DataW.trod enc Tryd.prog w base sp held fuel 23 cs = some x) :
    ∃ (id : Int) (sa : ByteArray) (n bs raw : Int) (ro ta : ByteArray), cs = [.int .i64 id, .string sa, .int .i64 n, .int .i64 bs, .int .i64 raw, .string ro, .string ta] := by
  obtain ⟨xs, n, _, _, hcl, hlen, hg⟩ := DataW.trod_struct Tryd.underlying23 h
  rw [cells_head] at hcl
  obtain ⟨c0, c1, c2, c3, c4, c5, c6, rfl⟩ := list7 hcl
  obtain ⟨y0, e0⟩ := opt_some (i := 0) hlen (by decide)
  obtain ⟨y1, e1⟩ := opt_some (i := 1) hlen (by decide)
  obtain ⟨y2, e2⟩ := opt_some (i := 2) hlen (by decide)
  obtain ⟨y3, e3⟩ := opt_some (i := 3) hlen (by decide)
  obtain ⟨y4, e4⟩ := opt_some (i := 4) hlen (by decide)
  obtain ⟨y5, e5⟩ := opt_some (i := 5) hlen (by decide)
  obtain ⟨y6, e6⟩ := opt_some (i := 6) hlen (by decide)
  have h0 := hg 0
  have h1 := hg 1
  have h2 := hg 2
  have h3 := hg 3
  have h4 := hg 4
  have h5 := hg 5
  have h6 := hg 6
  simp only [List.getElem?_toArray, List.getElem?_cons_zero, List.getElem?_cons_succ, Option.some.injEq, forall_eq', cells_int, cells_str, List.drop_zero, List.drop_succ_cons, List.take_succ_cons, List.take_zero] at h0 h1 h2 h3 h4 h5 h6
  rw [e0] at h0; rw [e1] at h1; rw [e2] at h2; rw [e3] at h3; rw [e4] at h4; rw [e5] at h5; rw [e6] at h6
  obtain ⟨id, rfl⟩ := one_int h0
  obtain ⟨sa, rfl⟩ := one_str h1
  obtain ⟨nn, rfl⟩ := one_int h2
  obtain ⟨bs, rfl⟩ := one_int h3
  obtain ⟨raw, rfl⟩ := one_int h4
  obtain ⟨ro, rfl⟩ := one_str h5
  obtain ⟨ta, rfl⟩ := one_str h6
  exact ⟨id, sa, nn, bs, raw, ro, ta, rfl⟩
end
section
variable {H : Type} {enc : TypeId × Value → H} {w : World} {b0 : Nat} {v : Value} {d : DataW H} {p : List MemPlace} {ts : List TypeId} {ds : List (DataW H)}
/-- An argument's shape, by its type: an api.Extent. -/
theorem arg_extent (hval : Value.okWide Tryd.prog w .any b0 25 v) (h : DataW.Trod enc Tryd.prog w 0 (fun _ => true) true 25 v d p) (_hsz : (DataW.weightsEach Tryd.prog ts ds).all (· ≤ reachBytes) = true) (j : Nat) (_ht : ts[j]? = some 25) (_hd : ds[j]? = some d) :
    ∃ (id : Int) (sa : ByteArray) (n bs raw : Int) (ro ta : ByteArray) (ba : Int), v = .agg #[.int .i64 id, .string sa, .int .i64 n, .int .i64 bs, .int .i64 raw, .string ro, .string ta, .int .i64 ba] := by
  obtain ⟨cs, rfl, hsz⟩ := okWide_struct Tryd.underlying25 hval
  obtain ⟨l⟩ := cs
  obtain ⟨fuel, hf⟩ := h
  obtain ⟨xs, n, _, _, hcl, hlen, hg⟩ := DataW.trod_struct Tryd.underlying25 hf
  rw [cells_ext] at hcl
  have hl : l.length = 8 := by simpa [Value.cells] using hcl
  obtain ⟨c0, c1, c2, c3, c4, c5, c6, c7, rfl⟩ := list8 hl
  obtain ⟨y0, e0⟩ := opt_some (i := 0) hlen (by decide)
  obtain ⟨y1, e1⟩ := opt_some (i := 1) hlen (by decide)
  have h0 := hg 0
  have h1 := hg 1
  simp only [List.getElem?_toArray, List.getElem?_cons_zero, List.getElem?_cons_succ, Option.some.injEq, forall_eq', Value.cells, cells_int, cells_head, List.drop_zero, List.drop_succ_cons, List.take_succ_cons, List.take_zero] at h0 h1
  rw [e0] at h0; rw [e1] at h1
  obtain ⟨id, sa, nn, bs, raw, ro, ta, he⟩ := open_head h0
  obtain ⟨ba, rfl⟩ := one_int h1
  simp only [List.cons.injEq] at he
  obtain ⟨rfl, rfl, rfl, rfl, rfl, rfl, rfl, _⟩ := he
  exact ⟨id, sa, nn, bs, raw, ro, ta, ba, rfl⟩
end
end Go.Proofs.YtachmdfabnigpaaDoor
