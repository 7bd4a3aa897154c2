/-
  The frame of a law's row: an api.Packet as an argument.
-/
import Derived.Test.YtfkbcmmhpopdnaaFrameS
namespace Go.Proofs.Ytfkbcmmhpopdnaa
open Go.ChangeShapes Go.WideShapes Go.ChangeAt Go.RowKit

theorem cells_pkt : Try.prog.cellsOf 24 = 8 := by kernel_rfl
theorem cells_int : Try.prog.cellsOf 3 = 1 := by kernel_rfl
theorem cells_str : Try.prog.cellsOf 9 = 1 := by kernel_rfl
theorem cells_strs : Try.prog.cellsOf 22 = 1 := by kernel_rfl

section
variable {H : Type} {enc : TypeId × Value → H} {w : World} {base : Nat} {sp : Nat → Bool} {held : Bool}
theorem list8 {α : Type} {l : List α} (h : l.length = 8) : ∃ a b c d e f g i, l = [a, b, c, d, e, f, g, i] := by
  match l, h with
  | [a, b, c, d, e, f, g, i], _ => exact ⟨a, b, c, d, e, f, g, i, rfl⟩
theorem opt_some {α : Type} {xs : List α} {n i : Nat} (h : xs.length = n) (hi : i < n) : ∃ y, xs[i]? = some y := ⟨xs[i]'(by omega), List.getElem?_eq_getElem (by omega)⟩
theorem one_int {fuel : Nat} {c : Value} {x : DataW H × List MemPlace} (h : DataW.trod enc Try.prog w base sp held fuel 3 [c] = some x) : ∃ n, c = .int .i64 n := by
  obtain ⟨n, hc, _, _⟩ := DataW.trod_int Try.underlying3 h
  exact ⟨n, by simpa using hc⟩
theorem one_str {fuel : Nat} {c : Value} {x : DataW H × List MemPlace} (h : DataW.trod enc Try.prog w base sp held fuel 9 [c] = some x) : ∃ s, c = .string s ∧ s.size ≤ 9223372036854775807 := by
  obtain ⟨n, hc, _, hs⟩ := DataW.trod_string Try.underlying9 h
  exact ⟨n, by simpa using hc, hs⟩
theorem one_strs {fuel : Nat} {c : Value} {x : DataW H × List MemPlace} (h : DataW.trod enc Try.prog w base (fun _ => true) held fuel 22 [c] = some x) :
    ∃ (A : Option Addr) (n k : Nat) (xs : List ByteArray), c = .slice A n k ∧ xs.length = n ∧ n ≤ k ∧ k ≤ 9223372036854775807 ∧ Rd w A (xs.map Value.string) ∧ ∀ s ∈ xs, s.size ≤ 9223372036854775807 := by
  rcases open_strings Try.underlying22 Try.underlying9 (by kernel_rfl) h with ⟨hcs, _⟩ | ⟨a, len', cap', zs, hcs, _, hl, hm, hz, hx, hcell, hsz⟩
  · exact ⟨none, 0, 0, [], by simpa using hcs, rfl, by omega, by omega, Rd.nil _ _, by simp⟩
  · have hml : cap' ≤ 9223372036854775807 := hm
    simp only [if_true] at hz
    exact ⟨some a, len', cap', zs.take len', by simpa using hcs, by rw [List.length_take]; omega, hl, hml, rd_of_strings hcell, fun s hs => hsz s (List.mem_of_mem_take hs)⟩
end
section
variable {H : Type} {enc : TypeId × Value → H} {w : World} {b0 : Nat} {v : Value} {d : DataW H} {p : List MemPlace} {ts : List TypeId} {ds : List (DataW H)}
/-- An argument's shape, by its type: an api.Packet. -/
theorem arg_packet (hval : Value.okWide Try.prog w .any b0 24 v) (h : DataW.Trod enc Try.prog w 0 (fun _ => true) true 24 v d p) (_hsz : (DataW.weightsEach Try.prog ts ds).all (· ≤ reachBytes) = true) (j : Nat) (_ht : ts[j]? = some 24) (_hd : ds[j]? = some d) :
    ∃ (kind fr seq id i n : Int) (text : ByteArray) (A : Option Addr) (pn pc : Nat) (P : List ByteArray), v = .agg #[.int .i64 kind, .int .i64 fr, .int .i64 seq, .int .i64 id, .int .i64 i, .int .i64 n, .string text, .slice A pn pc] ∧
      text.size ≤ 9223372036854775807 ∧ P.length = pn ∧ pn ≤ pc ∧ pn ≤ 9223372036854775807 ∧ Rd w A (P.map Value.string) := by
  obtain ⟨cs, rfl, hsz⟩ := okWide_struct Try.underlying24 hval
  obtain ⟨l⟩ := cs
  obtain ⟨fuel, hf⟩ := h
  obtain ⟨xs, n, _, _, hcl, hlen, hg⟩ := DataW.trod_struct Try.underlying24 hf
  rw [cells_pkt] at hcl
  have hl : l.length = 8 := by simpa [Value.cells] using hcl
  obtain ⟨c0, c1, c2, c3, c4, c5, c6, c7, rfl⟩ := list8 hl
  obtain ⟨y0, e0⟩ := opt_some (i := 0) hlen (by decide)
  obtain ⟨y1, e1⟩ := opt_some (i := 1) hlen (by decide)
  obtain ⟨y2, e2⟩ := opt_some (i := 2) hlen (by decide)
  obtain ⟨y3, e3⟩ := opt_some (i := 3) hlen (by decide)
  obtain ⟨y4, e4⟩ := opt_some (i := 4) hlen (by decide)
  obtain ⟨y5, e5⟩ := opt_some (i := 5) hlen (by decide)
  obtain ⟨y6, e6⟩ := opt_some (i := 6) hlen (by decide)
  obtain ⟨y7, e7⟩ := opt_some (i := 7) hlen (by decide)
  have h0 := hg 0
  have h1 := hg 1
  have h2 := hg 2
  have h3 := hg 3
  have h4 := hg 4
  have h5 := hg 5
  have h6 := hg 6
  have h7 := hg 7
  simp only [List.getElem?_toArray, List.getElem?_cons_zero, List.getElem?_cons_succ, Option.some.injEq, forall_eq', Value.cells, cells_int, cells_str, cells_strs, List.drop_zero, List.drop_succ_cons, List.take_succ_cons, List.take_zero] at h0 h1 h2 h3 h4 h5 h6 h7
  rw [e0] at h0; rw [e1] at h1; rw [e2] at h2; rw [e3] at h3; rw [e4] at h4; rw [e5] at h5; rw [e6] at h6; rw [e7] at h7
  obtain ⟨x0, rfl⟩ := one_int h0
  obtain ⟨x1, rfl⟩ := one_int h1
  obtain ⟨x2, rfl⟩ := one_int h2
  obtain ⟨x3, rfl⟩ := one_int h3
  obtain ⟨x4, rfl⟩ := one_int h4
  obtain ⟨x5, rfl⟩ := one_int h5
  obtain ⟨x6, rfl, z6⟩ := one_str h6
  obtain ⟨A, pn, pc, P, rfl, hP, hc, hm, hr, _⟩ := one_strs h7
  exact ⟨x0, x1, x2, x3, x4, x5, x6, A, pn, pc, P, rfl, z6, hP, hc, by omega, hr⟩
/-- A byte. -/
theorem arg_byte (hval : Value.okWide Try.prog w .any b0 5 v) (h : DataW.Trod enc Try.prog w 0 (fun _ => true) true 5 v d p) (_hsz : (DataW.weightsEach Try.prog ts ds).all (· ≤ reachBytes) = true) (j : Nat) (_ht : ts[j]? = some 5) (_hd : ds[j]? = some d) :
    ∃ n : Int, v = .int .u8 n ∧ 0 ≤ n ∧ n ≤ 255 := by
  obtain ⟨n, rfl, rfl, rfl, wn⟩ := open_int Try.underlying5 hval h
  refine ⟨n, rfl, ?_⟩
  simp [Lit.wf, IntKind.min, IntKind.max, IntKind.signed, IntKind.bits] at wn
  omega
end
end Go.Proofs.Ytfkbcmmhpopdnaa
