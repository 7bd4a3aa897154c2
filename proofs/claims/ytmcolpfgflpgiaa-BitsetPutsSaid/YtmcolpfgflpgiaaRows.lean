/-
  No cell of these rows narrows 'for every input' (looked for: loops, veiled, ifaces, maps, wideKeys, modest, calm, conditions, laid).
  DERIVED. THE GIVEN ROWS OF THIS SEAT. 4 by the template 'for every input the law returns true; each argument reads behind the call as it read before'; 0 by the template 'total and deterministic' (their statements: YtmcolpfgflpgiaaTotals.lean).
  GIVEN WITH THE SEED: the statements are not yours to turn. If you find one false, say at which input.
  Laid BY PROGRAM, IN A SANDBOX (cutbox-rows.mjs): the forced cells as the released guide's own fill.sh prints them over the translation 5d5e91a8c9ea7264… (all of the seat's roots in one cut). By AI agents, Wed Nov 11 2026. No macro, syntax, notation, axiom, sorry.
-/
import Derived.Test.YtmcolpfgflpgiaaChecked
import GoSem.Claim
import GoSem.ClaimJoined
import GoSem.ClaimMapViews
import Derived.JoinedTies
import Derived.KernelRfl
namespace Go.Proofs.Ytmcolpfgflpgiaa
/- THE CELL 'sum', in the pinned program and in every row, IS THE sha256 OF THE DUMP (.gsa) THAT YtmcolpfgflpgiaaProg.lean LOADS. Nothing in Lean hashes anything: it is a label: what it is worth is what the hold of that sum in a sandbox is worth. -/
noncomputable def Try.pinned : Pinned := { name := "ytmcolpfgflpgiaa", sum := "5d5e91a8c9ea7264595492df9940fa2607c3664a260790ef1d425a12d4b03f04", checked := Try.checked }
namespace Rows
def none {H : Type} : Left H := { results := [], args := [] }

/-- 'sledgelaw22.BitsetNext': WHATEVER THE INPUT: true; the input reads as it did. -/
def bitsetNextSpec : ChangeSpec := { name := "bitsetNext", fn := fun _ => fun
  | [d1, d2, d3] => { results := [.lit (.bool true)], args := [d1, d2, d3] }
  | _ => none }
def bitsetNextRow : OpenClaim := { program := "ytmcolpfgflpgiaa", sum := "5d5e91a8c9ea7264595492df9940fa2607c3664a260790ef1d425a12d4b03f04", func := "sledge/sledgelaw22.BitsetNext", spec := "bitsetNext", apart := false }
def BitsetNextSaid : Prop := bitsetNextRow.holds Try.pinned (OpenSpec.ofChange bitsetNextSpec)

/-- ITS FALSE NEIGHBOUR: 'it returns false'. Refute it at one input. -/
def bitsetNextWrong : ChangeSpec := { name := "bitsetNext", fn := fun _ => fun
  | [d1, d2, d3] => { results := [.lit (.bool false)], args := [d1, d2, d3] }
  | _ => none }
def BitsetNextWrongFalsely : Prop := bitsetNextRow.holds Try.pinned (OpenSpec.ofChange bitsetNextWrong)

/-- 'sledgelaw22.BitsetMakes': WHATEVER THE INPUT: true; the input reads as it did. -/
def bitsetMakesSpec : ChangeSpec := { name := "bitsetMakes", fn := fun _ => fun
  | [d1, d2, d3, d4] => { results := [.lit (.bool true)], args := [d1, d2, d3, d4] }
  | _ => none }
def bitsetMakesRow : OpenClaim := { program := "ytmcolpfgflpgiaa", sum := "5d5e91a8c9ea7264595492df9940fa2607c3664a260790ef1d425a12d4b03f04", func := "sledge/sledgelaw22.BitsetMakes", spec := "bitsetMakes", apart := false }
def BitsetMakesSaid : Prop := bitsetMakesRow.holds Try.pinned (OpenSpec.ofChange bitsetMakesSpec)

/-- ITS FALSE NEIGHBOUR: 'it returns false'. Refute it at one input. -/
def bitsetMakesWrong : ChangeSpec := { name := "bitsetMakes", fn := fun _ => fun
  | [d1, d2, d3, d4] => { results := [.lit (.bool false)], args := [d1, d2, d3, d4] }
  | _ => none }
def BitsetMakesWrongFalsely : Prop := bitsetMakesRow.holds Try.pinned (OpenSpec.ofChange bitsetMakesWrong)

/-- 'sledgelaw22.BitsetTwo': WHATEVER THE INPUT: true; the input reads as it did. -/
def bitsetTwoSpec : ChangeSpec := { name := "bitsetTwo", fn := fun _ => fun
  | [d1, d2, d3, d4] => { results := [.lit (.bool true)], args := [d1, d2, d3, d4] }
  | _ => none }
def bitsetTwoRow : OpenClaim := { program := "ytmcolpfgflpgiaa", sum := "5d5e91a8c9ea7264595492df9940fa2607c3664a260790ef1d425a12d4b03f04", func := "sledge/sledgelaw22.BitsetTwo", spec := "bitsetTwo", apart := false }
def BitsetTwoSaid : Prop := bitsetTwoRow.holds Try.pinned (OpenSpec.ofChange bitsetTwoSpec)

/-- ITS FALSE NEIGHBOUR: 'it returns false'. Refute it at one input. -/
def bitsetTwoWrong : ChangeSpec := { name := "bitsetTwo", fn := fun _ => fun
  | [d1, d2, d3, d4] => { results := [.lit (.bool false)], args := [d1, d2, d3, d4] }
  | _ => none }
def BitsetTwoWrongFalsely : Prop := bitsetTwoRow.holds Try.pinned (OpenSpec.ofChange bitsetTwoWrong)

/-- 'sledgelaw22.BitsetPuts': WHATEVER THE INPUT: true; the input reads as it did. -/
def bitsetPutsSpec : ChangeSpec := { name := "bitsetPuts", fn := fun _ => fun
  | [d1, d2, d3, d4] => { results := [.lit (.bool true)], args := [d1, d2, d3, d4] }
  | _ => none }
def bitsetPutsRow : OpenClaim := { program := "ytmcolpfgflpgiaa", sum := "5d5e91a8c9ea7264595492df9940fa2607c3664a260790ef1d425a12d4b03f04", func := "sledge/sledgelaw22.BitsetPuts", spec := "bitsetPuts", apart := false }
def BitsetPutsSaid : Prop := bitsetPutsRow.holds Try.pinned (OpenSpec.ofChange bitsetPutsSpec)

/-- ITS FALSE NEIGHBOUR: 'it returns false'. Refute it at one input. -/
def bitsetPutsWrong : ChangeSpec := { name := "bitsetPuts", fn := fun _ => fun
  | [d1, d2, d3, d4] => { results := [.lit (.bool false)], args := [d1, d2, d3, d4] }
  | _ => none }
def BitsetPutsWrongFalsely : Prop := bitsetPutsRow.holds Try.pinned (OpenSpec.ofChange bitsetPutsWrong)

/- THE SECOND FORM. 'bulk': how many values and letters a reading holds, each counted each time it is reached (what is shared counts as often as it is met; a slice's spare places count too). A statement '..UptoSaid' is the law's where the arguments, and the package variables that the reading takes, are together of bulk at most 1048576: NARROWER than '..Said'. Prove '..Said' where nothing that the law and all that it calls make is longer than what came in: it says more and counts as full. Else prove '..UptoSaid'. A law counts once. -/
mutual
def uptoBulk {H : Type} : DataW H → Nat
  | .lit (.string bytes) => bytes.length + 1
  | .lit _ => 1
  | .nil => 1
  | .ptr d => uptoBulk d + 1
  | .slice elems spare => uptoBulkAll elems + uptoBulkAll spare + 1
  | .agg parts => uptoBulkAll parts + 1
  | .iface _ d => uptoBulk d + 1
  | .map entries => uptoBulkEntries entries + 1
  | .held _ => 1
def uptoBulkAll {H : Type} : List (DataW H) → Nat
  | [] => 0
  | d :: r => uptoBulk d + uptoBulkAll r
def uptoBulkEntries {H : Type} : List (Lit × DataW H) → Nat
  | [] => 0
  | x :: r => uptoBulkEntry x + uptoBulkEntries r
def uptoBulkEntry {H : Type} : Lit × DataW H → Nat
  | (.string bytes, d) => bytes.length + uptoBulk d + 1
  | (_, d) => uptoBulk d + 1
 end
def uptoSmall : (H : Type) → List (DataW H) → Bool := fun _ ds => decide (uptoBulkAll ds ≤ 1048576)
def OpenSpec.upto (s : _root_.Go.ChangeSpec) : _root_.Go.OpenSpec := { _root_.Go.OpenSpec.ofChange s with cond := some uptoSmall }

/-- 'sledgelaw22.BitsetNext', WHERE WHAT IT READS IS OF BULK AT MOST 1048576: true; the input reads as it did. -/
def bitsetNextUptoRow : OpenClaim := { program := "ytmcolpfgflpgiaa", sum := "5d5e91a8c9ea7264595492df9940fa2607c3664a260790ef1d425a12d4b03f04", func := "sledge/sledgelaw22.BitsetNext", spec := "bitsetNext", apart := false, narrowed := true }
def BitsetNextUptoSaid : Prop := bitsetNextUptoRow.holds Try.pinned (OpenSpec.upto bitsetNextSpec)

/-- 'sledgelaw22.BitsetMakes', WHERE WHAT IT READS IS OF BULK AT MOST 1048576: true; the input reads as it did. -/
def bitsetMakesUptoRow : OpenClaim := { program := "ytmcolpfgflpgiaa", sum := "5d5e91a8c9ea7264595492df9940fa2607c3664a260790ef1d425a12d4b03f04", func := "sledge/sledgelaw22.BitsetMakes", spec := "bitsetMakes", apart := false, narrowed := true }
def BitsetMakesUptoSaid : Prop := bitsetMakesUptoRow.holds Try.pinned (OpenSpec.upto bitsetMakesSpec)

/-- 'sledgelaw22.BitsetTwo', WHERE WHAT IT READS IS OF BULK AT MOST 1048576: true; the input reads as it did. -/
def bitsetTwoUptoRow : OpenClaim := { program := "ytmcolpfgflpgiaa", sum := "5d5e91a8c9ea7264595492df9940fa2607c3664a260790ef1d425a12d4b03f04", func := "sledge/sledgelaw22.BitsetTwo", spec := "bitsetTwo", apart := false, narrowed := true }
def BitsetTwoUptoSaid : Prop := bitsetTwoUptoRow.holds Try.pinned (OpenSpec.upto bitsetTwoSpec)

/-- 'sledgelaw22.BitsetPuts', WHERE WHAT IT READS IS OF BULK AT MOST 1048576: true; the input reads as it did. -/
def bitsetPutsUptoRow : OpenClaim := { program := "ytmcolpfgflpgiaa", sum := "5d5e91a8c9ea7264595492df9940fa2607c3664a260790ef1d425a12d4b03f04", func := "sledge/sledgelaw22.BitsetPuts", spec := "bitsetPuts", apart := false, narrowed := true }
def BitsetPutsUptoSaid : Prop := bitsetPutsUptoRow.holds Try.pinned (OpenSpec.upto bitsetPutsSpec)

end Rows
end Go.Proofs.Ytmcolpfgflpgiaa
