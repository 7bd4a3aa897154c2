/-
  No cell of these rows narrows 'for every input' (looked for: loops, veiled, ifaces, maps, wideKeys, modest, calm, conditions, laid).
  DERIVED. THE GIVEN ROWS OF THIS SEAT. 6 by the template 'for every input the law returns true; each argument reads behind the call as it read before'; 0 by the template 'total and deterministic' (their statements: YtnhbkfefpkocaaaTotals.lean).
  GIVEN WITH THE SEED: the statements are not yours to turn. If you find one false, say at which input.
  Laid BY PROGRAM, IN A SANDBOX (cutbox-rows.mjs): the forced cells as the released guide's own fill.sh prints them over the translation deff4d8c6ddc4003… (all of the seat's roots in one cut). By AI agents, Wed Nov 11 2026. No macro, syntax, notation, axiom, sorry.
-/
import Derived.Test.YtnhbkfefpkocaaaChecked
import GoSem.Claim
import GoSem.ClaimJoined
import GoSem.ClaimMapViews
import Derived.JoinedTies
import Derived.KernelRfl
namespace Go.Proofs.Ytnhbkfefpkocaaa
/- THE CELL 'sum', in the pinned program and in every row, IS THE sha256 OF THE DUMP (.gsa) THAT YtnhbkfefpkocaaaProg.lean LOADS. Nothing in Lean hashes anything: it is a label: what it is worth is what the hold of that sum in a sandbox is worth. -/
noncomputable def Try.pinned : Pinned := { name := "ytnhbkfefpkocaaa", sum := "deff4d8c6ddc400301055d2fc8cbbf1900d3ce07ecf3ddc840a67b102fdd26e5", checked := Try.checked }
namespace Rows
def none {H : Type} : Left H := { results := [], args := [] }

/-- 'sledgelaw44.IndexWith': WHATEVER THE INPUT: true; the input reads as it did. -/
def indexWithSpec : ChangeSpec := { name := "indexWith", fn := fun _ => fun
  | [d1, d2] => { results := [.lit (.bool true)], args := [d1, d2] }
  | _ => none }
def indexWithRow : OpenClaim := { program := "ytnhbkfefpkocaaa", sum := "deff4d8c6ddc400301055d2fc8cbbf1900d3ce07ecf3ddc840a67b102fdd26e5", func := "sledge/sledgelaw44.IndexWith", spec := "indexWith", inPlace := ["internal/bytealg.IndexByteString", "internal/bytealg.IndexString", "internal/bytealg.abigen_runtime_cmpstring", "slices.overlaps[sledge/api.Item]"], unfollowed := true, recurses := true, named := ["internal/bytealg.MaxLen"], apart := false }
def IndexWithSaid : Prop := indexWithRow.holds Try.pinned (OpenSpec.ofChange indexWithSpec)

/-- ITS FALSE NEIGHBOUR: 'it returns false'. Refute it at one input. -/
def indexWithWrong : ChangeSpec := { name := "indexWith", fn := fun _ => fun
  | [d1, d2] => { results := [.lit (.bool false)], args := [d1, d2] }
  | _ => none }
def IndexWithWrongFalsely : Prop := indexWithRow.holds Try.pinned (OpenSpec.ofChange indexWithWrong)

/-- 'sledgelaw44.IndexOrder': WHATEVER THE INPUT: true; the input reads as it did. -/
def indexOrderSpec : ChangeSpec := { name := "indexOrder", fn := fun _ => fun
  | [d1, d2] => { results := [.lit (.bool true)], args := [d1, d2] }
  | _ => none }
def indexOrderRow : OpenClaim := { program := "ytnhbkfefpkocaaa", sum := "deff4d8c6ddc400301055d2fc8cbbf1900d3ce07ecf3ddc840a67b102fdd26e5", func := "sledge/sledgelaw44.IndexOrder", spec := "indexOrder", inPlace := ["internal/bytealg.IndexByteString", "internal/bytealg.IndexString", "internal/bytealg.abigen_runtime_cmpstring", "slices.overlaps[sledge/api.Item]"], unfollowed := true, recurses := true, named := ["internal/bytealg.MaxLen"], apart := false }
def IndexOrderSaid : Prop := indexOrderRow.holds Try.pinned (OpenSpec.ofChange indexOrderSpec)

/-- ITS FALSE NEIGHBOUR: 'it returns false'. Refute it at one input. -/
def indexOrderWrong : ChangeSpec := { name := "indexOrder", fn := fun _ => fun
  | [d1, d2] => { results := [.lit (.bool false)], args := [d1, d2] }
  | _ => none }
def IndexOrderWrongFalsely : Prop := indexOrderRow.holds Try.pinned (OpenSpec.ofChange indexOrderWrong)

/-- 'sledgelaw44.IndexDiff': WHATEVER THE INPUT: true; the input reads as it did. -/
def indexDiffSpec : ChangeSpec := { name := "indexDiff", fn := fun _ => fun
  | [d1, d2] => { results := [.lit (.bool true)], args := [d1, d2] }
  | _ => none }
def indexDiffRow : OpenClaim := { program := "ytnhbkfefpkocaaa", sum := "deff4d8c6ddc400301055d2fc8cbbf1900d3ce07ecf3ddc840a67b102fdd26e5", func := "sledge/sledgelaw44.IndexDiff", spec := "indexDiff", inPlace := ["internal/bytealg.IndexByteString", "internal/bytealg.IndexString", "internal/bytealg.abigen_runtime_cmpstring", "slices.overlaps[sledge/api.Item]"], unfollowed := true, recurses := true, named := ["internal/bytealg.MaxLen"], apart := false }
def IndexDiffSaid : Prop := indexDiffRow.holds Try.pinned (OpenSpec.ofChange indexDiffSpec)

/-- ITS FALSE NEIGHBOUR: 'it returns false'. Refute it at one input. -/
def indexDiffWrong : ChangeSpec := { name := "indexDiff", fn := fun _ => fun
  | [d1, d2] => { results := [.lit (.bool false)], args := [d1, d2] }
  | _ => none }
def IndexDiffWrongFalsely : Prop := indexDiffRow.holds Try.pinned (OpenSpec.ofChange indexDiffWrong)

/-- 'sledgelaw44.IndexBack': WHATEVER THE INPUT: true; the input reads as it did. -/
def indexBackSpec : ChangeSpec := { name := "indexBack", fn := fun _ => fun
  | [d] => { results := [.lit (.bool true)], args := [d] }
  | _ => none }
def indexBackRow : OpenClaim := { program := "ytnhbkfefpkocaaa", sum := "deff4d8c6ddc400301055d2fc8cbbf1900d3ce07ecf3ddc840a67b102fdd26e5", func := "sledge/sledgelaw44.IndexBack", spec := "indexBack", inPlace := ["internal/bytealg.IndexByteString", "internal/bytealg.IndexString", "internal/bytealg.abigen_runtime_cmpstring", "slices.overlaps[sledge/api.Item]"], unfollowed := true, recurses := true, named := ["internal/bytealg.MaxLen"], apart := false }
def IndexBackSaid : Prop := indexBackRow.holds Try.pinned (OpenSpec.ofChange indexBackSpec)

/-- ITS FALSE NEIGHBOUR: 'it returns false'. Refute it at one input. -/
def indexBackWrong : ChangeSpec := { name := "indexBack", fn := fun _ => fun
  | [d] => { results := [.lit (.bool false)], args := [d] }
  | _ => none }
def IndexBackWrongFalsely : Prop := indexBackRow.holds Try.pinned (OpenSpec.ofChange indexBackWrong)

/-- 'sledgelaw44.IndexTakes': WHATEVER THE INPUT: true; the input reads as it did. -/
def indexTakesSpec : ChangeSpec := { name := "indexTakes", fn := fun _ => fun
  | [d] => { results := [.lit (.bool true)], args := [d] }
  | _ => none }
def indexTakesRow : OpenClaim := { program := "ytnhbkfefpkocaaa", sum := "deff4d8c6ddc400301055d2fc8cbbf1900d3ce07ecf3ddc840a67b102fdd26e5", func := "sledge/sledgelaw44.IndexTakes", spec := "indexTakes", inPlace := ["internal/bytealg.IndexByteString", "internal/bytealg.IndexString", "internal/bytealg.abigen_runtime_cmpstring", "slices.overlaps[sledge/api.Item]"], unfollowed := true, recurses := true, named := ["internal/bytealg.MaxLen"], apart := false }
def IndexTakesSaid : Prop := indexTakesRow.holds Try.pinned (OpenSpec.ofChange indexTakesSpec)

/-- ITS FALSE NEIGHBOUR: 'it returns false'. Refute it at one input. -/
def indexTakesWrong : ChangeSpec := { name := "indexTakes", fn := fun _ => fun
  | [d] => { results := [.lit (.bool false)], args := [d] }
  | _ => none }
def IndexTakesWrongFalsely : Prop := indexTakesRow.holds Try.pinned (OpenSpec.ofChange indexTakesWrong)

/-- 'sledgelaw44.IndexAsks': WHATEVER THE INPUT: true; the input reads as it did. -/
def indexAsksSpec : ChangeSpec := { name := "indexAsks", fn := fun _ => fun
  | [d1, d2] => { results := [.lit (.bool true)], args := [d1, d2] }
  | _ => none }
def indexAsksRow : OpenClaim := { program := "ytnhbkfefpkocaaa", sum := "deff4d8c6ddc400301055d2fc8cbbf1900d3ce07ecf3ddc840a67b102fdd26e5", func := "sledge/sledgelaw44.IndexAsks", spec := "indexAsks", inPlace := ["internal/bytealg.IndexByteString", "internal/bytealg.IndexString", "internal/bytealg.abigen_runtime_cmpstring", "slices.overlaps[sledge/api.Item]"], unfollowed := true, recurses := true, named := ["internal/bytealg.MaxLen"], apart := false }
def IndexAsksSaid : Prop := indexAsksRow.holds Try.pinned (OpenSpec.ofChange indexAsksSpec)

/-- ITS FALSE NEIGHBOUR: 'it returns false'. Refute it at one input. -/
def indexAsksWrong : ChangeSpec := { name := "indexAsks", fn := fun _ => fun
  | [d1, d2] => { results := [.lit (.bool false)], args := [d1, d2] }
  | _ => none }
def IndexAsksWrongFalsely : Prop := indexAsksRow.holds Try.pinned (OpenSpec.ofChange indexAsksWrong)

/- THE SECOND FORM. 'bulk': how many values and letters a reading holds, each counted each time it is reached (what is shared counts as often as it is met; a slice's spare places count too). A statement '..UptoSaid' is the law's where the arguments, and the package variables that the reading takes, are together of bulk at most 1048576: NARROWER than '..Said'. Prove '..Said' where nothing that the law and all that it calls make is longer than what came in: it says more and counts as full. Else prove '..UptoSaid'. A law counts once. -/
mutual
def uptoBulk {H : Type} : DataW H → Nat
  | .lit (.string bytes) => bytes.length + 1
  | .lit _ => 1
  | .nil => 1
  | .ptr d => uptoBulk d + 1
  | .slice elems spare => uptoBulkAll elems + uptoBulkAll spare + 1
  | .agg parts => uptoBulkAll parts + 1
  | .iface _ d => uptoBulk d + 1
  | .map entries => uptoBulkEntries entries + 1
  | .held _ => 1
def uptoBulkAll {H : Type} : List (DataW H) → Nat
  | [] => 0
  | d :: r => uptoBulk d + uptoBulkAll r
def uptoBulkEntries {H : Type} : List (Lit × DataW H) → Nat
  | [] => 0
  | x :: r => uptoBulkEntry x + uptoBulkEntries r
def uptoBulkEntry {H : Type} : Lit × DataW H → Nat
  | (.string bytes, d) => bytes.length + uptoBulk d + 1
  | (_, d) => uptoBulk d + 1
 end
def uptoSmall : (H : Type) → List (DataW H) → Bool := fun _ ds => decide (uptoBulkAll ds ≤ 1048576)
def OpenSpec.upto (s : _root_.Go.ChangeSpec) : _root_.Go.OpenSpec := { _root_.Go.OpenSpec.ofChange s with cond := some uptoSmall }

/-- 'sledgelaw44.IndexWith', WHERE WHAT IT READS IS OF BULK AT MOST 1048576: true; the input reads as it did. -/
def indexWithUptoRow : OpenClaim := { program := "ytnhbkfefpkocaaa", sum := "deff4d8c6ddc400301055d2fc8cbbf1900d3ce07ecf3ddc840a67b102fdd26e5", func := "sledge/sledgelaw44.IndexWith", spec := "indexWith", inPlace := ["internal/bytealg.IndexByteString", "internal/bytealg.IndexString", "internal/bytealg.abigen_runtime_cmpstring", "slices.overlaps[sledge/api.Item]"], unfollowed := true, recurses := true, named := ["internal/bytealg.MaxLen"], apart := false, narrowed := true }
def IndexWithUptoSaid : Prop := indexWithUptoRow.holds Try.pinned (OpenSpec.upto indexWithSpec)

/-- 'sledgelaw44.IndexOrder', WHERE WHAT IT READS IS OF BULK AT MOST 1048576: true; the input reads as it did. -/
def indexOrderUptoRow : OpenClaim := { program := "ytnhbkfefpkocaaa", sum := "deff4d8c6ddc400301055d2fc8cbbf1900d3ce07ecf3ddc840a67b102fdd26e5", func := "sledge/sledgelaw44.IndexOrder", spec := "indexOrder", inPlace := ["internal/bytealg.IndexByteString", "internal/bytealg.IndexString", "internal/bytealg.abigen_runtime_cmpstring", "slices.overlaps[sledge/api.Item]"], unfollowed := true, recurses := true, named := ["internal/bytealg.MaxLen"], apart := false, narrowed := true }
def IndexOrderUptoSaid : Prop := indexOrderUptoRow.holds Try.pinned (OpenSpec.upto indexOrderSpec)

/-- 'sledgelaw44.IndexDiff', WHERE WHAT IT READS IS OF BULK AT MOST 1048576: true; the input reads as it did. -/
def indexDiffUptoRow : OpenClaim := { program := "ytnhbkfefpkocaaa", sum := "deff4d8c6ddc400301055d2fc8cbbf1900d3ce07ecf3ddc840a67b102fdd26e5", func := "sledge/sledgelaw44.IndexDiff", spec := "indexDiff", inPlace := ["internal/bytealg.IndexByteString", "internal/bytealg.IndexString", "internal/bytealg.abigen_runtime_cmpstring", "slices.overlaps[sledge/api.Item]"], unfollowed := true, recurses := true, named := ["internal/bytealg.MaxLen"], apart := false, narrowed := true }
def IndexDiffUptoSaid : Prop := indexDiffUptoRow.holds Try.pinned (OpenSpec.upto indexDiffSpec)

/-- 'sledgelaw44.IndexBack', WHERE WHAT IT READS IS OF BULK AT MOST 1048576: true; the input reads as it did. -/
def indexBackUptoRow : OpenClaim := { program := "ytnhbkfefpkocaaa", sum := "deff4d8c6ddc400301055d2fc8cbbf1900d3ce07ecf3ddc840a67b102fdd26e5", func := "sledge/sledgelaw44.IndexBack", spec := "indexBack", inPlace := ["internal/bytealg.IndexByteString", "internal/bytealg.IndexString", "internal/bytealg.abigen_runtime_cmpstring", "slices.overlaps[sledge/api.Item]"], unfollowed := true, recurses := true, named := ["internal/bytealg.MaxLen"], apart := false, narrowed := true }
def IndexBackUptoSaid : Prop := indexBackUptoRow.holds Try.pinned (OpenSpec.upto indexBackSpec)

/-- 'sledgelaw44.IndexTakes', WHERE WHAT IT READS IS OF BULK AT MOST 1048576: true; the input reads as it did. -/
def indexTakesUptoRow : OpenClaim := { program := "ytnhbkfefpkocaaa", sum := "deff4d8c6ddc400301055d2fc8cbbf1900d3ce07ecf3ddc840a67b102fdd26e5", func := "sledge/sledgelaw44.IndexTakes", spec := "indexTakes", inPlace := ["internal/bytealg.IndexByteString", "internal/bytealg.IndexString", "internal/bytealg.abigen_runtime_cmpstring", "slices.overlaps[sledge/api.Item]"], unfollowed := true, recurses := true, named := ["internal/bytealg.MaxLen"], apart := false, narrowed := true }
def IndexTakesUptoSaid : Prop := indexTakesUptoRow.holds Try.pinned (OpenSpec.upto indexTakesSpec)

/-- 'sledgelaw44.IndexAsks', WHERE WHAT IT READS IS OF BULK AT MOST 1048576: true; the input reads as it did. -/
def indexAsksUptoRow : OpenClaim := { program := "ytnhbkfefpkocaaa", sum := "deff4d8c6ddc400301055d2fc8cbbf1900d3ce07ecf3ddc840a67b102fdd26e5", func := "sledge/sledgelaw44.IndexAsks", spec := "indexAsks", inPlace := ["internal/bytealg.IndexByteString", "internal/bytealg.IndexString", "internal/bytealg.abigen_runtime_cmpstring", "slices.overlaps[sledge/api.Item]"], unfollowed := true, recurses := true, named := ["internal/bytealg.MaxLen"], apart := false, narrowed := true }
def IndexAsksUptoSaid : Prop := indexAsksUptoRow.holds Try.pinned (OpenSpec.upto indexAsksSpec)

end Rows
end Go.Proofs.Ytnhbkfefpkocaaa
