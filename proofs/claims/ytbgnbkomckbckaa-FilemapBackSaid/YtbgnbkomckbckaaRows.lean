/-
  No cell of these rows narrows 'for every input' (looked for: loops, veiled, ifaces, maps, wideKeys, modest, calm, conditions, laid).
  DERIVED. THE GIVEN ROWS OF THIS SEAT. 6 by the template 'for every input the law returns true; each argument reads behind the call as it read before'; 0 by the template 'total and deterministic' (their statements: YtbgnbkomckbckaaTotals.lean).
  GIVEN WITH THE SEED: the statements are not yours to turn. If you find one false, say at which input.
  Laid BY PROGRAM, IN A SANDBOX (cutbox-rows.mjs): the forced cells as the released guide's own fill.sh prints them over the translation 8e78f2bcfbc98fe3… (all of the seat's roots in one cut). By AI agents, Wed Nov 11 2026. No macro, syntax, notation, axiom, sorry.
-/
import Derived.Test.YtbgnbkomckbckaaChecked
import GoSem.Claim
import GoSem.ClaimJoined
import GoSem.ClaimMapViews
import Derived.JoinedTies
import Derived.KernelRfl
namespace Go.Proofs.Ytbgnbkomckbckaa
/- THE CELL 'sum', in the pinned program and in every row, IS THE sha256 OF THE DUMP (.gsa) THAT YtbgnbkomckbckaaProg.lean LOADS. Nothing in Lean hashes anything: it is a label: what it is worth is what the hold of that sum in a sandbox is worth. -/
noncomputable def Try.pinned : Pinned := { name := "ytbgnbkomckbckaa", sum := "8e78f2bcfbc98fe39ee304e328800d5c8907df6d4124f27ffe2566447ff0595e", checked := Try.checked }
namespace Rows
def none {H : Type} : Left H := { results := [], args := [] }

/-- 'sledgelaw12.FilemapPuts': WHATEVER THE INPUT: true; the input reads as it did. -/
def filemapPutsSpec : ChangeSpec := { name := "filemapPuts", fn := fun _ => fun
  | [d] => { results := [.lit (.bool true)], args := [d] }
  | _ => none }
def filemapPutsRow : OpenClaim := { program := "ytbgnbkomckbckaa", sum := "8e78f2bcfbc98fe39ee304e328800d5c8907df6d4124f27ffe2566447ff0595e", func := "sledge/sledgelaw12.FilemapPuts", spec := "filemapPuts", inPlace := ["internal/bytealg.IndexByteString", "internal/bytealg.IndexString", "internal/bytealg.abigen_runtime_cmpstring"], unfollowed := true, recurses := true, named := ["internal/bytealg.MaxLen"], apart := false }
def FilemapPutsSaid : Prop := filemapPutsRow.holds Try.pinned (OpenSpec.ofChange filemapPutsSpec)

/-- ITS FALSE NEIGHBOUR: 'it returns false'. Refute it at one input. -/
def filemapPutsWrong : ChangeSpec := { name := "filemapPuts", fn := fun _ => fun
  | [d] => { results := [.lit (.bool false)], args := [d] }
  | _ => none }
def FilemapPutsWrongFalsely : Prop := filemapPutsRow.holds Try.pinned (OpenSpec.ofChange filemapPutsWrong)

/-- 'sledgelaw12.FilemapOrder': WHATEVER THE INPUT: true; the input reads as it did. -/
def filemapOrderSpec : ChangeSpec := { name := "filemapOrder", fn := fun _ => fun
  | [d1, d2] => { results := [.lit (.bool true)], args := [d1, d2] }
  | _ => none }
def filemapOrderRow : OpenClaim := { program := "ytbgnbkomckbckaa", sum := "8e78f2bcfbc98fe39ee304e328800d5c8907df6d4124f27ffe2566447ff0595e", func := "sledge/sledgelaw12.FilemapOrder", spec := "filemapOrder", inPlace := ["internal/bytealg.IndexByteString", "internal/bytealg.IndexString", "internal/bytealg.abigen_runtime_cmpstring"], unfollowed := true, recurses := true, named := ["internal/bytealg.MaxLen"], apart := false }
def FilemapOrderSaid : Prop := filemapOrderRow.holds Try.pinned (OpenSpec.ofChange filemapOrderSpec)

/-- ITS FALSE NEIGHBOUR: 'it returns false'. Refute it at one input. -/
def filemapOrderWrong : ChangeSpec := { name := "filemapOrder", fn := fun _ => fun
  | [d1, d2] => { results := [.lit (.bool false)], args := [d1, d2] }
  | _ => none }
def FilemapOrderWrongFalsely : Prop := filemapOrderRow.holds Try.pinned (OpenSpec.ofChange filemapOrderWrong)

/-- 'sledgelaw12.FilemapApart': WHATEVER THE INPUT: true; the input reads as it did. -/
def filemapApartSpec : ChangeSpec := { name := "filemapApart", fn := fun _ => fun
  | [d1, d2] => { results := [.lit (.bool true)], args := [d1, d2] }
  | _ => none }
def filemapApartRow : OpenClaim := { program := "ytbgnbkomckbckaa", sum := "8e78f2bcfbc98fe39ee304e328800d5c8907df6d4124f27ffe2566447ff0595e", func := "sledge/sledgelaw12.FilemapApart", spec := "filemapApart", inPlace := ["internal/bytealg.IndexByteString", "internal/bytealg.IndexString", "internal/bytealg.abigen_runtime_cmpstring"], unfollowed := true, recurses := true, named := ["internal/bytealg.MaxLen"], apart := false }
def FilemapApartSaid : Prop := filemapApartRow.holds Try.pinned (OpenSpec.ofChange filemapApartSpec)

/-- ITS FALSE NEIGHBOUR: 'it returns false'. Refute it at one input. -/
def filemapApartWrong : ChangeSpec := { name := "filemapApart", fn := fun _ => fun
  | [d1, d2] => { results := [.lit (.bool false)], args := [d1, d2] }
  | _ => none }
def FilemapApartWrongFalsely : Prop := filemapApartRow.holds Try.pinned (OpenSpec.ofChange filemapApartWrong)

/-- 'sledgelaw12.FilemapTakes': WHATEVER THE INPUT: true; the input reads as it did. -/
def filemapTakesSpec : ChangeSpec := { name := "filemapTakes", fn := fun _ => fun
  | [d] => { results := [.lit (.bool true)], args := [d] }
  | _ => none }
def filemapTakesRow : OpenClaim := { program := "ytbgnbkomckbckaa", sum := "8e78f2bcfbc98fe39ee304e328800d5c8907df6d4124f27ffe2566447ff0595e", func := "sledge/sledgelaw12.FilemapTakes", spec := "filemapTakes", inPlace := ["internal/bytealg.IndexByteString", "internal/bytealg.IndexString", "internal/bytealg.abigen_runtime_cmpstring"], unfollowed := true, recurses := true, named := ["internal/bytealg.MaxLen"], apart := false }
def FilemapTakesSaid : Prop := filemapTakesRow.holds Try.pinned (OpenSpec.ofChange filemapTakesSpec)

/-- ITS FALSE NEIGHBOUR: 'it returns false'. Refute it at one input. -/
def filemapTakesWrong : ChangeSpec := { name := "filemapTakes", fn := fun _ => fun
  | [d] => { results := [.lit (.bool false)], args := [d] }
  | _ => none }
def FilemapTakesWrongFalsely : Prop := filemapTakesRow.holds Try.pinned (OpenSpec.ofChange filemapTakesWrong)

/-- 'sledgelaw12.FilemapOnly': WHATEVER THE INPUT: true; the input reads as it did. -/
def filemapOnlySpec : ChangeSpec := { name := "filemapOnly", fn := fun _ => fun
  | [d] => { results := [.lit (.bool true)], args := [d] }
  | _ => none }
def filemapOnlyRow : OpenClaim := { program := "ytbgnbkomckbckaa", sum := "8e78f2bcfbc98fe39ee304e328800d5c8907df6d4124f27ffe2566447ff0595e", func := "sledge/sledgelaw12.FilemapOnly", spec := "filemapOnly", inPlace := ["internal/bytealg.IndexByteString", "internal/bytealg.IndexString", "internal/bytealg.abigen_runtime_cmpstring"], unfollowed := true, recurses := true, named := ["internal/bytealg.MaxLen"], apart := false }
def FilemapOnlySaid : Prop := filemapOnlyRow.holds Try.pinned (OpenSpec.ofChange filemapOnlySpec)

/-- ITS FALSE NEIGHBOUR: 'it returns false'. Refute it at one input. -/
def filemapOnlyWrong : ChangeSpec := { name := "filemapOnly", fn := fun _ => fun
  | [d] => { results := [.lit (.bool false)], args := [d] }
  | _ => none }
def FilemapOnlyWrongFalsely : Prop := filemapOnlyRow.holds Try.pinned (OpenSpec.ofChange filemapOnlyWrong)

/-- 'sledgelaw12.FilemapBack': WHATEVER THE INPUT: true; the input reads as it did. -/
def filemapBackSpec : ChangeSpec := { name := "filemapBack", fn := fun _ => fun
  | [d] => { results := [.lit (.bool true)], args := [d] }
  | _ => none }
def filemapBackRow : OpenClaim := { program := "ytbgnbkomckbckaa", sum := "8e78f2bcfbc98fe39ee304e328800d5c8907df6d4124f27ffe2566447ff0595e", func := "sledge/sledgelaw12.FilemapBack", spec := "filemapBack", inPlace := ["internal/bytealg.IndexByteString", "internal/bytealg.IndexString", "internal/bytealg.abigen_runtime_cmpstring"], unfollowed := true, recurses := true, named := ["internal/bytealg.MaxLen"], apart := false }
def FilemapBackSaid : Prop := filemapBackRow.holds Try.pinned (OpenSpec.ofChange filemapBackSpec)

/-- ITS FALSE NEIGHBOUR: 'it returns false'. Refute it at one input. -/
def filemapBackWrong : ChangeSpec := { name := "filemapBack", fn := fun _ => fun
  | [d] => { results := [.lit (.bool false)], args := [d] }
  | _ => none }
def FilemapBackWrongFalsely : Prop := filemapBackRow.holds Try.pinned (OpenSpec.ofChange filemapBackWrong)

/- THE SECOND FORM. 'bulk': how many values and letters a reading holds, each counted each time it is reached (what is shared counts as often as it is met; a slice's spare places count too). A statement '..UptoSaid' is the law's where the arguments, and the package variables that the reading takes, are together of bulk at most 1048576: NARROWER than '..Said'. Prove '..Said' where nothing that the law and all that it calls make is longer than what came in: it says more and counts as full. Else prove '..UptoSaid'. A law counts once. -/
mutual
def uptoBulk {H : Type} : DataW H → Nat
  | .lit (.string bytes) => bytes.length + 1
  | .lit _ => 1
  | .nil => 1
  | .ptr d => uptoBulk d + 1
  | .slice elems spare => uptoBulkAll elems + uptoBulkAll spare + 1
  | .agg parts => uptoBulkAll parts + 1
  | .iface _ d => uptoBulk d + 1
  | .map entries => uptoBulkEntries entries + 1
  | .held _ => 1
def uptoBulkAll {H : Type} : List (DataW H) → Nat
  | [] => 0
  | d :: r => uptoBulk d + uptoBulkAll r
def uptoBulkEntries {H : Type} : List (Lit × DataW H) → Nat
  | [] => 0
  | x :: r => uptoBulkEntry x + uptoBulkEntries r
def uptoBulkEntry {H : Type} : Lit × DataW H → Nat
  | (.string bytes, d) => bytes.length + uptoBulk d + 1
  | (_, d) => uptoBulk d + 1
 end
def uptoSmall : (H : Type) → List (DataW H) → Bool := fun _ ds => decide (uptoBulkAll ds ≤ 1048576)
def OpenSpec.upto (s : _root_.Go.ChangeSpec) : _root_.Go.OpenSpec := { _root_.Go.OpenSpec.ofChange s with cond := some uptoSmall }

/-- 'sledgelaw12.FilemapPuts', WHERE WHAT IT READS IS OF BULK AT MOST 1048576: true; the input reads as it did. -/
def filemapPutsUptoRow : OpenClaim := { program := "ytbgnbkomckbckaa", sum := "8e78f2bcfbc98fe39ee304e328800d5c8907df6d4124f27ffe2566447ff0595e", func := "sledge/sledgelaw12.FilemapPuts", spec := "filemapPuts", inPlace := ["internal/bytealg.IndexByteString", "internal/bytealg.IndexString", "internal/bytealg.abigen_runtime_cmpstring"], unfollowed := true, recurses := true, named := ["internal/bytealg.MaxLen"], apart := false, narrowed := true }
def FilemapPutsUptoSaid : Prop := filemapPutsUptoRow.holds Try.pinned (OpenSpec.upto filemapPutsSpec)

/-- 'sledgelaw12.FilemapOrder', WHERE WHAT IT READS IS OF BULK AT MOST 1048576: true; the input reads as it did. -/
def filemapOrderUptoRow : OpenClaim := { program := "ytbgnbkomckbckaa", sum := "8e78f2bcfbc98fe39ee304e328800d5c8907df6d4124f27ffe2566447ff0595e", func := "sledge/sledgelaw12.FilemapOrder", spec := "filemapOrder", inPlace := ["internal/bytealg.IndexByteString", "internal/bytealg.IndexString", "internal/bytealg.abigen_runtime_cmpstring"], unfollowed := true, recurses := true, named := ["internal/bytealg.MaxLen"], apart := false, narrowed := true }
def FilemapOrderUptoSaid : Prop := filemapOrderUptoRow.holds Try.pinned (OpenSpec.upto filemapOrderSpec)

/-- 'sledgelaw12.FilemapApart', WHERE WHAT IT READS IS OF BULK AT MOST 1048576: true; the input reads as it did. -/
def filemapApartUptoRow : OpenClaim := { program := "ytbgnbkomckbckaa", sum := "8e78f2bcfbc98fe39ee304e328800d5c8907df6d4124f27ffe2566447ff0595e", func := "sledge/sledgelaw12.FilemapApart", spec := "filemapApart", inPlace := ["internal/bytealg.IndexByteString", "internal/bytealg.IndexString", "internal/bytealg.abigen_runtime_cmpstring"], unfollowed := true, recurses := true, named := ["internal/bytealg.MaxLen"], apart := false, narrowed := true }
def FilemapApartUptoSaid : Prop := filemapApartUptoRow.holds Try.pinned (OpenSpec.upto filemapApartSpec)

/-- 'sledgelaw12.FilemapTakes', WHERE WHAT IT READS IS OF BULK AT MOST 1048576: true; the input reads as it did. -/
def filemapTakesUptoRow : OpenClaim := { program := "ytbgnbkomckbckaa", sum := "8e78f2bcfbc98fe39ee304e328800d5c8907df6d4124f27ffe2566447ff0595e", func := "sledge/sledgelaw12.FilemapTakes", spec := "filemapTakes", inPlace := ["internal/bytealg.IndexByteString", "internal/bytealg.IndexString", "internal/bytealg.abigen_runtime_cmpstring"], unfollowed := true, recurses := true, named := ["internal/bytealg.MaxLen"], apart := false, narrowed := true }
def FilemapTakesUptoSaid : Prop := filemapTakesUptoRow.holds Try.pinned (OpenSpec.upto filemapTakesSpec)

/-- 'sledgelaw12.FilemapOnly', WHERE WHAT IT READS IS OF BULK AT MOST 1048576: true; the input reads as it did. -/
def filemapOnlyUptoRow : OpenClaim := { program := "ytbgnbkomckbckaa", sum := "8e78f2bcfbc98fe39ee304e328800d5c8907df6d4124f27ffe2566447ff0595e", func := "sledge/sledgelaw12.FilemapOnly", spec := "filemapOnly", inPlace := ["internal/bytealg.IndexByteString", "internal/bytealg.IndexString", "internal/bytealg.abigen_runtime_cmpstring"], unfollowed := true, recurses := true, named := ["internal/bytealg.MaxLen"], apart := false, narrowed := true }
def FilemapOnlyUptoSaid : Prop := filemapOnlyUptoRow.holds Try.pinned (OpenSpec.upto filemapOnlySpec)

/-- 'sledgelaw12.FilemapBack', WHERE WHAT IT READS IS OF BULK AT MOST 1048576: true; the input reads as it did. -/
def filemapBackUptoRow : OpenClaim := { program := "ytbgnbkomckbckaa", sum := "8e78f2bcfbc98fe39ee304e328800d5c8907df6d4124f27ffe2566447ff0595e", func := "sledge/sledgelaw12.FilemapBack", spec := "filemapBack", inPlace := ["internal/bytealg.IndexByteString", "internal/bytealg.IndexString", "internal/bytealg.abigen_runtime_cmpstring"], unfollowed := true, recurses := true, named := ["internal/bytealg.MaxLen"], apart := false, narrowed := true }
def FilemapBackUptoSaid : Prop := filemapBackUptoRow.holds Try.pinned (OpenSpec.upto filemapBackSpec)

end Rows
end Go.Proofs.Ytbgnbkomckbckaa
