/-
  No cell of these rows narrows 'for every input' (looked for: loops, veiled, ifaces, maps, wideKeys, modest, calm, conditions, laid).
  DERIVED. THE GIVEN ROWS OF THIS SEAT. 7 by the template 'for every input the law returns true; each argument reads behind the call as it read before'; 0 by the template 'total and deterministic' (their statements: YtjljkcklcnmdjaaTotals.lean).
  GIVEN WITH THE SEED: the statements are not yours to turn. If you find one false, say at which input.
  Laid BY PROGRAM, IN A SANDBOX (cutbox-rows.mjs): the forced cells as the released guide's own fill.sh prints them over the translation 07657a717bb39057… (all of the seat's roots in one cut). By AI agents, Wed Nov 11 2026. No macro, syntax, notation, axiom, sorry.
-/
import Derived.Test.YtjljkcklcnmdjaaChecked
import GoSem.Claim
import GoSem.ClaimJoined
import GoSem.ClaimMapViews
import Derived.JoinedTies
import Derived.KernelRfl
namespace Go.Proofs.Ytjljkcklcnmdjaa
/- THE CELL 'sum', in the pinned program and in every row, IS THE sha256 OF THE DUMP (.gsa) THAT YtjljkcklcnmdjaaProg.lean LOADS. Nothing in Lean hashes anything: it is a label: what it is worth is what the hold of that sum in a sandbox is worth. -/
noncomputable def Try.pinned : Pinned := { name := "ytjljkcklcnmdjaa", sum := "07657a717bb390571914003adcd7f89260ac9a6a47353fcf7e6c2d19525a0e81", checked := Try.checked }
namespace Rows
def none {H : Type} : Left H := { results := [], args := [] }

/-- 'sledgelaw01.EncPuts': WHATEVER THE INPUT: true; the input reads as it did. -/
def encPutsSpec : ChangeSpec := { name := "encPuts", fn := fun _ => fun
  | [d] => { results := [.lit (.bool true)], args := [d] }
  | _ => none }
def encPutsRow : OpenClaim := { program := "ytjljkcklcnmdjaa", sum := "07657a717bb390571914003adcd7f89260ac9a6a47353fcf7e6c2d19525a0e81", func := "sledge/sledgelaw01.EncPuts", spec := "encPuts", apart := false }
def EncPutsSaid : Prop := encPutsRow.holds Try.pinned (OpenSpec.ofChange encPutsSpec)

/-- ITS FALSE NEIGHBOUR: 'it returns false'. Refute it at one input. -/
def encPutsWrong : ChangeSpec := { name := "encPuts", fn := fun _ => fun
  | [d] => { results := [.lit (.bool false)], args := [d] }
  | _ => none }
def EncPutsWrongFalsely : Prop := encPutsRow.holds Try.pinned (OpenSpec.ofChange encPutsWrong)

/-- 'sledgelaw01.EncTakes': WHATEVER THE INPUT: true; the input reads as it did. -/
def encTakesSpec : ChangeSpec := { name := "encTakes", fn := fun _ => fun
  | [d] => { results := [.lit (.bool true)], args := [d] }
  | _ => none }
def encTakesRow : OpenClaim := { program := "ytjljkcklcnmdjaa", sum := "07657a717bb390571914003adcd7f89260ac9a6a47353fcf7e6c2d19525a0e81", func := "sledge/sledgelaw01.EncTakes", spec := "encTakes", apart := false }
def EncTakesSaid : Prop := encTakesRow.holds Try.pinned (OpenSpec.ofChange encTakesSpec)

/-- ITS FALSE NEIGHBOUR: 'it returns false'. Refute it at one input. -/
def encTakesWrong : ChangeSpec := { name := "encTakes", fn := fun _ => fun
  | [d] => { results := [.lit (.bool false)], args := [d] }
  | _ => none }
def EncTakesWrongFalsely : Prop := encTakesRow.holds Try.pinned (OpenSpec.ofChange encTakesWrong)

/-- 'sledgelaw01.EncBack': WHATEVER THE INPUT: true; the input reads as it did. -/
def encBackSpec : ChangeSpec := { name := "encBack", fn := fun _ => fun
  | [d1, d2] => { results := [.lit (.bool true)], args := [d1, d2] }
  | _ => none }
def encBackRow : OpenClaim := { program := "ytjljkcklcnmdjaa", sum := "07657a717bb390571914003adcd7f89260ac9a6a47353fcf7e6c2d19525a0e81", func := "sledge/sledgelaw01.EncBack", spec := "encBack", apart := false }
def EncBackSaid : Prop := encBackRow.holds Try.pinned (OpenSpec.ofChange encBackSpec)

/-- ITS FALSE NEIGHBOUR: 'it returns false'. Refute it at one input. -/
def encBackWrong : ChangeSpec := { name := "encBack", fn := fun _ => fun
  | [d1, d2] => { results := [.lit (.bool false)], args := [d1, d2] }
  | _ => none }
def EncBackWrongFalsely : Prop := encBackRow.holds Try.pinned (OpenSpec.ofChange encBackWrong)

/-- 'sledgelaw01.EncOnly': WHATEVER THE INPUT: true; the input reads as it did. -/
def encOnlySpec : ChangeSpec := { name := "encOnly", fn := fun _ => fun
  | [d] => { results := [.lit (.bool true)], args := [d] }
  | _ => none }
def encOnlyRow : OpenClaim := { program := "ytjljkcklcnmdjaa", sum := "07657a717bb390571914003adcd7f89260ac9a6a47353fcf7e6c2d19525a0e81", func := "sledge/sledgelaw01.EncOnly", spec := "encOnly", apart := false }
def EncOnlySaid : Prop := encOnlyRow.holds Try.pinned (OpenSpec.ofChange encOnlySpec)

/-- ITS FALSE NEIGHBOUR: 'it returns false'. Refute it at one input. -/
def encOnlyWrong : ChangeSpec := { name := "encOnly", fn := fun _ => fun
  | [d] => { results := [.lit (.bool false)], args := [d] }
  | _ => none }
def EncOnlyWrongFalsely : Prop := encOnlyRow.holds Try.pinned (OpenSpec.ofChange encOnlyWrong)

/-- 'sledgelaw01.EncFirst': WHATEVER THE INPUT: true; the input reads as it did. -/
def encFirstSpec : ChangeSpec := { name := "encFirst", fn := fun _ => fun
  | [d1, d2] => { results := [.lit (.bool true)], args := [d1, d2] }
  | _ => none }
def encFirstRow : OpenClaim := { program := "ytjljkcklcnmdjaa", sum := "07657a717bb390571914003adcd7f89260ac9a6a47353fcf7e6c2d19525a0e81", func := "sledge/sledgelaw01.EncFirst", spec := "encFirst", apart := false }
def EncFirstSaid : Prop := encFirstRow.holds Try.pinned (OpenSpec.ofChange encFirstSpec)

/-- ITS FALSE NEIGHBOUR: 'it returns false'. Refute it at one input. -/
def encFirstWrong : ChangeSpec := { name := "encFirst", fn := fun _ => fun
  | [d1, d2] => { results := [.lit (.bool false)], args := [d1, d2] }
  | _ => none }
def EncFirstWrongFalsely : Prop := encFirstRow.holds Try.pinned (OpenSpec.ofChange encFirstWrong)

/-- 'sledgelaw01.EncTexts': WHATEVER THE INPUT: true; the input reads as it did. -/
def encTextsSpec : ChangeSpec := { name := "encTexts", fn := fun _ => fun
  | [d1, d2, d3] => { results := [.lit (.bool true)], args := [d1, d2, d3] }
  | _ => none }
def encTextsRow : OpenClaim := { program := "ytjljkcklcnmdjaa", sum := "07657a717bb390571914003adcd7f89260ac9a6a47353fcf7e6c2d19525a0e81", func := "sledge/sledgelaw01.EncTexts", spec := "encTexts", apart := false }
def EncTextsSaid : Prop := encTextsRow.holds Try.pinned (OpenSpec.ofChange encTextsSpec)

/-- ITS FALSE NEIGHBOUR: 'it returns false'. Refute it at one input. -/
def encTextsWrong : ChangeSpec := { name := "encTexts", fn := fun _ => fun
  | [d1, d2, d3] => { results := [.lit (.bool false)], args := [d1, d2, d3] }
  | _ => none }
def EncTextsWrongFalsely : Prop := encTextsRow.holds Try.pinned (OpenSpec.ofChange encTextsWrong)

/-- 'sledgelaw01.EncFixed': WHATEVER THE INPUT: true; the input reads as it did. -/
def encFixedSpec : ChangeSpec := { name := "encFixed", fn := fun _ => fun
  | [d1, d2, d3] => { results := [.lit (.bool true)], args := [d1, d2, d3] }
  | _ => none }
def encFixedRow : OpenClaim := { program := "ytjljkcklcnmdjaa", sum := "07657a717bb390571914003adcd7f89260ac9a6a47353fcf7e6c2d19525a0e81", func := "sledge/sledgelaw01.EncFixed", spec := "encFixed", apart := false }
def EncFixedSaid : Prop := encFixedRow.holds Try.pinned (OpenSpec.ofChange encFixedSpec)

/-- ITS FALSE NEIGHBOUR: 'it returns false'. Refute it at one input. -/
def encFixedWrong : ChangeSpec := { name := "encFixed", fn := fun _ => fun
  | [d1, d2, d3] => { results := [.lit (.bool false)], args := [d1, d2, d3] }
  | _ => none }
def EncFixedWrongFalsely : Prop := encFixedRow.holds Try.pinned (OpenSpec.ofChange encFixedWrong)

/- THE SECOND FORM. 'bulk': how many values and letters a reading holds, each counted each time it is reached (what is shared counts as often as it is met; a slice's spare places count too). A statement '..UptoSaid' is the law's where the arguments, and the package variables that the reading takes, are together of bulk at most 1048576: NARROWER than '..Said'. Prove '..Said' where nothing that the law and all that it calls make is longer than what came in: it says more and counts as full. Else prove '..UptoSaid'. A law counts once. -/
mutual
def uptoBulk {H : Type} : DataW H → Nat
  | .lit (.string bytes) => bytes.length + 1
  | .lit _ => 1
  | .nil => 1
  | .ptr d => uptoBulk d + 1
  | .slice elems spare => uptoBulkAll elems + uptoBulkAll spare + 1
  | .agg parts => uptoBulkAll parts + 1
  | .iface _ d => uptoBulk d + 1
  | .map entries => uptoBulkEntries entries + 1
  | .held _ => 1
def uptoBulkAll {H : Type} : List (DataW H) → Nat
  | [] => 0
  | d :: r => uptoBulk d + uptoBulkAll r
def uptoBulkEntries {H : Type} : List (Lit × DataW H) → Nat
  | [] => 0
  | x :: r => uptoBulkEntry x + uptoBulkEntries r
def uptoBulkEntry {H : Type} : Lit × DataW H → Nat
  | (.string bytes, d) => bytes.length + uptoBulk d + 1
  | (_, d) => uptoBulk d + 1
 end
def uptoSmall : (H : Type) → List (DataW H) → Bool := fun _ ds => decide (uptoBulkAll ds ≤ 1048576)
def OpenSpec.upto (s : _root_.Go.ChangeSpec) : _root_.Go.OpenSpec := { _root_.Go.OpenSpec.ofChange s with cond := some uptoSmall }

/-- 'sledgelaw01.EncPuts', WHERE WHAT IT READS IS OF BULK AT MOST 1048576: true; the input reads as it did. -/
def encPutsUptoRow : OpenClaim := { program := "ytjljkcklcnmdjaa", sum := "07657a717bb390571914003adcd7f89260ac9a6a47353fcf7e6c2d19525a0e81", func := "sledge/sledgelaw01.EncPuts", spec := "encPuts", apart := false, narrowed := true }
def EncPutsUptoSaid : Prop := encPutsUptoRow.holds Try.pinned (OpenSpec.upto encPutsSpec)

/-- 'sledgelaw01.EncTakes', WHERE WHAT IT READS IS OF BULK AT MOST 1048576: true; the input reads as it did. -/
def encTakesUptoRow : OpenClaim := { program := "ytjljkcklcnmdjaa", sum := "07657a717bb390571914003adcd7f89260ac9a6a47353fcf7e6c2d19525a0e81", func := "sledge/sledgelaw01.EncTakes", spec := "encTakes", apart := false, narrowed := true }
def EncTakesUptoSaid : Prop := encTakesUptoRow.holds Try.pinned (OpenSpec.upto encTakesSpec)

/-- 'sledgelaw01.EncBack', WHERE WHAT IT READS IS OF BULK AT MOST 1048576: true; the input reads as it did. -/
def encBackUptoRow : OpenClaim := { program := "ytjljkcklcnmdjaa", sum := "07657a717bb390571914003adcd7f89260ac9a6a47353fcf7e6c2d19525a0e81", func := "sledge/sledgelaw01.EncBack", spec := "encBack", apart := false, narrowed := true }
def EncBackUptoSaid : Prop := encBackUptoRow.holds Try.pinned (OpenSpec.upto encBackSpec)

/-- 'sledgelaw01.EncOnly', WHERE WHAT IT READS IS OF BULK AT MOST 1048576: true; the input reads as it did. -/
def encOnlyUptoRow : OpenClaim := { program := "ytjljkcklcnmdjaa", sum := "07657a717bb390571914003adcd7f89260ac9a6a47353fcf7e6c2d19525a0e81", func := "sledge/sledgelaw01.EncOnly", spec := "encOnly", apart := false, narrowed := true }
def EncOnlyUptoSaid : Prop := encOnlyUptoRow.holds Try.pinned (OpenSpec.upto encOnlySpec)

/-- 'sledgelaw01.EncFirst', WHERE WHAT IT READS IS OF BULK AT MOST 1048576: true; the input reads as it did. -/
def encFirstUptoRow : OpenClaim := { program := "ytjljkcklcnmdjaa", sum := "07657a717bb390571914003adcd7f89260ac9a6a47353fcf7e6c2d19525a0e81", func := "sledge/sledgelaw01.EncFirst", spec := "encFirst", apart := false, narrowed := true }
def EncFirstUptoSaid : Prop := encFirstUptoRow.holds Try.pinned (OpenSpec.upto encFirstSpec)

/-- 'sledgelaw01.EncTexts', WHERE WHAT IT READS IS OF BULK AT MOST 1048576: true; the input reads as it did. -/
def encTextsUptoRow : OpenClaim := { program := "ytjljkcklcnmdjaa", sum := "07657a717bb390571914003adcd7f89260ac9a6a47353fcf7e6c2d19525a0e81", func := "sledge/sledgelaw01.EncTexts", spec := "encTexts", apart := false, narrowed := true }
def EncTextsUptoSaid : Prop := encTextsUptoRow.holds Try.pinned (OpenSpec.upto encTextsSpec)

/-- 'sledgelaw01.EncFixed', WHERE WHAT IT READS IS OF BULK AT MOST 1048576: true; the input reads as it did. -/
def encFixedUptoRow : OpenClaim := { program := "ytjljkcklcnmdjaa", sum := "07657a717bb390571914003adcd7f89260ac9a6a47353fcf7e6c2d19525a0e81", func := "sledge/sledgelaw01.EncFixed", spec := "encFixed", apart := false, narrowed := true }
def EncFixedUptoSaid : Prop := encFixedUptoRow.holds Try.pinned (OpenSpec.upto encFixedSpec)

end Rows
end Go.Proofs.Ytjljkcklcnmdjaa
