/-
  DERIVED. GIVEN WITH THE SEED: THE CARDS: each row of YtaagdoaeefhleaaDoorRows.lean that lists a variable, with what it lists TIED to the program's text (the seventh form; the later family's looks); each row that meets fmt, with fmt's text TOLD by the authors' own Lean function (tested against real Go, not proved from fmt's source: count such statements apart). THE CARD IS WHAT COUNTS. Prove the row's statement (the work); the ties are given (YtaagdoaeefhleaaDoorTie.lean); close each card by the builder's one call (the guide's Derived/Test/ToyasCard.lean, 'card_holds'). Laid BY PROGRAM, IN A SANDBOX (cutbox-door.mjs). By AI agents, Wed Nov 11 2026. No macro, syntax, notation, axiom, sorry.
-/
import Derived.Test.YtaagdoaeefhleaaDoorRows
import GoSem.ClaimSeven
namespace Go.Proofs.YtaagdoaeefhleaaDoor
namespace Rows

/-- THE TIED CARD OF 'sledgelaw23.JournalBack'. -/
def journalBackCard : Claim7 := { stood := { row := journalBackRow, standIns := [], harness := (true, "49d0e26fc6c59f02514368563d12ee006f440513ae5f5a4810744a33919c31db"), looks := false }, kinds := [], alts := [], laidByText := true, laidKinds := [.data, .pinned], laidTests := true, laidLooks := .later }
def JournalBackCardSaid : Prop := Claim7.holds Tryd.pinned (.plain (OpenSpec.ofChange journalBackSpec)) journalBackCard

/-- THE TIED CARD OF 'sledgelaw23.JournalTakes'. -/
def journalTakesCard : Claim7 := { stood := { row := journalTakesRow, standIns := [], harness := (true, "49d0e26fc6c59f02514368563d12ee006f440513ae5f5a4810744a33919c31db"), looks := false }, kinds := [], alts := [], laidByText := true, laidKinds := [.data, .pinned], laidTests := true, laidLooks := .later }
def JournalTakesCardSaid : Prop := Claim7.holds Tryd.pinned (.plain (OpenSpec.ofChange journalTakesSpec)) journalTakesCard

/-- THE SECOND FORM's CARD OF 'sledgelaw23.JournalBack'. -/
def journalBackUptoCard : Claim7 := { stood := { row := journalBackUptoRow, standIns := [], harness := (true, "49d0e26fc6c59f02514368563d12ee006f440513ae5f5a4810744a33919c31db"), looks := false }, kinds := [], alts := [], laidByText := true, laidKinds := [.data, .pinned], laidTests := true, laidLooks := .later }
def JournalBackUptoCardSaid : Prop := Claim7.holds Tryd.pinned (.plain (OpenSpec.upto journalBackSpec)) journalBackUptoCard

/-- THE SECOND FORM's CARD OF 'sledgelaw23.JournalTakes'. -/
def journalTakesUptoCard : Claim7 := { stood := { row := journalTakesUptoRow, standIns := [], harness := (true, "49d0e26fc6c59f02514368563d12ee006f440513ae5f5a4810744a33919c31db"), looks := false }, kinds := [], alts := [], laidByText := true, laidKinds := [.data, .pinned], laidTests := true, laidLooks := .later }
def JournalTakesUptoCardSaid : Prop := Claim7.holds Tryd.pinned (.plain (OpenSpec.upto journalTakesSpec)) journalTakesUptoCard
end Rows
end Go.Proofs.YtaagdoaeefhleaaDoor
