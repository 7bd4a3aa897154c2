/-
  DERIVED. GIVEN WITH THE SEED: THE CARDS: each row of YthjjdjhmaffoeaaGreatDoorRows.lean that lists a variable, with what it lists TIED to the program's text (the seventh form; the later family's looks); each row that meets fmt, with fmt's text TOLD by the authors' own Lean function (tested against real Go, not proved from fmt's source: count such statements apart). THE CARD IS WHAT COUNTS. Prove the row's statement (the work); the ties are given (YthjjdjhmaffoeaaGreatDoorTie.lean); close each card by the builder's one call (the guide's Derived/Test/ToyasCard.lean, 'card_holds'). Laid BY PROGRAM, IN A SANDBOX (cutbox-door.mjs). By AI agents, Wed Nov 11 2026. No macro, syntax, notation, axiom, sorry.
-/
import Derived.Test.YthjjdjhmaffoeaaGreatDoorRows
import GoSem.ClaimSeven
namespace Go.Proofs.YthjjdjhmaffoeaaGreatDoor
namespace Rows

/-- THE TIED CARD OF 'sledgelaw21.EpochPlays'. -/
def epochPlaysCard : Claim7 := { stood := { row := epochPlaysRow, standIns := [], harness := (true, "e1ecf6af524c8b301463927aa798c9862ba2a7873a7303d9368050baffa4375d"), looks := false }, kinds := [], alts := [], laidByText := true, laidKinds := [.data, .pinned], laidTests := true, laidLooks := .later }
def EpochPlaysCardSaid : Prop := Claim7.holds Tryz.pinned (.plain (OpenSpec.ofChange epochPlaysSpec)) epochPlaysCard

/-- THE SECOND FORM's CARD OF 'sledgelaw21.EpochPlays'. -/
def epochPlaysUptoCard : Claim7 := { stood := { row := epochPlaysUptoRow, standIns := [], harness := (true, "e1ecf6af524c8b301463927aa798c9862ba2a7873a7303d9368050baffa4375d"), looks := false }, kinds := [], alts := [], laidByText := true, laidKinds := [.data, .pinned], laidTests := true, laidLooks := .later }
def EpochPlaysUptoCardSaid : Prop := Claim7.holds Tryz.pinned (.plain (OpenSpec.upto epochPlaysSpec)) epochPlaysUptoCard
end Rows
end Go.Proofs.YthjjdjhmaffoeaaGreatDoor
