/-
  DERIVED. GIVEN WITH THE SEED: THE CARDS: each row of YtachmdfabnigpaaDoorRows.lean that lists a variable, with what it lists TIED to the program's text (the seventh form; the later family's looks); each row that meets fmt, with fmt's text TOLD by the authors' own Lean function (tested against real Go, not proved from fmt's source: count such statements apart). THE CARD IS WHAT COUNTS. Prove the row's statement (the work); the ties are given (YtachmdfabnigpaaDoorTie.lean); close each card by the builder's one call (the guide's Derived/Test/ToyasCard.lean, 'card_holds'). Laid BY PROGRAM, IN A SANDBOX (cutbox-door.mjs). By AI agents, Wed Nov 11 2026. No macro, syntax, notation, axiom, sorry.
-/
import Derived.Test.YtachmdfabnigpaaDoorRows
import GoSem.ClaimSeven
namespace Go.Proofs.YtachmdfabnigpaaDoor
namespace Rows

/-- THE TIED CARD OF 'sledgelaw24.CatalogTakes'. -/
def catalogTakesCard : Claim7 := { stood := { row := catalogTakesRow, standIns := [], harness := (true, "2909f862aedfb51d08adfdd97312e37b8b41aa39a93216c3f403a16003c116e7"), looks := false }, kinds := [], alts := [], laidByText := true, laidKinds := [.data, .pinned], laidTests := true, laidLooks := .later }
def CatalogTakesCardSaid : Prop := Claim7.holds Tryd.pinned (.plain (OpenSpec.ofChange catalogTakesSpec)) catalogTakesCard

/-- THE TIED CARD OF 'sledgelaw24.CatalogBack'. -/
def catalogBackCard : Claim7 := { stood := { row := catalogBackRow, standIns := [], harness := (true, "2909f862aedfb51d08adfdd97312e37b8b41aa39a93216c3f403a16003c116e7"), looks := false }, kinds := [], alts := [], laidByText := true, laidKinds := [.data, .pinned], laidTests := true, laidLooks := .later }
def CatalogBackCardSaid : Prop := Claim7.holds Tryd.pinned (.plain (OpenSpec.ofChange catalogBackSpec)) catalogBackCard

/-- THE SECOND FORM's CARD OF 'sledgelaw24.CatalogTakes'. -/
def catalogTakesUptoCard : Claim7 := { stood := { row := catalogTakesUptoRow, standIns := [], harness := (true, "2909f862aedfb51d08adfdd97312e37b8b41aa39a93216c3f403a16003c116e7"), looks := false }, kinds := [], alts := [], laidByText := true, laidKinds := [.data, .pinned], laidTests := true, laidLooks := .later }
def CatalogTakesUptoCardSaid : Prop := Claim7.holds Tryd.pinned (.plain (OpenSpec.upto catalogTakesSpec)) catalogTakesUptoCard

/-- THE SECOND FORM's CARD OF 'sledgelaw24.CatalogBack'. -/
def catalogBackUptoCard : Claim7 := { stood := { row := catalogBackUptoRow, standIns := [], harness := (true, "2909f862aedfb51d08adfdd97312e37b8b41aa39a93216c3f403a16003c116e7"), looks := false }, kinds := [], alts := [], laidByText := true, laidKinds := [.data, .pinned], laidTests := true, laidLooks := .later }
def CatalogBackUptoCardSaid : Prop := Claim7.holds Tryd.pinned (.plain (OpenSpec.upto catalogBackSpec)) catalogBackUptoCard
end Rows
end Go.Proofs.YtachmdfabnigpaaDoor
