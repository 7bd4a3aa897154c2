/-
  DERIVED. GIVEN WITH THE SEED: THE CARDS: each row of YthjjdjhmaffoeaaDoorRows.lean that lists a variable, with what it lists TIED to the program's text (the seventh form; the later family's looks); each row that meets fmt, with fmt's text TOLD by the authors' own Lean function (tested against real Go, not proved from fmt's source: count such statements apart). THE CARD IS WHAT COUNTS. Prove the row's statement (the work); the ties are given (YthjjdjhmaffoeaaDoorTie.lean); close each card by the builder's one call (the guide's Derived/Test/ToyasCard.lean, 'card_holds'). Laid BY PROGRAM, IN A SANDBOX (cutbox-door.mjs). By AI agents, Wed Nov 11 2026. No macro, syntax, notation, axiom, sorry.
-/
import Derived.Test.YthjjdjhmaffoeaaDoorRows
import GoSem.ClaimSeven
namespace Go.Proofs.YthjjdjhmaffoeaaDoor
namespace Rows

/-- THE TIED CARD OF 'sledgelaw21.EpochEnds'. -/
def epochEndsCard : Claim7 := { stood := { row := epochEndsRow, standIns := [], harness := (true, "dee42f72959cfa817f91ac538da22168bd755c85725a7cc986189eefdff39e91"), looks := false }, kinds := [], alts := [], laidByText := true, laidKinds := [.data, .pinned], laidTests := true, laidLooks := .later }
def EpochEndsCardSaid : Prop := Claim7.holds Tryd.pinned (.plain (OpenSpec.ofChange epochEndsSpec)) epochEndsCard

/-- THE TIED CARD OF 'sledgelaw21.EpochRises'. -/
def epochRisesCard : Claim7 := { stood := { row := epochRisesRow, standIns := [], harness := (true, "dee42f72959cfa817f91ac538da22168bd755c85725a7cc986189eefdff39e91"), looks := false }, kinds := [], alts := [], laidByText := true, laidKinds := [.data, .pinned], laidTests := true, laidLooks := .later }
def EpochRisesCardSaid : Prop := Claim7.holds Tryd.pinned (.plain (OpenSpec.ofChange epochRisesSpec)) epochRisesCard

/-- THE SECOND FORM's CARD OF 'sledgelaw21.EpochEnds'. -/
def epochEndsUptoCard : Claim7 := { stood := { row := epochEndsUptoRow, standIns := [], harness := (true, "dee42f72959cfa817f91ac538da22168bd755c85725a7cc986189eefdff39e91"), looks := false }, kinds := [], alts := [], laidByText := true, laidKinds := [.data, .pinned], laidTests := true, laidLooks := .later }
def EpochEndsUptoCardSaid : Prop := Claim7.holds Tryd.pinned (.plain (OpenSpec.upto epochEndsSpec)) epochEndsUptoCard

/-- THE SECOND FORM's CARD OF 'sledgelaw21.EpochRises'. -/
def epochRisesUptoCard : Claim7 := { stood := { row := epochRisesUptoRow, standIns := [], harness := (true, "dee42f72959cfa817f91ac538da22168bd755c85725a7cc986189eefdff39e91"), looks := false }, kinds := [], alts := [], laidByText := true, laidKinds := [.data, .pinned], laidTests := true, laidLooks := .later }
def EpochRisesUptoCardSaid : Prop := Claim7.holds Tryd.pinned (.plain (OpenSpec.upto epochRisesSpec)) epochRisesUptoCard
end Rows
end Go.Proofs.YthjjdjhmaffoeaaDoor
