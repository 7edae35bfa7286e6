/-
  DERIVED. GIVEN WITH THE SEED: THE CARDS: each row of YtndbaalenclgaaaDoorRows.lean that lists a variable, with what it lists TIED to the program's text (the seventh form; the later family's looks); each row that meets fmt, with fmt's text TOLD by the authors' own Lean function (tested against real Go, not proved from fmt's source: count such statements apart). THE CARD IS WHAT COUNTS. Prove the row's statement (the work); the ties are given (YtndbaalenclgaaaDoorTie.lean); close each card by the builder's one call (the guide's Derived/Test/ToyasCard.lean, 'card_holds'). Laid BY PROGRAM, IN A SANDBOX (cutbox-door.mjs). By AI agents, Wed Nov 11 2026. No macro, syntax, notation, axiom, sorry.
-/
import Derived.Test.YtndbaalenclgaaaDoorRows
import GoSem.ClaimSeven
namespace Go.Proofs.YtndbaalenclgaaaDoor
namespace Rows

/-- THE TIED CARD OF 'pushkeep.PlacesMeans'. -/
def placesMeansCard : Claim7 := { stood := { row := placesMeansRow, standIns := [], harness := (true, "a2b4767e8c439d4ebb3837de48ac9c9fa06b1ccc695c5d9fb17c006a2e491a28"), looks := false }, kinds := [], alts := [], laidByText := true, laidKinds := [.data], laidTests := true, laidLooks := .later }
def PlacesMeansCardSaid : Prop := Claim7.holds Tryd.pinned (.plain (OpenSpec.ofChange placesMeansSpec)) placesMeansCard

/-- THE SECOND FORM's CARD OF 'pushkeep.PlacesMeans'. -/
def placesMeansUptoCard : Claim7 := { stood := { row := placesMeansUptoRow, standIns := [], harness := (true, "a2b4767e8c439d4ebb3837de48ac9c9fa06b1ccc695c5d9fb17c006a2e491a28"), looks := false }, kinds := [], alts := [], laidByText := true, laidKinds := [.data], laidTests := true, laidLooks := .later }
def PlacesMeansUptoCardSaid : Prop := Claim7.holds Tryd.pinned (.plain (OpenSpec.upto placesMeansSpec)) placesMeansUptoCard
end Rows
end Go.Proofs.YtndbaalenclgaaaDoor
