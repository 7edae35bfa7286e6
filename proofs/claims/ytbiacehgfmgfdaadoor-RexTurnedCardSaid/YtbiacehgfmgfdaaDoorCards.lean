/-
  DERIVED. GIVEN WITH THE SEED: THE CARDS: each row of YtbiacehgfmgfdaaDoorRows.lean that lists a variable, with what it lists TIED to the program's text (the seventh form; the later family's looks); each row that meets fmt, with fmt's text TOLD by the authors' own Lean function (tested against real Go, not proved from fmt's source: count such statements apart). THE CARD IS WHAT COUNTS. Prove the row's statement (the work); the ties are given (YtbiacehgfmgfdaaDoorTie.lean); close each card by the builder's one call (the guide's Derived/Test/ToyasCard.lean, 'card_holds'). Laid BY PROGRAM, IN A SANDBOX (cutbox-door.mjs). By AI agents, Wed Nov 11 2026. No macro, syntax, notation, axiom, sorry.
-/
import Derived.Test.YtbiacehgfmgfdaaDoorRows
import GoSem.ClaimSeven
namespace Go.Proofs.YtbiacehgfmgfdaaDoor
namespace Rows

/-- THE TIED CARD OF 'pushkeep.ClassOwn'. -/
def classOwnCard : Claim7 := { stood := { row := classOwnRow, standIns := [], harness := (true, "97a5af0021e124063e4b7bbed641f4333fefe25846d4da7cd70e31e590e1c3b4"), looks := false }, kinds := [], alts := [], laidByText := true, laidKinds := [.data], laidTests := true, laidLooks := .later }
def ClassOwnCardSaid : Prop := Claim7.holds Tryd.pinned (.plain (OpenSpec.ofChange classOwnSpec)) classOwnCard

/-- THE TIED CARD OF 'pushkeep.ClassSizes'. -/
def classSizesCard : Claim7 := { stood := { row := classSizesRow, standIns := [], harness := (true, "97a5af0021e124063e4b7bbed641f4333fefe25846d4da7cd70e31e590e1c3b4"), looks := false }, kinds := [], alts := [], laidByText := true, laidKinds := [.data], laidTests := true, laidLooks := .later }
def ClassSizesCardSaid : Prop := Claim7.holds Tryd.pinned (.plain (OpenSpec.ofChange classSizesSpec)) classSizesCard

/-- THE TIED CARD OF 'pushkeep.ClassAtoms'. -/
def classAtomsCard : Claim7 := { stood := { row := classAtomsRow, standIns := [], harness := (true, "97a5af0021e124063e4b7bbed641f4333fefe25846d4da7cd70e31e590e1c3b4"), looks := false }, kinds := [], alts := [], laidByText := true, laidKinds := [.data], laidTests := true, laidLooks := .later }
def ClassAtomsCardSaid : Prop := Claim7.holds Tryd.pinned (.plain (OpenSpec.ofChange classAtomsSpec)) classAtomsCard

/-- THE TIED CARD OF 'pushkeep.RexAlgebra'. -/
def rexAlgebraCard : Claim7 := { stood := { row := rexAlgebraRow, standIns := [], harness := (true, "97a5af0021e124063e4b7bbed641f4333fefe25846d4da7cd70e31e590e1c3b4"), looks := false }, kinds := [], alts := [], laidByText := true, laidKinds := [.data], laidTests := true, laidLooks := .later }
def RexAlgebraCardSaid : Prop := Claim7.holds Tryd.pinned (.plain (OpenSpec.ofChange rexAlgebraSpec)) rexAlgebraCard

/-- THE TIED CARD OF 'pushkeep.RexSplits'. -/
def rexSplitsCard : Claim7 := { stood := { row := rexSplitsRow, standIns := [], harness := (true, "97a5af0021e124063e4b7bbed641f4333fefe25846d4da7cd70e31e590e1c3b4"), looks := false }, kinds := [], alts := [], laidByText := true, laidKinds := [.data], laidTests := true, laidLooks := .later }
def RexSplitsCardSaid : Prop := Claim7.holds Tryd.pinned (.plain (OpenSpec.ofChange rexSplitsSpec)) rexSplitsCard

/-- THE TIED CARD OF 'pushkeep.RexStars'. -/
def rexStarsCard : Claim7 := { stood := { row := rexStarsRow, standIns := [], harness := (true, "97a5af0021e124063e4b7bbed641f4333fefe25846d4da7cd70e31e590e1c3b4"), looks := false }, kinds := [], alts := [], laidByText := true, laidKinds := [.data], laidTests := true, laidLooks := .later }
def RexStarsCardSaid : Prop := Claim7.holds Tryd.pinned (.plain (OpenSpec.ofChange rexStarsSpec)) rexStarsCard

/-- THE TIED CARD OF 'pushkeep.RexTurned'. -/
def rexTurnedCard : Claim7 := { stood := { row := rexTurnedRow, standIns := [], harness := (true, "97a5af0021e124063e4b7bbed641f4333fefe25846d4da7cd70e31e590e1c3b4"), looks := false }, kinds := [], alts := [], laidByText := true, laidKinds := [.data], laidTests := true, laidLooks := .later }
def RexTurnedCardSaid : Prop := Claim7.holds Tryd.pinned (.plain (OpenSpec.ofChange rexTurnedSpec)) rexTurnedCard

/-- THE SECOND FORM's CARD OF 'pushkeep.ClassOwn'. -/
def classOwnUptoCard : Claim7 := { stood := { row := classOwnUptoRow, standIns := [], harness := (true, "97a5af0021e124063e4b7bbed641f4333fefe25846d4da7cd70e31e590e1c3b4"), looks := false }, kinds := [], alts := [], laidByText := true, laidKinds := [.data], laidTests := true, laidLooks := .later }
def ClassOwnUptoCardSaid : Prop := Claim7.holds Tryd.pinned (.plain (OpenSpec.upto classOwnSpec)) classOwnUptoCard

/-- THE SECOND FORM's CARD OF 'pushkeep.ClassSizes'. -/
def classSizesUptoCard : Claim7 := { stood := { row := classSizesUptoRow, standIns := [], harness := (true, "97a5af0021e124063e4b7bbed641f4333fefe25846d4da7cd70e31e590e1c3b4"), looks := false }, kinds := [], alts := [], laidByText := true, laidKinds := [.data], laidTests := true, laidLooks := .later }
def ClassSizesUptoCardSaid : Prop := Claim7.holds Tryd.pinned (.plain (OpenSpec.upto classSizesSpec)) classSizesUptoCard

/-- THE SECOND FORM's CARD OF 'pushkeep.ClassAtoms'. -/
def classAtomsUptoCard : Claim7 := { stood := { row := classAtomsUptoRow, standIns := [], harness := (true, "97a5af0021e124063e4b7bbed641f4333fefe25846d4da7cd70e31e590e1c3b4"), looks := false }, kinds := [], alts := [], laidByText := true, laidKinds := [.data], laidTests := true, laidLooks := .later }
def ClassAtomsUptoCardSaid : Prop := Claim7.holds Tryd.pinned (.plain (OpenSpec.upto classAtomsSpec)) classAtomsUptoCard

/-- THE SECOND FORM's CARD OF 'pushkeep.RexAlgebra'. -/
def rexAlgebraUptoCard : Claim7 := { stood := { row := rexAlgebraUptoRow, standIns := [], harness := (true, "97a5af0021e124063e4b7bbed641f4333fefe25846d4da7cd70e31e590e1c3b4"), looks := false }, kinds := [], alts := [], laidByText := true, laidKinds := [.data], laidTests := true, laidLooks := .later }
def RexAlgebraUptoCardSaid : Prop := Claim7.holds Tryd.pinned (.plain (OpenSpec.upto rexAlgebraSpec)) rexAlgebraUptoCard

/-- THE SECOND FORM's CARD OF 'pushkeep.RexSplits'. -/
def rexSplitsUptoCard : Claim7 := { stood := { row := rexSplitsUptoRow, standIns := [], harness := (true, "97a5af0021e124063e4b7bbed641f4333fefe25846d4da7cd70e31e590e1c3b4"), looks := false }, kinds := [], alts := [], laidByText := true, laidKinds := [.data], laidTests := true, laidLooks := .later }
def RexSplitsUptoCardSaid : Prop := Claim7.holds Tryd.pinned (.plain (OpenSpec.upto rexSplitsSpec)) rexSplitsUptoCard

/-- THE SECOND FORM's CARD OF 'pushkeep.RexStars'. -/
def rexStarsUptoCard : Claim7 := { stood := { row := rexStarsUptoRow, standIns := [], harness := (true, "97a5af0021e124063e4b7bbed641f4333fefe25846d4da7cd70e31e590e1c3b4"), looks := false }, kinds := [], alts := [], laidByText := true, laidKinds := [.data], laidTests := true, laidLooks := .later }
def RexStarsUptoCardSaid : Prop := Claim7.holds Tryd.pinned (.plain (OpenSpec.upto rexStarsSpec)) rexStarsUptoCard

/-- THE SECOND FORM's CARD OF 'pushkeep.RexTurned'. -/
def rexTurnedUptoCard : Claim7 := { stood := { row := rexTurnedUptoRow, standIns := [], harness := (true, "97a5af0021e124063e4b7bbed641f4333fefe25846d4da7cd70e31e590e1c3b4"), looks := false }, kinds := [], alts := [], laidByText := true, laidKinds := [.data], laidTests := true, laidLooks := .later }
def RexTurnedUptoCardSaid : Prop := Claim7.holds Tryd.pinned (.plain (OpenSpec.upto rexTurnedSpec)) rexTurnedUptoCard
end Rows
end Go.Proofs.YtbiacehgfmgfdaaDoor
