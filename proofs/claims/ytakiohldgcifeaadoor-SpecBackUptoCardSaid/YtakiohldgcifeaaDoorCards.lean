/-
  DERIVED. GIVEN WITH THE SEED: THE CARDS: each row of YtakiohldgcifeaaDoorRows.lean that lists a variable, with what it lists TIED to the program's text (the seventh form; the later family's looks); each row that meets fmt, with fmt's text TOLD by the authors' own Lean function (tested against real Go, not proved from fmt's source: count such statements apart). THE CARD IS WHAT COUNTS. Prove the row's statement (the work); the ties are given (YtakiohldgcifeaaDoorTie.lean); close each card by the builder's one call (the guide's Derived/Test/ToyasCard.lean, 'card_holds'). Laid BY PROGRAM, IN A SANDBOX (cutbox-door.mjs). By AI agents, Wed Nov 11 2026. No macro, syntax, notation, axiom, sorry.
-/
import Derived.Test.YtakiohldgcifeaaDoorRows
import GoSem.ClaimSeven
namespace Go.Proofs.YtakiohldgcifeaaDoor
namespace Rows

/-- THE TIED CARD OF 'pushkeep.SpecBack'. -/
def specBackCard : Claim7 := { stood := { row := specBackRow, standIns := [], harness := (true, "c25d4aa9b8ba3961bfb4b9b070cb89112dca1567819eeb411a378a11d075fc09"), looks := false }, kinds := [], alts := [], laidByText := true, laidKinds := [.data, .data, .pinned], laidTests := true, laidLooks := .later }
def SpecBackCardSaid : Prop := Claim7.holds Tryd.pinned (.plain (OpenSpec.ofChange specBackSpec)) specBackCard

/-- THE TIED CARD OF 'pushkeep.SpecAgain'. -/
def specAgainCard : Claim7 := { stood := { row := specAgainRow, standIns := [], harness := (true, "c25d4aa9b8ba3961bfb4b9b070cb89112dca1567819eeb411a378a11d075fc09"), looks := false }, kinds := [], alts := [], laidByText := true, laidKinds := [.data, .data, .pinned], laidTests := true, laidLooks := .later }
def SpecAgainCardSaid : Prop := Claim7.holds Tryd.pinned (.plain (OpenSpec.ofChange specAgainSpec)) specAgainCard

/-- THE SECOND FORM's CARD OF 'pushkeep.SpecBack'. -/
def specBackUptoCard : Claim7 := { stood := { row := specBackUptoRow, standIns := [], harness := (true, "c25d4aa9b8ba3961bfb4b9b070cb89112dca1567819eeb411a378a11d075fc09"), looks := false }, kinds := [], alts := [], laidByText := true, laidKinds := [.data, .data, .pinned], laidTests := true, laidLooks := .later }
def SpecBackUptoCardSaid : Prop := Claim7.holds Tryd.pinned (.plain (OpenSpec.upto specBackSpec)) specBackUptoCard

/-- THE SECOND FORM's CARD OF 'pushkeep.SpecAgain'. -/
def specAgainUptoCard : Claim7 := { stood := { row := specAgainUptoRow, standIns := [], harness := (true, "c25d4aa9b8ba3961bfb4b9b070cb89112dca1567819eeb411a378a11d075fc09"), looks := false }, kinds := [], alts := [], laidByText := true, laidKinds := [.data, .data, .pinned], laidTests := true, laidLooks := .later }
def SpecAgainUptoCardSaid : Prop := Claim7.holds Tryd.pinned (.plain (OpenSpec.upto specAgainSpec)) specAgainUptoCard
end Rows
end Go.Proofs.YtakiohldgcifeaaDoor
