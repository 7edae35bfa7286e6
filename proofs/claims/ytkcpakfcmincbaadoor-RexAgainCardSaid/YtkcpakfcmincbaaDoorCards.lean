/-
  DERIVED. GIVEN WITH THE SEED: THE CARDS: each row of YtkcpakfcmincbaaDoorRows.lean that lists a variable, with what it lists TIED to the program's text (the seventh form; the later family's looks); each row that meets fmt, with fmt's text TOLD by the authors' own Lean function (tested against real Go, not proved from fmt's source: count such statements apart). THE CARD IS WHAT COUNTS. Prove the row's statement (the work); the ties are given (YtkcpakfcmincbaaDoorTie.lean); close each card by the builder's one call (the guide's Derived/Test/ToyasCard.lean, 'card_holds'). Laid BY PROGRAM, IN A SANDBOX (cutbox-door.mjs). By AI agents, Wed Nov 11 2026. No macro, syntax, notation, axiom, sorry.
-/
import Derived.Test.YtkcpakfcmincbaaDoorRows
import GoSem.ClaimSeven
namespace Go.Proofs.YtkcpakfcmincbaaDoor
namespace Rows

/-- THE TIED CARD OF 'pushkeep.RexBack'. -/
def rexBackCard : Claim7 := { stood := { row := rexBackRow, standIns := [], harness := (true, "169d01ca06acc60bc252689756358c4634828817050dc0b552a37474668c5d4c"), looks := false }, kinds := [], alts := [], laidByText := true, laidKinds := [.data], laidTests := true, laidLooks := .later }
def RexBackCardSaid : Prop := Claim7.holds Tryd.pinned (.plain (OpenSpec.ofChange rexBackSpec)) rexBackCard

/-- THE TIED CARD OF 'pushkeep.RexAgain'. -/
def rexAgainCard : Claim7 := { stood := { row := rexAgainRow, standIns := [], harness := (true, "169d01ca06acc60bc252689756358c4634828817050dc0b552a37474668c5d4c"), looks := false }, kinds := [], alts := [], laidByText := true, laidKinds := [.data], laidTests := true, laidLooks := .later }
def RexAgainCardSaid : Prop := Claim7.holds Tryd.pinned (.plain (OpenSpec.ofChange rexAgainSpec)) rexAgainCard

/-- THE SECOND FORM's CARD OF 'pushkeep.RexBack'. -/
def rexBackUptoCard : Claim7 := { stood := { row := rexBackUptoRow, standIns := [], harness := (true, "169d01ca06acc60bc252689756358c4634828817050dc0b552a37474668c5d4c"), looks := false }, kinds := [], alts := [], laidByText := true, laidKinds := [.data], laidTests := true, laidLooks := .later }
def RexBackUptoCardSaid : Prop := Claim7.holds Tryd.pinned (.plain (OpenSpec.upto rexBackSpec)) rexBackUptoCard

/-- THE SECOND FORM's CARD OF 'pushkeep.RexAgain'. -/
def rexAgainUptoCard : Claim7 := { stood := { row := rexAgainUptoRow, standIns := [], harness := (true, "169d01ca06acc60bc252689756358c4634828817050dc0b552a37474668c5d4c"), looks := false }, kinds := [], alts := [], laidByText := true, laidKinds := [.data], laidTests := true, laidLooks := .later }
def RexAgainUptoCardSaid : Prop := Claim7.holds Tryd.pinned (.plain (OpenSpec.upto rexAgainSpec)) rexAgainUptoCard
end Rows
end Go.Proofs.YtkcpakfcmincbaaDoor
