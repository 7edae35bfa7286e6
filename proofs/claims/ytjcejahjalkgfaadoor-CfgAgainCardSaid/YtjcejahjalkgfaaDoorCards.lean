/-
  DERIVED. GIVEN WITH THE SEED: THE CARDS: each row of YtjcejahjalkgfaaDoorRows.lean that lists a variable, with what it lists TIED to the program's text (the seventh form; the later family's looks); each row that meets fmt, with fmt's text TOLD by the authors' own Lean function (tested against real Go, not proved from fmt's source: count such statements apart). THE CARD IS WHAT COUNTS. Prove the row's statement (the work); the ties are given (YtjcejahjalkgfaaDoorTie.lean); close each card by the builder's one call (the guide's Derived/Test/ToyasCard.lean, 'card_holds'). Laid BY PROGRAM, IN A SANDBOX (cutbox-door.mjs). By AI agents, Wed Nov 11 2026. No macro, syntax, notation, axiom, sorry.
-/
import Derived.Test.YtjcejahjalkgfaaDoorRows
import GoSem.ClaimSeven
namespace Go.Proofs.YtjcejahjalkgfaaDoor
namespace Rows

/-- THE TIED CARD OF 'pushkeep.CfgBack'. -/
def cfgBackCard : Claim7 := { stood := { row := cfgBackRow, standIns := [], harness := (true, "d20ccb6d6727e82e97416c90678beb860ff32782c26756486fe935d12cd22451"), looks := false }, kinds := [], alts := [], laidByText := true, laidKinds := [.data, .data, .data], laidTests := true, laidLooks := .later }
def CfgBackCardSaid : Prop := Claim7.holds Tryd.pinned (.plain (OpenSpec.ofChange cfgBackSpec)) cfgBackCard

/-- THE TIED CARD OF 'pushkeep.CfgAgain'. -/
def cfgAgainCard : Claim7 := { stood := { row := cfgAgainRow, standIns := [], harness := (true, "d20ccb6d6727e82e97416c90678beb860ff32782c26756486fe935d12cd22451"), looks := false }, kinds := [], alts := [], laidByText := true, laidKinds := [.data, .data, .data], laidTests := true, laidLooks := .later }
def CfgAgainCardSaid : Prop := Claim7.holds Tryd.pinned (.plain (OpenSpec.ofChange cfgAgainSpec)) cfgAgainCard

/-- THE SECOND FORM's CARD OF 'pushkeep.CfgBack'. -/
def cfgBackUptoCard : Claim7 := { stood := { row := cfgBackUptoRow, standIns := [], harness := (true, "d20ccb6d6727e82e97416c90678beb860ff32782c26756486fe935d12cd22451"), looks := false }, kinds := [], alts := [], laidByText := true, laidKinds := [.data, .data, .data], laidTests := true, laidLooks := .later }
def CfgBackUptoCardSaid : Prop := Claim7.holds Tryd.pinned (.plain (OpenSpec.upto cfgBackSpec)) cfgBackUptoCard

/-- THE SECOND FORM's CARD OF 'pushkeep.CfgAgain'. -/
def cfgAgainUptoCard : Claim7 := { stood := { row := cfgAgainUptoRow, standIns := [], harness := (true, "d20ccb6d6727e82e97416c90678beb860ff32782c26756486fe935d12cd22451"), looks := false }, kinds := [], alts := [], laidByText := true, laidKinds := [.data, .data, .data], laidTests := true, laidLooks := .later }
def CfgAgainUptoCardSaid : Prop := Claim7.holds Tryd.pinned (.plain (OpenSpec.upto cfgAgainSpec)) cfgAgainUptoCard
end Rows
end Go.Proofs.YtjcejahjalkgfaaDoor
