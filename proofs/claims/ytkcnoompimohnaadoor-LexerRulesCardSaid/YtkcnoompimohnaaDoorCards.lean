/-
  DERIVED. GIVEN WITH THE SEED: THE CARDS: each row of YtkcnoompimohnaaDoorRows.lean that lists a variable, with what it lists TIED to the program's text (the seventh form; the later family's looks); each row that meets fmt, with fmt's text TOLD by the authors' own Lean function (tested against real Go, not proved from fmt's source: count such statements apart). THE CARD IS WHAT COUNTS. Prove the row's statement (the work); the ties are given (YtkcnoompimohnaaDoorTie.lean); close each card by the builder's one call (the guide's Derived/Test/ToyasCard.lean, 'card_holds'). Laid BY PROGRAM, IN A SANDBOX (cutbox-door.mjs). By AI agents, Wed Nov 11 2026. No macro, syntax, notation, axiom, sorry.
-/
import Derived.Test.YtkcnoompimohnaaDoorRows
import GoSem.ClaimSeven
namespace Go.Proofs.YtkcnoompimohnaaDoor
namespace Rows

/-- THE TIED CARD OF 'pushkeep.DfaMeans'. -/
def dfaMeansCard : Claim7 := { stood := { row := dfaMeansRow, standIns := [], harness := (true, "54da014e390ed95b8d30b448d9659a063447bae1263b898e0688b1750becfe1f"), looks := false }, kinds := [], alts := [], laidByText := true, laidKinds := [.data], laidTests := true, laidLooks := .later }
def DfaMeansCardSaid : Prop := Claim7.holds Tryd.pinned (.plain (OpenSpec.ofChange dfaMeansSpec)) dfaMeansCard

/-- THE TIED CARD OF 'pushkeep.LexerRules'. -/
def lexerRulesCard : Claim7 := { stood := { row := lexerRulesRow, standIns := [], harness := (true, "54da014e390ed95b8d30b448d9659a063447bae1263b898e0688b1750becfe1f"), looks := false }, kinds := [], alts := [], laidByText := true, laidKinds := [.data], laidTests := true, laidLooks := .later }
def LexerRulesCardSaid : Prop := Claim7.holds Tryd.pinned (.plain (OpenSpec.ofChange lexerRulesSpec)) lexerRulesCard

/-- THE SECOND FORM's CARD OF 'pushkeep.DfaMeans'. -/
def dfaMeansUptoCard : Claim7 := { stood := { row := dfaMeansUptoRow, standIns := [], harness := (true, "54da014e390ed95b8d30b448d9659a063447bae1263b898e0688b1750becfe1f"), looks := false }, kinds := [], alts := [], laidByText := true, laidKinds := [.data], laidTests := true, laidLooks := .later }
def DfaMeansUptoCardSaid : Prop := Claim7.holds Tryd.pinned (.plain (OpenSpec.upto dfaMeansSpec)) dfaMeansUptoCard

/-- THE SECOND FORM's CARD OF 'pushkeep.LexerRules'. -/
def lexerRulesUptoCard : Claim7 := { stood := { row := lexerRulesUptoRow, standIns := [], harness := (true, "54da014e390ed95b8d30b448d9659a063447bae1263b898e0688b1750becfe1f"), looks := false }, kinds := [], alts := [], laidByText := true, laidKinds := [.data], laidTests := true, laidLooks := .later }
def LexerRulesUptoCardSaid : Prop := Claim7.holds Tryd.pinned (.plain (OpenSpec.upto lexerRulesSpec)) lexerRulesUptoCard
end Rows
end Go.Proofs.YtkcnoompimohnaaDoor
