/-
  No cell of these rows narrows 'for every input' (looked for: loops, veiled, ifaces, maps, wideKeys, modest, calm, conditions, laid).
  DERIVED. THE GIVEN ROWS OF THIS SEAT. 12 by the template 'for every input the law returns true; each argument reads behind the call as it read before'; 0 by the template 'total and deterministic' (their statements: YtbgamboahifnoaaTotals.lean).
  GIVEN WITH THE SEED: the statements are not yours to turn. If you find one false, say at which input.
  Laid BY PROGRAM, IN A SANDBOX (cutbox-rows.mjs): the forced cells as the released guide's own fill.sh prints them over the translation 3c9a34b226852e23… (all of the seat's roots in one cut). By AI agents, Wed Nov 11 2026. No macro, syntax, notation, axiom, sorry.
-/
import Derived.Test.YtbgamboahifnoaaChecked
import GoSem.Claim
import GoSem.ClaimJoined
import GoSem.ClaimMapViews
import Derived.JoinedTies
import Derived.KernelRfl
namespace Go.Proofs.Ytbgamboahifnoaa
/- THE CELL 'sum', in the pinned program and in every row, IS THE sha256 OF THE DUMP (.gsa) THAT YtbgamboahifnoaaProg.lean LOADS. Nothing in Lean hashes anything: it is a label: what it is worth is what the hold of that sum in a sandbox is worth. -/
noncomputable def Try.pinned : Pinned := { name := "ytbgamboahifnoaa", sum := "3c9a34b226852e2369b60499b174cc59a9aa7215d20527e0a15a54bc70012162", checked := Try.checked }
namespace Rows
def none {H : Type} : Left H := { results := [], args := [] }

/-- 'pushkeep.SumJoins': WHATEVER THE INPUT: true; the input reads as it did. -/
def sumJoinsSpec : ChangeSpec := { name := "sumJoins", fn := fun _ => fun
  | [d1, d2, d3] => { results := [.lit (.bool true)], args := [d1, d2, d3] }
  | _ => none }
def sumJoinsRow : OpenClaim := { program := "ytbgamboahifnoaa", sum := "3c9a34b226852e2369b60499b174cc59a9aa7215d20527e0a15a54bc70012162", func := "pushmill/pushkeep.SumJoins", spec := "sumJoins", apart := false }
def SumJoinsSaid : Prop := sumJoinsRow.holds Try.pinned (OpenSpec.ofChange sumJoinsSpec)

/-- ITS FALSE NEIGHBOUR: 'it returns false'. Refute it at one input. -/
def sumJoinsWrong : ChangeSpec := { name := "sumJoins", fn := fun _ => fun
  | [d1, d2, d3] => { results := [.lit (.bool false)], args := [d1, d2, d3] }
  | _ => none }
def SumJoinsWrongFalsely : Prop := sumJoinsRow.holds Try.pinned (OpenSpec.ofChange sumJoinsWrong)

/-- 'pushkeep.SumLinear': WHATEVER THE INPUT: true; the input reads as it did. -/
def sumLinearSpec : ChangeSpec := { name := "sumLinear", fn := fun _ => fun
  | [d1, d2, d3] => { results := [.lit (.bool true)], args := [d1, d2, d3] }
  | _ => none }
def sumLinearRow : OpenClaim := { program := "ytbgamboahifnoaa", sum := "3c9a34b226852e2369b60499b174cc59a9aa7215d20527e0a15a54bc70012162", func := "pushmill/pushkeep.SumLinear", spec := "sumLinear", apart := false }
def SumLinearSaid : Prop := sumLinearRow.holds Try.pinned (OpenSpec.ofChange sumLinearSpec)

/-- ITS FALSE NEIGHBOUR: 'it returns false'. Refute it at one input. -/
def sumLinearWrong : ChangeSpec := { name := "sumLinear", fn := fun _ => fun
  | [d1, d2, d3] => { results := [.lit (.bool false)], args := [d1, d2, d3] }
  | _ => none }
def SumLinearWrongFalsely : Prop := sumLinearRow.holds Try.pinned (OpenSpec.ofChange sumLinearWrong)

/-- 'pushkeep.SumTells': WHATEVER THE INPUT: true; the input reads as it did. -/
def sumTellsSpec : ChangeSpec := { name := "sumTells", fn := fun _ => fun
  | [d1, d2, d3] => { results := [.lit (.bool true)], args := [d1, d2, d3] }
  | _ => none }
def sumTellsRow : OpenClaim := { program := "ytbgamboahifnoaa", sum := "3c9a34b226852e2369b60499b174cc59a9aa7215d20527e0a15a54bc70012162", func := "pushmill/pushkeep.SumTells", spec := "sumTells", apart := false }
def SumTellsSaid : Prop := sumTellsRow.holds Try.pinned (OpenSpec.ofChange sumTellsSpec)

/-- ITS FALSE NEIGHBOUR: 'it returns false'. Refute it at one input. -/
def sumTellsWrong : ChangeSpec := { name := "sumTells", fn := fun _ => fun
  | [d1, d2, d3] => { results := [.lit (.bool false)], args := [d1, d2, d3] }
  | _ => none }
def SumTellsWrongFalsely : Prop := sumTellsRow.holds Try.pinned (OpenSpec.ofChange sumTellsWrong)

/-- 'pushkeep.DealTurn': WHATEVER THE INPUT: true; the input reads as it did. -/
def dealTurnSpec : ChangeSpec := { name := "dealTurn", fn := fun _ => fun
  | [d1, d2] => { results := [.lit (.bool true)], args := [d1, d2] }
  | _ => none }
def dealTurnRow : OpenClaim := { program := "ytbgamboahifnoaa", sum := "3c9a34b226852e2369b60499b174cc59a9aa7215d20527e0a15a54bc70012162", func := "pushmill/pushkeep.DealTurn", spec := "dealTurn", apart := false }
def DealTurnSaid : Prop := dealTurnRow.holds Try.pinned (OpenSpec.ofChange dealTurnSpec)

/-- ITS FALSE NEIGHBOUR: 'it returns false'. Refute it at one input. -/
def dealTurnWrong : ChangeSpec := { name := "dealTurn", fn := fun _ => fun
  | [d1, d2] => { results := [.lit (.bool false)], args := [d1, d2] }
  | _ => none }
def DealTurnWrongFalsely : Prop := dealTurnRow.holds Try.pinned (OpenSpec.ofChange dealTurnWrong)

/-- 'pushkeep.ClassSets': WHATEVER THE INPUT: true; the input reads as it did. -/
def classSetsSpec : ChangeSpec := { name := "classSets", fn := fun _ => fun
  | [d1, d2, d3] => { results := [.lit (.bool true)], args := [d1, d2, d3] }
  | _ => none }
def classSetsRow : OpenClaim := { program := "ytbgamboahifnoaa", sum := "3c9a34b226852e2369b60499b174cc59a9aa7215d20527e0a15a54bc70012162", func := "pushmill/pushkeep.ClassSets", spec := "classSets", unfollowed := true, recurses := true, apart := false }
def ClassSetsSaid : Prop := classSetsRow.holds Try.pinned (OpenSpec.ofChange classSetsSpec)

/-- ITS FALSE NEIGHBOUR: 'it returns false'. Refute it at one input. -/
def classSetsWrong : ChangeSpec := { name := "classSets", fn := fun _ => fun
  | [d1, d2, d3] => { results := [.lit (.bool false)], args := [d1, d2, d3] }
  | _ => none }
def ClassSetsWrongFalsely : Prop := classSetsRow.holds Try.pinned (OpenSpec.ofChange classSetsWrong)

/-- 'pushkeep.DfaGoes': WHATEVER THE INPUT: true; the input reads as it did. -/
def dfaGoesSpec : ChangeSpec := { name := "dfaGoes", fn := fun _ => fun
  | [d1, d2, d3] => { results := [.lit (.bool true)], args := [d1, d2, d3] }
  | _ => none }
def dfaGoesRow : OpenClaim := { program := "ytbgamboahifnoaa", sum := "3c9a34b226852e2369b60499b174cc59a9aa7215d20527e0a15a54bc70012162", func := "pushmill/pushkeep.DfaGoes", spec := "dfaGoes", apart := false }
def DfaGoesSaid : Prop := dfaGoesRow.holds Try.pinned (OpenSpec.ofChange dfaGoesSpec)

/-- ITS FALSE NEIGHBOUR: 'it returns false'. Refute it at one input. -/
def dfaGoesWrong : ChangeSpec := { name := "dfaGoes", fn := fun _ => fun
  | [d1, d2, d3] => { results := [.lit (.bool false)], args := [d1, d2, d3] }
  | _ => none }
def DfaGoesWrongFalsely : Prop := dfaGoesRow.holds Try.pinned (OpenSpec.ofChange dfaGoesWrong)

/-- 'pushkeep.PackApart': WHATEVER THE INPUT: true; the input reads as it did. -/
def packApartSpec : ChangeSpec := { name := "packApart", fn := fun _ => fun
  | [d1, d2, d3, d4] => { results := [.lit (.bool true)], args := [d1, d2, d3, d4] }
  | _ => none }
def packApartRow : OpenClaim := { program := "ytbgamboahifnoaa", sum := "3c9a34b226852e2369b60499b174cc59a9aa7215d20527e0a15a54bc70012162", func := "pushmill/pushkeep.PackApart", spec := "packApart", apart := false }
def PackApartSaid : Prop := packApartRow.holds Try.pinned (OpenSpec.ofChange packApartSpec)

/-- ITS FALSE NEIGHBOUR: 'it returns false'. Refute it at one input. -/
def packApartWrong : ChangeSpec := { name := "packApart", fn := fun _ => fun
  | [d1, d2, d3, d4] => { results := [.lit (.bool false)], args := [d1, d2, d3, d4] }
  | _ => none }
def PackApartWrongFalsely : Prop := packApartRow.holds Try.pinned (OpenSpec.ofChange packApartWrong)

/-- 'pushkeep.PackCut': WHATEVER THE INPUT: true; the input reads as it did. -/
def packCutSpec : ChangeSpec := { name := "packCut", fn := fun _ => fun
  | [d1, d2, d3] => { results := [.lit (.bool true)], args := [d1, d2, d3] }
  | _ => none }
def packCutRow : OpenClaim := { program := "ytbgamboahifnoaa", sum := "3c9a34b226852e2369b60499b174cc59a9aa7215d20527e0a15a54bc70012162", func := "pushmill/pushkeep.PackCut", spec := "packCut", apart := false }
def PackCutSaid : Prop := packCutRow.holds Try.pinned (OpenSpec.ofChange packCutSpec)

/-- ITS FALSE NEIGHBOUR: 'it returns false'. Refute it at one input. -/
def packCutWrong : ChangeSpec := { name := "packCut", fn := fun _ => fun
  | [d1, d2, d3] => { results := [.lit (.bool false)], args := [d1, d2, d3] }
  | _ => none }
def PackCutWrongFalsely : Prop := packCutRow.holds Try.pinned (OpenSpec.ofChange packCutWrong)

/-- 'pushkeep.DealAll': WHATEVER THE INPUT: true; the input reads as it did. -/
def dealAllSpec : ChangeSpec := { name := "dealAll", fn := fun _ => fun
  | [d1, d2, d3, d4] => { results := [.lit (.bool true)], args := [d1, d2, d3, d4] }
  | _ => none }
def dealAllRow : OpenClaim := { program := "ytbgamboahifnoaa", sum := "3c9a34b226852e2369b60499b174cc59a9aa7215d20527e0a15a54bc70012162", func := "pushmill/pushkeep.DealAll", spec := "dealAll", unfollowed := true, recurses := true, apart := false }
def DealAllSaid : Prop := dealAllRow.holds Try.pinned (OpenSpec.ofChange dealAllSpec)

/-- ITS FALSE NEIGHBOUR: 'it returns false'. Refute it at one input. -/
def dealAllWrong : ChangeSpec := { name := "dealAll", fn := fun _ => fun
  | [d1, d2, d3, d4] => { results := [.lit (.bool false)], args := [d1, d2, d3, d4] }
  | _ => none }
def DealAllWrongFalsely : Prop := dealAllRow.holds Try.pinned (OpenSpec.ofChange dealAllWrong)

/-- 'pushkeep.DealFair': WHATEVER THE INPUT: true; the input reads as it did. -/
def dealFairSpec : ChangeSpec := { name := "dealFair", fn := fun _ => fun
  | [d1, d2, d3, d4] => { results := [.lit (.bool true)], args := [d1, d2, d3, d4] }
  | _ => none }
def dealFairRow : OpenClaim := { program := "ytbgamboahifnoaa", sum := "3c9a34b226852e2369b60499b174cc59a9aa7215d20527e0a15a54bc70012162", func := "pushmill/pushkeep.DealFair", spec := "dealFair", unfollowed := true, recurses := true, apart := false }
def DealFairSaid : Prop := dealFairRow.holds Try.pinned (OpenSpec.ofChange dealFairSpec)

/-- ITS FALSE NEIGHBOUR: 'it returns false'. Refute it at one input. -/
def dealFairWrong : ChangeSpec := { name := "dealFair", fn := fun _ => fun
  | [d1, d2, d3, d4] => { results := [.lit (.bool false)], args := [d1, d2, d3, d4] }
  | _ => none }
def DealFairWrongFalsely : Prop := dealFairRow.holds Try.pinned (OpenSpec.ofChange dealFairWrong)

/-- 'pushkeep.FrameCuts': WHATEVER THE INPUT: true; the input reads as it did. -/
def frameCutsSpec : ChangeSpec := { name := "frameCuts", fn := fun _ => fun
  | [d1, d2] => { results := [.lit (.bool true)], args := [d1, d2] }
  | _ => none }
def frameCutsRow : OpenClaim := { program := "ytbgamboahifnoaa", sum := "3c9a34b226852e2369b60499b174cc59a9aa7215d20527e0a15a54bc70012162", func := "pushmill/pushkeep.FrameCuts", spec := "frameCuts", apart := false }
def FrameCutsSaid : Prop := frameCutsRow.holds Try.pinned (OpenSpec.ofChange frameCutsSpec)

/-- ITS FALSE NEIGHBOUR: 'it returns false'. Refute it at one input. -/
def frameCutsWrong : ChangeSpec := { name := "frameCuts", fn := fun _ => fun
  | [d1, d2] => { results := [.lit (.bool false)], args := [d1, d2] }
  | _ => none }
def FrameCutsWrongFalsely : Prop := frameCutsRow.holds Try.pinned (OpenSpec.ofChange frameCutsWrong)

/-- 'pushkeep.FrameTurned': WHATEVER THE INPUT: true; the input reads as it did. -/
def frameTurnedSpec : ChangeSpec := { name := "frameTurned", fn := fun _ => fun
  | [d1, d2, d3] => { results := [.lit (.bool true)], args := [d1, d2, d3] }
  | _ => none }
def frameTurnedRow : OpenClaim := { program := "ytbgamboahifnoaa", sum := "3c9a34b226852e2369b60499b174cc59a9aa7215d20527e0a15a54bc70012162", func := "pushmill/pushkeep.FrameTurned", spec := "frameTurned", apart := false }
def FrameTurnedSaid : Prop := frameTurnedRow.holds Try.pinned (OpenSpec.ofChange frameTurnedSpec)

/-- ITS FALSE NEIGHBOUR: 'it returns false'. Refute it at one input. -/
def frameTurnedWrong : ChangeSpec := { name := "frameTurned", fn := fun _ => fun
  | [d1, d2, d3] => { results := [.lit (.bool false)], args := [d1, d2, d3] }
  | _ => none }
def FrameTurnedWrongFalsely : Prop := frameTurnedRow.holds Try.pinned (OpenSpec.ofChange frameTurnedWrong)

/- THE SECOND FORM. 'bulk': how many values and letters a reading holds, each counted each time it is reached (what is shared counts as often as it is met; a slice's spare places count too). A statement '..UptoSaid' is the law's where the arguments, and the package variables that the reading takes, are together of bulk at most 1048576: NARROWER than '..Said'. Prove '..Said' where nothing that the law and all that it calls make is longer than what came in: it says more and counts as full. Else prove '..UptoSaid'. A law counts once. -/
mutual
def uptoBulk {H : Type} : DataW H → Nat
  | .lit (.string bytes) => bytes.length + 1
  | .lit _ => 1
  | .nil => 1
  | .ptr d => uptoBulk d + 1
  | .slice elems spare => uptoBulkAll elems + uptoBulkAll spare + 1
  | .agg parts => uptoBulkAll parts + 1
  | .iface _ d => uptoBulk d + 1
  | .map entries => uptoBulkEntries entries + 1
  | .held _ => 1
def uptoBulkAll {H : Type} : List (DataW H) → Nat
  | [] => 0
  | d :: r => uptoBulk d + uptoBulkAll r
def uptoBulkEntries {H : Type} : List (Lit × DataW H) → Nat
  | [] => 0
  | x :: r => uptoBulkEntry x + uptoBulkEntries r
def uptoBulkEntry {H : Type} : Lit × DataW H → Nat
  | (.string bytes, d) => bytes.length + uptoBulk d + 1
  | (_, d) => uptoBulk d + 1
 end
def uptoSmall : (H : Type) → List (DataW H) → Bool := fun _ ds => decide (uptoBulkAll ds ≤ 1048576)
def OpenSpec.upto (s : _root_.Go.ChangeSpec) : _root_.Go.OpenSpec := { _root_.Go.OpenSpec.ofChange s with cond := some uptoSmall }

/-- 'pushkeep.SumJoins', WHERE WHAT IT READS IS OF BULK AT MOST 1048576: true; the input reads as it did. -/
def sumJoinsUptoRow : OpenClaim := { program := "ytbgamboahifnoaa", sum := "3c9a34b226852e2369b60499b174cc59a9aa7215d20527e0a15a54bc70012162", func := "pushmill/pushkeep.SumJoins", spec := "sumJoins", apart := false, narrowed := true }
def SumJoinsUptoSaid : Prop := sumJoinsUptoRow.holds Try.pinned (OpenSpec.upto sumJoinsSpec)

/-- 'pushkeep.SumLinear', WHERE WHAT IT READS IS OF BULK AT MOST 1048576: true; the input reads as it did. -/
def sumLinearUptoRow : OpenClaim := { program := "ytbgamboahifnoaa", sum := "3c9a34b226852e2369b60499b174cc59a9aa7215d20527e0a15a54bc70012162", func := "pushmill/pushkeep.SumLinear", spec := "sumLinear", apart := false, narrowed := true }
def SumLinearUptoSaid : Prop := sumLinearUptoRow.holds Try.pinned (OpenSpec.upto sumLinearSpec)

/-- 'pushkeep.SumTells', WHERE WHAT IT READS IS OF BULK AT MOST 1048576: true; the input reads as it did. -/
def sumTellsUptoRow : OpenClaim := { program := "ytbgamboahifnoaa", sum := "3c9a34b226852e2369b60499b174cc59a9aa7215d20527e0a15a54bc70012162", func := "pushmill/pushkeep.SumTells", spec := "sumTells", apart := false, narrowed := true }
def SumTellsUptoSaid : Prop := sumTellsUptoRow.holds Try.pinned (OpenSpec.upto sumTellsSpec)

/-- 'pushkeep.DealTurn', WHERE WHAT IT READS IS OF BULK AT MOST 1048576: true; the input reads as it did. -/
def dealTurnUptoRow : OpenClaim := { program := "ytbgamboahifnoaa", sum := "3c9a34b226852e2369b60499b174cc59a9aa7215d20527e0a15a54bc70012162", func := "pushmill/pushkeep.DealTurn", spec := "dealTurn", apart := false, narrowed := true }
def DealTurnUptoSaid : Prop := dealTurnUptoRow.holds Try.pinned (OpenSpec.upto dealTurnSpec)

/-- 'pushkeep.ClassSets', WHERE WHAT IT READS IS OF BULK AT MOST 1048576: true; the input reads as it did. -/
def classSetsUptoRow : OpenClaim := { program := "ytbgamboahifnoaa", sum := "3c9a34b226852e2369b60499b174cc59a9aa7215d20527e0a15a54bc70012162", func := "pushmill/pushkeep.ClassSets", spec := "classSets", unfollowed := true, recurses := true, apart := false, narrowed := true }
def ClassSetsUptoSaid : Prop := classSetsUptoRow.holds Try.pinned (OpenSpec.upto classSetsSpec)

/-- 'pushkeep.DfaGoes', WHERE WHAT IT READS IS OF BULK AT MOST 1048576: true; the input reads as it did. -/
def dfaGoesUptoRow : OpenClaim := { program := "ytbgamboahifnoaa", sum := "3c9a34b226852e2369b60499b174cc59a9aa7215d20527e0a15a54bc70012162", func := "pushmill/pushkeep.DfaGoes", spec := "dfaGoes", apart := false, narrowed := true }
def DfaGoesUptoSaid : Prop := dfaGoesUptoRow.holds Try.pinned (OpenSpec.upto dfaGoesSpec)

/-- 'pushkeep.PackApart', WHERE WHAT IT READS IS OF BULK AT MOST 1048576: true; the input reads as it did. -/
def packApartUptoRow : OpenClaim := { program := "ytbgamboahifnoaa", sum := "3c9a34b226852e2369b60499b174cc59a9aa7215d20527e0a15a54bc70012162", func := "pushmill/pushkeep.PackApart", spec := "packApart", apart := false, narrowed := true }
def PackApartUptoSaid : Prop := packApartUptoRow.holds Try.pinned (OpenSpec.upto packApartSpec)

/-- 'pushkeep.PackCut', WHERE WHAT IT READS IS OF BULK AT MOST 1048576: true; the input reads as it did. -/
def packCutUptoRow : OpenClaim := { program := "ytbgamboahifnoaa", sum := "3c9a34b226852e2369b60499b174cc59a9aa7215d20527e0a15a54bc70012162", func := "pushmill/pushkeep.PackCut", spec := "packCut", apart := false, narrowed := true }
def PackCutUptoSaid : Prop := packCutUptoRow.holds Try.pinned (OpenSpec.upto packCutSpec)

/-- 'pushkeep.DealAll', WHERE WHAT IT READS IS OF BULK AT MOST 1048576: true; the input reads as it did. -/
def dealAllUptoRow : OpenClaim := { program := "ytbgamboahifnoaa", sum := "3c9a34b226852e2369b60499b174cc59a9aa7215d20527e0a15a54bc70012162", func := "pushmill/pushkeep.DealAll", spec := "dealAll", unfollowed := true, recurses := true, apart := false, narrowed := true }
def DealAllUptoSaid : Prop := dealAllUptoRow.holds Try.pinned (OpenSpec.upto dealAllSpec)

/-- 'pushkeep.DealFair', WHERE WHAT IT READS IS OF BULK AT MOST 1048576: true; the input reads as it did. -/
def dealFairUptoRow : OpenClaim := { program := "ytbgamboahifnoaa", sum := "3c9a34b226852e2369b60499b174cc59a9aa7215d20527e0a15a54bc70012162", func := "pushmill/pushkeep.DealFair", spec := "dealFair", unfollowed := true, recurses := true, apart := false, narrowed := true }
def DealFairUptoSaid : Prop := dealFairUptoRow.holds Try.pinned (OpenSpec.upto dealFairSpec)

/-- 'pushkeep.FrameCuts', WHERE WHAT IT READS IS OF BULK AT MOST 1048576: true; the input reads as it did. -/
def frameCutsUptoRow : OpenClaim := { program := "ytbgamboahifnoaa", sum := "3c9a34b226852e2369b60499b174cc59a9aa7215d20527e0a15a54bc70012162", func := "pushmill/pushkeep.FrameCuts", spec := "frameCuts", apart := false, narrowed := true }
def FrameCutsUptoSaid : Prop := frameCutsUptoRow.holds Try.pinned (OpenSpec.upto frameCutsSpec)

/-- 'pushkeep.FrameTurned', WHERE WHAT IT READS IS OF BULK AT MOST 1048576: true; the input reads as it did. -/
def frameTurnedUptoRow : OpenClaim := { program := "ytbgamboahifnoaa", sum := "3c9a34b226852e2369b60499b174cc59a9aa7215d20527e0a15a54bc70012162", func := "pushmill/pushkeep.FrameTurned", spec := "frameTurned", apart := false, narrowed := true }
def FrameTurnedUptoSaid : Prop := frameTurnedUptoRow.holds Try.pinned (OpenSpec.upto frameTurnedSpec)

end Rows
end Go.Proofs.Ytbgamboahifnoaa
