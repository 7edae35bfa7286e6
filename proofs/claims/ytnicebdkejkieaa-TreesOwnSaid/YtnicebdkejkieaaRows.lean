/-
  NARROWER THAN 'FOR EVERY INPUT', by the rows' own cells (each row's printed sentence says how): TreesMirror: loops · TreesWord: loops · FactsTree: loops · TreesBack: loops · TreesOwn: loops · LlTree: loops.
  DERIVED. THE GIVEN ROWS OF THIS SEAT. 15 by the template 'for every input the law returns true; each argument reads behind the call as it read before'; 0 by the template 'total and deterministic' (their statements: YtnicebdkejkieaaTotals.lean).
  GIVEN WITH THE SEED: the statements are not yours to turn. If you find one false, say at which input.
  Laid BY PROGRAM, IN A SANDBOX (cutbox-rows.mjs): the forced cells as the released guide's own fill.sh prints them over the translation 231520e801d20484… (all of the seat's roots in one cut). By AI agents, Wed Nov 11 2026. No macro, syntax, notation, axiom, sorry.
-/
import Derived.Test.YtnicebdkejkieaaChecked
import GoSem.Claim
import GoSem.ClaimJoined
import GoSem.ClaimMapViews
import Derived.JoinedTies
import Derived.KernelRfl
namespace Go.Proofs.Ytnicebdkejkieaa
/- THE CELL 'sum', in the pinned program and in every row, IS THE sha256 OF THE DUMP (.gsa) THAT YtnicebdkejkieaaProg.lean LOADS. Nothing in Lean hashes anything: it is a label: what it is worth is what the hold of that sum in a sandbox is worth. -/
noncomputable def Try.pinned : Pinned := { name := "ytnicebdkejkieaa", sum := "231520e801d20484feace45453f6de9666b7bb515c4f05d3a8cecc14581531a5", checked := Try.checked }
namespace Rows
def none {H : Type} : Left H := { results := [], args := [] }

/-- 'pushkeep.CfgMirror': WHATEVER THE INPUT: true; the input reads as it did. -/
def cfgMirrorSpec : ChangeSpec := { name := "cfgMirror", fn := fun _ => fun
  | [d] => { results := [.lit (.bool true)], args := [d] }
  | _ => none }
def cfgMirrorRow : OpenClaim := { program := "ytnicebdkejkieaa", sum := "231520e801d20484feace45453f6de9666b7bb515c4f05d3a8cecc14581531a5", func := "pushmill/pushkeep.CfgMirror", spec := "cfgMirror", unfollowed := true, recurses := true, plainKeys := false, apart := false }
def CfgMirrorSaid : Prop := cfgMirrorRow.holds Try.pinned (OpenSpec.ofChange cfgMirrorSpec)

/-- ITS FALSE NEIGHBOUR: 'it returns false'. Refute it at one input. -/
def cfgMirrorWrong : ChangeSpec := { name := "cfgMirror", fn := fun _ => fun
  | [d] => { results := [.lit (.bool false)], args := [d] }
  | _ => none }
def CfgMirrorWrongFalsely : Prop := cfgMirrorRow.holds Try.pinned (OpenSpec.ofChange cfgMirrorWrong)

/-- 'pushkeep.CountMore': WHATEVER THE INPUT: true; the input reads as it did. -/
def countMoreSpec : ChangeSpec := { name := "countMore", fn := fun _ => fun
  | [d1, d2, d3] => { results := [.lit (.bool true)], args := [d1, d2, d3] }
  | _ => none }
def countMoreRow : OpenClaim := { program := "ytnicebdkejkieaa", sum := "231520e801d20484feace45453f6de9666b7bb515c4f05d3a8cecc14581531a5", func := "pushmill/pushkeep.CountMore", spec := "countMore", unfollowed := true, recurses := true, plainKeys := false, apart := false }
def CountMoreSaid : Prop := countMoreRow.holds Try.pinned (OpenSpec.ofChange countMoreSpec)

/-- ITS FALSE NEIGHBOUR: 'it returns false'. Refute it at one input. -/
def countMoreWrong : ChangeSpec := { name := "countMore", fn := fun _ => fun
  | [d1, d2, d3] => { results := [.lit (.bool false)], args := [d1, d2, d3] }
  | _ => none }
def CountMoreWrongFalsely : Prop := countMoreRow.holds Try.pinned (OpenSpec.ofChange countMoreWrong)

/-- 'pushkeep.TreesMirror': WHATEVER THE INPUT: true; the input reads as it did. -/
def treesMirrorSpec : ChangeSpec := { name := "treesMirror", fn := fun _ => fun
  | [d1, d2] => { results := [.lit (.bool true)], args := [d1, d2] }
  | _ => none }
def treesMirrorRow : OpenClaim := { program := "ytnicebdkejkieaa", sum := "231520e801d20484feace45453f6de9666b7bb515c4f05d3a8cecc14581531a5", func := "pushmill/pushkeep.TreesMirror", spec := "treesMirror", unfollowed := true, recurses := true, loops := true, plainKeys := false, apart := false }
def TreesMirrorSaid : Prop := treesMirrorRow.holds Try.pinned (OpenSpec.ofChange treesMirrorSpec)

/-- ITS FALSE NEIGHBOUR: 'it returns false'. Refute it at one input. -/
def treesMirrorWrong : ChangeSpec := { name := "treesMirror", fn := fun _ => fun
  | [d1, d2] => { results := [.lit (.bool false)], args := [d1, d2] }
  | _ => none }
def TreesMirrorWrongFalsely : Prop := treesMirrorRow.holds Try.pinned (OpenSpec.ofChange treesMirrorWrong)

/-- 'pushkeep.FactsBody': WHATEVER THE INPUT: true; the input reads as it did. -/
def factsBodySpec : ChangeSpec := { name := "factsBody", fn := fun _ => fun
  | [d1, d2, d3, d4] => { results := [.lit (.bool true)], args := [d1, d2, d3, d4] }
  | _ => none }
def factsBodyRow : OpenClaim := { program := "ytnicebdkejkieaa", sum := "231520e801d20484feace45453f6de9666b7bb515c4f05d3a8cecc14581531a5", func := "pushmill/pushkeep.FactsBody", spec := "factsBody", unfollowed := true, recurses := true, plainKeys := false, apart := false }
def FactsBodySaid : Prop := factsBodyRow.holds Try.pinned (OpenSpec.ofChange factsBodySpec)

/-- ITS FALSE NEIGHBOUR: 'it returns false'. Refute it at one input. -/
def factsBodyWrong : ChangeSpec := { name := "factsBody", fn := fun _ => fun
  | [d1, d2, d3, d4] => { results := [.lit (.bool false)], args := [d1, d2, d3, d4] }
  | _ => none }
def FactsBodyWrongFalsely : Prop := factsBodyRow.holds Try.pinned (OpenSpec.ofChange factsBodyWrong)

/-- 'pushkeep.CountMirror': WHATEVER THE INPUT: true; the input reads as it did. -/
def countMirrorSpec : ChangeSpec := { name := "countMirror", fn := fun _ => fun
  | [d1, d2] => { results := [.lit (.bool true)], args := [d1, d2] }
  | _ => none }
def countMirrorRow : OpenClaim := { program := "ytnicebdkejkieaa", sum := "231520e801d20484feace45453f6de9666b7bb515c4f05d3a8cecc14581531a5", func := "pushmill/pushkeep.CountMirror", spec := "countMirror", unfollowed := true, recurses := true, plainKeys := false, apart := false }
def CountMirrorSaid : Prop := countMirrorRow.holds Try.pinned (OpenSpec.ofChange countMirrorSpec)

/-- ITS FALSE NEIGHBOUR: 'it returns false'. Refute it at one input. -/
def countMirrorWrong : ChangeSpec := { name := "countMirror", fn := fun _ => fun
  | [d1, d2] => { results := [.lit (.bool false)], args := [d1, d2] }
  | _ => none }
def CountMirrorWrongFalsely : Prop := countMirrorRow.holds Try.pinned (OpenSpec.ofChange countMirrorWrong)

/-- 'pushkeep.TreesWord': WHATEVER THE INPUT: true; the input reads as it did. -/
def treesWordSpec : ChangeSpec := { name := "treesWord", fn := fun _ => fun
  | [d1, d2] => { results := [.lit (.bool true)], args := [d1, d2] }
  | _ => none }
def treesWordRow : OpenClaim := { program := "ytnicebdkejkieaa", sum := "231520e801d20484feace45453f6de9666b7bb515c4f05d3a8cecc14581531a5", func := "pushmill/pushkeep.TreesWord", spec := "treesWord", unfollowed := true, recurses := true, loops := true, plainKeys := false, apart := false }
def TreesWordSaid : Prop := treesWordRow.holds Try.pinned (OpenSpec.ofChange treesWordSpec)

/-- ITS FALSE NEIGHBOUR: 'it returns false'. Refute it at one input. -/
def treesWordWrong : ChangeSpec := { name := "treesWord", fn := fun _ => fun
  | [d1, d2] => { results := [.lit (.bool false)], args := [d1, d2] }
  | _ => none }
def TreesWordWrongFalsely : Prop := treesWordRow.holds Try.pinned (OpenSpec.ofChange treesWordWrong)

/-- 'pushkeep.FactsTree': WHATEVER THE INPUT: true; the input reads as it did. -/
def factsTreeSpec : ChangeSpec := { name := "factsTree", fn := fun _ => fun
  | [d1, d2] => { results := [.lit (.bool true)], args := [d1, d2] }
  | _ => none }
def factsTreeRow : OpenClaim := { program := "ytnicebdkejkieaa", sum := "231520e801d20484feace45453f6de9666b7bb515c4f05d3a8cecc14581531a5", func := "pushmill/pushkeep.FactsTree", spec := "factsTree", unfollowed := true, recurses := true, loops := true, plainKeys := false, apart := false }
def FactsTreeSaid : Prop := factsTreeRow.holds Try.pinned (OpenSpec.ofChange factsTreeSpec)

/-- ITS FALSE NEIGHBOUR: 'it returns false'. Refute it at one input. -/
def factsTreeWrong : ChangeSpec := { name := "factsTree", fn := fun _ => fun
  | [d1, d2] => { results := [.lit (.bool false)], args := [d1, d2] }
  | _ => none }
def FactsTreeWrongFalsely : Prop := factsTreeRow.holds Try.pinned (OpenSpec.ofChange factsTreeWrong)

/-- 'pushkeep.TreesBack': WHATEVER THE INPUT: true; the input reads as it did. -/
def treesBackSpec : ChangeSpec := { name := "treesBack", fn := fun _ => fun
  | [d1, d2] => { results := [.lit (.bool true)], args := [d1, d2] }
  | _ => none }
def treesBackRow : OpenClaim := { program := "ytnicebdkejkieaa", sum := "231520e801d20484feace45453f6de9666b7bb515c4f05d3a8cecc14581531a5", func := "pushmill/pushkeep.TreesBack", spec := "treesBack", unfollowed := true, recurses := true, loops := true, plainKeys := false, apart := false }
def TreesBackSaid : Prop := treesBackRow.holds Try.pinned (OpenSpec.ofChange treesBackSpec)

/-- ITS FALSE NEIGHBOUR: 'it returns false'. Refute it at one input. -/
def treesBackWrong : ChangeSpec := { name := "treesBack", fn := fun _ => fun
  | [d1, d2] => { results := [.lit (.bool false)], args := [d1, d2] }
  | _ => none }
def TreesBackWrongFalsely : Prop := treesBackRow.holds Try.pinned (OpenSpec.ofChange treesBackWrong)

/-- 'pushkeep.TreesAgain': WHATEVER THE INPUT: true; the input reads as it did. -/
def treesAgainSpec : ChangeSpec := { name := "treesAgain", fn := fun _ => fun
  | [d1, d2] => { results := [.lit (.bool true)], args := [d1, d2] }
  | _ => none }
def treesAgainRow : OpenClaim := { program := "ytnicebdkejkieaa", sum := "231520e801d20484feace45453f6de9666b7bb515c4f05d3a8cecc14581531a5", func := "pushmill/pushkeep.TreesAgain", spec := "treesAgain", unfollowed := true, recurses := true, plainKeys := false, apart := false }
def TreesAgainSaid : Prop := treesAgainRow.holds Try.pinned (OpenSpec.ofChange treesAgainSpec)

/-- ITS FALSE NEIGHBOUR: 'it returns false'. Refute it at one input. -/
def treesAgainWrong : ChangeSpec := { name := "treesAgain", fn := fun _ => fun
  | [d1, d2] => { results := [.lit (.bool false)], args := [d1, d2] }
  | _ => none }
def TreesAgainWrongFalsely : Prop := treesAgainRow.holds Try.pinned (OpenSpec.ofChange treesAgainWrong)

/-- 'pushkeep.TreesOwn': WHATEVER THE INPUT: true; the input reads as it did. -/
def treesOwnSpec : ChangeSpec := { name := "treesOwn", fn := fun _ => fun
  | [d1, d2] => { results := [.lit (.bool true)], args := [d1, d2] }
  | _ => none }
def treesOwnRow : OpenClaim := { program := "ytnicebdkejkieaa", sum := "231520e801d20484feace45453f6de9666b7bb515c4f05d3a8cecc14581531a5", func := "pushmill/pushkeep.TreesOwn", spec := "treesOwn", unfollowed := true, recurses := true, loops := true, plainKeys := false, apart := false }
def TreesOwnSaid : Prop := treesOwnRow.holds Try.pinned (OpenSpec.ofChange treesOwnSpec)

/-- ITS FALSE NEIGHBOUR: 'it returns false'. Refute it at one input. -/
def treesOwnWrong : ChangeSpec := { name := "treesOwn", fn := fun _ => fun
  | [d1, d2] => { results := [.lit (.bool false)], args := [d1, d2] }
  | _ => none }
def TreesOwnWrongFalsely : Prop := treesOwnRow.holds Try.pinned (OpenSpec.ofChange treesOwnWrong)

/-- 'pushkeep.CountOnly': WHATEVER THE INPUT: true; the input reads as it did. -/
def countOnlySpec : ChangeSpec := { name := "countOnly", fn := fun _ => fun
  | [d1, d2] => { results := [.lit (.bool true)], args := [d1, d2] }
  | _ => none }
def countOnlyRow : OpenClaim := { program := "ytnicebdkejkieaa", sum := "231520e801d20484feace45453f6de9666b7bb515c4f05d3a8cecc14581531a5", func := "pushmill/pushkeep.CountOnly", spec := "countOnly", unfollowed := true, recurses := true, plainKeys := false, apart := false }
def CountOnlySaid : Prop := countOnlyRow.holds Try.pinned (OpenSpec.ofChange countOnlySpec)

/-- ITS FALSE NEIGHBOUR: 'it returns false'. Refute it at one input. -/
def countOnlyWrong : ChangeSpec := { name := "countOnly", fn := fun _ => fun
  | [d1, d2] => { results := [.lit (.bool false)], args := [d1, d2] }
  | _ => none }
def CountOnlyWrongFalsely : Prop := countOnlyRow.holds Try.pinned (OpenSpec.ofChange countOnlyWrong)

/-- 'pushkeep.LlTree': WHATEVER THE INPUT: true; the input reads as it did. -/
def llTreeSpec : ChangeSpec := { name := "llTree", fn := fun _ => fun
  | [d1, d2] => { results := [.lit (.bool true)], args := [d1, d2] }
  | _ => none }
def llTreeRow : OpenClaim := { program := "ytnicebdkejkieaa", sum := "231520e801d20484feace45453f6de9666b7bb515c4f05d3a8cecc14581531a5", func := "pushmill/pushkeep.LlTree", spec := "llTree", unfollowed := true, recurses := true, loops := true, plainKeys := false, apart := false }
def LlTreeSaid : Prop := llTreeRow.holds Try.pinned (OpenSpec.ofChange llTreeSpec)

/-- ITS FALSE NEIGHBOUR: 'it returns false'. Refute it at one input. -/
def llTreeWrong : ChangeSpec := { name := "llTree", fn := fun _ => fun
  | [d1, d2] => { results := [.lit (.bool false)], args := [d1, d2] }
  | _ => none }
def LlTreeWrongFalsely : Prop := llTreeRow.holds Try.pinned (OpenSpec.ofChange llTreeWrong)

/-- 'pushkeep.FactsWord': WHATEVER THE INPUT: true; the input reads as it did. -/
def factsWordSpec : ChangeSpec := { name := "factsWord", fn := fun _ => fun
  | [d1, d2] => { results := [.lit (.bool true)], args := [d1, d2] }
  | _ => none }
def factsWordRow : OpenClaim := { program := "ytnicebdkejkieaa", sum := "231520e801d20484feace45453f6de9666b7bb515c4f05d3a8cecc14581531a5", func := "pushmill/pushkeep.FactsWord", spec := "factsWord", unfollowed := true, recurses := true, plainKeys := false, apart := false }
def FactsWordSaid : Prop := factsWordRow.holds Try.pinned (OpenSpec.ofChange factsWordSpec)

/-- ITS FALSE NEIGHBOUR: 'it returns false'. Refute it at one input. -/
def factsWordWrong : ChangeSpec := { name := "factsWord", fn := fun _ => fun
  | [d1, d2] => { results := [.lit (.bool false)], args := [d1, d2] }
  | _ => none }
def FactsWordWrongFalsely : Prop := factsWordRow.holds Try.pinned (OpenSpec.ofChange factsWordWrong)

/-- 'pushkeep.LlOne': WHATEVER THE INPUT: true; the input reads as it did. -/
def llOneSpec : ChangeSpec := { name := "llOne", fn := fun _ => fun
  | [d1, d2] => { results := [.lit (.bool true)], args := [d1, d2] }
  | _ => none }
def llOneRow : OpenClaim := { program := "ytnicebdkejkieaa", sum := "231520e801d20484feace45453f6de9666b7bb515c4f05d3a8cecc14581531a5", func := "pushmill/pushkeep.LlOne", spec := "llOne", unfollowed := true, recurses := true, plainKeys := false, apart := false }
def LlOneSaid : Prop := llOneRow.holds Try.pinned (OpenSpec.ofChange llOneSpec)

/-- ITS FALSE NEIGHBOUR: 'it returns false'. Refute it at one input. -/
def llOneWrong : ChangeSpec := { name := "llOne", fn := fun _ => fun
  | [d1, d2] => { results := [.lit (.bool false)], args := [d1, d2] }
  | _ => none }
def LlOneWrongFalsely : Prop := llOneRow.holds Try.pinned (OpenSpec.ofChange llOneWrong)

/-- 'pushkeep.CountBegins': WHATEVER THE INPUT: true; the input reads as it did. -/
def countBeginsSpec : ChangeSpec := { name := "countBegins", fn := fun _ => fun
  | [d1, d2] => { results := [.lit (.bool true)], args := [d1, d2] }
  | _ => none }
def countBeginsRow : OpenClaim := { program := "ytnicebdkejkieaa", sum := "231520e801d20484feace45453f6de9666b7bb515c4f05d3a8cecc14581531a5", func := "pushmill/pushkeep.CountBegins", spec := "countBegins", unfollowed := true, recurses := true, plainKeys := false, apart := false }
def CountBeginsSaid : Prop := countBeginsRow.holds Try.pinned (OpenSpec.ofChange countBeginsSpec)

/-- ITS FALSE NEIGHBOUR: 'it returns false'. Refute it at one input. -/
def countBeginsWrong : ChangeSpec := { name := "countBegins", fn := fun _ => fun
  | [d1, d2] => { results := [.lit (.bool false)], args := [d1, d2] }
  | _ => none }
def CountBeginsWrongFalsely : Prop := countBeginsRow.holds Try.pinned (OpenSpec.ofChange countBeginsWrong)

/- THE SECOND FORM. 'bulk': how many values and letters a reading holds, each counted each time it is reached (what is shared counts as often as it is met; a slice's spare places count too). A statement '..UptoSaid' is the law's where the arguments, and the package variables that the reading takes, are together of bulk at most 1048576: NARROWER than '..Said'. Prove '..Said' where nothing that the law and all that it calls make is longer than what came in: it says more and counts as full. Else prove '..UptoSaid'. A law counts once. -/
mutual
def uptoBulk {H : Type} : DataW H → Nat
  | .lit (.string bytes) => bytes.length + 1
  | .lit _ => 1
  | .nil => 1
  | .ptr d => uptoBulk d + 1
  | .slice elems spare => uptoBulkAll elems + uptoBulkAll spare + 1
  | .agg parts => uptoBulkAll parts + 1
  | .iface _ d => uptoBulk d + 1
  | .map entries => uptoBulkEntries entries + 1
  | .held _ => 1
def uptoBulkAll {H : Type} : List (DataW H) → Nat
  | [] => 0
  | d :: r => uptoBulk d + uptoBulkAll r
def uptoBulkEntries {H : Type} : List (Lit × DataW H) → Nat
  | [] => 0
  | x :: r => uptoBulkEntry x + uptoBulkEntries r
def uptoBulkEntry {H : Type} : Lit × DataW H → Nat
  | (.string bytes, d) => bytes.length + uptoBulk d + 1
  | (_, d) => uptoBulk d + 1
 end
def uptoSmall : (H : Type) → List (DataW H) → Bool := fun _ ds => decide (uptoBulkAll ds ≤ 1048576)
def OpenSpec.upto (s : _root_.Go.ChangeSpec) : _root_.Go.OpenSpec := { _root_.Go.OpenSpec.ofChange s with cond := some uptoSmall }

/-- 'pushkeep.CfgMirror', WHERE WHAT IT READS IS OF BULK AT MOST 1048576: true; the input reads as it did. -/
def cfgMirrorUptoRow : OpenClaim := { program := "ytnicebdkejkieaa", sum := "231520e801d20484feace45453f6de9666b7bb515c4f05d3a8cecc14581531a5", func := "pushmill/pushkeep.CfgMirror", spec := "cfgMirror", unfollowed := true, recurses := true, plainKeys := false, apart := false, narrowed := true }
def CfgMirrorUptoSaid : Prop := cfgMirrorUptoRow.holds Try.pinned (OpenSpec.upto cfgMirrorSpec)

/-- 'pushkeep.CountMore', WHERE WHAT IT READS IS OF BULK AT MOST 1048576: true; the input reads as it did. -/
def countMoreUptoRow : OpenClaim := { program := "ytnicebdkejkieaa", sum := "231520e801d20484feace45453f6de9666b7bb515c4f05d3a8cecc14581531a5", func := "pushmill/pushkeep.CountMore", spec := "countMore", unfollowed := true, recurses := true, plainKeys := false, apart := false, narrowed := true }
def CountMoreUptoSaid : Prop := countMoreUptoRow.holds Try.pinned (OpenSpec.upto countMoreSpec)

/-- 'pushkeep.TreesMirror', WHERE WHAT IT READS IS OF BULK AT MOST 1048576: true; the input reads as it did. -/
def treesMirrorUptoRow : OpenClaim := { program := "ytnicebdkejkieaa", sum := "231520e801d20484feace45453f6de9666b7bb515c4f05d3a8cecc14581531a5", func := "pushmill/pushkeep.TreesMirror", spec := "treesMirror", unfollowed := true, recurses := true, loops := true, plainKeys := false, apart := false, narrowed := true }
def TreesMirrorUptoSaid : Prop := treesMirrorUptoRow.holds Try.pinned (OpenSpec.upto treesMirrorSpec)

/-- 'pushkeep.FactsBody', WHERE WHAT IT READS IS OF BULK AT MOST 1048576: true; the input reads as it did. -/
def factsBodyUptoRow : OpenClaim := { program := "ytnicebdkejkieaa", sum := "231520e801d20484feace45453f6de9666b7bb515c4f05d3a8cecc14581531a5", func := "pushmill/pushkeep.FactsBody", spec := "factsBody", unfollowed := true, recurses := true, plainKeys := false, apart := false, narrowed := true }
def FactsBodyUptoSaid : Prop := factsBodyUptoRow.holds Try.pinned (OpenSpec.upto factsBodySpec)

/-- 'pushkeep.CountMirror', WHERE WHAT IT READS IS OF BULK AT MOST 1048576: true; the input reads as it did. -/
def countMirrorUptoRow : OpenClaim := { program := "ytnicebdkejkieaa", sum := "231520e801d20484feace45453f6de9666b7bb515c4f05d3a8cecc14581531a5", func := "pushmill/pushkeep.CountMirror", spec := "countMirror", unfollowed := true, recurses := true, plainKeys := false, apart := false, narrowed := true }
def CountMirrorUptoSaid : Prop := countMirrorUptoRow.holds Try.pinned (OpenSpec.upto countMirrorSpec)

/-- 'pushkeep.TreesWord', WHERE WHAT IT READS IS OF BULK AT MOST 1048576: true; the input reads as it did. -/
def treesWordUptoRow : OpenClaim := { program := "ytnicebdkejkieaa", sum := "231520e801d20484feace45453f6de9666b7bb515c4f05d3a8cecc14581531a5", func := "pushmill/pushkeep.TreesWord", spec := "treesWord", unfollowed := true, recurses := true, loops := true, plainKeys := false, apart := false, narrowed := true }
def TreesWordUptoSaid : Prop := treesWordUptoRow.holds Try.pinned (OpenSpec.upto treesWordSpec)

/-- 'pushkeep.FactsTree', WHERE WHAT IT READS IS OF BULK AT MOST 1048576: true; the input reads as it did. -/
def factsTreeUptoRow : OpenClaim := { program := "ytnicebdkejkieaa", sum := "231520e801d20484feace45453f6de9666b7bb515c4f05d3a8cecc14581531a5", func := "pushmill/pushkeep.FactsTree", spec := "factsTree", unfollowed := true, recurses := true, loops := true, plainKeys := false, apart := false, narrowed := true }
def FactsTreeUptoSaid : Prop := factsTreeUptoRow.holds Try.pinned (OpenSpec.upto factsTreeSpec)

/-- 'pushkeep.TreesBack', WHERE WHAT IT READS IS OF BULK AT MOST 1048576: true; the input reads as it did. -/
def treesBackUptoRow : OpenClaim := { program := "ytnicebdkejkieaa", sum := "231520e801d20484feace45453f6de9666b7bb515c4f05d3a8cecc14581531a5", func := "pushmill/pushkeep.TreesBack", spec := "treesBack", unfollowed := true, recurses := true, loops := true, plainKeys := false, apart := false, narrowed := true }
def TreesBackUptoSaid : Prop := treesBackUptoRow.holds Try.pinned (OpenSpec.upto treesBackSpec)

/-- 'pushkeep.TreesAgain', WHERE WHAT IT READS IS OF BULK AT MOST 1048576: true; the input reads as it did. -/
def treesAgainUptoRow : OpenClaim := { program := "ytnicebdkejkieaa", sum := "231520e801d20484feace45453f6de9666b7bb515c4f05d3a8cecc14581531a5", func := "pushmill/pushkeep.TreesAgain", spec := "treesAgain", unfollowed := true, recurses := true, plainKeys := false, apart := false, narrowed := true }
def TreesAgainUptoSaid : Prop := treesAgainUptoRow.holds Try.pinned (OpenSpec.upto treesAgainSpec)

/-- 'pushkeep.TreesOwn', WHERE WHAT IT READS IS OF BULK AT MOST 1048576: true; the input reads as it did. -/
def treesOwnUptoRow : OpenClaim := { program := "ytnicebdkejkieaa", sum := "231520e801d20484feace45453f6de9666b7bb515c4f05d3a8cecc14581531a5", func := "pushmill/pushkeep.TreesOwn", spec := "treesOwn", unfollowed := true, recurses := true, loops := true, plainKeys := false, apart := false, narrowed := true }
def TreesOwnUptoSaid : Prop := treesOwnUptoRow.holds Try.pinned (OpenSpec.upto treesOwnSpec)

/-- 'pushkeep.CountOnly', WHERE WHAT IT READS IS OF BULK AT MOST 1048576: true; the input reads as it did. -/
def countOnlyUptoRow : OpenClaim := { program := "ytnicebdkejkieaa", sum := "231520e801d20484feace45453f6de9666b7bb515c4f05d3a8cecc14581531a5", func := "pushmill/pushkeep.CountOnly", spec := "countOnly", unfollowed := true, recurses := true, plainKeys := false, apart := false, narrowed := true }
def CountOnlyUptoSaid : Prop := countOnlyUptoRow.holds Try.pinned (OpenSpec.upto countOnlySpec)

/-- 'pushkeep.LlTree', WHERE WHAT IT READS IS OF BULK AT MOST 1048576: true; the input reads as it did. -/
def llTreeUptoRow : OpenClaim := { program := "ytnicebdkejkieaa", sum := "231520e801d20484feace45453f6de9666b7bb515c4f05d3a8cecc14581531a5", func := "pushmill/pushkeep.LlTree", spec := "llTree", unfollowed := true, recurses := true, loops := true, plainKeys := false, apart := false, narrowed := true }
def LlTreeUptoSaid : Prop := llTreeUptoRow.holds Try.pinned (OpenSpec.upto llTreeSpec)

/-- 'pushkeep.FactsWord', WHERE WHAT IT READS IS OF BULK AT MOST 1048576: true; the input reads as it did. -/
def factsWordUptoRow : OpenClaim := { program := "ytnicebdkejkieaa", sum := "231520e801d20484feace45453f6de9666b7bb515c4f05d3a8cecc14581531a5", func := "pushmill/pushkeep.FactsWord", spec := "factsWord", unfollowed := true, recurses := true, plainKeys := false, apart := false, narrowed := true }
def FactsWordUptoSaid : Prop := factsWordUptoRow.holds Try.pinned (OpenSpec.upto factsWordSpec)

/-- 'pushkeep.LlOne', WHERE WHAT IT READS IS OF BULK AT MOST 1048576: true; the input reads as it did. -/
def llOneUptoRow : OpenClaim := { program := "ytnicebdkejkieaa", sum := "231520e801d20484feace45453f6de9666b7bb515c4f05d3a8cecc14581531a5", func := "pushmill/pushkeep.LlOne", spec := "llOne", unfollowed := true, recurses := true, plainKeys := false, apart := false, narrowed := true }
def LlOneUptoSaid : Prop := llOneUptoRow.holds Try.pinned (OpenSpec.upto llOneSpec)

/-- 'pushkeep.CountBegins', WHERE WHAT IT READS IS OF BULK AT MOST 1048576: true; the input reads as it did. -/
def countBeginsUptoRow : OpenClaim := { program := "ytnicebdkejkieaa", sum := "231520e801d20484feace45453f6de9666b7bb515c4f05d3a8cecc14581531a5", func := "pushmill/pushkeep.CountBegins", spec := "countBegins", unfollowed := true, recurses := true, plainKeys := false, apart := false, narrowed := true }
def CountBeginsUptoSaid : Prop := countBeginsUptoRow.holds Try.pinned (OpenSpec.upto countBeginsSpec)

end Rows
end Go.Proofs.Ytnicebdkejkieaa
