/-
  No cell of these rows narrows 'for every input' (looked for: loops, veiled, ifaces, maps, wideKeys, modest, calm, conditions, laid).
  DERIVED. THE GIVEN ROWS OF THIS SEAT. 6 by the template 'for every input the law returns true; each argument reads behind the call as it read before'; 0 by the template 'total and deterministic' (their statements: YtlojfbnimmdehaaTotals.lean).
  GIVEN WITH THE SEED: the statements are not yours to turn. If you find one false, say at which input.
  Laid BY PROGRAM, IN A SANDBOX (cutbox-rows.mjs): the forced cells as the released guide's own fill.sh prints them over the translation ca6a5631656501ad… (all of the seat's roots in one cut). By AI agents, Wed Nov 11 2026. No macro, syntax, notation, axiom, sorry.
-/
import Derived.Test.YtlojfbnimmdehaaChecked
import GoSem.Claim
import GoSem.ClaimJoined
import GoSem.ClaimMapViews
import Derived.JoinedTies
import Derived.KernelRfl
namespace Go.Proofs.Ytlojfbnimmdehaa
/- THE CELL 'sum', in the pinned program and in every row, IS THE sha256 OF THE DUMP (.gsa) THAT YtlojfbnimmdehaaProg.lean LOADS. Nothing in Lean hashes anything: it is a label: what it is worth is what the hold of that sum in a sandbox is worth. -/
noncomputable def Try.pinned : Pinned := { name := "ytlojfbnimmdehaa", sum := "ca6a5631656501ad2e2eaedb2a09bdb8ec913de5b6448705ebdb218441732ab9", checked := Try.checked }
namespace Rows
def none {H : Type} : Left H := { results := [], args := [] }

/-- 'pushkeep.LrOne': WHATEVER THE INPUT: true; the input reads as it did. -/
def lrOneSpec : ChangeSpec := { name := "lrOne", fn := fun _ => fun
  | [d1, d2] => { results := [.lit (.bool true)], args := [d1, d2] }
  | _ => none }
def lrOneRow : OpenClaim := { program := "ytlojfbnimmdehaa", sum := "ca6a5631656501ad2e2eaedb2a09bdb8ec913de5b6448705ebdb218441732ab9", func := "pushmill/pushkeep.LrOne", spec := "lrOne", unfollowed := true, recurses := true, plainKeys := false, apart := false }
def LrOneSaid : Prop := lrOneRow.holds Try.pinned (OpenSpec.ofChange lrOneSpec)

/-- ITS FALSE NEIGHBOUR: 'it returns false'. Refute it at one input. -/
def lrOneWrong : ChangeSpec := { name := "lrOne", fn := fun _ => fun
  | [d1, d2] => { results := [.lit (.bool false)], args := [d1, d2] }
  | _ => none }
def LrOneWrongFalsely : Prop := lrOneRow.holds Try.pinned (OpenSpec.ofChange lrOneWrong)

/-- 'pushkeep.LrAbove': WHATEVER THE INPUT: true; the input reads as it did. -/
def lrAboveSpec : ChangeSpec := { name := "lrAbove", fn := fun _ => fun
  | [d] => { results := [.lit (.bool true)], args := [d] }
  | _ => none }
def lrAboveRow : OpenClaim := { program := "ytlojfbnimmdehaa", sum := "ca6a5631656501ad2e2eaedb2a09bdb8ec913de5b6448705ebdb218441732ab9", func := "pushmill/pushkeep.LrAbove", spec := "lrAbove", unfollowed := true, recurses := true, plainKeys := false, apart := false }
def LrAboveSaid : Prop := lrAboveRow.holds Try.pinned (OpenSpec.ofChange lrAboveSpec)

/-- ITS FALSE NEIGHBOUR: 'it returns false'. Refute it at one input. -/
def lrAboveWrong : ChangeSpec := { name := "lrAbove", fn := fun _ => fun
  | [d] => { results := [.lit (.bool false)], args := [d] }
  | _ => none }
def LrAboveWrongFalsely : Prop := lrAboveRow.holds Try.pinned (OpenSpec.ofChange lrAboveWrong)

/-- 'pushkeep.GrammarOwn': WHATEVER THE INPUT: true; the input reads as it did. -/
def grammarOwnSpec : ChangeSpec := { name := "grammarOwn", fn := fun _ => fun
  | [d1, d2] => { results := [.lit (.bool true)], args := [d1, d2] }
  | _ => none }
def grammarOwnRow : OpenClaim := { program := "ytlojfbnimmdehaa", sum := "ca6a5631656501ad2e2eaedb2a09bdb8ec913de5b6448705ebdb218441732ab9", func := "pushmill/pushkeep.GrammarOwn", spec := "grammarOwn", unfollowed := true, recurses := true, plainKeys := false, apart := false }
def GrammarOwnSaid : Prop := grammarOwnRow.holds Try.pinned (OpenSpec.ofChange grammarOwnSpec)

/-- ITS FALSE NEIGHBOUR: 'it returns false'. Refute it at one input. -/
def grammarOwnWrong : ChangeSpec := { name := "grammarOwn", fn := fun _ => fun
  | [d1, d2] => { results := [.lit (.bool false)], args := [d1, d2] }
  | _ => none }
def GrammarOwnWrongFalsely : Prop := grammarOwnRow.holds Try.pinned (OpenSpec.ofChange grammarOwnWrong)

/-- 'pushkeep.BuildSoon': WHATEVER THE INPUT: true; the input reads as it did. -/
def buildSoonSpec : ChangeSpec := { name := "buildSoon", fn := fun _ => fun
  | [d1, d2] => { results := [.lit (.bool true)], args := [d1, d2] }
  | _ => none }
def buildSoonRow : OpenClaim := { program := "ytlojfbnimmdehaa", sum := "ca6a5631656501ad2e2eaedb2a09bdb8ec913de5b6448705ebdb218441732ab9", func := "pushmill/pushkeep.BuildSoon", spec := "buildSoon", unfollowed := true, recurses := true, plainKeys := false, apart := false }
def BuildSoonSaid : Prop := buildSoonRow.holds Try.pinned (OpenSpec.ofChange buildSoonSpec)

/-- ITS FALSE NEIGHBOUR: 'it returns false'. Refute it at one input. -/
def buildSoonWrong : ChangeSpec := { name := "buildSoon", fn := fun _ => fun
  | [d1, d2] => { results := [.lit (.bool false)], args := [d1, d2] }
  | _ => none }
def BuildSoonWrongFalsely : Prop := buildSoonRow.holds Try.pinned (OpenSpec.ofChange buildSoonWrong)

/-- 'pushkeep.BuildAlike': WHATEVER THE INPUT: true; the input reads as it did. -/
def buildAlikeSpec : ChangeSpec := { name := "buildAlike", fn := fun _ => fun
  | [d1, d2] => { results := [.lit (.bool true)], args := [d1, d2] }
  | _ => none }
def buildAlikeRow : OpenClaim := { program := "ytlojfbnimmdehaa", sum := "ca6a5631656501ad2e2eaedb2a09bdb8ec913de5b6448705ebdb218441732ab9", func := "pushmill/pushkeep.BuildAlike", spec := "buildAlike", unfollowed := true, recurses := true, plainKeys := false, apart := false }
def BuildAlikeSaid : Prop := buildAlikeRow.holds Try.pinned (OpenSpec.ofChange buildAlikeSpec)

/-- ITS FALSE NEIGHBOUR: 'it returns false'. Refute it at one input. -/
def buildAlikeWrong : ChangeSpec := { name := "buildAlike", fn := fun _ => fun
  | [d1, d2] => { results := [.lit (.bool false)], args := [d1, d2] }
  | _ => none }
def BuildAlikeWrongFalsely : Prop := buildAlikeRow.holds Try.pinned (OpenSpec.ofChange buildAlikeWrong)

/-- 'pushkeep.BuildParses': WHATEVER THE INPUT: true; the input reads as it did. -/
def buildParsesSpec : ChangeSpec := { name := "buildParses", fn := fun _ => fun
  | [d1, d2] => { results := [.lit (.bool true)], args := [d1, d2] }
  | _ => none }
def buildParsesRow : OpenClaim := { program := "ytlojfbnimmdehaa", sum := "ca6a5631656501ad2e2eaedb2a09bdb8ec913de5b6448705ebdb218441732ab9", func := "pushmill/pushkeep.BuildParses", spec := "buildParses", unfollowed := true, recurses := true, plainKeys := false, apart := false }
def BuildParsesSaid : Prop := buildParsesRow.holds Try.pinned (OpenSpec.ofChange buildParsesSpec)

/-- ITS FALSE NEIGHBOUR: 'it returns false'. Refute it at one input. -/
def buildParsesWrong : ChangeSpec := { name := "buildParses", fn := fun _ => fun
  | [d1, d2] => { results := [.lit (.bool false)], args := [d1, d2] }
  | _ => none }
def BuildParsesWrongFalsely : Prop := buildParsesRow.holds Try.pinned (OpenSpec.ofChange buildParsesWrong)

/- THE SECOND FORM. 'bulk': how many values and letters a reading holds, each counted each time it is reached (what is shared counts as often as it is met; a slice's spare places count too). A statement '..UptoSaid' is the law's where the arguments, and the package variables that the reading takes, are together of bulk at most 1048576: NARROWER than '..Said'. Prove '..Said' where nothing that the law and all that it calls make is longer than what came in: it says more and counts as full. Else prove '..UptoSaid'. A law counts once. -/
mutual
def uptoBulk {H : Type} : DataW H → Nat
  | .lit (.string bytes) => bytes.length + 1
  | .lit _ => 1
  | .nil => 1
  | .ptr d => uptoBulk d + 1
  | .slice elems spare => uptoBulkAll elems + uptoBulkAll spare + 1
  | .agg parts => uptoBulkAll parts + 1
  | .iface _ d => uptoBulk d + 1
  | .map entries => uptoBulkEntries entries + 1
  | .held _ => 1
def uptoBulkAll {H : Type} : List (DataW H) → Nat
  | [] => 0
  | d :: r => uptoBulk d + uptoBulkAll r
def uptoBulkEntries {H : Type} : List (Lit × DataW H) → Nat
  | [] => 0
  | x :: r => uptoBulkEntry x + uptoBulkEntries r
def uptoBulkEntry {H : Type} : Lit × DataW H → Nat
  | (.string bytes, d) => bytes.length + uptoBulk d + 1
  | (_, d) => uptoBulk d + 1
 end
def uptoSmall : (H : Type) → List (DataW H) → Bool := fun _ ds => decide (uptoBulkAll ds ≤ 1048576)
def OpenSpec.upto (s : _root_.Go.ChangeSpec) : _root_.Go.OpenSpec := { _root_.Go.OpenSpec.ofChange s with cond := some uptoSmall }

/-- 'pushkeep.LrOne', WHERE WHAT IT READS IS OF BULK AT MOST 1048576: true; the input reads as it did. -/
def lrOneUptoRow : OpenClaim := { program := "ytlojfbnimmdehaa", sum := "ca6a5631656501ad2e2eaedb2a09bdb8ec913de5b6448705ebdb218441732ab9", func := "pushmill/pushkeep.LrOne", spec := "lrOne", unfollowed := true, recurses := true, plainKeys := false, apart := false, narrowed := true }
def LrOneUptoSaid : Prop := lrOneUptoRow.holds Try.pinned (OpenSpec.upto lrOneSpec)

/-- 'pushkeep.LrAbove', WHERE WHAT IT READS IS OF BULK AT MOST 1048576: true; the input reads as it did. -/
def lrAboveUptoRow : OpenClaim := { program := "ytlojfbnimmdehaa", sum := "ca6a5631656501ad2e2eaedb2a09bdb8ec913de5b6448705ebdb218441732ab9", func := "pushmill/pushkeep.LrAbove", spec := "lrAbove", unfollowed := true, recurses := true, plainKeys := false, apart := false, narrowed := true }
def LrAboveUptoSaid : Prop := lrAboveUptoRow.holds Try.pinned (OpenSpec.upto lrAboveSpec)

/-- 'pushkeep.GrammarOwn', WHERE WHAT IT READS IS OF BULK AT MOST 1048576: true; the input reads as it did. -/
def grammarOwnUptoRow : OpenClaim := { program := "ytlojfbnimmdehaa", sum := "ca6a5631656501ad2e2eaedb2a09bdb8ec913de5b6448705ebdb218441732ab9", func := "pushmill/pushkeep.GrammarOwn", spec := "grammarOwn", unfollowed := true, recurses := true, plainKeys := false, apart := false, narrowed := true }
def GrammarOwnUptoSaid : Prop := grammarOwnUptoRow.holds Try.pinned (OpenSpec.upto grammarOwnSpec)

/-- 'pushkeep.BuildSoon', WHERE WHAT IT READS IS OF BULK AT MOST 1048576: true; the input reads as it did. -/
def buildSoonUptoRow : OpenClaim := { program := "ytlojfbnimmdehaa", sum := "ca6a5631656501ad2e2eaedb2a09bdb8ec913de5b6448705ebdb218441732ab9", func := "pushmill/pushkeep.BuildSoon", spec := "buildSoon", unfollowed := true, recurses := true, plainKeys := false, apart := false, narrowed := true }
def BuildSoonUptoSaid : Prop := buildSoonUptoRow.holds Try.pinned (OpenSpec.upto buildSoonSpec)

/-- 'pushkeep.BuildAlike', WHERE WHAT IT READS IS OF BULK AT MOST 1048576: true; the input reads as it did. -/
def buildAlikeUptoRow : OpenClaim := { program := "ytlojfbnimmdehaa", sum := "ca6a5631656501ad2e2eaedb2a09bdb8ec913de5b6448705ebdb218441732ab9", func := "pushmill/pushkeep.BuildAlike", spec := "buildAlike", unfollowed := true, recurses := true, plainKeys := false, apart := false, narrowed := true }
def BuildAlikeUptoSaid : Prop := buildAlikeUptoRow.holds Try.pinned (OpenSpec.upto buildAlikeSpec)

/-- 'pushkeep.BuildParses', WHERE WHAT IT READS IS OF BULK AT MOST 1048576: true; the input reads as it did. -/
def buildParsesUptoRow : OpenClaim := { program := "ytlojfbnimmdehaa", sum := "ca6a5631656501ad2e2eaedb2a09bdb8ec913de5b6448705ebdb218441732ab9", func := "pushmill/pushkeep.BuildParses", spec := "buildParses", unfollowed := true, recurses := true, plainKeys := false, apart := false, narrowed := true }
def BuildParsesUptoSaid : Prop := buildParsesUptoRow.holds Try.pinned (OpenSpec.upto buildParsesSpec)

end Rows
end Go.Proofs.Ytlojfbnimmdehaa
