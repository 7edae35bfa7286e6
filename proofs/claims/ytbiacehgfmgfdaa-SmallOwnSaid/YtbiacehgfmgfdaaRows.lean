/-
  No cell of these rows narrows 'for every input' (looked for: loops, veiled, ifaces, maps, wideKeys, modest, calm, conditions, laid).
  DERIVED. THE GIVEN ROWS OF THIS SEAT. 6 by the template 'for every input the law returns true; each argument reads behind the call as it read before'; 0 by the template 'total and deterministic' (their statements: YtbiacehgfmgfdaaTotals.lean).
  GIVEN WITH THE SEED: the statements are not yours to turn. If you find one false, say at which input.
  Laid BY PROGRAM, IN A SANDBOX (cutbox-rows.mjs): the forced cells as the released guide's own fill.sh prints them over the translation 4c0a171353a8590f… (all of the seat's roots in one cut). By AI agents, Wed Nov 11 2026. No macro, syntax, notation, axiom, sorry.
-/
import Derived.Test.YtbiacehgfmgfdaaChecked
import GoSem.Claim
import GoSem.ClaimJoined
import GoSem.ClaimMapViews
import Derived.JoinedTies
import Derived.KernelRfl
namespace Go.Proofs.Ytbiacehgfmgfdaa
/- THE CELL 'sum', in the pinned program and in every row, IS THE sha256 OF THE DUMP (.gsa) THAT YtbiacehgfmgfdaaProg.lean LOADS. Nothing in Lean hashes anything: it is a label: what it is worth is what the hold of that sum in a sandbox is worth. -/
noncomputable def Try.pinned : Pinned := { name := "ytbiacehgfmgfdaa", sum := "4c0a171353a8590f0bf81ef0f84d756e9a1603f184384edae71ba9325dbaa570", checked := Try.checked }
namespace Rows
def none {H : Type} : Left H := { results := [], args := [] }

/-- 'pushkeep.SmallTold': WHATEVER THE INPUT: true; the input reads as it did. -/
def smallToldSpec : ChangeSpec := { name := "smallTold", fn := fun _ => fun
  | [d1, d2] => { results := [.lit (.bool true)], args := [d1, d2] }
  | _ => none }
def smallToldRow : OpenClaim := { program := "ytbiacehgfmgfdaa", sum := "4c0a171353a8590f0bf81ef0f84d756e9a1603f184384edae71ba9325dbaa570", func := "pushmill/pushkeep.SmallTold", spec := "smallTold", plainKeys := false, apart := false }
def SmallToldSaid : Prop := smallToldRow.holds Try.pinned (OpenSpec.ofChange smallToldSpec)

/-- ITS FALSE NEIGHBOUR: 'it returns false'. Refute it at one input. -/
def smallToldWrong : ChangeSpec := { name := "smallTold", fn := fun _ => fun
  | [d1, d2] => { results := [.lit (.bool false)], args := [d1, d2] }
  | _ => none }
def SmallToldWrongFalsely : Prop := smallToldRow.holds Try.pinned (OpenSpec.ofChange smallToldWrong)

/-- 'pushkeep.SmallMeans': WHATEVER THE INPUT: true; the input reads as it did. -/
def smallMeansSpec : ChangeSpec := { name := "smallMeans", fn := fun _ => fun
  | [d1, d2] => { results := [.lit (.bool true)], args := [d1, d2] }
  | _ => none }
def smallMeansRow : OpenClaim := { program := "ytbiacehgfmgfdaa", sum := "4c0a171353a8590f0bf81ef0f84d756e9a1603f184384edae71ba9325dbaa570", func := "pushmill/pushkeep.SmallMeans", spec := "smallMeans", plainKeys := false, apart := false }
def SmallMeansSaid : Prop := smallMeansRow.holds Try.pinned (OpenSpec.ofChange smallMeansSpec)

/-- ITS FALSE NEIGHBOUR: 'it returns false'. Refute it at one input. -/
def smallMeansWrong : ChangeSpec := { name := "smallMeans", fn := fun _ => fun
  | [d1, d2] => { results := [.lit (.bool false)], args := [d1, d2] }
  | _ => none }
def SmallMeansWrongFalsely : Prop := smallMeansRow.holds Try.pinned (OpenSpec.ofChange smallMeansWrong)

/-- 'pushkeep.SmallLeast': WHATEVER THE INPUT: true; the input reads as it did. -/
def smallLeastSpec : ChangeSpec := { name := "smallLeast", fn := fun _ => fun
  | [d1, d2, d3] => { results := [.lit (.bool true)], args := [d1, d2, d3] }
  | _ => none }
def smallLeastRow : OpenClaim := { program := "ytbiacehgfmgfdaa", sum := "4c0a171353a8590f0bf81ef0f84d756e9a1603f184384edae71ba9325dbaa570", func := "pushmill/pushkeep.SmallLeast", spec := "smallLeast", plainKeys := false, apart := false }
def SmallLeastSaid : Prop := smallLeastRow.holds Try.pinned (OpenSpec.ofChange smallLeastSpec)

/-- ITS FALSE NEIGHBOUR: 'it returns false'. Refute it at one input. -/
def smallLeastWrong : ChangeSpec := { name := "smallLeast", fn := fun _ => fun
  | [d1, d2, d3] => { results := [.lit (.bool false)], args := [d1, d2, d3] }
  | _ => none }
def SmallLeastWrongFalsely : Prop := smallLeastRow.holds Try.pinned (OpenSpec.ofChange smallLeastWrong)

/-- 'pushkeep.SmallBack': WHATEVER THE INPUT: true; the input reads as it did. -/
def smallBackSpec : ChangeSpec := { name := "smallBack", fn := fun _ => fun
  | [d] => { results := [.lit (.bool true)], args := [d] }
  | _ => none }
def smallBackRow : OpenClaim := { program := "ytbiacehgfmgfdaa", sum := "4c0a171353a8590f0bf81ef0f84d756e9a1603f184384edae71ba9325dbaa570", func := "pushmill/pushkeep.SmallBack", spec := "smallBack", plainKeys := false, apart := false }
def SmallBackSaid : Prop := smallBackRow.holds Try.pinned (OpenSpec.ofChange smallBackSpec)

/-- ITS FALSE NEIGHBOUR: 'it returns false'. Refute it at one input. -/
def smallBackWrong : ChangeSpec := { name := "smallBack", fn := fun _ => fun
  | [d] => { results := [.lit (.bool false)], args := [d] }
  | _ => none }
def SmallBackWrongFalsely : Prop := smallBackRow.holds Try.pinned (OpenSpec.ofChange smallBackWrong)

/-- 'pushkeep.SmallOwn': WHATEVER THE INPUT: true; the input reads as it did. -/
def smallOwnSpec : ChangeSpec := { name := "smallOwn", fn := fun _ => fun
  | [d] => { results := [.lit (.bool true)], args := [d] }
  | _ => none }
def smallOwnRow : OpenClaim := { program := "ytbiacehgfmgfdaa", sum := "4c0a171353a8590f0bf81ef0f84d756e9a1603f184384edae71ba9325dbaa570", func := "pushmill/pushkeep.SmallOwn", spec := "smallOwn", plainKeys := false, apart := false }
def SmallOwnSaid : Prop := smallOwnRow.holds Try.pinned (OpenSpec.ofChange smallOwnSpec)

/-- ITS FALSE NEIGHBOUR: 'it returns false'. Refute it at one input. -/
def smallOwnWrong : ChangeSpec := { name := "smallOwn", fn := fun _ => fun
  | [d] => { results := [.lit (.bool false)], args := [d] }
  | _ => none }
def SmallOwnWrongFalsely : Prop := smallOwnRow.holds Try.pinned (OpenSpec.ofChange smallOwnWrong)

/-- 'pushkeep.SmallSame': WHATEVER THE INPUT: true; the input reads as it did. -/
def smallSameSpec : ChangeSpec := { name := "smallSame", fn := fun _ => fun
  | [d1, d2] => { results := [.lit (.bool true)], args := [d1, d2] }
  | _ => none }
def smallSameRow : OpenClaim := { program := "ytbiacehgfmgfdaa", sum := "4c0a171353a8590f0bf81ef0f84d756e9a1603f184384edae71ba9325dbaa570", func := "pushmill/pushkeep.SmallSame", spec := "smallSame", plainKeys := false, apart := false }
def SmallSameSaid : Prop := smallSameRow.holds Try.pinned (OpenSpec.ofChange smallSameSpec)

/-- ITS FALSE NEIGHBOUR: 'it returns false'. Refute it at one input. -/
def smallSameWrong : ChangeSpec := { name := "smallSame", fn := fun _ => fun
  | [d1, d2] => { results := [.lit (.bool false)], args := [d1, d2] }
  | _ => none }
def SmallSameWrongFalsely : Prop := smallSameRow.holds Try.pinned (OpenSpec.ofChange smallSameWrong)

/- THE SECOND FORM. 'bulk': how many values and letters a reading holds, each counted each time it is reached (what is shared counts as often as it is met; a slice's spare places count too). A statement '..UptoSaid' is the law's where the arguments, and the package variables that the reading takes, are together of bulk at most 1048576: NARROWER than '..Said'. Prove '..Said' where nothing that the law and all that it calls make is longer than what came in: it says more and counts as full. Else prove '..UptoSaid'. A law counts once. -/
mutual
def uptoBulk {H : Type} : DataW H → Nat
  | .lit (.string bytes) => bytes.length + 1
  | .lit _ => 1
  | .nil => 1
  | .ptr d => uptoBulk d + 1
  | .slice elems spare => uptoBulkAll elems + uptoBulkAll spare + 1
  | .agg parts => uptoBulkAll parts + 1
  | .iface _ d => uptoBulk d + 1
  | .map entries => uptoBulkEntries entries + 1
  | .held _ => 1
def uptoBulkAll {H : Type} : List (DataW H) → Nat
  | [] => 0
  | d :: r => uptoBulk d + uptoBulkAll r
def uptoBulkEntries {H : Type} : List (Lit × DataW H) → Nat
  | [] => 0
  | x :: r => uptoBulkEntry x + uptoBulkEntries r
def uptoBulkEntry {H : Type} : Lit × DataW H → Nat
  | (.string bytes, d) => bytes.length + uptoBulk d + 1
  | (_, d) => uptoBulk d + 1
 end
def uptoSmall : (H : Type) → List (DataW H) → Bool := fun _ ds => decide (uptoBulkAll ds ≤ 1048576)
def OpenSpec.upto (s : _root_.Go.ChangeSpec) : _root_.Go.OpenSpec := { _root_.Go.OpenSpec.ofChange s with cond := some uptoSmall }

/-- 'pushkeep.SmallTold', WHERE WHAT IT READS IS OF BULK AT MOST 1048576: true; the input reads as it did. -/
def smallToldUptoRow : OpenClaim := { program := "ytbiacehgfmgfdaa", sum := "4c0a171353a8590f0bf81ef0f84d756e9a1603f184384edae71ba9325dbaa570", func := "pushmill/pushkeep.SmallTold", spec := "smallTold", plainKeys := false, apart := false, narrowed := true }
def SmallToldUptoSaid : Prop := smallToldUptoRow.holds Try.pinned (OpenSpec.upto smallToldSpec)

/-- 'pushkeep.SmallMeans', WHERE WHAT IT READS IS OF BULK AT MOST 1048576: true; the input reads as it did. -/
def smallMeansUptoRow : OpenClaim := { program := "ytbiacehgfmgfdaa", sum := "4c0a171353a8590f0bf81ef0f84d756e9a1603f184384edae71ba9325dbaa570", func := "pushmill/pushkeep.SmallMeans", spec := "smallMeans", plainKeys := false, apart := false, narrowed := true }
def SmallMeansUptoSaid : Prop := smallMeansUptoRow.holds Try.pinned (OpenSpec.upto smallMeansSpec)

/-- 'pushkeep.SmallLeast', WHERE WHAT IT READS IS OF BULK AT MOST 1048576: true; the input reads as it did. -/
def smallLeastUptoRow : OpenClaim := { program := "ytbiacehgfmgfdaa", sum := "4c0a171353a8590f0bf81ef0f84d756e9a1603f184384edae71ba9325dbaa570", func := "pushmill/pushkeep.SmallLeast", spec := "smallLeast", plainKeys := false, apart := false, narrowed := true }
def SmallLeastUptoSaid : Prop := smallLeastUptoRow.holds Try.pinned (OpenSpec.upto smallLeastSpec)

/-- 'pushkeep.SmallBack', WHERE WHAT IT READS IS OF BULK AT MOST 1048576: true; the input reads as it did. -/
def smallBackUptoRow : OpenClaim := { program := "ytbiacehgfmgfdaa", sum := "4c0a171353a8590f0bf81ef0f84d756e9a1603f184384edae71ba9325dbaa570", func := "pushmill/pushkeep.SmallBack", spec := "smallBack", plainKeys := false, apart := false, narrowed := true }
def SmallBackUptoSaid : Prop := smallBackUptoRow.holds Try.pinned (OpenSpec.upto smallBackSpec)

/-- 'pushkeep.SmallOwn', WHERE WHAT IT READS IS OF BULK AT MOST 1048576: true; the input reads as it did. -/
def smallOwnUptoRow : OpenClaim := { program := "ytbiacehgfmgfdaa", sum := "4c0a171353a8590f0bf81ef0f84d756e9a1603f184384edae71ba9325dbaa570", func := "pushmill/pushkeep.SmallOwn", spec := "smallOwn", plainKeys := false, apart := false, narrowed := true }
def SmallOwnUptoSaid : Prop := smallOwnUptoRow.holds Try.pinned (OpenSpec.upto smallOwnSpec)

/-- 'pushkeep.SmallSame', WHERE WHAT IT READS IS OF BULK AT MOST 1048576: true; the input reads as it did. -/
def smallSameUptoRow : OpenClaim := { program := "ytbiacehgfmgfdaa", sum := "4c0a171353a8590f0bf81ef0f84d756e9a1603f184384edae71ba9325dbaa570", func := "pushmill/pushkeep.SmallSame", spec := "smallSame", plainKeys := false, apart := false, narrowed := true }
def SmallSameUptoSaid : Prop := smallSameUptoRow.holds Try.pinned (OpenSpec.upto smallSameSpec)

end Rows
end Go.Proofs.Ytbiacehgfmgfdaa
