/-
  No cell of these rows narrows 'for every input' (looked for: loops, veiled, ifaces, maps, wideKeys, modest, calm, conditions, laid).
  DERIVED. THE GIVEN ROWS OF THIS SEAT. 10 by the template 'for every input the law returns true; each argument reads behind the call as it read before'; 0 by the template 'total and deterministic' (their statements: YtnooleopmlijeaaTotals.lean).
  GIVEN WITH THE SEED: the statements are not yours to turn. If you find one false, say at which input.
  Laid BY PROGRAM, IN A SANDBOX (cutbox-rows.mjs): the forced cells as the released guide's own fill.sh prints them over the translation 990e45a4dbfa4069… (all of the seat's roots in one cut). By AI agents, Wed Nov 11 2026. No macro, syntax, notation, axiom, sorry.
-/
import Derived.Test.YtnooleopmlijeaaChecked
import GoSem.Claim
import GoSem.ClaimJoined
import GoSem.ClaimMapViews
import Derived.JoinedTies
import Derived.KernelRfl
namespace Go.Proofs.Ytnooleopmlijeaa
/- THE CELL 'sum', in the pinned program and in every row, IS THE sha256 OF THE DUMP (.gsa) THAT YtnooleopmlijeaaProg.lean LOADS. Nothing in Lean hashes anything: it is a label: what it is worth is what the hold of that sum in a sandbox is worth. -/
noncomputable def Try.pinned : Pinned := { name := "ytnooleopmlijeaa", sum := "990e45a4dbfa4069edd734f174f3be44a7854ac7df76450857396f173a0c6ce4", checked := Try.checked }
namespace Rows
def none {H : Type} : Left H := { results := [], args := [] }

/-- 'pushkeep.GateOnly': WHATEVER THE INPUT: true; the input reads as it did. -/
def gateOnlySpec : ChangeSpec := { name := "gateOnly", fn := fun _ => fun
  | [d] => { results := [.lit (.bool true)], args := [d] }
  | _ => none }
def gateOnlyRow : OpenClaim := { program := "ytnooleopmlijeaa", sum := "990e45a4dbfa4069edd734f174f3be44a7854ac7df76450857396f173a0c6ce4", func := "pushmill/pushkeep.GateOnly", spec := "gateOnly", unfollowed := true, recurses := true, plainKeys := false, apart := false }
def GateOnlySaid : Prop := gateOnlyRow.holds Try.pinned (OpenSpec.ofChange gateOnlySpec)

/-- ITS FALSE NEIGHBOUR: 'it returns false'. Refute it at one input. -/
def gateOnlyWrong : ChangeSpec := { name := "gateOnly", fn := fun _ => fun
  | [d] => { results := [.lit (.bool false)], args := [d] }
  | _ => none }
def GateOnlyWrongFalsely : Prop := gateOnlyRow.holds Try.pinned (OpenSpec.ofChange gateOnlyWrong)

/-- 'pushkeep.PackOne': WHATEVER THE INPUT: true; the input reads as it did. -/
def packOneSpec : ChangeSpec := { name := "packOne", fn := fun _ => fun
  | [d] => { results := [.lit (.bool true)], args := [d] }
  | _ => none }
def packOneRow : OpenClaim := { program := "ytnooleopmlijeaa", sum := "990e45a4dbfa4069edd734f174f3be44a7854ac7df76450857396f173a0c6ce4", func := "pushmill/pushkeep.PackOne", spec := "packOne", plainKeys := false, apart := false }
def PackOneSaid : Prop := packOneRow.holds Try.pinned (OpenSpec.ofChange packOneSpec)

/-- ITS FALSE NEIGHBOUR: 'it returns false'. Refute it at one input. -/
def packOneWrong : ChangeSpec := { name := "packOne", fn := fun _ => fun
  | [d] => { results := [.lit (.bool false)], args := [d] }
  | _ => none }
def PackOneWrongFalsely : Prop := packOneRow.holds Try.pinned (OpenSpec.ofChange packOneWrong)

/-- 'pushkeep.FrameBack': WHATEVER THE INPUT: true; the input reads as it did. -/
def frameBackSpec : ChangeSpec := { name := "frameBack", fn := fun _ => fun
  | [d1, d2] => { results := [.lit (.bool true)], args := [d1, d2] }
  | _ => none }
def frameBackRow : OpenClaim := { program := "ytnooleopmlijeaa", sum := "990e45a4dbfa4069edd734f174f3be44a7854ac7df76450857396f173a0c6ce4", func := "pushmill/pushkeep.FrameBack", spec := "frameBack", plainKeys := false, apart := false }
def FrameBackSaid : Prop := frameBackRow.holds Try.pinned (OpenSpec.ofChange frameBackSpec)

/-- ITS FALSE NEIGHBOUR: 'it returns false'. Refute it at one input. -/
def frameBackWrong : ChangeSpec := { name := "frameBack", fn := fun _ => fun
  | [d1, d2] => { results := [.lit (.bool false)], args := [d1, d2] }
  | _ => none }
def FrameBackWrongFalsely : Prop := frameBackRow.holds Try.pinned (OpenSpec.ofChange frameBackWrong)

/-- 'pushkeep.FrameTorn': WHATEVER THE INPUT: true; the input reads as it did. -/
def frameTornSpec : ChangeSpec := { name := "frameTorn", fn := fun _ => fun
  | [d1, d2] => { results := [.lit (.bool true)], args := [d1, d2] }
  | _ => none }
def frameTornRow : OpenClaim := { program := "ytnooleopmlijeaa", sum := "990e45a4dbfa4069edd734f174f3be44a7854ac7df76450857396f173a0c6ce4", func := "pushmill/pushkeep.FrameTorn", spec := "frameTorn", plainKeys := false, apart := false }
def FrameTornSaid : Prop := frameTornRow.holds Try.pinned (OpenSpec.ofChange frameTornSpec)

/-- ITS FALSE NEIGHBOUR: 'it returns false'. Refute it at one input. -/
def frameTornWrong : ChangeSpec := { name := "frameTorn", fn := fun _ => fun
  | [d1, d2] => { results := [.lit (.bool false)], args := [d1, d2] }
  | _ => none }
def FrameTornWrongFalsely : Prop := frameTornRow.holds Try.pinned (OpenSpec.ofChange frameTornWrong)

/-- 'pushkeep.GateBack': WHATEVER THE INPUT: true; the input reads as it did. -/
def gateBackSpec : ChangeSpec := { name := "gateBack", fn := fun _ => fun
  | [d1, d2] => { results := [.lit (.bool true)], args := [d1, d2] }
  | _ => none }
def gateBackRow : OpenClaim := { program := "ytnooleopmlijeaa", sum := "990e45a4dbfa4069edd734f174f3be44a7854ac7df76450857396f173a0c6ce4", func := "pushmill/pushkeep.GateBack", spec := "gateBack", unfollowed := true, recurses := true, plainKeys := false, apart := false }
def GateBackSaid : Prop := gateBackRow.holds Try.pinned (OpenSpec.ofChange gateBackSpec)

/-- ITS FALSE NEIGHBOUR: 'it returns false'. Refute it at one input. -/
def gateBackWrong : ChangeSpec := { name := "gateBack", fn := fun _ => fun
  | [d1, d2] => { results := [.lit (.bool false)], args := [d1, d2] }
  | _ => none }
def GateBackWrongFalsely : Prop := gateBackRow.holds Try.pinned (OpenSpec.ofChange gateBackWrong)

/-- 'pushkeep.GateOrder': WHATEVER THE INPUT: true; the input reads as it did. -/
def gateOrderSpec : ChangeSpec := { name := "gateOrder", fn := fun _ => fun
  | [d1, d2, d3] => { results := [.lit (.bool true)], args := [d1, d2, d3] }
  | _ => none }
def gateOrderRow : OpenClaim := { program := "ytnooleopmlijeaa", sum := "990e45a4dbfa4069edd734f174f3be44a7854ac7df76450857396f173a0c6ce4", func := "pushmill/pushkeep.GateOrder", spec := "gateOrder", unfollowed := true, recurses := true, plainKeys := false, apart := false }
def GateOrderSaid : Prop := gateOrderRow.holds Try.pinned (OpenSpec.ofChange gateOrderSpec)

/-- ITS FALSE NEIGHBOUR: 'it returns false'. Refute it at one input. -/
def gateOrderWrong : ChangeSpec := { name := "gateOrder", fn := fun _ => fun
  | [d1, d2, d3] => { results := [.lit (.bool false)], args := [d1, d2, d3] }
  | _ => none }
def GateOrderWrongFalsely : Prop := gateOrderRow.holds Try.pinned (OpenSpec.ofChange gateOrderWrong)

/-- 'pushkeep.GateOwn': WHATEVER THE INPUT: true; the input reads as it did. -/
def gateOwnSpec : ChangeSpec := { name := "gateOwn", fn := fun _ => fun
  | [d1, d2] => { results := [.lit (.bool true)], args := [d1, d2] }
  | _ => none }
def gateOwnRow : OpenClaim := { program := "ytnooleopmlijeaa", sum := "990e45a4dbfa4069edd734f174f3be44a7854ac7df76450857396f173a0c6ce4", func := "pushmill/pushkeep.GateOwn", spec := "gateOwn", unfollowed := true, recurses := true, plainKeys := false, apart := false }
def GateOwnSaid : Prop := gateOwnRow.holds Try.pinned (OpenSpec.ofChange gateOwnSpec)

/-- ITS FALSE NEIGHBOUR: 'it returns false'. Refute it at one input. -/
def gateOwnWrong : ChangeSpec := { name := "gateOwn", fn := fun _ => fun
  | [d1, d2] => { results := [.lit (.bool false)], args := [d1, d2] }
  | _ => none }
def GateOwnWrongFalsely : Prop := gateOwnRow.holds Try.pinned (OpenSpec.ofChange gateOwnWrong)

/-- 'pushkeep.CfgMirror': WHATEVER THE INPUT: true; the input reads as it did. -/
def cfgMirrorSpec : ChangeSpec := { name := "cfgMirror", fn := fun _ => fun
  | [d] => { results := [.lit (.bool true)], args := [d] }
  | _ => none }
def cfgMirrorRow : OpenClaim := { program := "ytnooleopmlijeaa", sum := "990e45a4dbfa4069edd734f174f3be44a7854ac7df76450857396f173a0c6ce4", func := "pushmill/pushkeep.CfgMirror", spec := "cfgMirror", unfollowed := true, recurses := true, plainKeys := false, apart := false }
def CfgMirrorSaid : Prop := cfgMirrorRow.holds Try.pinned (OpenSpec.ofChange cfgMirrorSpec)

/-- ITS FALSE NEIGHBOUR: 'it returns false'. Refute it at one input. -/
def cfgMirrorWrong : ChangeSpec := { name := "cfgMirror", fn := fun _ => fun
  | [d] => { results := [.lit (.bool false)], args := [d] }
  | _ => none }
def CfgMirrorWrongFalsely : Prop := cfgMirrorRow.holds Try.pinned (OpenSpec.ofChange cfgMirrorWrong)

/-- 'pushkeep.PackBack': WHATEVER THE INPUT: true; the input reads as it did. -/
def packBackSpec : ChangeSpec := { name := "packBack", fn := fun _ => fun
  | [d1, d2, d3, d4] => { results := [.lit (.bool true)], args := [d1, d2, d3, d4] }
  | _ => none }
def packBackRow : OpenClaim := { program := "ytnooleopmlijeaa", sum := "990e45a4dbfa4069edd734f174f3be44a7854ac7df76450857396f173a0c6ce4", func := "pushmill/pushkeep.PackBack", spec := "packBack", plainKeys := false, apart := false }
def PackBackSaid : Prop := packBackRow.holds Try.pinned (OpenSpec.ofChange packBackSpec)

/-- ITS FALSE NEIGHBOUR: 'it returns false'. Refute it at one input. -/
def packBackWrong : ChangeSpec := { name := "packBack", fn := fun _ => fun
  | [d1, d2, d3, d4] => { results := [.lit (.bool false)], args := [d1, d2, d3, d4] }
  | _ => none }
def PackBackWrongFalsely : Prop := packBackRow.holds Try.pinned (OpenSpec.ofChange packBackWrong)

/-- 'pushkeep.SmallTold': WHATEVER THE INPUT: true; the input reads as it did. -/
def smallToldSpec : ChangeSpec := { name := "smallTold", fn := fun _ => fun
  | [d1, d2] => { results := [.lit (.bool true)], args := [d1, d2] }
  | _ => none }
def smallToldRow : OpenClaim := { program := "ytnooleopmlijeaa", sum := "990e45a4dbfa4069edd734f174f3be44a7854ac7df76450857396f173a0c6ce4", func := "pushmill/pushkeep.SmallTold", spec := "smallTold", plainKeys := false, apart := false }
def SmallToldSaid : Prop := smallToldRow.holds Try.pinned (OpenSpec.ofChange smallToldSpec)

/-- ITS FALSE NEIGHBOUR: 'it returns false'. Refute it at one input. -/
def smallToldWrong : ChangeSpec := { name := "smallTold", fn := fun _ => fun
  | [d1, d2] => { results := [.lit (.bool false)], args := [d1, d2] }
  | _ => none }
def SmallToldWrongFalsely : Prop := smallToldRow.holds Try.pinned (OpenSpec.ofChange smallToldWrong)

/- THE SECOND FORM. 'bulk': how many values and letters a reading holds, each counted each time it is reached (what is shared counts as often as it is met; a slice's spare places count too). A statement '..UptoSaid' is the law's where the arguments, and the package variables that the reading takes, are together of bulk at most 1048576: NARROWER than '..Said'. Prove '..Said' where nothing that the law and all that it calls make is longer than what came in: it says more and counts as full. Else prove '..UptoSaid'. A law counts once. -/
mutual
def uptoBulk {H : Type} : DataW H → Nat
  | .lit (.string bytes) => bytes.length + 1
  | .lit _ => 1
  | .nil => 1
  | .ptr d => uptoBulk d + 1
  | .slice elems spare => uptoBulkAll elems + uptoBulkAll spare + 1
  | .agg parts => uptoBulkAll parts + 1
  | .iface _ d => uptoBulk d + 1
  | .map entries => uptoBulkEntries entries + 1
  | .held _ => 1
def uptoBulkAll {H : Type} : List (DataW H) → Nat
  | [] => 0
  | d :: r => uptoBulk d + uptoBulkAll r
def uptoBulkEntries {H : Type} : List (Lit × DataW H) → Nat
  | [] => 0
  | x :: r => uptoBulkEntry x + uptoBulkEntries r
def uptoBulkEntry {H : Type} : Lit × DataW H → Nat
  | (.string bytes, d) => bytes.length + uptoBulk d + 1
  | (_, d) => uptoBulk d + 1
 end
def uptoSmall : (H : Type) → List (DataW H) → Bool := fun _ ds => decide (uptoBulkAll ds ≤ 1048576)
def OpenSpec.upto (s : _root_.Go.ChangeSpec) : _root_.Go.OpenSpec := { _root_.Go.OpenSpec.ofChange s with cond := some uptoSmall }

/-- 'pushkeep.GateOnly', WHERE WHAT IT READS IS OF BULK AT MOST 1048576: true; the input reads as it did. -/
def gateOnlyUptoRow : OpenClaim := { program := "ytnooleopmlijeaa", sum := "990e45a4dbfa4069edd734f174f3be44a7854ac7df76450857396f173a0c6ce4", func := "pushmill/pushkeep.GateOnly", spec := "gateOnly", unfollowed := true, recurses := true, plainKeys := false, apart := false, narrowed := true }
def GateOnlyUptoSaid : Prop := gateOnlyUptoRow.holds Try.pinned (OpenSpec.upto gateOnlySpec)

/-- 'pushkeep.PackOne', WHERE WHAT IT READS IS OF BULK AT MOST 1048576: true; the input reads as it did. -/
def packOneUptoRow : OpenClaim := { program := "ytnooleopmlijeaa", sum := "990e45a4dbfa4069edd734f174f3be44a7854ac7df76450857396f173a0c6ce4", func := "pushmill/pushkeep.PackOne", spec := "packOne", plainKeys := false, apart := false, narrowed := true }
def PackOneUptoSaid : Prop := packOneUptoRow.holds Try.pinned (OpenSpec.upto packOneSpec)

/-- 'pushkeep.FrameBack', WHERE WHAT IT READS IS OF BULK AT MOST 1048576: true; the input reads as it did. -/
def frameBackUptoRow : OpenClaim := { program := "ytnooleopmlijeaa", sum := "990e45a4dbfa4069edd734f174f3be44a7854ac7df76450857396f173a0c6ce4", func := "pushmill/pushkeep.FrameBack", spec := "frameBack", plainKeys := false, apart := false, narrowed := true }
def FrameBackUptoSaid : Prop := frameBackUptoRow.holds Try.pinned (OpenSpec.upto frameBackSpec)

/-- 'pushkeep.FrameTorn', WHERE WHAT IT READS IS OF BULK AT MOST 1048576: true; the input reads as it did. -/
def frameTornUptoRow : OpenClaim := { program := "ytnooleopmlijeaa", sum := "990e45a4dbfa4069edd734f174f3be44a7854ac7df76450857396f173a0c6ce4", func := "pushmill/pushkeep.FrameTorn", spec := "frameTorn", plainKeys := false, apart := false, narrowed := true }
def FrameTornUptoSaid : Prop := frameTornUptoRow.holds Try.pinned (OpenSpec.upto frameTornSpec)

/-- 'pushkeep.GateBack', WHERE WHAT IT READS IS OF BULK AT MOST 1048576: true; the input reads as it did. -/
def gateBackUptoRow : OpenClaim := { program := "ytnooleopmlijeaa", sum := "990e45a4dbfa4069edd734f174f3be44a7854ac7df76450857396f173a0c6ce4", func := "pushmill/pushkeep.GateBack", spec := "gateBack", unfollowed := true, recurses := true, plainKeys := false, apart := false, narrowed := true }
def GateBackUptoSaid : Prop := gateBackUptoRow.holds Try.pinned (OpenSpec.upto gateBackSpec)

/-- 'pushkeep.GateOrder', WHERE WHAT IT READS IS OF BULK AT MOST 1048576: true; the input reads as it did. -/
def gateOrderUptoRow : OpenClaim := { program := "ytnooleopmlijeaa", sum := "990e45a4dbfa4069edd734f174f3be44a7854ac7df76450857396f173a0c6ce4", func := "pushmill/pushkeep.GateOrder", spec := "gateOrder", unfollowed := true, recurses := true, plainKeys := false, apart := false, narrowed := true }
def GateOrderUptoSaid : Prop := gateOrderUptoRow.holds Try.pinned (OpenSpec.upto gateOrderSpec)

/-- 'pushkeep.GateOwn', WHERE WHAT IT READS IS OF BULK AT MOST 1048576: true; the input reads as it did. -/
def gateOwnUptoRow : OpenClaim := { program := "ytnooleopmlijeaa", sum := "990e45a4dbfa4069edd734f174f3be44a7854ac7df76450857396f173a0c6ce4", func := "pushmill/pushkeep.GateOwn", spec := "gateOwn", unfollowed := true, recurses := true, plainKeys := false, apart := false, narrowed := true }
def GateOwnUptoSaid : Prop := gateOwnUptoRow.holds Try.pinned (OpenSpec.upto gateOwnSpec)

/-- 'pushkeep.CfgMirror', WHERE WHAT IT READS IS OF BULK AT MOST 1048576: true; the input reads as it did. -/
def cfgMirrorUptoRow : OpenClaim := { program := "ytnooleopmlijeaa", sum := "990e45a4dbfa4069edd734f174f3be44a7854ac7df76450857396f173a0c6ce4", func := "pushmill/pushkeep.CfgMirror", spec := "cfgMirror", unfollowed := true, recurses := true, plainKeys := false, apart := false, narrowed := true }
def CfgMirrorUptoSaid : Prop := cfgMirrorUptoRow.holds Try.pinned (OpenSpec.upto cfgMirrorSpec)

/-- 'pushkeep.PackBack', WHERE WHAT IT READS IS OF BULK AT MOST 1048576: true; the input reads as it did. -/
def packBackUptoRow : OpenClaim := { program := "ytnooleopmlijeaa", sum := "990e45a4dbfa4069edd734f174f3be44a7854ac7df76450857396f173a0c6ce4", func := "pushmill/pushkeep.PackBack", spec := "packBack", plainKeys := false, apart := false, narrowed := true }
def PackBackUptoSaid : Prop := packBackUptoRow.holds Try.pinned (OpenSpec.upto packBackSpec)

/-- 'pushkeep.SmallTold', WHERE WHAT IT READS IS OF BULK AT MOST 1048576: true; the input reads as it did. -/
def smallToldUptoRow : OpenClaim := { program := "ytnooleopmlijeaa", sum := "990e45a4dbfa4069edd734f174f3be44a7854ac7df76450857396f173a0c6ce4", func := "pushmill/pushkeep.SmallTold", spec := "smallTold", plainKeys := false, apart := false, narrowed := true }
def SmallToldUptoSaid : Prop := smallToldUptoRow.holds Try.pinned (OpenSpec.upto smallToldSpec)

end Rows
end Go.Proofs.Ytnooleopmlijeaa
