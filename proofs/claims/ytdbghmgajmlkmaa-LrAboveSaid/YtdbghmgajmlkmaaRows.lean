/-
  No cell of these rows narrows 'for every input' (looked for: loops, veiled, ifaces, maps, wideKeys, modest, calm, conditions, laid).
  DERIVED. THE GIVEN ROWS OF THIS SEAT. 2 by the template 'for every input the law returns true; each argument reads behind the call as it read before'; 0 by the template 'total and deterministic' (their statements: YtdbghmgajmlkmaaTotals.lean).
  GIVEN WITH THE SEED: the statements are not yours to turn. If you find one false, say at which input.
  Laid BY PROGRAM, IN A SANDBOX (cutbox-rows.mjs): the forced cells as the released guide's own fill.sh prints them over the translation 4398fe0deb3b3339… (all of the seat's roots in one cut). By AI agents, Wed Nov 11 2026. No macro, syntax, notation, axiom, sorry.
-/
import Derived.Test.YtdbghmgajmlkmaaChecked
import GoSem.Claim
import GoSem.ClaimJoined
import GoSem.ClaimMapViews
import Derived.JoinedTies
import Derived.KernelRfl
namespace Go.Proofs.Ytdbghmgajmlkmaa
/- THE CELL 'sum', in the pinned program and in every row, IS THE sha256 OF THE DUMP (.gsa) THAT YtdbghmgajmlkmaaProg.lean LOADS. Nothing in Lean hashes anything: it is a label: what it is worth is what the hold of that sum in a sandbox is worth. -/
noncomputable def Try.pinned : Pinned := { name := "ytdbghmgajmlkmaa", sum := "4398fe0deb3b33397d84068a307e522f41eb20db0d1a3576617039827f5ab448", checked := Try.checked }
namespace Rows
def none {H : Type} : Left H := { results := [], args := [] }

/-- 'pushkeep.LrAbove': WHATEVER THE INPUT: true; the input reads as it did. -/
def lrAboveSpec : ChangeSpec := { name := "lrAbove", fn := fun _ => fun
  | [d] => { results := [.lit (.bool true)], args := [d] }
  | _ => none }
def lrAboveRow : OpenClaim := { program := "ytdbghmgajmlkmaa", sum := "4398fe0deb3b33397d84068a307e522f41eb20db0d1a3576617039827f5ab448", func := "pushmill/pushkeep.LrAbove", spec := "lrAbove", unfollowed := true, recurses := true, plainKeys := false, apart := false }
def LrAboveSaid : Prop := lrAboveRow.holds Try.pinned (OpenSpec.ofChange lrAboveSpec)

/-- ITS FALSE NEIGHBOUR: 'it returns false'. Refute it at one input. -/
def lrAboveWrong : ChangeSpec := { name := "lrAbove", fn := fun _ => fun
  | [d] => { results := [.lit (.bool false)], args := [d] }
  | _ => none }
def LrAboveWrongFalsely : Prop := lrAboveRow.holds Try.pinned (OpenSpec.ofChange lrAboveWrong)

/-- 'pushkeep.LrOne': WHATEVER THE INPUT: true; the input reads as it did. -/
def lrOneSpec : ChangeSpec := { name := "lrOne", fn := fun _ => fun
  | [d1, d2] => { results := [.lit (.bool true)], args := [d1, d2] }
  | _ => none }
def lrOneRow : OpenClaim := { program := "ytdbghmgajmlkmaa", sum := "4398fe0deb3b33397d84068a307e522f41eb20db0d1a3576617039827f5ab448", func := "pushmill/pushkeep.LrOne", spec := "lrOne", unfollowed := true, recurses := true, plainKeys := false, apart := false }
def LrOneSaid : Prop := lrOneRow.holds Try.pinned (OpenSpec.ofChange lrOneSpec)

/-- ITS FALSE NEIGHBOUR: 'it returns false'. Refute it at one input. -/
def lrOneWrong : ChangeSpec := { name := "lrOne", fn := fun _ => fun
  | [d1, d2] => { results := [.lit (.bool false)], args := [d1, d2] }
  | _ => none }
def LrOneWrongFalsely : Prop := lrOneRow.holds Try.pinned (OpenSpec.ofChange lrOneWrong)

/- THE SECOND FORM. 'bulk': how many values and letters a reading holds, each counted each time it is reached (what is shared counts as often as it is met; a slice's spare places count too). A statement '..UptoSaid' is the law's where the arguments, and the package variables that the reading takes, are together of bulk at most 1048576: NARROWER than '..Said'. Prove '..Said' where nothing that the law and all that it calls make is longer than what came in: it says more and counts as full. Else prove '..UptoSaid'. A law counts once. -/
mutual
def uptoBulk {H : Type} : DataW H → Nat
  | .lit (.string bytes) => bytes.length + 1
  | .lit _ => 1
  | .nil => 1
  | .ptr d => uptoBulk d + 1
  | .slice elems spare => uptoBulkAll elems + uptoBulkAll spare + 1
  | .agg parts => uptoBulkAll parts + 1
  | .iface _ d => uptoBulk d + 1
  | .map entries => uptoBulkEntries entries + 1
  | .held _ => 1
def uptoBulkAll {H : Type} : List (DataW H) → Nat
  | [] => 0
  | d :: r => uptoBulk d + uptoBulkAll r
def uptoBulkEntries {H : Type} : List (Lit × DataW H) → Nat
  | [] => 0
  | x :: r => uptoBulkEntry x + uptoBulkEntries r
def uptoBulkEntry {H : Type} : Lit × DataW H → Nat
  | (.string bytes, d) => bytes.length + uptoBulk d + 1
  | (_, d) => uptoBulk d + 1
 end
def uptoSmall : (H : Type) → List (DataW H) → Bool := fun _ ds => decide (uptoBulkAll ds ≤ 1048576)
def OpenSpec.upto (s : _root_.Go.ChangeSpec) : _root_.Go.OpenSpec := { _root_.Go.OpenSpec.ofChange s with cond := some uptoSmall }

/-- 'pushkeep.LrAbove', WHERE WHAT IT READS IS OF BULK AT MOST 1048576: true; the input reads as it did. -/
def lrAboveUptoRow : OpenClaim := { program := "ytdbghmgajmlkmaa", sum := "4398fe0deb3b33397d84068a307e522f41eb20db0d1a3576617039827f5ab448", func := "pushmill/pushkeep.LrAbove", spec := "lrAbove", unfollowed := true, recurses := true, plainKeys := false, apart := false, narrowed := true }
def LrAboveUptoSaid : Prop := lrAboveUptoRow.holds Try.pinned (OpenSpec.upto lrAboveSpec)

/-- 'pushkeep.LrOne', WHERE WHAT IT READS IS OF BULK AT MOST 1048576: true; the input reads as it did. -/
def lrOneUptoRow : OpenClaim := { program := "ytdbghmgajmlkmaa", sum := "4398fe0deb3b33397d84068a307e522f41eb20db0d1a3576617039827f5ab448", func := "pushmill/pushkeep.LrOne", spec := "lrOne", unfollowed := true, recurses := true, plainKeys := false, apart := false, narrowed := true }
def LrOneUptoSaid : Prop := lrOneUptoRow.holds Try.pinned (OpenSpec.upto lrOneSpec)

end Rows
end Go.Proofs.Ytdbghmgajmlkmaa
