/-
  NARROWER THAN 'FOR EVERY INPUT', by the rows' own cells (each row's printed sentence says how): SessionWhole: loops · SessionFront: loops.
  DERIVED. THE GIVEN ROWS OF THIS SEAT. 2 by the template 'for every input the law returns true; each argument reads behind the call as it read before'; 0 by the template 'total and deterministic' (their statements: YthmakbpkkoeabaaGreatTotals.lean).
  GIVEN WITH THE SEED: the statements are not yours to turn. If you find one false, say at which input.
  Laid BY PROGRAM, IN A SANDBOX (cutbox-rows.mjs): the forced cells as the released guide's own fill.sh prints them over the translation 25e0f0e5e1cf5bff… (all of the seat's roots in one cut). By AI agents, Wed Nov 11 2026. No macro, syntax, notation, axiom, sorry.
-/
import Derived.Test.YthmakbpkkoeabaaGreatChecked
import GoSem.Claim
import GoSem.ClaimJoined
import GoSem.ClaimMapViews
import Derived.JoinedTies
import Derived.KernelRfl
namespace Go.Proofs.YthmakbpkkoeabaaGreat
/- THE CELL 'sum', in the pinned program and in every row, IS THE sha256 OF THE DUMP (.gsa) THAT YthmakbpkkoeabaaGreatProg.lean LOADS. Nothing in Lean hashes anything: it is a label: what it is worth is what the hold of that sum in a sandbox is worth. -/
noncomputable def Tryz.pinned : Pinned := { name := "ythmakbpkkoeabaagreat", sum := "25e0f0e5e1cf5bff2b36cacd2b3213b87770c3a3a4457c841c0acc118cf1d5c9", checked := Tryz.checked }
namespace Rows
def none {H : Type} : Left H := { results := [], args := [] }

/-- 'pushkeep.SessionWhole': WHATEVER THE INPUT: true; the input reads as it did. -/
def sessionWholeSpec : ChangeSpec := { name := "sessionWhole", fn := fun _ => fun
  | [d1, d2, d3, d4] => { results := [.lit (.bool true)], args := [d1, d2, d3, d4] }
  | _ => none }
def sessionWholeRow : OpenClaim := { program := "ythmakbpkkoeabaagreat", sum := "25e0f0e5e1cf5bff2b36cacd2b3213b87770c3a3a4457c841c0acc118cf1d5c9", func := "pushmill/pushkeep.SessionWhole", spec := "sessionWhole", unfollowed := true, recurses := true, loops := true, plainKeys := false, apart := false }
def SessionWholeSaid : Prop := sessionWholeRow.holds Tryz.pinned (OpenSpec.ofChange sessionWholeSpec)

/-- ITS FALSE NEIGHBOUR: 'it returns false'. Refute it at one input. -/
def sessionWholeWrong : ChangeSpec := { name := "sessionWhole", fn := fun _ => fun
  | [d1, d2, d3, d4] => { results := [.lit (.bool false)], args := [d1, d2, d3, d4] }
  | _ => none }
def SessionWholeWrongFalsely : Prop := sessionWholeRow.holds Tryz.pinned (OpenSpec.ofChange sessionWholeWrong)

/-- 'pushkeep.SessionFront': WHATEVER THE INPUT: true; the input reads as it did. -/
def sessionFrontSpec : ChangeSpec := { name := "sessionFront", fn := fun _ => fun
  | [d1, d2, d3, d4] => { results := [.lit (.bool true)], args := [d1, d2, d3, d4] }
  | _ => none }
def sessionFrontRow : OpenClaim := { program := "ythmakbpkkoeabaagreat", sum := "25e0f0e5e1cf5bff2b36cacd2b3213b87770c3a3a4457c841c0acc118cf1d5c9", func := "pushmill/pushkeep.SessionFront", spec := "sessionFront", unfollowed := true, recurses := true, loops := true, plainKeys := false, apart := false }
def SessionFrontSaid : Prop := sessionFrontRow.holds Tryz.pinned (OpenSpec.ofChange sessionFrontSpec)

/-- ITS FALSE NEIGHBOUR: 'it returns false'. Refute it at one input. -/
def sessionFrontWrong : ChangeSpec := { name := "sessionFront", fn := fun _ => fun
  | [d1, d2, d3, d4] => { results := [.lit (.bool false)], args := [d1, d2, d3, d4] }
  | _ => none }
def SessionFrontWrongFalsely : Prop := sessionFrontRow.holds Tryz.pinned (OpenSpec.ofChange sessionFrontWrong)

/- THE SECOND FORM. 'bulk': how many values and letters a reading holds, each counted each time it is reached (what is shared counts as often as it is met; a slice's spare places count too). A statement '..UptoSaid' is the law's where the arguments, and the package variables that the reading takes, are together of bulk at most 1048576: NARROWER than '..Said'. Prove '..Said' where nothing that the law and all that it calls make is longer than what came in: it says more and counts as full. Else prove '..UptoSaid'. A law counts once. -/
mutual
def uptoBulk {H : Type} : DataW H → Nat
  | .lit (.string bytes) => bytes.length + 1
  | .lit _ => 1
  | .nil => 1
  | .ptr d => uptoBulk d + 1
  | .slice elems spare => uptoBulkAll elems + uptoBulkAll spare + 1
  | .agg parts => uptoBulkAll parts + 1
  | .iface _ d => uptoBulk d + 1
  | .map entries => uptoBulkEntries entries + 1
  | .held _ => 1
def uptoBulkAll {H : Type} : List (DataW H) → Nat
  | [] => 0
  | d :: r => uptoBulk d + uptoBulkAll r
def uptoBulkEntries {H : Type} : List (Lit × DataW H) → Nat
  | [] => 0
  | x :: r => uptoBulkEntry x + uptoBulkEntries r
def uptoBulkEntry {H : Type} : Lit × DataW H → Nat
  | (.string bytes, d) => bytes.length + uptoBulk d + 1
  | (_, d) => uptoBulk d + 1
 end
def uptoSmall : (H : Type) → List (DataW H) → Bool := fun _ ds => decide (uptoBulkAll ds ≤ 1048576)
def OpenSpec.upto (s : _root_.Go.ChangeSpec) : _root_.Go.OpenSpec := { _root_.Go.OpenSpec.ofChange s with cond := some uptoSmall }

/-- 'pushkeep.SessionWhole', WHERE WHAT IT READS IS OF BULK AT MOST 1048576: true; the input reads as it did. -/
def sessionWholeUptoRow : OpenClaim := { program := "ythmakbpkkoeabaagreat", sum := "25e0f0e5e1cf5bff2b36cacd2b3213b87770c3a3a4457c841c0acc118cf1d5c9", func := "pushmill/pushkeep.SessionWhole", spec := "sessionWhole", unfollowed := true, recurses := true, loops := true, plainKeys := false, apart := false, narrowed := true }
def SessionWholeUptoSaid : Prop := sessionWholeUptoRow.holds Tryz.pinned (OpenSpec.upto sessionWholeSpec)

/-- 'pushkeep.SessionFront', WHERE WHAT IT READS IS OF BULK AT MOST 1048576: true; the input reads as it did. -/
def sessionFrontUptoRow : OpenClaim := { program := "ythmakbpkkoeabaagreat", sum := "25e0f0e5e1cf5bff2b36cacd2b3213b87770c3a3a4457c841c0acc118cf1d5c9", func := "pushmill/pushkeep.SessionFront", spec := "sessionFront", unfollowed := true, recurses := true, loops := true, plainKeys := false, apart := false, narrowed := true }
def SessionFrontUptoSaid : Prop := sessionFrontUptoRow.holds Tryz.pinned (OpenSpec.upto sessionFrontSpec)

end Rows
end Go.Proofs.YthmakbpkkoeabaaGreat
