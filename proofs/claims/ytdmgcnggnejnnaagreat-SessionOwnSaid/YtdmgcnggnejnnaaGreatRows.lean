/-
  NARROWER THAN 'FOR EVERY INPUT', by the rows' own cells (each row's printed sentence says how): WholeFront: loops · WholePlace: loops · WholeTree: loops · SessionSteps: loops · SessionCredit: loops · SessionOwn: loops · SessionOnce: loops · SessionWhole: loops · SessionFront: loops.
  DERIVED. THE GIVEN ROWS OF THIS SEAT. 9 by the template 'for every input the law returns true; each argument reads behind the call as it read before'; 0 by the template 'total and deterministic' (their statements: YtdmgcnggnejnnaaGreatTotals.lean).
  GIVEN WITH THE SEED: the statements are not yours to turn. If you find one false, say at which input.
  Laid BY PROGRAM, IN A SANDBOX (cutbox-rows.mjs): the forced cells as the released guide's own fill.sh prints them over the translation 8747ccd102c92a2f… (all of the seat's roots in one cut). By AI agents, Wed Nov 11 2026. No macro, syntax, notation, axiom, sorry.
-/
import Derived.Test.YtdmgcnggnejnnaaGreatChecked
import GoSem.Claim
import GoSem.ClaimJoined
import GoSem.ClaimMapViews
import Derived.JoinedTies
import Derived.KernelRfl
namespace Go.Proofs.YtdmgcnggnejnnaaGreat
/- THE CELL 'sum', in the pinned program and in every row, IS THE sha256 OF THE DUMP (.gsa) THAT YtdmgcnggnejnnaaGreatProg.lean LOADS. Nothing in Lean hashes anything: it is a label: what it is worth is what the hold of that sum in a sandbox is worth. -/
noncomputable def Tryz.pinned : Pinned := { name := "ytdmgcnggnejnnaagreat", sum := "8747ccd102c92a2f3e0c1f816a937b04892b40747dc28406a73f97e184538c76", checked := Tryz.checked }
namespace Rows
def none {H : Type} : Left H := { results := [], args := [] }

/-- 'pushkeep.WholeFront': WHATEVER THE INPUT: true; the input reads as it did. -/
def wholeFrontSpec : ChangeSpec := { name := "wholeFront", fn := fun _ => fun
  | [d1, d2, d3] => { results := [.lit (.bool true)], args := [d1, d2, d3] }
  | _ => none }
def wholeFrontRow : OpenClaim := { program := "ytdmgcnggnejnnaagreat", sum := "8747ccd102c92a2f3e0c1f816a937b04892b40747dc28406a73f97e184538c76", func := "pushmill/pushkeep.WholeFront", spec := "wholeFront", unfollowed := true, recurses := true, loops := true, plainKeys := false, apart := false }
def WholeFrontSaid : Prop := wholeFrontRow.holds Tryz.pinned (OpenSpec.ofChange wholeFrontSpec)

/-- ITS FALSE NEIGHBOUR: 'it returns false'. Refute it at one input. -/
def wholeFrontWrong : ChangeSpec := { name := "wholeFront", fn := fun _ => fun
  | [d1, d2, d3] => { results := [.lit (.bool false)], args := [d1, d2, d3] }
  | _ => none }
def WholeFrontWrongFalsely : Prop := wholeFrontRow.holds Tryz.pinned (OpenSpec.ofChange wholeFrontWrong)

/-- 'pushkeep.WholePlace': WHATEVER THE INPUT: true; the input reads as it did. -/
def wholePlaceSpec : ChangeSpec := { name := "wholePlace", fn := fun _ => fun
  | [d1, d2] => { results := [.lit (.bool true)], args := [d1, d2] }
  | _ => none }
def wholePlaceRow : OpenClaim := { program := "ytdmgcnggnejnnaagreat", sum := "8747ccd102c92a2f3e0c1f816a937b04892b40747dc28406a73f97e184538c76", func := "pushmill/pushkeep.WholePlace", spec := "wholePlace", unfollowed := true, recurses := true, loops := true, plainKeys := false, apart := false }
def WholePlaceSaid : Prop := wholePlaceRow.holds Tryz.pinned (OpenSpec.ofChange wholePlaceSpec)

/-- ITS FALSE NEIGHBOUR: 'it returns false'. Refute it at one input. -/
def wholePlaceWrong : ChangeSpec := { name := "wholePlace", fn := fun _ => fun
  | [d1, d2] => { results := [.lit (.bool false)], args := [d1, d2] }
  | _ => none }
def WholePlaceWrongFalsely : Prop := wholePlaceRow.holds Tryz.pinned (OpenSpec.ofChange wholePlaceWrong)

/-- 'pushkeep.WholeTree': WHATEVER THE INPUT: true; the input reads as it did. -/
def wholeTreeSpec : ChangeSpec := { name := "wholeTree", fn := fun _ => fun
  | [d1, d2] => { results := [.lit (.bool true)], args := [d1, d2] }
  | _ => none }
def wholeTreeRow : OpenClaim := { program := "ytdmgcnggnejnnaagreat", sum := "8747ccd102c92a2f3e0c1f816a937b04892b40747dc28406a73f97e184538c76", func := "pushmill/pushkeep.WholeTree", spec := "wholeTree", unfollowed := true, recurses := true, loops := true, plainKeys := false, apart := false }
def WholeTreeSaid : Prop := wholeTreeRow.holds Tryz.pinned (OpenSpec.ofChange wholeTreeSpec)

/-- ITS FALSE NEIGHBOUR: 'it returns false'. Refute it at one input. -/
def wholeTreeWrong : ChangeSpec := { name := "wholeTree", fn := fun _ => fun
  | [d1, d2] => { results := [.lit (.bool false)], args := [d1, d2] }
  | _ => none }
def WholeTreeWrongFalsely : Prop := wholeTreeRow.holds Tryz.pinned (OpenSpec.ofChange wholeTreeWrong)

/-- 'pushkeep.SessionSteps': WHATEVER THE INPUT: true; the input reads as it did. -/
def sessionStepsSpec : ChangeSpec := { name := "sessionSteps", fn := fun _ => fun
  | [d1, d2] => { results := [.lit (.bool true)], args := [d1, d2] }
  | _ => none }
def sessionStepsRow : OpenClaim := { program := "ytdmgcnggnejnnaagreat", sum := "8747ccd102c92a2f3e0c1f816a937b04892b40747dc28406a73f97e184538c76", func := "pushmill/pushkeep.SessionSteps", spec := "sessionSteps", unfollowed := true, recurses := true, loops := true, plainKeys := false, apart := false }
def SessionStepsSaid : Prop := sessionStepsRow.holds Tryz.pinned (OpenSpec.ofChange sessionStepsSpec)

/-- ITS FALSE NEIGHBOUR: 'it returns false'. Refute it at one input. -/
def sessionStepsWrong : ChangeSpec := { name := "sessionSteps", fn := fun _ => fun
  | [d1, d2] => { results := [.lit (.bool false)], args := [d1, d2] }
  | _ => none }
def SessionStepsWrongFalsely : Prop := sessionStepsRow.holds Tryz.pinned (OpenSpec.ofChange sessionStepsWrong)

/-- 'pushkeep.SessionCredit': WHATEVER THE INPUT: true; the input reads as it did. -/
def sessionCreditSpec : ChangeSpec := { name := "sessionCredit", fn := fun _ => fun
  | [d1, d2] => { results := [.lit (.bool true)], args := [d1, d2] }
  | _ => none }
def sessionCreditRow : OpenClaim := { program := "ytdmgcnggnejnnaagreat", sum := "8747ccd102c92a2f3e0c1f816a937b04892b40747dc28406a73f97e184538c76", func := "pushmill/pushkeep.SessionCredit", spec := "sessionCredit", unfollowed := true, recurses := true, loops := true, plainKeys := false, apart := false }
def SessionCreditSaid : Prop := sessionCreditRow.holds Tryz.pinned (OpenSpec.ofChange sessionCreditSpec)

/-- ITS FALSE NEIGHBOUR: 'it returns false'. Refute it at one input. -/
def sessionCreditWrong : ChangeSpec := { name := "sessionCredit", fn := fun _ => fun
  | [d1, d2] => { results := [.lit (.bool false)], args := [d1, d2] }
  | _ => none }
def SessionCreditWrongFalsely : Prop := sessionCreditRow.holds Tryz.pinned (OpenSpec.ofChange sessionCreditWrong)

/-- 'pushkeep.SessionOwn': WHATEVER THE INPUT: true; the input reads as it did. -/
def sessionOwnSpec : ChangeSpec := { name := "sessionOwn", fn := fun _ => fun
  | [d1, d2] => { results := [.lit (.bool true)], args := [d1, d2] }
  | _ => none }
def sessionOwnRow : OpenClaim := { program := "ytdmgcnggnejnnaagreat", sum := "8747ccd102c92a2f3e0c1f816a937b04892b40747dc28406a73f97e184538c76", func := "pushmill/pushkeep.SessionOwn", spec := "sessionOwn", unfollowed := true, recurses := true, loops := true, plainKeys := false, apart := false }
def SessionOwnSaid : Prop := sessionOwnRow.holds Tryz.pinned (OpenSpec.ofChange sessionOwnSpec)

/-- ITS FALSE NEIGHBOUR: 'it returns false'. Refute it at one input. -/
def sessionOwnWrong : ChangeSpec := { name := "sessionOwn", fn := fun _ => fun
  | [d1, d2] => { results := [.lit (.bool false)], args := [d1, d2] }
  | _ => none }
def SessionOwnWrongFalsely : Prop := sessionOwnRow.holds Tryz.pinned (OpenSpec.ofChange sessionOwnWrong)

/-- 'pushkeep.SessionOnce': WHATEVER THE INPUT: true; the input reads as it did. -/
def sessionOnceSpec : ChangeSpec := { name := "sessionOnce", fn := fun _ => fun
  | [d1, d2] => { results := [.lit (.bool true)], args := [d1, d2] }
  | _ => none }
def sessionOnceRow : OpenClaim := { program := "ytdmgcnggnejnnaagreat", sum := "8747ccd102c92a2f3e0c1f816a937b04892b40747dc28406a73f97e184538c76", func := "pushmill/pushkeep.SessionOnce", spec := "sessionOnce", unfollowed := true, recurses := true, loops := true, plainKeys := false, apart := false }
def SessionOnceSaid : Prop := sessionOnceRow.holds Tryz.pinned (OpenSpec.ofChange sessionOnceSpec)

/-- ITS FALSE NEIGHBOUR: 'it returns false'. Refute it at one input. -/
def sessionOnceWrong : ChangeSpec := { name := "sessionOnce", fn := fun _ => fun
  | [d1, d2] => { results := [.lit (.bool false)], args := [d1, d2] }
  | _ => none }
def SessionOnceWrongFalsely : Prop := sessionOnceRow.holds Tryz.pinned (OpenSpec.ofChange sessionOnceWrong)

/-- 'pushkeep.SessionWhole': WHATEVER THE INPUT: true; the input reads as it did. -/
def sessionWholeSpec : ChangeSpec := { name := "sessionWhole", fn := fun _ => fun
  | [d1, d2, d3, d4] => { results := [.lit (.bool true)], args := [d1, d2, d3, d4] }
  | _ => none }
def sessionWholeRow : OpenClaim := { program := "ytdmgcnggnejnnaagreat", sum := "8747ccd102c92a2f3e0c1f816a937b04892b40747dc28406a73f97e184538c76", func := "pushmill/pushkeep.SessionWhole", spec := "sessionWhole", unfollowed := true, recurses := true, loops := true, plainKeys := false, apart := false }
def SessionWholeSaid : Prop := sessionWholeRow.holds Tryz.pinned (OpenSpec.ofChange sessionWholeSpec)

/-- ITS FALSE NEIGHBOUR: 'it returns false'. Refute it at one input. -/
def sessionWholeWrong : ChangeSpec := { name := "sessionWhole", fn := fun _ => fun
  | [d1, d2, d3, d4] => { results := [.lit (.bool false)], args := [d1, d2, d3, d4] }
  | _ => none }
def SessionWholeWrongFalsely : Prop := sessionWholeRow.holds Tryz.pinned (OpenSpec.ofChange sessionWholeWrong)

/-- 'pushkeep.SessionFront': WHATEVER THE INPUT: true; the input reads as it did. -/
def sessionFrontSpec : ChangeSpec := { name := "sessionFront", fn := fun _ => fun
  | [d1, d2, d3, d4] => { results := [.lit (.bool true)], args := [d1, d2, d3, d4] }
  | _ => none }
def sessionFrontRow : OpenClaim := { program := "ytdmgcnggnejnnaagreat", sum := "8747ccd102c92a2f3e0c1f816a937b04892b40747dc28406a73f97e184538c76", func := "pushmill/pushkeep.SessionFront", spec := "sessionFront", unfollowed := true, recurses := true, loops := true, plainKeys := false, apart := false }
def SessionFrontSaid : Prop := sessionFrontRow.holds Tryz.pinned (OpenSpec.ofChange sessionFrontSpec)

/-- ITS FALSE NEIGHBOUR: 'it returns false'. Refute it at one input. -/
def sessionFrontWrong : ChangeSpec := { name := "sessionFront", fn := fun _ => fun
  | [d1, d2, d3, d4] => { results := [.lit (.bool false)], args := [d1, d2, d3, d4] }
  | _ => none }
def SessionFrontWrongFalsely : Prop := sessionFrontRow.holds Tryz.pinned (OpenSpec.ofChange sessionFrontWrong)

/- THE SECOND FORM. 'bulk': how many values and letters a reading holds, each counted each time it is reached (what is shared counts as often as it is met; a slice's spare places count too). A statement '..UptoSaid' is the law's where the arguments, and the package variables that the reading takes, are together of bulk at most 1048576: NARROWER than '..Said'. Prove '..Said' where nothing that the law and all that it calls make is longer than what came in: it says more and counts as full. Else prove '..UptoSaid'. A law counts once. -/
mutual
def uptoBulk {H : Type} : DataW H → Nat
  | .lit (.string bytes) => bytes.length + 1
  | .lit _ => 1
  | .nil => 1
  | .ptr d => uptoBulk d + 1
  | .slice elems spare => uptoBulkAll elems + uptoBulkAll spare + 1
  | .agg parts => uptoBulkAll parts + 1
  | .iface _ d => uptoBulk d + 1
  | .map entries => uptoBulkEntries entries + 1
  | .held _ => 1
def uptoBulkAll {H : Type} : List (DataW H) → Nat
  | [] => 0
  | d :: r => uptoBulk d + uptoBulkAll r
def uptoBulkEntries {H : Type} : List (Lit × DataW H) → Nat
  | [] => 0
  | x :: r => uptoBulkEntry x + uptoBulkEntries r
def uptoBulkEntry {H : Type} : Lit × DataW H → Nat
  | (.string bytes, d) => bytes.length + uptoBulk d + 1
  | (_, d) => uptoBulk d + 1
 end
def uptoSmall : (H : Type) → List (DataW H) → Bool := fun _ ds => decide (uptoBulkAll ds ≤ 1048576)
def OpenSpec.upto (s : _root_.Go.ChangeSpec) : _root_.Go.OpenSpec := { _root_.Go.OpenSpec.ofChange s with cond := some uptoSmall }

/-- 'pushkeep.WholeFront', WHERE WHAT IT READS IS OF BULK AT MOST 1048576: true; the input reads as it did. -/
def wholeFrontUptoRow : OpenClaim := { program := "ytdmgcnggnejnnaagreat", sum := "8747ccd102c92a2f3e0c1f816a937b04892b40747dc28406a73f97e184538c76", func := "pushmill/pushkeep.WholeFront", spec := "wholeFront", unfollowed := true, recurses := true, loops := true, plainKeys := false, apart := false, narrowed := true }
def WholeFrontUptoSaid : Prop := wholeFrontUptoRow.holds Tryz.pinned (OpenSpec.upto wholeFrontSpec)

/-- 'pushkeep.WholePlace', WHERE WHAT IT READS IS OF BULK AT MOST 1048576: true; the input reads as it did. -/
def wholePlaceUptoRow : OpenClaim := { program := "ytdmgcnggnejnnaagreat", sum := "8747ccd102c92a2f3e0c1f816a937b04892b40747dc28406a73f97e184538c76", func := "pushmill/pushkeep.WholePlace", spec := "wholePlace", unfollowed := true, recurses := true, loops := true, plainKeys := false, apart := false, narrowed := true }
def WholePlaceUptoSaid : Prop := wholePlaceUptoRow.holds Tryz.pinned (OpenSpec.upto wholePlaceSpec)

/-- 'pushkeep.WholeTree', WHERE WHAT IT READS IS OF BULK AT MOST 1048576: true; the input reads as it did. -/
def wholeTreeUptoRow : OpenClaim := { program := "ytdmgcnggnejnnaagreat", sum := "8747ccd102c92a2f3e0c1f816a937b04892b40747dc28406a73f97e184538c76", func := "pushmill/pushkeep.WholeTree", spec := "wholeTree", unfollowed := true, recurses := true, loops := true, plainKeys := false, apart := false, narrowed := true }
def WholeTreeUptoSaid : Prop := wholeTreeUptoRow.holds Tryz.pinned (OpenSpec.upto wholeTreeSpec)

/-- 'pushkeep.SessionSteps', WHERE WHAT IT READS IS OF BULK AT MOST 1048576: true; the input reads as it did. -/
def sessionStepsUptoRow : OpenClaim := { program := "ytdmgcnggnejnnaagreat", sum := "8747ccd102c92a2f3e0c1f816a937b04892b40747dc28406a73f97e184538c76", func := "pushmill/pushkeep.SessionSteps", spec := "sessionSteps", unfollowed := true, recurses := true, loops := true, plainKeys := false, apart := false, narrowed := true }
def SessionStepsUptoSaid : Prop := sessionStepsUptoRow.holds Tryz.pinned (OpenSpec.upto sessionStepsSpec)

/-- 'pushkeep.SessionCredit', WHERE WHAT IT READS IS OF BULK AT MOST 1048576: true; the input reads as it did. -/
def sessionCreditUptoRow : OpenClaim := { program := "ytdmgcnggnejnnaagreat", sum := "8747ccd102c92a2f3e0c1f816a937b04892b40747dc28406a73f97e184538c76", func := "pushmill/pushkeep.SessionCredit", spec := "sessionCredit", unfollowed := true, recurses := true, loops := true, plainKeys := false, apart := false, narrowed := true }
def SessionCreditUptoSaid : Prop := sessionCreditUptoRow.holds Tryz.pinned (OpenSpec.upto sessionCreditSpec)

/-- 'pushkeep.SessionOwn', WHERE WHAT IT READS IS OF BULK AT MOST 1048576: true; the input reads as it did. -/
def sessionOwnUptoRow : OpenClaim := { program := "ytdmgcnggnejnnaagreat", sum := "8747ccd102c92a2f3e0c1f816a937b04892b40747dc28406a73f97e184538c76", func := "pushmill/pushkeep.SessionOwn", spec := "sessionOwn", unfollowed := true, recurses := true, loops := true, plainKeys := false, apart := false, narrowed := true }
def SessionOwnUptoSaid : Prop := sessionOwnUptoRow.holds Tryz.pinned (OpenSpec.upto sessionOwnSpec)

/-- 'pushkeep.SessionOnce', WHERE WHAT IT READS IS OF BULK AT MOST 1048576: true; the input reads as it did. -/
def sessionOnceUptoRow : OpenClaim := { program := "ytdmgcnggnejnnaagreat", sum := "8747ccd102c92a2f3e0c1f816a937b04892b40747dc28406a73f97e184538c76", func := "pushmill/pushkeep.SessionOnce", spec := "sessionOnce", unfollowed := true, recurses := true, loops := true, plainKeys := false, apart := false, narrowed := true }
def SessionOnceUptoSaid : Prop := sessionOnceUptoRow.holds Tryz.pinned (OpenSpec.upto sessionOnceSpec)

/-- 'pushkeep.SessionWhole', WHERE WHAT IT READS IS OF BULK AT MOST 1048576: true; the input reads as it did. -/
def sessionWholeUptoRow : OpenClaim := { program := "ytdmgcnggnejnnaagreat", sum := "8747ccd102c92a2f3e0c1f816a937b04892b40747dc28406a73f97e184538c76", func := "pushmill/pushkeep.SessionWhole", spec := "sessionWhole", unfollowed := true, recurses := true, loops := true, plainKeys := false, apart := false, narrowed := true }
def SessionWholeUptoSaid : Prop := sessionWholeUptoRow.holds Tryz.pinned (OpenSpec.upto sessionWholeSpec)

/-- 'pushkeep.SessionFront', WHERE WHAT IT READS IS OF BULK AT MOST 1048576: true; the input reads as it did. -/
def sessionFrontUptoRow : OpenClaim := { program := "ytdmgcnggnejnnaagreat", sum := "8747ccd102c92a2f3e0c1f816a937b04892b40747dc28406a73f97e184538c76", func := "pushmill/pushkeep.SessionFront", spec := "sessionFront", unfollowed := true, recurses := true, loops := true, plainKeys := false, apart := false, narrowed := true }
def SessionFrontUptoSaid : Prop := sessionFrontUptoRow.holds Tryz.pinned (OpenSpec.upto sessionFrontSpec)

end Rows
end Go.Proofs.YtdmgcnggnejnnaaGreat
