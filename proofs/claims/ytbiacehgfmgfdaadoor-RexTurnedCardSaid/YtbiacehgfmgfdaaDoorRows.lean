/-
  NARROWER THAN 'FOR EVERY INPUT', by the rows' own cells (each row's printed sentence says how): ClassOwn: laid · ClassSizes: laid · ClassAtoms: laid · RexAlgebra: loops, laid · RexSplits: loops, laid · RexStars: loops, laid · RexTurned: loops, laid.
  DERIVED. THE GIVEN ROWS OF THIS SEAT. 7 by the template 'for every input the law returns true; each argument reads behind the call as it read before'; 0 by the template 'total and deterministic' (their statements: YtbiacehgfmgfdaaDoorTotals.lean).
  GIVEN WITH THE SEED: the statements are not yours to turn. If you find one false, say at which input.
  Laid BY PROGRAM, IN A SANDBOX (cutbox-rows.mjs): the forced cells as the released guide's own fill.sh prints them over the translation b18a21f7d4904817… (all of the seat's roots in one cut). By AI agents, Wed Nov 11 2026. No macro, syntax, notation, axiom, sorry.
-/
import Derived.Test.YtbiacehgfmgfdaaDoorChecked
import GoSem.Claim
import GoSem.ClaimJoined
import GoSem.ClaimMapViews
import Derived.JoinedTies
import Derived.KernelRfl
namespace Go.Proofs.YtbiacehgfmgfdaaDoor
/- THE CELL 'sum', in the pinned program and in every row, IS THE sha256 OF THE DUMP (.gsa) THAT YtbiacehgfmgfdaaDoorProg.lean LOADS. Nothing in Lean hashes anything: it is a label: what it is worth is what the hold of that sum in a sandbox is worth. -/
noncomputable def Tryd.pinned : Pinned := { name := "ytbiacehgfmgfdaadoor", sum := "b18a21f7d49048177d4af764f1dc47ea5b541dfb1ae3326b506196c2cb4d2940", checked := Tryd.checked }
namespace Rows
def none {H : Type} : Left H := { results := [], args := [] }

/- WHAT THE LISTED PACKAGE-LEVEL VARIABLES READ AS WHEN THE CALL BEGINS. Each datum BY PROGRAM (the guide's laid-datum.mjs) off the statement by which the dump's own 'gosem.cut.vars' lays the variable. In a bare row this is a premise. The card (YtbiacehgfmgfdaaDoorCards.lean) ties it to the program's text. -/
def laid_math_bits_deBruijn64tab {H : Type} : DataW H := .agg [.lit (.int .u8 0), .lit (.int .u8 1), .lit (.int .u8 56), .lit (.int .u8 2), .lit (.int .u8 57), .lit (.int .u8 49), .lit (.int .u8 28), .lit (.int .u8 3), .lit (.int .u8 61), .lit (.int .u8 58), .lit (.int .u8 42), .lit (.int .u8 50), .lit (.int .u8 38), .lit (.int .u8 29), .lit (.int .u8 17), .lit (.int .u8 4), .lit (.int .u8 62), .lit (.int .u8 47), .lit (.int .u8 59), .lit (.int .u8 36), .lit (.int .u8 45), .lit (.int .u8 43), .lit (.int .u8 51), .lit (.int .u8 22), .lit (.int .u8 53), .lit (.int .u8 39), .lit (.int .u8 33), .lit (.int .u8 30), .lit (.int .u8 24), .lit (.int .u8 18), .lit (.int .u8 12), .lit (.int .u8 5), .lit (.int .u8 63), .lit (.int .u8 55), .lit (.int .u8 48), .lit (.int .u8 27), .lit (.int .u8 60), .lit (.int .u8 41), .lit (.int .u8 37), .lit (.int .u8 16), .lit (.int .u8 46), .lit (.int .u8 35), .lit (.int .u8 44), .lit (.int .u8 21), .lit (.int .u8 52), .lit (.int .u8 32), .lit (.int .u8 23), .lit (.int .u8 11), .lit (.int .u8 54), .lit (.int .u8 26), .lit (.int .u8 40), .lit (.int .u8 15), .lit (.int .u8 34), .lit (.int .u8 20), .lit (.int .u8 31), .lit (.int .u8 10), .lit (.int .u8 25), .lit (.int .u8 14), .lit (.int .u8 19), .lit (.int .u8 9), .lit (.int .u8 13), .lit (.int .u8 8), .lit (.int .u8 7), .lit (.int .u8 6)]

/-- 'pushkeep.ClassOwn': WHATEVER THE INPUT: true; the input reads as it did. -/
def classOwnSpec : ChangeSpec := { name := "classOwn", fn := fun _ => fun
  | [d] => { results := [.lit (.bool true)], args := [d] }
  | _ => none }
def classOwnRow : OpenClaim := { program := "ytbiacehgfmgfdaadoor", sum := "b18a21f7d49048177d4af764f1dc47ea5b541dfb1ae3326b506196c2cb4d2940", func := "pushmill/pushkeep.ClassOwn", spec := "classOwn", named := ["math/bits.deBruijn64tab"], plainKeys := false, apart := false, laid := [("math/bits.deBruijn64tab", laid_math_bits_deBruijn64tab)] }
def ClassOwnSaid : Prop := classOwnRow.holds Tryd.pinned (OpenSpec.ofChange classOwnSpec)

/-- ITS FALSE NEIGHBOUR: 'it returns false'. Refute it at one input. -/
def classOwnWrong : ChangeSpec := { name := "classOwn", fn := fun _ => fun
  | [d] => { results := [.lit (.bool false)], args := [d] }
  | _ => none }
def ClassOwnWrongFalsely : Prop := classOwnRow.holds Tryd.pinned (OpenSpec.ofChange classOwnWrong)

/-- 'pushkeep.ClassSizes': WHATEVER THE INPUT: true; the input reads as it did. -/
def classSizesSpec : ChangeSpec := { name := "classSizes", fn := fun _ => fun
  | [d1, d2] => { results := [.lit (.bool true)], args := [d1, d2] }
  | _ => none }
def classSizesRow : OpenClaim := { program := "ytbiacehgfmgfdaadoor", sum := "b18a21f7d49048177d4af764f1dc47ea5b541dfb1ae3326b506196c2cb4d2940", func := "pushmill/pushkeep.ClassSizes", spec := "classSizes", named := ["math/bits.deBruijn64tab"], plainKeys := false, apart := false, laid := [("math/bits.deBruijn64tab", laid_math_bits_deBruijn64tab)] }
def ClassSizesSaid : Prop := classSizesRow.holds Tryd.pinned (OpenSpec.ofChange classSizesSpec)

/-- ITS FALSE NEIGHBOUR: 'it returns false'. Refute it at one input. -/
def classSizesWrong : ChangeSpec := { name := "classSizes", fn := fun _ => fun
  | [d1, d2] => { results := [.lit (.bool false)], args := [d1, d2] }
  | _ => none }
def ClassSizesWrongFalsely : Prop := classSizesRow.holds Tryd.pinned (OpenSpec.ofChange classSizesWrong)

/-- 'pushkeep.ClassAtoms': WHATEVER THE INPUT: true; the input reads as it did. -/
def classAtomsSpec : ChangeSpec := { name := "classAtoms", fn := fun _ => fun
  | [d] => { results := [.lit (.bool true)], args := [d] }
  | _ => none }
def classAtomsRow : OpenClaim := { program := "ytbiacehgfmgfdaadoor", sum := "b18a21f7d49048177d4af764f1dc47ea5b541dfb1ae3326b506196c2cb4d2940", func := "pushmill/pushkeep.ClassAtoms", spec := "classAtoms", unfollowed := true, recurses := true, named := ["math/bits.deBruijn64tab"], plainKeys := false, apart := false, laid := [("math/bits.deBruijn64tab", laid_math_bits_deBruijn64tab)] }
def ClassAtomsSaid : Prop := classAtomsRow.holds Tryd.pinned (OpenSpec.ofChange classAtomsSpec)

/-- ITS FALSE NEIGHBOUR: 'it returns false'. Refute it at one input. -/
def classAtomsWrong : ChangeSpec := { name := "classAtoms", fn := fun _ => fun
  | [d] => { results := [.lit (.bool false)], args := [d] }
  | _ => none }
def ClassAtomsWrongFalsely : Prop := classAtomsRow.holds Tryd.pinned (OpenSpec.ofChange classAtomsWrong)

/-- 'pushkeep.RexAlgebra': WHATEVER THE INPUT: true; the input reads as it did. -/
def rexAlgebraSpec : ChangeSpec := { name := "rexAlgebra", fn := fun _ => fun
  | [d1, d2, d3] => { results := [.lit (.bool true)], args := [d1, d2, d3] }
  | _ => none }
def rexAlgebraRow : OpenClaim := { program := "ytbiacehgfmgfdaadoor", sum := "b18a21f7d49048177d4af764f1dc47ea5b541dfb1ae3326b506196c2cb4d2940", func := "pushmill/pushkeep.RexAlgebra", spec := "rexAlgebra", recurses := true, named := ["math/bits.deBruijn64tab"], loops := true, plainKeys := false, apart := false, laid := [("math/bits.deBruijn64tab", laid_math_bits_deBruijn64tab)] }
def RexAlgebraSaid : Prop := rexAlgebraRow.holds Tryd.pinned (OpenSpec.ofChange rexAlgebraSpec)

/-- ITS FALSE NEIGHBOUR: 'it returns false'. Refute it at one input. -/
def rexAlgebraWrong : ChangeSpec := { name := "rexAlgebra", fn := fun _ => fun
  | [d1, d2, d3] => { results := [.lit (.bool false)], args := [d1, d2, d3] }
  | _ => none }
def RexAlgebraWrongFalsely : Prop := rexAlgebraRow.holds Tryd.pinned (OpenSpec.ofChange rexAlgebraWrong)

/-- 'pushkeep.RexSplits': WHATEVER THE INPUT: true; the input reads as it did. -/
def rexSplitsSpec : ChangeSpec := { name := "rexSplits", fn := fun _ => fun
  | [d1, d2, d3] => { results := [.lit (.bool true)], args := [d1, d2, d3] }
  | _ => none }
def rexSplitsRow : OpenClaim := { program := "ytbiacehgfmgfdaadoor", sum := "b18a21f7d49048177d4af764f1dc47ea5b541dfb1ae3326b506196c2cb4d2940", func := "pushmill/pushkeep.RexSplits", spec := "rexSplits", recurses := true, named := ["math/bits.deBruijn64tab"], loops := true, plainKeys := false, apart := false, laid := [("math/bits.deBruijn64tab", laid_math_bits_deBruijn64tab)] }
def RexSplitsSaid : Prop := rexSplitsRow.holds Tryd.pinned (OpenSpec.ofChange rexSplitsSpec)

/-- ITS FALSE NEIGHBOUR: 'it returns false'. Refute it at one input. -/
def rexSplitsWrong : ChangeSpec := { name := "rexSplits", fn := fun _ => fun
  | [d1, d2, d3] => { results := [.lit (.bool false)], args := [d1, d2, d3] }
  | _ => none }
def RexSplitsWrongFalsely : Prop := rexSplitsRow.holds Tryd.pinned (OpenSpec.ofChange rexSplitsWrong)

/-- 'pushkeep.RexStars': WHATEVER THE INPUT: true; the input reads as it did. -/
def rexStarsSpec : ChangeSpec := { name := "rexStars", fn := fun _ => fun
  | [d1, d2] => { results := [.lit (.bool true)], args := [d1, d2] }
  | _ => none }
def rexStarsRow : OpenClaim := { program := "ytbiacehgfmgfdaadoor", sum := "b18a21f7d49048177d4af764f1dc47ea5b541dfb1ae3326b506196c2cb4d2940", func := "pushmill/pushkeep.RexStars", spec := "rexStars", recurses := true, named := ["math/bits.deBruijn64tab"], loops := true, plainKeys := false, apart := false, laid := [("math/bits.deBruijn64tab", laid_math_bits_deBruijn64tab)] }
def RexStarsSaid : Prop := rexStarsRow.holds Tryd.pinned (OpenSpec.ofChange rexStarsSpec)

/-- ITS FALSE NEIGHBOUR: 'it returns false'. Refute it at one input. -/
def rexStarsWrong : ChangeSpec := { name := "rexStars", fn := fun _ => fun
  | [d1, d2] => { results := [.lit (.bool false)], args := [d1, d2] }
  | _ => none }
def RexStarsWrongFalsely : Prop := rexStarsRow.holds Tryd.pinned (OpenSpec.ofChange rexStarsWrong)

/-- 'pushkeep.RexTurned': WHATEVER THE INPUT: true; the input reads as it did. -/
def rexTurnedSpec : ChangeSpec := { name := "rexTurned", fn := fun _ => fun
  | [d1, d2] => { results := [.lit (.bool true)], args := [d1, d2] }
  | _ => none }
def rexTurnedRow : OpenClaim := { program := "ytbiacehgfmgfdaadoor", sum := "b18a21f7d49048177d4af764f1dc47ea5b541dfb1ae3326b506196c2cb4d2940", func := "pushmill/pushkeep.RexTurned", spec := "rexTurned", recurses := true, named := ["math/bits.deBruijn64tab"], loops := true, plainKeys := false, apart := false, laid := [("math/bits.deBruijn64tab", laid_math_bits_deBruijn64tab)] }
def RexTurnedSaid : Prop := rexTurnedRow.holds Tryd.pinned (OpenSpec.ofChange rexTurnedSpec)

/-- ITS FALSE NEIGHBOUR: 'it returns false'. Refute it at one input. -/
def rexTurnedWrong : ChangeSpec := { name := "rexTurned", fn := fun _ => fun
  | [d1, d2] => { results := [.lit (.bool false)], args := [d1, d2] }
  | _ => none }
def RexTurnedWrongFalsely : Prop := rexTurnedRow.holds Tryd.pinned (OpenSpec.ofChange rexTurnedWrong)

/- THE SECOND FORM. 'bulk': how many values and letters a reading holds, each counted each time it is reached (what is shared counts as often as it is met; a slice's spare places count too). A statement '..UptoSaid' is the law's where the arguments, and the package variables that the reading takes, are together of bulk at most 1048576: NARROWER than '..Said'. Prove '..Said' where nothing that the law and all that it calls make is longer than what came in: it says more and counts as full. Else prove '..UptoSaid'. A law counts once. -/
mutual
def uptoBulk {H : Type} : DataW H → Nat
  | .lit (.string bytes) => bytes.length + 1
  | .lit _ => 1
  | .nil => 1
  | .ptr d => uptoBulk d + 1
  | .slice elems spare => uptoBulkAll elems + uptoBulkAll spare + 1
  | .agg parts => uptoBulkAll parts + 1
  | .iface _ d => uptoBulk d + 1
  | .map entries => uptoBulkEntries entries + 1
  | .held _ => 1
def uptoBulkAll {H : Type} : List (DataW H) → Nat
  | [] => 0
  | d :: r => uptoBulk d + uptoBulkAll r
def uptoBulkEntries {H : Type} : List (Lit × DataW H) → Nat
  | [] => 0
  | x :: r => uptoBulkEntry x + uptoBulkEntries r
def uptoBulkEntry {H : Type} : Lit × DataW H → Nat
  | (.string bytes, d) => bytes.length + uptoBulk d + 1
  | (_, d) => uptoBulk d + 1
 end
def uptoSmall : (H : Type) → List (DataW H) → Bool := fun _ ds => decide (uptoBulkAll ds ≤ 1048576)
def OpenSpec.upto (s : _root_.Go.ChangeSpec) : _root_.Go.OpenSpec := { _root_.Go.OpenSpec.ofChange s with cond := some uptoSmall }

/-- 'pushkeep.ClassOwn', WHERE WHAT IT READS IS OF BULK AT MOST 1048576: true; the input reads as it did. -/
def classOwnUptoRow : OpenClaim := { program := "ytbiacehgfmgfdaadoor", sum := "b18a21f7d49048177d4af764f1dc47ea5b541dfb1ae3326b506196c2cb4d2940", func := "pushmill/pushkeep.ClassOwn", spec := "classOwn", named := ["math/bits.deBruijn64tab"], plainKeys := false, apart := false, laid := [("math/bits.deBruijn64tab", laid_math_bits_deBruijn64tab)], narrowed := true }
def ClassOwnUptoSaid : Prop := classOwnUptoRow.holds Tryd.pinned (OpenSpec.upto classOwnSpec)

/-- 'pushkeep.ClassSizes', WHERE WHAT IT READS IS OF BULK AT MOST 1048576: true; the input reads as it did. -/
def classSizesUptoRow : OpenClaim := { program := "ytbiacehgfmgfdaadoor", sum := "b18a21f7d49048177d4af764f1dc47ea5b541dfb1ae3326b506196c2cb4d2940", func := "pushmill/pushkeep.ClassSizes", spec := "classSizes", named := ["math/bits.deBruijn64tab"], plainKeys := false, apart := false, laid := [("math/bits.deBruijn64tab", laid_math_bits_deBruijn64tab)], narrowed := true }
def ClassSizesUptoSaid : Prop := classSizesUptoRow.holds Tryd.pinned (OpenSpec.upto classSizesSpec)

/-- 'pushkeep.ClassAtoms', WHERE WHAT IT READS IS OF BULK AT MOST 1048576: true; the input reads as it did. -/
def classAtomsUptoRow : OpenClaim := { program := "ytbiacehgfmgfdaadoor", sum := "b18a21f7d49048177d4af764f1dc47ea5b541dfb1ae3326b506196c2cb4d2940", func := "pushmill/pushkeep.ClassAtoms", spec := "classAtoms", unfollowed := true, recurses := true, named := ["math/bits.deBruijn64tab"], plainKeys := false, apart := false, laid := [("math/bits.deBruijn64tab", laid_math_bits_deBruijn64tab)], narrowed := true }
def ClassAtomsUptoSaid : Prop := classAtomsUptoRow.holds Tryd.pinned (OpenSpec.upto classAtomsSpec)

/-- 'pushkeep.RexAlgebra', WHERE WHAT IT READS IS OF BULK AT MOST 1048576: true; the input reads as it did. -/
def rexAlgebraUptoRow : OpenClaim := { program := "ytbiacehgfmgfdaadoor", sum := "b18a21f7d49048177d4af764f1dc47ea5b541dfb1ae3326b506196c2cb4d2940", func := "pushmill/pushkeep.RexAlgebra", spec := "rexAlgebra", recurses := true, named := ["math/bits.deBruijn64tab"], loops := true, plainKeys := false, apart := false, laid := [("math/bits.deBruijn64tab", laid_math_bits_deBruijn64tab)], narrowed := true }
def RexAlgebraUptoSaid : Prop := rexAlgebraUptoRow.holds Tryd.pinned (OpenSpec.upto rexAlgebraSpec)

/-- 'pushkeep.RexSplits', WHERE WHAT IT READS IS OF BULK AT MOST 1048576: true; the input reads as it did. -/
def rexSplitsUptoRow : OpenClaim := { program := "ytbiacehgfmgfdaadoor", sum := "b18a21f7d49048177d4af764f1dc47ea5b541dfb1ae3326b506196c2cb4d2940", func := "pushmill/pushkeep.RexSplits", spec := "rexSplits", recurses := true, named := ["math/bits.deBruijn64tab"], loops := true, plainKeys := false, apart := false, laid := [("math/bits.deBruijn64tab", laid_math_bits_deBruijn64tab)], narrowed := true }
def RexSplitsUptoSaid : Prop := rexSplitsUptoRow.holds Tryd.pinned (OpenSpec.upto rexSplitsSpec)

/-- 'pushkeep.RexStars', WHERE WHAT IT READS IS OF BULK AT MOST 1048576: true; the input reads as it did. -/
def rexStarsUptoRow : OpenClaim := { program := "ytbiacehgfmgfdaadoor", sum := "b18a21f7d49048177d4af764f1dc47ea5b541dfb1ae3326b506196c2cb4d2940", func := "pushmill/pushkeep.RexStars", spec := "rexStars", recurses := true, named := ["math/bits.deBruijn64tab"], loops := true, plainKeys := false, apart := false, laid := [("math/bits.deBruijn64tab", laid_math_bits_deBruijn64tab)], narrowed := true }
def RexStarsUptoSaid : Prop := rexStarsUptoRow.holds Tryd.pinned (OpenSpec.upto rexStarsSpec)

/-- 'pushkeep.RexTurned', WHERE WHAT IT READS IS OF BULK AT MOST 1048576: true; the input reads as it did. -/
def rexTurnedUptoRow : OpenClaim := { program := "ytbiacehgfmgfdaadoor", sum := "b18a21f7d49048177d4af764f1dc47ea5b541dfb1ae3326b506196c2cb4d2940", func := "pushmill/pushkeep.RexTurned", spec := "rexTurned", recurses := true, named := ["math/bits.deBruijn64tab"], loops := true, plainKeys := false, apart := false, laid := [("math/bits.deBruijn64tab", laid_math_bits_deBruijn64tab)], narrowed := true }
def RexTurnedUptoSaid : Prop := rexTurnedUptoRow.holds Tryd.pinned (OpenSpec.upto rexTurnedSpec)

end Rows
end Go.Proofs.YtbiacehgfmgfdaaDoor
