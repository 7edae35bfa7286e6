/- Events of trees; no program in sight. -/
import Derived.Test.YtnicebdkejkieaaTreeM
namespace Go.Proofs.Ytnicebdkejkieaa.treeL
open gramL
def evD : Deed → Sym
  | .ahead p => (1, p)
  | .leaf _ q => (2, q)
  | .behind p => (3, p)
def evU : Deed → Option Sym
  | .ahead _ => none
  | .leaf _ q => some (2, q)
  | .behind p => some (4, p)
def downE (l : List gramL.Prod) (t : Tree) : List Sym := (acts l t).map evD
def upE (l : List gramL.Prod) (t : Tree) : List Sym := (acts l t).filterMap evU
def stepD (s : List Sym) (d : Deed) : List Sym := s ++ [evD d]
def stepU (s : List Sym) (d : Deed) : List Sym := match evU d with | some x => s ++ [x] | none => s
theorem foldD : ∀ (l : List Deed) (s : List Sym), l.foldl stepD s = s ++ l.map evD
  | [], s => by simp
  | d :: r, s => by rw [List.foldl_cons, foldD r]; simp [stepD]
theorem foldU : ∀ (l : List Deed) (s : List Sym), l.foldl stepU s = s ++ l.filterMap evU
  | [], s => by simp
  | .leaf t q :: r, s => by rw [List.foldl_cons, foldU r]; simp [stepU, evU]
  | .ahead _ :: r, s => by rw [List.foldl_cons, foldU r, List.filterMap_cons_none rfl]; simp [stepU, evU]
  | .behind _ :: r, s => by rw [List.foldl_cons, foldU r]; simp [stepU, evU]
end Go.Proofs.Ytnicebdkejkieaa.treeL
