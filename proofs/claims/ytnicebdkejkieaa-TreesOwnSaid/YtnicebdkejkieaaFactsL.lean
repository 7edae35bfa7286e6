/- Facts of a grammar: no program in sight. -/
import Derived.Test.YtnicebdkejkieaaGramL
namespace Go.Proofs.Ytnicebdkejkieaa.factsL
open gramL
def markF (l : List Bool) (i : Nat) (b : Bool) : List Bool × Bool := if b = true ∧ l.getD i false = false then (l.set i true, true) else (l, false)
/-- are all of a body's nonterminals so? -/
def allF (l : List Bool) (body : List Sym) (terms : Bool) : Bool := body.all fun x => if x.1 = 1 then terms else if x.1 = 2 then l.getD x.2.toNat false else true
def addF (l : List Nat) (i : Nat) (b : Nat) : List Nat × Bool := (l.set i (l.getD i 0 ||| b), !decide ((l.getD i 0 ||| b) = l.getD i 0))
/-- what some symbols begin with, something standing behind -/
def beginGo (E : List Bool) (F : List Nat) (behind : Nat) : List Sym → Nat → Nat
  | [], out => out ||| behind
  | x :: r, out => if x.1 = 1 then out ||| 2 ^ x.2.toNat else if E.getD x.2.toNat false = true then beginGo E F behind r (out ||| F.getD x.2.toNat 0) else out ||| F.getD x.2.toNat 0
def beginF (E : List Bool) (F : List Nat) (body : List Sym) (behind : Nat) : Nat := beginGo E F behind body 0
theorem markF_len (l : List Bool) (i : Nat) (b : Bool) : (markF l i b).1.length = l.length := by
  unfold markF; split <;> simp
theorem addF_len (l : List Nat) (i : Nat) (b : Nat) : (addF l i b).1.length = l.length := by
  simp [addF]
structure FS where
  E : List Bool
  R : List Bool
  M : List Bool
  more : Bool
def stepR (h : Nat) (x : Sym) (R : List Bool) (more : Bool) : List Bool × Bool := if x.1 = 2 then ((markF R x.2.toNat (R.getD h false)).1, (markF R x.2.toNat (R.getD h false)).2 || more) else (R, more)
def roundR (h : Nat) : List Sym → List Bool → Bool → List Bool × Bool
  | [], R, more => (R, more)
  | x :: r, R, more => roundR h r (stepR h x R more).1 (stepR h x R more).2
def roundP (p : gramL.Prod) (s : FS) : FS :=
  let h := p.1.toNat
  let a := markF s.E h (allF s.E p.2 false)
  let b := markF s.M h (allF s.M p.2 true)
  let c := roundR h p.2 s.R (b.2 || (a.2 || s.more))
  ⟨a.1, c.1, b.1, c.2⟩
def roundL : List gramL.Prod → FS → FS
  | [], s => s
  | p :: r, s => roundL r (roundP p s)
theorem stepR_len (h : Nat) (x : Sym) (R : List Bool) (more : Bool) : (stepR h x R more).1.length = R.length := by
  unfold stepR; split
  · exact markF_len _ _ _
  · rfl
theorem roundR_len (h : Nat) : ∀ (body : List Sym) (R : List Bool) (more : Bool), (roundR h body R more).1.length = R.length
  | [], _, _ => rfl
  | x :: r, R, more => by rw [roundR, roundR_len h r, stepR_len]
/-- how many are true -/
def trues (l : List Bool) : Nat := l.countP id
theorem markF_trues {l : List Bool} {i : Nat} {b : Bool} (hi : i < l.length) : trues (markF l i b).1 = trues l + (if (markF l i b).2 = true then 1 else 0) := by
  unfold markF
  split
  · rename_i c
    have h0 : l[i] = false := by
      have := c.2
      rw [List.getD_eq_getElem?_getD, List.getElem?_eq_getElem hi] at this
      simpa using this
    unfold trues
    rw [List.countP_set hi]
    simp [h0]
  · simp
end Go.Proofs.Ytnicebdkejkieaa.factsL
