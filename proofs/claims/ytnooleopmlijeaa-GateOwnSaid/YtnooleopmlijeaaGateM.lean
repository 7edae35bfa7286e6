/- The gate: no program in sight. -/
import Derived.Test.YtnooleopmlijeaaGateL
namespace Go.Proofs.Ytnooleopmlijeaa.gateL
def checkG (wait : List Ev) (c g : Int) : Int := if 4200 < wait.length then 2 else if c < 0 then 1 else if 1073741824 < c then 1 else if g < 0 then 1 else if 1099511627776 < g then 1 else if wait.any odd = true then 1 else 0
theorem checkG_ok {wait : List Ev} {c g : Int} (h : checkG wait c g = 0) : wait.length ≤ 4200 ∧ 0 ≤ c ∧ c ≤ 1073741824 ∧ 0 ≤ g ∧ g ≤ 1099511627776 ∧ wait.any odd = false := by
  unfold checkG at h
  split at h; · simp at h
  split at h; · simp at h
  split at h; · simp at h
  split at h; · simp at h
  split at h; · simp at h
  split at h; · simp at h
  rename_i a b c d e f
  exact ⟨by omega, by omega, by omega, by omega, by omega, by simpa using f⟩
/-- Put's error -/
def putE (wait : List Ev) (c g : Int) (l : List Ev) : Int := if checkG wait c g ≠ 0 then checkG wait c g else if l.any odd = true then 1 else if 4200 < wait.length + l.length then 18 else 0
def putW (wait : List Ev) (c g : Int) (l : List Ev) : List Ev := if putE wait c g l = 0 then wait ++ l else wait
theorem putE_ok {wait : List Ev} {c g : Int} {l : List Ev} (h : putE wait c g l = 0) : checkG wait c g = 0 ∧ l.any odd = false ∧ wait.length + l.length ≤ 4200 := by
  unfold putE at h
  split at h
  · contradiction
  · split at h
    · simp at h
    · split at h
      · simp at h
      · rename_i a b d
        exact ⟨by simpa using a, by simpa using b, by omega⟩
def grantE (wait : List Ev) (c g n : Int) : Int := if checkG wait c g ≠ 0 then checkG wait c g else if n < 1 then 1 else if 1073741824 < n then 1 else 0
def grantC (wait : List Ev) (c g n : Int) : Int := if grantE wait c g n = 0 then min (c + n) 1073741824 else c
theorem grantE_ok {wait : List Ev} {c g n : Int} (h : grantE wait c g n = 0) : checkG wait c g = 0 ∧ 1 ≤ n ∧ n ≤ 1073741824 := by
  unfold grantE at h
  split at h
  · contradiction
  · split at h
    · simp at h
    · split at h
      · simp at h
      · rename_i a b d
        exact ⟨by simpa using a, by omega, by omega⟩
def takeE (wait : List Ev) (c g n : Int) : Int := if checkG wait c g ≠ 0 then checkG wait c g else if n < 0 then 1 else 0
def takeN (wait : List Ev) (c n : Int) : Nat := (min n (min c wait.length)).toNat
theorem takeE_ok {wait : List Ev} {c g n : Int} (h : takeE wait c g n = 0) : checkG wait c g = 0 ∧ 0 ≤ n := by
  unfold takeE at h
  split at h
  · contradiction
  · split at h
    · simp at h
    · rename_i a b
      exact ⟨by simpa using a, by omega⟩
end Go.Proofs.Ytnooleopmlijeaa.gateL
