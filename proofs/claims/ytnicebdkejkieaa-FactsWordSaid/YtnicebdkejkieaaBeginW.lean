/- A word of a grammar, its beginnings and what may come: plain laws. -/
import Derived.Test.YtnicebdkejkieaaBeginL
namespace Go.Proofs.Ytnicebdkejkieaa.derL
open gramL treeL countL factsL eng
theorem checkW_take {t : Int} : ∀ {w : List Int} (k : Nat), checkW t w = 0 → checkW t (w.take k) = 0
  | [], k, _ => by simp [checkW]
  | x :: r, 0, _ => by simp [checkW]
  | x :: r, k + 1, h => by
    rw [checkW] at h
    rw [List.take_succ_cons, checkW]
    split at h; · cases h
    split at h; · cases h
    rw [if_neg (by assumption), if_neg (by assumption)]
    exact checkW_take k h
theorem checkW_snoc {t v : Int} (h0 : 0 ≤ v) (h1 : v < t) : ∀ {w : List Int}, checkW t w = 0 → checkW t (w ++ [v]) = 0
  | [], _ => by simp only [List.nil_append, checkW]; rw [if_neg (by omega), if_neg (by omega)]
  | x :: r, h => by
    rw [checkW] at h
    rw [List.cons_append, checkW]
    split at h; · cases h
    split at h; · cases h
    rw [if_neg (by assumption), if_neg (by assumption)]
    exact checkW_snoc h0 h1 h
theorem checkC_W {g : Gram} {w : List Int} (h : checkC g w = 0) : checkW g.terms w = 0 := by
  unfold checkC at h
  split at h; · contradiction
  split at h; · cases h
  exact h
theorem checkC_mk {g : Gram} {w : List Int} (h1 : checkG g = 0) (h2 : w.length ≤ 20) (h3 : checkW g.terms w = 0) : checkC g w = 0 := by
  unfold checkC
  rw [if_neg (by simpa using h1), if_neg (by omega), h3]
theorem begins_word {g : Gram} {w : List Int} (hc : checkC g w = 0) (h : 0 < treesN g w) : beginsB g w = true :=
  begins_iff.2 ⟨hc, [], by rw [List.append_nil]; exact (trees_der hc).1 h⟩
theorem begins_take {g : Gram} {w : List Int} (h : beginsB g w = true) (k : Nat) : beginsB g (w.take k) = true := by
  obtain ⟨hc, v, hv⟩ := begins_iff.1 h
  obtain ⟨h1, h2, _⟩ := checkC_ok hc
  refine begins_iff.2 ⟨checkC_mk h1 (by rw [List.length_take]; omega) (checkW_take k (checkC_W hc)), w.drop k ++ v, ?_⟩
  rw [← List.append_assoc, List.take_append_drop]; exact hv
theorem begins_on {g : Gram} {w : List Int} (h : beginsB g w = true) (hl : w.length < 20) (hn : ∀ t : Nat, (t : Int) < g.terms → beginsB g (w ++ [(t : Int)]) = false) : 0 < treesN g w := by
  obtain ⟨hc, v, hv⟩ := begins_iff.1 h
  obtain ⟨h1, h2, _⟩ := checkC_ok hc
  obtain ⟨_, _, a3, _⟩ := checkG_ok h1
  cases v with
  | nil => rw [List.append_nil] at hv; exact (trees_der hc).2 hv
  | cons x r =>
    exfalso
    have hx := der_in h1 hv (by unfold right; rw [if_neg (by decide), if_pos rfl]; simp; omega) x (by simp)
    have e : x = ((x.toNat : Nat) : Int) := by omega
    have := hn x.toNat (by omega)
    rw [← e] at this
    have h3 : beginsB g (w ++ [x]) = true := begins_iff.2 ⟨checkC_mk h1 (by rw [List.length_append]; simp; omega) (checkW_snoc hx.1 hx.2 (checkC_W hc)), r, by rw [List.append_assoc]; exact hv⟩
    rw [this] at h3; cases h3
end Go.Proofs.Ytnicebdkejkieaa.derL
