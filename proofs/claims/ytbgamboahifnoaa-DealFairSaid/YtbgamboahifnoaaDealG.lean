/- What each one got, as a list. -/
import Derived.Test.YtbgamboahifnoaaDealD
namespace Go.Proofs.Ytbgamboahifnoaa.dealL
def gotL (out : List (Nat × Int)) (n : Nat) : List Int := (List.range n).map (got out)
theorem gotL_length (out : List (Nat × Int)) (n : Nat) : (gotL out n).length = n := by simp [gotL]
theorem gotL_get (out : List (Nat × Int)) (n i : Nat) (h : i < n) : (gotL out n)[i]? = some (got out i) := by simp [gotL, h]
theorem got_snoc (out : List (Nat × Int)) (x : Nat × Int) (i : Nat) : got (out ++ [x]) i = got out i + if x.1 = i then x.2 else 0 := by simp [got]
theorem gotL_snoc (out : List (Nat × Int)) (k : Nat) (m : Int) (n : Nat) (h : k < n) : (gotL out n).set k (got out k + m) = gotL (out ++ [(k, m)]) n := by
  apply List.ext_getElem?
  intro j
  by_cases e : k = j
  · subst e
    rw [List.getElem?_set_self (by rw [gotL_length]; exact h), gotL_get _ _ _ h, got_snoc, if_pos rfl]
  · rw [List.getElem?_set_ne e]
    by_cases hj : j < n
    · rw [gotL_get _ _ _ hj, gotL_get _ _ _ hj, got_snoc, if_neg e, Int.add_zero]
    · rw [List.getElem?_eq_none (by rw [gotL_length]; omega), List.getElem?_eq_none (by rw [gotL_length]; omega)]
theorem total_snoc (out : List (Nat × Int)) (x : Nat × Int) : total (out ++ [x]) = total out + x.2 := by simp [total]
theorem take_snoc' (out : List (Nat × Int)) (i : Nat) (h : i < out.length) : out.take (i + 1) = out.take i ++ [out[i]] := List.take_succ_eq_append_getElem h
/-- what has been dealt so far is no more than what is dealt in the end -/
theorem got_take (out : List (Nat × Int)) (hpos : ∀ x ∈ out, 1 ≤ x.2) (i k : Nat) : 0 ≤ got (out.take i) k ∧ got (out.take i) k ≤ got out k := by
  have nonneg : ∀ (l : List (Nat × Int)), (∀ x ∈ l, 1 ≤ x.2) → 0 ≤ got l k := fun l hl => by
    induction l with
    | nil => simp [got]
    | cons x l ih =>
      have h1 := hl x (by simp)
      have h2 := ih fun y hy => hl y (by simp [hy])
      have e : got (x :: l) k = (if x.1 = k then x.2 else 0) + got l k := by simp [got]
      rw [e]; split <;> omega
  have e : got out k = got (out.take i) k + got (out.drop i) k := by
    have h : ∀ a b, got (a ++ b) k = got a k + got b k := fun a b => by simp [got]
    rw [← h, List.take_append_drop]
  have h1 := nonneg (out.take i) fun x hx => hpos x (List.mem_of_mem_take hx)
  have h2 := nonneg (out.drop i) fun x hx => hpos x (List.mem_of_mem_drop hx)
  omega
theorem total_take (out : List (Nat × Int)) (hpos : ∀ x ∈ out, 1 ≤ x.2) (i : Nat) : 0 ≤ total (out.take i) ∧ total (out.take i) ≤ total out := by
  have nonneg : ∀ (l : List (Nat × Int)), (∀ x ∈ l, 1 ≤ x.2) → 0 ≤ total l := fun l hl => by
    induction l with
    | nil => simp [total]
    | cons x l ih =>
      have h1 := hl x (by simp)
      have h2 := ih fun y hy => hl y (by simp [hy])
      have e : total (x :: l) = x.2 + total l := by simp [total]
      rw [e]; omega
  have e : total out = total (out.take i) + total (out.drop i) := by
    have h : ∀ a b, total (a ++ b) = total a + total b := fun a b => by simp [total]
    rw [← h, List.take_append_drop]
  have h1 := nonneg (out.take i) fun x hx => hpos x (List.mem_of_mem_take hx)
  have h2 := nonneg (out.drop i) fun x hx => hpos x (List.mem_of_mem_drop hx)
  omega
theorem sum_take (l : List Int) (hpos : ∀ x ∈ l, 0 ≤ x ∧ x ≤ 1073741824) (i : Nat) : 0 ≤ (l.take i).sum ∧ (l.take i).sum ≤ 1073741824 * l.length := by
  have nonneg : ∀ (l : List Int), (∀ x ∈ l, 0 ≤ x ∧ x ≤ 1073741824) → 0 ≤ l.sum ∧ l.sum ≤ 1073741824 * l.length := fun l hl => by
    induction l with
    | nil => simp
    | cons x l ih =>
      have h1 := hl x (by simp)
      have h2 := ih fun y hy => hl y (by simp [hy])
      simp; omega
  have h1 := nonneg (l.take i) fun x hx => hpos x (List.mem_of_mem_take hx)
  have h2 : (l.take i).length ≤ l.length := by simp; omega
  omega
/-- what is known of an answer that is no error -/
theorem dealF_ok (last : Int) (need : List Int) (slice budget : Int) (h : (dealF last need slice budget).2.2 = 0) :
    need.length ≤ 100 ∧ budget ≤ 10000 ∧ (∀ n ∈ need, 0 ≤ n ∧ n ≤ 1073741824) ∧ 1 ≤ slice ∧ 0 ≤ budget ∧ (dealF last need slice budget).1 = (deals slice budget.toNat last need budget).1 := by
  unfold dealF at *
  split at h
  · simp at h
  · rename_i c1
    split at h
    · simp at h
    · rename_i c2
      rw [if_neg c1, if_neg c2]
      refine ⟨by omega, by omega, fun n hn => ?_, by omega, by omega, rfl⟩
      have h3 : need.any oddNeed = false := by
        cases e : need.any oddNeed
        · rfl
        · exact absurd (.inl e) c2
      rw [List.any_eq_false] at h3
      have := h3 n hn
      simp [oddNeed] at this
      omega
theorem dealF_err (last : Int) (need : List Int) (slice budget : Int) (h : (dealF last need slice budget).2.2 ≠ 0) : (dealF last need slice budget).1 = [] := by
  unfold dealF at *
  split
  · rfl
  · split
    · rfl
    · rename_i c1 c2
      rw [if_neg c1, if_neg c2] at h; simp at h
theorem dealF_range (last : Int) (need : List Int) (slice budget : Int) : (dealF last need slice budget).2.2 = 0 ∨ (dealF last need slice budget).2.2 = 1 ∨ (dealF last need slice budget).2.2 = 2 := by
  unfold dealF; split
  · simp
  · split <;> simp
end Go.Proofs.Ytbgamboahifnoaa.dealL
