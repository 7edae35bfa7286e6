/- Facts of a grammar: what First has; what Begin tells; no program in sight. -/
import Derived.Test.YtnicebdkejkieaaFactsN
namespace Go.Proofs.Ytnicebdkejkieaa.factsL
open gramL
theorem set_getD (l : List Nat) (i : Nat) : l.set i (l.getD i 0) = l := by
  by_cases h : i < l.length
  · have e : l.getD i 0 = l[i] := by rw [List.getD_eq_getElem?_getD, List.getElem?_eq_getElem h]; rfl
    rw [e, List.set_getElem_self]
  · rw [List.set_eq_of_length_le (by omega)]
/-- a pass that tells nothing new: all holds already -/
theorem passF_still {E M : List Bool} : ∀ (l : List gramL.Prod) (F : List Nat) (more : Bool), (passF E M l F more).2 = false → more = false ∧ (passF E M l F more).1 = F ∧ ∀ p ∈ l, allF M p.2 true = true → F.getD p.1.toNat 0 ||| beginF E F p.2 0 = F.getD p.1.toNat 0
  | [], F, more, h => ⟨h, rfl, fun p hp => by cases hp⟩
  | p :: r, F, more, h => by
    rw [passF] at h ⊢
    unfold stepF at h ⊢
    by_cases c : allF M p.2 true = true
    · rw [if_pos c] at h ⊢
      obtain ⟨h1, h2, h3⟩ := passF_still r _ _ h
      rw [Bool.or_eq_false_iff] at h1
      have h4 : F.getD p.1.toNat 0 ||| beginF E F p.2 0 = F.getD p.1.toNat 0 := by
        have := h1.1
        unfold addF at this
        simpa using this
      have h5 : (addF F p.1.toNat (beginF E F p.2 0)).1 = F := by
        unfold addF
        dsimp only
        rw [h4, set_getD]
      rw [h2]
      rw [h5] at h3 ⊢
      refine ⟨h1.2, rfl, fun q hq hc => ?_⟩
      rcases List.mem_cons.1 hq with rfl | hq
      · exact h4
      · exact h3 q hq hc
    · rw [if_neg c] at h ⊢
      obtain ⟨h1, h2, h3⟩ := passF_still r _ _ h
      refine ⟨h1, h2, fun q hq hc => ?_⟩
      rcases List.mem_cons.1 hq with rfl | hq
      · exact absurd hc c
      · exact h3 q hq hc
theorem beginGo_behind (E : List Bool) (F : List Nat) (a b : Nat) : ∀ (body : List Sym) (out : Nat), ∃ c, (c = 0 ∨ c = b) ∧ beginGo E F (a ||| b) body out = beginGo E F a body out ||| c
  | [], out => ⟨b, .inr rfl, by unfold beginGo; rw [Nat.or_assoc]⟩
  | x :: r, out => by
    unfold beginGo
    split
    · exact ⟨0, .inl rfl, by simp⟩
    · split
      · exact beginGo_behind E F a b r _
      · exact ⟨0, .inl rfl, by simp⟩
theorem beginF_behind (E : List Bool) (F : List Nat) (a b : Nat) (body : List Sym) : beginF E F body a ||| beginF E F body (a ||| b) = beginF E F body (a ||| b) ∧ beginF E F body (a ||| b) ||| (beginF E F body a ||| b) = beginF E F body a ||| b := by
  obtain ⟨c, h1, h2⟩ := beginGo_behind E F a b body 0
  unfold beginF
  rw [h2]
  generalize beginGo E F a body 0 = x
  have hxx : ∀ y, x ||| (x ||| y) = x ||| y := fun y => by rw [← Nat.or_assoc, Nat.or_self]
  refine ⟨hxx c, ?_⟩
  rcases h1 with rfl | rfl
  · simp only [Nat.or_zero]; exact hxx b
  · rw [Nat.or_self]
end Go.Proofs.Ytnicebdkejkieaa.factsL
