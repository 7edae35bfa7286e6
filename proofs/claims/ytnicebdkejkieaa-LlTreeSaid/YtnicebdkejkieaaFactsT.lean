/- Facts of a grammar as facts.Of tells them: nothing is missing. -/
import Derived.Test.YtnicebdkejkieaaFactsO
import Derived.Test.YtnicebdkejkieaaFactsR
namespace Go.Proofs.Ytnicebdkejkieaa.eng
open gramL factsL treeL countL
theorem fallsT {n : Nat} {l : List gramL.Prod} (hf : Fine n l) : Falls (stepS l) (fun s => okR n s ∧ s.R.getD 0 false = true) (lackS n) :=
  ⟨fun s hs => ⟨(fallsS hf).keep s hs.1, roundL_keep l ⟨s.E, s.R, s.M, false⟩ hs.2⟩, fun s hs => (fallsS hf).dec s hs.1⟩
theorem closed_of {g : Gram} {n : Nat} (hck : checkG g = 0) (hn : g.nons = n) : ClosedF g.prods (ofS n g.prods).E (ofF n g.prods) (ofW n g.prods) (ofS n g.prods).R (ofS n g.prods).M := by
  obtain ⟨_, _, a3, _⟩ := checkG_ok hck
  have hf := fine_of hck hn
  have hS : ClosedS g.prods (ofS n g.prods).E (ofS n g.prods).R (ofS n g.prods).M ∧ okR n (ofS n g.prods) ∧ (ofS n g.prods).R.getD 0 false = true := by
    obtain ⟨s', h1, h2, h3⟩ := fix_end (fallsT hf) _ ⟨List.replicate n false, (List.replicate n false).set 0 true, List.replicate n false, false⟩ ⟨⟨by simp, by simp, by simp⟩, by
      rw [List.getD_eq_getElem?_getD, List.getElem?_set_self (by simp; omega)]; rfl⟩ (Nat.le_refl _)
    have e : ofS n g.prods = roundL g.prods ⟨s'.E, s'.R, s'.M, false⟩ := h3
    obtain ⟨_, k2, k3, k4, k5⟩ := roundL_still g.prods ⟨s'.E, s'.R, s'.M, false⟩ h2
    have hk := (fallsT hf).keep s' h1
    rw [e]
    refine ⟨?_, hk⟩
    rw [k2, k3, k4]
    exact k5
  obtain ⟨hS1, hS2, hS3⟩ := hS
  have hF : okW n (ofF n g.prods) ∧ ∀ p ∈ g.prods, allF (ofS n g.prods).M p.2 true = true → (ofF n g.prods).getD p.1.toNat 0 ||| beginF (ofS n g.prods).E (ofF n g.prods) p.2 0 = (ofF n g.prods).getD p.1.toNat 0 := by
    obtain ⟨s', h1, h2, h3⟩ := fix_end (fallsF (E := (ofS n g.prods).E) (M := (ofS n g.prods).M) hf) _ (List.replicate n 0) ⟨by simp, fun x hx => by rw [List.eq_of_mem_replicate hx]; decide⟩ (Nat.le_refl _)
    obtain ⟨_, h4, h5⟩ := passF_still _ _ _ h2
    have h6 : ofF n g.prods = s' := by unfold ofF setsF; rw [h3]; exact h4
    rw [h6]; exact ⟨h1, h5⟩
  have hW : ((ofW n g.prods).getD 0 0).testBit 63 = true ∧ (∀ p ∈ g.prods, ∀ pre x post, p.2 = pre ++ x :: post → x.1 = 2 → (ofW n g.prods).getD x.2.toNat 0 ||| beginF (ofS n g.prods).E (ofF n g.prods) post ((ofW n g.prods).getD p.1.toNat 0) = (ofW n g.prods).getD x.2.toNat 0) ∧ okW n (ofW n g.prods) := by
    have hfl := fallsW (E := (ofS n g.prods).E) hF.1 hf
    have hfl2 : Falls (fun W => passW (ofS n g.prods).E (ofF n g.prods) g.prods W false) (fun W => okW n W ∧ (W.getD 0 0).testBit 63 = true) lack := ⟨fun s hs => ⟨hfl.keep s hs.1, passW_keep g.prods s false hs.2⟩, fun s hs => hfl.dec s hs.1⟩
    obtain ⟨s', h1, h2, h3⟩ := fix_end hfl2 _ ((List.replicate n 0).set 0 9223372036854775808) ⟨⟨by simp, fun x hx => by
      rcases List.mem_or_eq_of_mem_set hx with h | h
      · rw [List.eq_of_mem_replicate h]; decide
      · rw [h]; decide⟩, by rw [List.getD_eq_getElem?_getD, List.getElem?_set_self (by simp; omega)]; decide⟩ (Nat.le_refl _)
    obtain ⟨_, h4, h5⟩ := passW_still _ _ _ h2
    have h6 : ofW n g.prods = s' := by unfold ofW setsW; rw [h3]; exact h4
    rw [h6]
    exact ⟨h1.2, h5, h1.1⟩
  exact ⟨hS1, hF.2, hW.2.1, hS3, hW.1⟩
/-- each node of a right tree is as it should be -/
theorem look_all {g : Gram} {n : Nat} {t : Tree} (h : checkT g t = 0) (hn : g.nons = n) : LookT g.prods (ofS n g.prods).E (ofF n g.prods) (ofW n g.prods) (ofS n g.prods).R (ofS n g.prods).M (yieldT g.prods t) t 0 := by
  obtain ⟨h1, h2, h3, h4⟩ := checkT_iff.1 h
  have hC := closed_of h1 hn
  have hp : 0 ≤ t.prod := by
    obtain ⟨p, k, kids⟩ := t
    rw [Right] at h2
    rcases h2 with ⟨e, _⟩ | ⟨_, e, _⟩
    · cases e
    · exact e
  have hl := yield_len h2 hp
  refine looks_right hC (symsOk_of h1 hn) h2 hp hC.top ?_ ⟨[], by simp⟩
  have e : bitAt (yieldT g.prods t) (0 + leaves t) = 63 := by unfold bitAt; rw [if_neg (by omega)]
  rw [e]
  exact hC.last
end Go.Proofs.Ytnicebdkejkieaa.eng
