/- Facts of a grammar: what holds at their end; of trees; no program in sight. -/
import Derived.Test.YtnicebdkejkieaaFactsP
import Derived.Test.YtnicebdkejkieaaTreeW
namespace Go.Proofs.Ytnicebdkejkieaa.factsL
open gramL treeL
theorem markF_still {l : List Bool} {i : Nat} {b : Bool} (h : (markF l i b).2 = false) : (markF l i b).1 = l ∧ (b = true → l.getD i false = true) := by
  unfold markF at h ⊢
  split at h
  · cases h
  · rename_i c
    rw [if_neg c]
    refine ⟨rfl, fun hb => ?_⟩
    cases e : l.getD i false
    · exact absurd ⟨hb, e⟩ c
    · rfl
theorem roundR_still {h : Nat} : ∀ (body : List Sym) (R : List Bool) (more : Bool), (roundR h body R more).2 = false → more = false ∧ (roundR h body R more).1 = R ∧ ∀ x ∈ body, x.1 = 2 → R.getD h false = true → R.getD x.2.toNat false = true
  | [], R, more, hm => ⟨hm, rfl, fun x hx => by cases hx⟩
  | x :: r, R, more, hm => by
    rw [roundR] at hm ⊢
    unfold stepR at hm ⊢
    by_cases c : x.1 = 2
    · rw [if_pos c] at hm ⊢
      obtain ⟨h1, h2, h3⟩ := roundR_still r _ _ hm
      rw [Bool.or_eq_false_iff] at h1
      obtain ⟨k1, k2⟩ := markF_still h1.1
      rw [h2]
      dsimp only at h3 ⊢
      rw [k1] at h3 ⊢
      refine ⟨h1.2, rfl, fun y hy => ?_⟩
      rcases List.mem_cons.1 hy with rfl | hy
      · exact fun _ => k2
      · exact h3 y hy
    · rw [if_neg c] at hm ⊢
      obtain ⟨h1, h2, h3⟩ := roundR_still r _ _ hm
      refine ⟨h1, h2, fun y hy => ?_⟩
      rcases List.mem_cons.1 hy with rfl | hy
      · exact fun h => absurd h c
      · exact h3 y hy
/-- nothing is missing of the three sets of nonterminals -/
structure ClosedS (l : List gramL.Prod) (E R M : List Bool) : Prop where
  empty : ∀ p ∈ l, allF E p.2 false = true → E.getD p.1.toNat false = true
  makes : ∀ p ∈ l, allF M p.2 true = true → M.getD p.1.toNat false = true
  reach : ∀ p ∈ l, ∀ x ∈ p.2, x.1 = 2 → R.getD p.1.toNat false = true → R.getD x.2.toNat false = true
theorem roundP_still {p : gramL.Prod} {s : FS} (h : (roundP p s).more = false) : s.more = false ∧ (roundP p s).E = s.E ∧ (roundP p s).R = s.R ∧ (roundP p s).M = s.M ∧ ClosedS [p] s.E s.R s.M := by
  unfold roundP at h ⊢
  dsimp only at h ⊢
  obtain ⟨h1, h2, h3⟩ := roundR_still p.2 s.R _ h
  rw [Bool.or_eq_false_iff, Bool.or_eq_false_iff] at h1
  obtain ⟨m1, m2⟩ := markF_still h1.1
  obtain ⟨e1, e2⟩ := markF_still h1.2.1
  refine ⟨h1.2.2, e1, h2, m1, ⟨fun q hq => ?_, fun q hq => ?_, fun q hq => ?_⟩⟩
  · simp only [List.mem_cons, List.not_mem_nil, or_false] at hq; subst hq; exact e2
  · simp only [List.mem_cons, List.not_mem_nil, or_false] at hq; subst hq; exact m2
  · simp only [List.mem_cons, List.not_mem_nil, or_false] at hq; subst hq; exact h3
theorem roundL_still : ∀ (l : List gramL.Prod) (s : FS), (roundL l s).more = false → s.more = false ∧ (roundL l s).E = s.E ∧ (roundL l s).R = s.R ∧ (roundL l s).M = s.M ∧ ClosedS l s.E s.R s.M
  | [], s, h => ⟨h, rfl, rfl, rfl, ⟨fun p hp => (by cases hp), fun p hp => (by cases hp), fun p hp => (by cases hp)⟩⟩
  | p :: r, s, h => by
    rw [roundL] at h ⊢
    obtain ⟨h1, h2, h3, h4, h5⟩ := roundL_still r _ h
    obtain ⟨k1, k2, k3, k4, k5⟩ := roundP_still h1
    rw [k2] at h2
    rw [k3] at h3
    rw [k4] at h4
    rw [k2, k3, k4] at h5
    refine ⟨k1, h2, h3, h4, ⟨fun q hq => ?_, fun q hq => ?_, fun q hq => ?_⟩⟩
    · rcases List.mem_cons.1 hq with rfl | hq
      · exact k5.empty q (by simp)
      · exact h5.empty q hq
    · rcases List.mem_cons.1 hq with rfl | hq
      · exact k5.makes q (by simp)
      · exact h5.makes q hq
    · rcases List.mem_cons.1 hq with rfl | hq
      · exact k5.reach q (by simp)
      · exact h5.reach q hq
/-- what is true stays true -/
theorem markF_keep {l : List Bool} {i k : Nat} {b : Bool} (h : l.getD k false = true) : (markF l i b).1.getD k false = true := by
  unfold markF
  split
  · rw [List.getD_eq_getElem?_getD] at h ⊢
    rw [List.getElem?_set]
    split
    · split
      · rfl
      · rename_i e1 e2
        rw [List.getElem?_eq_none (by omega)] at h; cases h
    · exact h
  · exact h
theorem roundR_keep {h k : Nat} : ∀ (body : List Sym) (R : List Bool) (more : Bool), R.getD k false = true → (roundR h body R more).1.getD k false = true
  | [], R, more, hk => hk
  | x :: r, R, more, hk => by
    rw [roundR]
    refine roundR_keep r _ _ ?_
    unfold stepR
    split
    · exact markF_keep hk
    · exact hk
theorem roundL_keep {k : Nat} : ∀ (l : List gramL.Prod) (s : FS), s.R.getD k false = true → (roundL l s).R.getD k false = true
  | [], s, h => h
  | p :: r, s, h => by
    rw [roundL]
    refine roundL_keep r _ ?_
    unfold roundP
    exact roundR_keep _ _ _ h
theorem passWb_still {E : List Bool} {F : List Nat} {h : Nat} : ∀ (body : List Sym) (W : List Nat) (more : Bool), (passWb E F h body W more).2 = false → more = false ∧ (passWb E F h body W more).1 = W ∧ ∀ pre x post, body = pre ++ x :: post → x.1 = 2 → W.getD x.2.toNat 0 ||| beginF E F post (W.getD h 0) = W.getD x.2.toNat 0
  | [], W, more, hm => ⟨hm, rfl, fun pre x post e => by simp at e⟩
  | y :: r, W, more, hm => by
    rw [passWb] at hm ⊢
    unfold stepW at hm ⊢
    by_cases c : y.1 = 2
    · rw [if_pos c] at hm ⊢
      obtain ⟨h1, h2, h3⟩ := passWb_still r _ _ hm
      rw [Bool.or_eq_false_iff] at h1
      have h4 : W.getD y.2.toNat 0 ||| beginF E F r (W.getD h 0) = W.getD y.2.toNat 0 := by
        have := h1.1
        unfold addF at this
        simpa using this
      have h5 : (addF W y.2.toNat (beginF E F r (W.getD h 0))).1 = W := by
        unfold addF
        dsimp only
        rw [h4, set_getD]
      rw [h2]
      dsimp only at h3 ⊢
      rw [h5] at h3 ⊢
      refine ⟨h1.2, rfl, fun pre x post e hx => ?_⟩
      match pre, e with
      | [], e =>
        simp only [List.nil_append, List.cons.injEq] at e
        obtain ⟨rfl, rfl⟩ := e
        exact h4
      | z :: pre, e =>
        simp only [List.cons_append, List.cons.injEq] at e
        exact h3 pre x post e.2 hx
    · rw [if_neg c] at hm ⊢
      obtain ⟨h1, h2, h3⟩ := passWb_still r _ _ hm
      refine ⟨h1, h2, fun pre x post e hx => ?_⟩
      match pre, e with
      | [], e =>
        simp only [List.nil_append, List.cons.injEq] at e
        obtain ⟨rfl, rfl⟩ := e
        exact absurd hx c
      | z :: pre, e =>
        simp only [List.cons_append, List.cons.injEq] at e
        exact h3 pre x post e.2 hx
theorem passW_still {E : List Bool} {F : List Nat} : ∀ (l : List gramL.Prod) (W : List Nat) (more : Bool), (passW E F l W more).2 = false → more = false ∧ (passW E F l W more).1 = W ∧ ∀ p ∈ l, ∀ pre x post, p.2 = pre ++ x :: post → x.1 = 2 → W.getD x.2.toNat 0 ||| beginF E F post (W.getD p.1.toNat 0) = W.getD x.2.toNat 0
  | [], W, more, hm => ⟨hm, rfl, fun p hp => by cases hp⟩
  | p :: r, W, more, hm => by
    rw [passW] at hm ⊢
    obtain ⟨h1, h2, h3⟩ := passW_still r _ _ hm
    obtain ⟨k1, k2, k3⟩ := passWb_still p.2 W more h1
    rw [k2] at h2 h3 ⊢
    refine ⟨k1, h2, fun q hq => ?_⟩
    rcases List.mem_cons.1 hq with rfl | hq
    · exact k3
    · exact h3 q hq
theorem addF_keep {l : List Nat} {i b k z : Nat} (h : (l.getD k 0).testBit z = true) : ((addF l i b).1.getD k 0).testBit z = true := by
  unfold addF
  dsimp only
  rw [List.getD_eq_getElem?_getD, List.getElem?_set]
  split
  · rename_i e
    subst e
    split
    · rw [Option.getD_some, Nat.testBit_or, h, Bool.true_or]
    · rename_i e2
      rw [List.getD_eq_getElem?_getD, List.getElem?_eq_none (by omega)] at h; simp at h
  · rw [← List.getD_eq_getElem?_getD]; exact h
theorem passWb_keep {E : List Bool} {F : List Nat} {h k z : Nat} : ∀ (body : List Sym) (W : List Nat) (more : Bool), (W.getD k 0).testBit z = true → ((passWb E F h body W more).1.getD k 0).testBit z = true
  | [], W, more, hk => hk
  | x :: r, W, more, hk => by
    rw [passWb]
    refine passWb_keep r _ _ ?_
    unfold stepW
    split
    · exact addF_keep hk
    · exact hk
theorem passW_keep {E : List Bool} {F : List Nat} {k z : Nat} : ∀ (l : List gramL.Prod) (W : List Nat) (more : Bool), (W.getD k 0).testBit z = true → ((passW E F l W more).1.getD k 0).testBit z = true
  | [], W, more, hk => hk
  | p :: r, W, more, hk => by
    rw [passW]
    exact passW_keep r _ _ (passWb_keep _ _ _ hk)
/-- nothing is missing of any set -/
structure ClosedF (l : List gramL.Prod) (E : List Bool) (F W : List Nat) (R M : List Bool) : Prop extends ClosedS l E R M where
  first : ∀ p ∈ l, allF M p.2 true = true → F.getD p.1.toNat 0 ||| beginF E F p.2 0 = F.getD p.1.toNat 0
  follow : ∀ p ∈ l, ∀ pre x post, p.2 = pre ++ x :: post → x.1 = 2 → W.getD x.2.toNat 0 ||| beginF E F post (W.getD p.1.toNat 0) = W.getD x.2.toNat 0
  top : R.getD 0 false = true
  last : (W.getD 0 0).testBit 63 = true
theorem or_bit {x y z : Nat} (h : x ||| y = x) (hy : y.testBit z = true) : x.testBit z = true := by
  rw [← h, Nat.testBit_or, hy, Bool.or_true]
end Go.Proofs.Ytnicebdkejkieaa.factsL
