/- Counting trees: the chart is the least one that is right; no program in sight. -/
import Derived.Test.YtnicebdkejkieaaCountL
namespace Go.Proofs.Ytnicebdkejkieaa.countL
open gramL
theorem sumN_mono {f f' : Nat → Nat} : ∀ k, (∀ j, j < k → f j ≤ f' j) → sumN f k ≤ sumN f' k
  | 0, _ => Nat.le_refl _
  | k + 1, h => by
    rw [sumN, sumN]
    exact Nat.add_le_add (sumN_mono k fun j hj => h j (by omega)) (h k (by omega))
theorem nextF_mono {o o' : Nat → Nat → Nat} {f f' : Nat → Nat} {b : Nat} (ho : ∀ j, j ≤ b → o j b ≤ o' j b) (hf : ∀ j, j ≤ b → f j ≤ f' j) : nextF o f b ≤ nextF o' f' b := by
  have := sumN_mono (f := fun j => f j * o j b) (f' := fun j => f' j * o' j b) (b + 1) fun j hj => Nat.mul_le_mul (hf j (by omega)) (ho j (by omega))
  unfold nextF
  omega
theorem waysF_mono {o o' : Sym → Nat → Nat → Nat} {a d : Nat} : ∀ (l : List Sym) (f f' : Nat → Nat), (∀ x ∈ l, ∀ i j, i ≤ j → j ≤ d → o x (a + i) (a + j) ≤ o' x (a + i) (a + j)) → (∀ j, j ≤ d → f j ≤ f' j) → ∀ j, j ≤ d → waysF o a l f j ≤ waysF o' a l f' j
  | [], _, _, _, hf, j, hj => hf j hj
  | x :: r, f, f', ho, hf, j, hj => by
    rw [waysF, waysF]
    exact waysF_mono r _ _ (fun y hy => ho y (by simp [hy])) (fun j hj => nextF_mono (o := fun i j => o x (a + i) (a + j)) (o' := fun i j => o' x (a + i) (a + j)) (fun i hi => ho x (by simp) i j hi hj) fun i hi => hf i (by omega)) j hj
theorem rowF_mono {o o' : Sym → Nat → Nat → Nat} {l : List Sym} {a b : Nat} (hab : a ≤ b) (ho : ∀ x ∈ l, ∀ i j, a ≤ i → i ≤ j → j ≤ b → o x i j ≤ o' x i j) : rowF o l a b ≤ rowF o' l a b :=
  waysF_mono (d := b - a) l _ _ (fun x hx i j hi hj => ho x hx (a + i) (a + j) (by omega) (by omega) (by omega)) (fun _ _ => Nat.le_refl _) _ (Nat.le_refl _)
theorem sumP_mono {o o' : Sym → Nat → Nat → Nat} {a b n : Nat} : ∀ (l : List gramL.Prod), (∀ p ∈ l, p.1 = (n : Int) → rowF o p.2 a b ≤ rowF o' p.2 a b) → sumP o a b n l ≤ sumP o' a b n l
  | [], _ => Nat.le_refl _
  | p :: r, h => by
    rw [sumP, sumP]
    refine Nat.add_le_add ?_ (sumP_mono r fun q hq => h q (by simp [hq]))
    split
    · exact h p (by simp) (by assumption)
    · exact Nat.le_refl _
theorem nowF_mono {o o' : Sym → Nat → Nat → Nat} {l : List gramL.Prod} {a b n : Nat} (hab : a ≤ b) (ho : ∀ p ∈ l, ∀ x ∈ p.2, ∀ i j, a ≤ i → i ≤ j → j ≤ b → o x i j ≤ o' x i j) : nowF o l a b n ≤ nowF o' l a b n := by
  have := sumP_mono (n := n) l fun p hp _ => rowF_mono (l := p.2) hab (ho p hp)
  unfold nowF
  omega
/-- symbols of productions: nonterminals are there -/
def NonsIn (n : Nat) (l : List gramL.Prod) : Prop := ∀ p ∈ l, ∀ x ∈ p.2, x.1 = 2 → 0 ≤ x.2 ∧ x.2 < (n : Int)
theorem oneF_mono {c c' : Chart} {w : List Int} {n : Nat} {x : Sym} {a b : Nat} (hx : x.1 = 2 → 0 ≤ x.2 ∧ x.2 < (n : Int)) (h : ∀ k, k < n → c ((k : Int), (a : Int), (b : Int)) ≤ c' ((k : Int), (a : Int), (b : Int))) : oneF c w x a b ≤ oneF c' w x a b := by
  unfold oneF
  split
  · rename_i e
    obtain ⟨h1, h2⟩ := hx e
    have e2 : x.2 = ((x.2.toNat : Nat) : Int) := by omega
    rw [e2]
    exact h _ (by omega)
  · exact Nat.le_refl _
theorem now_mono {c c' : Chart} {w : List Int} {n : Nat} {l : List gramL.Prod} (hl : NonsIn n l) {a b : Nat} (hab : a ≤ b) (h : ∀ k i j, k < n → a ≤ i → i ≤ j → j ≤ b → c ((k : Int), (i : Int), (j : Int)) ≤ c' ((k : Int), (i : Int), (j : Int))) (m : Nat) : nowF (oneF c w) l a b m ≤ nowF (oneF c' w) l a b m :=
  nowF_mono hab fun p hp x hx i j h1 h2 h3 => oneF_mono (hl p hp x hx) fun k hk => h k i j hk h1 h2 h3
/-- a chart in which nothing is missing -/
def PreC (w : List Int) (l : List gramL.Prod) (n : Nat) (S : Chart) : Prop := ∀ k a b, k < n → a ≤ b → b ≤ w.length → nowF (oneF S w) l a b k ≤ S ((k : Int), (a : Int), (b : Int))
def Fix1 (w : List Int) (l : List gramL.Prod) (n : Nat) (c : Chart) (a b : Nat) : Prop := ∀ k, k < n → c ((k : Int), (a : Int), (b : Int)) = nowF (oneF c w) l a b k
/-- the least chart that is right -/
structure Lfp (w : List Int) (l : List gramL.Prod) (n : Nat) (c : Chart) : Prop where
  le2 : ∀ x, c x ≤ 2
  fixed : ∀ a b, a ≤ b → b ≤ w.length → Fix1 w l n c a b
  least : ∀ S, PreC w l n S → ∀ k a b, k < n → a ≤ b → b ≤ w.length → c ((k : Int), (a : Int), (b : Int)) ≤ S ((k : Int), (a : Int), (b : Int))
/-- some spans are done -/
structure InvC (w : List Int) (l : List gramL.Prod) (n : Nat) (D : Nat → Nat → Prop) (c : Chart) : Prop where
  le2 : ∀ x, c x ≤ 2
  fixed : ∀ a b, a ≤ b → b ≤ w.length → D a b → Fix1 w l n c a b
  least : ∀ S, PreC w l n S → ∀ k a b, k < n → a ≤ b → b ≤ w.length → c ((k : Int), (a : Int), (b : Int)) ≤ S ((k : Int), (a : Int), (b : Int))
  zero : ∀ k a b, k < n → a ≤ b → b ≤ w.length → ¬ D a b → c ((k : Int), (a : Int), (b : Int)) = 0
/-- one is under way -/
structure InvI (w : List Int) (l : List gramL.Prod) (n : Nat) (D : Nat → Nat → Prop) (a b : Nat) (c : Chart) : Prop where
  le2 : ∀ x, c x ≤ 2
  fixed : ∀ i j, i ≤ j → j ≤ w.length → D i j → Fix1 w l n c i j
  least : ∀ S, PreC w l n S → ∀ k i j, k < n → i ≤ j → j ≤ w.length → c ((k : Int), (i : Int), (j : Int)) ≤ S ((k : Int), (i : Int), (j : Int))
  zero : ∀ k i j, k < n → i ≤ j → j ≤ w.length → ¬ D i j → ¬ (i = a ∧ j = b) → c ((k : Int), (i : Int), (j : Int)) = 0
  grow : ∀ k, k < n → c ((k : Int), (a : Int), (b : Int)) ≤ nowF (oneF c w) l a b k
section
variable {w : List Int} {l : List gramL.Prod} {n : Nat} {D D' : Nat → Nat → Prop} {a b : Nat} {c : Chart}
theorem InvC.begin (h : InvC w l n D c) (hab : a ≤ b) (hb : b ≤ w.length) (hD : ¬ D a b) : InvI w l n D a b c :=
  ⟨h.le2, h.fixed, h.least, fun k i j hk h1 h2 h3 _ => h.zero k i j hk h1 h2 h3, fun k hk => by rw [h.zero k a b hk hab hb hD]; exact Nat.zero_le _⟩
theorem InvI.done (h : InvI w l n D a b c) (hf : Fix1 w l n c a b) (hD : ∀ i j, i ≤ j → j ≤ w.length → (D' i j ↔ D i j ∨ (i = a ∧ j = b))) : InvC w l n D' c :=
  ⟨h.le2, fun i j h1 h2 h3 => ((hD i j h1 h2).1 h3).elim (h.fixed i j h1 h2) fun ⟨e1, e2⟩ => by subst e1 e2; exact hf, h.least, fun k i j hk h1 h2 h3 => by
    have : ¬ (D i j ∨ (i = a ∧ j = b)) := fun h => h3 ((hD i j h1 h2).2 h)
    exact h.zero k i j hk h1 h2 (fun h => this (.inl h)) fun h => this (.inr h)⟩
theorem InvC.same (h : InvC w l n D c) (hD : ∀ i j, i ≤ j → j ≤ w.length → (D' i j ↔ D i j)) : InvC w l n D' c :=
  ⟨h.le2, fun i j h1 h2 h3 => h.fixed i j h1 h2 ((hD i j h1 h2).1 h3), h.least, fun k i j hk h1 h2 h3 => h.zero k i j hk h1 h2 fun h => h3 ((hD i j h1 h2).2 h)⟩
theorem InvC.lfp (h : InvC w l n D c) (hD : ∀ i j, i ≤ j → j ≤ w.length → D i j) : Lfp w l n c :=
  ⟨h.le2, fun i j h1 h2 => h.fixed i j h1 h2 (hD i j h1 h2), h.least⟩
theorem inv0 : InvC w l n (fun i j => j - i < 0) (fun _ => 0) :=
  ⟨fun _ => by omega, fun _ _ _ _ h => by omega, fun _ _ _ _ _ _ _ _ => Nat.zero_le _, fun _ _ _ _ _ _ _ => rfl⟩
theorem roundC_in {k : Nat} (hk : k < n) : roundC c w l n a b n ((k : Int), (a : Int), (b : Int)) = nowF (oneF c w) l a b k := by
  unfold roundC
  rw [if_pos (by dsimp only; omega), Int.toNat_natCast]
theorem roundC_out {k i j : Nat} (h : ¬ (i = a ∧ j = b)) : roundC c w l n a b n ((k : Int), (i : Int), (j : Int)) = c ((k : Int), (i : Int), (j : Int)) := by
  unfold roundC
  rw [if_neg (by dsimp only; omega)]
theorem round_le2 (h : ∀ x, c x ≤ 2) (x : Span) : roundC c w l n a b n x ≤ 2 := by
  unfold roundC
  split
  · exact nowF_le _ _ _ _ _
  · exact h x
theorem round_up (h : InvI w l n D a b c) {k i j : Nat} (hk : k < n) : c ((k : Int), (i : Int), (j : Int)) ≤ roundC c w l n a b n ((k : Int), (i : Int), (j : Int)) := by
  by_cases e : i = a ∧ j = b
  · obtain ⟨rfl, rfl⟩ := e
    rw [roundC_in hk]; exact h.grow k hk
  · rw [roundC_out e]; exact Nat.le_refl _
theorem round_inv (hl : NonsIn n l) (h : InvI w l n D a b c) (hab : a ≤ b) (hb : b ≤ w.length) (hD : ∀ i j, D i j → ¬ (i ≤ a ∧ b ≤ j)) : InvI w l n D a b (roundC c w l n a b n) := by
  refine ⟨round_le2 h.le2, fun i j h1 h2 h3 => ?_, fun S hS k i j hk h1 h2 => ?_, fun k i j hk h1 h2 h3 h4 => ?_, fun k hk => ?_⟩
  · intro k hk
    have hne : ¬ (i = a ∧ j = b) := fun ⟨e1, e2⟩ => hD i j h3 ⟨by omega, by omega⟩
    rw [roundC_out hne, h.fixed i j h1 h2 h3 k hk]
    apply Nat.le_antisymm
    · exact now_mono hl h1 (fun q x y hq _ _ _ => round_up h hq) k
    · refine now_mono hl h1 (fun q x y hq h4 h5 h6 => ?_) k
      rw [roundC_out fun ⟨e1, e2⟩ => hD i j h3 ⟨by omega, by omega⟩]
      exact Nat.le_refl _
  · by_cases e : i = a ∧ j = b
    · obtain ⟨rfl, rfl⟩ := e
      rw [roundC_in hk]
      exact Nat.le_trans (now_mono hl h1 (fun q x y hq h4 h5 h6 => h.least S hS q x y hq h5 (by omega)) k) (hS k i j hk h1 h2)
    · rw [roundC_out e]
      exact h.least S hS k i j hk h1 h2
  · rw [roundC_out h4]
    exact h.zero k i j hk h1 h2 h3 h4
  · rw [roundC_in hk]
    exact now_mono hl hab (fun q x y hq _ _ _ => round_up h hq) k
theorem newB_false : ∀ k, newB c w l a b k = false → ∀ i, i < k → c ((i : Int), (a : Int), (b : Int)) = nowF (oneF c w) l a b i
  | 0, _, _, h => by omega
  | k + 1, h, i, hi => by
    rw [newB, Bool.or_eq_false_iff] at h
    by_cases e : i = k
    · subst e; simpa using h.2
    · exact newB_false k h.1 i (by omega)
theorem round_fix (hl : NonsIn n l) (h : InvI w l n D a b c) (hab : a ≤ b) (hnew : newB c w l a b n = false) : Fix1 w l n (roundC c w l n a b n) a b := by
  have hf := newB_false n hnew
  intro k hk
  rw [roundC_in hk]
  apply Nat.le_antisymm
  · exact now_mono hl hab (fun q x y hq _ _ _ => round_up h hq) k
  · refine now_mono hl hab (fun q x y hq h4 h5 h6 => ?_) k
    by_cases e : x = a ∧ y = b
    · obtain ⟨rfl, rfl⟩ := e
      rw [roundC_in hq, hf q hq]; exact Nat.le_refl _
    · rw [roundC_out e]; exact Nat.le_refl _
/-- how much a span may still get -/
def lackC (n : Nat) (c : Chart) (a b : Nat) : Nat := sumN (fun k => 2 - c ((k : Int), (a : Int), (b : Int))) n
theorem lackC_le (n : Nat) (c : Chart) (a b : Nat) : lackC n c a b ≤ 2 * n := by
  unfold lackC
  induction n with
  | zero => exact Nat.le_refl _
  | succ k ih => rw [sumN]; omega
theorem lack_round (h : InvI w l n D a b c) : ∀ k, k ≤ n → lackC k (roundC c w l n a b n) a b ≤ lackC k c a b ∧ (newB c w l a b k = true → lackC k (roundC c w l n a b n) a b < lackC k c a b)
  | 0, _ => ⟨Nat.le_refl _, fun h => by cases h⟩
  | k + 1, hk => by
    obtain ⟨ih1, ih2⟩ := lack_round h k (by omega)
    have hu := h.grow k (by omega)
    have h2 := nowF_le (oneF c w) l a b k
    unfold lackC at ih1 ih2 ⊢
    rw [sumN, sumN, roundC_in (by omega), newB]
    refine ⟨by omega, fun hc => ?_⟩
    rw [Bool.or_eq_true] at hc
    rcases hc with hc | hc
    · have := ih2 hc; omega
    · simp only [Bool.not_eq_true', decide_eq_false_iff_not] at hc
      omega
end
end Go.Proofs.Ytnicebdkejkieaa.countL
