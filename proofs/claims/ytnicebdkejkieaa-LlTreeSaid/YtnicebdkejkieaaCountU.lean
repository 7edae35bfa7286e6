/- Where two are counted there are two trees; no program in sight. -/
import Derived.Test.YtnicebdkejkieaaDer
namespace Go.Proofs.Ytnicebdkejkieaa.derL
open gramL treeL countL
def TreeA (l : List gramL.Prod) (w : List Int) (x : Sym) (a b : Nat) (t : Tree) : Prop := Right l t x a ∧ yieldX l t x = cut w a b
def KidsA (l : List gramL.Prod) (w : List Int) (body : List Sym) (a b : Nat) (ts : List Tree) : Prop := Rights l ts body a ∧ yields l ts body = cut w a b
theorem TreeA.leaves {l : List gramL.Prod} {w : List Int} {x : Sym} {a b : Nat} {t : Tree} (h : TreeA l w x a b t) (hab : a ≤ b) (hb : b ≤ w.length) : leaves t = b - a := by
  rw [← yieldX_len h.1, h.2, cut_len hab hb]
theorem kidsA_cons {l : List gramL.Prod} {w : List Int} {y : Sym} {r : List Sym} {a m b : Nat} {t : Tree} {ts : List Tree} (h1 : TreeA l w y a m t) (h2 : KidsA l w r m b ts) (ham : a ≤ m) (hmb : m ≤ b) (hb : b ≤ w.length) : KidsA l w (y :: r) a b (t :: ts) := by
  have hl := h1.leaves ham (by omega)
  refine ⟨?_, ?_⟩
  · rw [Rights, hl, show a + (m - a) = m by omega]; exact ⟨h1.1, h2.1⟩
  · rw [yields_X, h1.2, h2.2, cut_app ham hmb]
theorem sumN_two {f : Nat → Nat} : ∀ {k : Nat}, 2 ≤ sumN f k → (∃ i, i < k ∧ 2 ≤ f i) ∨ ∃ i j, i < j ∧ j < k ∧ 0 < f i ∧ 0 < f j
  | 0, h => by simp [sumN] at h
  | k + 1, h => by
    rw [sumN] at h
    by_cases c : 2 ≤ f k
    · exact .inl ⟨k, by omega, c⟩
    · by_cases c2 : 2 ≤ sumN f k
      · rcases sumN_two c2 with ⟨i, h1, h2⟩ | ⟨i, j, h1, h2, h3⟩
        · exact .inl ⟨i, by omega, h2⟩
        · exact .inr ⟨i, j, h1, by omega, h3⟩
      · obtain ⟨i, h1, h2⟩ := sumN_pos (f := f) (k := k) (by omega)
        exact .inr ⟨i, k, h1, by omega, h2, by omega⟩
section
variable {l : List gramL.Prod} {w : List Int} {o : Sym → Nat → Nat → Nat}
theorem row_one : ∀ (body : List Sym) (a b : Nat), a ≤ b → b ≤ w.length → (∀ y ∈ body, ∀ i j, i ≤ j → j ≤ w.length → 0 < o y i j → ∃ t, TreeA l w y i j t) → 0 < rowE o body a b → ∃ ts, KidsA l w body a b ts
  | [], a, b, hab, _, _, h => by
    rw [rowE] at h
    have hE : a = b := by
      by_cases c : a = b
      · exact c
      · rw [if_neg c] at h; omega
    subst hE
    exact ⟨[], by rw [Rights]; trivial, by rw [cut_self]; simp [yields, actss]⟩
  | y :: r, a, b, hab, hb, ho, h => by
    rw [rowE] at h
    obtain ⟨i, h1, h2⟩ := sumN_pos h
    have h2 : 0 < o y a (a + i) * rowE o r (a + i) b := h2
    obtain ⟨t, ht⟩ := ho y (by simp) a (a + i) (by omega) (by omega) (Nat.pos_of_mul_pos_right h2)
    obtain ⟨ts, hts⟩ := row_one r (a + i) b (by omega) hb (fun z hz => ho z (by simp [hz])) (Nat.pos_of_mul_pos_left h2)
    exact ⟨t :: ts, kidsA_cons ht hts (by omega) (by omega) hb⟩
theorem row_two : ∀ (body : List Sym) (a b : Nat), a ≤ b → b ≤ w.length → (∀ y ∈ body, ∀ i j, i ≤ j → j ≤ w.length → 0 < o y i j → ∃ t, TreeA l w y i j t) → (∀ y ∈ body, ∀ i j, i ≤ j → j ≤ w.length → 2 ≤ o y i j → ∃ t t', t ≠ t' ∧ TreeA l w y i j t ∧ TreeA l w y i j t') → 2 ≤ rowE o body a b → ∃ ts ts', ts ≠ ts' ∧ KidsA l w body a b ts ∧ KidsA l w body a b ts'
  | [], a, b, _, _, _, _, h => by
    rw [rowE] at h
    split at h <;> omega
  | y :: r, a, b, hab, hb, ho, ho2, h => by
    rw [rowE] at h
    have one := fun i (hi : i < b - a + 1) (h : 0 < o y a (a + i) * rowE o r (a + i) b) => (show ∃ t ts, TreeA l w y a (a + i) t ∧ KidsA l w r (a + i) b ts from by
      obtain ⟨t, ht⟩ := ho y (by simp) a (a + i) (by omega) (by omega) (Nat.pos_of_mul_pos_right h)
      obtain ⟨ts, hts⟩ := row_one (w := w) r (a + i) b (by omega) hb (fun z hz => ho z (by simp [hz])) (Nat.pos_of_mul_pos_left h)
      exact ⟨t, ts, ht, hts⟩)
    rcases sumN_two h with ⟨i, h1, h2⟩ | ⟨i, j, h1, h2, h3, h4⟩
    · have h2 : 2 ≤ o y a (a + i) * rowE o r (a + i) b := h2
      obtain ⟨t, ts, ht, hts⟩ := one i h1 (by omega)
      by_cases c : 2 ≤ o y a (a + i)
      · obtain ⟨t1, t2, hne, k1, k2⟩ := ho2 y (by simp) a (a + i) (by omega) (by omega) c
        exact ⟨t1 :: ts, t2 :: ts, fun e => hne (by simpa using e), kidsA_cons k1 hts (by omega) (by omega) hb, kidsA_cons k2 hts (by omega) (by omega) hb⟩
      · have c2 : 2 ≤ rowE o r (a + i) b := by
          apply Nat.le_of_not_lt
          intro c2
          have := Nat.mul_le_mul (show o y a (a + i) ≤ 1 by omega) (show rowE o r (a + i) b ≤ 1 by omega)
          omega
        obtain ⟨t1, t2, hne, k1, k2⟩ := row_two r (a + i) b (by omega) hb (fun z hz => ho z (by simp [hz])) (fun z hz => ho2 z (by simp [hz])) c2
        exact ⟨t :: t1, t :: t2, fun e => hne (by simpa using e), kidsA_cons ht k1 (by omega) (by omega) hb, kidsA_cons ht k2 (by omega) (by omega) hb⟩
    · have h3 : 0 < o y a (a + i) * rowE o r (a + i) b := h3
      have h4 : 0 < o y a (a + j) * rowE o r (a + j) b := h4
      obtain ⟨t, ts, ht, hts⟩ := one i (by omega) h3
      obtain ⟨t', ts', ht', hts'⟩ := one j h2 h4
      refine ⟨t :: ts, t' :: ts', fun e => ?_, kidsA_cons ht hts (by omega) (by omega) hb, kidsA_cons ht' hts' (by omega) (by omega) hb⟩
      simp only [List.cons.injEq] at e
      have e1 := ht.leaves (by omega) (by omega)
      have e2 := ht'.leaves (by omega) (by omega)
      rw [e.1] at e1
      omega
end
theorem sumP_kinds {o : Sym → Nat → Nat → Nat} {a b n : Nat} : ∀ {l : List gramL.Prod}, 2 ≤ sumP o a b n l → (∃ k, k < l.length ∧ (prodAt l (k : Int)).1 = (n : Int) ∧ 2 ≤ rowF o (prodAt l (k : Int)).2 a b) ∨ ∃ k k', k < k' ∧ k' < l.length ∧ (prodAt l (k : Int)).1 = (n : Int) ∧ 0 < rowF o (prodAt l (k : Int)).2 a b ∧ (prodAt l (k' : Int)).1 = (n : Int) ∧ 0 < rowF o (prodAt l (k' : Int)).2 a b
  | [], h => by simp [sumP] at h
  | p :: r, h => by
    rw [sumP] at h
    have sh : ∀ k : Nat, prodAt (p :: r) ((k + 1 : Nat) : Int) = prodAt r (k : Int) := fun k => rfl
    have hc : (p.1 = (n : Int) ∧ 2 ≤ rowF o p.2 a b) ∨ (p.1 = (n : Int) ∧ 0 < rowF o p.2 a b ∧ 0 < sumP o a b n r) ∨ 2 ≤ sumP o a b n r := by
      by_cases c : p.1 = (n : Int)
      · rw [if_pos c] at h
        by_cases c2 : 2 ≤ rowF o p.2 a b
        · exact .inl ⟨c, c2⟩
        · by_cases c3 : 0 < rowF o p.2 a b
          · exact .inr (.inl ⟨c, c3, by omega⟩)
          · exact .inr (.inr (by omega))
      · rw [if_neg c, Nat.zero_add] at h
        exact .inr (.inr h)
    rcases hc with ⟨c, c2⟩ | ⟨c, c2, c3⟩ | c
    · exact .inl ⟨0, by simp, c, c2⟩
    · obtain ⟨k, h1, h2, h3⟩ := sumP_pos (l := r) (o := o) (a := a) (b := b) (n := n) c3
      exact .inr ⟨0, k + 1, by omega, by simp; omega, c, c2, by rw [sh]; exact h2, by rw [sh]; exact h3⟩
    · rcases sumP_kinds c with ⟨k, h1, h2, h3⟩ | ⟨k, k', h1, h2, h3, h4, h5, h6⟩
      · exact .inl ⟨k + 1, by simp; omega, by rw [sh]; exact h2, by rw [sh]; exact h3⟩
      · exact .inr ⟨k + 1, k' + 1, by omega, by simp; omega, by rw [sh]; exact h3, by rw [sh]; exact h4, by rw [sh]; exact h5, by rw [sh]; exact h6⟩
section
variable {w : List Int} {l : List gramL.Prod} {n : Nat} {c : Chart}
theorem treeA_node {k : Nat} {q a b : Nat} {ts : List Tree} (hk : k < l.length) (hq : (prodAt l (k : Int)).1 = (q : Int)) (h : KidsA l w (prodAt l (k : Int)).2 a b ts) : TreeA l w (2, (q : Int)) a b (.mk (k : Int) 0 ts) := by
  refine ⟨?_, ?_⟩
  · rw [Right]; exact .inr ⟨by show (2 : Int) ≠ 1; decide, by omega, by omega, hq, rfl, h.1⟩
  · unfold yieldX
    rw [if_neg (by show ¬ (k : Int) < 0; omega), yieldT_eq]; exact h.2
theorem treeA_leaf {y : Sym} {a b : Nat} (hy : y.1 = 1) (hb : b = a + 1) (h : w[a]? = some y.2) : TreeA l w y a b (.mk (-1) (a : Int) []) := by
  obtain ⟨h1, h2⟩ := List.getElem?_eq_some_iff.1 h
  refine ⟨by rw [Right]; exact .inl ⟨hy, rfl, rfl, rfl⟩, ?_⟩
  unfold yieldX cut
  rw [if_pos (by show (-1 : Int) < 0; decide), hb, show a + 1 - a = 1 by omega, List.drop_eq_getElem_cons h1, h2]; rfl
open Classical in
/-- trees as a chart -/
noncomputable def treesC (l : List gramL.Prod) (w : List Int) : Chart := fun x => if ∃ t t', t ≠ t' ∧ TreeA l w (2, x.1) x.2.1.toNat x.2.2.toNat t ∧ TreeA l w (2, x.1) x.2.1.toNat x.2.2.toNat t' then 2 else if ∃ t, TreeA l w (2, x.1) x.2.1.toNat x.2.2.toNat t then 1 else 0
open Classical in
theorem treesC_one {q : Int} {a b : Nat} (h : 0 < treesC l w (q, (a : Int), (b : Int))) : ∃ t, TreeA l w (2, q) a b t := by
  unfold treesC at h
  dsimp only at h
  rw [Int.toNat_natCast, Int.toNat_natCast] at h
  split at h
  · rename_i h1; obtain ⟨t, _, _, h2, _⟩ := h1; exact ⟨t, h2⟩
  · split at h
    · assumption
    · omega
open Classical in
theorem treesC_two {q : Int} {a b : Nat} (h : 2 ≤ treesC l w (q, (a : Int), (b : Int))) : ∃ t t', t ≠ t' ∧ TreeA l w (2, q) a b t ∧ TreeA l w (2, q) a b t' := by
  unfold treesC at h
  dsimp only at h
  rw [Int.toNat_natCast, Int.toNat_natCast] at h
  split at h
  · assumption
  · split at h <;> omega
open Classical in
theorem treesC_pre (hs : SymsOk n l) : PreC w l n (treesC l w) := fun q i j hq hij hj => by
  have ho : ∀ p ∈ l, ∀ y ∈ p.2, ∀ i j, i ≤ j → j ≤ w.length → 0 < oneF (treesC l w) w y i j → ∃ t, TreeA l w y i j t := fun p hp y hy i j h1 h2 h => by
    unfold oneF at h
    rcases (hs p hp).2.2 y hy with e | ⟨e, _⟩
    · rw [if_neg (by omega)] at h
      split at h
      · rename_i h3; exact ⟨_, treeA_leaf e h3.1 h3.2⟩
      · omega
    · rw [if_pos e] at h
      obtain ⟨y1, y2⟩ := y
      dsimp only at e; subst e
      exact treesC_one h
  have ho2 : ∀ p ∈ l, ∀ y ∈ p.2, ∀ i j, i ≤ j → j ≤ w.length → 2 ≤ oneF (treesC l w) w y i j → ∃ t t', t ≠ t' ∧ TreeA l w y i j t ∧ TreeA l w y i j t' := fun p hp y hy i j h1 h2 h => by
    unfold oneF at h
    rcases (hs p hp).2.2 y hy with e | ⟨e, _⟩
    · rw [if_neg (by omega)] at h
      split at h <;> omega
    · rw [if_pos e] at h
      obtain ⟨y1, y2⟩ := y
      dsimp only at e; subst e
      exact treesC_two h
  have two : 2 ≤ nowF (oneF (treesC l w) w) l i j q → ∃ t t', t ≠ t' ∧ TreeA l w (2, (q : Int)) i j t ∧ TreeA l w (2, (q : Int)) i j t' := fun h => by
    unfold nowF at h
    rcases sumP_kinds (Nat.le_min.1 h).2 with ⟨k, h1, h2, h3⟩ | ⟨k, k', h1, h2, h3, h4, h5, h6⟩
    · have hm := prodAt_mem (l := l) (p := (k : Int)) (by omega) (by omega)
      rw [rowF_E _ _ hij] at h3
      obtain ⟨ts, ts', hne, k1, k2⟩ := row_two (w := w) (l := l) _ i j hij hj (ho _ hm) (ho2 _ hm) (Nat.le_min.1 h3).2
      exact ⟨_, _, fun e => hne (by simpa using e), treeA_node h1 h2 k1, treeA_node h1 h2 k2⟩
    · have hm := prodAt_mem (l := l) (p := (k : Int)) (by omega) (by omega)
      have hm' := prodAt_mem (l := l) (p := (k' : Int)) (by omega) (by omega)
      rw [rowF_E _ _ hij] at h4 h6
      obtain ⟨ts, k1⟩ := row_one (w := w) (l := l) _ i j hij hj (ho _ hm) (Nat.lt_min.1 h4).2
      obtain ⟨ts', k2⟩ := row_one (w := w) (l := l) _ i j hij hj (ho _ hm') (Nat.lt_min.1 h6).2
      refine ⟨_, _, fun e => ?_, treeA_node (by omega) h3 k1, treeA_node h2 h5 k2⟩
      simp only [Tree.mk.injEq] at e
      omega
  have one : 0 < nowF (oneF (treesC l w) w) l i j q → ∃ t, TreeA l w (2, (q : Int)) i j t := fun h => by
    unfold nowF at h
    obtain ⟨k, h1, h2, h3⟩ := sumP_pos (Nat.lt_min.1 h).2
    have hm := prodAt_mem (l := l) (p := (k : Int)) (by omega) (by omega)
    rw [rowF_E _ _ hij] at h3
    obtain ⟨ts, k1⟩ := row_one (w := w) (l := l) _ i j hij hj (ho _ hm) (Nat.lt_min.1 h3).2
    exact ⟨_, treeA_node h1 h2 k1⟩
  have hle := nowF_le (oneF (treesC l w) w) l i j q
  show nowF (oneF (treesC l w) w) l i j q ≤ (if ∃ t t', t ≠ t' ∧ TreeA l w (2, (q : Int)) (i : Int).toNat (j : Int).toNat t ∧ TreeA l w (2, (q : Int)) (i : Int).toNat (j : Int).toNat t' then 2 else if ∃ t, TreeA l w (2, (q : Int)) (i : Int).toNat (j : Int).toNat t then 1 else 0)
  rw [Int.toNat_natCast, Int.toNat_natCast]
  generalize nowF (oneF (treesC l w) w) l i j q = N at *
  by_cases c2 : 2 ≤ N
  · rw [if_pos (two c2)]; exact hle
  · split
    · omega
    · by_cases c1 : 0 < N
      · rw [if_pos (one c1)]; omega
      · omega
end
/-- where two are counted there are two trees -/
theorem two_trees {g : Gram} {w : List Int} (h : 2 ≤ treesN g w) : ∃ t t', t ≠ t' ∧ Right g.prods t (2, 0) 0 ∧ yieldT g.prods t = w ∧ Right g.prods t' (2, 0) 0 ∧ yieldT g.prods t' = w := by
  unfold treesN at h
  split at h
  · rename_i hck
    obtain ⟨hg, _, _⟩ := checkC_ok hck
    obtain ⟨_, _, a3, _⟩ := checkG_ok hg
    have hs := symsOk_of (n := g.nons.toNat) hg (by omega)
    have hl := (chartOf_lfp (w := w) hs.nons).least _ (treesC_pre hs) 0 0 w.length (by omega) (Nat.zero_le _) (Nat.le_refl _)
    have hl : chartOf w g.prods g.nons.toNat (0, 0, (w.length : Int)) ≤ treesC g.prods w (0, ((0 : Nat) : Int), (w.length : Int)) := hl
    obtain ⟨t, t', hne, h1, h2⟩ := treesC_two (Nat.le_trans h hl)
    have hy : ∀ t, TreeA g.prods w (2, 0) 0 w.length t → yieldT g.prods t = w := fun t h => by
      have hp : 0 ≤ t.prod := by
        obtain ⟨p, k, kids⟩ := t
        have h1 := h.1
        rw [Right] at h1
        rcases h1 with ⟨e, _⟩ | ⟨_, e, _⟩
        · cases e
        · exact e
      have h2 := h.2
      unfold yieldX at h2
      rw [if_neg (by omega), cut_end rfl] at h2
      exact h2
    exact ⟨t, t', hne, h1.1, hy t h1, h2.1, hy t' h2⟩
  · omega
end Go.Proofs.Ytnicebdkejkieaa.derL
