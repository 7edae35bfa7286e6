/- Trees are counted; no program in sight. -/
import Derived.Test.YtnicebdkejkieaaTreeM
import Derived.Test.YtnicebdkejkieaaCountR
namespace Go.Proofs.Ytnicebdkejkieaa.countL
open gramL treeL
/-- symbols of a grammar -/
def SymsOk (n : Nat) (l : List gramL.Prod) : Prop := ∀ p ∈ l, 0 ≤ p.1 ∧ p.1 < (n : Int) ∧ ∀ x ∈ p.2, x.1 = 1 ∨ (x.1 = 2 ∧ 0 ≤ x.2 ∧ x.2 < (n : Int))
theorem symsOk_of {g : Gram} {n : Nat} (h : checkG g = 0) (hn : g.nons = n) : SymsOk n g.prods := fun p hp => by
  obtain ⟨_, _, _, _, _, a6⟩ := checkG_ok h
  obtain ⟨b1, b2, b3, b4⟩ := a6 p hp
  refine ⟨b2, by omega, fun x hx => ?_⟩
  have := b4 x hx
  unfold right at this
  split at this
  · exact .inl (by assumption)
  · split at this
    · simp at this; exact .inr ⟨by assumption, by omega, by omega⟩
    · simp at this
theorem SymsOk.nons {n : Nat} {l : List gramL.Prod} (h : SymsOk n l) : NonsIn n l := fun p hp x hx h2 => by
  rcases (h p hp).2.2 x hx with h | h
  · omega
  · exact h.2
theorem sumN_ge (f : Nat → Nat) {i k : Nat} (h : i < k) : f i ≤ sumN f k := by
  induction k with
  | zero => omega
  | succ k ih =>
    rw [sumN]
    by_cases e : i = k
    · subst e; omega
    · have := ih (by omega); omega
theorem sumP_ge (o : Sym → Nat → Nat → Nat) (a b n : Nat) {p : gramL.Prod} : ∀ {l : List gramL.Prod}, p ∈ l → p.1 = (n : Int) → rowF o p.2 a b ≤ sumP o a b n l
  | q :: r, h, hp => by
    rw [sumP]
    rcases List.mem_cons.1 h with rfl | h
    · rw [if_pos hp]; omega
    · have := sumP_ge o a b n h hp; omega
theorem prodAt_mem {l : List gramL.Prod} {p : Int} (h0 : 0 ≤ p) (h : p < (l.length : Int)) : prodAt l p ∈ l := by
  unfold prodAt
  rw [List.getD_eq_getElem?_getD, List.getElem?_eq_getElem (by omega)]
  exact List.getElem_mem _
/-- what a tree yields, where a symbol stands -/
def yieldX (l : List gramL.Prod) (t : Tree) (x : Sym) : List Int := if t.prod < 0 then [x.2] else yieldT l t
theorem yields_X (l : List gramL.Prod) (t : Tree) (r : List Tree) (y : Sym) (b : List Sym) : yields l (t :: r) (y :: b) = yieldX l t y ++ yields l r b := by
  obtain ⟨p, k, ks⟩ := t
  exact yields_cons l p k ks r y b
theorem yieldX_len {l : List gramL.Prod} {t : Tree} {x : Sym} {u : Nat} (h : Right l t x u) : (yieldX l t x).length = leaves t := by
  unfold yieldX
  split
  · obtain ⟨p, k, ks⟩ := t
    rw [leaves, if_pos (by assumption)]; rfl
  · exact yield_len h (by omega)
section
variable {w : List Int} {l : List gramL.Prod} {n : Nat} {c : Chart}
mutual
theorem one_pos (hc : Lfp w l n c) (hs : SymsOk n l) : ∀ {t : Tree} {x : Sym} {u a : Nat}, Right l t x u → (x.1 = 1 ∨ x.1 = 2) → a ≤ w.length → (∃ r, w.drop a = yieldX l t x ++ r) → 1 ≤ oneF c w x a (a + leaves t)
  | .mk p k kids, x, u, a, h, hx, ha, ⟨r, hr⟩ => by
    have hlen := yieldX_len h
    have hal : a + leaves (.mk p k kids) ≤ w.length := by
      have := congrArg List.length hr
      rw [List.length_drop, List.length_append, hlen] at this
      omega
    rw [Right] at h
    unfold oneF
    rcases h with ⟨a1, a2, a3, a4⟩ | ⟨a1, a2, a3, a4, a5, a6⟩
    · subst a2
      have e : leaves (.mk (-1) k kids) = 1 := by rw [leaves, if_pos (by omega)]
      have hcell : w[a]? = some x.2 := by
        have : (w.drop a)[0]? = some x.2 := by rw [hr]; unfold yieldX; rw [if_pos (by simp [Tree.prod])]; rfl
        rw [List.getElem?_drop] at this
        exact this
      rw [e, if_neg (by omega), if_pos ⟨rfl, hcell⟩]
      exact Nat.le_refl _
    · rw [if_pos (by omega)]
      have hm := prodAt_mem a2 a3
      obtain ⟨s1, s2, s3⟩ := hs _ hm
      have hrow := row_pos hc hs a6 (fun y hy => (s3 y hy).imp id fun h => h.1) ha ⟨r, by rw [hr]; unfold yieldX; rw [if_neg (by show ¬ p < 0; omega), yieldT_eq]⟩
      rw [leaves, if_neg (by omega)] at hal ⊢
      have e : x.2 = ((x.2.toNat : Nat) : Int) := by omega
      rw [e, hc.fixed a (a + leavess kids) (by omega) hal x.2.toNat (by omega)]
      have h1 := sumP_ge (oneF c w) a (a + leavess kids) x.2.toNat hm (by omega)
      rw [rowF_E _ _ (by omega)] at h1
      unfold nowF
      omega
theorem row_pos (hc : Lfp w l n c) (hs : SymsOk n l) : ∀ {ks : List Tree} {b : List Sym} {u a : Nat}, Rights l ks b u → (∀ y ∈ b, y.1 = 1 ∨ y.1 = 2) → a ≤ w.length → (∃ r, w.drop a = yields l ks b ++ r) → 1 ≤ rowE (oneF c w) b a (a + leavess ks)
  | [], [], u, a, _, _, _, _ => by rw [rowE, leavess, if_pos (by omega)]; omega
  | t :: ks, y :: b, u, a, h, hy, ha, ⟨r, hr⟩ => by
    rw [Rights] at h
    rw [yields_X, List.append_assoc] at hr
    have hlen := yieldX_len h.1
    have hal : a + leaves t ≤ w.length := by
      have := congrArg List.length hr
      rw [List.length_drop, List.length_append, hlen] at this
      omega
    have h1 := one_pos hc hs h.1 (hy y (by simp)) ha ⟨_, hr⟩
    have h2 := row_pos hc hs h.2 (fun z hz => hy z (by simp [hz])) hal ⟨r, by rw [← List.drop_drop, hr, ← hlen, List.drop_left]⟩
    rw [rowE, leavess, show a + (leaves t + leavess ks) = a + leaves t + leavess ks by omega]
    have h3 := sumN_ge (fun i => oneF c w y a (a + i) * rowE (oneF c w) b (a + i) (a + leaves t + leavess ks)) (i := leaves t) (k := a + leaves t + leavess ks - a + 1) (by omega)
    have h4 : 1 * 1 ≤ oneF c w y a (a + leaves t) * rowE (oneF c w) b (a + leaves t) (a + leaves t + leavess ks) := Nat.mul_le_mul h1 h2
    omega
  | [], _ :: _, _, _, h, _, _, _ => by simp [Rights] at h
  | _ :: _, [], _, _, h, _, _, _ => by simp [Rights] at h
end
end
mutual
theorem yield_in {g : Gram} (h : checkG g = 0) : ∀ {t : Tree} {x : Sym} {u : Nat}, Right g.prods t x u → 0 ≤ t.prod → ∀ y ∈ yieldT g.prods t, 0 ≤ y ∧ y < g.terms
  | .mk p k kids, x, u, hr, hp, y, hy => by
    have hp : 0 ≤ p := hp
    rw [Right] at hr
    rw [yieldT_eq] at hy
    rcases hr with ⟨_, e, _⟩ | ⟨_, a2, a3, _, _, a6⟩
    · omega
    · exact yields_in h a6 (((checkG_ok h).2.2.2.2.2 _ (prodAt_mem a2 a3)).2.2.2) y hy
theorem yields_in {g : Gram} (h : checkG g = 0) : ∀ {ks : List Tree} {b : List Sym} {u : Nat}, Rights g.prods ks b u → (∀ x ∈ b, right g.terms g.nons x = true) → ∀ y ∈ yields g.prods ks b, 0 ≤ y ∧ y < g.terms
  | [], [], _, _, _, y, hy => by simp [yields, actss] at hy
  | .mk p k kk :: r, x :: b, u, hr, hb, y, hy => by
    rw [Rights] at hr
    rw [yields_X, List.mem_append] at hy
    rcases hy with hy | hy
    · unfold yieldX at hy
      by_cases c : p < 0
      · rw [if_pos (show (Tree.mk p k kk).prod < 0 from c)] at hy
        simp only [List.mem_cons, List.not_mem_nil, or_false] at hy
        subst hy
        have h1 := hr.1
        rw [Right] at h1
        have hx := hb x (by simp)
        unfold right at hx
        rcases h1 with ⟨e, _⟩ | ⟨_, e, _⟩
        · rw [if_pos e] at hx; simp at hx; omega
        · omega
      · rw [if_neg (show ¬ (Tree.mk p k kk).prod < 0 from c)] at hy
        exact yield_in h hr.1 (by show 0 ≤ p; omega) y hy
    · exact yields_in h hr.2 (fun z hz => hb z (by simp [hz])) y hy
  | [], _ :: _, _, hr, _, _, _ => by simp [Rights] at hr
  | _ :: _, [], _, hr, _, _, _ => by simp [Rights] at hr
end
/-- the word of a tree is counted -/
theorem tree_counted {g : Gram} {t : Tree} (h : checkT g t = 0) (hc : checkC g (yieldT g.prods t) = 0) : 1 ≤ treesN g (yieldT g.prods t) := by
  obtain ⟨h1, h2, h3, h4⟩ := checkT_iff.1 h
  obtain ⟨_, _, a3, _⟩ := checkG_ok h1
  have hs := symsOk_of (n := g.nons.toNat) h1 (by omega)
  have hp : 0 ≤ t.prod := by
    obtain ⟨p, k, kids⟩ := t
    rw [Right] at h2
    rcases h2 with ⟨e, _⟩ | ⟨_, e, _⟩
    · cases e
    · exact e
  have hl := yield_len h2 hp
  have := one_pos (w := yieldT g.prods t) (a := 0) (chartOf_lfp hs.nons) hs h2 (.inr rfl) (Nat.zero_le _) ⟨[], by unfold yieldX; rw [if_neg (by omega)]; simp⟩
  unfold oneF at this
  rw [if_pos rfl] at this
  unfold treesN
  rw [if_pos hc, hl]
  simpa using this
theorem tree_checkC {g : Gram} {t : Tree} (h : checkT g t = 0) : checkC g (yieldT g.prods t) = 0 ∨ checkC g (yieldT g.prods t) = 2 := by
  obtain ⟨h1, h2, h3, h4⟩ := checkT_iff.1 h
  have hp : 0 ≤ t.prod := by
    obtain ⟨p, k, kids⟩ := t
    rw [Right] at h2
    rcases h2 with ⟨e, _⟩ | ⟨_, e, _⟩
    · cases e
    · exact e
  unfold checkC
  rw [if_neg (by simpa using h1)]
  split
  · exact .inr rfl
  · exact .inl (checkW_of (yield_in h1 h2 hp))
end Go.Proofs.Ytnicebdkejkieaa.countL
