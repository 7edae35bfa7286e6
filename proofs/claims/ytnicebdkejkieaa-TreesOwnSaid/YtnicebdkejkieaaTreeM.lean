/- Trees: what they yield; turned round; no program in sight. -/
import Derived.Test.YtnicebdkejkieaaTreeL
namespace Go.Proofs.Ytnicebdkejkieaa.treeL
open gramL
mutual
theorem acts_le (l : List gramL.Prod) : ∀ (t : Tree), (acts l t).length ≤ 2 * size t
  | .mk p k kids => by
    rw [acts, size, List.length_cons, List.length_append]
    have := actss_le l kids (prodAt l p).2
    simp only [List.length_cons, List.length_nil]; omega
theorem actss_le (l : List gramL.Prod) : ∀ (ks : List Tree) (b : List Sym), (actss l ks b).length ≤ 2 * sizes ks
  | [], _ => by rw [actss]; simp
  | _ :: _, [] => by rw [actss]; simp
  | .mk p k ks :: r, y :: b => by
    rw [actss, sizes, List.length_append]
    have h1 := acts_le l (.mk p k ks)
    have h2 := actss_le l r b
    have h3 := size_pos (.mk p k ks)
    split
    · simp only [List.length_cons, List.length_nil]; omega
    · omega
end
def termOf : Deed → Option Int
  | .leaf t _ => some t
  | _ => none
def yieldT (l : List gramL.Prod) (t : Tree) : List Int := (acts l t).filterMap termOf
def yields (l : List gramL.Prod) (ks : List Tree) (b : List Sym) : List Int := (actss l ks b).filterMap termOf
theorem yieldT_eq (l : List gramL.Prod) (p k : Int) (kids : List Tree) : yieldT l (.mk p k kids) = yields l kids (prodAt l p).2 := by
  unfold yieldT yields
  rw [acts, List.filterMap_cons_none rfl, List.filterMap_append]
  simp [termOf]
theorem yields_cons (l : List gramL.Prod) (p k : Int) (ks r : List Tree) (y : Sym) (b : List Sym) : yields l (.mk p k ks :: r) (y :: b) = (if p < 0 then [y.2] else yieldT l (.mk p k ks)) ++ yields l r b := by
  unfold yields yieldT
  rw [actss, List.filterMap_append]
  congr 1
  split <;> rfl
theorem yields_snoc (l : List gramL.Prod) (p k : Int) (ks : List Tree) (y : Sym) : ∀ (r : List Tree) (b : List Sym), r.length = b.length → yields l (r ++ [.mk p k ks]) (b ++ [y]) = yields l r b ++ (if p < 0 then [y.2] else yieldT l (.mk p k ks))
  | [], [], _ => by
    rw [List.nil_append, List.nil_append, yields_cons]
    simp [yields, actss]
  | .mk p' k' ks' :: r, z :: b, h => by
    rw [List.cons_append, List.cons_append, yields_cons, yields_cons, yields_snoc l p k ks y r b (by simpa using h), List.append_assoc]
  | [], _ :: _, h => by simp at h
  | _ :: _, [], h => by simp at h
mutual
def mirT (n : Int) : Tree → Tree
  | .mk p k kids => if p < 0 then .mk (-1) (n - 1 - k) [] else .mk p 0 (mirs n kids)
def mirs (n : Int) : List Tree → List Tree
  | [] => []
  | k :: r => mirs n r ++ [mirT n k]
end
theorem mirs_map (n : Int) : ∀ ks, mirs n ks = (ks.map (mirT n)).reverse
  | [] => by rw [mirs]; rfl
  | k :: r => by rw [mirs, mirs_map n r, List.map_cons, List.reverse_cons]
theorem prodAt_mir (l : List gramL.Prod) (p : Int) : prodAt (l.map mirP) p = mirP (prodAt l p) := by
  unfold prodAt
  rw [List.getD_eq_getElem?_getD, List.getD_eq_getElem?_getD, List.getElem?_map]
  cases l[p.toNat]? <;> rfl
theorem sizes_app (a b : List Tree) : sizes (a ++ b) = sizes a + sizes b := by
  induction a with
  | nil => rw [List.nil_append, sizes, Nat.zero_add]
  | cons x r ih => rw [List.cons_append, sizes, sizes, ih, Nat.add_assoc]
theorem talls_app (a b : List Tree) : talls (a ++ b) = max (talls a) (talls b) := by
  induction a with
  | nil => rw [List.nil_append, talls]; omega
  | cons x r ih => rw [List.cons_append, talls, talls, ih]; omega
theorem leavess_app (a b : List Tree) : leavess (a ++ b) = leavess a + leavess b := by
  induction a with
  | nil => rw [List.nil_append, leavess, Nat.zero_add]
  | cons x r ih => rw [List.cons_append, leavess, leavess, ih, Nat.add_assoc]
theorem rights_snoc {l : List gramL.Prod} {k : Tree} {y : Sym} : ∀ {r : List Tree} {b : List Sym} {v : Nat}, Rights l r b v → Right l k y (v + leavess r) → Rights l (r ++ [k]) (b ++ [y]) v
  | [], [], v, _, h => by
    rw [List.nil_append, List.nil_append, Rights, Rights]
    rw [leavess] at h
    exact ⟨h, trivial⟩
  | k' :: r, z :: b, v, h, h2 => by
    rw [Rights] at h
    rw [List.cons_append, List.cons_append, Rights]
    rw [leavess] at h2
    exact ⟨h.1, rights_snoc h.2 (by rw [Nat.add_assoc]; exact h2)⟩
  | [], _ :: _, _, h, _ => by simp [Rights] at h
  | _ :: _, [], _, h, _ => by simp [Rights] at h
mutual
theorem mir_all {l : List gramL.Prod} {n : Nat} : ∀ {t : Tree} {x : Sym} {u : Nat}, Right l t x u → u + leaves t ≤ n → Right (l.map mirP) (mirT n t) x (n - (u + leaves t)) ∧ size (mirT n t) = size t ∧ tall (mirT n t) = tall t ∧ leaves (mirT n t) = leaves t ∧ (0 ≤ t.prod → yieldT (l.map mirP) (mirT n t) = (yieldT l t).reverse) ∧ (mirT n t).prod = t.prod
  | .mk p k kids, x, u, h, hn => by
    rw [Right] at h
    rw [leaves] at hn ⊢
    rw [mirT]
    rcases h with ⟨a1, a2, a3, a4⟩ | ⟨a1, a2, a3, a4, a5, a6⟩
    · subst a2 a4
      rw [if_pos (by omega)] at hn ⊢
      rw [if_pos (by omega)]
      refine ⟨?_, by rw [size, size], by rw [tall, tall], by rw [leaves, if_pos (by omega)], fun h => absurd h (by simp [Tree.prod]), rfl⟩
      rw [Right]
      exact .inl ⟨a1, rfl, by omega, rfl⟩
    · rw [if_neg (by omega)] at hn ⊢
      rw [if_neg (by omega)]
      obtain ⟨b1, b2, b3, b4, b5⟩ := mirs_all a6 hn
      refine ⟨?_, by rw [size, size, b2], by rw [tall, tall, b3], by rw [leaves, if_neg (by omega), b4], fun _ => ?_, rfl⟩
      · rw [Right, prodAt_mir]
        exact .inr ⟨a1, a2, by simpa using a3, a4, rfl, b1⟩
      · rw [yieldT_eq, yieldT_eq, prodAt_mir]
        exact b5
theorem mirs_all {l : List gramL.Prod} {n : Nat} : ∀ {ks : List Tree} {b : List Sym} {u : Nat}, Rights l ks b u → u + leavess ks ≤ n → Rights (l.map mirP) (mirs n ks) b.reverse (n - (u + leavess ks)) ∧ sizes (mirs n ks) = sizes ks ∧ talls (mirs n ks) = talls ks ∧ leavess (mirs n ks) = leavess ks ∧ yields (l.map mirP) (mirs n ks) b.reverse = (yields l ks b).reverse
  | [], [], u, _, _ => by
    rw [mirs, List.reverse_nil]
    exact ⟨by rw [Rights]; trivial, rfl, rfl, rfl, by simp [yields, actss]⟩
  | .mk p k kk :: r, y :: b, u, h, hn => by
    rw [Rights] at h
    rw [leavess] at hn ⊢
    obtain ⟨a1, a2, a3, a4, a5, a6⟩ := mir_all (n := n) h.1 (by omega)
    obtain ⟨b1, b2, b3, b4, b5⟩ := mirs_all (n := n) h.2 (by omega)
    rw [mirs, List.reverse_cons, sizes_app, talls_app, leavess_app, sizes, sizes, talls, talls, leavess, leavess, b2, b3, b4, a2, a3, a4]
    refine ⟨rights_snoc (by rw [show n - (u + (leaves (.mk p k kk) + leavess r)) = n - (u + leaves (.mk p k kk) + leavess r) by omega]; exact b1) ?_, by rw [sizes]; omega, by rw [talls]; omega, by omega, ?_⟩
    · rw [b4, show n - (u + (leaves (.mk p k kk) + leavess r)) + leavess r = n - (u + leaves (.mk p k kk)) by omega]
      exact a1
    · have hl : (mirs n r).length = b.reverse.length := by
        rw [mirs_map, List.length_reverse, List.length_map, List.length_reverse]; exact rights_len h.2
      generalize hm : mirT (n : Int) (.mk p k kk) = m at *
      obtain ⟨mp, mk', mks⟩ := m
      rw [yields_snoc _ mp mk' mks y _ _ hl, b5, yields_cons, List.reverse_append]
      congr 1
      have e : mp = p := a6
      subst e
      split
      · rfl
      · rename_i c
        exact a5 (by show (0 : Int) ≤ mp; omega)
  | [], _ :: _, _, h, _ => by simp [Rights] at h
  | _ :: _, [], _, h, _ => by simp [Rights] at h
end
theorem mir_check {g : Gram} {t : Tree} {n : Nat} (h : checkT g t = 0) (hn : n = leaves t) : checkT (mirror g) (mirT n t) = 0 ∧ yieldT (mirror g).prods (mirT n t) = (yieldT g.prods t).reverse := by
  obtain ⟨h1, h2, h3, h4⟩ := checkT_iff.1 h
  obtain ⟨a1, a2, a3, a4, a5, a6⟩ := mir_all (n := n) h2 (by omega)
  rw [Nat.zero_add, ← hn, Nat.sub_self] at a1
  have hp : 0 ≤ t.prod := by
    obtain ⟨p, k, kids⟩ := t
    rw [Right] at h2
    rcases h2 with ⟨h, _⟩ | ⟨_, h, _⟩
    · cases h
    · exact h
  exact ⟨checkT_iff.2 ⟨by rw [check_mirror]; exact h1, a1, by omega, by omega⟩, a5 hp⟩
mutual
theorem yield_len {l : List gramL.Prod} : ∀ {t : Tree} {x : Sym} {u : Nat}, Right l t x u → 0 ≤ t.prod → (yieldT l t).length = leaves t
  | .mk p k kids, x, u, h, hp => by
    rw [Right] at h
    have hp : 0 ≤ p := hp
    rw [yieldT_eq, leaves, if_neg (by omega)]
    rcases h with ⟨_, h, _⟩ | ⟨_, _, _, _, _, h⟩
    · omega
    · exact yields_len h
theorem yields_len {l : List gramL.Prod} : ∀ {ks : List Tree} {b : List Sym} {u : Nat}, Rights l ks b u → (yields l ks b).length = leavess ks
  | [], [], _, _ => by rw [leavess]; simp [yields, actss]
  | .mk p k kk :: r, y :: b, u, h => by
    rw [Rights] at h
    rw [yields_cons, List.length_append, yields_len h.2, leavess]
    congr 1
    split
    · rw [leaves, if_pos (by assumption)]; rfl
    · exact yield_len h.1 (by show (0 : Int) ≤ p; omega)
  | [], _ :: _, _, h => by simp [Rights] at h
  | _ :: _, [], _, h => by simp [Rights] at h
end
end Go.Proofs.Ytnicebdkejkieaa.treeL
