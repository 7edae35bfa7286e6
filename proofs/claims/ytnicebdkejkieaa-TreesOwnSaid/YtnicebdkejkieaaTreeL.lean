/- Trees: what Check, each compute; no program in sight. -/
import Derived.Test.YtnicebdkejkieaaGramL
namespace Go.Proofs.Ytnicebdkejkieaa.treeL
open gramL
inductive Tree where
  | mk (prod tok : Int) (kids : List Tree)
def Tree.prod : Tree → Int | .mk p _ _ => p
def Tree.tok : Tree → Int | .mk _ t _ => t
def Tree.kids : Tree → List Tree | .mk _ _ k => k
def prodAt (l : List gramL.Prod) (p : Int) : gramL.Prod := l.getD p.toNat (0, [])
mutual
/-- Check at a node: the error, how many nodes, how many leaves -/
def nodeF (l : List gramL.Prod) : Tree → Sym → Nat → Nat → Nat → Int × Nat × Nat
  | .mk p k kids, x, deep, nodes, leaves =>
    if 1000 < nodes + 1 then (2, nodes + 1, leaves)
    else if 100 < deep then (7, nodes + 1, leaves)
    else if x.1 = 1 then (if p ≠ -1 then (4, nodes + 1, leaves) else if k ≠ (leaves : Int) then (4, nodes + 1, leaves) else if 0 < kids.length then (4, nodes + 1, leaves) else (0, nodes + 1, leaves + 1))
    else if p < 0 then (4, nodes + 1, leaves) else if (l.length : Int) ≤ p then (4, nodes + 1, leaves) else if (prodAt l p).1 ≠ x.2 then (4, nodes + 1, leaves) else if k ≠ 0 then (4, nodes + 1, leaves) else if kids.length ≠ (prodAt l p).2.length then (4, nodes + 1, leaves)
    else kidsF l kids (prodAt l p).2 (deep + 1) (nodes + 1) leaves
def kidsF (l : List gramL.Prod) : List Tree → List Sym → Nat → Nat → Nat → Int × Nat × Nat
  | [], _, _, nodes, leaves => (0, nodes, leaves)
  | _ :: _, [], _, nodes, leaves => (0, nodes, leaves)
  | k :: r, y :: b, deep, nodes, leaves =>
    if (nodeF l k y deep nodes leaves).1 ≠ 0 then nodeF l k y deep nodes leaves
    else kidsF l r b deep (nodeF l k y deep nodes leaves).2.1 (nodeF l k y deep nodes leaves).2.2
end
def checkT (g : Gram) (t : Tree) : Int := if checkG g ≠ 0 then checkG g else (nodeF g.prods t (2, 0) 1 0 0).1
mutual
def size : Tree → Nat
  | .mk _ _ kids => sizes kids + 1
def sizes : List Tree → Nat
  | [] => 0
  | k :: r => size k + sizes r
end
mutual
def tall : Tree → Nat
  | .mk _ _ kids => talls kids + 1
def talls : List Tree → Nat
  | [] => 0
  | k :: r => max (tall k) (talls r)
end
mutual
def leaves : Tree → Nat
  | .mk p _ kids => if p < 0 then 1 else leavess kids
def leavess : List Tree → Nat
  | [] => 0
  | k :: r => leaves k + leavess r
end
mutual
/-- a tree that is right at a symbol, its leaves' numbers from one on -/
def Right (l : List gramL.Prod) : Tree → Sym → Nat → Prop
  | .mk p k kids, x, v =>
    (x.1 = 1 ∧ p = -1 ∧ k = (v : Int) ∧ kids = []) ∨ (x.1 ≠ 1 ∧ 0 ≤ p ∧ p < (l.length : Int) ∧ (prodAt l p).1 = x.2 ∧ k = 0 ∧ Rights l kids (prodAt l p).2 v)
def Rights (l : List gramL.Prod) : List Tree → List Sym → Nat → Prop
  | [], [], _ => True
  | [], _ :: _, _ => False
  | _ :: _, [], _ => False
  | k :: r, y :: b, v => Right l k y v ∧ Rights l r b (v + leaves k)
end
theorem rights_len {l : List gramL.Prod} : ∀ {ks : List Tree} {b : List Sym} {v : Nat}, Rights l ks b v → ks.length = b.length
  | [], [], _, _ => rfl
  | [], _ :: _, _, h => by simp [Rights] at h
  | _ :: _, [], _, h => by simp [Rights] at h
  | _ :: r, _ :: b, _, h => by
    rw [Rights] at h
    rw [List.length_cons, List.length_cons, rights_len h.2]
theorem size_pos (t : Tree) : 0 < size t := by cases t; rw [size]; omega
mutual
theorem node_ok {l : List gramL.Prod} : ∀ {t : Tree} {x : Sym} {d n v : Nat}, Right l t x v → n + size t ≤ 1000 → d + tall t ≤ 101 → nodeF l t x d n v = (0, n + size t, v + leaves t)
  | .mk p k kids, x, d, n, v, h, h1, h2 => by
    rw [size] at h1 ⊢
    rw [tall] at h2
    rw [Right] at h
    rw [nodeF, leaves, if_neg (by omega), if_neg (by omega)]
    rcases h with ⟨a1, a2, a3, a4⟩ | ⟨a1, a2, a3, a4, a5, a6⟩
    · subst a4
      rw [if_pos a1, if_neg (by simpa using a2), if_neg (by simpa using a3), if_neg (by simp), if_pos (by omega), sizes, Nat.zero_add]
    · rw [if_neg a1, if_neg (by omega), if_neg (by omega), if_neg (by simpa using a4), if_neg (by simpa using a5), if_neg (by simpa using rights_len a6), kids_ok a6 (by omega) (by omega), if_neg (by omega)]
      rw [show n + 1 + sizes kids = n + (sizes kids + 1) by omega]
theorem kids_ok {l : List gramL.Prod} : ∀ {ks : List Tree} {b : List Sym} {d n v : Nat}, Rights l ks b v → n + sizes ks ≤ 1000 → d + talls ks ≤ 101 → kidsF l ks b d n v = (0, n + sizes ks, v + leavess ks)
  | [], [], d, n, v, _, _, _ => by rw [kidsF, sizes, leavess]; rfl
  | [], _ :: _, _, _, _, h, _, _ => by simp [Rights] at h
  | _ :: _, [], _, _, _, h, _, _ => by simp [Rights] at h
  | k :: r, y :: b, d, n, v, h, h1, h2 => by
    rw [Rights] at h
    rw [sizes] at h1 ⊢
    rw [talls] at h2
    rw [kidsF, node_ok h.1 (by omega) (by omega), if_neg (by simp)]
    dsimp only
    rw [kids_ok h.2 (by omega) (by omega), leavess]
    simp only [Nat.add_assoc]
end
mutual
theorem ok_node {l : List gramL.Prod} : ∀ {t : Tree} {x : Sym} {d n v : Nat}, (nodeF l t x d n v).1 = 0 → Right l t x v ∧ n + size t ≤ 1000 ∧ d + tall t ≤ 101
  | .mk p k kids, x, d, n, v, h => by
    rw [nodeF] at h
    rw [Right, size, tall]
    split at h; · simp at h
    split at h; · simp at h
    split at h
    · rename_i c1 c2 c3
      split at h; · simp at h
      split at h; · simp at h
      split at h; · simp at h
      rename_i c4 c5 c6
      have : kids = [] := List.eq_nil_of_length_eq_zero (by omega)
      subst this
      refine ⟨.inl ⟨c3, by omega, by omega, rfl⟩, ?_, ?_⟩
      · rw [sizes]; omega
      · rw [talls]; omega
    · rename_i c1 c2 c3
      split at h; · simp at h
      split at h; · simp at h
      split at h; · simp at h
      split at h; · simp at h
      split at h; · simp at h
      rename_i c4 c5 c6 c7 c8
      obtain ⟨k1, k2, k3⟩ := ok_kids (by omega) h
      exact ⟨.inr ⟨c3, by omega, by omega, by simpa using c6, by omega, k1⟩, by omega, by omega⟩
theorem ok_kids {l : List gramL.Prod} : ∀ {ks : List Tree} {b : List Sym} {d n v : Nat}, ks.length = b.length → (kidsF l ks b d n v).1 = 0 → Rights l ks b v ∧ (n ≤ 1000 → n + sizes ks ≤ 1000) ∧ (d ≤ 101 → d + talls ks ≤ 101)
  | [], [], d, n, v, _, _ => by rw [Rights, sizes, talls]; exact ⟨trivial, fun h => h, fun h => h⟩
  | [], _ :: _, _, _, _, h, _ => by simp at h
  | _ :: _, [], _, _, _, h, _ => by simp at h
  | k :: r, y :: b, d, n, v, hl, h => by
    rw [kidsF] at h
    rw [Rights, sizes, talls]
    split at h
    · contradiction
    · rename_i c
      have c : (nodeF l k y d n v).1 = 0 := by simpa using c
      obtain ⟨a1, a2, a3⟩ := ok_node c
      rw [node_ok a1 a2 a3] at h
      obtain ⟨b1, b2, b3⟩ := ok_kids (by simpa using hl) h
      exact ⟨⟨a1, b1⟩, fun _ => by have := b2 (by dsimp only; omega); dsimp only at this; omega, fun _ => by have := b3 (by omega); omega⟩
end
theorem node_iff {l : List gramL.Prod} {t : Tree} {x : Sym} {d n v : Nat} : (nodeF l t x d n v).1 = 0 ↔ Right l t x v ∧ n + size t ≤ 1000 ∧ d + tall t ≤ 101 :=
  ⟨ok_node, fun ⟨h1, h2, h3⟩ => by rw [node_ok h1 h2 h3]⟩
theorem checkT_iff {g : Gram} {t : Tree} : checkT g t = 0 ↔ checkG g = 0 ∧ Right g.prods t (2, 0) 0 ∧ size t ≤ 1000 ∧ tall t ≤ 100 := by
  unfold checkT
  by_cases c : checkG g = 0
  · rw [if_neg (by simpa using c), node_iff]
    constructor
    · rintro ⟨a, b, d⟩; exact ⟨c, a, by omega, by omega⟩
    · rintro ⟨_, a, b, d⟩; exact ⟨a, by omega, by omega⟩
  · rw [if_pos c]
    exact ⟨fun h => absurd h c, fun h => absurd h.1 c⟩
/-! ### what each does -/
inductive Deed where
  | ahead (p : Int)
  | behind (p : Int)
  | leaf (term tok : Int)
mutual
def acts (l : List gramL.Prod) : Tree → List Deed
  | .mk p _ kids => .ahead p :: (actss l kids (prodAt l p).2 ++ [.behind p])
def actss (l : List gramL.Prod) : List Tree → List Sym → List Deed
  | [], _ => []
  | _ :: _, [] => []
  | .mk p k ks :: r, y :: b => (if p < 0 then [.leaf y.2 k] else acts l (.mk p k ks)) ++ actss l r b
end
mutual
theorem leaves_le : ∀ (t : Tree), leaves t ≤ size t
  | .mk p k kids => by
    rw [leaves, size]
    have := leavess_le kids
    split <;> omega
theorem leavess_le : ∀ (ks : List Tree), leavess ks ≤ sizes ks
  | [] => by rw [leavess, sizes]; exact Nat.le_refl _
  | k :: r => by
    rw [leavess, sizes]
    have := leaves_le k
    have := leavess_le r
    omega
end
theorem nodeF_bound {l : List gramL.Prod} {t : Tree} {x : Sym} {d n v : Nat} (h : (nodeF l t x d n v).1 = 0) (hvn : v ≤ n) : (nodeF l t x d n v).2.1 ≤ 1000 ∧ (nodeF l t x d n v).2.2 ≤ (nodeF l t x d n v).2.1 := by
  obtain ⟨a, b, c⟩ := ok_node h
  rw [node_ok a b c]
  have := leaves_le t
  refine ⟨b, ?_⟩
  dsimp only; omega
theorem size_mem : ∀ (l : List Tree) (j : Nat) (h : j < l.length), size l[j] ≤ sizes l
  | y :: r, 0, _ => by rw [sizes]; simp
  | y :: r, j + 1, h => by
    rw [sizes]
    have := size_mem r j (by simpa using h)
    simp only [List.getElem_cons_succ]; omega
end Go.Proofs.Ytnicebdkejkieaa.treeL
