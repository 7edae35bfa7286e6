/- Trees built from below; no program in sight. -/
import Derived.Test.YtnicebdkejkieaaTreeP
import Derived.Test.YtnicebdkejkieaaTreeW
namespace Go.Proofs.Ytnicebdkejkieaa.treeL
open gramL countL
abbrev Part := Tree × Int
def fitU (y : Sym) (k : Part) : Bool := (decide (y.1 = 1) == decide (k.2 < 0)) && !(decide (0 ≤ k.2) && decide (k.2 ≠ y.2))
def fitsU : List Sym → List Part → Bool
  | y :: b, k :: r => fitU y k && fitsU b r
  | _, _ => true
def stepP (l : List gramL.Prod) (P : List Part) (u : Nat) (x : Sym) : Option (List Part × Nat) :=
  if x.1 = 2 ∧ x.2 = (u : Int) then some (P ++ [(.mk (-1) (u : Int) [], -1)], u + 1)
  else if x.1 ≠ 4 ∨ x.2 < 0 ∨ (l.length : Int) ≤ x.2 then none
  else if P.length < (prodAt l x.2).2.length then none
  else if fitsU (prodAt l x.2).2 (P.drop (P.length - (prodAt l x.2).2.length)) = true then
    some (P.take (P.length - (prodAt l x.2).2.length) ++ [(.mk x.2 0 ((P.drop (P.length - (prodAt l x.2).2.length)).map (·.1)), (prodAt l x.2).1)], u)
  else none
def runP (l : List gramL.Prod) : List Sym → List Part → Nat → Option (List Part × Nat)
  | [], P, u => some (P, u)
  | x :: r, P, u => match stepP l P u x with
    | none => none
    | some (P', u') => runP l r P' u'
def ofU (g : Gram) (E : List Sym) : Option Tree := match runP g.prods E [] 0 with
  | some ([(t, h)], _) => if h = 0 then some t else none
  | _ => none
def upX (l : List gramL.Prod) (t : Tree) : List Sym := if t.prod < 0 then [(2, t.tok)] else upE l t
def upP (l : List gramL.Prod) (P : List Part) : List Sym := P.flatMap fun x => upX l x.1
theorem actss_up (l : List gramL.Prod) : ∀ (ks : List Tree) (b : List Sym), ks.length = b.length → (actss l ks b).filterMap evU = ks.flatMap (upX l)
  | [], b, _ => by cases b <;> simp [actss]
  | t :: r, [], h => by simp at h
  | .mk p k kids :: r, y :: b, h => by
    have ih := actss_up l r b (by simpa using h)
    rw [actss, List.flatMap_cons, List.filterMap_append, ih]
    congr 1
    unfold upX upE
    show _ = if p < 0 then [(2, k)] else _
    split
    · rfl
    · rfl
theorem upX_node {l : List gramL.Prod} {n : Int} {ks : List Tree} (h0 : 0 ≤ n) (h : ks.length = (prodAt l n).2.length) : upX l (.mk n 0 ks) = ks.flatMap (upX l) ++ [(4, n)] := by
  unfold upX upE
  rw [if_neg (by show ¬ n < 0; omega), acts_eq, List.filterMap_cons_none rfl, List.filterMap_append, actss_up l _ _ h]
  rfl
theorem step_up {l : List gramL.Prod} {P P' : List Part} {u u' : Nat} {x : Sym} (h : stepP l P u x = some (P', u')) : upP l P' = upP l P ++ [x] := by
  obtain ⟨xq, xm⟩ := x
  unfold stepP at h
  dsimp only at h
  split at h
  · rename_i c
    simp only [Option.some.injEq, Prod.mk.injEq] at h
    obtain ⟨rfl, rfl⟩ := h
    unfold upP
    rw [List.flatMap_append]
    congr 1
    obtain ⟨rfl, rfl⟩ := c
    simp [upX, Tree.prod, Tree.tok]
  · split at h
    · cases h
    · rename_i c
      split at h
      · cases h
      · rename_i c2
        split at h
        · simp only [Option.some.injEq, Prod.mk.injEq] at h
          obtain ⟨rfl, rfl⟩ := h
          have h0 : 0 ≤ xm := by omega
          have h4 : xq = 4 := by omega
          subst h4
          unfold upP
          rw [List.flatMap_append]
          simp only [List.flatMap_cons, List.flatMap_nil, List.append_nil]
          rw [upX_node h0 (by rw [List.length_map, List.length_drop]; omega), ← List.append_assoc]
          congr 1
          generalize P.length - (prodAt l xm).2.length = q
          conv => rhs; rw [← List.take_append_drop q P, List.flatMap_append]
          congr 1
          rw [List.flatMap_map]
        · cases h
theorem run_up {l : List gramL.Prod} : ∀ {E : List Sym} {P P' : List Part} {u u' : Nat}, runP l E P u = some (P', u') → upP l P' = upP l P ++ E
  | [], P, P', u, u', h => by
    simp only [runP, Option.some.injEq, Prod.mk.injEq] at h
    obtain ⟨rfl, rfl⟩ := h
    simp
  | x :: r, P, P', u, u', h => by
    rw [runP] at h
    cases e : stepP l P u x with
    | none => rw [e] at h; cases h
    | some y =>
      obtain ⟨P1, u1⟩ := y
      rw [e] at h
      dsimp only at h
      rw [run_up h, step_up e, List.append_assoc]; rfl
def headU (l : List gramL.Prod) (t : Tree) : Int := if t.prod < 0 then -1 else (prodAt l t.prod).1
theorem upX_leaf (l : List gramL.Prod) (k : Int) : upX l (.mk (-1) k []) = [(2, k)] := by
  unfold upX
  rw [if_pos (show (Tree.mk (-1) k []).prod < 0 by show (-1 : Int) < 0; decide)]
  rfl
theorem headU_leaf (l : List gramL.Prod) (k : Int) (ks : List Tree) : headU l (.mk (-1) k ks) = -1 := by
  unfold headU
  rw [if_pos (show (Tree.mk (-1) k ks).prod < 0 by show (-1 : Int) < 0; decide)]
theorem headU_node (l : List gramL.Prod) {p : Int} (h : 0 ≤ p) (k : Int) (ks : List Tree) : headU l (.mk p k ks) = (prodAt l p).1 := by
  unfold headU
  rw [if_neg (show ¬ (Tree.mk p k ks).prod < 0 from by show ¬ p < 0; omega)]
  rfl
theorem fits_of {l : List gramL.Prod} (hh : ∀ p ∈ l, 0 ≤ p.1) : ∀ {ks : List Tree} {b : List Sym} {u : Nat}, Rights l ks b u → fitsU b (ks.map fun t => (t, headU l t)) = true
  | [], [], _, _ => rfl
  | .mk p k kk :: ks, y :: b, u, h => by
    rw [Rights] at h
    rw [List.map_cons, fitsU, fits_of hh h.2, Bool.and_true]
    have h1 := h.1
    rw [Right] at h1
    unfold fitU
    rcases h1 with ⟨a1, a2, _⟩ | ⟨a1, a2, a3, a4, _⟩
    · subst a2
      rw [headU_leaf]
      simp [a1]
    · have hm := hh _ (prodAt_mem a2 a3)
      rw [headU_node l a2]
      dsimp only
      rw [decide_eq_false a1, decide_eq_false (by omega : ¬ (prodAt l p).1 < 0), a4]
      simp
  | [], _ :: _, _, h => by simp [Rights] at h
  | _ :: _, [], _, h => by simp [Rights] at h
mutual
/-- a right tree is built from what it tells -/
theorem run_of {l : List gramL.Prod} (hh : ∀ p ∈ l, 0 ≤ p.1) : ∀ {t : Tree} {x : Sym} {u : Nat} {P : List Part} {r : List Sym}, Right l t x u → runP l (upX l t ++ r) P u = runP l r (P ++ [(t, headU l t)]) (u + leaves t)
  | .mk p k kids, x, u, P, r, h => by
    rw [Right] at h
    rw [leaves]
    rcases h with ⟨a1, a2, a3, a4⟩ | ⟨a1, a2, a3, a4, a5, a6⟩
    · subst a2 a3 a4
      rw [if_pos (by omega)]
      rw [upX_leaf, headU_leaf]
      show runP l ((2, (u : Int)) :: r) P u = _
      rw [runP]
      unfold stepP
      rw [if_pos ⟨rfl, rfl⟩]
    · subst a5
      have hl := rights_len a6
      rw [if_neg (by omega), upX_node a2 hl, List.append_assoc, runs_of hh a6]
      show runP l ((4, p) :: r) _ _ = _
      rw [runP]
      have e : (P ++ kids.map fun t => (t, headU l t)).length - (prodAt l p).2.length = P.length := by
        rw [List.length_append, List.length_map]; omega
      unfold stepP
      dsimp only
      rw [if_neg (by intro h; have := h.1; omega), if_neg (by omega), if_neg (by rw [List.length_append, List.length_map]; omega), e, List.drop_left, if_pos (fits_of hh a6), List.take_left]
      dsimp only
      rw [headU_node l a2, List.map_map]
      have e2 : kids.map ((fun x : Part => x.1) ∘ fun t => (t, headU l t)) = kids := by
        rw [show ((fun x : Part => x.1) ∘ fun t => (t, headU l t)) = id from rfl, List.map_id]
      rw [e2]
theorem runs_of {l : List gramL.Prod} (hh : ∀ p ∈ l, 0 ≤ p.1) : ∀ {ks : List Tree} {b : List Sym} {u : Nat} {P : List Part} {r : List Sym}, Rights l ks b u → runP l (ks.flatMap (upX l) ++ r) P u = runP l r (P ++ ks.map fun t => (t, headU l t)) (u + leavess ks)
  | [], [], u, P, r, _ => by simp [leavess]
  | .mk p k kk :: ks, y :: b, u, P, r, h => by
    rw [Rights] at h
    rw [List.flatMap_cons, List.append_assoc, run_of hh h.1, runs_of hh h.2, leavess, List.map_cons, List.append_assoc, Nat.add_assoc]
    rfl
  | [], _ :: _, _, _, _, h => by simp [Rights] at h
  | _ :: _, [], _, _, _, h => by simp [Rights] at h
end
end Go.Proofs.Ytnicebdkejkieaa.treeL
