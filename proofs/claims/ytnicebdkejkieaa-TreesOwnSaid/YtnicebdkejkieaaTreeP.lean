/- Trees read from their events; no program in sight. -/
import Derived.Test.YtnicebdkejkieaaTreeE
namespace Go.Proofs.Ytnicebdkejkieaa.treeL
open gramL
def nextI (E : List Sym) (kind : Int) (a : Nat) : Option (Int × Nat) :=
  match E[a]? with
  | none => none
  | some x => if x.1 = kind then some (x.2, a + 1) else none
def readK (rd : Sym → Nat → Nat → Option (Tree × Nat × Nat)) : List Sym → Nat → Nat → Option (List Tree × Nat × Nat)
  | [], a, k => some ([], a, k)
  | y :: b, a, k => match rd y a k with
    | none => none
    | some (t, a1, k1) => match readK rd b a1 k1 with
      | none => none
      | some (ts, a2, k2) => some (t :: ts, a2, k2)
def readD (l : List gramL.Prod) (E : List Sym) : Nat → Sym → Nat → Nat → Option (Tree × Nat × Nat)
  | 0, _, _, _ => none
  | f + 1, x, a, k =>
    if x.1 = 1 then match nextI E 2 a with
      | none => none
      | some (n, a1) => if n = k then some (.mk (-1) n [], a1, k + 1) else none
    else match nextI E 1 a with
      | none => none
      | some (n, a1) => if n < 0 ∨ (l.length : Int) ≤ n ∨ (prodAt l n).1 ≠ x.2 then none else
        match readK (readD l E f) (prodAt l n).2 a1 k with
        | none => none
        | some (ks, a2, k2) => match nextI E 3 a2 with
          | none => none
          | some (m, a3) => if m = n then some (.mk n 0 ks, a3, k2) else none
def ofD (g : Gram) (E : List Sym) : Option Tree := match readD g.prods E (E.length + 1) (2, 0) 0 0 with
  | none => none
  | some (t, a, _) => if a = E.length then some t else none
def downX (l : List gramL.Prod) (t : Tree) : List Sym := if t.prod < 0 then [(2, t.tok)] else downE l t
theorem next_iff {E : List Sym} {kind : Int} {a a1 : Nat} {n : Int} (h : nextI E kind a = some (n, a1)) : a1 = a + 1 ∧ a < E.length ∧ E.drop a = (kind, n) :: E.drop a1 := by
  unfold nextI at h
  cases e : E[a]? with
  | none => rw [e] at h; cases h
  | some x =>
    rw [e] at h
    dsimp only at h
    split at h
    · rename_i c
      simp only [Option.some.injEq, Prod.mk.injEq] at h
      obtain ⟨rfl, rfl⟩ := h
      obtain ⟨h1, h2⟩ := List.getElem?_eq_some_iff.1 e
      refine ⟨rfl, h1, ?_⟩
      rw [List.drop_eq_getElem_cons h1, h2, ← c]
    · cases h
theorem next_of {E : List Sym} {kind : Int} {a : Nat} {n : Int} {r : List Sym} (h : E.drop a = (kind, n) :: r) : nextI E kind a = some (n, a + 1) ∧ E.drop (a + 1) = r := by
  have h1 : (E.drop a)[0]? = some (kind, n) := by rw [h]; rfl
  rw [List.getElem?_drop, Nat.add_zero] at h1
  unfold nextI
  rw [h1]
  refine ⟨by simp, ?_⟩
  rw [← List.drop_drop, h]; rfl
theorem acts_eq (l : List gramL.Prod) (p k : Int) (kids : List Tree) : acts l (.mk p k kids) = .ahead p :: (actss l kids (prodAt l p).2 ++ [.behind p]) := by rw [acts]
theorem actss_cons (l : List gramL.Prod) (t : Tree) (y : Sym) (r : List Tree) (b : List Sym) : (actss l (t :: r) (y :: b)).map evD = downX l t ++ (actss l r b).map evD := by
  obtain ⟨p, k, kids⟩ := t
  rw [actss]
  unfold downX downE
  show List.map evD _ = (if p < 0 then _ else _) ++ _
  split
  · simp [evD, Tree.tok]
  · simp
/-- what is read is what a tree tells -/
theorem readK_is {l : List gramL.Prod} {E : List Sym} {f : Nat} (h : ∀ {x a k t a1 k1}, readD l E f x a k = some (t, a1, k1) → a < a1 ∧ a1 ≤ E.length ∧ E.drop a = downX l t ++ E.drop a1) : ∀ {b : List Sym} {a k : Nat} {ks : List Tree} {a1 k1 : Nat}, readK (readD l E f) b a k = some (ks, a1, k1) → a ≤ E.length → a ≤ a1 ∧ a1 ≤ E.length ∧ ks.length = b.length ∧ E.drop a = (actss l ks b).map evD ++ E.drop a1
  | [], a, k, ks, a1, k1, e, ha => by
    simp only [readK, Option.some.injEq, Prod.mk.injEq] at e
    obtain ⟨rfl, rfl, rfl⟩ := e
    exact ⟨Nat.le_refl _, ha, rfl, by simp [actss]⟩
  | y :: b, a, k, ks, a1, k1, e, ha => by
    rw [readK] at e
    cases e1 : readD l E f y a k with
    | none => rw [e1] at e; cases e
    | some r1 =>
      obtain ⟨t, a2, k2⟩ := r1
      rw [e1] at e
      dsimp only at e
      cases e2 : readK (readD l E f) b a2 k2 with
      | none => rw [e2] at e; cases e
      | some r2 =>
        obtain ⟨ts, a3, k3⟩ := r2
        rw [e2] at e
        simp only [Option.some.injEq, Prod.mk.injEq] at e
        obtain ⟨rfl, rfl, rfl⟩ := e
        obtain ⟨q1, q2, q3⟩ := h e1
        obtain ⟨u1, u2, u3, u4⟩ := readK_is h e2 q2
        refine ⟨by omega, u2, by simp [u3], ?_⟩
        rw [actss_cons, List.append_assoc, ← u4, q3]
theorem readD_is {l : List gramL.Prod} {E : List Sym} : ∀ {f : Nat} {x : Sym} {a k : Nat} {t : Tree} {a1 k1 : Nat}, readD l E f x a k = some (t, a1, k1) → a < a1 ∧ a1 ≤ E.length ∧ E.drop a = downX l t ++ E.drop a1
  | 0, _, _, _, _, _, _, e => by cases e
  | f + 1, x, a, k, t, a1, k1, e => by
    rw [readD] at e
    split at e
    · cases e1 : nextI E 2 a with
      | none => rw [e1] at e; cases e
      | some r =>
        obtain ⟨n, a2⟩ := r
        rw [e1] at e
        dsimp only at e
        obtain ⟨q1, q2, q3⟩ := next_iff e1
        split at e
        · simp only [Option.some.injEq, Prod.mk.injEq] at e
          obtain ⟨rfl, rfl, rfl⟩ := e
          exact ⟨by omega, by omega, by rw [q3]; rfl⟩
        · cases e
    · cases e1 : nextI E 1 a with
      | none => rw [e1] at e; cases e
      | some r =>
        obtain ⟨n, a2⟩ := r
        rw [e1] at e
        dsimp only at e
        obtain ⟨q1, q2, q3⟩ := next_iff e1
        split at e
        · cases e
        · rename_i c
          cases e2 : readK (readD l E f) (prodAt l n).2 a2 k with
          | none => rw [e2] at e; cases e
          | some r2 =>
            obtain ⟨ks, a3, k3⟩ := r2
            rw [e2] at e
            dsimp only at e
            obtain ⟨u1, u2, _, u3⟩ := readK_is (fun h => readD_is h) e2 (by omega)
            cases e3 : nextI E 3 a3 with
            | none => rw [e3] at e; cases e
            | some r3 =>
              obtain ⟨m, a4⟩ := r3
              rw [e3] at e
              dsimp only at e
              obtain ⟨v1, v2, v3⟩ := next_iff e3
              split at e
              · rename_i c2
                simp only [Option.some.injEq, Prod.mk.injEq] at e
                obtain ⟨rfl, rfl, rfl⟩ := e
                refine ⟨by omega, by omega, ?_⟩
                rw [q3, u3, v3, c2]
                clear e1 e2 e3
                unfold downX downE
                rw [if_neg (show ¬ (Tree.mk n 0 ks).prod < 0 from fun h => c (.inl h)), acts_eq]
                simp [evD]
              · cases e
mutual
/-- a right tree is read from what it tells -/
theorem readD_of {l : List gramL.Prod} {E : List Sym} : ∀ {t : Tree} {x : Sym} {u a f : Nat} {r : List Sym}, Right l t x u → size t ≤ f → E.drop a = downX l t ++ r → ∃ a1, readD l E f x a u = some (t, a1, u + leaves t) ∧ E.drop a1 = r
  | .mk p k kids, x, u, a, f, r, h, hf, hr => by
    rw [size] at hf
    obtain ⟨f, rfl⟩ : ∃ f', f = f' + 1 := ⟨f - 1, by omega⟩
    rw [readD, leaves]
    unfold downX at hr
    rw [Right] at h
    rcases h with ⟨a1, a2, a3, a4⟩ | ⟨a1, a2, a3, a4, a5, a6⟩
    · rw [if_pos (by show p < 0; omega)] at hr
      obtain ⟨q1, q2⟩ := next_of (by exact hr)
      refine ⟨a + 1, ?_, q2⟩
      rw [if_pos a1, if_pos (by omega), q1]
      subst a2 a4
      show (if k = (u : Int) then some (Tree.mk (-1) k [], a + 1, u + 1) else none) = some (Tree.mk (-1) k [], a + 1, u + 1)
      rw [if_pos a3]
    · rw [if_neg (by show ¬ p < 0; omega)] at hr
      unfold downE at hr
      rw [acts_eq] at hr
      simp only [List.map_cons, List.map_append, List.map_nil, evD, List.cons_append, List.append_assoc, List.nil_append] at hr
      obtain ⟨q1, q2⟩ := next_of hr
      obtain ⟨b1, v1, v2⟩ := readK_of (f := f) a6 (by omega) q2
      obtain ⟨w1, w2⟩ := next_of v2
      refine ⟨b1 + 1, ?_, w2⟩
      rw [if_neg a1, if_neg (by omega), q1]
      dsimp only
      rw [if_neg (by rw [a4]; omega), v1]
      dsimp only
      rw [w1]
      dsimp only
      rw [if_pos rfl, a5]
theorem readK_of {l : List gramL.Prod} {E : List Sym} : ∀ {ks : List Tree} {b : List Sym} {u a f : Nat} {r : List Sym}, Rights l ks b u → sizes ks ≤ f → E.drop a = (actss l ks b).map evD ++ r → ∃ a1, readK (readD l E f) b a u = some (ks, a1, u + leavess ks) ∧ E.drop a1 = r
  | [], [], u, a, f, r, _, _, hr => by
    refine ⟨a, ?_, by simpa [actss] using hr⟩
    rw [leavess]; rfl
  | .mk p k kk :: ks, y :: b, u, a, f, r, h, hf, hr => by
    rw [Rights] at h
    rw [sizes] at hf
    rw [actss_cons, List.append_assoc] at hr
    obtain ⟨a1, e1, r1⟩ := readD_of h.1 (by omega : size (.mk p k kk) ≤ f) hr
    obtain ⟨a2, e2, r2⟩ := readK_of h.2 (by omega : sizes ks ≤ f) r1
    refine ⟨a2, ?_, r2⟩
    rw [readK, e1]
    dsimp only
    rw [e2, leavess, Nat.add_assoc]
  | [], _ :: _, _, _, _, _, h, _, _ => by simp [Rights] at h
  | _ :: _, [], _, _, _, _, h, _, _ => by simp [Rights] at h
end
end Go.Proofs.Ytnicebdkejkieaa.treeL
