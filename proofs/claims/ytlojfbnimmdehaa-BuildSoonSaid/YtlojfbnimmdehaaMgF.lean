/- Part 6 of what BuildSoon needs: ClimbM, LrP, LrT, ClimbO, IntS, BuA, BuB, ClimbE, BuC, BuD, BuP, EvT, CountE, CountP, CountQ, BoolC, ClimbF. -/
import Derived.Test.YtlojfbnimmdehaaMgE
import Derived.WalkKit
import Derived.WalkSpells
import Derived.WalkLawsBesides
import Derived.Deep.RegionLaw
import Derived.Deep.AppendLies
import Derived.Deep.QuietTactic
import Derived.BigQuiet
import Derived.Deep.DeepCutAuto
import Derived.Lib.Hide
import Derived.Test.YtlojfbnimmdehaaRows
import Derived.ProofKit
import Derived.OpenShut
import Derived.ShutString
import Derived.SizedLaws
import Derived.JoinedCond
import Derived.Deep.CondSized
import Derived.Deep.Quiet
import Derived.StillTail
import Derived.Deep.LoopGhost
import Derived.Laws.BitsLemmas
import Derived.Laws.BytesString
import Derived.Test.YtlojfbnimmdehaaProg
import Derived.Laws.StructEq
import Derived.Laws.MakeOwn
import Derived.Laws.AppendOwn
import Derived.Laws.Entries
import Derived.Maps.OwnSet
import Derived.DeepKeys4
import Derived.WideKeyEntry
import Derived.Sort.Grow
import Derived.Lib.Walk
import Derived.Deep.RegionWith
import Derived.Deep.RegionHeld
import Derived.StringKeys
import Derived.Laws.BitsAllLaws
import Derived.Shelf.SlGeneric
import Derived.Shelf.SlSortCmp.NoneTotal
import Derived.Ground.SlsfProg
/- ClimbM -/
namespace Go.Proofs.Ytlojfbnimmdehaa.climbL
open gramL treeL countL factsL derL llL
section
variable {l : List gramL.Prod} {C : Int → Nat → Int → Prop}
mutual
theorem right_der : ∀ {t : Tree} {x : Sym} {u : Nat}, Right l t x u → Der l x (yieldX l t x)
  | .mk p k kids, x, u, h => by
    rw [Right] at h
    rcases h with ⟨h1, rfl, rfl, rfl⟩ | ⟨h1, h2, h3, h4, rfl, h5⟩
    · unfold yieldX; rw [if_pos (by show (-1 : Int) < 0; omega)]; exact .term h1
    · unfold yieldX; rw [if_neg (by show ¬ p < 0; omega), yieldT_eq]
      exact .non h1 (prodAt_mem h2 h3) h4 (rights_der h5)
theorem rights_der : ∀ {ks : List Tree} {b : List Sym} {u : Nat}, Rights l ks b u → Ders l b (yields l ks b)
  | [], [], _, _ => .nil
  | [], _ :: _, _, h => by rw [Rights] at h; exact h.elim
  | _ :: _, [], _, h => by rw [Rights] at h; exact h.elim
  | t :: r, y :: b, u, h => by
    rw [Rights] at h
    rw [yields_X]
    exact .cons (right_der h.1) (rights_der h.2)
end
mutual
theorem der_right : ∀ {x : Sym} {ws : List Int}, Der l x ws → ∀ (u : Nat), ∃ t, Right l t x u ∧ yieldX l t x = ws
  | x, _, .term h, u => ⟨.mk (-1) (u : Int) [], by rw [Right]; exact .inl ⟨h, rfl, rfl, rfl⟩, by unfold yieldX; rw [if_pos (by show (-1 : Int) < 0; omega)]⟩
  | x, _, .non (p := p) h hp hx hd, u => by
    obtain ⟨i, hi, e⟩ := List.getElem_of_mem hp
    have he : prodAt l (i : Int) = p := by unfold prodAt; rw [Int.toNat_natCast, List.getD_eq_getElem?_getD, List.getElem?_eq_getElem hi, e]; rfl
    obtain ⟨ts, h1, h2⟩ := ders_right hd u
    refine ⟨.mk (i : Int) 0 ts, by rw [Right, he]; exact .inr ⟨h, by omega, by omega, hx, rfl, h1⟩, ?_⟩
    unfold yieldX; rw [if_neg (by show ¬ (i : Int) < 0; omega), yieldT_eq, he]; exact h2
theorem ders_right : ∀ {b : List Sym} {ws : List Int}, Ders l b ws → ∀ (u : Nat), ∃ ts, Rights l ts b u ∧ yields l ts b = ws
  | _, _, .nil, u => ⟨[], by rw [Rights]; trivial, rfl⟩
  | _, _, .cons h1 h2, u => by
    obtain ⟨t, k1, k2⟩ := der_right h1 u
    obtain ⟨ts, k3, k4⟩ := ders_right h2 (u + leaves t)
    exact ⟨t :: ts, by rw [Rights]; exact ⟨k1, k3⟩, by rw [yields_X, k2, k4]⟩
end
end
/-! ### whole words -/
section
variable {g : Gram} {T N : Nat}
def nxC (g : Gram) (T N : Nat) : Int → Nat → Int := fun n col => llL.rowAt g.prods (eng.mayG N g.prods) T n.toNat col
theorem drop_cons {W : List Int} {a : Nat} {t : Int} {r : List Int} (h : W.drop a = t :: r) : a < W.length ∧ W.getD a 0 = t ∧ W.drop (a + 1) = r := by
  have h1 : a < W.length := by
    rcases Nat.lt_or_ge a W.length with h1 | h1
    · exact h1
    · rw [List.drop_of_length_le h1] at h; cases h
  rw [List.drop_eq_getElem_cons h1] at h
  obtain ⟨e1, e2⟩ := List.cons.inj h
  exact ⟨h1, by rw [List.getD_eq_getElem?_getD, List.getElem?_eq_getElem h1, e1]; rfl, e2⟩
/-- a word of the grammar, or its beginning, is not refused -/
theorem run_det {W : List Int} : ∀ (r : List Int) (st : List TD) (a : Nat) (out : List Sym) {E : List Sym}, r = W.drop a → Rem g.prods (fun n u p => nxC g T N n (colAt T W u) = p) st a E r →
    (runF g.prods (nxC g T N) T r st a out).2.2 = 14 ∨ ((runF g.prods (nxC g T N) T r st a out).2.2 = 0 ∧ (runF g.prods (nxC g T N) T r st a out).1 = out ++ E ∧ (runF g.prods (nxC g T N) T r st a out).2.1 = a + r.length)
  | [], st, a, out, E, hr, h => by
    rw [runF]
    have hc : colAt T W a = T := by
      unfold colAt
      rw [if_neg]
      intro hl
      rw [List.drop_eq_getElem_cons hl] at hr
      cases hr
    rcases end_det (nx := fun n => nxC g T N n T) (fun n p h => by rw [hc] at h; exact h) rfl h with e | ⟨e1, e2⟩
    · exact .inl e
    · exact .inr ⟨e1, by rw [e2], rfl⟩
  | t :: r, st, a, out, E, hr, h => by
    rw [runF]
    obtain ⟨h1, h2, h3⟩ := drop_cons hr.symm
    have hc : colAt T W a = t.toNat := by unfold colAt; rw [if_pos h1, h2]
    rcases push_det (nx := fun n => nxC g T N n t.toNat) (t := t) (fun n p h => by rw [hc] at h; exact h) rfl h with e | ⟨e1, E2, e2, e3⟩
    · rw [if_pos (by rw [e]; decide)]; exact .inl e
    · rw [if_neg (by rw [e1]; simp)]
      rcases run_det r _ (a + 1) (out ++ (pushF g.prods (fun n => nxC g T N n t.toNat) st a t).2.2) h3.symm e3 with y | ⟨y1, y2, y3⟩
      · exact .inl y
      · exact .inr ⟨y1, by rw [y2, e2, List.append_assoc], by rw [y3]; simp; omega⟩
theorem run_far {W : List Int} : ∀ (m : Nat) (r : List Int) (st : List TD) (a : Nat) (out : List Sym) {E : List Sym}, m ≤ r.length → m ≤ (W.drop a).length → r.take m = (W.drop a).take m → Rem g.prods (fun n u p => nxC g T N n (colAt T W u) = p) st a E (W.drop a) →
    (∀ R, R = runF g.prods (nxC g T N) T r st a out → a ≤ R.2.1) → (runF g.prods (nxC g T N) T r st a out).2.2 = 14 ∨ a + m ≤ (runF g.prods (nxC g T N) T r st a out).2.1
  | 0, r, st, a, out, E, _, _, _, _, hge => .inr (hge _ rfl)
  | m + 1, [], st, a, out, E, h, _, _, _, _ => by simp at h
  | m + 1, t :: r, st, a, out, E, h, hm, he, hr, _ => by
    cases hW : W.drop a with
    | nil => rw [hW] at hm; simp at hm
    | cons t' r' =>
      rw [hW] at he hr hm
      simp only [List.take_succ_cons, List.cons.injEq] at he
      obtain ⟨rfl, he⟩ := he
      obtain ⟨h1, h2, h3⟩ := drop_cons hW
      have hc : colAt T W a = t.toNat := by unfold colAt; rw [if_pos h1, h2]
      rw [runF]
      rcases push_det (nx := fun n => nxC g T N n t.toNat) (t := t) (fun n p h => by rw [hc] at h; exact h) rfl hr with e | ⟨e1, E2, e2, e3⟩
      · rw [if_pos (by rw [e]; decide)]; exact .inl e
      · rw [if_neg (by rw [e1]; simp)]
        rcases run_far m r _ (a + 1) (out ++ (pushF g.prods (fun n => nxC g T N n t.toNat) st a t).2.2) (by simp at h; omega) (by rw [h3]; simp at hm; omega) (by rw [h3]; exact he) (by rw [h3]; exact e3) (fun R hR => by
          subst hR; exact run_ge _ _ _ _) with y | y
        · exact .inl y
        · exact .inr (by omega)
where
  run_ge : ∀ (r : List Int) (st : List TD) (a : Nat) (out : List Sym), a ≤ (runF g.prods (nxC g T N) T r st a out).2.1
  | [], st, a, out => by rw [runF]; exact Nat.le_refl _
  | t :: r, st, a, out => by
    rw [runF]
    split
    · exact Nat.le_refl _
    · exact Nat.le_trans (Nat.le_succ a) (run_ge r _ (a + 1) _)
theorem top_prod {l : List gramL.Prod} {t : Tree} (h : Right l t (2, 0) 0) : 0 ≤ t.prod := by
  obtain ⟨p, k, kids⟩ := t
  rw [Right] at h
  rcases h with ⟨h, _⟩ | ⟨_, h, _⟩
  · cases h
  · exact h
theorem yieldX_top {l : List gramL.Prod} {t : Tree} (h : Right l t (2, 0) 0) : yieldX l t (2, 0) = yieldT l t := by
  unfold yieldX; rw [if_neg (by have := top_prod h; omega)]
end
end Go.Proofs.Ytlojfbnimmdehaa.climbL

/- LrP -/
namespace Go.Proofs.Ytlojfbnimmdehaa.itemL
open gramL treeL countL factsL smallL derL
open climbL (right_der rights_der der_right ders_right yieldX_top top_prod)
open llL (colAt)
section
variable (l : List gramL.Prod) (act : Nat → Nat → Act) (gt : Nat → Int → Int)
/-- a production is done -/
def redB (σ : List Nat) (p : Int) : Option (List Nat) := match σ.drop (prodAt l p).2.length with
  | r :: ρ => if 0 ≤ gt r (prodAt l p).1 then some ((gt r (prodAt l p).1).toNat :: r :: ρ) else none
  | [] => none
/-- acts at a column, till a shift, or to accept -/
def runB (col a : Nat) : Nat → List Nat → List Sym → Int × List Nat × List Sym
  | 0, _, _ => (14, [], [])
  | f + 1, σ, o =>
    if f = 0 ∧ (act (σ.headD 0) col).1 ≠ 0 then (14, [], [])
    else if (act (σ.headD 0) col).1 = 3 then (0, σ, o)
    else if (act (σ.headD 0) col).1 = 1 then (if 60 < σ.length + 1 then (14, [], []) else (0, (act (σ.headD 0) col).2.toNat :: σ, o ++ [(2, (a : Int))]))
    else if (act (σ.headD 0) col).1 = 2 then (match redB l gt σ (act (σ.headD 0) col).2 with
      | none => (13, [], [])
      | some σ' => if 60 < σ'.length then (14, [], []) else runB col a f σ' (o ++ [(4, (act (σ.headD 0) col).2)]))
    else (13, [], [])
/-- a word: what is told, how many tokens were had, how it ends -/
def bRun (T : Nat) : List Int → List Nat → Nat → List Sym → List Sym × Nat × Int
  | [], σ, a, out => (out ++ (runB l act gt T a 2001 σ []).2.2, a, (runB l act gt T a 2001 σ []).1)
  | t :: r, σ, a, out => if (runB l act gt t.toNat a 2001 σ []).1 ≠ 0 then (out, a, (runB l act gt t.toNat a 2001 σ []).1) else bRun T r (runB l act gt t.toNat a 2001 σ []).2.1 (a + 1) (out ++ (runB l act gt t.toNat a 2001 σ []).2.2)
/-- the same, in the midst of a token -/
def contB (T f : Nat) (σ : List Nat) (o : List Sym) : List Int → Nat → List Sym → List Sym × Nat × Int
  | [], a, out => (out ++ (runB l act gt T a f σ o).2.2, a, (runB l act gt T a f σ o).1)
  | t :: r, a, out => if (runB l act gt t.toNat a f σ o).1 ≠ 0 then (out, a, (runB l act gt t.toNat a f σ o).1) else bRun l act gt T r (runB l act gt t.toNat a f σ o).2.1 (a + 1) (out ++ (runB l act gt t.toNat a f σ o).2.2)
end
section
variable {l : List gramL.Prod} {act : Nat → Nat → Act} {gt : Nat → Int → Int} {T N : Nat} {lk : Int → Int → Nat} {Nx : List (List Int)} {S : List (List Item)}
theorem run_cont (r : List Int) (σ : List Nat) (a : Nat) (out : List Sym) : bRun l act gt T r σ a out = contB l act gt T 2001 σ [] r a out := by cases r <;> rfl
theorem bRun_ge : ∀ (r : List Int) (σ : List Nat) (a : Nat) (out : List Sym), a ≤ (bRun l act gt T r σ a out).2.1
  | [], _, _, _ => Nat.le_refl _
  | t :: r, σ, a, out => by
    rw [bRun]
    split
    · exact Nat.le_refl _
    · exact Nat.le_trans (Nat.le_succ a) (bRun_ge r _ (a + 1) _)
theorem bRun_le : ∀ (r : List Int) (σ : List Nat) (a : Nat) (out : List Sym), (bRun l act gt T r σ a out).2.1 ≤ a + r.length
  | [], _, _, _ => Nat.le_refl _
  | t :: r, σ, a, out => by
    rw [bRun]
    split
    · exact Nat.le_add_right _ _
    · have := bRun_le r (runB l act gt t.toNat a 2001 σ []).2.1 (a + 1) (out ++ (runB l act gt t.toNat a 2001 σ []).2.2)
      rw [List.length_cons]; omega
theorem contB_ge (f : Nat) (σ : List Nat) (o : List Sym) : ∀ (r : List Int) (a : Nat) (out : List Sym), a ≤ (contB l act gt T f σ o r a out).2.1
  | [], _, _ => Nat.le_refl _
  | t :: r, a, out => by
    rw [contB]
    split
    · exact Nat.le_refl _
    · exact Nat.le_trans (Nat.le_succ a) (bRun_ge r _ (a + 1) _)
theorem runB_acc {col a : Nat} {σ : List Nat} {o : List Sym} (hA : act (σ.headD 0) col = (3, 0)) : ∀ f, runB l act gt col a f σ o = (14, [], []) ∨ runB l act gt col a f σ o = (0, σ, o)
  | 0 => .inl rfl
  | f + 1 => by
    rw [runB, hA]
    by_cases c : f = 0 ∧ ((3, 0) : Act).1 ≠ 0
    · rw [if_pos c]; exact .inl rfl
    · rw [if_neg c, if_pos rfl]; exact .inr rfl
theorem runB_shift {col a s : Nat} {σ : List Nat} {o : List Sym} (hA : act (σ.headD 0) col = (1, (s : Int))) : ∀ f, runB l act gt col a f σ o = (14, [], []) ∨ runB l act gt col a f σ o = (0, s :: σ, o ++ [(2, (a : Int))])
  | 0 => .inl rfl
  | f + 1 => by
    rw [runB, hA]
    by_cases c : f = 0 ∧ ((1, (s : Int)) : Act).1 ≠ 0
    · rw [if_pos c]; exact .inl rfl
    rw [if_neg c, if_neg (by show ¬ (1 : Int) = 3; decide), if_pos rfl]
    by_cases c2 : 60 < σ.length + 1
    · rw [if_pos c2]; exact .inl rfl
    · rw [if_neg c2]; exact .inr rfl
theorem runB_red {col a : Nat} {p : Int} {σ σ' : List Nat} {o : List Sym} (hA : act (σ.headD 0) col = (2, p)) (hred : redB l gt σ p = some σ') : ∀ f, runB l act gt col a f σ o = (14, [], []) ∨ ∃ f', runB l act gt col a f σ o = runB l act gt col a f' σ' (o ++ [(4, p)])
  | 0 => .inl rfl
  | f + 1 => by
    rw [runB, hA]
    by_cases c : f = 0 ∧ ((2, p) : Act).1 ≠ 0
    · rw [if_pos c]; exact .inl rfl
    rw [if_neg c, if_neg (by show ¬ (2 : Int) = 3; decide), if_neg (by show ¬ (2 : Int) = 1; decide), if_pos rfl]
    dsimp only
    rw [hred]
    dsimp only
    by_cases c2 : 60 < σ'.length
    · rw [if_pos c2]; exact .inl rfl
    · rw [if_neg c2]; exact .inr ⟨f, rfl⟩
theorem runB_nil {col a : Nat} : ∀ (f : Nat) (σ : List Nat) (o : List Sym), (runB l act gt col a f σ o).1 ≠ 0 → (runB l act gt col a f σ o).2 = ([], [])
  | 0, _, _, _ => rfl
  | f + 1, σ, o, h => by
    rw [runB] at h ⊢
    split
    · rfl
    rename_i c; rw [if_neg c] at h
    split
    · rename_i c; rw [if_pos c] at h; exact absurd rfl h
    rename_i c; rw [if_neg c] at h
    split
    · rename_i c; rw [if_pos c] at h
      split
      · rfl
      · rename_i c; rw [if_neg c] at h; exact absurd rfl h
    rename_i c; rw [if_neg c] at h
    split
    · rename_i c; rw [if_pos c] at h
      split
      · rfl
      · rename_i σ' e
        rw [e] at h
        dsimp only at h
        split
        · rfl
        · rename_i c; rw [if_neg c] at h; exact runB_nil f _ _ h
    · rfl
/-- what is known of the table -/
structure TabB (l : List gramL.Prod) (act : Nat → Nat → Act) (gt : Nat → Int → Int) (T N : Nat) (Nx : List (List Int)) (S : List (List Item)) : Prop where
  act : ∀ q c, q < S.length → c ≤ T → act q c = actAt l T Nx S q c
  gt : ∀ q n, q < S.length → 0 ≤ n → n < (N : Int) → gt q n = goTo T Nx q n
theorem act_in {q c : Nat} {x : Act} (h : actAt l T Nx S q c = x) (h0 : x.1 ≠ 0) : x ∈ actsI l T (S.getD q []) (Nx.getD q []) c := by
  unfold actAt at h
  cases e : actsI l T (S.getD q []) (Nx.getD q []) c with
  | nil => rw [e] at h; subst h; exact absurd rfl h0
  | cons y r => rw [e] at h; subst h; exact List.mem_cons_self ..
/-- what an act means -/
theorem act_means {q c : Nat} {x : Act} (h : x ∈ actsI l T (S.getD q []) (Nx.getD q []) c) :
    (x.1 = 1 ∧ c < T ∧ 0 ≤ (Nx.getD q []).getD c 0 ∧ x.2 = (Nx.getD q []).getD c 0) ∨ (x = (3, 0) ∧ (((l.length : Int), 1, (c : Int)) : Item) ∈ S.getD q []) ∨ (x.1 = 2 ∧ x.2 < (l.length : Int) ∧ ((x.2, ((prodAt l x.2).2.length : Int), (c : Int)) : Item) ∈ S.getD q []) := by
  unfold actsI at h
  rcases List.mem_append.1 h with h | h
  · split at h
    · rename_i c1
      rw [List.mem_singleton] at h
      subst h
      exact .inl ⟨rfl, c1.1, c1.2, rfl⟩
    · cases h
  · obtain ⟨it, hit, e⟩ := List.mem_filterMap.1 h
    obtain ⟨p, d, k⟩ := it
    unfold actOf at e
    dsimp only at e
    by_cases c1 : k ≠ (c : Int)
    · rw [if_pos c1] at e; cases e
    · rw [if_neg c1] at e
      have c1 : k = (c : Int) := Classical.not_not.1 c1
      subst c1
      by_cases c2 : p = (l.length : Int) ∧ d = 1
      · rw [if_pos c2] at e
        obtain ⟨rfl, rfl⟩ := c2
        exact .inr (.inl ⟨(Option.some.inj e).symm, hit⟩)
      · rw [if_neg c2] at e
        by_cases c3 : p < (l.length : Int) ∧ d = ((prodAt l p).2.length : Int)
        · rw [if_pos c3] at e
          obtain ⟨c3, rfl⟩ := c3
          obtain rfl := Option.some.inj e
          exact .inr (.inr ⟨rfl, c3, hit⟩)
        · rw [if_neg c3] at e; cases e
section
variable (hB : TabB l act gt T N Nx S) (hI : AllI l T N lk S.length Nx S) (hw : ∀ q ∈ l, q.2.length ≤ 8) (hl : l.length ≤ 40) (hT : T ≤ 30) (hh : ∀ q ∈ l, 0 ≤ q.1 ∧ q.1 < (N : Int))
include hB hI hw hl hT hh
omit hB hw hl hT hh in
theorem cell_next {q k s : Nat} {x : Sym} (hq : q < S.length) (hk : (symsI T N)[k]? = some x) (hs : (Nx.getD q []).getD k 0 = (s : Int)) : s < S.length ∧ S.getD s [] = stepI l T lk (S.getD q []) x ∧ stepI l T lk (S.getD q []) x ≠ [] := by
  rcases hI.cell q hq k x hk with ⟨_, h2⟩ | ⟨h1, h2, h3⟩
  · rw [hs] at h2; omega
  · rw [hs] at h3
    obtain rfl : s = idx S (stepI l T lk (S.getD q []) x) := by omega
    refine ⟨idx_lt h2, ?_, h1⟩
    rw [List.getD_eq_getElem?_getD, List.getElem?_eq_getElem (idx_lt h2)]
    exact idx_get (idx_lt h2)
omit hB hI hw hl hT in
theorem prodAt_head {p : Int} (h0 : 0 ≤ p) (h1 : p < (l.length : Int)) : 0 ≤ (prodAt l p).1 ∧ (prodAt l p).1 < (N : Int) := hh _ (prodAt_mem h0 h1)
/-- a token's acts keep the stack right -/
theorem run_stk {col a : Nat} (hc : col ≤ T) : ∀ (f : Nat) {σ : List Nat} {o : List Sym} {ts : List (Sym × Tree)}, Stk l T N lk S σ ts a → (runB l act gt col a f σ o).1 = 0 →
    ∃ E ts', (runB l act gt col a f σ o).2.2 = o ++ E ∧ upK l ts' = upK l ts ++ E ∧
      ((col < T ∧ Stk l T N lk S (runB l act gt col a f σ o).2.1 ts' (a + 1) ∧ yieldK l ts' = yieldK l ts ++ [(col : Int)]) ∨
       (Stk l T N lk S (runB l act gt col a f σ o).2.1 ts' a ∧ yieldK l ts' = yieldK l ts ∧ ∃ q σ', (runB l act gt col a f σ o).2.1 = q :: σ' ∧ (((l.length : Int), 1, (col : Int)) : Item) ∈ S.getD q []))
  | 0, _, _, _, _, h => by cases h
  | f + 1, σ, o, ts, hs, h => by
    obtain ⟨q, ρ, rfl⟩ := hs.ne
    have hq := stk_lt hI hs
    have hA : act ((q :: ρ).headD 0) col = actAt l T Nx S q col := hB.act q col hq hc
    rw [runB] at h ⊢
    generalize act ((q :: ρ).headD 0) col = x at *
    have hin := fun h0 => act_means (act_in (l := l) (T := T) (Nx := Nx) (S := S) (q := q) (c := col) hA.symm h0)
    by_cases c0 : f = 0 ∧ x.1 ≠ 0
    · rw [if_pos c0] at h; cases h
    rw [if_neg c0] at h ⊢
    by_cases c1 : x.1 = 3
    · rw [if_pos c1] at h ⊢
      refine ⟨[], ts, (List.append_nil _).symm, (List.append_nil _).symm, .inr ⟨hs, rfl, q, ρ, rfl, ?_⟩⟩
      rcases hin (by omega) with h' | h' | h'
      · omega
      · exact h'.2
      · omega
    rw [if_neg c1] at h ⊢
    by_cases c2 : x.1 = 1
    · rw [if_pos c2] at h ⊢
      by_cases c3 : 60 < (q :: ρ).length + 1
      · rw [if_pos c3] at h; cases h
      rw [if_neg c3] at h ⊢
      rcases hin (by omega) with h' | h' | h'
      · obtain ⟨_, h1, h2, h3⟩ := h'
        obtain ⟨s, hs3⟩ := Int.eq_ofNat_of_zero_le h2
        obtain ⟨k1, k2, k3⟩ := cell_next hI hq (syms_term h1) hs3
        have e : x.2.toNat = s := by rw [h3, hs3]; rfl
        have hleaf : Right l (.mk (-1) (a : Int) []) (1, (col : Int)) a := by rw [Right]; exact .inl ⟨rfl, rfl, rfl, rfl⟩
        refine ⟨[(2, (a : Int))], ((1, (col : Int)), .mk (-1) (a : Int) []) :: ts, rfl, ?_, .inl ⟨h1, ?_, ?_⟩⟩
        · rw [upK_cons, upX_leaf]
        · rw [e]
          have := Stk.push hs k1 k2 k3 hleaf
          exact this
        · rw [yieldK_cons]; rfl
      · rw [h'.1] at c2; cases c2
      · omega
    rw [if_neg c2] at h ⊢
    by_cases c3 : x.1 = 2
    · rw [if_pos c3] at h ⊢
      rcases hin (by omega) with h' | h' | h'
      · omega
      · rw [h'.1] at c3; cases c3
      · obtain ⟨_, h1, h2⟩ := h'
        have h0 : 0 ≤ x.2 := (state_right hI hq _ h2).1
        obtain ⟨r1, r2⟩ := prodAt_head hh h0 h1
        cases e : redB l gt (q :: ρ) x.2 with
        | none => rw [e] at h; cases h
        | some σ' =>
          rw [e] at h
          dsimp only at h ⊢
          by_cases c4 : 60 < σ'.length
          · rw [if_pos c4] at h; cases h
          rw [if_neg c4] at h ⊢
          unfold redB at e
          cases ed : (q :: ρ).drop (prodAt l x.2).2.length with
          | nil => rw [ed] at e; cases e
          | cons r ρ2 =>
            rw [ed] at e
            dsimp only at e
            by_cases c5 : 0 ≤ gt r (prodAt l x.2).1
            · rw [if_pos c5] at e
              obtain rfl := Option.some.inj e
              obtain ⟨q', σ2, us, ts2, a2, e1, e2, e3, e4, e5, e6, e7, e8⟩ := stk_backs hI hw hl hT _ hs h2 rfl
              have hr : r < S.length := by
                rw [ed] at e1
                obtain ⟨rfl, rfl⟩ := List.cons.inj e1
                exact stk_lt hI e4
              have hg := hB.gt r _ hr r1 r2
              rw [hg] at c5 h ⊢
              obtain ⟨s, hs3⟩ := Int.eq_ofNat_of_zero_le c5
              have hk : (symsI T N)[T + (prodAt l x.2).1.toNat]? = some (2, (prodAt l x.2).1) := by
                have := syms_non (T := T) (N := N) (k := (prodAt l x.2).1.toNat) (by omega)
                rwa [Int.toNat_of_nonneg r1] at this
              obtain ⟨k1, k2, k3⟩ := cell_next hI hr hk hs3
              obtain ⟨ts3, g1, g2, g3⟩ := stk_reduce hI hw hl hT hs h0 h1 h2 ed k1 k2 k3
              have e9 : (goTo T Nx r (prodAt l x.2).1).toNat = s := by rw [hs3]; rfl
              rw [e9] at h ⊢
              obtain ⟨E, ts4, f1, f2, f3⟩ := run_stk hc f g1 h
              refine ⟨(4, x.2) :: E, ts4, by rw [f1, List.append_assoc]; rfl, by rw [f2, g3, List.append_assoc]; rfl, ?_⟩
              rw [g2] at f3
              exact f3
            · rw [if_neg c5] at e; cases e
    · rw [if_neg c3] at h; cases h
/-! ### each tree's word is built -/
omit hw hl hT in
theorem run_det {w : List Int} (hcol : ∀ x ∈ w, 0 ≤ x ∧ x < (T : Int)) {σ σ1 : List Nat} {a a1 : Nat} {E : List Sym} (h : LRun l T Nx S w σ a E σ1 a1) : (∀ q ∈ σ, q < S.length) → a1 = w.length → (∀ q ρ, σ1 = q :: ρ → actAt l T Nx S q (colAt T w a1) = (3, 0)) → σ1 ≠ [] →
    ∀ (f : Nat) (o : List Sym) (m : Nat) (r : List Int) (out : List Sym), a ≤ w.length → m ≤ r.length → m ≤ (w.drop a).length → r.take m = (w.drop a).take m → (r = w.drop a → (contB l act gt T f σ o r a out).2.2 = 14 ∨ contB l act gt T f σ o r a out = (out ++ (o ++ E), w.length, 0)) ∧ ((contB l act gt T f σ o r a out).2.2 = 14 ∨ a + m ≤ (contB l act gt T f σ o r a out).2.1) := by
  induction h with
  | @nil σ a =>
    intro hq ha hacc hne f o m r out hal hm hm2 hr
    subst ha
    have hm0 : m = 0 := by rw [List.length_drop] at hm2; omega
    subst hm0
    refine ⟨fun hrw => ?_, .inr (contB_ge f σ o r _ out)⟩
    rw [List.drop_length] at hrw
    subst hrw
    obtain ⟨q, ρ, rfl⟩ : ∃ q ρ, σ = q :: ρ := List.exists_cons_of_ne_nil hne
    have hc : colAt T w w.length = T := by unfold colAt; rw [if_neg (Nat.lt_irrefl _)]
    have hA := hacc q ρ rfl
    rw [hc] at hA
    have hA2 : act ((q :: ρ).headD 0) T = (3, 0) := (hB.act q T (hq q (List.mem_cons_self ..)) (Nat.le_refl _)).trans hA
    rcases runB_acc (l := l) (gt := gt) (a := w.length) (o := o) hA2 f with e | e
    · exact .inl (by rw [contB, e])
    · exact .inr (by rw [contB, e, List.append_nil])
  | @shift q s σ σ' a a' E ha h hr ih =>
    intro hq ha' hacc hne f o m r out hal hm hm2 hrm
    have hqS := hq q (List.mem_cons_self ..)
    have hcT : colAt T w a ≤ T := by
      unfold colAt; rw [if_pos ha]
      have := hcol _ (List.getElem_mem ha)
      rw [List.getD_eq_getElem?_getD, List.getElem?_eq_getElem ha]
      show w[a].toNat ≤ T
      omega
    have hA2 : act ((q :: σ).headD 0) (colAt T w a) = (1, (s : Int)) := (hB.act q _ hqS hcT).trans h
    have hmean := act_means (act_in h (by show (1 : Int) ≠ 0; decide))
    have hc1 : colAt T w a < T ∧ (Nx.getD q []).getD (colAt T w a) 0 = (s : Int) := by
      rcases hmean with h' | h' | h'
      · exact ⟨h'.2.1, h'.2.2.2.symm⟩
      · cases h'.1
      · have := h'.1; cases this
    obtain ⟨k1, -, -⟩ := cell_next hI hqS (syms_term hc1.1) hc1.2
    have hq2 : ∀ q' ∈ s :: q :: σ, q' < S.length := fun q' hq' => (List.mem_cons.1 hq').elim (fun e => e ▸ k1) fun e => hq q' e
    have hd : w.drop a = w[a] :: w.drop (a + 1) := List.drop_eq_getElem_cons ha
    have hcw : colAt T w a = w[a].toNat := by
      unfold colAt; rw [if_pos ha, List.getD_eq_getElem?_getD, List.getElem?_eq_getElem ha]; rfl
    have key : ∀ (r' : List Int), (contB l act gt T f (q :: σ) o (w[a] :: r') a out).2.2 = 14 ∨ contB l act gt T f (q :: σ) o (w[a] :: r') a out = contB l act gt T 2001 (s :: q :: σ) [] r' (a + 1) (out ++ (o ++ [(2, (a : Int))])) := fun r' => by
      rw [hcw] at hA2
      rcases runB_shift (l := l) (gt := gt) (a := a) (o := o) hA2 f with e | e
      · exact .inl (by rw [contB, e]; rfl)
      · exact .inr (by rw [contB, e, ← run_cont]; rfl)
    constructor
    · intro hrw
      subst hrw
      rw [hd]
      rcases key (w.drop (a + 1)) with h14 | he
      · exact .inl h14
      · rw [he]
        have := (ih hq2 ha' hacc hne 2001 [] 0 (w.drop (a + 1)) (out ++ (o ++ [(2, (a : Int))])) (by omega) (Nat.zero_le _) (Nat.zero_le _) rfl).1 rfl
        rcases this with h14 | h0
        · exact .inl h14
        · right
          rw [h0]
          simp
    · match m, r, hm, hrm with
      | 0, r, _, _ => exact .inr (contB_ge _ _ _ _ _ _)
      | m + 1, [], h', _ => simp at h'
      | m + 1, x :: r', hm', hrm' =>
        rw [hd] at hrm' hm2
        simp only [List.take_succ_cons, List.cons.injEq] at hrm'
        obtain ⟨rfl, hrm'⟩ := hrm'
        rcases key r' with h14 | he
        · exact .inl h14
        · rw [he]
          have := (ih hq2 ha' hacc hne 2001 [] m r' (out ++ (o ++ [(2, (a : Int))])) (by omega) (by simpa using hm') (Nat.le_of_succ_le_succ hm2) hrm').2
          rcases this with h14 | h0
          · exact .inl h14
          · exact .inr (by omega)
  | @reduce q rq tq p σ ρ σ' a a' E h hd hg hr ih =>
    intro hq ha' hacc hne f o m r out hal hm hm2 hrm
    have hqS := hq q (List.mem_cons_self ..)
    have hcT : colAt T w a ≤ T := by
      unfold colAt
      split
      · rename_i ha
        have := hcol _ (List.getElem_mem ha)
        rw [List.getD_eq_getElem?_getD, List.getElem?_eq_getElem ha]
        show w[a].toNat ≤ T
        omega
      · exact Nat.le_refl _
    have hA2 : act ((q :: σ).headD 0) (colAt T w a) = (2, p) := (hB.act q _ hqS hcT).trans h
    have hmean := act_means (act_in h (by show (2 : Int) ≠ 0; decide))
    have hp : p < (l.length : Int) ∧ 0 ≤ p := by
      rcases hmean with h' | h' | h'
      · have := h'.1; cases this
      · cases h'.1
      · exact ⟨h'.2.1, (state_right hI hqS _ h'.2.2).1⟩
    obtain ⟨r1, r2⟩ := prodAt_head hh hp.2 hp.1
    have hrS : rq < S.length := hq rq (List.mem_of_mem_drop (i := (prodAt l p).2.length) (by rw [hd]; exact List.mem_cons_self ..))
    have hk : (symsI T N)[T + (prodAt l p).1.toNat]? = some (2, (prodAt l p).1) := by
      have := syms_non (T := T) (N := N) (k := (prodAt l p).1.toNat) (by omega)
      rwa [Int.toNat_of_nonneg r1] at this
    obtain ⟨k1, -, -⟩ := cell_next hI hrS hk hg
    have hq2 : ∀ q' ∈ tq :: rq :: ρ, q' < S.length := fun q' hq' => (List.mem_cons.1 hq').elim (fun e => e ▸ k1) fun e => hq q' (List.mem_of_mem_drop (i := (prodAt l p).2.length) (by rw [hd]; exact e))
    have hred : redB l gt (q :: σ) p = some (tq :: rq :: ρ) := by
      unfold redB
      rw [hd]
      dsimp only
      rw [hB.gt rq _ hrS r1 r2, hg, if_pos (by omega)]
      rfl
    have stepR : ∀ (col : Nat), act ((q :: σ).headD 0) col = (2, p) → (runB l act gt col a f (q :: σ) o).1 = 14 ∨ ∃ f', runB l act gt col a f (q :: σ) o = runB l act gt col a f' (tq :: rq :: ρ) (o ++ [(4, p)]) := fun col hA2 => by
      rcases runB_red (a := a) (o := o) hA2 hred f with e | e
      · exact .inl (by rw [e])
      · exact .inr e
    have key : ∀ (r' : List Int), (r' = [] → colAt T w a = T) → (∀ t r2, r' = t :: r2 → colAt T w a = t.toNat) → (contB l act gt T f (q :: σ) o r' a out).2.2 = 14 ∨ ∃ f', contB l act gt T f (q :: σ) o r' a out = contB l act gt T f' (tq :: rq :: ρ) (o ++ [(4, p)]) r' a out := fun r' e1 e2 => by
      match r' with
      | [] =>
        have hA3 := hA2
        rw [e1 rfl] at hA3
        rcases stepR T hA3 with h14 | ⟨f', he⟩
        · exact .inl (by rw [contB]; exact h14)
        · exact .inr ⟨f', by rw [contB, contB, he]⟩
      | t :: r2 =>
        have hA3 := hA2
        rw [e2 t r2 rfl] at hA3
        rcases stepR t.toNat hA3 with h14 | ⟨f', he⟩
        · left
          rw [contB, if_pos (by rw [h14]; decide)]
          exact h14
        · exact .inr ⟨f', by rw [contB, contB, he]⟩
    have hcw : ∀ t r2, w.drop a = t :: r2 → colAt T w a = t.toNat := fun t r2 e => by
      have ha : a < w.length := by
        rcases Nat.lt_or_ge a w.length with h | h
        · exact h
        · rw [List.drop_eq_nil_of_le h] at e; cases e
      rw [List.drop_eq_getElem_cons ha] at e
      obtain ⟨rfl, _⟩ := List.cons.inj e
      unfold colAt; rw [if_pos ha, List.getD_eq_getElem?_getD, List.getElem?_eq_getElem ha]; rfl
    constructor
    · intro hrw
      rcases key r (fun e => by
        subst hrw
        have ha : ¬ a < w.length := fun ha => by rw [List.drop_eq_getElem_cons ha] at e; cases e
        unfold colAt; rw [if_neg ha]) (fun t r2 e => hcw t r2 (by rw [← hrw, e])) with h14 | ⟨f', he⟩
      · exact .inl h14
      · rw [he]
        rcases (ih hq2 ha' hacc hne f' (o ++ [(4, p)]) m r out hal hm hm2 hrm).1 hrw with h14 | h0
        · exact .inl h14
        · right
          rw [h0]
          simp
    · match m, r, hm, hrm with
      | 0, r, _, _ => exact .inr (contB_ge _ _ _ _ _ _)
      | m + 1, [], h', _ => simp at h'
      | m + 1, x :: r', hm', hrm' =>
        have ha : a < w.length := by rw [List.length_drop] at hm2; omega
        have hx : w.drop a = x :: w.drop (a + 1) := by
          rw [List.drop_eq_getElem_cons ha] at hrm' ⊢
          simp only [List.take_succ_cons, List.cons.injEq] at hrm'
          rw [hrm'.1]
        rcases key (x :: r') (fun e => by cases e) (fun t r2 e => by cases e; exact hcw _ _ hx) with h14 | ⟨f', he⟩
        · exact .inl h14
        · rw [he]
          exact (ih hq2 ha' hacc hne f' (o ++ [(4, p)]) (m + 1) (x :: r') out hal hm' hm2 hrm').2
/-- how far it was come: a stack is there -/
theorem run_far (hTop : ∀ q, q < S.length → ∀ it ∈ S.getD q [], it.1 = (l.length : Int) → it.2.2 = (T : Int)) : ∀ (r : List Int) {σ : List Nat} {a : Nat} {out : List Sym} {ts : List (Sym × Tree)}, (∀ x ∈ r, 0 ≤ x ∧ x < (T : Int)) → Stk l T N lk S σ ts a →
    ∃ σ' ts', Stk l T N lk S σ' ts' (bRun l act gt T r σ a out).2.1 ∧ yieldK l ts' = yieldK l ts ++ r.take ((bRun l act gt T r σ a out).2.1 - a)
  | [], σ, a, out, ts, _, hs => ⟨σ, ts, hs, by simp⟩
  | t :: r, σ, a, out, ts, hr, hs => by
    obtain ⟨t0, t1⟩ := hr t (List.mem_cons_self ..)
    rw [bRun]
    by_cases c : (runB l act gt t.toNat a 2001 σ []).1 ≠ 0
    · rw [if_pos c]
      exact ⟨σ, ts, hs, by simp⟩
    rw [if_neg c]
    obtain ⟨E, ts1, h1, h2, h3⟩ := run_stk hB hI hw hl hT hh (show t.toNat ≤ T by omega) 2001 (o := []) hs (Classical.not_not.1 c)
    rcases h3 with ⟨h3, h4, h5⟩ | ⟨h3, h4, q, σ', h5, h6⟩
    · obtain ⟨σ', ts', g1, g2⟩ := run_far hTop r (out := out ++ (runB l act gt t.toNat a 2001 σ []).2.2) (fun x hx => hr x (List.mem_cons_of_mem _ hx)) h4
      refine ⟨σ', ts', g1, ?_⟩
      have hge := bRun_ge (l := l) (act := act) (gt := gt) (T := T) r (runB l act gt t.toNat a 2001 σ []).2.1 (a + 1) (out ++ (runB l act gt t.toNat a 2001 σ []).2.2)
      rw [g2, h5, List.append_assoc]
      congr 1
      obtain ⟨d, hd⟩ : ∃ d, (bRun l act gt T r (runB l act gt t.toNat a 2001 σ []).2.1 (a + 1) (out ++ (runB l act gt t.toNat a 2001 σ []).2.2)).2.1 = a + 1 + d := ⟨_, (Nat.add_sub_cancel' hge).symm⟩
      rw [hd, show a + 1 + d - (a + 1) = d by omega, show a + 1 + d - a = d + 1 by omega, List.take_succ_cons, Int.toNat_of_nonneg t0]
      rfl
    · exfalso
      rw [h5] at h3
      have h7 : ((t.toNat : Nat) : Int) = (T : Int) := hTop q (stk_lt hI h3) _ h6 rfl
      omega
omit hB hh in
/-- what stands on a stack goes on to a word -/
theorem stk_viable (hM : ∀ i : Nat, i < N → ∃ ws, Der l (2, (i : Int)) ws) (hb : ∀ p x, x ∈ bodyI l p → x.1 = 1 ∨ (x.1 = 2 ∧ 0 ≤ x.2 ∧ x.2 < (N : Int))) {σ : List Nat} {ts : List (Sym × Tree)} {a : Nat} (h : Stk l T N lk S σ ts a) :
    ∀ q ρ, σ = q :: ρ → ∀ it ∈ S.getD q [], ∀ u, Ders l ((bodyI l it.1).drop it.2.1.toNat) u → ∃ v, Der l (2, 0) (yieldK l ts ++ (u ++ v)) := by
  have hrest : ∀ (b : List Sym), (∀ x ∈ b, x.1 = 1 ∨ (x.1 = 2 ∧ 0 ≤ x.2 ∧ x.2 < (N : Int))) → ∃ ws, Ders l b ws := fun b => by
    induction b with
    | nil => exact fun _ => ⟨[], .nil⟩
    | cons y r ih =>
      intro hx
      obtain ⟨w2, h2⟩ := ih fun x hx' => hx x (List.mem_cons_of_mem _ hx')
      have h1 : ∃ ws, Der l y ws := by
        obtain ⟨k, n⟩ := y
        rcases hx (k, n) (List.mem_cons_self ..) with h | ⟨h1, h2, h3⟩
        · exact ⟨[n], .term h⟩
        · dsimp only at h1 h2 h3
          subst h1
          obtain ⟨m, rfl⟩ := Int.eq_ofNat_of_zero_le h2
          exact hM m (by omega)
      obtain ⟨w1, h1⟩ := h1
      exact ⟨w1 ++ w2, .cons h1 h2⟩
  -- an item that has come up: what it came up for
  have up : ∀ {ts : List (Sym × Tree)} {s : List Item} (hs : ∀ it ∈ s, RightI l T it) (l0 : List Item), (∀ it ∈ l0, ∀ u, Ders l ((bodyI l it.1).drop it.2.1.toNat) u → ∃ v, Der l (2, 0) (yieldK l ts ++ (u ++ v))) → ∀ it, Cl l T lk l0 it → ∀ u, Ders l ((bodyI l it.1).drop it.2.1.toNat) u → ∃ v, Der l (2, 0) (yieldK l ts ++ (u ++ v)) := fun {ts s} _ l0 h0 it hc => by
    induction hc with
    | base hb => exact h0 _ hb
    | @step it2 it3 hc hx ih =>
      intro u hu
      obtain ⟨n, i, k, h1, h2, h3, _, _, rfl⟩ := hx
      have hbi : bodyI l (i : Int) = (prodAt l (i : Int)).2 := by unfold bodyI; rw [if_neg (by omega)]
      have hu : Ders l (bodyI l (i : Int)) u := hu
      rw [hbi] at hu
      have hd : Der l (2, n) u := .non (by show (2 : Int) ≠ 1; decide) (prodAt_mem (by omega) (by omega)) h3 hu
      unfold nextS at h1
      obtain ⟨h4, h5⟩ := List.getElem?_eq_some_iff.1 h1
      obtain ⟨w2, hw2⟩ := hrest ((bodyI l it2.1).drop (it2.2.1.toNat + 1)) fun x hx => hb it2.1 x (List.mem_of_mem_drop hx)
      have hd2 : Ders l ((bodyI l it2.1).drop it2.2.1.toNat) (u ++ w2) := by
        rw [List.drop_eq_getElem_cons h4, h5]
        exact .cons hd hw2
      obtain ⟨v, hv⟩ := ih _ hd2
      exact ⟨w2 ++ v, by rw [← List.append_assoc u]; exact hv⟩
  induction h with
  | start =>
    intro q ρ e it hit u hu
    obtain ⟨rfl, rfl⟩ := List.cons.inj e
    rw [s0_get hI] at hit
    refine up (s := []) (fun _ h => by cases h) [((l.length : Int), 0, (T : Int))] (fun it' h u hu => ?_) it ((closed_mem (lk := lk) hw hl hT (start_right hl hT)).1 hit) u hu
    rw [List.mem_singleton.1 h] at hu
    have hb0 : bodyI l (l.length : Int) = [(2, 0)] := by unfold bodyI; rw [if_pos rfl]
    have hu : Ders l (bodyI l (l.length : Int)) u := hu
    rw [hb0] at hu
    refine ⟨[], ?_⟩
    cases hu with
    | cons h1 h2 =>
      cases h2
      rw [List.append_nil, List.append_nil]
      exact h1
  | @push q s σ ts a x t h hs hx hne ht ih =>
    intro q' ρ e it hit u hu
    obtain ⟨rfl, rfl⟩ := List.cons.inj e
    have hqr := state_right hI (stk_lt hI h)
    rw [hx] at hit
    refine up (s := []) (fun _ h => by cases h) (overI l (S.getD q []) x) (fun it' h u hu => ?_) it ((closed_mem (lk := lk) hw hl hT (over_right hqr)).1 hit) u hu
    obtain ⟨it0, k1, k2, rfl⟩ := mem_over.1 h
    unfold nextS at k2
    obtain ⟨k3, k4⟩ := List.getElem?_eq_some_iff.1 k2
    have h0 := (hqr it0 k1).2.2.1
    have e1 : (advI it0).2.1.toNat = it0.2.1.toNat + 1 := by show (it0.2.1 + 1).toNat = _; omega
    rw [e1] at hu
    have hu2 : Ders l ((bodyI l it0.1).drop it0.2.1.toNat) (yieldX l t x ++ u) := by
      rw [List.drop_eq_getElem_cons k3, k4]
      exact .cons (right_der ht) hu
    obtain ⟨v, hv⟩ := ih q σ rfl it0 k1 _ hu2
    refine ⟨v, ?_⟩
    rw [yieldK_cons]
    simpa [List.append_assoc] using hv
omit hB hh in
theorem stk_begins (hM : ∀ i : Nat, i < N → ∃ ws, Der l (2, (i : Int)) ws) (hb : ∀ p x, x ∈ bodyI l p → x.1 = 1 ∨ (x.1 = 2 ∧ 0 ≤ x.2 ∧ x.2 < (N : Int))) {σ : List Nat} {ts : List (Sym × Tree)} {a : Nat} (h : Stk l T N lk S σ ts a) : ∃ v, Der l (2, 0) (yieldK l ts ++ v) := by
  obtain ⟨q, ρ, rfl⟩ := h.ne
  have hne : S.getD q [] ≠ [] := by
    cases h with
    | start =>
      rw [s0_get hI]
      exact fun e => by
        have := (closed_mem (lk := lk) hw hl hT (start_right hl hT) (x := (((l.length : Int), 0, (T : Int)) : Item))).2 (.base (List.mem_singleton.2 rfl))
        rw [show closedI l T lk [((l.length : Int), 0, (T : Int))] = startI l T lk from rfl, e] at this
        cases this
    | push _ _ hx hne _ => rw [hx]; exact hne
  obtain ⟨it, r, hr⟩ := List.exists_cons_of_ne_nil hne
  have hit : it ∈ S.getD q [] := by rw [hr]; exact List.mem_cons_self ..
  have hrest : ∀ (b : List Sym), (∀ x ∈ b, x.1 = 1 ∨ (x.1 = 2 ∧ 0 ≤ x.2 ∧ x.2 < (N : Int))) → ∃ ws, Ders l b ws := fun b => by
    induction b with
    | nil => exact fun _ => ⟨[], .nil⟩
    | cons y r ih =>
      intro hx
      obtain ⟨w2, h2⟩ := ih fun x hx' => hx x (List.mem_cons_of_mem _ hx')
      have h1 : ∃ ws, Der l y ws := by
        obtain ⟨k, n⟩ := y
        rcases hx (k, n) (List.mem_cons_self ..) with h | ⟨h1, h2, h3⟩
        · exact ⟨[n], .term h⟩
        · dsimp only at h1 h2 h3
          subst h1
          obtain ⟨m, rfl⟩ := Int.eq_ofNat_of_zero_le h2
          exact hM m (by omega)
      obtain ⟨w1, h1⟩ := h1
      exact ⟨w1 ++ w2, .cons h1 h2⟩
  obtain ⟨u, hu⟩ := hrest ((bodyI l it.1).drop it.2.1.toNat) fun x hx => hb it.1 x (List.mem_of_mem_drop hx)
  obtain ⟨v, hv⟩ := stk_viable hI hw hl hT hM hb h q ρ rfl it hit u hu
  exact ⟨u ++ v, hv⟩
end
end
end Go.Proofs.Ytlojfbnimmdehaa.itemL

/- LrT -/
namespace Go.Proofs.Ytlojfbnimmdehaa.eng
open gramL treeL countL factsL itemL smallL derL
open llL (colAt)
/-- what is had of a grammar of which a table was made -/
structure MadeT (g : Gram) (T N : Nat) (Nx : List (List Int)) (S : List (List itemL.Item)) : Prop where
  gram : checkG g = 0
  terms : g.terms = (T : Int)
  nons : g.nons = (N : Int)
  all : allI g.prods T N (lkG g) = some (Nx, S)
  acts : (outT g).1 = actTab g.prods T Nx S S.length
  gos : (outT g).2.1 = gotoTab T Nx S.length
  fights : (outT g).2.2.1 = fightsA g.prods T Nx S S.length
theorem outT_made {g : Gram} (h : (outT g).2.2.2 = 0) : ∃ T N Nx S, MadeT g T N Nx S := by
  unfold outT at h
  by_cases c : (outA g).2.2 ≠ 0
  · rw [if_pos c] at h; exact absurd h c
  · have c2 : (outA g).2.2 = 0 := Classical.not_not.1 c
    obtain ⟨hg, hA⟩ := outA_ok c2
    obtain ⟨hT1, hT2, hN1, hN2, -⟩ := checkG_ok hg
    exact ⟨g.terms.toNat, g.nons.toNat, (outA g).1, (outA g).2.1, hg, by omega, by omega, hA, by unfold outT; rw [if_neg c], by unfold outT; rw [if_neg c], by unfold outT; rw [if_neg c]⟩
section
variable {g : Gram} {T N : Nat} {Nx : List (List Int)} {S : List (List itemL.Item)}
theorem MadeT.wide (h : MadeT g T N Nx S) : ∀ q ∈ g.prods, q.2.length ≤ 8 := fun q hq => ((checkG_ok h.gram).2.2.2.2.2 q hq).1
theorem MadeT.few (h : MadeT g T N Nx S) : g.prods.length ≤ 40 := (checkG_ok h.gram).2.2.2.2.1
theorem MadeT.t30 (h : MadeT g T N Nx S) : T ≤ 30 := by have := (checkG_ok h.gram).2.1; have := h.terms; omega
theorem MadeT.law (h : MadeT g T N Nx S) : AllI g.prods T N (lkG g) S.length Nx S := allI_law h.wide h.few h.t30 h.all
theorem MadeT.heads (h : MadeT g T N Nx S) : ∀ q ∈ g.prods, 0 ≤ q.1 ∧ q.1 < (N : Int) := fun q hq => by
  obtain ⟨_, h1, h2, _⟩ := (checkG_ok h.gram).2.2.2.2.2 q hq
  rw [h.nons] at h2
  exact ⟨h1, h2⟩
theorem actTab_get {l : List gramL.Prod} {i n : Nat} (h : i < n) : (actTab l T Nx S n)[i]? = some (actRow l T Nx S i (T + 1)) := by unfold actTab; simp [h]
theorem gotoTab_get {i n : Nat} (h : i < n) : (gotoTab T Nx n)[i]? = some ((Nx.getD i []).drop T) := by unfold gotoTab; simp [h]
theorem actRow_get {l : List gramL.Prod} {q c : Nat} (h : c < T + 1) : (actRow l T Nx S q (T + 1))[c]? = some (actAt l T Nx S q c) := by
  unfold actRow
  rw [List.getElem?_map, List.getElem?_range h]
  simp [h]
theorem MadeT.right (h : MadeT g T N Nx S) {q c : Nat} (hq : q < S.length) (hc : c < T + 1) : RightAct T g.prods.length S.length (actAt g.prods T Nx S q c) c := by
  have hI := h.law
  by_cases h0 : (actAt g.prods T Nx S q c).1 = 0
  · left
    refine ⟨h0, ?_⟩
    unfold actAt at h0 ⊢
    cases e : actsI g.prods T (S.getD q []) (Nx.getD q []) c with
    | nil => rfl
    | cons y r =>
      rw [e] at h0
      have hm : y ∈ actsI g.prods T (S.getD q []) (Nx.getD q []) c := by rw [e]; exact List.mem_cons_self ..
      rcases act_means hm with h' | h' | h'
      · have := h'.1; have h0 : y.1 = 0 := h0; omega
      · have h0 : y.1 = 0 := h0; rw [h'.1] at h0; cases h0
      · have := h'.1; have h0 : y.1 = 0 := h0; omega
  · rcases act_means (act_in rfl h0) with h' | h' | h'
    · obtain ⟨h1, h2, h3, h4⟩ := h'
      obtain ⟨s, hs⟩ := Int.eq_ofNat_of_zero_le h3
      obtain ⟨k1, -, -⟩ := cell_next hI hq (syms_term h2) hs
      exact .inr (.inl ⟨h1, h2, by omega, by rw [h4, hs]; omega⟩)
    · obtain ⟨h1, h2⟩ := h'
      have ht := all_top h.wide h.few h.t30 h.all q hq _ h2 rfl
      have ht : (c : Int) = (T : Int) := ht
      exact .inr (.inr (.inr ⟨by rw [h1], by rw [h1], by omega⟩))
    · obtain ⟨h1, h2, h3⟩ := h'
      exact .inr (.inr (.inl ⟨h1, (state_right hI hq _ h3).1, h2⟩))
theorem MadeT.tab (h : MadeT g T N Nx S) : LrOk g T N (actTab g.prods T Nx S S.length) (gotoTab T Nx S.length) where
  gram := h.gram
  terms := h.terms
  nons := h.nons
  pos := by rw [actTab_len]; exact (List.getElem?_eq_some_iff.1 h.law.start).1
  few := by rw [actTab_len]; exact h.law.few
  same := by rw [actTab_len, gotoTab_len]
  wA := fun i hi => by
    obtain ⟨h1, h2⟩ := List.getElem?_eq_some_iff.1 (actTab_get (T := T) (Nx := Nx) (S := S) (l := g.prods) (show i < S.length by rw [actTab_len] at hi; exact hi))
    rw [h2]; exact actRow_len
  acts := fun i hi c hc => by
    have hi' : i < S.length := by rw [actTab_len] at hi; exact hi
    obtain ⟨h1, h2⟩ := List.getElem?_eq_some_iff.1 (actTab_get (T := T) (Nx := Nx) (S := S) (l := g.prods) hi')
    simp only [h2] at hc ⊢
    rw [actRow_len] at hc
    obtain ⟨h3, h4⟩ := List.getElem?_eq_some_iff.1 (actRow_get (l := g.prods) (T := T) (Nx := Nx) (S := S) (q := i) hc)
    rw [h4, actTab_len]
    exact h.right hi' hc
  wG := fun i hi => by
    have hi' : i < S.length := by rw [gotoTab_len] at hi; exact hi
    obtain ⟨h1, h2⟩ := List.getElem?_eq_some_iff.1 (gotoTab_get (T := T) (Nx := Nx) hi')
    rw [h2, List.length_drop, h.law.wide i hi']
    omega
  gos := fun i hi y hy => by
    have hi' : i < S.length := by rw [gotoTab_len] at hi; exact hi
    obtain ⟨h1, h2⟩ := List.getElem?_eq_some_iff.1 (gotoTab_get (T := T) (Nx := Nx) hi')
    rw [h2] at hy
    obtain ⟨k, hk, rfl⟩ := List.getElem_of_mem hy
    rw [actTab_len]
    rw [List.length_drop, h.law.wide i hi'] at hk
    rw [List.getElem_drop]
    have hw := h.law.wide i hi'
    have hg : (Nx.getD i [])[T + k]'(by rw [hw]; omega) = (Nx.getD i []).getD (T + k) 0 := by rw [List.getD_eq_getElem?_getD (l := Nx.getD i []), List.getElem?_eq_getElem (by rw [hw]; omega)]; rfl
    rw [hg]
    rcases h.law.cell i hi' (T + k) _ (syms_non (by omega)) with ⟨_, e⟩ | ⟨_, e1, e2⟩
    · rw [e]; omega
    · rw [e2]; have := idx_lt e1; omega
/-- functions for who builds up -/
def actT (A : List (List itemL.Act)) (q c : Nat) : itemL.Act := (A.getD q []).getD c (0, 0)
def gotoT (G : List (List Int)) (q : Nat) (n : Int) : Int := (G.getD q []).getD n.toNat 0
theorem MadeT.tabB (h : MadeT g T N Nx S) : TabB g.prods (actT (actTab g.prods T Nx S S.length)) (gotoT (gotoTab T Nx S.length)) T N Nx S where
  act := fun q c hq hc => by
    unfold actT
    rw [show (actTab g.prods T Nx S S.length).getD q [] = actRow g.prods T Nx S q (T + 1) by rw [List.getD_eq_getElem?_getD, actTab_get hq]; rfl]
    show (actRow g.prods T Nx S q (T + 1)).getD c (0, 0) = _
    rw [List.getD_eq_getElem?_getD, actRow_get (by omega)]
    rfl
  gt := fun q n hq h0 hn => by
    unfold gotoT goTo
    rw [show (gotoTab T Nx S.length).getD q [] = (Nx.getD q []).drop T by rw [List.getD_eq_getElem?_getD, gotoTab_get hq]; rfl]
    show ((Nx.getD q []).drop T).getD n.toNat 0 = _
    rw [List.getD_eq_getElem?_getD (l := (Nx.getD q []).drop T), List.getElem?_drop, List.getD_eq_getElem?_getD (l := Nx.getD q [])]
theorem fights_none {l : List gramL.Prod} : ∀ n, (fightsA l T Nx S n).length = 0 → ∀ q, q < n → ∀ c, c ≤ T → (actsI l T (S.getD q []) (Nx.getD q []) c).length ≤ 1
  | 0, _, q, hq, _, _ => absurd hq (Nat.not_lt_zero _)
  | n + 1, h, q, hq, c, hc => by
    rw [fightsA, List.length_append] at h
    by_cases e : q = n
    · subst e
      have row : ∀ d, (fightsR l T Nx S q d).length = 0 → ∀ c, c < d → (fightsC l T Nx S q c).length = 0 := fun d => by
        induction d with
        | zero => exact fun _ c hc => absurd hc (Nat.not_lt_zero _)
        | succ d ih =>
          intro h c hc
          rw [fightsR, List.length_append] at h
          by_cases e2 : c = d
          · subst e2; omega
          · exact ih (by omega) c (by omega)
      have := row (T + 1) (by omega) c (by omega)
      unfold fightsC at this
      rw [List.length_map, List.length_tail] at this
      have h2 : (actsI l T (S.getD q []) (Nx.getD q []) c).length - 1 = 0 := this
      omega
    · exact fights_none n (by omega) q (by omega) c hc
theorem MadeT.calm (h : MadeT g T N Nx S) (hc : calmB g = true) : CalmI g.prods T Nx S := by
  unfold calmB at hc
  rw [Bool.and_eq_true, decide_eq_true_eq, decide_eq_true_eq, h.fights] at hc
  exact fun q hq c hcT => fights_none S.length hc.2 q hq c hcT
theorem calm_made (hc : calmB g = true) : ∃ T N Nx S, MadeT g T N Nx S := by
  unfold calmB at hc
  rw [Bool.and_eq_true, decide_eq_true_eq] at hc
  exact outT_made hc.1
theorem body_right (hg : checkG g = 0) {p : Int} : ∀ x ∈ bodyI g.prods p, right g.terms g.nons x = true := fun x hx => by
  unfold bodyI at hx
  split at hx
  · rw [List.mem_singleton.1 hx]
    have := (checkG_ok hg).2.2.1
    unfold right
    rw [if_neg (by decide), if_pos rfl]
    simp only [Int.le_refl, decide_true, Bool.true_and, decide_eq_true_eq]
    omega
  · by_cases h2 : p.toNat < g.prods.length
    · have : prodAt g.prods p ∈ g.prods := by unfold prodAt; rw [List.getD_eq_getElem?_getD, List.getElem?_eq_getElem h2]; exact List.getElem_mem h2
      exact ((checkG_ok hg).2.2.2.2.2 _ this).2.2.2 x hx
    · unfold prodAt at hx
      rw [List.getD_eq_getElem?_getD, List.getElem?_eq_none (by omega)] at hx
      cases hx
theorem MadeT.looks (h : MadeT g T N Nx S) (p d : Int) : lkG g p d = beginF (ofS N g.prods).E (ofF N g.prods) ((bodyI g.prods p).drop (d.toNat + 1)) (2 ^ 62) := by
  unfold lkG begV
  have hb8 := body_len (l := g.prods) (p := p) h.wide
  have hE : begE g ((bodyI g.prods p).drop (d.toNat + 1)) = 0 := by
    unfold begE
    rw [if_neg (by rw [h.gram]; simp), if_neg (by rw [List.length_drop]; omega)]
    exact badE_of fun x hx => body_right h.gram x (List.mem_of_mem_drop hx)
  rw [if_pos hE, show g.nons.toNat = N by rw [h.nons]; rfl]
theorem MadeT.lrH (h : MadeT g T N Nx S) (hc : calmB g = true) {w : List Int} (hw : ∀ x ∈ w, 0 ≤ x ∧ x < (T : Int)) : LrH g.prods T N (lkG g) Nx S w (ofS N g.prods).E (ofF N g.prods) (ofW N g.prods) (ofS N g.prods).R (ofS N g.prods).M where
  wide := h.wide
  few := h.few
  terms := h.t30
  nons := by have := (checkG_ok h.gram).2.2.1; have := h.nons; omega
  syms := symsOk_of h.gram h.nons
  term := fun q hq x hx h1 => by
    have := ((checkG_ok h.gram).2.2.2.2.2 q hq).2.2.2 x hx
    rcases right_cases this with ⟨_, h2, h3⟩ | ⟨h2, _⟩
    · rw [h.terms] at h3; exact ⟨h2, h3⟩
    · rw [h1] at h2; cases h2
  all := h.law
  calm := h.calm hc
  facts := closed_of h.gram h.nons
  looks := fun p d _ _ _ => h.looks p d
  word := hw
end
/-! ### brackets -/
theorem brk_outT : outT brkG = (actTab brkP 2 brkNx brkSt 10, gotoTab 2 brkNx 10, [], 0) := by
  unfold outT
  rw [brk_out]
  kernel_rfl
theorem brk_calm : calmB brkG = true := by
  unfold calmB
  rw [brk_outT]
  rfl
theorem brk_made : MadeT brkG 2 1 brkNx brkSt := ⟨brk_ok, rfl, rfl, brk_all, by rw [brk_outT]; rfl, by rw [brk_outT]; rfl, by rw [brk_outT]; kernel_rfl⟩
end Go.Proofs.Ytlojfbnimmdehaa.eng

/- ClimbO -/
namespace Go.Proofs.Ytlojfbnimmdehaa.eng
open Go.RowKit kit mix gramL treeL climbL
abbrev evO (vo : Value) (l : List Sym) : Own := rowO 82 2 vo l.length (l.flatMap symC)
theorem build_evn (k n : Int) (w : World) : (Instr.build 82 #[(0, .int .i64 k), (1, .int .i64 n)]).run Try.prog w = .ok (.agg (symC (k, n)).toArray) w := by
  unfold symC; go_simp
end Go.Proofs.Ytlojfbnimmdehaa.eng

/- IntS -/
namespace Go.Proofs.Ytlojfbnimmdehaa.eng
open Go.RowKit kit mix
theorem IntS_len (a : Int) : (kit.intC a).length = 1 := rfl
set_option maxHeartbeats 2000000 in
theorem indexFuncIntS_calls (v : Value) (l : List Int) (w : World) (hs : Sl w v l.length (l.flatMap kit.intC)) (fid : FuncId) (first cp : Array Value) (p : Int → Bool) (hen : Enters Try.prog fid)
    (hp : ∀ a ∈ l, ∀ w', Gr w w' → Calls Try.prog fid (first ++ #[((kit.intC a).headD undef)] ++ cp) w' (Meets (ret (.bool (p a))) w')) :
    Calls Try.prog 64 #[v, .func (.func fid) first cp] w (Meets (ret (.int .i64 (idxF p l))) w) := by
  obtain ⟨base, cap, rfl, hcap, hmax, hrd⟩ := hs
  unfold maxLen at hmax
  refine enter (args := [.slice base l.length cap, .func (.func fid) first cp]) (n := 19) Try.func64 rfl rfl rfl ?_
  repeat(first|refine qv rfl (qp rfl) rfl rfl ?_|refine TL_nil ?_|refine T_seq ?_|refine T_region ?_|refine qcT rfl ?_|refine qcF rfl ?_|refine T_skip ?_|refine T_exit ?_|refine T_ret ?_|refine T_block ?_|refine E_then ?_|refine E_thenX ?_|refine E_thenR ?_|refine E_blockN ?_|refine E_blockR ?_|refine E_blockX ?_|refine E_blockO rfl ?_|refine qv rfl (qlen Und.eq rfl) rfl rfl ?_|refine qv rfl (rr_lss rfl rfl (qT (by omega))) rfl rfl ?_|refine qv rfl (rr_lss rfl rfl (qF (by omega))) rfl rfl ?_|refine qv rfl (rr_add64 rfl rfl (by omega) (by omega) rfl) rfl rfl ?_)
  refine T_loop (ι := Nat) (fun k => k ≤ l.length ∧ ∀ j (hj : j < l.length), j < k → p l[j] = false) (fun k => [(0, .slice base l.length cap), (1, .func (.func fid) first cp), (7, .int .i64 l.length), (8, .int .i64 (k : Int))]) (fun _ => []) (fun k => l.length - k) 0 ⟨by omega, fun j hj h => by omega⟩ (by repeat' (first | exact True.intro | refine And.intro rfl ?_)) rfl ?_
  rintro k ⟨h1, h2⟩
  by_cases c2 : k < l.length
  · obtain ⟨b, off, rfl, hr⟩ := hrd (by omega)
    have hat := at_el (L := ([] : List Own)) IntS_len hr c2
    have hcl := hp l[k] (List.getElem_mem c2)
    by_cases c3 : p l[k] = true
    · rw [idxF_some c2 c3 h2]
      rw [c3] at hcl
      clear hp h2 hrd
      repeat(first|refine qv rfl (qp rfl) rfl rfl ?_|refine TL_nil ?_|refine T_seq ?_|refine T_region ?_|refine qcT rfl ?_|refine qcF rfl ?_|refine T_skip ?_|refine T_exit ?_|refine T_ret ?_|refine T_block ?_|refine E_then ?_|refine E_thenX ?_|refine E_thenR ?_|refine E_blockN ?_|refine E_blockR ?_|refine E_blockX ?_|refine E_blockO rfl ?_|refine qv rfl (rr_idxc Und.eq TyC.ty rfl rfl c2) rfl rfl ?_|refine qv rfl (rr_load1 TyC.ty rfl (hat 0 _ rfl)) rfl rfl ?_|refine qv rfl (qlen Und.eq rfl) rfl rfl ?_|refine qv rfl (rr_lss rfl rfl (qT (by omega))) rfl rfl ?_|refine qv rfl (rr_lss rfl rfl (qF (by omega))) rfl rfl ?_|refine qv rfl (rr_add64 rfl rfl (by omega) (by omega) rfl) rfl rfl ?_)
      refine TL_call (he1c hen rfl rfl) (fun w hm => hcl w hm.below) rfl rfl rfl ?_
      intro _ _
      repeat(first|refine qv rfl (qp rfl) rfl rfl ?_|refine TL_nil ?_|refine T_seq ?_|refine T_region ?_|refine qcT rfl ?_|refine qcF rfl ?_|refine T_skip ?_|refine T_exit ?_|refine T_ret ?_|refine T_block ?_|refine E_then ?_|refine E_thenX ?_|refine E_thenR ?_|refine E_blockN ?_|refine E_blockR ?_|refine E_blockX ?_|refine E_blockO rfl ?_|refine qv rfl (qlen Und.eq rfl) rfl rfl ?_|refine qv rfl (rr_lss rfl rfl (qT (by omega))) rfl rfl ?_|refine qv rfl (rr_lss rfl rfl (qF (by omega))) rfl rfl ?_|refine qv rfl (rr_add64 rfl rfl (by omega) (by omega) rfl) rfl rfl ?_)
      exact E_ret1 rfl rfl fun w hm => hm.ret
    · have c3' : p l[k] = false := by simpa using c3
      rw [c3'] at hcl
      clear hp hrd c3
      repeat(first|refine qv rfl (qp rfl) rfl rfl ?_|refine TL_nil ?_|refine T_seq ?_|refine T_region ?_|refine qcT rfl ?_|refine qcF rfl ?_|refine T_skip ?_|refine T_exit ?_|refine T_ret ?_|refine T_block ?_|refine E_then ?_|refine E_thenX ?_|refine E_thenR ?_|refine E_blockN ?_|refine E_blockR ?_|refine E_blockX ?_|refine E_blockO rfl ?_|refine qv rfl (rr_idxc Und.eq TyC.ty rfl rfl c2) rfl rfl ?_|refine qv rfl (rr_load1 TyC.ty rfl (hat 0 _ rfl)) rfl rfl ?_|refine qv rfl (qlen Und.eq rfl) rfl rfl ?_|refine qv rfl (rr_lss rfl rfl (qT (by omega))) rfl rfl ?_|refine qv rfl (rr_lss rfl rfl (qF (by omega))) rfl rfl ?_|refine qv rfl (rr_add64 rfl rfl (by omega) (by omega) rfl) rfl rfl ?_)
      refine TL_call (he1c hen rfl rfl) (fun w hm => hcl w hm.below) rfl rfl rfl ?_
      intro _ _
      repeat(first|refine qv rfl (qp rfl) rfl rfl ?_|refine TL_nil ?_|refine T_seq ?_|refine T_region ?_|refine qcT rfl ?_|refine qcF rfl ?_|refine T_skip ?_|refine T_exit ?_|refine T_ret ?_|refine T_block ?_|refine E_then ?_|refine E_thenX ?_|refine E_thenR ?_|refine E_blockN ?_|refine E_blockR ?_|refine E_blockX ?_|refine E_blockO rfl ?_|refine qv rfl (qlen Und.eq rfl) rfl rfl ?_|refine qv rfl (rr_lss rfl rfl (qT (by omega))) rfl rfl ?_|refine qv rfl (rr_lss rfl rfl (qF (by omega))) rfl rfl ?_|refine qv rfl (rr_add64 rfl rfl (by omega) (by omega) rfl) rfl rfl ?_)
      exact E_round (k + 1) ⟨by omega, fun j hj h => if e : j < k then h2 j hj e else (by obtain rfl : j = k := (by omega); exact c3')⟩ (by show l.length - (k + 1) < l.length - k; omega) (by repeat' (first | exact True.intro | refine And.intro rfl ?_)) rfl
  · rw [idxF_none fun j hj => h2 j hj (by omega)]
    clear hp h2 hrd
    repeat(first|refine qv rfl (qp rfl) rfl rfl ?_|refine TL_nil ?_|refine T_seq ?_|refine T_region ?_|refine qcT rfl ?_|refine qcF rfl ?_|refine T_skip ?_|refine T_exit ?_|refine T_ret ?_|refine T_block ?_|refine E_then ?_|refine E_thenX ?_|refine E_thenR ?_|refine E_blockN ?_|refine E_blockR ?_|refine E_blockX ?_|refine E_blockO rfl ?_|refine qv rfl (qlen Und.eq rfl) rfl rfl ?_|refine qv rfl (rr_lss rfl rfl (qT (by omega))) rfl rfl ?_|refine qv rfl (rr_lss rfl rfl (qF (by omega))) rfl rfl ?_|refine qv rfl (rr_add64 rfl rfl (by omega) (by omega) rfl) rfl rfl ?_)
    exact E_ret1 rfl rfl fun w hm => hm.ret
theorem containsFuncIntS_calls (v : Value) (l : List Int) (w : World) (hs : Sl w v l.length (l.flatMap kit.intC)) (fid : FuncId) (first cp : Array Value) (p : Int → Bool) (hen : Enters Try.prog fid)
    (hp : ∀ a ∈ l, ∀ w', Gr w w' → Calls Try.prog fid (first ++ #[((kit.intC a).headD undef)] ++ cp) w' (Meets (ret (.bool (p a))) w')) :
    Calls Try.prog 31 #[v, .func (.func fid) first cp] w (Meets (ret (.bool (l.any p))) w) := by
  refine enter (args := [v, .func (.func fid) first cp]) (n := 9) Try.func31 rfl rfl rfl ?_
  have hh := fun w' (hg : Gr w w') => indexFuncIntS_calls v l w' (hs.gr hg) fid first cp p hen fun a ha w'' hg' => hp a ha w'' (hg.trans hg')
  have hr := idxF_range p l
  rw [← idxF_any p l]
  generalize idxF p l = r at *
  repeat(first|refine qv rfl (qp rfl) rfl rfl ?_|refine TL_nil ?_|refine T_seq ?_|refine T_region ?_|refine T_ret ?_|refine E_then ?_|refine E_thenR ?_|refine qv rfl (rr_geq rfl rfl (qT (by omega))) rfl rfl ?_|refine qv rfl (rr_geq rfl rfl (qF (by omega))) rfl rfl ?_)
  refine TL_call (he2 EntersC.en rfl rfl rfl) (fun w hm => hh _ hm.below) rfl rfl rfl ?_
  intro _ _
  repeat(first|refine qv rfl (qp rfl) rfl rfl ?_|refine TL_nil ?_|refine T_seq ?_|refine T_region ?_|refine T_ret ?_|refine E_then ?_|refine E_thenR ?_|refine qv rfl (rr_geq rfl rfl rfl) rfl rfl ?_|refine qv rfl (rr_geq rfl rfl (qT (by omega))) rfl rfl ?_|refine qv rfl (rr_geq rfl rfl (qF (by omega))) rfl rfl ?_)
  exact E_ret1 rfl rfl fun w hm => hm.ret
end Go.Proofs.Ytlojfbnimmdehaa.eng

/- BuA -/
namespace Go.Proofs.Ytlojfbnimmdehaa.eng
open Go.RowKit kit mix gramL treeL factsL itemL smallL
/-- a stack, as it lies in memory -/
def sI (σ : List Nat) : List Int := σ.reverse.map fun q : Nat => (q : Int)
theorem sI_len (σ : List Nat) : (sI σ).length = σ.length := by unfold sI; simp
theorem sI_cons (q : Nat) (σ : List Nat) : sI (q :: σ) = sI σ ++ [(q : Int)] := by unfold sI; simp
theorem sI_drop (b : Nat) (σ : List Nat) : sI (σ.drop b) = (sI σ).take (σ.length - b) := by
  unfold sI
  rw [← List.map_take, List.take_reverse]
  by_cases h : b ≤ σ.length
  · rw [show σ.length - (σ.length - b) = b by omega]
  · rw [List.drop_eq_nil_of_le (by omega), List.drop_eq_nil_of_le (by omega)]
theorem sI_get {b : Nat} {σ ρ : List Nat} {r n : Nat} (h : σ.drop b = r :: ρ) (hn : σ.length = n + 1 + b) : (sI σ)[n]? = some (r : Int) := by
  have h1 := sI_drop b σ
  rw [h, sI_cons, show σ.length - b = n + 1 by omega] at h1
  have h2 : ρ.length = n := by
    have := congrArg List.length h
    rw [List.length_drop, List.length_cons] at this
    omega
  have h3 : ((sI σ).take (n + 1))[n]? = some (r : Int) := by
    rw [← h1, List.getElem?_append_right (by rw [sI_len]; omega), sI_len, h2, Nat.sub_self]; rfl
  rwa [List.getElem?_take_of_lt (Nat.lt_succ_self n)] at h3
abbrev skR (w : World) (vs : Value) (σ : List Nat) : Prop := Sl w vs σ.length ((sI σ).flatMap kit.intC)
abbrev skO (vs : Value) (σ : List Nat) : Own := rowO 3 1 vs σ.length ((sI σ).flatMap kit.intC)
def skV (vs : Value) (seen over : Int) (done : Bool) : Value := .agg #[vs, .int .i64 seen, .int .i64 over, .bool done]
theorem bdCheck1_calls (aA : Option Addr) (nA cA : Nat) (vG : Value) (q : Int) (g5 : Nat) (w : World) (h0 : 0 ≤ q) (h1 : q < (nA : Int)) (hg : w.heap[g5]? = some (.cells (Value.agg #[.slice aA nA cA, vG]).cells 29 (0, 0))) :
    Calls Try.prog 115 #[.int .i64 q, .pointer (some ⟨g5, 0, none⟩)] w (Meets (ret (.bool false)) w) := by
  have hcell : ∀ (L : List Own), At w L ⟨g5, 0, none⟩ (.slice aA nA cA) := fun L => at_old (by
    rw [cell_of_row w g5 0 _ _ _ hg]
    rfl)
  clear hg
  refine enter (args := [.int .i64 q, .pointer (some ⟨g5, 0, none⟩)]) (n := 13) Try.func115 rfl rfl rfl ?_
  repeat(first|refine QV QP ?_|refine QZ ?_|refine qs rfl rfl rfl rfl rfl rfl ?_|((try refine qg rfl rfl rfl ?_);first|refine QV QP ?_|refine QV (rr_lss (b := false) rfl rfl (decide_eq_false (by omega))) ?_|refine QV QlT ?_|refine QV QlF ?_|refine QV (rr_load1 (v := .slice aA nA cA) TyC.ty rfl (hcell _)) ?_|refine QV (rr_geq (b := false) rfl rfl (decide_eq_false (by omega))) ?_|refine QV QL ?_|refine QV QA ?_|refine QV QhT ?_|refine QV QhF ?_))
  exact E_ret1 rfl rfl fun w hm => hm.ret
set_option maxHeartbeats 4000000 in
theorem bdCheck_calls (v t vs : Value) (g : Gram) (T N : Nat) (A : List (List itemL.Act)) (G : List (List Int)) (σ : List Nat) (seen col : Int) (w : World) (hG : GraR (fun k => k < w.heap.size) w v g) (ht : TabR w t A G) (hs : skR w vs σ) (hT : LrOk g T N A G) (hq : ∀ q ∈ σ, q < A.length) (h0 : 0 < σ.length) (hl : σ.length ≤ 60) (h1 : 0 ≤ seen) (h2 : seen ≤ 1099511627776) (h3 : 0 ≤ col) (h4 : col ≤ g.terms) :
    Calls Try.prog 88 #[v, t, skV vs seen 0 false, .int .i64 col] w (Meets (ret (.int .i64 0)) w) := by
  have hck := fun w' (hg : Gr w w') => lrCheck_calls v t g T N A G hT w' (hG.gr hg) (ht.gr hg)
  obtain ⟨vp, rfl, hp, -, -⟩ := hG
  obtain ⟨bp, cp, rfl, -⟩ := hp
  obtain ⟨vA, vG, rfl, hA, hGo⟩ := ht
  obtain ⟨aA, cA, rfl, -, -⟩ := slf_form hA
  clear hA hGo
  have hco := fun w' (hg : Gr w w') g5 (hb : w'.heap[g5]? = some (.cells (Value.agg #[.slice aA A.length cA, vG]).cells 29 (0, 0))) => containsFuncIntS_calls vs (sI σ) w' (by rw [sI_len]; exact hs.gr hg) 115 #[] #[.pointer (some ⟨g5, 0, none⟩)] (fun _ => false) EntersC.en (fun a ha w'' hg' => by
    unfold sI at ha
    obtain ⟨q, hq1, rfl⟩ := List.mem_map.1 ha
    have := hq q (List.mem_reverse.1 hq1)
    exact bdCheck1_calls aA A.length cA vG (q : Int) g5 w'' (by omega) (by omega) (by rw [hg'.block g5 (Array.getElem?_eq_some_iff.1 hb).1]; exact hb))
  have hany : (sI σ).any (fun _ => false) = false := by rw [List.any_eq_false]; intro _ _ h; cases h
  rw [hany] at hco
  obtain ⟨bs, cs, rfl, -⟩ := hs
  refine enter (args := [graV g.terms g.nons (.slice bp g.prods.length cp), .agg #[.slice aA A.length cA, vG], skV (.slice bs σ.length cs) seen 0 false, .int .i64 col]) (n := 66) Try.func88 rfl rfl rfl ?_
  refine T_seq (T_region (TL_box rfl rfl rfl fun g4 => ?_))
  conv=>arg 8;simp only[zA,zB,zC,zD,zE,zF,zG,zH,zI,rowS,ret,id_eq]
  refine TL_box rfl rfl rfl fun g5 => ?_
  conv=>arg 8;simp only[zA,zB,zC,zD,zE,zF,zG,zH,zI,rowS,ret,id_eq]
  refine TL_box rfl rfl rfl fun g6 => ?_
  conv=>arg 8;simp only[zA,zB,zC,zD,zE,zF,zG,zH,zI,rowS,ret,id_eq]
  repeat(first|refine QV QP ?_|refine QZ ?_|refine qcT rfl ?_|refine qcF rfl ?_|refine qs rfl rfl rfl rfl rfl rfl ?_|((try refine qg rfl rfl rfl ?_);first|refine QV QP ?_|refine QV (rr_loadB (i := 0) TyC.ty rfl rfl rfl) ?_|refine QV (rr_loadB (i := 1) TyC.ty rfl rfl rfl) ?_|refine QV QL ?_|refine QV QA ?_|refine QV QeT ?_|refine QV QeF ?_|refine QV QnT ?_|refine QV QnF ?_|refine QV (rr_not rfl rfl) ?_|refine QV QlT ?_|refine QV QlF ?_|refine QV QgT ?_|refine QV QgF ?_))
  refine TL_call (he2 EntersC.en rfl rfl rfl) (fun w hm => hck w hm.below) rfl rfl rfl ?_
  intro _ _
  conv=>arg 8;simp only[zA,zB,zC,zD,zE,zF,zG,zH,zI,rowS,ret,id_eq]
  repeat(first|refine QV QP ?_|refine QZ ?_|refine qcT rfl ?_|refine qcF rfl ?_|refine qs rfl rfl rfl rfl rfl rfl ?_|((try refine qg rfl rfl rfl ?_);first|refine QV QP ?_|refine QV (rr_load1 (v := .slice bs σ.length cs) TyC.ty rfl (at_blk (i := 2) rfl rfl)) ?_|refine QV (rr_load1 (v := .int .i64 seen) TyC.ty rfl (at_blk (i := 2) rfl rfl)) ?_|refine QV (rr_load1 (v := .int .i64 0) TyC.ty rfl (at_blk (i := 2) rfl rfl)) ?_|refine QV (rr_load1 (v := .bool false) TyC.ty rfl (at_blk (i := 2) rfl rfl)) ?_|refine QV (rr_load1 (v := .int .i64 g.terms) TyC.ty rfl (at_blk (i := 0) rfl rfl)) ?_|refine QV (rr_func rfl rfl) ?_|refine QV QL ?_|refine QV QA ?_|refine QV QeT ?_|refine QV QeF ?_|refine QV QnT ?_|refine QV QnF ?_|refine QV (rr_not rfl rfl) ?_|refine QV QlT ?_|refine QV QlF ?_|refine QV QgT ?_|refine QV QgF ?_))
  refine TL_call (he2 EntersC.en rfl rfl rfl) (fun w hm => hco _ hm.below _ (hm.get (i := 1) rfl)) rfl rfl rfl ?_
  intro _ _
  conv=>arg 8;simp only[zA,zB,zC,zD,zE,zF,zG,zH,zI,rowS,ret,id_eq]
  repeat(first|refine QV QP ?_|refine QZ ?_|refine qcT rfl ?_|refine qcF rfl ?_|refine qs rfl rfl rfl rfl rfl rfl ?_|((try refine qg rfl rfl rfl ?_);first|refine QV QP ?_|refine QV (rr_load1 (v := .int .i64 0) TyC.ty rfl (at_blk (i := 2) rfl rfl)) ?_|refine QV (rr_load1 (v := .bool false) TyC.ty rfl (at_blk (i := 2) rfl rfl)) ?_|refine QV QL ?_|refine QV QA ?_|refine QV QeT ?_|refine QV QeF ?_|refine QV QnT ?_|refine QV QnF ?_|refine QV (rr_not rfl rfl) ?_|refine QV QlT ?_|refine QV QlF ?_|refine QV QgT ?_|refine QV QgF ?_))
  exact E_ret1 rfl rfl fun w hm => hm.ret
theorem build_sk0 (g : Nat) (w : World) : (Instr.build 125 #[(0, .slice (some ⟨g, 0, none⟩) 1 1)]).run Try.prog w = .ok (skV (.slice (some ⟨g, 0, none⟩) 1 1) 0 0 false) w := by
  unfold skV; go_simp
theorem build_skE (seen e : Int) (w : World) : (Instr.build 125 #[(1, .int .i64 seen), (2, .int .i64 e)]).run Try.prog w = .ok (skV (.slice none 0 0) seen e false) w := by
  unfold skV; go_simp
theorem build_skN (b : Option Addr) (m c : Nat) (seen : Int) (w : World) : (Instr.build 125 #[(0, .slice b m c), (1, .int .i64 seen)]).run Try.prog w = .ok (skV (.slice b m c) seen 0 false) w := by
  unfold skV; go_simp
theorem build_skD (seen : Int) (w : World) : (Instr.build 125 #[(1, .int .i64 seen), (3, .bool true)]).run Try.prog w = .ok (skV (.slice none 0 0) seen 0 true) w := by
  unfold skV; go_simp
def beginSS : Spec Value := ⟨fun _ => True, fun vt => skV vt 0 0 false, fun vt => [skO vt [0]]⟩
theorem bdBegin_calls (w : World) : Calls Try.prog 57 #[] w (Meets beginSS w) := by
  refine enter (args := []) (n := 3) Try.func57 rfl rfl rfl ?_
  refine T_seq (T_region (TL_new rfl fun g2 => ?_))
  conv=>arg 8;simp only[zA,zB,zC,zD,zE,zF,zG,zH,zI,rowS,ret,id_eq]
  repeat(first|refine QZ ?_)
  refine TL_litN (cs := #[.int .i64 0]) [.int .i64 0] rfl rfl rfl (by intro v hv; simp at hv; subst hv; rfl) rfl rfl rfl fun g3 => ?_
  conv=>arg 8;simp only[zA,zB,zC,zD,zE,zF,zG,zH,zI,rowS,ret,id_eq]
  repeat(first|refine QZ ?_|refine QV (rr_build rfl (build_sk0 _)) ?_)
  refine TL_storeB (i := 0) (cs' := #[.slice (some ⟨g3, 0, none⟩) 1 1, .int .i64 0, .int .i64 0, .bool false]) rfl rfl rfl rfl rfl rfl ?_
  conv=>arg 8;simp only[zA,zB,zC,zD,zE,zF,zG,zH,zI,rowS,ret,id_eq]
  refine TL_toRow (i := 1) 1 rfl rfl (by omega) ?_
  conv=>arg 8;simp only[zA,zB,zC,zD,zE,zF,zG,zH,zI,rowS,ret,id_eq]
  repeat(first|refine QZ ?_)
  exact E_retc1 (i := 0) rfl rfl rfl rfl fun w hm => hm.meets (S := beginSS) (.slice (some ⟨g3, 0, none⟩) 1 1) trivial [1] (by decide) rfl
/-- what reduce tells -/
def rduS (R : Option (List Nat)) : Spec Value := ⟨fun _ => True, fun v => .tuple #[v, .bool R.isSome], fun v => match R with | some σ' => [skO v σ'] | none => []⟩
set_option maxHeartbeats 4000000 in
theorem bdReduce_calls (v t vs : Value) (g : Gram) (T N : Nat) (A : List (List itemL.Act)) (G : List (List Int)) (σ : List Nat) (p : Nat) (w : World) (hG : GraR (fun k => k < w.heap.size) w v g) (ht : TabR w t A G) (hs : skR w vs σ) (hT : LrOk g T N A G) (hq : ∀ q ∈ σ, q < A.length) (hl : σ.length ≤ 60) (hp : p < g.prods.length) :
    Calls Try.prog 117 #[v, t, vs, .int .i64 (p : Int)] w (Meets (rduS (redB g.prods (gotoT G) σ (p : Int))) w) := by
  obtain ⟨hg, hTt, hNn, hpos, hfew, hsame, hwA, hact, hwG, hgos⟩ := hT
  obtain ⟨hT1, hT2, -, hN2, hpl, hpr⟩ := checkG_ok hg
  have hpe : prodAt g.prods (p : Int) = g.prods[p] := by unfold prodAt; rw [Int.toNat_natCast, List.getD_eq_getElem?_getD, List.getElem?_eq_getElem hp]; rfl
  have hpp := hpr _ (List.getElem_mem hp)
  obtain ⟨vp, rfl, hpg, -, -⟩ := hG
  obtain ⟨bp, cp, rfl, -, -, hrp⟩ := hpg
  obtain ⟨b1, o1, rfl, -, hrp⟩ := hrp (by omega)
  obtain ⟨base, cap, hrd, -, -⟩ := prod_at hrp hp
  clear hrp
  unfold redB
  rw [hpe]
  have hrdH : ∀ L, At (w : Base) L ⟨b1, o1 + p * 2 + 0, none⟩ (.int .i64 g.prods[p].1) := fun L => at_rd hrd rfl
  have hrdB : ∀ L, At (w : Base) L ⟨b1, o1 + p * 2 + 1, none⟩ (.slice base g.prods[p].2.length cap) := fun L => at_rd hrd rfl
  clear hrd hpe hpr
  generalize g.prods[p] = pr at *
  obtain ⟨hd, bd⟩ := pr
  dsimp only at *
  obtain ⟨vA, vG, rfl, -, hGo⟩ := ht
  obtain ⟨aG, cG, rfl, -, -⟩ := slf_form hGo
  obtain ⟨bs, cs, rfl, hcs, hms, hrS⟩ := hs
  unfold maxLen at hms
  refine enter (args := [graV g.terms g.nons (.slice (some ⟨b1, o1, none⟩) g.prods.length cp), .agg #[vA, .slice aG G.length cG], .slice bs σ.length cs, .int .i64 (p : Int)]) (n := 50) Try.func117 rfl rfl rfl ?_
  refine T_seq (T_region (TL_box rfl rfl rfl fun g4 => ?_))
  conv=>arg 8;simp only[zA,zB,zC,zD,zE,zF,zG,zH,zI,rowS,ret,id_eq]
  refine TL_box rfl rfl rfl fun g5 => ?_
  conv=>arg 8;simp only[zA,zB,zC,zD,zE,zF,zG,zH,zI,rowS,ret,id_eq]
  by_cases c : σ.length ≤ bd.length
  · rw [List.drop_eq_nil_of_le c]
    repeat(first|refine QV QP ?_|refine QZ ?_|refine qcT rfl ?_|refine qcF rfl ?_|refine QV (rr_load1 (v := .slice (some ⟨b1, o1, none⟩) g.prods.length cp) TyC.ty rfl (at_blk (i := 0) rfl rfl)) ?_|refine QV (rr_idxc Und.eq TyC.ty rfl rfl hp) ?_|refine QV (rr_load1 (v := .slice base bd.length cap) TyC.ty rfl (hrdB _)) ?_|refine QV (rr_sub64 (r := (σ.length : Int) - (bd.length : Int)) rfl rfl rfl (by omega) (by omega)) ?_|refine QV (rr_lss (b := true) rfl rfl (decide_eq_true (by omega))) ?_|refine QV QL ?_|refine QV QA ?_|refine QV QlT ?_|refine QV QlF ?_|refine QV QhT ?_|refine QV QhF ?_|refine QV QaS ?_)
    exact E_ret2 rfl rfl rfl fun w hm => hm.meets (S := rduS none) (.slice none 0 0) trivial [] (by decide) rfl
  obtain ⟨n, hn⟩ : ∃ n, σ.length = n + 1 + bd.length := ⟨σ.length - bd.length - 1, by omega⟩
  obtain ⟨r, ρ, hdr⟩ : ∃ r ρ, σ.drop bd.length = r :: ρ := List.exists_cons_of_ne_nil fun e => by
    have := congrArg List.length e
    rw [List.length_drop, List.length_nil] at this
    omega
  have hgr := sI_get hdr hn
  have hdI := sI_drop bd.length σ
  rw [hdr, sI_cons, show σ.length - bd.length = n + 1 by omega] at hdI
  have hrA : r < A.length := hq r (List.mem_of_mem_drop (i := bd.length) (by rw [hdr]; exact List.mem_cons_self ..))
  rw [hdr]
  dsimp only
  have hrG : r < G.length := by omega
  obtain ⟨b2, o2, rfl, hrd2⟩ := hrS (by omega)
  rw [flatI] at hrd2
  have hat2 : ∀ L, At (w : Base) L ⟨b2, o2 + n, none⟩ (.int .i64 (r : Int)) := fun L => at_rd hrd2 (by rw [List.getElem?_map, hgr]; rfl)
  have hat2' : ∀ L j u, (((sI σ).take (n + 1)).flatMap kit.intC)[j]? = some u → At (w : Base) L ⟨b2, o2 + j, none⟩ u := fun L j u hj => at_rd hrd2 (by
    rw [flatI, List.map_take, List.getElem?_take] at hj
    by_cases cc : j < n + 1
    · rwa [if_pos cc] at hj
    · rw [if_neg cc] at hj; cases hj)
  clear hrd2 hrS
  obtain ⟨bG, oG, wi, rfl, hcG, hsG⟩ := slf_at hGo hrG
  have hcG' : ∀ L, At (w : Base) L ⟨bG, oG + r, none⟩ wi := fun L => at_old hcG
  clear hcG
  obtain ⟨ei, di, rfl, hdi, hdi2⟩ := slf_form hsG
  have hfG := hsG.flat (f := fun n => [Value.int .i64 n]) (by decide)
  obtain ⟨_, _, e2, -, -, hrY⟩ := hfG
  cases e2
  have hwGr := hwG r hrG
  have hgo := hgos r hrG
  have hgt : gotoT G r hd = G[r].getD hd.toNat 0 := by unfold gotoT; rw [List.getD_eq_getElem?_getD (l := G), List.getElem?_eq_getElem hrG]; rfl
  rw [hgt]
  clear hsG hgt hgos hwG hwA hact hGo
  generalize G[r] = Y at *
  obtain ⟨h, rfl⟩ := Int.eq_ofNat_of_zero_le hpp.2.1
  have hhY : h < Y.length := by omega
  obtain ⟨b3, o3, rfl, hrd3⟩ := hrY (by omega)
  have hYh : Y[h]? = some (Y.getD h 0) := by rw [List.getD_eq_getElem?_getD, List.getElem?_eq_getElem hhY]; rfl
  have hat3 : ∀ L, At (w : Base) L ⟨b3, o3 + h, none⟩ (.int .i64 (Y.getD h 0)) := fun L => at_rd hrd3 (by
    rw [show (Y.flatMap fun n => [Value.int .i64 n]) = Y.map (.int .i64) from flatI Y, List.getElem?_map, hYh]; rfl)
  have hto := hgo _ (List.mem_of_getElem? hYh)
  clear hrd3 hrY hYh hgo
  rw [show Y.getD ((h : Int)).toNat 0 = Y.getD h 0 from rfl]
  generalize Y.getD h 0 = to1 at *
  repeat(first|refine QV QP ?_|refine QZ ?_|refine qcT rfl ?_|refine qcF rfl ?_|refine QV (rr_load1 (v := .slice (some ⟨b1, o1, none⟩) g.prods.length cp) TyC.ty rfl (at_blk (i := 0) rfl rfl)) ?_|refine QV (rr_idxc Und.eq TyC.ty rfl rfl hp) ?_|refine QV (rr_load1 (v := .slice base bd.length cap) TyC.ty rfl (hrdB _)) ?_|refine QV (rr_sub64 (r := ((n + 1 : Nat) : Int)) rfl rfl (by omega) (by omega) (by omega)) ?_|refine QV (rr_lss (b := false) rfl rfl (decide_eq_false (by omega))) ?_|refine QV QL ?_|refine QV QA ?_|refine QV QlT ?_|refine QV QlF ?_|refine QV QhT ?_|refine QV QhF ?_|refine QV QaS ?_)
  refine T_ord ([blkO g4 (graV g.terms g.nons (.slice (some ⟨b1, o1, none⟩) g.prods.length cp)).cells 24, blkO g5 (Value.agg #[vA, .slice (some ⟨bG, oG, none⟩) G.length cG]).cells 29]) (.calm 0 (.calm 1 (.calm 2 (.calm 3 (.calm 4 (.calm 5 (.calm 6 (.calm 7 (.calm 8 (.calm 9 (.calm 10 (.calm 11 (.calm 12 (.calm 13 (.calm 14 (.calm 15 (.calm 16 (.calm 17 (.done))))))))))))))))))) (fun _ h => h) (by kernel_rfl) (by kernel_rfl) (by intro c a d v w h; cases d <;> exact h) ?_
  repeat(first|((first|refine TW_plain rfl rfl ?_|refine TW_gmet rfl rfl rfl rfl ?_);first|refine QW QP ?_|refine QW (rr_load1 (v := .slice (some ⟨bG, oG, none⟩) G.length cG) TyC.ty rfl (at_blk (i := 1) rfl rfl)) ?_|refine QW (rr_sub64 (r := (n : Int)) rfl rfl (by omega) (by omega) (by omega)) ?_|refine QW (rr_idx1 (j := n) Und.eq TyC.ty rfl rfl (by omega)) ?_|refine QW (rr_load1 (v := .int .i64 (r : Int)) TyC.ty rfl (hat2 _)) ?_|refine QW (rr_idx1 (j := r) Und.eq TyC.ty rfl rfl hrG) ?_|refine QW (rr_load1 (v := .slice (some ⟨b3, o3, none⟩) Y.length di) TyC.ty rfl (hcG' _)) ?_|refine QW (rr_load1 (v := .slice (some ⟨b1, o1, none⟩) g.prods.length cp) TyC.ty rfl (at_blk (i := 0) rfl rfl)) ?_|refine QW (rr_idxc Und.eq TyC.ty rfl rfl hp) ?_|refine QW (rr_load1 (v := .int .i64 (h : Int)) TyC.ty rfl (hrdH _)) ?_|refine QW (rr_idx1 (j := h) Und.eq TyC.ty rfl rfl hhY) ?_|refine QW (rr_load1 (v := .int .i64 to1) TyC.ty rfl (hat3 _)) ?_|refine QW QL ?_|refine QW QA ?_|refine QW QlT ?_|refine QW QlF ?_|refine QW QhT ?_|refine QW QhF ?_|refine QW QaS ?_)|refine TW_done ?_)
  repeat(first|refine QV QP ?_|refine QZ ?_|refine qcT rfl ?_|refine qcF rfl ?_|refine QV (rr_sl3 (j := n + 1) Und.eq TyC.ty rfl rfl rfl (by omega)) ?_|refine QV QL ?_|refine QV QA ?_|refine QV QlT ?_|refine QV QlF ?_|refine QV QhT ?_|refine QV QhF ?_|refine QV QaS ?_)
  refine TL_one (cs := #[.int .i64 to1]) rfl rfl rfl rfl rfl fun g46 => ?_
  conv=>arg 8;simp only[zA,zB,zC,zD,zE,zF,zG,zH,zI,rowS,ret,id_eq]
  refine TL_appFull (q := 2) (m := n + 1) (olds := ((sI σ).take (n + 1)).flatMap kit.intC) rfl (hat2' _) (by rw [flatI, List.length_map, List.length_take, sI_len]; show _ = (n + 1) * 1; omega) rfl rfl rfl (by omega) (by omega) rfl fun v' => ?_
  conv=>arg 8;simp only[zA,zB,zC,zD,zE,zF,zG,zH,zI,rowS,ret,id_eq]
  by_cases c2 : 0 ≤ to1
  · rw [if_pos c2]
    have e : rowO 3 1 v' (n + 1 + 1) (((sI σ).take (n + 1)).flatMap kit.intC ++ [.int .i64 to1]) = skO v' (to1.toNat :: r :: ρ) := by
      have hl1 : (to1.toNat :: r :: ρ).length = n + 1 + 1 := by
        have := congrArg List.length hdr
        rw [List.length_drop] at this
        simp only [List.length_cons] at this ⊢
        omega
      show _ = rowO 3 1 v' (to1.toNat :: r :: ρ).length ((sI (to1.toNat :: r :: ρ)).flatMap kit.intC)
      rw [hl1, sI_cons, sI_cons, hdI, List.flatMap_append, Int.toNat_of_nonneg c2]
      rfl
    repeat(first|refine QV QP ?_|refine QZ ?_|refine qcT rfl ?_|refine qcF rfl ?_|refine QV (rr_geq (b := true) rfl rfl (decide_eq_true c2)) ?_|refine QV QL ?_|refine QV QA ?_|refine QV QlT ?_|refine QV QlF ?_|refine QV QhT ?_|refine QV QhF ?_|refine QV QaS ?_)
    exact E_ret2 rfl rfl rfl fun w hm => hm.meets (S := rduS (some (to1.toNat :: r :: ρ))) v' trivial [3] (by decide) (by show [_] = [_]; rw [← e]; rfl)
  · rw [if_neg c2]
    repeat(first|refine QV QP ?_|refine QZ ?_|refine qcT rfl ?_|refine qcF rfl ?_|refine QV (rr_geq (b := false) rfl rfl (decide_eq_false c2)) ?_|refine QV QL ?_|refine QV QA ?_|refine QV QlT ?_|refine QV QlF ?_|refine QV QhT ?_|refine QV QhF ?_|refine QV QaS ?_)
    exact E_ret2 rfl rfl rfl fun w hm => hm.meets (S := rduS none) v' trivial [] (by decide) rfl
end Go.Proofs.Ytlojfbnimmdehaa.eng

/- BuB -/
namespace Go.Proofs.Ytlojfbnimmdehaa.eng
open Go.RowKit kit mix gramL treeL factsL itemL smallL
theorem LrOk.right {g : Gram} {T N : Nat} {A : List (List itemL.Act)} {G : List (List Int)} (h : LrOk g T N A G) {q c : Nat} (hq : q < A.length) (hc : c ≤ T) : RightAct T g.prods.length A.length (actT A q c) c := by
  have h1 : c < A[q].length := by rw [h.wA q hq]; omega
  have := h.acts q hq c h1
  unfold actT
  rw [List.getD_eq_getElem?_getD (l := A), List.getElem?_eq_getElem hq, Option.getD_some, List.getD_eq_getElem?_getD, List.getElem?_eq_getElem h1]
  exact this
theorem LrOk.go {g : Gram} {T N : Nat} {A : List (List itemL.Act)} {G : List (List Int)} (h : LrOk g T N A G) {q : Nat} {n : Int} (hq : q < A.length) (h0 : 0 ≤ n) (h1 : n < (N : Int)) : gotoT G q n < (A.length : Int) := by
  have hqG : q < G.length := by rw [h.same]; exact hq
  have h2 : n.toNat < G[q].length := by rw [h.wG q hqG]; omega
  have := (h.gos q hqG _ (List.getElem_mem h2)).2
  unfold gotoT
  rw [List.getD_eq_getElem?_getD (l := G), List.getElem?_eq_getElem hqG, Option.getD_some, List.getD_eq_getElem?_getD, List.getElem?_eq_getElem h2]
  exact this
/-- what reduce leaves -/
theorem redB_ok {g : Gram} {T N : Nat} {A : List (List itemL.Act)} {G : List (List Int)} (h : LrOk g T N A G) {σ σ' : List Nat} {p : Int} (h0 : 0 ≤ p) (h1 : p < (g.prods.length : Int)) (hq : ∀ q ∈ σ, q < A.length) (hr : redB g.prods (gotoT G) σ p = some σ') : σ' ≠ [] ∧ σ'.length ≤ σ.length + 1 ∧ ∀ q ∈ σ', q < A.length := by
  unfold redB at hr
  cases e : σ.drop (prodAt g.prods p).2.length with
  | nil => rw [e] at hr; cases hr
  | cons r ρ =>
    rw [e] at hr
    dsimp only at hr
    have hsub : ∀ q ∈ r :: ρ, q < A.length := fun q hq' => hq q (List.mem_of_mem_drop (i := (prodAt g.prods p).2.length) (by rw [e]; exact hq'))
    have hlen : (r :: ρ).length ≤ σ.length := by rw [← e, List.length_drop]; omega
    split at hr
    · rename_i c
      obtain rfl := Option.some.inj hr
      have hh := (checkG_ok h.gram).2.2.2.2.2 _ (countL.prodAt_mem h0 h1)
      have := h.go (hsub r (List.mem_cons_self ..)) hh.2.1 (by have := h.nons; omega)
      refine ⟨by simp, by simp only [List.length_cons] at hlen ⊢; omega, fun q hq' => ?_⟩
      rcases List.mem_cons.1 hq' with rfl | hq'
      · omega
      · exact hsub q hq'
    · cases hr
section
variable {l : List gramL.Prod} {act : Nat → Nat → itemL.Act} {gt : Nat → Int → Int} {col a f q : Nat} {σ : List Nat} {o : List Sym}
theorem rb_0 {m : Int} (h : act q col = (0, m)) : runB l act gt col a (f + 1) (q :: σ) o = (13, [], []) := by
  rw [runB, show (q :: σ).headD 0 = q from rfl, h, if_neg (by simp), if_neg (by simp), if_neg (by simp), if_neg (by simp)]
theorem rb_top {x : itemL.Act} (h : act q col = x) (h0 : x.1 ≠ 0) : runB l act gt col a 1 (q :: σ) o = (14, [], []) := by
  rw [runB, show (q :: σ).headD 0 = q from rfl, h, if_pos ⟨rfl, h0⟩]
theorem rb_3 {m : Int} (h : act q col = (3, m)) : runB l act gt col a (f + 1 + 1) (q :: σ) o = (0, q :: σ, o) := by
  rw [runB, show (q :: σ).headD 0 = q from rfl, h, if_neg (fun h => Nat.succ_ne_zero _ h.1), if_pos rfl]
theorem rb_1 {m : Int} (h : act q col = (1, m)) : runB l act gt col a (f + 1 + 1) (q :: σ) o = if 60 < (q :: σ).length + 1 then (14, [], []) else (0, m.toNat :: q :: σ, o ++ [(2, (a : Int))]) := by
  rw [runB, show (q :: σ).headD 0 = q from rfl, h, if_neg (fun h => Nat.succ_ne_zero _ h.1), if_neg (by simp), if_pos rfl]
theorem rb_2n {m : Int} (h : act q col = (2, m)) (hr : redB l gt (q :: σ) m = none) : runB l act gt col a (f + 1 + 1) (q :: σ) o = (13, [], []) := by
  rw [runB, show (q :: σ).headD 0 = q from rfl, h, if_neg (fun h => Nat.succ_ne_zero _ h.1), if_neg (by simp), if_neg (by simp), if_pos rfl]
  dsimp only
  rw [hr]
theorem rb_2 {m : Int} {σ' : List Nat} (h : act q col = (2, m)) (hr : redB l gt (q :: σ) m = some σ') : runB l act gt col a (f + 1 + 1) (q :: σ) o = if 60 < σ'.length then (14, [], []) else runB l act gt col a (f + 1) σ' (o ++ [(4, m)]) := by
  rw [runB, show (q :: σ).headD 0 = q from rfl, h, if_neg (fun h => Nat.succ_ne_zero _ h.1), if_neg (by simp), if_neg (by simp), if_pos rfl]
  dsimp only
  rw [hr]
end
/-- what a token leaves -/
theorem runB_ok {g : Gram} {T N : Nat} {A : List (List itemL.Act)} {G : List (List Int)} (h : LrOk g T N A G) {col a : Nat} (hc : col ≤ T) : ∀ (f : Nat) {σ : List Nat} {o : List Sym}, σ ≠ [] → (∀ q ∈ σ, q < A.length) → σ.length ≤ 60 → (runB g.prods (actT A) (gotoT G) col a f σ o).1 = 0 →
    (runB g.prods (actT A) (gotoT G) col a f σ o).2.1 ≠ [] ∧ (∀ q ∈ (runB g.prods (actT A) (gotoT G) col a f σ o).2.1, q < A.length) ∧ (runB g.prods (actT A) (gotoT G) col a f σ o).2.1.length ≤ 60 ∧ (runB g.prods (actT A) (gotoT G) col a f σ o).2.2.length ≤ o.length + f
  | 0, _, _, _, _, _, h0 => by cases h0
  | f + 1, σ, o, hne, hq, hl, h0 => by
    obtain ⟨q, σ, rfl⟩ := List.exists_cons_of_ne_nil hne
    have hri := h.right (hq q (List.mem_cons_self ..)) hc
    generalize hx : actT A q col = x at hri
    obtain ⟨k, m⟩ := x
    by_cases ck : k = 0
    · subst ck; rw [rb_0 hx] at h0; cases h0
    cases f with
    | zero => rw [rb_top hx ck] at h0; cases h0
    | succ f =>
      rcases hri with ⟨e, _⟩ | ⟨e, h1, h2, h3⟩ | ⟨e, h1, h2⟩ | ⟨e, _⟩ <;> dsimp only at e <;> subst e
      · exact absurd rfl ck
      · rw [rb_1 hx] at h0 ⊢
        by_cases c : 60 < (q :: σ).length + 1
        · rw [if_pos c] at h0; cases h0
        rw [if_neg c]
        refine ⟨by simp, fun y hy => ?_, by simp only [List.length_cons] at c ⊢; omega, by simp⟩
        rcases List.mem_cons.1 hy with rfl | hy
        · dsimp only at h2 h3; omega
        · exact hq y hy
      · dsimp only at h1 h2
        cases hr : redB g.prods (gotoT G) (q :: σ) m with
        | none => rw [rb_2n hx hr] at h0; cases h0
        | some σ' =>
          rw [rb_2 hx hr] at h0 ⊢
          by_cases c : 60 < σ'.length
          · rw [if_pos c] at h0; cases h0
          rw [if_neg c] at h0 ⊢
          obtain ⟨r1, r2, r3⟩ := redB_ok h h1 h2 hq hr
          have := runB_ok h hc (f + 1) (o := o ++ [(4, m)]) r1 r3 (by omega) h0
          refine ⟨this.1, this.2.1, this.2.2.1, Nat.le_trans this.2.2.2 ?_⟩
          rw [List.length_append, List.length_singleton]; omega
      · rw [rb_3 hx]
        exact ⟨hne, hq, hl, by show o.length ≤ _; omega⟩
theorem sk_at {B : Base} {L : List Own} {i g cap : Nat} {q : Nat} {σ : List Nat} (hi : L[i]? = some (skO (.slice (some ⟨g, 0, none⟩) (σ.length + 1) cap) (q :: σ))) : At B L ⟨g, 0 + σ.length * 1, none⟩ (.int .i64 (q : Int)) :=
  at_rowel (f := kit.intC) IntC_len hi (k := σ.length) (by rw [sI_len]; simp) 0 _ (by
    have : (sI (q :: σ))[σ.length]? = some (q : Int) := sI_get (b := 0) (ρ := σ) rfl rfl
    rw [List.getElem?_eq_some_iff] at this
    obtain ⟨_, h⟩ := this
    rw [h]; rfl)
theorem sk_push {v : Value} {m : Int} {q : Nat} {σ : List Nat} (h : 0 ≤ m) : rowO 3 1 v (σ.length + 1 + 1) ((sI (q :: σ)).flatMap kit.intC ++ [.int .i64 m]) = skO v (m.toNat :: q :: σ) := by
  show _ = rowO 3 1 v (m.toNat :: q :: σ).length ((sI (m.toNat :: q :: σ)).flatMap kit.intC)
  rw [sI_cons m.toNat, List.flatMap_append, Int.toNat_of_nonneg h]
  rfl
theorem ev_push {v : Value} {x : Sym} {o : List Sym} : rowO 82 2 v (o.length + 1) (o.flatMap symC ++ symC x) = evO v (o ++ [x]) := by
  show _ = rowO 82 2 v (o ++ [x]).length ((o ++ [x]).flatMap symC)
  rw [List.length_append, List.flatMap_append]
  simp
/-- what run tells -/
def runBS (R : Int × List Nat × List Sym) : Spec (Value × Value) := ⟨fun _ => True, fun x => if R.1 = 0 then .tuple #[x.1, x.2, .int .i64 0] else .tuple #[.slice none 0 0, .slice none 0 0, .int .i64 R.1], fun x => if R.1 = 0 then [skO x.1 R.2.1, evO x.2 R.2.2] else []⟩
theorem runBS_ok {σ : List Nat} {o : List Sym} : runBS (0, σ, o) = ⟨fun _ => True, fun x => .tuple #[x.1, x.2, .int .i64 0], fun x => [skO x.1 σ, evO x.2 o]⟩ := by unfold runBS; simp
theorem runBS_no {e : Int} (he : e ≠ 0) {x : List Nat × List Sym} : runBS (e, x) = ⟨fun _ => True, fun _ => .tuple #[.slice none 0 0, .slice none 0 0, .int .i64 e], fun _ => []⟩ := by unfold runBS; simp [he]
attribute [local irreducible] Instr.build in
set_option maxHeartbeats 8000000 in
theorem bdRun_calls (v t vs : Value) (g : Gram) (T N : Nat) (A : List (List itemL.Act)) (G : List (List Int)) (σ0 : List Nat) (seen col : Nat) (w : World) (hG : GraR (fun k => k < w.heap.size) w v g) (ht : TabR w t A G) (hs : skR w vs σ0) (hT : LrOk g T N A G) (hq : ∀ q ∈ σ0, q < A.length) (hne : σ0 ≠ []) (hl : σ0.length ≤ 60) (hc : col ≤ T) :
    Calls Try.prog 90 #[v, t, skV vs (seen : Int) 0 false, .int .i64 (col : Int)] w (Meets (runBS (runB g.prods (actT A) (gotoT G) col seen 2001 σ0 [])) w) := by
  have hcl := fun w' (hg : Gr w w') => cloneIntC_calls vs (sI σ0) w' (by rw [sI_len]; exact hs.gr hg) (by rw [sI_len]; omega)
  rw [sI_len] at hcl
  have hrd := fun vs' σ p w' (hg : Gr w w') hs' hq' hl' hp => bdReduce_calls v t vs' g T N A G σ p w' (hG.gr hg) (ht.gr hg) hs' hT hq' hl' hp
  have hrok := fun σ σ' p h0 h1 hq hr => redB_ok (σ := σ) (σ' := σ') (p := p) hT h0 h1 hq hr
  have hri := fun q (hq : q < A.length) => hT.right hq hc
  have hwA := hT.wA
  clear hT
  obtain ⟨vp, rfl, -⟩ := hG
  obtain ⟨vA, vG, rfl, hA, -⟩ := ht
  obtain ⟨aA, cA, rfl, -, -⟩ := slf_form hA
  refine enter (args := [graV g.terms g.nons vp, .agg #[.slice aA A.length cA, vG], skV vs (seen : Int) 0 false, .int .i64 (col : Int)]) (n := 87) Try.func90 rfl rfl rfl ?_
  refine T_seq (T_region (TL_box rfl rfl rfl fun g4 => ?_))
  conv=>arg 8;simp only[zA,zB,zC,zD,zE,zF,zG,zH,zI,rowS,ret,id_eq]
  refine TL_box rfl rfl rfl fun g5 => ?_
  conv=>arg 8;simp only[zA,zB,zC,zD,zE,zF,zG,zH,zI,rowS,ret,id_eq]
  refine TL_box rfl rfl rfl fun g6 => ?_
  conv=>arg 8;simp only[zA,zB,zC,zD,zE,zF,zG,zH,zI,rowS,ret,id_eq]
  repeat(first|refine QV QP ?_|refine QZ ?_|refine qcT rfl ?_|refine qcF rfl ?_|refine qs rfl rfl rfl rfl rfl rfl ?_|((try refine qg rfl rfl rfl ?_);first|refine QV QP ?_|refine QV (rr_load1 (v := vs) TyC.ty rfl (at_blk (i := 2) rfl rfl)) ?_|refine QV QL ?_|refine QV QA ?_|refine QV (rr_not rfl rfl) ?_|refine QV QgT ?_|refine QV QgF ?_|refine QV QeT ?_|refine QV QeF ?_|refine QV QaA ?_|refine QV QaS ?_|refine QV QnT ?_|refine QV QnF ?_))
  refine TL_call (he1 EntersC.en rfl rfl) (fun w hm => hcl w hm.below) rfl rfl rfl ?_
  intro vs1 _
  conv=>arg 8;simp only[zA,zB,zC,zD,zE,zF,zG,zH,zI,rowS,ret,id_eq]
  repeat(first|refine QV QP ?_|refine QZ ?_|refine qcT rfl ?_|refine qcF rfl ?_|refine qs rfl rfl rfl rfl rfl rfl ?_|((try refine qg rfl rfl rfl ?_);first|refine QV QP ?_|refine QV QL ?_|refine QV QA ?_|refine QV (rr_not rfl rfl) ?_|refine QV QgT ?_|refine QV QgF ?_|refine QV QeT ?_|refine QV QeF ?_|refine QV QaA ?_|refine QV QaS ?_|refine QV QnT ?_|refine QV QnF ?_))
  refine T_nil 82 2 ?_
  generalize hR : runB g.prods (actT A) (gotoT G) col seen 2001 σ0 [] = R
  clear hcl hs
  refine T_loop (ι := Nat × List Nat × List Sym × Value × Value) (fun (f, σ, o, _, _) => runB g.prods (actT A) (gotoT G) col seen f σ o = R ∧ f ≤ 2001 ∧ 1 ≤ f ∧ o.length + f ≤ 2001 ∧ σ ≠ [] ∧ σ.length ≤ 60 ∧ ∀ q ∈ σ, q < A.length)
    (fun (f, _, _, vs, vo) => [(3, .int .i64 (col : Int)), (4, .pointer (some ⟨g4, 0, none⟩)), (5, .pointer (some ⟨g5, 0, none⟩)), (6, .pointer (some ⟨g6, 0, none⟩)), (11, vs), (12, vo), (13, .int .i64 ((2001 - f : Nat) : Int))])
    (fun (_, σ, o, vs', vo) => [blkO g4 (graV g.terms g.nons vp).cells 24, blkO g5 (Value.agg #[.slice aA A.length cA, vG]).cells 29, blkO g6 (skV vs (seen : Int) 0 false).cells 125, skO vs' σ, evO vo o]) (fun (f, _, _, _, _) => f) (2001, σ0, [], vs1, .slice none 0 0) ⟨hR, by omega, by omega, by simp, hne, hl, hq⟩ (by repeat' (first | exact True.intro | refine And.intro rfl ?_)) rfl ?_
  clear hR hne hl hq
  rintro ⟨f, σ, o, vs', vo⟩ ⟨i1, i2, i3, i4, i5, i6, i7⟩
  dsimp only at i1 i2 i3 i4 i5 i6 i7 ⊢
  obtain ⟨q, σ, rfl⟩ := List.exists_cons_of_ne_nil i5
  obtain ⟨f, rfl⟩ : ∃ f', f = f' + 1 := ⟨f - 1, by omega⟩
  have hqA := i7 q (List.mem_cons_self ..)
  have hriq := hri q hqA
  obtain ⟨bA, oA, wi, rfl, hcA, hsA⟩ := slf_at hA hqA
  have hcA' : ∀ L, At (w : Base) L ⟨bA, oA + q, none⟩ wi := fun L => at_old hcA
  obtain ⟨ei, di, rfl, hdi, hdi2⟩ := slf_form hsA
  have hfA := hsA.flat (f := actC) (by decide)
  obtain ⟨_, _, e2, -, -, hrX⟩ := hfA
  cases e2
  have hwAq := hwA q hqA
  have hxe : actT A q col = A[q].getD col (0, 0) := by unfold actT; rw [List.getD_eq_getElem?_getD (l := A), List.getElem?_eq_getElem hqA]; rfl
  have hcX : col < A[q].length := by omega
  obtain ⟨b3, o3, rfl, hrd3⟩ := hrX (by omega)
  have hat := fun L => at_el (L := L) actC_len hrd3 hcX
  have hxe2 : A[q][col] = actT A q col := by rw [hxe, List.getD_eq_getElem?_getD, List.getElem?_eq_getElem hcX]; rfl
  rw [hxe2] at hat
  have hatA : ∀ (L : List Own) (j : Nat) (u : Value), (actC (actT A q col))[j]? = some u → At (w : Base) L ⟨b3, o3 + col * 2 + j, none⟩ u := hat
  clear hat hrd3 hrX hxe hxe2 hsA hcA hwA hA hri
  generalize A[q] = X at *
  generalize hx : actT A q col = x at *
  refine T_rowN (i := 3) rfl (by simp) fun gs cs hv q1 q2 => ?_
  subst hv
  simp only [List.length_cons] at i4 i6 q1 ⊢
  repeat(first|refine QV QP ?_|refine QZ ?_|refine qcT rfl ?_|refine qcF rfl ?_|refine qs rfl rfl rfl rfl rfl rfl ?_|((try refine qg rfl rfl rfl ?_);first|refine QV QP ?_|refine QV QL ?_|refine QV QA ?_|refine QV (rr_not rfl rfl) ?_|refine QV QgT ?_|refine QV QgF ?_|refine QV QeT ?_|refine QV QeF ?_|refine QV QaA ?_|refine QV QaS ?_|refine QV QnT ?_|refine QV QnF ?_))
  refine T_ord ([blkO g5 (Value.agg #[.slice (some ⟨bA, oA, none⟩) A.length cA, vG]).cells 29, skO (.slice (some ⟨gs, 0, none⟩) (σ.length + 1) cs) (q :: σ)]) (.calm 0 (.calm 1 (.calm 2 (.calm 3 (.calm 4 (.calm 5 (.calm 6 (.calm 7 (.calm 8 (.calm 9 (.calm 10 (.calm 11 (.calm 12 (.one 13 (.one 14 (.done)))))))))))))))) (sub_pick [1, 3] (by decide) rfl) (by kernel_rfl) (by kernel_rfl) (by intro c a d v w h; cases d <;> exact h) ?_
  repeat(first|((first|refine TW_plain rfl rfl ?_|refine TW_gmet rfl rfl rfl rfl ?_);first|refine QW QP ?_|refine QW (rr_load1 (v := .slice (some ⟨bA, oA, none⟩) A.length cA) TyC.ty rfl (at_blk (i := 0) rfl rfl)) ?_|refine QW (rr_sub64 (r := (σ.length : Int)) rfl rfl (by omega) (by omega) (by omega)) ?_|refine QW (rr_idxc (j := σ.length) Und.eq TyC.ty rfl rfl (by omega)) ?_|refine QW (rr_load1 (v := .int .i64 (q : Int)) TyC.ty rfl (sk_at (i := 1) rfl)) ?_|refine QW (rr_idx1 (j := q) Und.eq TyC.ty rfl rfl hqA) ?_|refine QW (rr_load1 (v := .slice (some ⟨b3, o3, none⟩) X.length di) TyC.ty rfl (hcA' _)) ?_|refine QW (rr_idxc (j := col) Und.eq TyC.ty rfl rfl hcX) ?_|refine QW (rr_loadN (cs := actC x) TyC.ty rfl rfl (hatA _)) ?_|refine QW QL ?_|refine QW QA ?_|refine QW (rr_not rfl rfl) ?_|refine QW QgT ?_|refine QW QgF ?_|refine QW QeT ?_|refine QW QeF ?_|refine QW QaA ?_|refine QW QaS ?_|refine QW QnT ?_|refine QW QnF ?_)|refine TW_skip rfl rfl rfl rfl rfl rfl rfl ?_|refine TW_done ?_)
  refine TW_one rfl (TL_new rfl fun g14 => ?_)
  conv=>arg 8;simp only[zA,zB,zC,zD,zE,zF,zG,zH,zI,rowS,ret,id_eq]
  refine TW_on (sub_pick [1, 3] (by decide) rfl) ?_
  refine TW_one rfl (TL_storeB (i := 5) (cs' := (actC x).toArray) rfl rfl rfl rfl rfl rfl ?_)
  conv=>arg 8;simp only[zA,zB,zC,zD,zE,zF,zG,zH,zI,rowS,ret,id_eq]
  refine TW_on (sub_pick [1, 3] (by decide) rfl) ?_
  repeat(first|((first|refine TW_plain rfl rfl ?_|refine TW_gmet rfl rfl rfl rfl ?_);first|refine QW QP ?_|refine QW QL ?_|refine QW QA ?_|refine QW (rr_not rfl rfl) ?_|refine QW QgT ?_|refine QW QgF ?_|refine QW QeT ?_|refine QW QeF ?_|refine QW QaA ?_|refine QW QaS ?_|refine QW QnT ?_|refine QW QnF ?_)|refine TW_skip rfl rfl rfl rfl rfl rfl rfl ?_|refine TW_done ?_)
  obtain ⟨k, m⟩ := x
  have hn20 : ((2001 - (f + 1) : Nat) : Int) = 2000 ↔ f = 0 := by omega
  by_cases ck : k = 0
  · subst ck
    rw [rb_0 hx] at i1
    subst i1
    by_cases c0 : f = 0
    · repeat(first|refine QV QP ?_|refine QZ ?_|refine qcT rfl ?_|refine qcF rfl ?_|refine qs rfl rfl rfl rfl rfl rfl ?_|((try refine qg rfl rfl rfl ?_);first|refine QV QP ?_|refine QV (rr_eql (b := true) rfl rfl (decide_eq_true (hn20.2 c0))) ?_|refine QV (rr_load1 (v := .int .i64 0) TyC.ty rfl (at_blk (i := 5) rfl rfl)) ?_|refine QV QL ?_|refine QV QA ?_|refine QV (rr_not rfl rfl) ?_|refine QV QgT ?_|refine QV QgF ?_|refine QV QeT ?_|refine QV QeF ?_|refine QV QaA ?_|refine QV QaS ?_|refine QV QnT ?_|refine QV QnF ?_))
      exact E_ret3 rfl rfl rfl rfl fun w hm => hm.meets (S := runBS (13, [], [])) (.slice none 0 0, .slice none 0 0) trivial [] (by decide) rfl
    · repeat(first|refine QV QP ?_|refine QZ ?_|refine qcT rfl ?_|refine qcF rfl ?_|refine qs rfl rfl rfl rfl rfl rfl ?_|((try refine qg rfl rfl rfl ?_);first|refine QV QP ?_|refine QV (rr_eql (b := false) rfl rfl (decide_eq_false fun h => c0 (hn20.1 h))) ?_|refine QV (rr_load1 (v := .int .i64 0) TyC.ty rfl (at_blk (i := 5) rfl rfl)) ?_|refine QV QL ?_|refine QV QA ?_|refine QV (rr_not rfl rfl) ?_|refine QV QgT ?_|refine QV QgF ?_|refine QV QeT ?_|refine QV QeF ?_|refine QV QaA ?_|refine QV QaS ?_|refine QV QnT ?_|refine QV QnF ?_))
      exact E_ret3 rfl rfl rfl rfl fun w hm => hm.meets (S := runBS (13, [], [])) (.slice none 0 0, .slice none 0 0) trivial [] (by decide) rfl
  by_cases c0 : f = 0
  · subst c0
    rw [rb_top hx ck] at i1
    subst i1
    repeat(first|refine QV QP ?_|refine QZ ?_|refine qcT rfl ?_|refine qcF rfl ?_|refine qs rfl rfl rfl rfl rfl rfl ?_|((try refine qg rfl rfl rfl ?_);first|refine QV QP ?_|refine QV (rr_eql (b := true) rfl rfl (decide_eq_true (hn20.2 rfl))) ?_|refine QV (rr_load1 (v := .int .i64 k) TyC.ty rfl (at_blk (i := 5) rfl rfl)) ?_|refine QV QL ?_|refine QV QA ?_|refine QV (rr_not rfl rfl) ?_|refine QV QgT ?_|refine QV QgF ?_|refine QV QeT ?_|refine QV QeF ?_|refine QV QaA ?_|refine QV QaS ?_|refine QV (rr_neq (b := true) rfl rfl (decide_eq_true ck)) ?_|refine QV QnT ?_|refine QV QnF ?_))
    exact E_ret3 rfl rfl rfl rfl fun w hm => hm.meets (S := runBS (14, [], [])) (.slice none 0 0, .slice none 0 0) trivial [] (by decide) rfl
  have hn20 : ¬ ((2001 - (f + 1) : Nat) : Int) = 2000 := fun h => c0 (hn20.1 h)
  obtain ⟨f, rfl⟩ : ∃ f', f = f' + 1 := ⟨f - 1, by omega⟩
  rcases hriq with ⟨e, _⟩ | ⟨e, h1, h2, h3⟩ | ⟨e, h1, h2⟩ | ⟨e, _⟩ <;> dsimp only at e <;> subst e
  · exact absurd rfl ck
  · dsimp only at h1 h2 h3
    rw [rb_1 hx] at i1
    repeat(first|refine QV QP ?_|refine QZ ?_|refine qcT rfl ?_|refine qcF rfl ?_|refine qs rfl rfl rfl rfl rfl rfl ?_|((try refine qg rfl rfl rfl ?_);first|refine QV QP ?_|refine QV (rr_eql (b := false) rfl rfl (decide_eq_false hn20)) ?_|refine QV (rr_load1 (v := .int .i64 1) TyC.ty rfl (at_blk (i := 5) rfl rfl)) ?_|refine QV QL ?_|refine QV QA ?_|refine QV (rr_not rfl rfl) ?_|refine QV QgT ?_|refine QV QgF ?_|refine QV QeT ?_|refine QV QeF ?_|refine QV QaA ?_|refine QV QaS ?_|refine QV QnT ?_|refine QV QnF ?_))
    refine T_ord ([blkO g6 (skV vs (seen : Int) 0 false).cells 125, blkO g14 (actC (1, m)).toArray 87]) (.calm 0 (.calm 1 (.calm 2 (.calm 5 (.calm 6 (.calm 7 (.calm 8 (.two 3 (.two 4 (.one 9 (.one 10 (.calm 11 (.calm 12 (.done))))) 9 (.one 4 (.one 10 (.calm 11 (.calm 12 (.done)))))) 9 (.one 3 (.one 4 (.one 10 (.calm 11 (.calm 12 (.done)))))))))))))) (sub_pick [2, 5] (by decide) rfl) (by kernel_rfl) (by kernel_rfl) (by intro c a d v w h; cases d <;> exact h) ?_
    repeat(first|((first|refine TW_plain rfl rfl ?_|refine TW_gmet rfl rfl rfl rfl ?_);first|refine QW QP ?_|refine QW (rr_load1 (v := .int .i64 m) TyC.ty rfl (at_blk (i := 1) rfl rfl)) ?_|refine QW (rr_load1 (v := .int .i64 (seen : Int)) TyC.ty rfl (at_blk (i := 0) rfl rfl)) ?_|refine QW (rr_build rfl (build_evn _ _)) ?_|refine QW QL ?_|refine QW QA ?_|refine QW (rr_not rfl rfl) ?_|refine QW QgT ?_|refine QW QgF ?_|refine QW QeT ?_|refine QW QeF ?_|refine QW QaA ?_|refine QW QaS ?_|refine QW QnT ?_|refine QW QnF ?_)|refine TW_skip rfl rfl rfl rfl rfl rfl rfl ?_|refine TW_done ?_)
    refine TW_two rfl rfl ?bw1 ?bw2
    case' bw1 =>
      refine TL_one (cs := #[.int .i64 m]) rfl rfl rfl rfl rfl fun g52 => TW_on (sub_pick [2, 5] (by decide) rfl) ?_
      refine TW_two rfl rfl ?bw3 ?bw4
    case' bw3 =>
      refine TL_app11 (i := 3) (q := 6) rfl rfl rfl rfl rfl rfl (by simp only [List.length_cons]; omega) (by simp only [List.length_cons]; omega) rfl fun v3 => TW_on (sub_pick [2, 5] (by decide) rfl) ?_
      refine TW_one rfl (TL_one (cs := (symC (2, (seen : Int))).toArray) rfl rfl rfl rfl rfl fun g58 => TW_on (sub_pick [2, 5] (by decide) rfl) ?_)
      refine TW_one rfl (TL_app1 (i := 4) (q := 7) rfl rfl rfl rfl rfl rfl (by omega) (by omega) rfl fun v4 => TW_on (sub_pick [2, 5] (by decide) rfl) ?_)
    case' bw4 =>
      refine TL_one (cs := (symC (2, (seen : Int))).toArray) rfl rfl rfl rfl rfl fun g58 => TW_on (sub_pick [2, 5] (by decide) rfl) ?_
      refine TW_one rfl (TL_app11 (i := 3) (q := 6) rfl rfl rfl rfl rfl rfl (by simp only [List.length_cons]; omega) (by simp only [List.length_cons]; omega) rfl fun v3 => TW_on (sub_pick [2, 5] (by decide) rfl) ?_)
      refine TW_one rfl (TL_app1 (i := 4) (q := 7) rfl rfl rfl rfl rfl rfl (by omega) (by omega) rfl fun v4 => TW_on (sub_pick [2, 5] (by decide) rfl) ?_)
    case' bw2 =>
      refine TL_one (cs := (symC (2, (seen : Int))).toArray) rfl rfl rfl rfl rfl fun g58 => TW_on (sub_pick [2, 5] (by decide) rfl) ?_
      refine TW_one rfl (TL_one (cs := #[.int .i64 m]) rfl rfl rfl rfl rfl fun g52 => TW_on (sub_pick [2, 5] (by decide) rfl) ?_)
      refine TW_one rfl (TL_app11 (i := 3) (q := 7) rfl rfl rfl rfl rfl rfl (by simp only [List.length_cons]; omega) (by simp only [List.length_cons]; omega) rfl fun v3 => TW_on (sub_pick [2, 5] (by decide) rfl) ?_)
      refine TW_one rfl (TL_app1 (i := 4) (q := 6) rfl rfl rfl rfl rfl rfl (by omega) (by omega) rfl fun v4 => TW_on (sub_pick [2, 5] (by decide) rfl) ?_)
    all_goals
      repeat(first|((first|refine TW_plain rfl rfl ?_|refine TW_gmet rfl rfl rfl rfl ?_);first|refine QW QP ?_|refine QW QL ?_|refine QW QA ?_|refine QW (rr_not rfl rfl) ?_|refine QW QgT ?_|refine QW QgF ?_|refine QW QeT ?_|refine QW QeF ?_|refine QW QaA ?_|refine QW QaS ?_|refine QW QnT ?_|refine QW QnF ?_)|refine TW_skip rfl rfl rfl rfl rfl rfl rfl ?_|refine TW_done ?_)
      by_cases c6 : 60 < (q :: σ).length + 1
      · rw [if_pos c6] at i1
        subst i1
        repeat(first|refine QV QP ?_|refine QZ ?_|refine qcT rfl ?_|refine qcF rfl ?_|refine qs rfl rfl rfl rfl rfl rfl ?_|((try refine qg rfl rfl rfl ?_);first|refine QV QP ?_|refine QV (rr_rowlen (i := 3) Und.eq rfl rfl) ?_|refine QV (rr_gtr (b := true) rfl rfl (decide_eq_true (by omega))) ?_|refine QV QL ?_|refine QV QA ?_|refine QV (rr_not rfl rfl) ?_|refine QV QgT ?_|refine QV QgF ?_|refine QV QeT ?_|refine QV QeF ?_|refine QV QaA ?_|refine QV QaS ?_|refine QV QnT ?_|refine QV QnF ?_))
        exact E_ret3 rfl rfl rfl rfl fun w hm => hm.meets (S := runBS (14, [], [])) (.slice none 0 0, .slice none 0 0) trivial [] (by decide) rfl
      · rw [if_neg c6] at i1
        subst i1
        repeat(first|refine QV QP ?_|refine QZ ?_|refine qcT rfl ?_|refine qcF rfl ?_|refine qs rfl rfl rfl rfl rfl rfl ?_|((try refine qg rfl rfl rfl ?_);first|refine QV QP ?_|refine QV (rr_rowlen (i := 3) Und.eq rfl rfl) ?_|refine QV (rr_gtr (b := false) rfl rfl (decide_eq_false (by omega))) ?_|refine QV (rr_load1 (v := .int .i64 1) TyC.ty rfl (at_blk (i := 5) rfl rfl)) ?_|refine QV QL ?_|refine QV QA ?_|refine QV (rr_not rfl rfl) ?_|refine QV QgT ?_|refine QV QgF ?_|refine QV QeT ?_|refine QV QeF ?_|refine QV QaA ?_|refine QV QaS ?_|refine QV QnT ?_|refine QV QnF ?_))
        exact E_ret3 rfl rfl rfl rfl fun w hm => hm.meets (S := runBS (0, m.toNat :: q :: σ, o ++ [(2, (seen : Int))])) (v3, v4) trivial [3, 4] (by decide) (by
          show [skO v3 (m.toNat :: q :: σ), evO v4 (o ++ [(2, (seen : Int))])] = _
          rw [← sk_push h2, ← ev_push]
          rfl)
  · dsimp only at h1 h2
    obtain ⟨pn, rfl⟩ := Int.eq_ofNat_of_zero_le h1
    have hrd1 := fun w' hg' hs' => hrd (.slice (some ⟨gs, 0, none⟩) (σ.length + 1) cs) (q :: σ) pn w' hg' hs' i7 (by simp only [List.length_cons]; omega) (by omega)
    have hrk := fun σ' => hrok (q :: σ) σ' (pn : Int) h1 h2 i7
    have hb2n := fun hr => @rb_2n g.prods (actT A) (gotoT G) col seen f q σ o (pn : Int) hx hr
    have hb2 := fun σ' hr => @rb_2 g.prods (actT A) (gotoT G) col seen f q σ o (pn : Int) σ' hx hr
    generalize redB g.prods (gotoT G) (q :: σ) (pn : Int) = R2 at *
    clear hrd hrok
    cases R2 with
    | none =>
      rw [hb2n rfl] at i1
      subst i1
      repeat(first|refine QV QP ?_|refine QZ ?_|refine qcT rfl ?_|refine qcF rfl ?_|refine qs rfl rfl rfl rfl rfl rfl ?_|((try refine qg rfl rfl rfl ?_);first|refine QV QP ?_|refine QV (rr_eql (b := false) rfl rfl (decide_eq_false hn20)) ?_|refine QV (rr_load1 (v := .int .i64 2) TyC.ty rfl (at_blk (i := 5) rfl rfl)) ?_|refine QV (rr_loadB (i := 0) TyC.ty rfl rfl rfl) ?_|refine QV (rr_loadB (i := 1) TyC.ty rfl rfl rfl) ?_|refine QV (rr_load1 (v := .int .i64 (pn : Int)) TyC.ty rfl (at_blk (i := 5) rfl rfl)) ?_|refine QV QL ?_|refine QV QA ?_|refine QV (rr_not rfl rfl) ?_|refine QV QgT ?_|refine QV QgF ?_|refine QV QeT ?_|refine QV QeF ?_|refine QV QaA ?_|refine QV QaS ?_|refine QV QnT ?_|refine QV QnF ?_))
      refine TL_call (he4 EntersC.en rfl rfl rfl rfl rfl) (fun w' hm => hrd1 w' hm.below (Sl.of_own (hm.get (i := 3) rfl))) rfl rfl rfl ?_
      intro v2 _
      conv=>arg 8;simp only[zA,zB,zC,zD,zE,zF,zG,zH,zI,rowS,ret,id_eq, rduS]
      conv => arg 7; simp only [rduS]
      repeat(first|refine QV QP ?_|refine QZ ?_|refine qcT rfl ?_|refine qcF rfl ?_|refine qs rfl rfl rfl rfl rfl rfl ?_|((try refine qg rfl rfl rfl ?_);first|refine QV QP ?_|refine QV QL ?_|refine QV QA ?_|refine QV (rr_not rfl rfl) ?_|refine QV QgT ?_|refine QV QgF ?_|refine QV QeT ?_|refine QV QeF ?_|refine QV QaA ?_|refine QV QaS ?_|refine QV QnT ?_|refine QV QnF ?_))
      exact E_ret3 rfl rfl rfl rfl fun w hm => hm.meets (S := runBS (13, [], [])) (.slice none 0 0, .slice none 0 0) trivial [] (by decide) rfl
    | some σ' =>
      rw [hb2 σ' rfl] at i1
      obtain ⟨k1, k2, k3⟩ := hrk σ' rfl
      simp only [List.length_cons] at k2
      repeat(first|refine QV QP ?_|refine QZ ?_|refine qcT rfl ?_|refine qcF rfl ?_|refine qs rfl rfl rfl rfl rfl rfl ?_|((try refine qg rfl rfl rfl ?_);first|refine QV QP ?_|refine QV (rr_eql (b := false) rfl rfl (decide_eq_false hn20)) ?_|refine QV (rr_load1 (v := .int .i64 2) TyC.ty rfl (at_blk (i := 5) rfl rfl)) ?_|refine QV (rr_loadB (i := 0) TyC.ty rfl rfl rfl) ?_|refine QV (rr_loadB (i := 1) TyC.ty rfl rfl rfl) ?_|refine QV (rr_load1 (v := .int .i64 (pn : Int)) TyC.ty rfl (at_blk (i := 5) rfl rfl)) ?_|refine QV QL ?_|refine QV QA ?_|refine QV (rr_not rfl rfl) ?_|refine QV QgT ?_|refine QV QgF ?_|refine QV QeT ?_|refine QV QeF ?_|refine QV QaA ?_|refine QV QaS ?_|refine QV QnT ?_|refine QV QnF ?_))
      refine TL_call (he4 EntersC.en rfl rfl rfl rfl rfl) (fun w' hm => hrd1 w' hm.below (Sl.of_own (hm.get (i := 3) rfl))) rfl rfl rfl ?_
      intro v2 _
      conv=>arg 8;simp only[zA,zB,zC,zD,zE,zF,zG,zH,zI,rowS,ret,id_eq, rduS]
      conv => arg 7; simp only [rduS]
      repeat(first|refine QV QP ?_|refine QZ ?_|refine qcT rfl ?_|refine qcF rfl ?_|refine qs rfl rfl rfl rfl rfl rfl ?_|((try refine qg rfl rfl rfl ?_);first|refine QV QP ?_|refine QV (rr_load1 (v := .int .i64 (pn : Int)) TyC.ty rfl (at_blk (i := 5) rfl rfl)) ?_|refine QV (rr_build rfl (build_evn _ _)) ?_|refine QV QL ?_|refine QV QA ?_|refine QV (rr_not rfl rfl) ?_|refine QV QgT ?_|refine QV QgF ?_|refine QV QeT ?_|refine QV QeF ?_|refine QV QaA ?_|refine QV QaS ?_|refine QV QnT ?_|refine QV QnF ?_))
      refine TL_pushN (i := 4) rfl rfl rfl rfl rfl rfl rfl (fun z h => by cases h; rfl) (by omega) (by omega) rfl fun z4 v4 => ?_
      conv=>arg 8;simp only[zA,zB,zC,zD,zE,zF,zG,zH,zI,rowS,ret,id_eq]
      by_cases c6 : 60 < σ'.length
      · rw [if_pos c6] at i1
        subst i1
        repeat(first|refine QV QP ?_|refine QZ ?_|refine qcT rfl ?_|refine qcF rfl ?_|refine qs rfl rfl rfl rfl rfl rfl ?_|((try refine qg rfl rfl rfl ?_);first|refine QV QP ?_|refine QV (rr_rowlen (i := 6) Und.eq rfl rfl) ?_|refine QV (rr_gtr (b := true) rfl rfl (decide_eq_true (by omega))) ?_|refine QV QL ?_|refine QV QA ?_|refine QV (rr_not rfl rfl) ?_|refine QV QgT ?_|refine QV QgF ?_|refine QV QeT ?_|refine QV QeF ?_|refine QV QaA ?_|refine QV QaS ?_|refine QV QnT ?_|refine QV QnF ?_))
        exact E_ret3 rfl rfl rfl rfl fun w hm => hm.meets (S := runBS (14, [], [])) (.slice none 0 0, .slice none 0 0) trivial [] (by decide) rfl
      · rw [if_neg c6] at i1
        repeat(first|refine QV QP ?_|refine QZ ?_|refine qcT rfl ?_|refine qcF rfl ?_|refine qs rfl rfl rfl rfl rfl rfl ?_|((try refine qg rfl rfl rfl ?_);first|refine QV QP ?_|refine QV (rr_rowlen (i := 6) Und.eq rfl rfl) ?_|refine QV (rr_gtr (b := false) rfl rfl (decide_eq_false (by omega))) ?_|refine QV (rr_load1 (v := .int .i64 2) TyC.ty rfl (at_blk (i := 5) rfl rfl)) ?_|refine QV (rr_add64 (r := ((2001 - (f + 1) : Nat) : Int)) rfl rfl (by omega) (by omega) (by omega)) ?_|refine QV QL ?_|refine QV QA ?_|refine QV (rr_not rfl rfl) ?_|refine QV QgT ?_|refine QV QgF ?_|refine QV QeT ?_|refine QV QeF ?_|refine QV QaA ?_|refine QV QaS ?_|refine QV QnT ?_|refine QV QnF ?_))
        refine E_pick [0, 1, 2, 6, 4] (by decide) rfl ?_
        exact E_round (f + 1, σ', o ++ [(4, (pn : Int))], v2, v4) ⟨i1, by omega, by omega, by show (o ++ [(4, (pn : Int))]).length + (f + 1) ≤ 2001; rw [List.length_append, List.length_singleton]; omega, k1, by show σ'.length ≤ 60; omega, k3⟩ (by show f + 1 < f + 1 + 1; omega) (by repeat' (first | exact True.intro | refine And.intro rfl ?_)) (by rw [← ev_push]; rfl)
  · rw [rb_3 hx] at i1
    subst i1
    repeat(first|refine QV QP ?_|refine QZ ?_|refine qcT rfl ?_|refine qcF rfl ?_|refine qs rfl rfl rfl rfl rfl rfl ?_|((try refine qg rfl rfl rfl ?_);first|refine QV QP ?_|refine QV (rr_eql (b := false) rfl rfl (decide_eq_false hn20)) ?_|refine QV (rr_load1 (v := .int .i64 3) TyC.ty rfl (at_blk (i := 5) rfl rfl)) ?_|refine QV QL ?_|refine QV QA ?_|refine QV (rr_not rfl rfl) ?_|refine QV QgT ?_|refine QV QgF ?_|refine QV QeT ?_|refine QV QeF ?_|refine QV QaA ?_|refine QV QaS ?_|refine QV QnT ?_|refine QV QnF ?_))
    exact E_ret3 rfl rfl rfl rfl fun w hm => hm.meets (S := runBS (0, q :: σ, o)) (.slice (some ⟨gs, 0, none⟩) (σ.length + 1) cs, vo) trivial [3, 4] (by decide) rfl
end Go.Proofs.Ytlojfbnimmdehaa.eng

/- ClimbE -/
namespace Go.Proofs.Ytlojfbnimmdehaa.eng
open Go.RowKit kit mix gramL treeL climbL llL countL factsL derL
def climbedS (R : List Sym × Nat × Int) : Spec Value := ⟨fun _ => True, fun vo => .tuple #[vo, .int .i64 (R.2.1 : Int), .int .i64 R.2.2], fun vo => [evO vo R.1]⟩
theorem evO_app {v : Value} {a b : List Sym} : rowO 82 2 v (a.length + b.length) (a.flatMap symC ++ b.flatMap symC) = evO v (a ++ b) := by unfold evO; rw [List.length_append, List.flatMap_append]
theorem ev_len (l : List Sym) : (l.flatMap symC).length = l.length * 2 := len_el (f := symC) (c := 2) (fun _ => rfl) l
end Go.Proofs.Ytlojfbnimmdehaa.eng

/- BuC -/
namespace Go.Proofs.Ytlojfbnimmdehaa.eng
open Go.RowKit kit mix gramL treeL factsL itemL smallL
/-- a push's answer -/
def pushBS (seen : Int) (R : Int × List Nat × List Sym) : Spec (Value × Value) :=
  ⟨fun _ => True, fun x => if R.1 = 0 then .tuple #[skV x.1 (seen + 1) 0 false, x.2, .int .i64 0] else .tuple #[skV (.slice none 0 0) seen R.1 false, .slice none 0 0, .int .i64 R.1], fun x => if R.1 = 0 then [skO x.1 R.2.1, evO x.2 R.2.2] else []⟩
theorem pushBS_ok {seen : Int} {σ : List Nat} {o : List Sym} : pushBS seen (0, σ, o) = ⟨fun _ => True, fun x => .tuple #[skV x.1 (seen + 1) 0 false, x.2, .int .i64 0], fun x => [skO x.1 σ, evO x.2 o]⟩ := by unfold pushBS; simp
theorem pushBS_no {seen e : Int} (he : e ≠ 0) {x : List Nat × List Sym} : pushBS seen (e, x) = ⟨fun _ => True, fun _ => .tuple #[skV (.slice none 0 0) seen e false, .slice none 0 0, .int .i64 e], fun _ => []⟩ := by unfold pushBS; simp [he]
theorem sk_one {v : Value} {a b : Int} {c : Bool} (h : v.oneCell' = true) : (#[v, .int .i64 a, .int .i64 b, .bool c] : Array Value).toList.all Value.oneCell' = true := by
  simp only [List.all_cons, List.all_nil, h]; rfl
attribute [local irreducible] Instr.build in
set_option maxHeartbeats 4000000 in
theorem bdPush_calls (v t vs : Value) (g : Gram) (T N : Nat) (A : List (List itemL.Act)) (G : List (List Int)) (σ0 : List Nat) (seen col : Nat) (w : World) (hG : GraR (fun k => k < w.heap.size) w v g) (ht : TabR w t A G) (hs : skR w vs σ0) (hT : LrOk g T N A G) (hq : ∀ q ∈ σ0, q < A.length) (hne : σ0 ≠ []) (hl : σ0.length ≤ 60) (hc : col < T) (hsn : seen ≤ 1000000) :
    Calls Try.prog 58 #[v, t, skV vs (seen : Int) 0 false, .int .i64 (col : Int)] w (Meets (pushBS (seen : Int) (runB g.prods (actT A) (gotoT G) col seen 2001 σ0 [])) w) := by
  have h0 : 0 < σ0.length := by rcases σ0 with _ | ⟨a, b⟩; exact absurd rfl hne; simp
  have hterm := hT.terms
  have hck := fun w' (hg : Gr w w') => bdCheck_calls v t vs g T N A G σ0 (seen : Int) (col : Int) w' (hG.gr hg) (ht.gr hg) (hs.gr hg) hT hq h0 hl (by omega) (by omega) (by omega) (by omega)
  have hrn := fun w' (hg : Gr w w') => bdRun_calls v t vs g T N A G σ0 seen col w' (hG.gr hg) (ht.gr hg) (hs.gr hg) hT hq hne hl (by omega)
  have hlen := fun h => (runB_ok (a := seen) hT (show col ≤ T by omega) 2001 (o := []) hne hq hl h).2.2.1
  generalize runB g.prods (actT A) (gotoT G) col seen 2001 σ0 [] = R at *
  obtain ⟨e, σ, o⟩ := R
  dsimp only at hlen
  obtain ⟨vp, rfl, -⟩ := hG
  obtain ⟨vA, vG, rfl, -⟩ := ht
  clear hs hT
  refine enter (args := [graV g.terms g.nons vp, .agg #[vA, vG], skV vs (seen : Int) 0 false, .int .i64 (col : Int)]) (n := 51) Try.func58 rfl rfl rfl ?_
  refine T_seq (T_region (TL_box rfl rfl rfl fun g4 => ?_))
  conv=>arg 8;simp only[zA,zB,zC,zD,zE,zF,zG,zH,zI,rowS,ret,id_eq]
  refine TL_box rfl rfl rfl fun g5 => ?_
  conv=>arg 8;simp only[zA,zB,zC,zD,zE,zF,zG,zH,zI,rowS,ret,id_eq]
  refine TL_box rfl rfl rfl fun g6 => ?_
  conv=>arg 8;simp only[zA,zB,zC,zD,zE,zF,zG,zH,zI,rowS,ret,id_eq]
  refine TL_new rfl fun g8 => ?_
  conv=>arg 8;simp only[zA,zB,zC,zD,zE,zF,zG,zH,zI,rowS,ret,id_eq]
  repeat(first|refine QV QP ?_|refine QZ ?_|refine qcT rfl ?_|refine qcF rfl ?_|refine QV (rr_load1 (v := .int .i64 g.terms) TyC.ty rfl (at_blk (i := 0) rfl rfl)) ?_|refine QV (rr_eql (b := false) rfl rfl (decide_eq_false (by omega))) ?_|refine QV (rr_loadB (i := 0) TyC.ty rfl rfl rfl) ?_|refine QV (rr_loadB (i := 1) TyC.ty rfl rfl rfl) ?_|refine QV (rr_loadB (i := 2) TyC.ty rfl rfl rfl) ?_|refine QV QA ?_|refine QV QeT ?_|refine QV QeF ?_|refine QV QnT ?_|refine QV QnF ?_|refine QV QaA ?_)
  refine TL_call (he4 EntersC.en rfl rfl rfl rfl rfl) (fun w hm => hck w hm.below) rfl rfl rfl ?_
  intro _ _
  conv=>arg 8;simp only[zA,zB,zC,zD,zE,zF,zG,zH,zI,rowS,ret,id_eq]
  repeat(first|refine QV QP ?_|refine QZ ?_|refine qcT rfl ?_|refine qcF rfl ?_|refine QV (rr_loadB (i := 0) TyC.ty rfl rfl rfl) ?_|refine QV (rr_loadB (i := 1) TyC.ty rfl rfl rfl) ?_|refine QV (rr_loadB (i := 2) TyC.ty rfl rfl rfl) ?_|refine QV QA ?_|refine QV QeT ?_|refine QV QeF ?_|refine QV QnT ?_|refine QV QnF ?_|refine QV QaA ?_)
  by_cases c : e = 0
  · subst c
    rw [runBS_ok] at hrn
    rw [pushBS_ok]
    have hlen := hlen rfl
    refine TL_call (he4 EntersC.en rfl rfl rfl rfl rfl) (fun w hm => hrn w hm.below) rfl rfl rfl ?_
    rintro ⟨v1, v2⟩ _
    conv=>arg 8;simp only[zA,zB,zC,zD,zE,zF,zG,zH,zI,rowS,ret,id_eq]
    repeat(first|refine QV QP ?_|refine QZ ?_|refine qcT rfl ?_|refine qcF rfl ?_|refine QV QA ?_|refine QV QeT ?_|refine QV QeF ?_|refine QV QnT ?_|refine QV QnF ?_|refine QV QaA ?_)
    refine TL_rowv (i := 4) rfl fun bt ct hv q1 q2 => ?_
    subst hv
    repeat(first|refine QV QP ?_|refine QZ ?_|refine qcT rfl ?_|refine qcF rfl ?_|refine QV (rr_load1 (v := .int .i64 (seen : Int)) TyC.ty rfl (at_blk (i := 2) rfl rfl)) ?_|refine QV (rr_add64 (r := (seen : Int) + 1) rfl rfl (by omega) (by omega) (by omega)) ?_|refine QV (rr_build rfl (build_skN _ _ _ _)) ?_|refine QV QA ?_|refine QV QeT ?_|refine QV QeF ?_|refine QV QnT ?_|refine QV QnF ?_|refine QV QaA ?_)
    refine TL_storeB (i := 3) (cs' := #[.slice bt σ.length ct, .int .i64 ((seen : Int) + 1), .int .i64 0, .bool false]) rfl rfl rfl rfl rfl rfl ?_
    conv=>arg 8;simp only[zA,zB,zC,zD,zE,zF,zG,zH,zI,rowS,ret,id_eq]
    repeat(first|refine QV QP ?_|refine QZ ?_|refine qcT rfl ?_|refine qcF rfl ?_|refine QV QA ?_|refine QV QeT ?_|refine QV QeF ?_|refine QV QnT ?_|refine QV QnF ?_|refine QV QaA ?_)
    exact E_retc3 (i := 3) rfl rfl rfl rfl rfl rfl fun w hm => hm.meets (S := ⟨fun _ => True, fun x => .tuple #[skV x.1 ((seen : Int) + 1) 0 false, x.2, .int .i64 0], fun x => [skO x.1 σ, evO x.2 o]⟩) (.slice bt σ.length ct, v2) trivial [4, 5] (by decide) rfl
  · rw [runBS_no c] at hrn
    rw [pushBS_no c]
    refine TL_call (he4 EntersC.en rfl rfl rfl rfl rfl) (fun w hm => hrn w hm.below) rfl rfl rfl ?_
    rintro _ _
    conv=>arg 8;simp only[zA,zB,zC,zD,zE,zF,zG,zH,zI,rowS,ret,id_eq]
    repeat(first|refine QV QP ?_|refine QZ ?_|refine qcT rfl ?_|refine qcF rfl ?_|refine QV (rr_neq (b := true) rfl rfl (decide_eq_true c)) ?_|refine QV (rr_load1 (v := .int .i64 (seen : Int)) TyC.ty rfl (at_blk (i := 2) rfl rfl)) ?_|refine QV (rr_build rfl (build_skE _ _)) ?_|refine QV QA ?_|refine QV QeT ?_|refine QV QeF ?_|refine QV QnT ?_|refine QV QnF ?_|refine QV QaA ?_)
    refine TL_storeB (i := 3) (cs' := #[.slice none 0 0, .int .i64 (seen : Int), .int .i64 e, .bool false]) rfl rfl rfl rfl rfl rfl ?_
    conv=>arg 8;simp only[zA,zB,zC,zD,zE,zF,zG,zH,zI,rowS,ret,id_eq]
    repeat(first|refine QV QP ?_|refine QZ ?_|refine qcT rfl ?_|refine qcF rfl ?_|refine QV QA ?_|refine QV QeT ?_|refine QV QeF ?_|refine QV QnT ?_|refine QV QnF ?_|refine QV QaA ?_)
    exact E_retc3 (i := 3) rfl rfl rfl rfl rfl rfl fun w hm => hm.meets (S := ⟨fun (_ : Value × Value) => True, fun _ => .tuple #[skV (.slice none 0 0) (seen : Int) e false, .slice none 0 0, .int .i64 e], fun _ => []⟩) (.slice none 0 0, .slice none 0 0) trivial [] (by decide) rfl
def endBS (seen : Int) (R : Int × List Nat × List Sym) : Spec Value :=
  ⟨fun _ => True, fun x => if R.1 = 0 then .tuple #[skV (.slice none 0 0) seen 0 true, x, .int .i64 0] else .tuple #[skV (.slice none 0 0) seen R.1 false, .slice none 0 0, .int .i64 R.1], fun x => if R.1 = 0 then [evO x R.2.2] else []⟩
theorem endBS_ok {seen : Int} {σ : List Nat} {o : List Sym} : endBS seen (0, σ, o) = ⟨fun _ => True, fun x => .tuple #[skV (.slice none 0 0) seen 0 true, x, .int .i64 0], fun x => [evO x o]⟩ := by unfold endBS; simp
theorem endBS_no {seen e : Int} (he : e ≠ 0) {x : List Nat × List Sym} : endBS seen (e, x) = ⟨fun _ => True, fun _ => .tuple #[skV (.slice none 0 0) seen e false, .slice none 0 0, .int .i64 e], fun _ => []⟩ := by unfold endBS; simp [he]
attribute [local irreducible] Instr.build in
set_option maxHeartbeats 4000000 in
theorem bdEnd_calls (v t vs : Value) (g : Gram) (T N : Nat) (A : List (List itemL.Act)) (G : List (List Int)) (σ0 : List Nat) (seen : Nat) (w : World) (hG : GraR (fun k => k < w.heap.size) w v g) (ht : TabR w t A G) (hs : skR w vs σ0) (hT : LrOk g T N A G) (hq : ∀ q ∈ σ0, q < A.length) (hne : σ0 ≠ []) (hl : σ0.length ≤ 60) (hsn : seen ≤ 1000000) :
    Calls Try.prog 59 #[v, t, skV vs (seen : Int) 0 false] w (Meets (endBS (seen : Int) (runB g.prods (actT A) (gotoT G) T seen 2001 σ0 [])) w) := by
  have h0 : 0 < σ0.length := by rcases σ0 with _ | ⟨a, b⟩; exact absurd rfl hne; simp
  have hterm := hT.terms
  have hck := fun w' (hg : Gr w w') => bdCheck_calls v t vs g T N A G σ0 (seen : Int) (T : Int) w' (hG.gr hg) (ht.gr hg) (hs.gr hg) hT hq h0 hl (by omega) (by omega) (by omega) (by omega)
  have hrn := fun w' (hg : Gr w w') => bdRun_calls v t vs g T N A G σ0 seen T w' (hG.gr hg) (ht.gr hg) (hs.gr hg) hT hq hne hl (Nat.le_refl _)
  generalize runB g.prods (actT A) (gotoT G) T seen 2001 σ0 [] = R at *
  obtain ⟨e, σ, o⟩ := R
  obtain ⟨vp, rfl, -⟩ := hG
  obtain ⟨vA, vG, rfl, -⟩ := ht
  clear hs hT
  refine enter (args := [graV g.terms g.nons vp, .agg #[vA, vG], skV vs (seen : Int) 0 false]) (n := 45) Try.func59 rfl rfl rfl ?_
  refine T_seq (T_region (TL_box rfl rfl rfl fun g4 => ?_))
  conv=>arg 8;simp only[zA,zB,zC,zD,zE,zF,zG,zH,zI,rowS,ret,id_eq]
  refine TL_box rfl rfl rfl fun g5 => ?_
  conv=>arg 8;simp only[zA,zB,zC,zD,zE,zF,zG,zH,zI,rowS,ret,id_eq]
  refine TL_box rfl rfl rfl fun g6 => ?_
  conv=>arg 8;simp only[zA,zB,zC,zD,zE,zF,zG,zH,zI,rowS,ret,id_eq]
  refine TL_new rfl fun g8 => ?_
  conv=>arg 8;simp only[zA,zB,zC,zD,zE,zF,zG,zH,zI,rowS,ret,id_eq]
  repeat(first|refine QV QP ?_|refine QZ ?_|refine qcT rfl ?_|refine qcF rfl ?_|refine QV (rr_load1 (v := .int .i64 (T : Int)) TyC.ty rfl (at_blk (i := 0) rfl (by show some (Value.int .i64 g.terms) = _; rw [hterm]))) ?_|refine QV (rr_loadB (i := 0) TyC.ty rfl rfl rfl) ?_|refine QV (rr_loadB (i := 1) TyC.ty rfl rfl rfl) ?_|refine QV (rr_loadB (i := 2) TyC.ty rfl rfl rfl) ?_|refine QV QA ?_|refine QV QnT ?_|refine QV QnF ?_)
  refine TL_call (he4 EntersC.en rfl rfl rfl rfl rfl) (fun w hm => hck w hm.below) rfl rfl rfl ?_
  intro _ _
  conv=>arg 8;simp only[zA,zB,zC,zD,zE,zF,zG,zH,zI,rowS,ret,id_eq]
  repeat(first|refine QV QP ?_|refine QZ ?_|refine qcT rfl ?_|refine qcF rfl ?_|refine QV (rr_load1 (v := .int .i64 (T : Int)) TyC.ty rfl (at_blk (i := 0) rfl (by show some (Value.int .i64 g.terms) = _; rw [hterm]))) ?_|refine QV (rr_loadB (i := 0) TyC.ty rfl rfl rfl) ?_|refine QV (rr_loadB (i := 1) TyC.ty rfl rfl rfl) ?_|refine QV (rr_loadB (i := 2) TyC.ty rfl rfl rfl) ?_|refine QV QA ?_|refine QV QnT ?_|refine QV QnF ?_)
  by_cases c : e = 0
  · subst c
    rw [runBS_ok] at hrn
    rw [endBS_ok]
    refine TL_call (he4 EntersC.en rfl rfl rfl rfl rfl) (fun w hm => hrn w hm.below) rfl rfl rfl ?_
    rintro ⟨v1, v2⟩ _
    conv=>arg 8;simp only[zA,zB,zC,zD,zE,zF,zG,zH,zI,rowS,ret,id_eq]
    repeat(first|refine QV QP ?_|refine QZ ?_|refine qcT rfl ?_|refine qcF rfl ?_|refine QV (rr_load1 (v := .int .i64 (seen : Int)) TyC.ty rfl (at_blk (i := 2) rfl rfl)) ?_|refine QV (rr_build rfl (build_skD _)) ?_|refine QV QA ?_|refine QV QnT ?_|refine QV QnF ?_)
    refine TL_storeB (i := 3) (cs' := #[.slice none 0 0, .int .i64 (seen : Int), .int .i64 0, .bool true]) rfl rfl rfl rfl rfl rfl ?_
    conv=>arg 8;simp only[zA,zB,zC,zD,zE,zF,zG,zH,zI,rowS,ret,id_eq]
    repeat(first|refine QV QP ?_|refine QZ ?_|refine qcT rfl ?_|refine qcF rfl ?_|refine QV QA ?_|refine QV QnT ?_|refine QV QnF ?_)
    exact E_retc3 (i := 3) rfl rfl rfl rfl rfl rfl fun w hm => hm.meets (S := ⟨fun _ => True, fun x => .tuple #[skV (.slice none 0 0) (seen : Int) 0 true, x, .int .i64 0], fun x => [evO x o]⟩) v2 trivial [5] (by decide) rfl
  · rw [runBS_no c] at hrn
    rw [endBS_no c]
    refine TL_call (he4 EntersC.en rfl rfl rfl rfl rfl) (fun w hm => hrn w hm.below) rfl rfl rfl ?_
    rintro _ _
    conv=>arg 8;simp only[zA,zB,zC,zD,zE,zF,zG,zH,zI,rowS,ret,id_eq]
    repeat(first|refine QV QP ?_|refine QZ ?_|refine qcT rfl ?_|refine qcF rfl ?_|refine QV (rr_neq (b := true) rfl rfl (decide_eq_true c)) ?_|refine QV (rr_load1 (v := .int .i64 (seen : Int)) TyC.ty rfl (at_blk (i := 2) rfl rfl)) ?_|refine QV (rr_build rfl (build_skE _ _)) ?_|refine QV QA ?_|refine QV QnT ?_|refine QV QnF ?_)
    refine TL_storeB (i := 3) (cs' := #[.slice none 0 0, .int .i64 (seen : Int), .int .i64 e, .bool false]) rfl rfl rfl rfl rfl rfl ?_
    conv=>arg 8;simp only[zA,zB,zC,zD,zE,zF,zG,zH,zI,rowS,ret,id_eq]
    repeat(first|refine QV QP ?_|refine QZ ?_|refine qcT rfl ?_|refine qcF rfl ?_|refine QV QA ?_|refine QV QnT ?_|refine QV QnF ?_)
    exact E_retc3 (i := 3) rfl rfl rfl rfl rfl rfl fun w hm => hm.meets (S := ⟨fun (_ : Value) => True, fun _ => .tuple #[skV (.slice none 0 0) (seen : Int) e false, .slice none 0 0, .int .i64 e], fun _ => []⟩) (.slice none 0 0) trivial [] (by decide) rfl
end Go.Proofs.Ytlojfbnimmdehaa.eng

/- BuD -/
namespace Go.Proofs.Ytlojfbnimmdehaa.eng
open Go.RowKit kit mix gramL treeL climbL factsL itemL smallL
set_option maxHeartbeats 4000000 in
theorem built_calls (v t vw : Value) (g : Gram) (T N : Nat) (A : List (List itemL.Act)) (G : List (List Int)) (word : List Int) (w : World) (h : GraR (fun k => k < w.heap.size) w v g) (ht : TabR w t A G) (hs : Sl w vw word.length (word.map (.int .i64))) (hT : LrOk g T N A G) (hw : ∀ x ∈ word, 0 ≤ x ∧ x < (T : Int)) (hl : word.length ≤ 1000) :
    Calls Try.prog 28 #[v, t, vw] w (Meets (climbedS (bRun g.prods (actT A) (gotoT G) T word [0] 0 [])) w) := by
  have hp := fun vs σ (seen col : Nat) w' (hg' : Gr w w') hs' hq hne hl' hc hsn => bdPush_calls v t vs g T N A G σ seen col w' (h.gr hg') (ht.gr hg') hs' hT hq hne hl' hc hsn
  have he := fun vs σ (seen : Nat) w' (hg' : Gr w w') hs' hq hne hl' hsn => bdEnd_calls v t vs g T N A G σ seen w' (h.gr hg') (ht.gr hg') hs' hT hq hne hl' hsn
  obtain ⟨vp, rfl, _⟩ := h
  obtain ⟨vA, vG, rfl, _⟩ := ht
  obtain ⟨bw, cw, rfl, hw1, hw2, hw3⟩ := hs
  unfold maxLen at hw2
  refine enter (args := [graV g.terms g.nons vp, .agg #[vA, vG], .slice bw word.length cw]) (n := 55) Try.func28 rfl rfl rfl ?_
  refine T_seq (T_region (TL_box rfl rfl rfl fun g3 => ?_))
  conv=>arg 8;simp only[zA,zB,zC,zD,zE,zF,zG,zH,zI,rowS,ret,id_eq]
  refine TL_box rfl rfl rfl fun g4 => ?_
  conv=>arg 8;simp only[zA,zB,zC,zD,zE,zF,zG,zH,zI,rowS,ret,id_eq]
  repeat(first|refine QV QP ?_|refine QZ ?_|refine qcT rfl ?_|refine qcF rfl ?_|refine E_blockX ?_|refine E_blockO rfl ?_|refine QV QL ?_|refine QV QlT ?_|refine QV QlF ?_|refine QV QnT ?_|refine QV QnF ?_|refine QV QaA ?_)
  refine TL_call (he0 EntersC.en rfl) (fun w hm => bdBegin_calls w) rfl rfl rfl ?_
  intro vt0 _
  conv=>arg 8;simp only[zA,zB,zC,zD,zE,zF,zG,zH,zI,rowS,ret,id_eq, beginSS]
  conv => arg 7; simp only [beginSS]
  refine TL_slv (i := 2) rfl fun hv1 hv2 => ?_
  refine TL_new rfl fun g9 => ?_
  refine TL_storeB (i := 3) (cs' := #[vt0, .int .i64 0, .int .i64 0, .bool false]) rfl rfl rfl rfl (sk_one hv2) rfl ?_
  conv=>arg 8;simp only[zA,zB,zC,zD,zE,zF,zG,zH,zI,rowS,ret,id_eq]
  repeat(first|refine QV QP ?_|refine QZ ?_|refine qcT rfl ?_|refine qcF rfl ?_|refine E_blockX ?_|refine E_blockO rfl ?_|refine QV QL ?_|refine QV QlT ?_|refine QV QlF ?_|refine QV QnT ?_|refine QV QnF ?_|refine QV QaA ?_)
  refine T_nil 82 2 ?_
  generalize hR : bRun g.prods (actT A) (gotoT G) T word [0] 0 [] = R
  refine T_pick [0, 1, 3, 2, 4] (by decide) rfl ?_
  refine T_loop (ι := Nat × List Nat × List Sym × Value × Value) (fun (k, σ, out, _, _) => k ≤ word.length ∧ bRun g.prods (actT A) (gotoT G) T (word.drop k) σ k out = R ∧ (∀ q ∈ σ, q < A.length) ∧ σ ≠ [] ∧ σ.length ≤ 60 ∧ out.length ≤ k * 2001)
    (fun (k, _, _, _, vo) => [(3, .pointer (some ⟨g3, 0, none⟩)), (4, .pointer (some ⟨g4, 0, none⟩)), (6, vo), (7, .int .i64 (k : Int)), (9, .pointer (some ⟨g9, 0, none⟩)), (16, .slice bw word.length cw), (17, .int .i64 word.length), (18, .int .i64 (k : Int))])
    (fun (k, σ, out, vt, vo) => [blkO g3 (graV g.terms g.nons vp).cells 24, blkO g4 (Value.agg #[vA, vG]).cells 29, blkO g9 #[vt, .int .i64 (k : Int), .int .i64 0, .bool false] 125, skO vt σ, evO vo out]) (fun (k, _, _, _, _) => word.length - k) (0, [0], [], vt0, .slice none 0 0)
    ⟨Nat.zero_le _, hR, by intro q hq; rw [List.mem_singleton.1 hq]; exact hT.pos, by simp, by decide, by simp⟩ (by repeat' (first | exact True.intro | refine And.intro rfl ?_)) rfl ?_
  clear hR hv1 hv2
  rintro ⟨k, σ, out, vt, vo⟩ ⟨i1, i2, i3, i4, i6, i5⟩
  dsimp only at i1 i2 i3 i4 i5 i6 ⊢
  by_cases c : k < word.length
  · obtain ⟨b, off, rfl, hrd⟩ := hw3 (by omega)
    have hat := fun L => at_rdm (L := L) hrd c
    rw [List.drop_eq_getElem_cons c, bRun] at i2
    have hwk := hw _ (List.getElem_mem c)
    clear hrd hw3
    generalize word[k] = t at *
    obtain ⟨tn, rfl⟩ : ∃ tn : Nat, t = tn := ⟨t.toNat, by omega⟩
    rw [Int.toNat_natCast] at i2
    have hpk := fun w' hg' hs' => hp vt σ k tn w' hg' hs' i3 i4 i6 (by omega) (by omega)
    have hok := fun h0 => runB_ok (a := k) hT (show tn ≤ T by omega) 2001 (o := []) i4 i3 i6 h0
    generalize runB g.prods (actT A) (gotoT G) tn k 2001 σ [] = P at *
    obtain ⟨e, σ', l⟩ := P
    dsimp only at i2 hok
    by_cases c1 : e = 0
    · subst c1
      obtain ⟨o1, o2, o3, o4⟩ := hok rfl
      simp only [List.length_nil] at o4
      rw [if_neg (by simp)] at i2
      rw [pushBS_ok] at hpk
      clear hok
      repeat(first|refine QV QP ?_|refine QZ ?_|refine qcT rfl ?_|refine qcF rfl ?_|refine E_blockX ?_|refine E_blockO rfl ?_|refine QV (rr_idx1 Und.eq TyC.ty rfl rfl c) ?_|refine QV (rr_load1 TyC.ty rfl (hat _)) ?_|refine QV (rr_loadB (i := 0) TyC.ty rfl rfl rfl) ?_|refine QV (rr_loadB (i := 1) TyC.ty rfl rfl rfl) ?_|refine QV (rr_loadB (i := 2) TyC.ty rfl rfl rfl) ?_|refine QV QL ?_|refine QV QlT ?_|refine QV QlF ?_|refine QV QnT ?_|refine QV QnF ?_|refine QV QaA ?_)
      refine TL_call (he4 EntersC.en rfl rfl rfl rfl rfl) (fun w' hm => hpk w' hm.below (Sl.of_own (hm.get (i := 3) rfl))) rfl rfl rfl ?_
      rintro ⟨vt', vl⟩ _
      conv=>arg 8;simp only[zA,zB,zC,zD,zE,zF,zG,zH,zI,rowS,ret,id_eq]
      repeat(first|refine QV QP ?_|refine QZ ?_|refine qcT rfl ?_|refine qcF rfl ?_|refine E_blockX ?_|refine E_blockO rfl ?_|refine QV QL ?_|refine QV QlT ?_|refine QV QlF ?_|refine QV QnT ?_|refine QV QnF ?_|refine QV QaA ?_)
      refine TL_slv (i := 5) rfl fun hv1 hv2 => ?_
      refine TL_storeB (i := 2) (cs' := #[vt', .int .i64 ((k : Int) + 1), .int .i64 0, .bool false]) rfl rfl rfl rfl (sk_one hv2) rfl ?_
      conv=>arg 8;simp only[zA,zB,zC,zD,zE,zF,zG,zH,zI,rowS,ret,id_eq]
      repeat(first|refine QV QP ?_|refine QZ ?_|refine qcT rfl ?_|refine qcF rfl ?_|refine E_blockX ?_|refine E_blockO rfl ?_|refine QV QL ?_|refine QV QlT ?_|refine QV QlF ?_|refine QV QnT ?_|refine QV QnF ?_|refine QV QaA ?_)
      refine TL_appSl (i := 4) (k := l.length) (ys := l.flatMap symC) rfl (sl_row (i := 6) rfl) rfl rfl (ev_len l) (one_sym l) (by omega) (by omega) rfl fun vo' => ?_
      conv=>arg 8;simp only[zA,zB,zC,zD,zE,zF,zG,zH,zI,rowS,ret,id_eq]
      repeat(first|refine QV QP ?_|refine QZ ?_|refine qcT rfl ?_|refine qcF rfl ?_|refine E_blockX ?_|refine E_blockO rfl ?_|refine QV QL ?_|refine QV QlT ?_|refine QV QlF ?_|refine QV QnT ?_|refine QV QnF ?_|refine QV QaA ?_)
      refine E_pick [0, 1, 2, 5, 4] (by decide) rfl ?_
      exact E_round (k + 1, σ', out ++ l, vt', vo') ⟨by omega, i2, o2, o1, o3, (by show (out ++ l).length ≤ (k + 1) * 2001; rw [List.length_append]; omega)⟩ (by show word.length - (k + 1) < word.length - k; omega) (by repeat' (first | exact True.intro | refine And.intro rfl ?_)) (by rw [evO_app]; push_cast; rfl)
    · rw [if_pos c1] at i2
      subst i2
      rw [pushBS_no c1] at hpk
      clear hok
      repeat(first|refine QV QP ?_|refine QZ ?_|refine qcT rfl ?_|refine qcF rfl ?_|refine E_blockX ?_|refine E_blockO rfl ?_|refine QV (rr_idx1 Und.eq TyC.ty rfl rfl c) ?_|refine QV (rr_load1 TyC.ty rfl (hat _)) ?_|refine QV (rr_loadB (i := 0) TyC.ty rfl rfl rfl) ?_|refine QV (rr_loadB (i := 1) TyC.ty rfl rfl rfl) ?_|refine QV (rr_loadB (i := 2) TyC.ty rfl rfl rfl) ?_|refine QV QL ?_|refine QV QlT ?_|refine QV QlF ?_|refine QV QnT ?_|refine QV QnF ?_|refine QV QaA ?_)
      refine TL_call (he4 EntersC.en rfl rfl rfl rfl rfl) (fun w' hm => hpk w' hm.below (Sl.of_own (hm.get (i := 3) rfl))) rfl rfl rfl ?_
      intro _ _
      conv=>arg 8;simp only[zA,zB,zC,zD,zE,zF,zG,zH,zI,rowS,ret,id_eq]
      repeat(first|refine QV QP ?_|refine QZ ?_|refine qcT rfl ?_|refine qcF rfl ?_|refine E_blockX ?_|refine E_blockO rfl ?_|refine QV QL ?_|refine QV QlT ?_|refine QV QlF ?_|refine QV QnT ?_|refine QV QnF ?_|refine QV QaA ?_)
      refine TL_storeB (i := 2) (cs' := #[.slice none 0 0, .int .i64 (k : Int), .int .i64 e, .bool false]) rfl rfl rfl rfl rfl rfl ?_
      conv=>arg 8;simp only[zA,zB,zC,zD,zE,zF,zG,zH,zI,rowS,ret,id_eq]
      repeat(first|refine QV QP ?_|refine QZ ?_|refine qcT rfl ?_|refine qcF rfl ?_|refine E_blockX ?_|refine E_blockO rfl ?_|refine QV (rr_neq (b := true) rfl rfl (decide_eq_true c1)) ?_|refine QV QL ?_|refine QV QlT ?_|refine QV QlF ?_|refine QV QnT ?_|refine QV QnF ?_|refine QV QaA ?_)
      exact E_ret3 rfl rfl rfl rfl fun w hm => hm.meets (S := climbedS (out, k, e)) vo trivial [4] (by decide) rfl
  · rw [List.drop_of_length_le (by omega), bRun] at i2
    obtain rfl : k = word.length := by omega
    have hek := fun w' hg' hs' => he vt σ word.length w' hg' hs' i3 i4 i6 (by omega)
    have hok := fun h0 => (runB_ok (a := word.length) hT (Nat.le_refl T) 2001 (o := []) i4 i3 i6 h0).2.2.2
    have hno := runB_nil (l := g.prods) (act := actT A) (gt := gotoT G) (col := T) (a := word.length) 2001 σ []
    generalize runB g.prods (actT A) (gotoT G) T word.length 2001 σ [] = P at *
    obtain ⟨e, σ', l⟩ := P
    dsimp only at i2 hok hno
    by_cases c1 : e = 0
    · subst c1
      have hll := hok rfl
      simp only [List.length_nil] at hll
      subst i2
      rw [endBS_ok] at hek
      clear hok hno
      repeat(first|refine QV QP ?_|refine QZ ?_|refine qcT rfl ?_|refine qcF rfl ?_|refine E_blockX ?_|refine E_blockO rfl ?_|refine QV (rr_loadB (i := 0) TyC.ty rfl rfl rfl) ?_|refine QV (rr_loadB (i := 1) TyC.ty rfl rfl rfl) ?_|refine QV (rr_loadB (i := 2) TyC.ty rfl rfl rfl) ?_|refine QV QL ?_|refine QV QlT ?_|refine QV QlF ?_|refine QV QnT ?_|refine QV QnF ?_|refine QV QaA ?_)
      refine TL_call (he3 EntersC.en rfl rfl rfl rfl) (fun w' hm => hek w' hm.below (Sl.of_own (hm.get (i := 3) rfl))) rfl rfl rfl ?_
      intro vl _
      conv=>arg 8;simp only[zA,zB,zC,zD,zE,zF,zG,zH,zI,rowS,ret,id_eq]
      repeat(first|refine QV QP ?_|refine QZ ?_|refine qcT rfl ?_|refine qcF rfl ?_|refine E_blockX ?_|refine E_blockO rfl ?_|refine QV QL ?_|refine QV QlT ?_|refine QV QlF ?_|refine QV QnT ?_|refine QV QnF ?_|refine QV QaA ?_)
      refine TL_new rfl fun g13 => ?_
      refine TL_storeB (i := 6) (cs' := #[.slice none 0 0, .int .i64 (word.length : Int), .int .i64 0, .bool true]) rfl rfl rfl rfl rfl rfl ?_
      conv=>arg 8;simp only[zA,zB,zC,zD,zE,zF,zG,zH,zI,rowS,ret,id_eq]
      repeat(first|refine QV QP ?_|refine QZ ?_|refine qcT rfl ?_|refine qcF rfl ?_|refine E_blockX ?_|refine E_blockO rfl ?_|refine QV QL ?_|refine QV QlT ?_|refine QV QlF ?_|refine QV QnT ?_|refine QV QnF ?_|refine QV QaA ?_)
      refine TL_appSl (i := 4) (k := l.length) (ys := l.flatMap symC) rfl (sl_row (i := 5) rfl) rfl rfl (ev_len l) (one_sym l) (by omega) (by omega) rfl fun vo' => ?_
      conv=>arg 8;simp only[zA,zB,zC,zD,zE,zF,zG,zH,zI,rowS,ret,id_eq]
      repeat(first|refine QV QP ?_|refine QZ ?_|refine qcT rfl ?_|refine qcF rfl ?_|refine E_blockX ?_|refine E_blockO rfl ?_|refine QV QL ?_|refine QV QlT ?_|refine QV QlF ?_|refine QV QnT ?_|refine QV QnF ?_|refine QV QaA ?_)
      exact E_ret3 rfl rfl rfl rfl fun w hm => hm.meets (S := climbedS (out ++ l, word.length, 0)) vo' trivial [4] (by decide) (by show [evO vo' (out ++ l)] = _; rw [← evO_app]; rfl)
    · have hl0 : l = [] := (Prod.ext_iff.1 (hno c1)).2
      subst hl0
      rw [List.append_nil] at i2
      subst i2
      rw [endBS_no c1] at hek
      clear hok hno
      repeat(first|refine QV QP ?_|refine QZ ?_|refine qcT rfl ?_|refine qcF rfl ?_|refine E_blockX ?_|refine E_blockO rfl ?_|refine QV (rr_loadB (i := 0) TyC.ty rfl rfl rfl) ?_|refine QV (rr_loadB (i := 1) TyC.ty rfl rfl rfl) ?_|refine QV (rr_loadB (i := 2) TyC.ty rfl rfl rfl) ?_|refine QV QL ?_|refine QV QlT ?_|refine QV QlF ?_|refine QV QnT ?_|refine QV QnF ?_|refine QV QaA ?_)
      refine TL_call (he3 EntersC.en rfl rfl rfl rfl) (fun w' hm => hek w' hm.below (Sl.of_own (hm.get (i := 3) rfl))) rfl rfl rfl ?_
      intro _ _
      conv=>arg 8;simp only[zA,zB,zC,zD,zE,zF,zG,zH,zI,rowS,ret,id_eq]
      repeat(first|refine QV QP ?_|refine QZ ?_|refine qcT rfl ?_|refine qcF rfl ?_|refine E_blockX ?_|refine E_blockO rfl ?_|refine QV QL ?_|refine QV QlT ?_|refine QV QlF ?_|refine QV QnT ?_|refine QV QnF ?_|refine QV QaA ?_)
      refine TL_new rfl fun g13 => ?_
      refine TL_storeB (i := 5) (cs' := #[.slice none 0 0, .int .i64 (word.length : Int), .int .i64 e, .bool false]) rfl rfl rfl rfl rfl rfl ?_
      conv=>arg 8;simp only[zA,zB,zC,zD,zE,zF,zG,zH,zI,rowS,ret,id_eq]
      repeat(first|refine QV QP ?_|refine QZ ?_|refine qcT rfl ?_|refine qcF rfl ?_|refine E_blockX ?_|refine E_blockO rfl ?_|refine QV QL ?_|refine QV QlT ?_|refine QV QlF ?_|refine QV QnT ?_|refine QV QnF ?_|refine QV QaA ?_)
      refine TL_append0 ElC.el (i := 4) rfl rfl rfl rfl ?_
      conv=>arg 8;simp only[zA,zB,zC,zD,zE,zF,zG,zH,zI,rowS,ret,id_eq]
      repeat(first|refine QV QP ?_|refine QZ ?_|refine qcT rfl ?_|refine qcF rfl ?_|refine E_blockX ?_|refine E_blockO rfl ?_|refine QV QL ?_|refine QV QlT ?_|refine QV QlF ?_|refine QV QnT ?_|refine QV QnF ?_|refine QV QaA ?_)
      exact E_ret3 rfl rfl rfl rfl fun w hm => hm.meets (S := climbedS (out, word.length, e)) vo trivial [4] (by decide) rfl
end Go.Proofs.Ytlojfbnimmdehaa.eng

/- BuP -/
namespace Go.Proofs.Ytlojfbnimmdehaa.eng
open gramL treeL countL factsL itemL smallL derL
open climbL (right_der der_right yieldX_top top_prod)
open llL (colAt)
section
variable {g : Gram} {T N : Nat} {Nx : List (List Int)} {S : List (List itemL.Item)}
/-- what is told -/
abbrev bR (g : Gram) (T : Nat) (Nx : List (List Int)) (S : List (List itemL.Item)) (W : List Int) : List Sym × Nat × Int := bRun g.prods (actT (actTab g.prods T Nx S S.length)) (gotoT (gotoTab T Nx S.length)) T W [0] 0 []
theorem MadeT.top (h : MadeT g T N Nx S) : ∀ q, q < S.length → ∀ it ∈ S.getD q [], it.1 = (g.prods.length : Int) → it.2.2 = (T : Int) := all_top h.wide h.few h.t30 h.all
theorem MadeT.pos (h : MadeT g T N Nx S) : 0 < S.length := (List.getElem?_eq_some_iff.1 h.law.start).1
theorem MadeT.bods (h : MadeT g T N Nx S) : ∀ p x, x ∈ bodyI g.prods p → x.1 = 1 ∨ (x.1 = 2 ∧ 0 ≤ x.2 ∧ x.2 < (N : Int)) := fun p x hx => by
  rcases right_cases (body_right h.gram x hx) with ⟨h1, _⟩ | ⟨h1, h2, h3⟩
  · exact .inl h1
  · exact .inr ⟨h1, h2, by rw [h.nons] at h3; exact h3⟩
theorem bR_le {W : List Int} : (bR g T Nx S W).2.1 ≤ W.length := by
  have := bRun_le (l := g.prods) (act := actT (actTab g.prods T Nx S S.length)) (gt := gotoT (gotoTab T Nx S.length)) (T := T) W [0] 0 []
  rwa [Nat.zero_add] at this
/-- what was had goes on to a word -/
theorem bR_begins (h : MadeT g T N Nx S) (hM : ∀ i : Nat, i < N → ∃ ws, Der g.prods (2, (i : Int)) ws) {W : List Int} (hW : ∀ x ∈ W, 0 ≤ x ∧ x < (T : Int)) : ∃ v, Der g.prods (2, 0) (W.take (bR g T Nx S W).2.1 ++ v) := by
  obtain ⟨σ', ts', h1, h2⟩ := run_far h.tabB h.law h.wide h.few h.t30 h.heads h.top W (out := []) hW .start
  obtain ⟨v, hv⟩ := stk_begins h.law h.wide h.few h.t30 hM h.bods h1
  rw [h2, Nat.sub_zero] at hv
  exact ⟨v, hv⟩
/-- what was refused goes on to none -/
theorem bR_not (h : MadeT g T N Nx S) (hc : calmB g = true) {W : List Int} (h14 : (bR g T Nx S W).2.2 ≠ 14) (hl : (bR g T Nx S W).2.1 < W.length) : ∀ v, ¬ Der g.prods (2, 0) (W.take ((bR g T Nx S W).2.1 + 1) ++ v) := fun v hd => by
  obtain ⟨t, h1, h2⟩ := der_right hd 0
  rw [yieldX_top h1] at h2
  have hW : ∀ x ∈ W.take ((bR g T Nx S W).2.1 + 1) ++ v, 0 ≤ x ∧ x < (T : Int) := by
    rw [← h2, ← h.terms]
    exact yield_in h.gram h1 (top_prod h1)
  obtain ⟨s, ρ, k1, k2⟩ := tree_runs (h.lrH hc hW) h1 h2
  have hlen : (W.take ((bR g T Nx S W).2.1 + 1)).length = (bR g T Nx S W).2.1 + 1 := by rw [List.length_take]; omega
  have := (run_det h.tabB h.law h.heads hW k1 (by intro q hq; rw [List.mem_singleton.1 hq]; exact h.pos) rfl (fun q ρ e => by obtain ⟨rfl, rfl⟩ := List.cons.inj e; exact k2) (by simp) 2001 [] ((bR g T Nx S W).2.1 + 1) W [] (Nat.zero_le _) (by omega) (by rw [List.drop_zero, List.length_append]; omega) (by rw [List.drop_zero, List.take_append_of_le_length (by omega), List.take_take, Nat.min_self])).2
  rw [← run_cont] at this
  rcases this with h | h
  · exact h14 h
  · unfold bR at h; omega
/-! ### as the walks want it -/
theorem checkC_take {W : List Int} {n : Nat} (hc : checkC g W = 0) : checkC g (W.take n) = 0 := by
  have h := checkC_W hc
  obtain ⟨hg, h3, _⟩ := checkC_ok hc
  exact checkC_mk hg (by rw [List.length_take]; omega) (checkW_take _ h)
theorem bR_soon (h : MadeT g T N Nx S) (hc : calmB g = true) {W : List Int} (hck : checkC g W = 0) (hM : ∀ i : Nat, i < N → ∃ ws, Der g.prods (2, (i : Int)) ws) (h14 : (bR g T Nx S W).2.2 ≠ 14) : beginsB g (W.take (bR g T Nx S W).2.1) = true ∧ ((bR g T Nx S W).2.1 ≠ W.length → beginsB g (W.take ((bR g T Nx S W).2.1 + 1)) = false) := by
  have hW : ∀ x ∈ W, 0 ≤ x ∧ x < (T : Int) := by rw [← h.terms]; exact (checkC_ok hck).2.2
  have hle := bR_le (g := g) (T := T) (Nx := Nx) (S := S) (W := W)
  refine ⟨begins_iff.2 ⟨checkC_take hck, bR_begins h hM hW⟩, fun hne => ?_⟩
  cases hb : beginsB g (W.take ((bR g T Nx S W).2.1 + 1)) with
  | false => rfl
  | true =>
    obtain ⟨_, v, hd⟩ := begins_iff.1 hb
    exact absurd hd (bR_not h hc h14 (by omega) v)
end
/-! ### who climbs down, without a bound of the word's length -/
section
open climbL (nxC run_far)
variable {g : Gram} {T N : Nat}
abbrev cR (g : Gram) (T N : Nat) (W : List Int) : List Sym × Nat × Int := climbL.runF g.prods (nxC g T N) T W [.sym (2, 0)] 0 []
end
end Go.Proofs.Ytlojfbnimmdehaa.eng

/- EvT -/
namespace Go.Proofs.Ytlojfbnimmdehaa.eng
open Go.RowKit kit mix gramL treeL
instance : TyC Try.prog 194 false 1 := ⟨Ty.of (by kernel_rfl)⟩
instance : ZeroC Try.prog 194 #[.nilFunc] := ⟨by kernel_rfl⟩
end Go.Proofs.Ytlojfbnimmdehaa.eng

/- CountE -/
namespace Go.Proofs.Ytlojfbnimmdehaa.eng
open Go.RowKit kit mix gramL countL
attribute [local irreducible] Instr.build in
set_option maxHeartbeats 2000000 in
theorem trees_calls (v vw : Value) (g : Gram) (word : List Int) (w : World) (h : GraR (fun k => k < w.heap.size) w v g) (hs : Sl w vw word.length (word.map (.int .i64))) :
    Calls Try.prog 12 #[v, vw] w (Meets (ret (.tuple #[.int .i64 (treesN g word : Int), .int .i64 (checkC g word)])) w) := by
  have hck := fun w' (hg : Gr w w') => checkC_calls v vw g word w' (h.gr hg) (hs.gr hg)
  by_cases c0 : checkC g word = 0
  · have h0 := h
    obtain ⟨vp, rfl, h1, _⟩ := h
    have hfi := fun w' (hg : Gr w w') => filled_calls vp vw g word w' (h0.gr hg) (hs.gr hg) c0
    have hN := fun (c : Chart) hc => treesN_eq (c := c) c0 hc
    obtain ⟨hg, hl, hw⟩ := checkC_ok c0
    rw [c0] at hck ⊢
    obtain ⟨bw, cw, rfl, _⟩ := hs
    obtain ⟨t, n, prods⟩ := g
    dsimp only at *
    refine enter (args := [graV t n vp, .slice bw word.length cw]) (n := 23) Try.func12 rfl rfl rfl ?_
    refine T_seq (T_region (TL_box rfl rfl rfl fun g2 => ?_))
    repeat(first|refine QV QP ?_|refine QZ ?_|refine qcT rfl ?_|refine qcF rfl ?_|refine QV (rr_loadB (i := 0) TyC.ty rfl rfl rfl) ?_|refine QV QL ?_|refine QV QA ?_|refine QV (rr_nilc rfl) ?_|refine QV QnT ?_|refine QV QnF ?_)
    refine TL_call (he2 EntersC.en rfl rfl rfl) (fun w hm => hck _ hm.below) rfl rfl rfl ?_
    intro _ _
    conv=>arg 8;simp only[zA,zB,zC,zD,zE,zF,zG,zH,zI,rowS,ret,id_eq]
    repeat(first|refine QV QP ?_|refine QZ ?_|refine qcT rfl ?_|refine qcF rfl ?_|refine QV (rr_loadB (i := 0) TyC.ty rfl rfl rfl) ?_|refine QV QL ?_|refine QV QA ?_|refine QV (rr_nilc rfl) ?_|refine QV QnT ?_|refine QV QnF ?_)
    refine TL_call (he2 EntersC.en rfl rfl rfl) (fun w' hm => hfi w' hm.below) rfl rfl rfl ?_
    rintro ⟨gc, gm, c, Bd⟩ ⟨hx, _⟩
    have hN := hN c hx
    conv=>arg 8;simp only[zA,zB,zC,zD,zE,zF,zG,zH,zI,rowS,ret,id_eq, filledS]
    repeat(first|refine QV QP ?_|refine QZ ?_|refine qcT rfl ?_|refine qcF rfl ?_|refine QV (rr_load1 TyC.ty rfl (at_blk (i := 1) rfl rfl)) ?_|refine QV (rr_build rfl (build_span _ _ _)) ?_|refine QV (rr_lookT (x := (0, 0, (word.length : Int))) (i := 2) spanK Und.eq zero_int rfl rfl rfl (span_ok (m := 0) (a := 0) ⟨by decide, by decide⟩ (by omega) (by omega)) (by rw [hN])) ?_|refine QV QL ?_|refine QV QA ?_|refine QV (rr_nilc rfl) ?_|refine QV QnT ?_|refine QV QnF ?_)
    exact E_ret2 rfl rfl rfl fun w hm => hm.ret
  · have hN : treesN g word = 0 := by unfold treesN; rw [if_neg c0]
    rw [hN]
    obtain ⟨vp, rfl, h1, _⟩ := h
    obtain ⟨bw, cw, rfl, _⟩ := hs
    generalize checkC g word = e at *
    obtain ⟨t, n, prods⟩ := g
    dsimp only at *
    refine enter (args := [graV t n vp, .slice bw word.length cw]) (n := 23) Try.func12 rfl rfl rfl ?_
    refine T_seq (T_region (TL_box rfl rfl rfl fun g2 => ?_))
    repeat(first|refine QV QP ?_|refine QZ ?_|refine qcT rfl ?_|refine qcF rfl ?_|refine QV (rr_loadB (i := 0) TyC.ty rfl rfl rfl) ?_|refine QV QL ?_|refine QV QA ?_|refine QV (rr_nilc rfl) ?_|refine QV QnT ?_|refine QV QnF ?_)
    refine TL_call (he2 EntersC.en rfl rfl rfl) (fun w hm => hck _ hm.below) rfl rfl rfl ?_
    intro _ _
    repeat(first|refine QV QP ?_|refine QZ ?_|refine qcT rfl ?_|refine qcF rfl ?_|refine QV QL ?_|refine QV QA ?_|refine QV (rr_nilc rfl) ?_|refine QV QnT ?_|refine QV QnF ?_)
    exact E_ret2 rfl rfl rfl fun w hm => hm.ret
end Go.Proofs.Ytlojfbnimmdehaa.eng

/- CountP -/
namespace Go.Proofs.Ytlojfbnimmdehaa.eng
open Go.RowKit kit mix gramL treeL countL factsL derL
theorem allF_step {M : List Bool} {b : List Sym} {t : Bool} {k : Nat} (h : k < b.length) : allF M (b.drop k) t = ((if b[k].1 = 1 then t else if b[k].1 = 2 then M.getD b[k].2.toNat false else true) && allF M (b.drop (k + 1)) t) := by
  rw [List.drop_eq_getElem_cons h]; unfold allF; rw [List.all_cons]
set_option maxHeartbeats 2000000 in
theorem made_calls (g6 n gM cM : Nat) (vE vF vW vR vb : Value) (M : List Bool) (body : List Sym) (w : World) (hg : w.heap[g6]? = some (.cells (facV vE vF vW vR (vRow n gM cM)).cells 41 (0, 0))) (hM : Sl w (vRow n gM cM) M.length (M.map .bool)) (hn : n = M.length) (hs : Sl w vb body.length (body.flatMap symC)) (hx : ∀ x ∈ body, x.1 = 1 ∨ (x.1 = 2 ∧ 0 ≤ x.2 ∧ x.2 < (n : Int)))
    (h5 : ∃ b1 n1 c1 b2 n2 c2 b3 n3 c3 b4 n4 c4, vE = .slice b1 n1 c1 ∧ vF = .slice b2 n2 c2 ∧ vW = .slice b3 n3 c3 ∧ vR = .slice b4 n4 c4) :
    Calls Try.prog 118 #[vb, .pointer (some ⟨g6, 0, none⟩)] w (Meets (ret (.bool (allF M body true))) w) := by
  subst hn
  obtain ⟨b1, n1, c1, b2, n2, c2, b3, n3, c3, b4, n4, c4, rfl, rfl, rfl, rfl⟩ := h5
  have h4 : ∀ (L : List Own), At w L ⟨g6, 4, none⟩ (vRow M.length gM cM) := fun L => at_old (by rw [cell_of_row w g6 4 _ _ _ hg]; rfl)
  obtain ⟨bb, cb, rfl, hb1, hb2, hb3⟩ := hs
  obtain ⟨bM, cM', he, hM1, hM2, hM3⟩ := hM
  unfold vRow at he
  simp only [Value.slice.injEq, true_and] at he
  obtain ⟨rfl, rfl⟩ := he
  unfold maxLen at hb2 hM2
  refine enter (args := [.slice bb body.length cb, .pointer (some ⟨g6, 0, none⟩)]) (n := 25) Try.func118 rfl rfl rfl ?_
  repeat(first|refine QV QP ?_|refine QZ ?_|refine qcT rfl ?_|refine qcF rfl ?_|refine E_blockX ?_|refine E_blockO rfl ?_|refine qs rfl rfl rfl rfl rfl rfl ?_|((try refine qg rfl rfl rfl ?_);first|refine QV QP ?_|refine QV QL ?_|refine QV QA ?_|refine QV QlT ?_|refine QV QlF ?_|refine QV QeT ?_|refine QV QeF ?_|refine QV QaA ?_|refine QV (rr_not rfl rfl) ?_))
  refine T_loop (ι := Nat) (fun j => j ≤ body.length ∧ allF M body true = allF M (body.drop j) true) (fun j => [(1, .pointer (some ⟨g6, 0, none⟩)), (6, .slice bb body.length cb), (7, .int .i64 body.length), (8, .int .i64 (j : Int))]) (fun _ => []) (fun j => body.length - j) 0 ⟨Nat.zero_le _, rfl⟩ (by repeat' (first | exact True.intro | refine And.intro rfl ?_)) rfl ?_
  rintro j ⟨j1, j2⟩
  by_cases c7 : j < body.length
  · obtain ⟨b, off, rfl, hr⟩ := hb3 (by omega)
    have hat := fun L => at_elL (W := w) (L := L) SymS_len (fun q x hq => at_old (hr q x hq)) c7
    rw [allF_step c7] at j2
    have hxj := hx body[j] (List.getElem_mem c7)
    clear hr hx
    generalize body[j] = x at *
    obtain ⟨xq, xm⟩ := x
    dsimp only at hxj j2
    by_cases c1 : xq = 2
    · obtain ⟨c2, c3⟩ := (hxj.resolve_left (by omega)).2
      obtain ⟨m, rfl⟩ : ∃ m : Nat, xm = m := ⟨xm.toNat, by omega⟩
      have hm : m < M.length := by omega
      obtain ⟨b', off', he2, hr2⟩ := hM3 (by omega)
      simp only [Option.some.injEq, Addr.mk.injEq, and_true] at he2
      obtain ⟨rfl, rfl⟩ := he2
      have hbit : At w [] ⟨gM, 0 + m, none⟩ (.bool M[m]) := at_rd hr2 (by simp [hm])
      rw [if_neg (by omega), if_pos c1, Int.toNat_natCast, List.getD_eq_getElem?_getD, List.getElem?_eq_getElem hm] at j2
      dsimp only [Option.getD] at j2
      have hbit2 : ∀ L, At w L ⟨gM, 0 + m, none⟩ (.bool M[m]) := fun L => at_rd hr2 (by simp [hm])
      generalize M[m] = bit at *
      clear hr2 hM3
      cases bit
      · rw [Bool.false_and] at j2
        rw [j2]
        repeat(first|refine QV QP ?_|refine QZ ?_|refine qcT rfl ?_|refine qcF rfl ?_|refine E_blockX ?_|refine E_blockO rfl ?_|refine qs rfl rfl rfl rfl rfl rfl ?_|((try refine qg rfl rfl rfl ?_);first|refine QV QP ?_|refine QV (rr_idxc Und.eq TyC.ty rfl rfl c7) ?_|refine QV (rr_loadN TyC.ty rfl rfl (hat _)) ?_|refine QV QL ?_|refine QV QA ?_|refine QV QlT ?_|refine QV QlF ?_|refine QV QeT ?_|refine QV QeF ?_|refine QV QaA ?_|refine QV (rr_not rfl rfl) ?_))
        refine TL_new rfl fun g5 => ?_
        refine TL_storeB (i := 0) rfl rfl rfl rfl rfl rfl ?_
        conv=>arg 8;simp only[zA,zB,zC,zD,zE,zF,zG,zH,zI,rowS,ret,id_eq]
        repeat(first|refine QV QP ?_|refine QZ ?_|refine qcT rfl ?_|refine qcF rfl ?_|refine E_blockX ?_|refine E_blockO rfl ?_|refine qs rfl rfl rfl rfl rfl rfl ?_|((try refine qg rfl rfl rfl ?_);first|refine QV QP ?_|refine QV (rr_load1 TyC.ty rfl (at_blk (i := 0) rfl rfl)) ?_|refine QV (rr_load1 TyC.ty rfl (h4 _)) ?_|refine QV (rr_idx1 Und.eq TyC.ty rfl rfl hm) ?_|refine QV (rr_load1 TyC.ty rfl (hbit2 _)) ?_|refine QV QL ?_|refine QV QA ?_|refine QV QlT ?_|refine QV QlF ?_|refine QV QeT ?_|refine QV QeF ?_|refine QV QaA ?_|refine QV (rr_not rfl rfl) ?_))
        exact E_ret1 rfl rfl fun w hm => hm.ret
      · rw [Bool.true_and] at j2
        repeat(first|refine QV QP ?_|refine QZ ?_|refine qcT rfl ?_|refine qcF rfl ?_|refine E_blockX ?_|refine E_blockO rfl ?_|refine qs rfl rfl rfl rfl rfl rfl ?_|((try refine qg rfl rfl rfl ?_);first|refine QV QP ?_|refine QV (rr_idxc Und.eq TyC.ty rfl rfl c7) ?_|refine QV (rr_loadN TyC.ty rfl rfl (hat _)) ?_|refine QV QL ?_|refine QV QA ?_|refine QV QlT ?_|refine QV QlF ?_|refine QV QeT ?_|refine QV QeF ?_|refine QV QaA ?_|refine QV (rr_not rfl rfl) ?_))
        refine TL_new rfl fun g5 => ?_
        refine TL_storeB (i := 0) rfl rfl rfl rfl rfl rfl ?_
        conv=>arg 8;simp only[zA,zB,zC,zD,zE,zF,zG,zH,zI,rowS,ret,id_eq]
        repeat(first|refine QV QP ?_|refine QZ ?_|refine qcT rfl ?_|refine qcF rfl ?_|refine E_blockX ?_|refine E_blockO rfl ?_|refine qs rfl rfl rfl rfl rfl rfl ?_|((try refine qg rfl rfl rfl ?_);first|refine QV QP ?_|refine QV (rr_load1 TyC.ty rfl (at_blk (i := 0) rfl rfl)) ?_|refine QV (rr_load1 TyC.ty rfl (h4 _)) ?_|refine QV (rr_idx1 Und.eq TyC.ty rfl rfl hm) ?_|refine QV (rr_load1 TyC.ty rfl (hbit2 _)) ?_|refine QV QL ?_|refine QV QA ?_|refine QV QlT ?_|refine QV QlF ?_|refine QV QeT ?_|refine QV QeF ?_|refine QV QaA ?_|refine QV (rr_not rfl rfl) ?_))
        refine E_pick [] (by decide) rfl ?_
        exact E_round (j + 1) ⟨by omega, j2⟩ (by omega) (by repeat' (first | exact True.intro | refine And.intro rfl ?_)) rfl
    · have c2 : xq = 1 := by omega
      rw [if_pos c2, Bool.true_and] at j2
      repeat(first|refine QV QP ?_|refine QZ ?_|refine qcT rfl ?_|refine qcF rfl ?_|refine E_blockX ?_|refine E_blockO rfl ?_|refine qs rfl rfl rfl rfl rfl rfl ?_|((try refine qg rfl rfl rfl ?_);first|refine QV QP ?_|refine QV (rr_idxc Und.eq TyC.ty rfl rfl c7) ?_|refine QV (rr_loadN TyC.ty rfl rfl (hat _)) ?_|refine QV QL ?_|refine QV QA ?_|refine QV QlT ?_|refine QV QlF ?_|refine QV QeT ?_|refine QV QeF ?_|refine QV QaA ?_|refine QV (rr_not rfl rfl) ?_))
      refine TL_new rfl fun g5 => ?_
      refine TL_storeB (i := 0) rfl rfl rfl rfl rfl rfl ?_
      conv=>arg 8;simp only[zA,zB,zC,zD,zE,zF,zG,zH,zI,rowS,ret,id_eq]
      repeat(first|refine QV QP ?_|refine QZ ?_|refine qcT rfl ?_|refine qcF rfl ?_|refine E_blockX ?_|refine E_blockO rfl ?_|refine qs rfl rfl rfl rfl rfl rfl ?_|((try refine qg rfl rfl rfl ?_);first|refine QV QP ?_|refine QV (rr_load1 TyC.ty rfl (at_blk (i := 0) rfl rfl)) ?_|refine QV QL ?_|refine QV QA ?_|refine QV QlT ?_|refine QV QlF ?_|refine QV QeT ?_|refine QV QeF ?_|refine QV QaA ?_|refine QV (rr_not rfl rfl) ?_))
      refine E_pick [] (by decide) rfl ?_
      exact E_round (j + 1) ⟨by omega, j2⟩ (by omega) (by repeat' (first | exact True.intro | refine And.intro rfl ?_)) rfl
  · rw [List.drop_of_length_le (by omega)] at j2
    rw [j2]
    repeat(first|refine QV QP ?_|refine QZ ?_|refine qcT rfl ?_|refine qcF rfl ?_|refine E_blockX ?_|refine E_blockO rfl ?_|refine qs rfl rfl rfl rfl rfl rfl ?_|((try refine qg rfl rfl rfl ?_);first|refine QV QP ?_|refine QV QL ?_|refine QV QA ?_|refine QV QlT ?_|refine QV QlF ?_|refine QV QeT ?_|refine QV QeF ?_|refine QV QaA ?_|refine QV (rr_not rfl rfl) ?_))
    exact E_ret1 rfl rfl fun w hm => hm.ret
set_option maxHeartbeats 8000000 in
theorem opens_calls (gc gm gO n gM cM : Nat) (t : Int) (vp vw vE vF vW vR vb : Value) (word : List Int) (c : Chart) (Bd : Nat) (O : Nat → Nat → Bool) (M : List Bool) (body : List Sym) (frm : Nat) (w : World) (h : ChR w gc gm t (n : Int) vp vw word c Bd) (hO : BitsR w gO n (word.length + 1) O) (hM : Sl w (vRow n gM cM) M.length (M.map .bool)) (hn : n = M.length) (hs : Sl w vb body.length (body.flatMap symC)) (hx : ∀ x ∈ body, x.1 = 1 ∨ (x.1 = 2 ∧ 0 ≤ x.2 ∧ x.2 < (n : Int))) (hok : ∀ x ∈ body, kit.okI64 x.2) (hf : frm ≤ word.length) (hw : word.length ≤ 20)
    (h5 : ∃ b1 n1 c1 b2 n2 c2 b3 n3 c3 b4 n4 c4, vE = .slice b1 n1 c1 ∧ vF = .slice b2 n2 c2 ∧ vW = .slice b3 n3 c3 ∧ vR = .slice b4 n4 c4) :
    Calls Try.prog 91 #[.pointer (some ⟨gc, 0, none⟩), facV vE vF vW vR (vRow n gM cM), rowsV n gO, vb, .int .i64 (frm : Int)] w (Meets (ret (.bool (opensF (oneF c word) O M word.length frm body))) w) := by
  have hmd := fun g6 w' (hg : Gr w w') hh => made_calls g6 n gM cM vE vF vW vR vb M body w' hh (hM.gr hg) hn (hs.gr hg) hx h5
  have hone := fun x a' b' w' (hg : Gr w w') => one_calls gc gm t (n : Int) vp vw word c Bd x a' b' w' (h.gr hg)
  obtain ⟨b1, n1, c1, b2, n2, c2, b3, n3, c3, b4, n4, c4, rfl, rfl, rfl, rfl⟩ := h5
  have h3 : ∀ (L : List Own), At w L ⟨gc, 3, none⟩ vw := fun L => at_old (by rw [cell_of_row w gc 3 _ _ _ h.cell]; rfl)
  obtain ⟨gs, hgs⟩ := hO.ex
  obtain ⟨bw, cw, rfl, _, _, _⟩ := h.word
  obtain ⟨bb, cb, rfl, hb1, hb2, hb3⟩ := hs
  unfold maxLen at hb2
  clear h hO
  unfold opensF
  generalize oneF c word = o at *
  refine enter (args := [.pointer (some ⟨gc, 0, none⟩), facV (.slice b1 n1 c1) (.slice b2 n2 c2) (.slice b3 n3 c3) (.slice b4 n4 c4) (vRow n gM cM), rowsV n gO, .slice bb body.length cb, .int .i64 (frm : Int)]) (n := 106) Try.func91 rfl rfl rfl ?_
  refine T_seq (T_region (TL_box rfl rfl rfl fun g6 => ?_))
  repeat(first|refine QV QP ?_|refine QZ ?_|refine qcT rfl ?_|refine qcF rfl ?_|refine E_blockX ?_|refine E_blockO rfl ?_|refine qs rfl rfl rfl rfl rfl rfl ?_|((try refine qg rfl rfl rfl ?_);first|refine QV QP ?_|refine QV (rr_load1 TyC.ty rfl (h3 _)) ?_|refine QV (rr_func rfl rfl) ?_|refine QV QL ?_|refine QV QA ?_|refine QV (rr_not rfl rfl) ?_|refine QV (rr_nilc rfl) ?_|refine QV QlT ?_|refine QV QlF ?_|refine QV QmT ?_|refine QV QmF ?_|refine QV QaA ?_|refine QV QgT ?_|refine QV QgF ?_|refine QV QeT ?_|refine QV QeF ?_))
  refine TL_call (he1c EntersC.en rfl rfl) (fun w hm => hmd g6 w hm.below (hm.get (i := 0) rfl)) rfl rfl rfl ?_
  intro _ _
  clear hmd
  conv=>arg 8;simp only[zA,zB,zC,zD,zE,zF,zG,zH,zI,rowS,ret,id_eq]
  cases hall : allF M body true
  · rw [if_neg (by decide)]
    repeat(first|refine QV QP ?_|refine QZ ?_|refine qcT rfl ?_|refine qcF rfl ?_|refine E_blockX ?_|refine E_blockO rfl ?_|refine qs rfl rfl rfl rfl rfl rfl ?_|((try refine qg rfl rfl rfl ?_);first|refine QV QP ?_|refine QV QL ?_|refine QV QA ?_|refine QV (rr_not rfl rfl) ?_|refine QV (rr_nilc rfl) ?_|refine QV QlT ?_|refine QV QlF ?_|refine QV QmT ?_|refine QV QmF ?_|refine QV QaA ?_|refine QV QgT ?_|refine QV QgF ?_|refine QV QeT ?_|refine QV QeF ?_))
    exact E_ret1 rfl rfl fun w hm => hm.ret
  rw [if_pos rfl]
  repeat(first|refine QV QP ?_|refine QZ ?_|refine qcT rfl ?_|refine qcF rfl ?_|refine E_blockX ?_|refine E_blockO rfl ?_|refine qs rfl rfl rfl rfl rfl rfl ?_|((try refine qg rfl rfl rfl ?_);first|refine QV QP ?_|refine QV (rr_add64 (r := ((word.length + 1 : Nat) : Int)) rfl rfl (by omega) (by omega) (by omega)) ?_|refine QV QL ?_|refine QV QA ?_|refine QV (rr_not rfl rfl) ?_|refine QV (rr_nilc rfl) ?_|refine QV QlT ?_|refine QV QlF ?_|refine QV QmT ?_|refine QV QmF ?_|refine QV QaA ?_|refine QV QgT ?_|refine QV QgF ?_|refine QV QeT ?_|refine QV QeF ?_))
  refine TL_makeA boolV false rfl rfl (by omega) (by omega) rfl fun g13 => ?_
  conv=>arg 8;simp only[zA,zB,zC,zD,zE,zF,zG,zH,zI,rowS,ret,id_eq]
  repeat(first|refine QV QP ?_|refine QZ ?_|refine qcT rfl ?_|refine qcF rfl ?_|refine E_blockX ?_|refine E_blockO rfl ?_|refine qs rfl rfl rfl rfl rfl rfl ?_|((try refine qg rfl rfl rfl ?_);first|refine QV QP ?_|refine QV (rr_idx1 Und.eq TyC.ty rfl rfl (show frm < word.length + 1 by omega)) ?_|refine QV QL ?_|refine QV QA ?_|refine QV (rr_not rfl rfl) ?_|refine QV (rr_nilc rfl) ?_|refine QV QlT ?_|refine QV QlF ?_|refine QV QmT ?_|refine QV QmF ?_|refine QV QaA ?_|refine QV QgT ?_|refine QV QgF ?_|refine QV QeT ?_|refine QV QeF ?_))
  refine TL_storeA (i := 1) (v := true) (fun b => decide (b = frm)) TyC.ty rfl rfl rfl rfl rfl (by omega) (fun i _ => by by_cases e : i = frm <;> simp [e]) ?_
  conv=>arg 8;simp only[zA,zB,zC,zD,zE,zF,zG,zH,zI,rowS,ret,id_eq]
  repeat(first|refine QV QP ?_|refine QZ ?_|refine qcT rfl ?_|refine qcF rfl ?_|refine E_blockX ?_|refine E_blockO rfl ?_|refine qs rfl rfl rfl rfl rfl rfl ?_|((try refine qg rfl rfl rfl ?_);first|refine QV QP ?_|refine QV QL ?_|refine QV QA ?_|refine QV (rr_not rfl rfl) ?_|refine QV (rr_nilc rfl) ?_|refine QV QlT ?_|refine QV QlF ?_|refine QV QmT ?_|refine QV QmF ?_|refine QV QaA ?_|refine QV QgT ?_|refine QV QgF ?_|refine QV QeT ?_|refine QV QeF ?_))
  generalize hres : opGo o O word.length frm body (fun b => decide (b = frm)) = res
  refine T_pick [1] (by decide) rfl ?_
  refine T_loop (ι := Nat × Nat × (Nat → Bool)) (fun (j, _, A) => j ≤ body.length ∧ res = opGo o O word.length frm (body.drop j) A) (fun (j, g, _) => [(0, .pointer (some ⟨gc, 0, none⟩)), (2, rowsV n gO), (4, .int .i64 (frm : Int)), (11, .int .i64 word.length), (13, .slice (some ⟨g, 0, none⟩) (word.length + 1) (word.length + 1)), (35, .slice bb body.length cb), (36, .int .i64 body.length), (37, .int .i64 (j : Int))])
    (fun (_, g, A) => [rowA 4 boolV g (word.length + 1) A]) (fun (j, _, _) => body.length - j) (0, g13, fun b => decide (b = frm)) ⟨Nat.zero_le _, by rw [List.drop_zero]; exact hres.symm⟩ (by repeat' (first | exact True.intro | refine And.intro rfl ?_)) rfl ?_
  clear hres
  rintro ⟨j, g, A⟩ ⟨i1, i2⟩
  dsimp only at i1 i2 ⊢
  by_cases c7 : j < body.length
  · obtain ⟨b, off, rfl, hr⟩ := hb3 (by omega)
    have hat := fun L => at_elL (W := w) (L := L) SymS_len (fun q x hq => at_old (hr q x hq)) c7
    have hxj := hx body[j] (List.getElem_mem c7)
    have hokj := hok body[j] (List.getElem_mem c7)
    rw [List.drop_eq_getElem_cons c7, opGo] at i2
    clear hr hx hok hb3
    generalize body[j] = x at *
    obtain ⟨xq, xm⟩ := x
    dsimp only at hxj hokj i2
    have hone := fun a b w' hg => hone (xq, xm) a b w' hg hokj
    cases hAn : A word.length
    · rw [hAn, if_neg (by decide)] at i2
      repeat(first|refine QV QP ?_|refine QZ ?_|refine qcT rfl ?_|refine qcF rfl ?_|refine E_blockX ?_|refine E_blockO rfl ?_|refine qs rfl rfl rfl rfl rfl rfl ?_|((try refine qg rfl rfl rfl ?_);first|refine QV QP ?_|refine QV (rr_idxc Und.eq TyC.ty rfl rfl c7) ?_|refine QV (rr_loadN TyC.ty rfl rfl (hat _)) ?_|refine QV QL ?_|refine QV QA ?_|refine QV (rr_not rfl rfl) ?_|refine QV (rr_nilc rfl) ?_|refine QV QlT ?_|refine QV QlF ?_|refine QV QmT ?_|refine QV QmF ?_|refine QV QaA ?_|refine QV QgT ?_|refine QV QgF ?_|refine QV QeT ?_|refine QV QeF ?_))
      refine TL_new rfl fun g15 => ?_
      refine TL_storeB (i := 1) rfl rfl rfl rfl rfl rfl ?_
      conv=>arg 8;simp only[zA,zB,zC,zD,zE,zF,zG,zH,zI,rowS,ret,id_eq]
      have hAt : ∀ L : List Own, L[0]? = some (rowA 4 boolV g (word.length + 1) A) → At w L ⟨g, 0 + word.length, none⟩ (.bool false) := fun L hL => by rw [← hAn]; exact at_rowA hL (by omega)
      repeat(first|refine QV QP ?_|refine QZ ?_|refine qcT rfl ?_|refine qcF rfl ?_|refine E_blockX ?_|refine E_blockO rfl ?_|refine qs rfl rfl rfl rfl rfl rfl ?_|((try refine qg rfl rfl rfl ?_);first|refine QV QP ?_|refine QV (rr_idx1 Und.eq TyC.ty rfl rfl (show word.length < word.length + 1 by omega)) ?_|refine QV (rr_load1 TyC.ty rfl (hAt _ rfl)) ?_|refine QV (rr_add64 (r := ((word.length + 1 : Nat) : Int)) rfl rfl (by omega) (by omega) (by omega)) ?_|refine QV QL ?_|refine QV QA ?_|refine QV (rr_not rfl rfl) ?_|refine QV (rr_nilc rfl) ?_|refine QV QlT ?_|refine QV QlF ?_|refine QV QmT ?_|refine QV QmF ?_|refine QV QaA ?_|refine QV QgT ?_|refine QV QgF ?_|refine QV QeT ?_|refine QV QeF ?_))
      refine TL_makeA boolV false rfl rfl (by omega) (by omega) rfl fun g16 => ?_
      conv=>arg 8;simp only[zA,zB,zC,zD,zE,zF,zG,zH,zI,rowS,ret,id_eq]
      repeat(first|refine QV QP ?_|refine QZ ?_|refine qcT rfl ?_|refine qcF rfl ?_|refine E_blockX ?_|refine E_blockO rfl ?_|refine qs rfl rfl rfl rfl rfl rfl ?_|((try refine qg rfl rfl rfl ?_);first|refine QV QP ?_|refine QV QL ?_|refine QV QA ?_|refine QV (rr_not rfl rfl) ?_|refine QV (rr_nilc rfl) ?_|refine QV QlT ?_|refine QV QlF ?_|refine QV QmT ?_|refine QV QmF ?_|refine QV QaA ?_|refine QV QgT ?_|refine QV QgF ?_|refine QV QeT ?_|refine QV QeF ?_))
      refine T_loop (ι := Nat) (fun k => frm + k ≤ word.length + 1 ∧ (xq = 2 → anyO (fun a => A a && O xm.toNat a) frm k = false)) (fun k => [(0, .pointer (some ⟨gc, 0, none⟩)), (2, rowsV n gO), (4, .int .i64 (frm : Int)), (11, .int .i64 word.length), (13, .slice (some ⟨g, 0, none⟩) (word.length + 1) (word.length + 1)), (15, .pointer (some ⟨g15, 0, none⟩)), (16, .slice (some ⟨g16, 0, none⟩) (word.length + 1) (word.length + 1)), (17, .int .i64 ((frm + k : Nat) : Int)), (35, .slice (some ⟨b, off, none⟩) body.length cb), (36, .int .i64 body.length), (37, .int .i64 (j : Int))])
        (fun k => [rowA 4 boolV g (word.length + 1) A, blkO g15 (symC (xq, xm)).toArray 71, rowA 4 boolV g16 (word.length + 1) (partO o (xq, xm) frm A k)]) (fun k => word.length + 1 - (frm + k)) 0 ⟨by omega, fun _ => rfl⟩ (by repeat' (first | exact True.intro | refine And.intro rfl ?_)) rfl ?_
      rintro k ⟨k1, k2⟩
      by_cases c8 : frm + k ≤ word.length
      · have hAk0 : ∀ L : List Own, L[0]? = some (rowA 4 boolV g (word.length + 1) A) → At w L ⟨g, 0 + (frm + k), none⟩ (.bool (A (frm + k))) := fun L hL => at_rowA hL (by omega)
        cases hA : A (frm + k)
        · have hAk : ∀ L : List Own, L[0]? = some (rowA 4 boolV g (word.length + 1) A) → At w L ⟨g, 0 + (frm + k), none⟩ (.bool false) := by rw [← hA]; exact hAk0
          have hany : xq = 2 → anyO (fun a => A a && O xm.toNat a) frm (k + 1) = false := fun e => by rw [anyO, k2 e, hA]; rfl
          repeat(first|refine QV QP ?_|refine QZ ?_|refine qcT rfl ?_|refine qcF rfl ?_|refine E_blockX ?_|refine E_blockO rfl ?_|refine qs rfl rfl rfl rfl rfl rfl ?_|((try refine qg rfl rfl rfl ?_);first|refine QV QP ?_|refine QV (rr_idx1 Und.eq TyC.ty rfl rfl (show frm + k < word.length + 1 by omega)) ?_|refine QV (rr_load1 TyC.ty rfl (hAk _ rfl)) ?_|refine QV (rr_load1 TyC.ty rfl (at_blk (i := 1) rfl rfl)) ?_|refine QV QL ?_|refine QV QA ?_|refine QV (rr_not rfl rfl) ?_|refine QV (rr_nilc rfl) ?_|refine QV QlT ?_|refine QV QlF ?_|refine QV QmT ?_|refine QV QmF ?_|refine QV QaA ?_|refine QV QgT ?_|refine QV QgF ?_|refine QV QeT ?_|refine QV QeF ?_))
          refine T_loop (ι := Unit) (fun _ => True) (fun _ => [(0, .pointer (some ⟨gc, 0, none⟩)), (2, rowsV n gO), (4, .int .i64 (frm : Int)), (11, .int .i64 word.length), (13, .slice (some ⟨g, 0, none⟩) (word.length + 1) (word.length + 1)), (15, .pointer (some ⟨g15, 0, none⟩)), (16, .slice (some ⟨g16, 0, none⟩) (word.length + 1) (word.length + 1)), (17, .int .i64 ((frm + k : Nat) : Int)), (18, .int .i64 (((frm + k : Nat) : Int) : Int)), (35, .slice (some ⟨b, off, none⟩) body.length cb), (36, .int .i64 body.length), (37, .int .i64 (j : Int))]) (fun _ => [rowA 4 boolV g (word.length + 1) A, blkO g15 (symC (xq, xm)).toArray 71, rowA 4 boolV g16 (word.length + 1) (partO o (xq, xm) frm A k)]) (fun _ => 0) () trivial (by repeat' (first | exact True.intro | refine And.intro rfl ?_)) rfl ?_
          intro _ _
          repeat(first|refine QV QP ?_|refine QZ ?_|refine qcT rfl ?_|refine qcF rfl ?_|refine E_blockX ?_|refine E_blockO rfl ?_|refine qs rfl rfl rfl rfl rfl rfl ?_|((try refine qg rfl rfl rfl ?_);first|refine QV QP ?_|refine QV (rr_idx1 Und.eq TyC.ty rfl rfl (show frm + k < word.length + 1 by omega)) ?_|refine QV (rr_load1 TyC.ty rfl (hAk _ rfl)) ?_|refine QV (rr_load1 TyC.ty rfl (at_blk (i := 1) rfl rfl)) ?_|refine QV (rr_add64 (r := ((frm + (k + 1) : Nat) : Int)) rfl rfl (by omega) (by omega) (by omega)) ?_|refine QV QL ?_|refine QV QA ?_|refine QV (rr_not rfl rfl) ?_|refine QV (rr_nilc rfl) ?_|refine QV QlT ?_|refine QV QlF ?_|refine QV QmT ?_|refine QV QmF ?_|refine QV QaA ?_|refine QV QgT ?_|refine QV QgF ?_|refine QV QeT ?_|refine QV QeF ?_))
          exact E_round (k + 1) ⟨by omega, hany⟩ (by omega) (by repeat' (first | exact True.intro | refine And.intro rfl ?_)) (by rw [partO_none hA])
        · have hAk : ∀ L : List Own, L[0]? = some (rowA 4 boolV g (word.length + 1) A) → At w L ⟨g, 0 + (frm + k), none⟩ (.bool true) := by rw [← hA]; exact hAk0
          have hcase : (xq = 2 ∧ ∃ m : Nat, xm = m ∧ m < n) ∨ (xq = 1) := by
            rcases hxj with e | ⟨e1, e2, e3⟩
            · exact .inr e
            · exact .inl ⟨e1, xm.toNat, by omega, by omega⟩
          have hret : xq = 2 → O xm.toNat (frm + k) = true → res = true := fun e1 e2 => by
            rw [i2, if_pos ⟨e1, anyO_iff.2 ⟨k, by omega, by rw [hA, e2]; rfl⟩⟩]
          have hgo : (xq = 2 → O xm.toNat (frm + k) = false) → xq = 2 → anyO (fun a => A a && O xm.toNat a) frm (k + 1) = false := fun h e => by rw [anyO, k2 e, hA, h e]; rfl
          rcases hcase with ⟨rfl, m, rfl, hm⟩ | rfl
          · rw [Int.toNat_natCast] at hret hgo
            have hg1 : ∀ L, At w L ⟨gO, 0 + m, none⟩ (rowsV (word.length + 1) (gs m)) := fun L => at_old (hgs m hm).1
            have hg20 : ∀ L, At w L ⟨gs m, 0 + (frm + k), none⟩ (.bool (O m (frm + k))) := fun L => at_old ((hgs m hm).2 (frm + k) (by omega))
            cases hOm : O m (frm + k)
            · have hg2 : ∀ L, At w L ⟨gs m, 0 + (frm + k), none⟩ (.bool false) := by rw [← hOm]; exact hg20
              have hany := hgo fun _ => hOm
              repeat(first|refine QV QP ?_|refine QZ ?_|refine qcT rfl ?_|refine qcF rfl ?_|refine E_blockX ?_|refine E_blockO rfl ?_|refine qs rfl rfl rfl rfl rfl rfl ?_|((try refine qg rfl rfl rfl ?_);first|refine QV QP ?_|refine QV (rr_idx1 Und.eq TyC.ty rfl rfl (show frm + k < word.length + 1 by omega)) ?_|refine QV (rr_load1 TyC.ty rfl (hAk _ rfl)) ?_|refine QV (rr_load1 TyC.ty rfl (at_blk (i := 1) rfl rfl)) ?_|refine QV (rr_idx1 Und.eq TyC.ty rfl rfl hm) ?_|refine QV (rr_load1 TyC.ty rfl (hg1 _)) ?_|refine QV (rr_load1 TyC.ty rfl (hg2 _)) ?_|refine QV QL ?_|refine QV QA ?_|refine QV (rr_not rfl rfl) ?_|refine QV (rr_nilc rfl) ?_|refine QV QlT ?_|refine QV QlF ?_|refine QV QmT ?_|refine QV QmF ?_|refine QV QaA ?_|refine QV QgT ?_|refine QV QgF ?_|refine QV QeT ?_|refine QV QeF ?_))
              rw [← mixO_0 k]
              refine T_loop (ι := Nat) (fun b' => frm + k ≤ b' ∧ b' ≤ word.length + 1) (fun b' => [(0, .pointer (some ⟨gc, 0, none⟩)), (2, rowsV n gO), (4, .int .i64 (frm : Int)), (11, .int .i64 word.length), (13, .slice (some ⟨g, 0, none⟩) (word.length + 1) (word.length + 1)), (15, .pointer (some ⟨g15, 0, none⟩)), (16, .slice (some ⟨g16, 0, none⟩) (word.length + 1) (word.length + 1)), (17, .int .i64 ((frm + k : Nat) : Int)), (18, .int .i64 (b' : Int)), (35, .slice (some ⟨b, off, none⟩) body.length cb), (36, .int .i64 body.length), (37, .int .i64 (j : Int))]) (fun b' => [rowA 4 boolV g (word.length + 1) A, blkO g15 (symC (2, ((m : Nat) : Int))).toArray 71, rowA 4 boolV g16 (word.length + 1) (mixO o (2, ((m : Nat) : Int)) frm A k b')]) (fun b' => word.length + 1 - b') (frm + k) ⟨Nat.le_refl _, by omega⟩ (by repeat' (first | exact True.intro | refine And.intro rfl ?_)) rfl ?_
              rintro b' ⟨b1', b2'⟩
              by_cases c9 : b' ≤ word.length
              · have hone := fun w' hg => hone (frm + k) b' w' hg b1' c9 hw
                have hnx0 : ∀ L : List Own, L[2]? = some (rowA 4 boolV g16 (word.length + 1) (mixO o (2, ((m : Nat) : Int)) frm A k b')) → At w L ⟨g16, 0 + b', none⟩ (.bool (partO o (2, ((m : Nat) : Int)) frm A k b')) := fun L hL => by rw [← mixO_at]; exact at_rowA hL (by omega)
                cases hp : partO o (2, ((m : Nat) : Int)) frm A k b'
                · have hnx : ∀ L : List Own, L[2]? = some (rowA 4 boolV g16 (word.length + 1) (mixO o (2, ((m : Nat) : Int)) frm A k b')) → At w L ⟨g16, 0 + b', none⟩ (.bool false) := by rw [← hp]; exact hnx0
                  by_cases hps : 0 < o (2, ((m : Nat) : Int)) (frm + k) b'
                  · repeat(first|refine QV QP ?_|refine QZ ?_|refine qcT rfl ?_|refine qcF rfl ?_|refine E_blockX ?_|refine E_blockO rfl ?_|refine qs rfl rfl rfl rfl rfl rfl ?_|((try refine qg rfl rfl rfl ?_);first|refine QV QP ?_|refine QV (rr_idx1 Und.eq TyC.ty rfl rfl (show b' < word.length + 1 by omega)) ?_|refine QV (rr_load1 TyC.ty rfl (hnx _ rfl)) ?_|refine QV (rr_idx1 Und.eq TyC.ty rfl rfl (show frm + k < word.length + 1 by omega)) ?_|refine QV (rr_load1 TyC.ty rfl (hAk _ rfl)) ?_|refine QV (rr_loadB (i := 1) TyC.ty rfl rfl rfl) ?_|refine QV QL ?_|refine QV QA ?_|refine QV (rr_not rfl rfl) ?_|refine QV (rr_nilc rfl) ?_|refine QV QlT ?_|refine QV QlF ?_|refine QV QmT ?_|refine QV QmF ?_|refine QV QaA ?_|refine QV QgT ?_|refine QV QgF ?_|refine QV QeT ?_|refine QV QeF ?_))
                    refine TL_gcall (he4 EntersC.en rfl rfl rfl rfl rfl) (fun w hm => hone _ hm.below) rfl rfl rfl rfl rfl ?_
                    intro _ _
                    conv=>arg 8;simp only[zA,zB,zC,zD,zE,zF,zG,zH,zI,rowS,ret,id_eq]
                    repeat(first|refine QV QP ?_|refine QZ ?_|refine qcT rfl ?_|refine qcF rfl ?_|refine E_blockX ?_|refine E_blockO rfl ?_|refine qs rfl rfl rfl rfl rfl rfl ?_|((try refine qg rfl rfl rfl ?_);first|refine QV QP ?_|refine QV (rr_idx1 Und.eq TyC.ty rfl rfl (show b' < word.length + 1 by omega)) ?_|refine QV (rr_load1 TyC.ty rfl (hnx _ rfl)) ?_|refine QV (rr_idx1 Und.eq TyC.ty rfl rfl (show frm + k < word.length + 1 by omega)) ?_|refine QV (rr_load1 TyC.ty rfl (hAk _ rfl)) ?_|refine QV (rr_loadB (i := 1) TyC.ty rfl rfl rfl) ?_|refine QV QL ?_|refine QV QA ?_|refine QV (rr_not rfl rfl) ?_|refine QV (rr_nilc rfl) ?_|refine QV QlT ?_|refine QV QlF ?_|refine QV QmT ?_|refine QV QmF ?_|refine QV QaA ?_|refine QV QgT ?_|refine QV QgF ?_|refine QV QeT ?_|refine QV QeF ?_))
                    refine TL_storeA (i := 2) (v := true) (mixO o (2, ((m : Nat) : Int)) frm A k (b' + 1)) TyC.ty rfl rfl rfl rfl rfl (by omega) (fun i _ => by rw [mixO_step hA b1', hp, decide_eq_true hps, Bool.false_or]) ?_
                    conv=>arg 8;simp only[zA,zB,zC,zD,zE,zF,zG,zH,zI,rowS,ret,id_eq]
                    repeat(first|refine QV QP ?_|refine QZ ?_|refine qcT rfl ?_|refine qcF rfl ?_|refine E_blockX ?_|refine E_blockO rfl ?_|refine qs rfl rfl rfl rfl rfl rfl ?_|((try refine qg rfl rfl rfl ?_);first|refine QV QP ?_|refine QV (rr_add64 (r := ((b' + 1 : Nat) : Int)) rfl rfl (by omega) (by omega) (by omega)) ?_|refine QV QL ?_|refine QV QA ?_|refine QV (rr_not rfl rfl) ?_|refine QV (rr_nilc rfl) ?_|refine QV QlT ?_|refine QV QlF ?_|refine QV QmT ?_|refine QV QmF ?_|refine QV QaA ?_|refine QV QgT ?_|refine QV QgF ?_|refine QV QeT ?_|refine QV QeF ?_))
                    exact E_round (b' + 1) ⟨by omega, by omega⟩ (by omega) (by repeat' (first | exact True.intro | refine And.intro rfl ?_)) rfl
                  · repeat(first|refine QV QP ?_|refine QZ ?_|refine qcT rfl ?_|refine qcF rfl ?_|refine E_blockX ?_|refine E_blockO rfl ?_|refine qs rfl rfl rfl rfl rfl rfl ?_|((try refine qg rfl rfl rfl ?_);first|refine QV QP ?_|refine QV (rr_idx1 Und.eq TyC.ty rfl rfl (show b' < word.length + 1 by omega)) ?_|refine QV (rr_load1 TyC.ty rfl (hnx _ rfl)) ?_|refine QV (rr_idx1 Und.eq TyC.ty rfl rfl (show frm + k < word.length + 1 by omega)) ?_|refine QV (rr_load1 TyC.ty rfl (hAk _ rfl)) ?_|refine QV (rr_loadB (i := 1) TyC.ty rfl rfl rfl) ?_|refine QV QL ?_|refine QV QA ?_|refine QV (rr_not rfl rfl) ?_|refine QV (rr_nilc rfl) ?_|refine QV QlT ?_|refine QV QlF ?_|refine QV QmT ?_|refine QV QmF ?_|refine QV QaA ?_|refine QV QgT ?_|refine QV QgF ?_|refine QV QeT ?_|refine QV QeF ?_))
                    refine TL_gcall (he4 EntersC.en rfl rfl rfl rfl rfl) (fun w hm => hone _ hm.below) rfl rfl rfl rfl rfl ?_
                    intro _ _
                    conv=>arg 8;simp only[zA,zB,zC,zD,zE,zF,zG,zH,zI,rowS,ret,id_eq]
                    repeat(first|refine QV QP ?_|refine QZ ?_|refine qcT rfl ?_|refine qcF rfl ?_|refine E_blockX ?_|refine E_blockO rfl ?_|refine qs rfl rfl rfl rfl rfl rfl ?_|((try refine qg rfl rfl rfl ?_);first|refine QV QP ?_|refine QV (rr_idx1 Und.eq TyC.ty rfl rfl (show b' < word.length + 1 by omega)) ?_|refine QV (rr_load1 TyC.ty rfl (hnx _ rfl)) ?_|refine QV (rr_idx1 Und.eq TyC.ty rfl rfl (show frm + k < word.length + 1 by omega)) ?_|refine QV (rr_load1 TyC.ty rfl (hAk _ rfl)) ?_|refine QV (rr_loadB (i := 1) TyC.ty rfl rfl rfl) ?_|refine QV QL ?_|refine QV QA ?_|refine QV (rr_not rfl rfl) ?_|refine QV (rr_nilc rfl) ?_|refine QV QlT ?_|refine QV QlF ?_|refine QV QmT ?_|refine QV QmF ?_|refine QV QaA ?_|refine QV QgT ?_|refine QV QgF ?_|refine QV QeT ?_|refine QV QeF ?_))
                    refine TL_storeA (i := 2) (v := false) (mixO o (2, ((m : Nat) : Int)) frm A k (b' + 1)) TyC.ty rfl rfl rfl rfl rfl (by omega) (fun i _ => by rw [mixO_step hA b1', hp, decide_eq_false hps, Bool.false_or]) ?_
                    conv=>arg 8;simp only[zA,zB,zC,zD,zE,zF,zG,zH,zI,rowS,ret,id_eq]
                    repeat(first|refine QV QP ?_|refine QZ ?_|refine qcT rfl ?_|refine qcF rfl ?_|refine E_blockX ?_|refine E_blockO rfl ?_|refine qs rfl rfl rfl rfl rfl rfl ?_|((try refine qg rfl rfl rfl ?_);first|refine QV QP ?_|refine QV (rr_add64 (r := ((b' + 1 : Nat) : Int)) rfl rfl (by omega) (by omega) (by omega)) ?_|refine QV QL ?_|refine QV QA ?_|refine QV (rr_not rfl rfl) ?_|refine QV (rr_nilc rfl) ?_|refine QV QlT ?_|refine QV QlF ?_|refine QV QmT ?_|refine QV QmF ?_|refine QV QaA ?_|refine QV QgT ?_|refine QV QgF ?_|refine QV QeT ?_|refine QV QeF ?_))
                    exact E_round (b' + 1) ⟨by omega, by omega⟩ (by omega) (by repeat' (first | exact True.intro | refine And.intro rfl ?_)) rfl
                · have hnx : ∀ L : List Own, L[2]? = some (rowA 4 boolV g16 (word.length + 1) (mixO o (2, ((m : Nat) : Int)) frm A k b')) → At w L ⟨g16, 0 + b', none⟩ (.bool true) := by rw [← hp]; exact hnx0
                  repeat(first|refine QV QP ?_|refine QZ ?_|refine qcT rfl ?_|refine qcF rfl ?_|refine E_blockX ?_|refine E_blockO rfl ?_|refine qs rfl rfl rfl rfl rfl rfl ?_|((try refine qg rfl rfl rfl ?_);first|refine QV QP ?_|refine QV (rr_idx1 Und.eq TyC.ty rfl rfl (show b' < word.length + 1 by omega)) ?_|refine QV (rr_load1 TyC.ty rfl (hnx _ rfl)) ?_|refine QV (rr_idx1 Und.eq TyC.ty rfl rfl (show frm + k < word.length + 1 by omega)) ?_|refine QV (rr_load1 TyC.ty rfl (hAk _ rfl)) ?_|refine QV (rr_loadB (i := 1) TyC.ty rfl rfl rfl) ?_|refine QV QL ?_|refine QV QA ?_|refine QV (rr_not rfl rfl) ?_|refine QV (rr_nilc rfl) ?_|refine QV QlT ?_|refine QV QlF ?_|refine QV QmT ?_|refine QV QmF ?_|refine QV QaA ?_|refine QV QgT ?_|refine QV QgF ?_|refine QV QeT ?_|refine QV QeF ?_))
                  refine TL_storeA (i := 2) (v := true) (mixO o (2, ((m : Nat) : Int)) frm A k (b' + 1)) TyC.ty rfl rfl rfl rfl rfl (by omega) (fun i _ => by rw [mixO_step hA b1', hp, Bool.true_or]) ?_
                  conv=>arg 8;simp only[zA,zB,zC,zD,zE,zF,zG,zH,zI,rowS,ret,id_eq]
                  repeat(first|refine QV QP ?_|refine QZ ?_|refine qcT rfl ?_|refine qcF rfl ?_|refine E_blockX ?_|refine E_blockO rfl ?_|refine qs rfl rfl rfl rfl rfl rfl ?_|((try refine qg rfl rfl rfl ?_);first|refine QV QP ?_|refine QV (rr_add64 (r := ((b' + 1 : Nat) : Int)) rfl rfl (by omega) (by omega) (by omega)) ?_|refine QV QL ?_|refine QV QA ?_|refine QV (rr_not rfl rfl) ?_|refine QV (rr_nilc rfl) ?_|refine QV QlT ?_|refine QV QlF ?_|refine QV QmT ?_|refine QV QmF ?_|refine QV QaA ?_|refine QV QgT ?_|refine QV QgF ?_|refine QV QeT ?_|refine QV QeF ?_))
                  exact E_round (b' + 1) ⟨by omega, by omega⟩ (by omega) (by repeat' (first | exact True.intro | refine And.intro rfl ?_)) rfl
              · repeat(first|refine QV QP ?_|refine QZ ?_|refine qcT rfl ?_|refine qcF rfl ?_|refine E_blockX ?_|refine E_blockO rfl ?_|refine qs rfl rfl rfl rfl rfl rfl ?_|((try refine qg rfl rfl rfl ?_);first|refine QV QP ?_|refine QV (rr_add64 (r := ((frm + (k + 1) : Nat) : Int)) rfl rfl (by omega) (by omega) (by omega)) ?_|refine QV QL ?_|refine QV QA ?_|refine QV (rr_not rfl rfl) ?_|refine QV (rr_nilc rfl) ?_|refine QV QlT ?_|refine QV QlF ?_|refine QV QmT ?_|refine QV QmF ?_|refine QV QaA ?_|refine QV QgT ?_|refine QV QgF ?_|refine QV QeT ?_|refine QV QeF ?_))
                exact E_round (k + 1) ⟨by omega, hany⟩ (by omega) (by repeat' (first | exact True.intro | refine And.intro rfl ?_)) (by rw [rowA_congr (f' := partO o (2, ((m : Nat) : Int)) frm A (k + 1)) fun i hi => mixO_end (by omega)])
            · have hg2 : ∀ L, At w L ⟨gs m, 0 + (frm + k), none⟩ (.bool true) := by rw [← hOm]; exact hg20
              have := hret rfl hOm
              subst this
              repeat(first|refine QV QP ?_|refine QZ ?_|refine qcT rfl ?_|refine qcF rfl ?_|refine E_blockX ?_|refine E_blockO rfl ?_|refine qs rfl rfl rfl rfl rfl rfl ?_|((try refine qg rfl rfl rfl ?_);first|refine QV QP ?_|refine QV (rr_idx1 Und.eq TyC.ty rfl rfl (show frm + k < word.length + 1 by omega)) ?_|refine QV (rr_load1 TyC.ty rfl (hAk _ rfl)) ?_|refine QV (rr_load1 TyC.ty rfl (at_blk (i := 1) rfl rfl)) ?_|refine QV (rr_idx1 Und.eq TyC.ty rfl rfl hm) ?_|refine QV (rr_load1 TyC.ty rfl (hg1 _)) ?_|refine QV (rr_load1 TyC.ty rfl (hg2 _)) ?_|refine QV QL ?_|refine QV QA ?_|refine QV (rr_not rfl rfl) ?_|refine QV (rr_nilc rfl) ?_|refine QV QlT ?_|refine QV QlF ?_|refine QV QmT ?_|refine QV QmF ?_|refine QV QaA ?_|refine QV QgT ?_|refine QV QgF ?_|refine QV QeT ?_|refine QV QeF ?_))
              exact E_ret1 rfl rfl fun w hm => hm.ret
          · have hany := hgo fun e => by cases e
            repeat(first|refine QV QP ?_|refine QZ ?_|refine qcT rfl ?_|refine qcF rfl ?_|refine E_blockX ?_|refine E_blockO rfl ?_|refine qs rfl rfl rfl rfl rfl rfl ?_|((try refine qg rfl rfl rfl ?_);first|refine QV QP ?_|refine QV (rr_idx1 Und.eq TyC.ty rfl rfl (show frm + k < word.length + 1 by omega)) ?_|refine QV (rr_load1 TyC.ty rfl (hAk _ rfl)) ?_|refine QV (rr_load1 TyC.ty rfl (at_blk (i := 1) rfl rfl)) ?_|refine QV QL ?_|refine QV QA ?_|refine QV (rr_not rfl rfl) ?_|refine QV (rr_nilc rfl) ?_|refine QV QlT ?_|refine QV QlF ?_|refine QV QmT ?_|refine QV QmF ?_|refine QV QaA ?_|refine QV QgT ?_|refine QV QgF ?_|refine QV QeT ?_|refine QV QeF ?_))
            rw [← mixO_0 k]
            refine T_loop (ι := Nat) (fun b' => frm + k ≤ b' ∧ b' ≤ word.length + 1) (fun b' => [(0, .pointer (some ⟨gc, 0, none⟩)), (2, rowsV n gO), (4, .int .i64 (frm : Int)), (11, .int .i64 word.length), (13, .slice (some ⟨g, 0, none⟩) (word.length + 1) (word.length + 1)), (15, .pointer (some ⟨g15, 0, none⟩)), (16, .slice (some ⟨g16, 0, none⟩) (word.length + 1) (word.length + 1)), (17, .int .i64 ((frm + k : Nat) : Int)), (18, .int .i64 (b' : Int)), (35, .slice (some ⟨b, off, none⟩) body.length cb), (36, .int .i64 body.length), (37, .int .i64 (j : Int))]) (fun b' => [rowA 4 boolV g (word.length + 1) A, blkO g15 (symC (1, xm)).toArray 71, rowA 4 boolV g16 (word.length + 1) (mixO o (1, xm) frm A k b')]) (fun b' => word.length + 1 - b') (frm + k) ⟨Nat.le_refl _, by omega⟩ (by repeat' (first | exact True.intro | refine And.intro rfl ?_)) rfl ?_
            rintro b' ⟨b1', b2'⟩
            by_cases c9 : b' ≤ word.length
            · have hone := fun w' hg => hone (frm + k) b' w' hg b1' c9 hw
              have hnx0 : ∀ L : List Own, L[2]? = some (rowA 4 boolV g16 (word.length + 1) (mixO o (1, xm) frm A k b')) → At w L ⟨g16, 0 + b', none⟩ (.bool (partO o (1, xm) frm A k b')) := fun L hL => by rw [← mixO_at]; exact at_rowA hL (by omega)
              cases hp : partO o (1, xm) frm A k b'
              · have hnx : ∀ L : List Own, L[2]? = some (rowA 4 boolV g16 (word.length + 1) (mixO o (1, xm) frm A k b')) → At w L ⟨g16, 0 + b', none⟩ (.bool false) := by rw [← hp]; exact hnx0
                by_cases hps : 0 < o (1, xm) (frm + k) b'
                · repeat(first|refine QV QP ?_|refine QZ ?_|refine qcT rfl ?_|refine qcF rfl ?_|refine E_blockX ?_|refine E_blockO rfl ?_|refine qs rfl rfl rfl rfl rfl rfl ?_|((try refine qg rfl rfl rfl ?_);first|refine QV QP ?_|refine QV (rr_idx1 Und.eq TyC.ty rfl rfl (show b' < word.length + 1 by omega)) ?_|refine QV (rr_load1 TyC.ty rfl (hnx _ rfl)) ?_|refine QV (rr_idx1 Und.eq TyC.ty rfl rfl (show frm + k < word.length + 1 by omega)) ?_|refine QV (rr_load1 TyC.ty rfl (hAk _ rfl)) ?_|refine QV (rr_loadB (i := 1) TyC.ty rfl rfl rfl) ?_|refine QV QL ?_|refine QV QA ?_|refine QV (rr_not rfl rfl) ?_|refine QV (rr_nilc rfl) ?_|refine QV QlT ?_|refine QV QlF ?_|refine QV QmT ?_|refine QV QmF ?_|refine QV QaA ?_|refine QV QgT ?_|refine QV QgF ?_|refine QV QeT ?_|refine QV QeF ?_))
                  refine TL_gcall (he4 EntersC.en rfl rfl rfl rfl rfl) (fun w hm => hone _ hm.below) rfl rfl rfl rfl rfl ?_
                  intro _ _
                  conv=>arg 8;simp only[zA,zB,zC,zD,zE,zF,zG,zH,zI,rowS,ret,id_eq]
                  repeat(first|refine QV QP ?_|refine QZ ?_|refine qcT rfl ?_|refine qcF rfl ?_|refine E_blockX ?_|refine E_blockO rfl ?_|refine qs rfl rfl rfl rfl rfl rfl ?_|((try refine qg rfl rfl rfl ?_);first|refine QV QP ?_|refine QV (rr_idx1 Und.eq TyC.ty rfl rfl (show b' < word.length + 1 by omega)) ?_|refine QV (rr_load1 TyC.ty rfl (hnx _ rfl)) ?_|refine QV (rr_idx1 Und.eq TyC.ty rfl rfl (show frm + k < word.length + 1 by omega)) ?_|refine QV (rr_load1 TyC.ty rfl (hAk _ rfl)) ?_|refine QV (rr_loadB (i := 1) TyC.ty rfl rfl rfl) ?_|refine QV QL ?_|refine QV QA ?_|refine QV (rr_not rfl rfl) ?_|refine QV (rr_nilc rfl) ?_|refine QV QlT ?_|refine QV QlF ?_|refine QV QmT ?_|refine QV QmF ?_|refine QV QaA ?_|refine QV QgT ?_|refine QV QgF ?_|refine QV QeT ?_|refine QV QeF ?_))
                  refine TL_storeA (i := 2) (v := true) (mixO o (1, xm) frm A k (b' + 1)) TyC.ty rfl rfl rfl rfl rfl (by omega) (fun i _ => by rw [mixO_step hA b1', hp, decide_eq_true hps, Bool.false_or]) ?_
                  conv=>arg 8;simp only[zA,zB,zC,zD,zE,zF,zG,zH,zI,rowS,ret,id_eq]
                  repeat(first|refine QV QP ?_|refine QZ ?_|refine qcT rfl ?_|refine qcF rfl ?_|refine E_blockX ?_|refine E_blockO rfl ?_|refine qs rfl rfl rfl rfl rfl rfl ?_|((try refine qg rfl rfl rfl ?_);first|refine QV QP ?_|refine QV (rr_add64 (r := ((b' + 1 : Nat) : Int)) rfl rfl (by omega) (by omega) (by omega)) ?_|refine QV QL ?_|refine QV QA ?_|refine QV (rr_not rfl rfl) ?_|refine QV (rr_nilc rfl) ?_|refine QV QlT ?_|refine QV QlF ?_|refine QV QmT ?_|refine QV QmF ?_|refine QV QaA ?_|refine QV QgT ?_|refine QV QgF ?_|refine QV QeT ?_|refine QV QeF ?_))
                  exact E_round (b' + 1) ⟨by omega, by omega⟩ (by omega) (by repeat' (first | exact True.intro | refine And.intro rfl ?_)) rfl
                · repeat(first|refine QV QP ?_|refine QZ ?_|refine qcT rfl ?_|refine qcF rfl ?_|refine E_blockX ?_|refine E_blockO rfl ?_|refine qs rfl rfl rfl rfl rfl rfl ?_|((try refine qg rfl rfl rfl ?_);first|refine QV QP ?_|refine QV (rr_idx1 Und.eq TyC.ty rfl rfl (show b' < word.length + 1 by omega)) ?_|refine QV (rr_load1 TyC.ty rfl (hnx _ rfl)) ?_|refine QV (rr_idx1 Und.eq TyC.ty rfl rfl (show frm + k < word.length + 1 by omega)) ?_|refine QV (rr_load1 TyC.ty rfl (hAk _ rfl)) ?_|refine QV (rr_loadB (i := 1) TyC.ty rfl rfl rfl) ?_|refine QV QL ?_|refine QV QA ?_|refine QV (rr_not rfl rfl) ?_|refine QV (rr_nilc rfl) ?_|refine QV QlT ?_|refine QV QlF ?_|refine QV QmT ?_|refine QV QmF ?_|refine QV QaA ?_|refine QV QgT ?_|refine QV QgF ?_|refine QV QeT ?_|refine QV QeF ?_))
                  refine TL_gcall (he4 EntersC.en rfl rfl rfl rfl rfl) (fun w hm => hone _ hm.below) rfl rfl rfl rfl rfl ?_
                  intro _ _
                  conv=>arg 8;simp only[zA,zB,zC,zD,zE,zF,zG,zH,zI,rowS,ret,id_eq]
                  repeat(first|refine QV QP ?_|refine QZ ?_|refine qcT rfl ?_|refine qcF rfl ?_|refine E_blockX ?_|refine E_blockO rfl ?_|refine qs rfl rfl rfl rfl rfl rfl ?_|((try refine qg rfl rfl rfl ?_);first|refine QV QP ?_|refine QV (rr_idx1 Und.eq TyC.ty rfl rfl (show b' < word.length + 1 by omega)) ?_|refine QV (rr_load1 TyC.ty rfl (hnx _ rfl)) ?_|refine QV (rr_idx1 Und.eq TyC.ty rfl rfl (show frm + k < word.length + 1 by omega)) ?_|refine QV (rr_load1 TyC.ty rfl (hAk _ rfl)) ?_|refine QV (rr_loadB (i := 1) TyC.ty rfl rfl rfl) ?_|refine QV QL ?_|refine QV QA ?_|refine QV (rr_not rfl rfl) ?_|refine QV (rr_nilc rfl) ?_|refine QV QlT ?_|refine QV QlF ?_|refine QV QmT ?_|refine QV QmF ?_|refine QV QaA ?_|refine QV QgT ?_|refine QV QgF ?_|refine QV QeT ?_|refine QV QeF ?_))
                  refine TL_storeA (i := 2) (v := false) (mixO o (1, xm) frm A k (b' + 1)) TyC.ty rfl rfl rfl rfl rfl (by omega) (fun i _ => by rw [mixO_step hA b1', hp, decide_eq_false hps, Bool.false_or]) ?_
                  conv=>arg 8;simp only[zA,zB,zC,zD,zE,zF,zG,zH,zI,rowS,ret,id_eq]
                  repeat(first|refine QV QP ?_|refine QZ ?_|refine qcT rfl ?_|refine qcF rfl ?_|refine E_blockX ?_|refine E_blockO rfl ?_|refine qs rfl rfl rfl rfl rfl rfl ?_|((try refine qg rfl rfl rfl ?_);first|refine QV QP ?_|refine QV (rr_add64 (r := ((b' + 1 : Nat) : Int)) rfl rfl (by omega) (by omega) (by omega)) ?_|refine QV QL ?_|refine QV QA ?_|refine QV (rr_not rfl rfl) ?_|refine QV (rr_nilc rfl) ?_|refine QV QlT ?_|refine QV QlF ?_|refine QV QmT ?_|refine QV QmF ?_|refine QV QaA ?_|refine QV QgT ?_|refine QV QgF ?_|refine QV QeT ?_|refine QV QeF ?_))
                  exact E_round (b' + 1) ⟨by omega, by omega⟩ (by omega) (by repeat' (first | exact True.intro | refine And.intro rfl ?_)) rfl
              · have hnx : ∀ L : List Own, L[2]? = some (rowA 4 boolV g16 (word.length + 1) (mixO o (1, xm) frm A k b')) → At w L ⟨g16, 0 + b', none⟩ (.bool true) := by rw [← hp]; exact hnx0
                repeat(first|refine QV QP ?_|refine QZ ?_|refine qcT rfl ?_|refine qcF rfl ?_|refine E_blockX ?_|refine E_blockO rfl ?_|refine qs rfl rfl rfl rfl rfl rfl ?_|((try refine qg rfl rfl rfl ?_);first|refine QV QP ?_|refine QV (rr_idx1 Und.eq TyC.ty rfl rfl (show b' < word.length + 1 by omega)) ?_|refine QV (rr_load1 TyC.ty rfl (hnx _ rfl)) ?_|refine QV (rr_idx1 Und.eq TyC.ty rfl rfl (show frm + k < word.length + 1 by omega)) ?_|refine QV (rr_load1 TyC.ty rfl (hAk _ rfl)) ?_|refine QV (rr_loadB (i := 1) TyC.ty rfl rfl rfl) ?_|refine QV QL ?_|refine QV QA ?_|refine QV (rr_not rfl rfl) ?_|refine QV (rr_nilc rfl) ?_|refine QV QlT ?_|refine QV QlF ?_|refine QV QmT ?_|refine QV QmF ?_|refine QV QaA ?_|refine QV QgT ?_|refine QV QgF ?_|refine QV QeT ?_|refine QV QeF ?_))
                refine TL_storeA (i := 2) (v := true) (mixO o (1, xm) frm A k (b' + 1)) TyC.ty rfl rfl rfl rfl rfl (by omega) (fun i _ => by rw [mixO_step hA b1', hp, Bool.true_or]) ?_
                conv=>arg 8;simp only[zA,zB,zC,zD,zE,zF,zG,zH,zI,rowS,ret,id_eq]
                repeat(first|refine QV QP ?_|refine QZ ?_|refine qcT rfl ?_|refine qcF rfl ?_|refine E_blockX ?_|refine E_blockO rfl ?_|refine qs rfl rfl rfl rfl rfl rfl ?_|((try refine qg rfl rfl rfl ?_);first|refine QV QP ?_|refine QV (rr_add64 (r := ((b' + 1 : Nat) : Int)) rfl rfl (by omega) (by omega) (by omega)) ?_|refine QV QL ?_|refine QV QA ?_|refine QV (rr_not rfl rfl) ?_|refine QV (rr_nilc rfl) ?_|refine QV QlT ?_|refine QV QlF ?_|refine QV QmT ?_|refine QV QmF ?_|refine QV QaA ?_|refine QV QgT ?_|refine QV QgF ?_|refine QV QeT ?_|refine QV QeF ?_))
                exact E_round (b' + 1) ⟨by omega, by omega⟩ (by omega) (by repeat' (first | exact True.intro | refine And.intro rfl ?_)) rfl
            · repeat(first|refine QV QP ?_|refine QZ ?_|refine qcT rfl ?_|refine qcF rfl ?_|refine E_blockX ?_|refine E_blockO rfl ?_|refine qs rfl rfl rfl rfl rfl rfl ?_|((try refine qg rfl rfl rfl ?_);first|refine QV QP ?_|refine QV (rr_add64 (r := ((frm + (k + 1) : Nat) : Int)) rfl rfl (by omega) (by omega) (by omega)) ?_|refine QV QL ?_|refine QV QA ?_|refine QV (rr_not rfl rfl) ?_|refine QV (rr_nilc rfl) ?_|refine QV QlT ?_|refine QV QlF ?_|refine QV QmT ?_|refine QV QmF ?_|refine QV QaA ?_|refine QV QgT ?_|refine QV QgF ?_|refine QV QeT ?_|refine QV QeF ?_))
              exact E_round (k + 1) ⟨by omega, hany⟩ (by omega) (by repeat' (first | exact True.intro | refine And.intro rfl ?_)) (by rw [rowA_congr (f' := partO o (1, xm) frm A (k + 1)) fun i hi => mixO_end (by omega)])
      · have hk : word.length + 1 - frm = k := by omega
        rw [hk, if_neg (fun h => by have := k2 h.1; rw [h.2] at this; cases this)] at i2
        repeat(first|refine QV QP ?_|refine QZ ?_|refine qcT rfl ?_|refine qcF rfl ?_|refine E_blockX ?_|refine E_blockO rfl ?_|refine qs rfl rfl rfl rfl rfl rfl ?_|((try refine qg rfl rfl rfl ?_);first|refine QV QP ?_|refine QV QL ?_|refine QV QA ?_|refine QV (rr_not rfl rfl) ?_|refine QV (rr_nilc rfl) ?_|refine QV QlT ?_|refine QV QlF ?_|refine QV QmT ?_|refine QV QmF ?_|refine QV QaA ?_|refine QV QgT ?_|refine QV QgF ?_|refine QV QeT ?_|refine QV QeF ?_))
        refine E_pick [2] (by decide) rfl ?_
        exact E_round (j + 1, g16, partO o (xq, xm) frm A k) ⟨by omega, i2⟩ (by show body.length - (j + 1) < body.length - j; omega) (by repeat' (first | exact True.intro | refine And.intro rfl ?_)) rfl
    · rw [hAn, if_pos rfl] at i2
      subst i2
      have hAt : ∀ L : List Own, L[0]? = some (rowA 4 boolV g (word.length + 1) A) → At w L ⟨g, 0 + word.length, none⟩ (.bool true) := fun L hL => by rw [← hAn]; exact at_rowA hL (by omega)
      repeat(first|refine QV QP ?_|refine QZ ?_|refine qcT rfl ?_|refine qcF rfl ?_|refine E_blockX ?_|refine E_blockO rfl ?_|refine qs rfl rfl rfl rfl rfl rfl ?_|((try refine qg rfl rfl rfl ?_);first|refine QV QP ?_|refine QV (rr_idxc Und.eq TyC.ty rfl rfl c7) ?_|refine QV (rr_loadN TyC.ty rfl rfl (hat _)) ?_|refine QV QL ?_|refine QV QA ?_|refine QV (rr_not rfl rfl) ?_|refine QV (rr_nilc rfl) ?_|refine QV QlT ?_|refine QV QlF ?_|refine QV QmT ?_|refine QV QmF ?_|refine QV QaA ?_|refine QV QgT ?_|refine QV QgF ?_|refine QV QeT ?_|refine QV QeF ?_))
      refine TL_new rfl fun g15 => ?_
      refine TL_storeB (i := 1) rfl rfl rfl rfl rfl rfl ?_
      conv=>arg 8;simp only[zA,zB,zC,zD,zE,zF,zG,zH,zI,rowS,ret,id_eq]
      repeat(first|refine QV QP ?_|refine QZ ?_|refine qcT rfl ?_|refine qcF rfl ?_|refine E_blockX ?_|refine E_blockO rfl ?_|refine qs rfl rfl rfl rfl rfl rfl ?_|((try refine qg rfl rfl rfl ?_);first|refine QV QP ?_|refine QV (rr_idx1 Und.eq TyC.ty rfl rfl (show word.length < word.length + 1 by omega)) ?_|refine QV (rr_load1 TyC.ty rfl (hAt _ rfl)) ?_|refine QV QL ?_|refine QV QA ?_|refine QV (rr_not rfl rfl) ?_|refine QV (rr_nilc rfl) ?_|refine QV QlT ?_|refine QV QlF ?_|refine QV QmT ?_|refine QV QmF ?_|refine QV QaA ?_|refine QV QgT ?_|refine QV QgF ?_|refine QV QeT ?_|refine QV QeF ?_))
      exact E_ret1 rfl rfl fun w hm => hm.ret
  · rw [List.drop_of_length_le (by omega), opGo] at i2
    subst i2
    have hAt := at_rowA (L := [rowA 4 boolV g (word.length + 1) A]) (W := w) (i := 0) rfl (show word.length < word.length + 1 by omega)
    repeat(first|refine QV QP ?_|refine QZ ?_|refine qcT rfl ?_|refine qcF rfl ?_|refine E_blockX ?_|refine E_blockO rfl ?_|refine qs rfl rfl rfl rfl rfl rfl ?_|((try refine qg rfl rfl rfl ?_);first|refine QV QP ?_|refine QV (rr_idx1 Und.eq TyC.ty rfl rfl (show word.length < word.length + 1 by omega)) ?_|refine QV (rr_load1 TyC.ty rfl hAt) ?_|refine QV QL ?_|refine QV QA ?_|refine QV (rr_not rfl rfl) ?_|refine QV (rr_nilc rfl) ?_|refine QV QlT ?_|refine QV QlF ?_|refine QV QmT ?_|refine QV QmF ?_|refine QV QaA ?_|refine QV QgT ?_|refine QV QgF ?_|refine QV QeT ?_|refine QV QeF ?_))
    exact E_ret1 rfl rfl fun w hm => hm.ret
end Go.Proofs.Ytlojfbnimmdehaa.eng

/- CountQ -/
namespace Go.Proofs.Ytlojfbnimmdehaa.eng
open Go.RowKit kit mix gramL treeL countL factsL derL
abbrev idV (v : Value) : Value := v
theorem rowA_rows {T : TypeId} {g n m : Nat} {gs : Nat → Nat} : rowA T idV g n (fun j => if j < n then rowsV m (gs j) else .slice none 0 0) = rowA T (rowsV m) g n gs := by
  unfold rowA
  congr 1
  rw [tabA_congr (g := fun j => rowsV m (gs j)) fun i hi => by simp [hi]]
  simp [tabA]
set_option maxRecDepth 100000 in
set_option maxHeartbeats 16000000 in
theorem begins_calls (v vw : Value) (g : Gram) (word : List Int) (w : World) (h : GraR (fun k => k < w.heap.size) w v g) (hs : Sl w vw word.length (word.map (.int .i64))) :
    Calls Try.prog 60 #[v, vw] w (Meets (ret (.tuple #[.bool (beginsB g word), .int .i64 (checkC g word)])) w) := by
  have hck := fun w' (hg : Gr w w') => checkC_calls v vw g word w' (h.gr hg) (hs.gr hg)
  by_cases c0 : checkC g word = 0
  · have h0 := h
    obtain ⟨hg, hl, hw⟩ := checkC_ok c0
    obtain ⟨a1, a2, a3, a4, a5, a6⟩ := checkG_ok hg
    obtain ⟨n, hn⟩ : ∃ n : Nat, g.nons = n := ⟨g.nons.toNat, by omega⟩
    have hof := fun w' (hg' : Gr w w') => of_calls v g w' (h0.gr hg') hg n hn
    obtain ⟨vp, rfl, h1, _⟩ := h
    have hfi := fun w' (hg : Gr w w') => filled_calls vp vw g word w' (h0.gr hg) (hs.gr hg) c0
    have hbg := fun (c : Chart) hc O O' k => begins_of (g := g) (w := word) (n := n) (c := c) c0 hn hc (O := O) (O' := O') (k := k)
    obtain ⟨hokR, hsnd⟩ := sound_of hg hn
    obtain ⟨f1, f2⟩ := fineC_of hg hn
    have hsy := symsOk_of (n := n) hg hn
    rw [c0] at hck ⊢
    generalize beginsB g word = res at *
    obtain ⟨t, nn, prods⟩ := g
    dsimp only at *
    subst hn
    have hMl := hokR.2.2
    have hMs := hsnd.2
    generalize (ofS n prods).M = Mf at *
    clear hokR hsnd
    have hs0 := hs
    have hop := fun gc gm g11 gM cM vE vF vW vR vb c Bd O body frm w' hch hbits hM hsl hx hok hf h5 => opens_calls gc gm g11 n gM cM t vp vw vE vF vW vR vb word c Bd O Mf body frm w' hch hbits hM hMl.symm hsl hx hok hf hl h5
    obtain ⟨bw, cw, rfl, hw1, hw2, _⟩ := hs
    obtain ⟨bp, cp, rfl, _, hmp, hrp⟩ := h1
    unfold maxLen at hmp
    refine enter (args := [graV t (n : Int) (.slice bp prods.length cp), .slice bw word.length cw]) (n := 93) Try.func60 rfl rfl rfl ?_
    refine T_seq (T_region (TL_box rfl rfl rfl fun g2 => ?_))
    conv=>arg 8;simp only[zA,zB,zC,zD,zE,zF,zG,zH,zI,rowS,ret,id_eq]
    repeat(first|refine QV QP ?_|refine QZ ?_|refine qcT rfl ?_|refine qcF rfl ?_|refine E_blockX ?_|refine E_blockO rfl ?_|refine qs rfl rfl rfl rfl rfl rfl ?_|((try refine qg rfl rfl rfl ?_);first|refine QV QP ?_|refine QV (rr_loadB (i := 0) TyC.ty rfl rfl rfl) ?_|refine QV QL ?_|refine QV QA ?_|refine QV (rr_not rfl rfl) ?_|refine QV QlT ?_|refine QV QlF ?_|refine QV QnT ?_|refine QV QnF ?_|refine QV QaA ?_))
    refine TL_call (he2 EntersC.en rfl rfl rfl) (fun w hm => hck _ hm.below) rfl rfl rfl ?_
    intro _ _
    conv=>arg 8;simp only[zA,zB,zC,zD,zE,zF,zG,zH,zI,rowS,ret,id_eq]
    repeat(first|refine QV QP ?_|refine QZ ?_|refine qcT rfl ?_|refine qcF rfl ?_|refine E_blockX ?_|refine E_blockO rfl ?_|refine qs rfl rfl rfl rfl rfl rfl ?_|((try refine qg rfl rfl rfl ?_);first|refine QV QP ?_|refine QV (rr_loadB (i := 0) TyC.ty rfl rfl rfl) ?_|refine QV QL ?_|refine QV QA ?_|refine QV (rr_not rfl rfl) ?_|refine QV QlT ?_|refine QV QlF ?_|refine QV QnT ?_|refine QV QnF ?_|refine QV QaA ?_))
    refine TL_call (he1 EntersC.en rfl rfl) (fun w' hm => (hof w' hm.below).mono fun e w2 h => meets_of h) rfl rfl rfl ?_
    rintro x _
    conv=>arg 8;simp only[zA,zB,zC,zD,zE,zF,zG,zH,zI,rowS,ret,id_eq]
    refine TL_pick [0, 5] (by decide) rfl ?_
    repeat(first|refine QV QP ?_|refine QZ ?_|refine qcT rfl ?_|refine qcF rfl ?_|refine E_blockX ?_|refine E_blockO rfl ?_|refine qs rfl rfl rfl rfl rfl rfl ?_|((try refine qg rfl rfl rfl ?_);first|refine QV QP ?_|refine QV QL ?_|refine QV QA ?_|refine QV (rr_not rfl rfl) ?_|refine QV QlT ?_|refine QV QlF ?_|refine QV QnT ?_|refine QV QnF ?_|refine QV QaA ?_))
    refine TL_new rfl fun g7 => ?_
    refine TL_storeB (i := 2) rfl rfl rfl rfl rfl rfl ?_
    conv=>arg 8;simp only[zA,zB,zC,zD,zE,zF,zG,zH,zI,rowS,ret,id_eq]
    repeat(first|refine QV QP ?_|refine QZ ?_|refine qcT rfl ?_|refine qcF rfl ?_|refine E_blockX ?_|refine E_blockO rfl ?_|refine qs rfl rfl rfl rfl rfl rfl ?_|((try refine qg rfl rfl rfl ?_);first|refine QV QP ?_|refine QV (rr_loadB (i := 0) TyC.ty rfl rfl rfl) ?_|refine QV QL ?_|refine QV QA ?_|refine QV (rr_not rfl rfl) ?_|refine QV QlT ?_|refine QV QlF ?_|refine QV QnT ?_|refine QV QnF ?_|refine QV QaA ?_))
    refine TL_call (he2 EntersC.en rfl rfl rfl) (fun w' hm => hfi w' hm.below) rfl rfl rfl ?_
    rintro ⟨gc, gm, c, Bd⟩ ⟨hx, _⟩
    dsimp only at hx
    have hx : Lfp word prods n c := hx
    have hbg2 := hbg c hx
    clear hfi hck hof
    conv=>arg 8;simp only[zA,zB,zC,zD,zE,zF,zG,zH,zI,rowS,ret,id_eq, filledS]
    repeat(first|refine QV QP ?_|refine QZ ?_|refine qcT rfl ?_|refine qcF rfl ?_|refine E_blockX ?_|refine E_blockO rfl ?_|refine qs rfl rfl rfl rfl rfl rfl ?_|((try refine qg rfl rfl rfl ?_);first|refine QV QP ?_|refine QV (rr_load1 TyC.ty rfl (at_blk (i := 0) rfl rfl)) ?_|refine QV QL ?_|refine QV QA ?_|refine QV (rr_not rfl rfl) ?_|refine QV QlT ?_|refine QV QlF ?_|refine QV QnT ?_|refine QV QnF ?_|refine QV QaA ?_))
    refine TL_makeA idV (.slice none 0 0) rfl rfl (by omega) (by omega) rfl fun g11 => ?_
    conv=>arg 8;simp only[zA,zB,zC,zD,zE,zF,zG,zH,zI,rowS,ret,id_eq]
    repeat(first|refine QV QP ?_|refine QZ ?_|refine qcT rfl ?_|refine qcF rfl ?_|refine E_blockX ?_|refine E_blockO rfl ?_|refine qs rfl rfl rfl rfl rfl rfl ?_|((try refine qg rfl rfl rfl ?_);first|refine QV QP ?_|refine QV QL ?_|refine QV QA ?_|refine QV (rr_not rfl rfl) ?_|refine QV QlT ?_|refine QV QlF ?_|refine QV QnT ?_|refine QV QnF ?_|refine QV QaA ?_))
    refine T_extra (famP (fun k => k < 0) fun i => rowA 4 boolV 0 (word.length + 1) fun _ => false) (fun k hk => hk.elim (fun h => by cases h) fun ⟨i, h, _⟩ => by omega) (fun w => ⟨fun i h => by omega, fun i j h => by omega⟩) ?_
    refine T_loop (ι := Nat × (Nat → Nat)) (fun (k, _) => k ≤ n) (fun (k, _) => [(2, .pointer (some ⟨g2, 0, none⟩)), (7, .pointer (some ⟨g7, 0, none⟩)), (9, .pointer (some ⟨gc, 0, none⟩)), (10, .int .i64 word.length), (11, .slice (some ⟨g11, 0, none⟩) n n), (37, .int .i64 (n : Int)), (38, .int .i64 (k : Int))])
      (fun (k, gs) => [blkO g2 (graV t (n : Int) (.slice bp prods.length cp)).cells 24, rowBn n x.gM x.cM Mf, blkO g7 (facV (vRow n x.gE x.cE) (vRow n x.gF x.cF) (vRow n x.gW x.cW) (vRow n x.gR x.cR) (vRow n x.gM x.cM)).cells 41, blkO gc (chV t (n : Int) (.slice bp prods.length cp) (.slice bw word.length cw) gm) 92, chM gm c Bd, rowA 38 idV g11 n (fun j => if j < k then rowsV (word.length + 1) (gs j) else .slice none 0 0), famP (fun j => j < k) fun j => rowA 4 boolV (gs j) (word.length + 1) fun _ => false]) (fun (k, _) => n - k) (0, fun _ => 0) (Nat.zero_le _) (by repeat' (first | exact True.intro | refine And.intro rfl ?_)) rfl ?_
    rintro ⟨k, gs⟩ k1
    dsimp only at k1 ⊢
    by_cases c7 : k < n
    · repeat(first|refine QV QP ?_|refine QZ ?_|refine qcT rfl ?_|refine qcF rfl ?_|refine E_blockX ?_|refine E_blockO rfl ?_|refine qs rfl rfl rfl rfl rfl rfl ?_|((try refine qg rfl rfl rfl ?_);first|refine QV QP ?_|refine QV (rr_add64 (r := ((word.length + 1 : Nat) : Int)) rfl rfl (by omega) (by omega) (by omega)) ?_|refine QV QL ?_|refine QV QA ?_|refine QV (rr_not rfl rfl) ?_|refine QV QlT ?_|refine QV QlF ?_|refine QV QnT ?_|refine QV QnF ?_|refine QV QaA ?_))
      refine TL_makeA boolV false rfl rfl (by omega) (by omega) rfl fun g45 => ?_
      conv=>arg 8;simp only[zA,zB,zC,zD,zE,zF,zG,zH,zI,rowS,ret,id_eq]
      repeat(first|refine QV QP ?_|refine QZ ?_|refine qcT rfl ?_|refine qcF rfl ?_|refine E_blockX ?_|refine E_blockO rfl ?_|refine qs rfl rfl rfl rfl rfl rfl ?_|((try refine qg rfl rfl rfl ?_);first|refine QV QP ?_|refine QV (rr_idx1 Und.eq TyC.ty rfl rfl c7) ?_|refine QV QL ?_|refine QV QA ?_|refine QV (rr_not rfl rfl) ?_|refine QV QlT ?_|refine QV QlF ?_|refine QV QnT ?_|refine QV QnF ?_|refine QV QaA ?_))
      refine TL_storeA (i := 5) (v := rowsV (word.length + 1) g45) (fun j => if j < k + 1 then rowsV (word.length + 1) (if j = k then g45 else gs j) else .slice none 0 0) TyC.ty rfl rfl rfl rfl rfl c7 (fun i _ => by
        by_cases e : i = k
        · subst e; simp
        · by_cases e2 : i < k
          · simp [e, e2, show i < k + 1 by omega]
          · simp [e, e2, show ¬ i < k + 1 by omega]) ?_
      conv=>arg 8;simp only[zA,zB,zC,zD,zE,zF,zG,zH,zI,rowS,ret,id_eq]
      repeat(first|refine QV QP ?_|refine QZ ?_|refine qcT rfl ?_|refine qcF rfl ?_|refine E_blockX ?_|refine E_blockO rfl ?_|refine qs rfl rfl rfl rfl rfl rfl ?_|((try refine qg rfl rfl rfl ?_);first|refine QV QP ?_|refine QV QL ?_|refine QV QA ?_|refine QV (rr_not rfl rfl) ?_|refine QV QlT ?_|refine QV QlF ?_|refine QV QnT ?_|refine QV QnF ?_|refine QV QaA ?_))
      refine E_put (D' := fun j => j < k + 1) (f' := fun j => rowA 4 boolV (if j = k then g45 else gs j) (word.length + 1) fun _ => false) k 6 7 [0, 1, 2, 3, 4, 5] (by decide) rfl rfl rfl (by omega) (fun j hj => by omega) (fun j hj => by
        unfold upd
        by_cases e : j = k <;> simp [e]) ?_
      exact E_round (k + 1, fun j => if j = k then g45 else gs j) (by show k + 1 ≤ n; omega) (by show n - (k + 1) < n - k; omega) (by repeat' (first | exact True.intro | refine And.intro rfl ?_)) rfl
    · obtain rfl : k = n := by omega
      rw [rowA_rows]
      repeat(first|refine QV QP ?_|refine QZ ?_|refine qcT rfl ?_|refine qcF rfl ?_|refine E_blockX ?_|refine E_blockO rfl ?_|refine qs rfl rfl rfl rfl rfl rfl ?_|((try refine qg rfl rfl rfl ?_);first|refine QV QP ?_|refine QV QL ?_|refine QV QA ?_|refine QV (rr_not rfl rfl) ?_|refine QV QlT ?_|refine QV QlF ?_|refine QV QnT ?_|refine QV QnF ?_|refine QV QaA ?_))
      refine T_loop (ι := (Nat → Nat → Bool) × Bool) (fun (O, mr) => SoundO prods word O ∧ (mr = false → O 0 0 = res)) (fun (_, mr) => [(2, .pointer (some ⟨g2, 0, none⟩)), (7, .pointer (some ⟨g7, 0, none⟩)), (9, .pointer (some ⟨gc, 0, none⟩)), (10, .int .i64 word.length), (11, .slice (some ⟨g11, 0, none⟩) k k), (13, .bool mr)])
        (fun (O, _) => [blkO g2 (graV t (k : Int) (.slice bp prods.length cp)).cells 24, rowBn k x.gM x.cM Mf, blkO g7 (facV (vRow k x.gE x.cE) (vRow k x.gF x.cF) (vRow k x.gW x.cW) (vRow k x.gR x.cR) (vRow k x.gM x.cM)).cells 41, blkO gc (chV t (k : Int) (.slice bp prods.length cp) (.slice bw word.length cw) gm) 92, chM gm c Bd, rowA 38 (rowsV (word.length + 1)) g11 k gs, famP (fun j => j < k) fun j => rowA 4 boolV (gs j) (word.length + 1) (O j)]) (fun (O, mr) => 2 * fal k (word.length + 1) O + (if mr = true then 1 else 0)) (fun _ _ => false, true) ⟨fun _ _ h => (by cases h), fun h => (by cases h)⟩ (by repeat' (first | exact True.intro | refine And.intro rfl ?_)) rfl ?_
      rintro ⟨O, mr⟩ ⟨i1, i2⟩
      dsimp only at i1 i2 ⊢
      cases mr
      · have i2 := i2 rfl
        have hk0 : 0 < k := by omega
        have hb0 : ∀ L : List Own, L[6]? = some (famP (fun j => j < k) fun j => rowA 4 boolV (gs j) (word.length + 1) (O j)) → At w L ⟨gs 0, 0 + 0, none⟩ (.bool res) := fun L hL => by
          rw [← i2]
          exact at_hold hL fun w hh => rowA_cell (hh.1 0 hk0) (by omega)
        repeat(first|refine QV QP ?_|refine QZ ?_|refine qcT rfl ?_|refine qcF rfl ?_|refine E_blockX ?_|refine E_blockO rfl ?_|refine qs rfl rfl rfl rfl rfl rfl ?_|((try refine qg rfl rfl rfl ?_);first|refine QV QP ?_|refine QV (rr_idx1 (j := 0) Und.eq TyC.ty rfl rfl hk0) ?_|refine QV (rr_load1 TyC.ty rfl (at_rowA (i := 5) (k := 0) rfl hk0)) ?_|refine QV (rr_idx1 (j := 0) Und.eq TyC.ty rfl rfl (by omega : 0 < word.length + 1)) ?_|refine QV (rr_load1 TyC.ty rfl (hb0 _ rfl)) ?_|refine QV QL ?_|refine QV QA ?_|refine QV (rr_not rfl rfl) ?_|refine QV QlT ?_|refine QV QlF ?_|refine QV QnT ?_|refine QV QnF ?_|refine QV QaA ?_))
        exact E_ret2 rfl rfl rfl fun w hm => hm.ret
      · clear i2
        repeat(first|refine QV QP ?_|refine QZ ?_|refine qcT rfl ?_|refine qcF rfl ?_|refine E_blockX ?_|refine E_blockO rfl ?_|refine qs rfl rfl rfl rfl rfl rfl ?_|((try refine qg rfl rfl rfl ?_);first|refine QV QP ?_|refine QV (rr_load1 TyC.ty rfl (at_blk (i := 0) rfl rfl)) ?_|refine QV QL ?_|refine QV QA ?_|refine QV (rr_not rfl rfl) ?_|refine QV QlT ?_|refine QV QlF ?_|refine QV QnT ?_|refine QV QnF ?_|refine QV QaA ?_))
        refine T_loop (ι := Nat × (Nat → Nat → Bool) × Bool) (fun (i, O', m2) => i ≤ prods.length ∧ PassO prods word (oneF c word) Mf k O O' m2 i 0) (fun (i, _, m2) => [(2, .pointer (some ⟨g2, 0, none⟩)), (7, .pointer (some ⟨g7, 0, none⟩)), (9, .pointer (some ⟨gc, 0, none⟩)), (10, .int .i64 word.length), (11, .slice (some ⟨g11, 0, none⟩) k k), (13, .bool m2), (50, .slice bp prods.length cp), (51, .int .i64 prods.length), (52, .int .i64 (i : Int))])
          (fun (_, O', _) => [blkO g2 (graV t (k : Int) (.slice bp prods.length cp)).cells 24, rowBn k x.gM x.cM Mf, blkO g7 (facV (vRow k x.gE x.cE) (vRow k x.gF x.cF) (vRow k x.gW x.cW) (vRow k x.gR x.cR) (vRow k x.gM x.cM)).cells 41, blkO gc (chV t (k : Int) (.slice bp prods.length cp) (.slice bw word.length cw) gm) 92, chM gm c Bd, rowA 38 (rowsV (word.length + 1)) g11 k gs, famP (fun j => j < k) fun j => rowA 4 boolV (gs j) (word.length + 1) (O' j)]) (fun (i, _, _) => prods.length - i) (0, O, false) ⟨Nat.zero_le _, PassO.start i1 _ _⟩ (by repeat' (first | exact True.intro | refine And.intro rfl ?_)) rfl ?_
        rintro ⟨i, O', m2⟩ ⟨j1, j2⟩
        dsimp only at j1 j2 ⊢
        by_cases c8 : i < prods.length
        · obtain ⟨b, off, rfl, _, hr⟩ := hrp (by omega)
          obtain ⟨bb, cb, y1, y2, y3⟩ := prod_at hr c8
          have hat : ∀ (L : List Own) (j : Nat) (v : Value), ([.int .i64 prods[i].1, .slice bb prods[i].2.length cb] : List Value)[j]? = some v → At w L ⟨b, off + i * 2 + j, none⟩ v := fun L j v hj => at_old (y1 j v hj)
          have hfl := y3.flat (by decide)
          obtain ⟨s1, s2, s3⟩ := hsy _ (List.getElem_mem c8)
          have hok3 := (f1 _ (List.getElem_mem c8)).2.2
          have hskip := fun (O' : Nat → Nat → Bool) m2 a (h : PassO prods word (oneF c word) Mf k O O' m2 i a) hn => h.skip c8 hn
          have hset := fun (O' : Nat → Nat → Bool) m2 a (h : PassO prods word (oneF c word) Mf k O O' m2 i a) h1 h2 h3 h4 => h.set hMs hx hsy c8 h1 h2 h3 h4
          clear y1 y3 hr hrp
          generalize prods[i] = pd at *
          obtain ⟨hd, body⟩ := pd
          dsimp only at *
          obtain ⟨hn, rfl⟩ : ∃ hn : Nat, hd = hn := ⟨hd.toNat, by omega⟩
          have hlt : hn < k := by omega
          rw [Int.toNat_natCast] at hskip hset
          have hop := fun O' a w' hch hbits hM hsl ha => hop gc gm g11 x.gM x.cM (vRow k x.gE x.cE) (vRow k x.gF x.cF) (vRow k x.gW x.cW) (vRow k x.gR x.cR) (.slice bb body.length cb) c Bd O' body a w' hch hbits hM hsl s3 hok3 ha ⟨_, _, _, _, _, _, _, _, _, _, _, _, rfl, rfl, rfl, rfl⟩
          repeat(first|refine QV QP ?_|refine QZ ?_|refine qcT rfl ?_|refine qcF rfl ?_|refine E_blockX ?_|refine E_blockO rfl ?_|refine qs rfl rfl rfl rfl rfl rfl ?_|((try refine qg rfl rfl rfl ?_);first|refine QV QP ?_|refine QV (rr_idxc Und.eq TyC.ty rfl rfl c8) ?_|refine QV (rr_loadN TyC.ty rfl rfl (hat _)) ?_|refine QV QL ?_|refine QV QA ?_|refine QV (rr_not rfl rfl) ?_|refine QV QlT ?_|refine QV QlF ?_|refine QV QnT ?_|refine QV QnF ?_|refine QV QaA ?_))
          refine TL_new rfl fun g15 => ?_
          refine TL_storeB (i := 7) rfl rfl rfl rfl rfl rfl ?_
          conv=>arg 8;simp only[zA,zB,zC,zD,zE,zF,zG,zH,zI,rowS,ret,id_eq]
          repeat(first|refine QV QP ?_|refine QZ ?_|refine qcT rfl ?_|refine qcF rfl ?_|refine E_blockX ?_|refine E_blockO rfl ?_|refine qs rfl rfl rfl rfl rfl rfl ?_|((try refine qg rfl rfl rfl ?_);first|refine QV QP ?_|refine QV (rr_add64 (r := ((word.length + 1 : Nat) : Int)) rfl rfl (by omega) (by omega) (by omega)) ?_|refine QV QL ?_|refine QV QA ?_|refine QV (rr_not rfl rfl) ?_|refine QV QlT ?_|refine QV QlF ?_|refine QV QnT ?_|refine QV QnF ?_|refine QV QaA ?_))
          refine T_pick [0, 1, 2, 3, 4, 5, 7, 6] (by decide) rfl ?_
          refine T_loop (ι := Nat × (Nat → Nat → Bool) × Bool) (fun (a, O', m2) => a ≤ word.length + 1 ∧ PassO prods word (oneF c word) Mf k O O' m2 i a) (fun (a, _, m2) => [(2, .pointer (some ⟨g2, 0, none⟩)), (7, .pointer (some ⟨g7, 0, none⟩)), (9, .pointer (some ⟨gc, 0, none⟩)), (10, .int .i64 word.length), (11, .slice (some ⟨g11, 0, none⟩) k k), (13, .bool m2), (15, .pointer (some ⟨g15, 0, none⟩)), (50, .slice (some ⟨b, off, none⟩) prods.length cp), (51, .int .i64 prods.length), (52, .int .i64 (i : Int)), (57, .int .i64 ((word.length + 1 : Nat) : Int)), (58, .int .i64 (a : Int))])
            (fun (_, O', _) => [blkO g2 (graV t (k : Int) (.slice (some ⟨b, off, none⟩) prods.length cp)).cells 24, rowBn k x.gM x.cM Mf, blkO g7 (facV (vRow k x.gE x.cE) (vRow k x.gF x.cF) (vRow k x.gW x.cW) (vRow k x.gR x.cR) (vRow k x.gM x.cM)).cells 41, blkO gc (chV t (k : Int) (.slice (some ⟨b, off, none⟩) prods.length cp) (.slice bw word.length cw) gm) 92, chM gm c Bd, rowA 38 (rowsV (word.length + 1)) g11 k gs, blkO g15 #[.int .i64 (hn : Int), .slice bb body.length cb] 68, famP (fun j => j < k) fun j => rowA 4 boolV (gs j) (word.length + 1) (O' j)]) (fun (a, _, _) => word.length + 1 - a) (0, O', m2) ⟨Nat.zero_le _, j2⟩ (by repeat' (first | exact True.intro | refine And.intro rfl ?_)) rfl ?_
          clear j2
          rintro ⟨a, O', m2⟩ ⟨l1, l2⟩
          dsimp only at l1 l2 ⊢
          by_cases c9 : a < word.length + 1
          · have hbit0 : ∀ L : List Own, L[7]? = some (famP (fun j => j < k) fun j => rowA 4 boolV (gs j) (word.length + 1) (O' j)) → At w L ⟨gs hn, 0 + a, none⟩ (.bool (O' hn a)) := fun L hL => at_hold hL fun w hh => rowA_cell (hh.1 hn hlt) c9
            cases hOb : O' hn a
            · have hbit : ∀ L : List Own, L[7]? = some (famP (fun j => j < k) fun j => rowA 4 boolV (gs j) (word.length + 1) (O' j)) → At w L ⟨gs hn, 0 + a, none⟩ (.bool false) := by rw [← hOb]; exact hbit0
              repeat(first|refine QV QP ?_|refine QZ ?_|refine qcT rfl ?_|refine qcF rfl ?_|refine E_blockX ?_|refine E_blockO rfl ?_|refine qs rfl rfl rfl rfl rfl rfl ?_|((try refine qg rfl rfl rfl ?_);first|refine QV QP ?_|refine QV (rr_load1 TyC.ty rfl (at_blk (i := 6) rfl rfl)) ?_|refine QV (rr_idx1 Und.eq TyC.ty rfl rfl hlt) ?_|refine QV (rr_load1 TyC.ty rfl (at_rowA (i := 5) rfl hlt)) ?_|refine QV (rr_idx1 Und.eq TyC.ty rfl rfl c9) ?_|refine QV (rr_load1 TyC.ty rfl (hbit _ rfl)) ?_|refine QV (rr_loadB (i := 2) TyC.ty rfl rfl rfl) ?_|refine QV QL ?_|refine QV QA ?_|refine QV (rr_not rfl rfl) ?_|refine QV QlT ?_|refine QV QlF ?_|refine QV QnT ?_|refine QV QnF ?_|refine QV QaA ?_))
              refine TL_gcall (he5 EntersC.en rfl rfl rfl rfl rfl rfl) (fun w hm => hop O' a w ⟨hm.get (i := 3) rfl, hm.get (i := 4) rfl, hs0.gr hm.below⟩ (bits_of (hm.get (i := 5) rfl) (hm.get (i := 7) rfl)) (by rw [hMl]; exact sl_row (i := 1) rfl w hm) (hfl.gr hm.below) (by omega)) rfl rfl rfl rfl rfl ?_
              intro _ _
              conv=>arg 8;simp only[zA,zB,zC,zD,zE,zF,zG,zH,zI,rowS,ret,id_eq]
              cases hopn : opensF (oneF c word) O' Mf word.length a body
              · repeat(first|refine QV QP ?_|refine QZ ?_|refine qcT rfl ?_|refine qcF rfl ?_|refine E_blockX ?_|refine E_blockO rfl ?_|refine qs rfl rfl rfl rfl rfl rfl ?_|((try refine qg rfl rfl rfl ?_);first|refine QV QP ?_|refine QV QL ?_|refine QV QA ?_|refine QV (rr_not rfl rfl) ?_|refine QV QlT ?_|refine QV QlF ?_|refine QV QnT ?_|refine QV QnF ?_|refine QV QaA ?_))
                exact E_round (a + 1, O', m2) ⟨by omega, hskip O' m2 a l2 (.inr hopn)⟩ (by show word.length + 1 - (a + 1) < word.length + 1 - a; omega) (by repeat' (first | exact True.intro | refine And.intro rfl ?_)) rfl
              · repeat(first|refine QV QP ?_|refine QZ ?_|refine qcT rfl ?_|refine qcF rfl ?_|refine E_blockX ?_|refine E_blockO rfl ?_|refine qs rfl rfl rfl rfl rfl rfl ?_|((try refine qg rfl rfl rfl ?_);first|refine QV QP ?_|refine QV (rr_load1 TyC.ty rfl (at_blk (i := 6) rfl rfl)) ?_|refine QV (rr_idx1 Und.eq TyC.ty rfl rfl hlt) ?_|refine QV (rr_load1 TyC.ty rfl (at_rowA (i := 5) rfl hlt)) ?_|refine QV (rr_idx1 Und.eq TyC.ty rfl rfl c9) ?_|refine QV QL ?_|refine QV QA ?_|refine QV (rr_not rfl rfl) ?_|refine QV QlT ?_|refine QV QlF ?_|refine QV QnT ?_|refine QV QnF ?_|refine QV QaA ?_))
                refine TL_take (q := 7) hn rfl hlt ?_
                conv=>arg 8;simp only[zA,zB,zC,zD,zE,zF,zG,zH,zI,rowS,ret,id_eq]
                refine TL_storeA (i := 8) (v := true) (setB O' hn a hn) TyC.ty rfl rfl rfl rfl rfl c9 (fun j _ => by
                  unfold setB
                  by_cases e : j = a <;> simp [e]) ?_
                conv=>arg 8;simp only[zA,zB,zC,zD,zE,zF,zG,zH,zI,rowS,ret,id_eq]
                refine TL_put (D' := fun j => j < k) (f' := fun j => rowA 4 boolV (gs j) (word.length + 1) (setB O' hn a j)) hn 7 8 [0, 1, 2, 3, 4, 5, 6] (by decide) rfl rfl rfl (fun h => h.2 rfl) (fun j hj => by
                  by_cases e : j = hn
                  · exact .inr e
                  · exact .inl ⟨hj, e⟩) (fun j hj => by
                  by_cases e : j = hn
                  · subst e; rw [upd_eq]
                  · rw [upd_ne e]
                    congr 1
                    funext b
                    unfold setB
                    rw [if_neg fun h => e h.1]) ?_
                conv=>arg 8;simp only[zA,zB,zC,zD,zE,zF,zG,zH,zI,rowS,ret,id_eq]
                repeat(first|refine QV QP ?_|refine QZ ?_|refine qcT rfl ?_|refine qcF rfl ?_|refine E_blockX ?_|refine E_blockO rfl ?_|refine qs rfl rfl rfl rfl rfl rfl ?_|((try refine qg rfl rfl rfl ?_);first|refine QV QP ?_|refine QV QL ?_|refine QV QA ?_|refine QV (rr_not rfl rfl) ?_|refine QV QlT ?_|refine QV QlF ?_|refine QV QnT ?_|refine QV QnF ?_|refine QV QaA ?_))
                exact E_round (a + 1, setB O' hn a, true) ⟨by omega, hset O' m2 a l2 (by omega) hlt hOb hopn⟩ (by show word.length + 1 - (a + 1) < word.length + 1 - a; omega) (by repeat' (first | exact True.intro | refine And.intro rfl ?_)) rfl
            · have hbit : ∀ L : List Own, L[7]? = some (famP (fun j => j < k) fun j => rowA 4 boolV (gs j) (word.length + 1) (O' j)) → At w L ⟨gs hn, 0 + a, none⟩ (.bool true) := by rw [← hOb]; exact hbit0
              repeat(first|refine QV QP ?_|refine QZ ?_|refine qcT rfl ?_|refine qcF rfl ?_|refine E_blockX ?_|refine E_blockO rfl ?_|refine qs rfl rfl rfl rfl rfl rfl ?_|((try refine qg rfl rfl rfl ?_);first|refine QV QP ?_|refine QV (rr_load1 TyC.ty rfl (at_blk (i := 6) rfl rfl)) ?_|refine QV (rr_idx1 Und.eq TyC.ty rfl rfl hlt) ?_|refine QV (rr_load1 TyC.ty rfl (at_rowA (i := 5) rfl hlt)) ?_|refine QV (rr_idx1 Und.eq TyC.ty rfl rfl c9) ?_|refine QV (rr_load1 TyC.ty rfl (hbit _ rfl)) ?_|refine QV QL ?_|refine QV QA ?_|refine QV (rr_not rfl rfl) ?_|refine QV QlT ?_|refine QV QlF ?_|refine QV QnT ?_|refine QV QnF ?_|refine QV QaA ?_))
              exact E_round (a + 1, O', m2) ⟨by omega, hskip O' m2 a l2 (.inl hOb)⟩ (by show word.length + 1 - (a + 1) < word.length + 1 - a; omega) (by repeat' (first | exact True.intro | refine And.intro rfl ?_)) rfl
          · obtain rfl : a = word.length + 1 := by omega
            repeat(first|refine QV QP ?_|refine QZ ?_|refine qcT rfl ?_|refine qcF rfl ?_|refine E_blockX ?_|refine E_blockO rfl ?_|refine qs rfl rfl rfl rfl rfl rfl ?_|((try refine qg rfl rfl rfl ?_);first|refine QV QP ?_|refine QV QL ?_|refine QV QA ?_|refine QV (rr_not rfl rfl) ?_|refine QV QlT ?_|refine QV QlF ?_|refine QV QnT ?_|refine QV QnF ?_|refine QV QaA ?_))
            refine E_pick [0, 1, 2, 3, 4, 5, 7] (by decide) rfl ?_
            exact E_round (i + 1, O', m2) ⟨by omega, l2.next⟩ (by show prods.length - (i + 1) < prods.length - i; omega) (by repeat' (first | exact True.intro | refine And.intro rfl ?_)) rfl
        · obtain rfl : i = prods.length := by omega
          repeat(first|refine QV QP ?_|refine QZ ?_|refine qcT rfl ?_|refine qcF rfl ?_|refine E_blockX ?_|refine E_blockO rfl ?_|refine qs rfl rfl rfl rfl rfl rfl ?_|((try refine qg rfl rfl rfl ?_);first|refine QV QP ?_|refine QV QL ?_|refine QV QA ?_|refine QV (rr_not rfl rfl) ?_|refine QV QlT ?_|refine QV QlF ?_|refine QV QnT ?_|refine QV QnF ?_|refine QV QaA ?_))
          cases hm2 : m2
          · exact E_round (O', false) ⟨j2.sound, fun _ => hbg2 O O' k (by rw [← hm2]; exact j2)⟩ (by dsimp only; rw [(j2.still hm2).1]; simp) (by repeat' (first | exact True.intro | refine And.intro rfl ?_)) rfl
          · have := j2.less hm2
            exact E_round (O', true) ⟨j2.sound, fun h => by cases h⟩ (by dsimp only; simp; omega) (by repeat' (first | exact True.intro | refine And.intro rfl ?_)) rfl
  · have hb : beginsB g word = false := by
      cases hb : beginsB g word
      · rfl
      · exact absurd (begins_iff.1 hb).1 c0
    rw [hb]
    obtain ⟨vp, rfl, h1, _⟩ := h
    obtain ⟨bw, cw, rfl, _⟩ := hs
    generalize checkC g word = e at *
    obtain ⟨t, n, prods⟩ := g
    dsimp only at *
    refine enter (args := [graV t n vp, .slice bw word.length cw]) (n := 93) Try.func60 rfl rfl rfl ?_
    refine T_seq (T_region (TL_box rfl rfl rfl fun g2 => ?_))
    conv=>arg 8;simp only[zA,zB,zC,zD,zE,zF,zG,zH,zI,rowS,ret,id_eq]
    repeat(first|refine QV QP ?_|refine QZ ?_|refine qcT rfl ?_|refine qcF rfl ?_|refine E_blockX ?_|refine E_blockO rfl ?_|refine qs rfl rfl rfl rfl rfl rfl ?_|((try refine qg rfl rfl rfl ?_);first|refine QV QP ?_|refine QV (rr_loadB (i := 0) TyC.ty rfl rfl rfl) ?_|refine QV QL ?_|refine QV QA ?_|refine QV (rr_not rfl rfl) ?_|refine QV QlT ?_|refine QV QlF ?_|refine QV QnT ?_|refine QV QnF ?_|refine QV QaA ?_))
    refine TL_call (he2 EntersC.en rfl rfl rfl) (fun w hm => hck _ hm.below) rfl rfl rfl ?_
    intro _ _
    conv=>arg 8;simp only[zA,zB,zC,zD,zE,zF,zG,zH,zI,rowS,ret,id_eq]
    repeat(first|refine QV QP ?_|refine QZ ?_|refine qcT rfl ?_|refine qcF rfl ?_|refine E_blockX ?_|refine E_blockO rfl ?_|refine qs rfl rfl rfl rfl rfl rfl ?_|((try refine qg rfl rfl rfl ?_);first|refine QV QP ?_|refine QV QL ?_|refine QV QA ?_|refine QV (rr_not rfl rfl) ?_|refine QV QlT ?_|refine QV QlF ?_|refine QV QnT ?_|refine QV QnF ?_|refine QV QaA ?_))
    exact E_ret2 rfl rfl rfl fun w hm => hm.ret
end Go.Proofs.Ytlojfbnimmdehaa.eng

/- BoolC -/
namespace Go.Proofs.Ytlojfbnimmdehaa.eng
open Go.RowKit kit mix
set_option maxHeartbeats 2000000 in
theorem indexBool_calls (v : Value) (l : List Bool) (x : Bool) (w : World) (hs : Sl w v l.length (l.map .bool)) :
    Calls Try.prog 42 #[v, .bool x] w (Meets (ret (.int .i64 (idxF (· == x) l))) w) := by
  obtain ⟨base, cap, rfl, hcap, hmax, hrd⟩ := hs
  unfold maxLen at hmax
  refine enter (args := [.slice base l.length cap, .bool x]) (n := 19) Try.func42 rfl rfl rfl ?_
  repeat(first|refine QV QP ?_|refine QZ ?_|refine qcT rfl ?_|refine qcF rfl ?_|refine E_blockX ?_|refine E_blockO rfl ?_|refine QV QL ?_|refine QV QlT ?_|refine QV QlF ?_|refine QV QaA ?_)
  refine T_loop (ι := Nat) (fun k => k ≤ l.length ∧ ∀ j (hj : j < l.length), j < k → (l[j] == x) = false) (fun k => [(0, .slice base l.length cap), (1, .bool x), (7, .int .i64 l.length), (8, .int .i64 (k : Int))]) (fun _ => []) (fun k => l.length - k) 0 ⟨by omega, fun j hj h => by omega⟩ (by repeat' (first | exact True.intro | refine And.intro rfl ?_)) rfl ?_
  rintro k ⟨h1, h2⟩
  by_cases c2 : k < l.length
  · obtain ⟨b, off, rfl, hr⟩ := hrd (by omega)
    have hat := at_rdm (L := ([] : List Own)) hr c2
    by_cases c3 : (l[k] == x) = true
    · rw [idxF_some c2 c3 h2]
      have e : x = l[k] := by simpa using (beq_iff_eq.1 c3).symm
      clear h2 hrd
      subst e
      repeat(first|refine QV QP ?_|refine QZ ?_|refine qcT rfl ?_|refine qcF rfl ?_|refine E_blockX ?_|refine E_blockO rfl ?_|refine QV (rr_idx1 Und.eq TyC.ty rfl rfl c2) ?_|refine QV (rr_load1 TyC.ty rfl hat) ?_|refine QV (rr_booleq (c := true) Und.eq rfl rfl (by simp)) ?_|refine QV QL ?_|refine QV QlT ?_|refine QV QlF ?_|refine QV QaA ?_)
      exact E_ret1 rfl rfl fun w hm => hm.ret
    · have c3' : (l[k] == x) = false := by simpa using c3
      have e : (x == l[k]) = false := by rw [beq_eq_false_iff_ne] at c3' ⊢; exact fun h => c3' h.symm
      clear hrd c3
      repeat(first|refine QV QP ?_|refine QZ ?_|refine qcT rfl ?_|refine qcF rfl ?_|refine E_blockX ?_|refine E_blockO rfl ?_|refine QV (rr_idx1 Und.eq TyC.ty rfl rfl c2) ?_|refine QV (rr_load1 TyC.ty rfl hat) ?_|refine QV (rr_booleq (c := false) Und.eq rfl rfl e) ?_|refine QV QL ?_|refine QV QlT ?_|refine QV QlF ?_|refine QV QaA ?_)
      exact E_round (k + 1) ⟨by omega, fun j hj h => if e : j < k then h2 j hj e else (by obtain rfl : j = k := (by omega); exact c3')⟩ (by show l.length - (k + 1) < l.length - k; omega) (by repeat' (first | exact True.intro | refine And.intro rfl ?_)) rfl
  · rw [idxF_none fun j hj => h2 j hj (by omega)]
    clear h2 hrd
    repeat(first|refine QV QP ?_|refine QZ ?_|refine qcT rfl ?_|refine qcF rfl ?_|refine E_blockX ?_|refine E_blockO rfl ?_|refine QV QL ?_|refine QV QlT ?_|refine QV QlF ?_|refine QV QaA ?_)
    exact E_ret1 rfl rfl fun w hm => hm.ret
theorem containsBool_calls (v : Value) (l : List Bool) (x : Bool) (w : World) (hs : Sl w v l.length (l.map .bool)) :
    Calls Try.prog 15 #[v, .bool x] w (Meets (ret (.bool (l.any (· == x)))) w) := by
  refine enter (args := [v, .bool x]) (n := 9) Try.func15 rfl rfl rfl ?_
  have hh := fun w' (hg : Gr w w') => indexBool_calls v l x w' (hs.gr hg)
  have hr := idxF_range (· == x) l
  rw [← idxF_any (· == x) l]
  generalize idxF (· == x) l = r at *
  repeat(first|refine QV QP ?_|refine QZ ?_|refine QV QhT ?_|refine QV QhF ?_)
  refine TL_call (he2 EntersC.en rfl rfl rfl) (fun w hm => hh _ hm.below) rfl rfl rfl ?_
  intro _ _
  repeat(first|refine QV QP ?_|refine QZ ?_|refine QV (rr_geq rfl rfl rfl) ?_|refine QV QhT ?_|refine QV QhF ?_)
  exact E_ret1 rfl rfl fun w hm => hm.ret
end Go.Proofs.Ytlojfbnimmdehaa.eng

/- ClimbF -/
namespace Go.Proofs.Ytlojfbnimmdehaa.eng
open Go.RowKit kit mix gramL treeL climbL llL countL factsL derL
theorem sl_upto {α : Type} {f : α → Value} {w : World} {b : Option Addr} {c : Nat} {l : List α} (h : Sl w (.slice b l.length c) l.length (l.map f)) {k : Nat} (hk : k ≤ l.length) : Sl w (.slice b k c) (l.take k).length ((l.take k).map f) := by
  obtain ⟨b', c', he, h1, h2, h3⟩ := h
  simp only [Value.slice.injEq, true_and] at he
  obtain ⟨rfl, rfl⟩ := he
  have hl : (l.take k).length = k := by rw [List.length_take]; omega
  refine ⟨b, c, by rw [hl], by rw [hl]; omega, h2, fun h0 => ?_⟩
  rw [hl] at h0
  obtain ⟨b', off, e, hr⟩ := h3 (by omega)
  refine ⟨b', off, e, fun j u hj => hr j u ?_⟩
  rw [List.map_take, List.getElem?_take] at hj
  split at hj
  · exact hj
  · cases hj
set_option maxHeartbeats 4000000 in
theorem soon_calls (v vw : Value) (g : Gram) (word : List Int) (had n : Nat) (e : Int) (w : World) (h : GraR (fun k => k < w.heap.size) w v g) (hs : Sl w vw word.length (word.map (.int .i64))) (hc : checkC g word = 0) (hn : g.nons = n) (hle : had ≤ word.length)
    (H : (ofS n g.prods).M.any (· == false) = false → e ≠ 14 → beginsB g (word.take had) = true ∧ (had ≠ word.length → beginsB g (word.take (had + 1)) = false)) :
    Calls Try.prog 29 #[v, vw, .int .i64 (had : Int), .int .i64 e] w (Meets (ret (.bool true)) w) := by
  have hck := (checkC_ok hc).1
  have hOf := fun w' (hg : Gr w w') => of_calls v g w' (h.gr hg) hck n hn
  have hB := fun v' l w' (hg : Gr w w') hs => begins_calls v v' g l w' (h.gr hg) hs
  obtain ⟨⟨_, _, hM⟩, _⟩ := sound_of hck hn
  obtain ⟨vp, rfl, _⟩ := h
  have hs0 := hs
  obtain ⟨bw, cw, rfl, hw1, hw2, hw3⟩ := hs
  unfold maxLen at hw2
  refine enter (args := [graV g.terms g.nons vp, .slice bw word.length cw, .int .i64 (had : Int), .int .i64 e]) (n := 54) Try.func29 rfl rfl rfl ?_
  refine T_seq (T_region (TL_box rfl rfl rfl fun g4 => ?_))
  conv=>arg 8;simp only[zA,zB,zC,zD,zE,zF,zG,zH,zI,rowS,ret,id_eq]
  repeat(first|refine QV QP ?_|refine QZ ?_|refine qcT rfl ?_|refine qcF rfl ?_|refine qs rfl rfl rfl rfl rfl rfl ?_|((try refine qg rfl rfl rfl ?_);first|refine QV QP ?_|refine QV (rr_loadB (i := 0) TyC.ty rfl rfl rfl) ?_|refine QV QL ?_|refine QV QA ?_|refine QV QeT ?_|refine QV QeF ?_|refine QV QaA ?_|refine QV (rr_not rfl rfl) ?_))
  refine TL_call (he1 EntersC.en rfl rfl) (fun w' hm => (hOf w' hm.below).mono fun e w2 h => meets_of h) rfl rfl rfl ?_
  intro x _
  conv=>arg 8;simp only[zA,zB,zC,zD,zE,zF,zG,zH,zI,rowS,ret,id_eq, Rows5.val]
  repeat(first|refine QV QP ?_|refine QZ ?_|refine qcT rfl ?_|refine qcF rfl ?_|refine qs rfl rfl rfl rfl rfl rfl ?_|((try refine qg rfl rfl rfl ?_);first|refine QV QP ?_|refine QV QL ?_|refine QV QA ?_|refine QV QeT ?_|refine QV QeF ?_|refine QV QaA ?_|refine QV (rr_not rfl rfl) ?_))
  refine TL_new rfl fun g9 => ?_
  refine TL_storeB (i := 6) rfl rfl rfl rfl rfl rfl ?_
  conv=>arg 8;simp only[zA,zB,zC,zD,zE,zF,zG,zH,zI,rowS,ret,id_eq]
  generalize (ofS n g.prods).M = M at *
  repeat(first|refine QV QP ?_|refine QZ ?_|refine qcT rfl ?_|refine qcF rfl ?_|refine qs rfl rfl rfl rfl rfl rfl ?_|((try refine qg rfl rfl rfl ?_);first|refine QV QP ?_|refine QV (rr_load1 TyC.ty rfl (at_blk (i := 6) rfl rfl)) ?_|refine QV QL ?_|refine QV QA ?_|refine QV QeT ?_|refine QV QeF ?_|refine QV QaA ?_|refine QV (rr_not rfl rfl) ?_))
  refine TL_call (he2 EntersC.en rfl rfl rfl) (fun w' hm => containsBool_calls _ M false w' (by have := Sl.of_own (hm.get (i := 5) rfl); rw [hM]; exact this)) rfl rfl rfl ?_
  intro _ _
  conv=>arg 8;simp only[zA,zB,zC,zD,zE,zF,zG,zH,zI,rowS,ret,id_eq]
  cases hany : M.any (· == false) with
  | true =>
    repeat(first|refine QV QP ?_|refine QZ ?_|refine qcT rfl ?_|refine qcF rfl ?_|refine qs rfl rfl rfl rfl rfl rfl ?_|((try refine qg rfl rfl rfl ?_);first|refine QV QP ?_|refine QV QL ?_|refine QV QA ?_|refine QV QeT ?_|refine QV QeF ?_|refine QV QaA ?_|refine QV (rr_not rfl rfl) ?_))
    exact E_ret1 rfl rfl fun w hm => hm.ret
  | false =>
    by_cases c14 : e = 14
    · subst c14
      repeat(first|refine QV QP ?_|refine QZ ?_|refine qcT rfl ?_|refine qcF rfl ?_|refine qs rfl rfl rfl rfl rfl rfl ?_|((try refine qg rfl rfl rfl ?_);first|refine QV QP ?_|refine QV (rr_eql (b := true) rfl rfl rfl) ?_|refine QV QL ?_|refine QV QA ?_|refine QV QeT ?_|refine QV QeF ?_|refine QV QaA ?_|refine QV (rr_not rfl rfl) ?_))
      exact E_ret1 rfl rfl fun w hm => hm.ret
    · obtain ⟨H1, H2⟩ := H hany c14
      repeat(first|refine QV QP ?_|refine QZ ?_|refine qcT rfl ?_|refine qcF rfl ?_|refine qs rfl rfl rfl rfl rfl rfl ?_|((try refine qg rfl rfl rfl ?_);first|refine QV QP ?_|refine QV QL ?_|refine QV QA ?_|refine QV QeT ?_|refine QV QeF ?_|refine QV QaA ?_|refine QV (rr_not rfl rfl) ?_))
      refine T_ord ([blkO g4 (graV g.terms g.nons vp).cells 24]) (.calm 0 (.calm 1 (.calm 2 (.calm 3 (.calm 4 (.calm 5 (.calm 6 (.calm 7 (.calm 8 (.calm 9 (.done))))))))))) (sub_pick [0] (by decide) rfl) (by kernel_rfl) (by kernel_rfl) (by intro c a d v w h; cases d <;> exact h) ?_
      repeat(first|((first|refine TW_plain rfl rfl ?_|refine TW_gmet rfl rfl rfl rfl ?_);first|refine QW QP ?_|refine QW (rr_loadB (i := 0) TyC.ty rfl rfl rfl) ?_|refine QW (rr_slpre Und.eq TyC.ty rfl rfl (by omega)) ?_|refine QW QL ?_|refine QW QA ?_|refine QW QeT ?_|refine QW QeF ?_|refine QW QaA ?_|refine QW (rr_not rfl rfl) ?_)|refine TW_skip rfl rfl rfl rfl rfl rfl rfl ?_|refine TW_done ?_)
      refine TW_call rfl (he2 EntersC.en rfl rfl rfl) (fun w hm => hB _ (word.take had) _ hm.below (sl_upto (hs0.gr hm.below) hle)) rfl rfl rfl ?_
      rw [H1]
      repeat(first|((first|refine TW_plain rfl rfl ?_|refine TW_gmet rfl rfl rfl rfl ?_);first|refine QW QP ?_|refine QW QL ?_|refine QW QA ?_|refine QW QeT ?_|refine QW QeF ?_|refine QW QaA ?_|refine QW (rr_not rfl rfl) ?_)|refine TW_skip rfl rfl rfl rfl rfl rfl rfl ?_|refine TW_done ?_)
      by_cases c1 : had = word.length
      · repeat(first|refine QV QP ?_|refine QZ ?_|refine qcT rfl ?_|refine qcF rfl ?_|refine qs rfl rfl rfl rfl rfl rfl ?_|((try refine qg rfl rfl rfl ?_);first|refine QV QP ?_|refine QV (rr_len Und.eq rfl) ?_|refine QV QL ?_|refine QV QA ?_|refine QV QeT ?_|refine QV QeF ?_|refine QV QaA ?_|refine QV (rr_not rfl rfl) ?_))
        exact E_ret1 rfl rfl fun w hm => hm.ret
      · have H2 := H2 c1
        repeat(first|refine QV QP ?_|refine QZ ?_|refine qcT rfl ?_|refine qcF rfl ?_|refine qs rfl rfl rfl rfl rfl rfl ?_|((try refine qg rfl rfl rfl ?_);first|refine QV QP ?_|refine QV (rr_len Und.eq rfl) ?_|refine QV QL ?_|refine QV QA ?_|refine QV QeT ?_|refine QV QeF ?_|refine QV QaA ?_|refine QV (rr_not rfl rfl) ?_))
        refine T_ord ([blkO g4 (graV g.terms g.nons vp).cells 24]) (.calm 0 (.calm 1 (.calm 2 (.calm 3 (.calm 4 (.calm 5 (.calm 6 (.calm 7 (.calm 8 (.calm 9 (.calm 10 (.done)))))))))))) (sub_pick [0] (by decide) rfl) (by kernel_rfl) (by kernel_rfl) (by intro c a d v w h; cases d <;> exact h) ?_
        repeat(first|((first|refine TW_plain rfl rfl ?_|refine TW_gmet rfl rfl rfl rfl ?_);first|refine QW QP ?_|refine QW (rr_loadB (i := 0) TyC.ty rfl rfl rfl) ?_|refine QW (rr_add64 (r := ((had + 1 : Nat) : Int)) rfl rfl (by omega) (by omega) (by omega)) ?_|refine QW (rr_slpre Und.eq TyC.ty rfl rfl (by omega)) ?_|refine QW QL ?_|refine QW QA ?_|refine QW QeT ?_|refine QW QeF ?_|refine QW QaA ?_|refine QW (rr_not rfl rfl) ?_)|refine TW_skip rfl rfl rfl rfl rfl rfl rfl ?_|refine TW_done ?_)
        refine TW_call rfl (he2 EntersC.en rfl rfl rfl) (fun w hm => hB _ (word.take (had + 1)) _ hm.below (sl_upto (hs0.gr hm.below) (by omega))) rfl rfl rfl ?_
        rw [H2]
        repeat(first|((first|refine TW_plain rfl rfl ?_|refine TW_gmet rfl rfl rfl rfl ?_);first|refine QW QP ?_|refine QW QL ?_|refine QW QA ?_|refine QW QeT ?_|refine QW QeF ?_|refine QW QaA ?_|refine QW (rr_not rfl rfl) ?_)|refine TW_skip rfl rfl rfl rfl rfl rfl rfl ?_|refine TW_done ?_)
        repeat(first|refine QV QP ?_|refine QZ ?_|refine qcT rfl ?_|refine qcF rfl ?_|refine qs rfl rfl rfl rfl rfl rfl ?_|((try refine qg rfl rfl rfl ?_);first|refine QV QP ?_|refine QV QL ?_|refine QV QA ?_|refine QV QeT ?_|refine QV QeF ?_|refine QV QaA ?_|refine QV (rr_not rfl rfl) ?_))
        exact E_ret1 rfl rfl fun w hm => hm.ret
end Go.Proofs.Ytlojfbnimmdehaa.eng

