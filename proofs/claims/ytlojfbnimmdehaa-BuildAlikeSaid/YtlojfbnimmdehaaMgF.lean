/- Part 6 of what BuildAlike needs: LrP, LrT, ClimbO, IntS, BuA, BuB, ClimbA, TdS, LlC, ClimbB, ClimbC, ClimbD. -/
import Derived.Test.YtlojfbnimmdehaaMgE
import Derived.WalkKit
import Derived.WalkSpells
import Derived.WalkLawsBesides
import Derived.Deep.RegionLaw
import Derived.Deep.AppendLies
import Derived.Deep.QuietTactic
import Derived.BigQuiet
import Derived.Deep.DeepCutAuto
import Derived.Lib.Hide
import Derived.Test.YtlojfbnimmdehaaRows
import Derived.ProofKit
import Derived.OpenShut
import Derived.ShutString
import Derived.SizedLaws
import Derived.JoinedCond
import Derived.Deep.CondSized
import Derived.Deep.Quiet
import Derived.StillTail
import Derived.Deep.LoopGhost
import Derived.Laws.BitsLemmas
import Derived.Laws.BytesString
import Derived.Test.YtlojfbnimmdehaaProg
import Derived.Laws.StructEq
import Derived.Laws.MakeOwn
import Derived.Laws.AppendOwn
import Derived.Laws.Entries
import Derived.Maps.OwnSet
import Derived.DeepKeys4
import Derived.WideKeyEntry
import Derived.Sort.Grow
import Derived.Lib.Walk
import Derived.Deep.RegionWith
import Derived.Deep.RegionHeld
import Derived.StringKeys
import Derived.Laws.BitsAllLaws
import Derived.Shelf.SlGeneric
import Derived.Shelf.SlSortCmp.NoneTotal
import Derived.Ground.SlsfProg
/- LrP -/
namespace Go.Proofs.Ytlojfbnimmdehaa.itemL
open gramL treeL countL factsL smallL derL
open climbL (right_der rights_der der_right ders_right yieldX_top top_prod)
open llL (colAt)
section
variable (l : List gramL.Prod) (act : Nat → Nat → Act) (gt : Nat → Int → Int)
/-- a production is done -/
def redB (σ : List Nat) (p : Int) : Option (List Nat) := match σ.drop (prodAt l p).2.length with
  | r :: ρ => if 0 ≤ gt r (prodAt l p).1 then some ((gt r (prodAt l p).1).toNat :: r :: ρ) else none
  | [] => none
/-- acts at a column, till a shift, or to accept -/
def runB (col a : Nat) : Nat → List Nat → List Sym → Int × List Nat × List Sym
  | 0, _, _ => (14, [], [])
  | f + 1, σ, o =>
    if f = 0 ∧ (act (σ.headD 0) col).1 ≠ 0 then (14, [], [])
    else if (act (σ.headD 0) col).1 = 3 then (0, σ, o)
    else if (act (σ.headD 0) col).1 = 1 then (if 60 < σ.length + 1 then (14, [], []) else (0, (act (σ.headD 0) col).2.toNat :: σ, o ++ [(2, (a : Int))]))
    else if (act (σ.headD 0) col).1 = 2 then (match redB l gt σ (act (σ.headD 0) col).2 with
      | none => (13, [], [])
      | some σ' => if 60 < σ'.length then (14, [], []) else runB col a f σ' (o ++ [(4, (act (σ.headD 0) col).2)]))
    else (13, [], [])
/-- a word: what is told, how many tokens were had, how it ends -/
def bRun (T : Nat) : List Int → List Nat → Nat → List Sym → List Sym × Nat × Int
  | [], σ, a, out => (out ++ (runB l act gt T a 2001 σ []).2.2, a, (runB l act gt T a 2001 σ []).1)
  | t :: r, σ, a, out => if (runB l act gt t.toNat a 2001 σ []).1 ≠ 0 then (out, a, (runB l act gt t.toNat a 2001 σ []).1) else bRun T r (runB l act gt t.toNat a 2001 σ []).2.1 (a + 1) (out ++ (runB l act gt t.toNat a 2001 σ []).2.2)
/-- the same, in the midst of a token -/
def contB (T f : Nat) (σ : List Nat) (o : List Sym) : List Int → Nat → List Sym → List Sym × Nat × Int
  | [], a, out => (out ++ (runB l act gt T a f σ o).2.2, a, (runB l act gt T a f σ o).1)
  | t :: r, a, out => if (runB l act gt t.toNat a f σ o).1 ≠ 0 then (out, a, (runB l act gt t.toNat a f σ o).1) else bRun l act gt T r (runB l act gt t.toNat a f σ o).2.1 (a + 1) (out ++ (runB l act gt t.toNat a f σ o).2.2)
end
section
variable {l : List gramL.Prod} {act : Nat → Nat → Act} {gt : Nat → Int → Int} {T N : Nat} {lk : Int → Int → Nat} {Nx : List (List Int)} {S : List (List Item)}
theorem run_cont (r : List Int) (σ : List Nat) (a : Nat) (out : List Sym) : bRun l act gt T r σ a out = contB l act gt T 2001 σ [] r a out := by cases r <;> rfl
theorem bRun_ge : ∀ (r : List Int) (σ : List Nat) (a : Nat) (out : List Sym), a ≤ (bRun l act gt T r σ a out).2.1
  | [], _, _, _ => Nat.le_refl _
  | t :: r, σ, a, out => by
    rw [bRun]
    split
    · exact Nat.le_refl _
    · exact Nat.le_trans (Nat.le_succ a) (bRun_ge r _ (a + 1) _)
theorem bRun_le : ∀ (r : List Int) (σ : List Nat) (a : Nat) (out : List Sym), (bRun l act gt T r σ a out).2.1 ≤ a + r.length
  | [], _, _, _ => Nat.le_refl _
  | t :: r, σ, a, out => by
    rw [bRun]
    split
    · exact Nat.le_add_right _ _
    · have := bRun_le r (runB l act gt t.toNat a 2001 σ []).2.1 (a + 1) (out ++ (runB l act gt t.toNat a 2001 σ []).2.2)
      rw [List.length_cons]; omega
theorem contB_ge (f : Nat) (σ : List Nat) (o : List Sym) : ∀ (r : List Int) (a : Nat) (out : List Sym), a ≤ (contB l act gt T f σ o r a out).2.1
  | [], _, _ => Nat.le_refl _
  | t :: r, a, out => by
    rw [contB]
    split
    · exact Nat.le_refl _
    · exact Nat.le_trans (Nat.le_succ a) (bRun_ge r _ (a + 1) _)
theorem runB_acc {col a : Nat} {σ : List Nat} {o : List Sym} (hA : act (σ.headD 0) col = (3, 0)) : ∀ f, runB l act gt col a f σ o = (14, [], []) ∨ runB l act gt col a f σ o = (0, σ, o)
  | 0 => .inl rfl
  | f + 1 => by
    rw [runB, hA]
    by_cases c : f = 0 ∧ ((3, 0) : Act).1 ≠ 0
    · rw [if_pos c]; exact .inl rfl
    · rw [if_neg c, if_pos rfl]; exact .inr rfl
theorem runB_shift {col a s : Nat} {σ : List Nat} {o : List Sym} (hA : act (σ.headD 0) col = (1, (s : Int))) : ∀ f, runB l act gt col a f σ o = (14, [], []) ∨ runB l act gt col a f σ o = (0, s :: σ, o ++ [(2, (a : Int))])
  | 0 => .inl rfl
  | f + 1 => by
    rw [runB, hA]
    by_cases c : f = 0 ∧ ((1, (s : Int)) : Act).1 ≠ 0
    · rw [if_pos c]; exact .inl rfl
    rw [if_neg c, if_neg (by show ¬ (1 : Int) = 3; decide), if_pos rfl]
    by_cases c2 : 60 < σ.length + 1
    · rw [if_pos c2]; exact .inl rfl
    · rw [if_neg c2]; exact .inr rfl
theorem runB_red {col a : Nat} {p : Int} {σ σ' : List Nat} {o : List Sym} (hA : act (σ.headD 0) col = (2, p)) (hred : redB l gt σ p = some σ') : ∀ f, runB l act gt col a f σ o = (14, [], []) ∨ ∃ f', runB l act gt col a f σ o = runB l act gt col a f' σ' (o ++ [(4, p)])
  | 0 => .inl rfl
  | f + 1 => by
    rw [runB, hA]
    by_cases c : f = 0 ∧ ((2, p) : Act).1 ≠ 0
    · rw [if_pos c]; exact .inl rfl
    rw [if_neg c, if_neg (by show ¬ (2 : Int) = 3; decide), if_neg (by show ¬ (2 : Int) = 1; decide), if_pos rfl]
    dsimp only
    rw [hred]
    dsimp only
    by_cases c2 : 60 < σ'.length
    · rw [if_pos c2]; exact .inl rfl
    · rw [if_neg c2]; exact .inr ⟨f, rfl⟩
theorem runB_err {col a : Nat} : ∀ (f : Nat) (σ : List Nat) (o : List Sym), (runB l act gt col a f σ o).1 = 0 ∨ (runB l act gt col a f σ o).1 = 13 ∨ (runB l act gt col a f σ o).1 = 14
  | 0, _, _ => .inr (.inr rfl)
  | f + 1, σ, o => by
    rw [runB]
    split
    · exact .inr (.inr rfl)
    split
    · exact .inl rfl
    split
    · split
      · exact .inr (.inr rfl)
      · exact .inl rfl
    split
    · split
      · exact .inr (.inl rfl)
      · split
        · exact .inr (.inr rfl)
        · exact runB_err f _ _
    · exact .inr (.inl rfl)
theorem runB_nil {col a : Nat} : ∀ (f : Nat) (σ : List Nat) (o : List Sym), (runB l act gt col a f σ o).1 ≠ 0 → (runB l act gt col a f σ o).2 = ([], [])
  | 0, _, _, _ => rfl
  | f + 1, σ, o, h => by
    rw [runB] at h ⊢
    split
    · rfl
    rename_i c; rw [if_neg c] at h
    split
    · rename_i c; rw [if_pos c] at h; exact absurd rfl h
    rename_i c; rw [if_neg c] at h
    split
    · rename_i c; rw [if_pos c] at h
      split
      · rfl
      · rename_i c; rw [if_neg c] at h; exact absurd rfl h
    rename_i c; rw [if_neg c] at h
    split
    · rename_i c; rw [if_pos c] at h
      split
      · rfl
      · rename_i σ' e
        rw [e] at h
        dsimp only at h
        split
        · rfl
        · rename_i c; rw [if_neg c] at h; exact runB_nil f _ _ h
    · rfl
theorem bRun_err : ∀ (r : List Int) (σ : List Nat) (a : Nat) (out : List Sym), (bRun l act gt T r σ a out).2.2 = 0 ∨ (bRun l act gt T r σ a out).2.2 = 13 ∨ (bRun l act gt T r σ a out).2.2 = 14
  | [], σ, a, out => runB_err _ _ _
  | t :: r, σ, a, out => by
    rw [bRun]
    split
    · exact runB_err _ _ _
    · exact bRun_err r _ _ _
/-- what is known of the table -/
structure TabB (l : List gramL.Prod) (act : Nat → Nat → Act) (gt : Nat → Int → Int) (T N : Nat) (Nx : List (List Int)) (S : List (List Item)) : Prop where
  act : ∀ q c, q < S.length → c ≤ T → act q c = actAt l T Nx S q c
  gt : ∀ q n, q < S.length → 0 ≤ n → n < (N : Int) → gt q n = goTo T Nx q n
theorem act_in {q c : Nat} {x : Act} (h : actAt l T Nx S q c = x) (h0 : x.1 ≠ 0) : x ∈ actsI l T (S.getD q []) (Nx.getD q []) c := by
  unfold actAt at h
  cases e : actsI l T (S.getD q []) (Nx.getD q []) c with
  | nil => rw [e] at h; subst h; exact absurd rfl h0
  | cons y r => rw [e] at h; subst h; exact List.mem_cons_self ..
/-- what an act means -/
theorem act_means {q c : Nat} {x : Act} (h : x ∈ actsI l T (S.getD q []) (Nx.getD q []) c) :
    (x.1 = 1 ∧ c < T ∧ 0 ≤ (Nx.getD q []).getD c 0 ∧ x.2 = (Nx.getD q []).getD c 0) ∨ (x = (3, 0) ∧ (((l.length : Int), 1, (c : Int)) : Item) ∈ S.getD q []) ∨ (x.1 = 2 ∧ x.2 < (l.length : Int) ∧ ((x.2, ((prodAt l x.2).2.length : Int), (c : Int)) : Item) ∈ S.getD q []) := by
  unfold actsI at h
  rcases List.mem_append.1 h with h | h
  · split at h
    · rename_i c1
      rw [List.mem_singleton] at h
      subst h
      exact .inl ⟨rfl, c1.1, c1.2, rfl⟩
    · cases h
  · obtain ⟨it, hit, e⟩ := List.mem_filterMap.1 h
    obtain ⟨p, d, k⟩ := it
    unfold actOf at e
    dsimp only at e
    by_cases c1 : k ≠ (c : Int)
    · rw [if_pos c1] at e; cases e
    · rw [if_neg c1] at e
      have c1 : k = (c : Int) := Classical.not_not.1 c1
      subst c1
      by_cases c2 : p = (l.length : Int) ∧ d = 1
      · rw [if_pos c2] at e
        obtain ⟨rfl, rfl⟩ := c2
        exact .inr (.inl ⟨(Option.some.inj e).symm, hit⟩)
      · rw [if_neg c2] at e
        by_cases c3 : p < (l.length : Int) ∧ d = ((prodAt l p).2.length : Int)
        · rw [if_pos c3] at e
          obtain ⟨c3, rfl⟩ := c3
          obtain rfl := Option.some.inj e
          exact .inr (.inr ⟨rfl, c3, hit⟩)
        · rw [if_neg c3] at e; cases e
section
variable (hB : TabB l act gt T N Nx S) (hI : AllI l T N lk S.length Nx S) (hw : ∀ q ∈ l, q.2.length ≤ 8) (hl : l.length ≤ 40) (hT : T ≤ 30) (hh : ∀ q ∈ l, 0 ≤ q.1 ∧ q.1 < (N : Int))
include hB hI hw hl hT hh
omit hB hw hl hT hh in
theorem cell_next {q k s : Nat} {x : Sym} (hq : q < S.length) (hk : (symsI T N)[k]? = some x) (hs : (Nx.getD q []).getD k 0 = (s : Int)) : s < S.length ∧ S.getD s [] = stepI l T lk (S.getD q []) x ∧ stepI l T lk (S.getD q []) x ≠ [] := by
  rcases hI.cell q hq k x hk with ⟨_, h2⟩ | ⟨h1, h2, h3⟩
  · rw [hs] at h2; omega
  · rw [hs] at h3
    obtain rfl : s = idx S (stepI l T lk (S.getD q []) x) := by omega
    refine ⟨idx_lt h2, ?_, h1⟩
    rw [List.getD_eq_getElem?_getD, List.getElem?_eq_getElem (idx_lt h2)]
    exact idx_get (idx_lt h2)
omit hB hI hw hl hT in
theorem prodAt_head {p : Int} (h0 : 0 ≤ p) (h1 : p < (l.length : Int)) : 0 ≤ (prodAt l p).1 ∧ (prodAt l p).1 < (N : Int) := hh _ (prodAt_mem h0 h1)
/-- a token's acts keep the stack right -/
theorem run_stk {col a : Nat} (hc : col ≤ T) : ∀ (f : Nat) {σ : List Nat} {o : List Sym} {ts : List (Sym × Tree)}, Stk l T N lk S σ ts a → (runB l act gt col a f σ o).1 = 0 →
    ∃ E ts', (runB l act gt col a f σ o).2.2 = o ++ E ∧ upK l ts' = upK l ts ++ E ∧
      ((col < T ∧ Stk l T N lk S (runB l act gt col a f σ o).2.1 ts' (a + 1) ∧ yieldK l ts' = yieldK l ts ++ [(col : Int)]) ∨
       (Stk l T N lk S (runB l act gt col a f σ o).2.1 ts' a ∧ yieldK l ts' = yieldK l ts ∧ ∃ q σ', (runB l act gt col a f σ o).2.1 = q :: σ' ∧ (((l.length : Int), 1, (col : Int)) : Item) ∈ S.getD q []))
  | 0, _, _, _, _, h => by cases h
  | f + 1, σ, o, ts, hs, h => by
    obtain ⟨q, ρ, rfl⟩ := hs.ne
    have hq := stk_lt hI hs
    have hA : act ((q :: ρ).headD 0) col = actAt l T Nx S q col := hB.act q col hq hc
    rw [runB] at h ⊢
    generalize act ((q :: ρ).headD 0) col = x at *
    have hin := fun h0 => act_means (act_in (l := l) (T := T) (Nx := Nx) (S := S) (q := q) (c := col) hA.symm h0)
    by_cases c0 : f = 0 ∧ x.1 ≠ 0
    · rw [if_pos c0] at h; cases h
    rw [if_neg c0] at h ⊢
    by_cases c1 : x.1 = 3
    · rw [if_pos c1] at h ⊢
      refine ⟨[], ts, (List.append_nil _).symm, (List.append_nil _).symm, .inr ⟨hs, rfl, q, ρ, rfl, ?_⟩⟩
      rcases hin (by omega) with h' | h' | h'
      · omega
      · exact h'.2
      · omega
    rw [if_neg c1] at h ⊢
    by_cases c2 : x.1 = 1
    · rw [if_pos c2] at h ⊢
      by_cases c3 : 60 < (q :: ρ).length + 1
      · rw [if_pos c3] at h; cases h
      rw [if_neg c3] at h ⊢
      rcases hin (by omega) with h' | h' | h'
      · obtain ⟨_, h1, h2, h3⟩ := h'
        obtain ⟨s, hs3⟩ := Int.eq_ofNat_of_zero_le h2
        obtain ⟨k1, k2, k3⟩ := cell_next hI hq (syms_term h1) hs3
        have e : x.2.toNat = s := by rw [h3, hs3]; rfl
        have hleaf : Right l (.mk (-1) (a : Int) []) (1, (col : Int)) a := by rw [Right]; exact .inl ⟨rfl, rfl, rfl, rfl⟩
        refine ⟨[(2, (a : Int))], ((1, (col : Int)), .mk (-1) (a : Int) []) :: ts, rfl, ?_, .inl ⟨h1, ?_, ?_⟩⟩
        · rw [upK_cons, upX_leaf]
        · rw [e]
          have := Stk.push hs k1 k2 k3 hleaf
          exact this
        · rw [yieldK_cons]; rfl
      · rw [h'.1] at c2; cases c2
      · omega
    rw [if_neg c2] at h ⊢
    by_cases c3 : x.1 = 2
    · rw [if_pos c3] at h ⊢
      rcases hin (by omega) with h' | h' | h'
      · omega
      · rw [h'.1] at c3; cases c3
      · obtain ⟨_, h1, h2⟩ := h'
        have h0 : 0 ≤ x.2 := (state_right hI hq _ h2).1
        obtain ⟨r1, r2⟩ := prodAt_head hh h0 h1
        cases e : redB l gt (q :: ρ) x.2 with
        | none => rw [e] at h; cases h
        | some σ' =>
          rw [e] at h
          dsimp only at h ⊢
          by_cases c4 : 60 < σ'.length
          · rw [if_pos c4] at h; cases h
          rw [if_neg c4] at h ⊢
          unfold redB at e
          cases ed : (q :: ρ).drop (prodAt l x.2).2.length with
          | nil => rw [ed] at e; cases e
          | cons r ρ2 =>
            rw [ed] at e
            dsimp only at e
            by_cases c5 : 0 ≤ gt r (prodAt l x.2).1
            · rw [if_pos c5] at e
              obtain rfl := Option.some.inj e
              obtain ⟨q', σ2, us, ts2, a2, e1, e2, e3, e4, e5, e6, e7, e8⟩ := stk_backs hI hw hl hT _ hs h2 rfl
              have hr : r < S.length := by
                rw [ed] at e1
                obtain ⟨rfl, rfl⟩ := List.cons.inj e1
                exact stk_lt hI e4
              have hg := hB.gt r _ hr r1 r2
              rw [hg] at c5 h ⊢
              obtain ⟨s, hs3⟩ := Int.eq_ofNat_of_zero_le c5
              have hk : (symsI T N)[T + (prodAt l x.2).1.toNat]? = some (2, (prodAt l x.2).1) := by
                have := syms_non (T := T) (N := N) (k := (prodAt l x.2).1.toNat) (by omega)
                rwa [Int.toNat_of_nonneg r1] at this
              obtain ⟨k1, k2, k3⟩ := cell_next hI hr hk hs3
              obtain ⟨ts3, g1, g2, g3⟩ := stk_reduce hI hw hl hT hs h0 h1 h2 ed k1 k2 k3
              have e9 : (goTo T Nx r (prodAt l x.2).1).toNat = s := by rw [hs3]; rfl
              rw [e9] at h ⊢
              obtain ⟨E, ts4, f1, f2, f3⟩ := run_stk hc f g1 h
              refine ⟨(4, x.2) :: E, ts4, by rw [f1, List.append_assoc]; rfl, by rw [f2, g3, List.append_assoc]; rfl, ?_⟩
              rw [g2] at f3
              exact f3
            · rw [if_neg c5] at e; cases e
    · rw [if_neg c3] at h; cases h
/-- what is told of a word that is accepted is a tree -/
theorem run_sound (hTop : ∀ q, q < S.length → ∀ it ∈ S.getD q [], it.1 = (l.length : Int) → it.2.2 = (T : Int)) : ∀ (r : List Int) {σ : List Nat} {a : Nat} {out : List Sym} {ts : List (Sym × Tree)}, (∀ x ∈ r, 0 ≤ x ∧ x < (T : Int)) → Stk l T N lk S σ ts a → upK l ts = out → (bRun l act gt T r σ a out).2.2 = 0 →
    ∃ t, Right l t (2, 0) 0 ∧ upX l t = (bRun l act gt T r σ a out).1 ∧ yieldT l t = yieldK l ts ++ r
  | [], σ, a, out, ts, _, hs, ho, h => by
    obtain ⟨E, ts', h1, h2, h3⟩ := run_stk hB hI hw hl hT hh (Nat.le_refl T) 2001 (o := []) hs h
    rcases h3 with ⟨h3, _⟩ | ⟨h3, h4, q, σ', h5, h6⟩
    · omega
    · rw [h5] at h3
      obtain ⟨t, rfl, ht⟩ := stk_accept hI hw hl hT h3 h6
      refine ⟨t, ht, ?_, ?_⟩
      · show upX l t = out ++ (runB l act gt T a 2001 σ []).2.2
        rw [h1, List.nil_append, ← ho, ← h2, upK_cons]
        rfl
      · rw [List.append_nil, ← h4, yieldK_cons, yieldX_top ht]
        rfl
  | t :: r, σ, a, out, ts, hr, hs, ho, h => by
    obtain ⟨t0, t1⟩ := hr t (List.mem_cons_self ..)
    rw [bRun] at h ⊢
    by_cases c : (runB l act gt t.toNat a 2001 σ []).1 ≠ 0
    · rw [if_pos c] at h; exact absurd h c
    rw [if_neg c] at h ⊢
    obtain ⟨E, ts', h1, h2, h3⟩ := run_stk hB hI hw hl hT hh (show t.toNat ≤ T by omega) 2001 (o := []) hs (Classical.not_not.1 c)
    rcases h3 with ⟨h3, h4, h5⟩ | ⟨h3, h4, q, σ', h5, h6⟩
    · obtain ⟨tt, g1, g2, g3⟩ := run_sound hTop r (fun x hx => hr x (List.mem_cons_of_mem _ hx)) h4 (by rw [h2, h1, ho]; rfl) h
      refine ⟨tt, g1, g2, ?_⟩
      rw [g3, h5, List.append_assoc, Int.toNat_of_nonneg t0]
      rfl
    · exfalso
      rw [h5] at h3
      have := hTop q (stk_lt hI h3) _ h6 rfl
      have h7 : ((t.toNat : Nat) : Int) = (T : Int) := this
      omega
/-! ### each tree's word is built -/
omit hw hl hT in
theorem run_det {w : List Int} (hcol : ∀ x ∈ w, 0 ≤ x ∧ x < (T : Int)) {σ σ1 : List Nat} {a a1 : Nat} {E : List Sym} (h : LRun l T Nx S w σ a E σ1 a1) : (∀ q ∈ σ, q < S.length) → a1 = w.length → (∀ q ρ, σ1 = q :: ρ → actAt l T Nx S q (colAt T w a1) = (3, 0)) → σ1 ≠ [] →
    ∀ (f : Nat) (o : List Sym) (m : Nat) (r : List Int) (out : List Sym), a ≤ w.length → m ≤ r.length → m ≤ (w.drop a).length → r.take m = (w.drop a).take m → (r = w.drop a → (contB l act gt T f σ o r a out).2.2 = 14 ∨ contB l act gt T f σ o r a out = (out ++ (o ++ E), w.length, 0)) ∧ ((contB l act gt T f σ o r a out).2.2 = 14 ∨ a + m ≤ (contB l act gt T f σ o r a out).2.1) := by
  induction h with
  | @nil σ a =>
    intro hq ha hacc hne f o m r out hal hm hm2 hr
    subst ha
    have hm0 : m = 0 := by rw [List.length_drop] at hm2; omega
    subst hm0
    refine ⟨fun hrw => ?_, .inr (contB_ge f σ o r _ out)⟩
    rw [List.drop_length] at hrw
    subst hrw
    obtain ⟨q, ρ, rfl⟩ : ∃ q ρ, σ = q :: ρ := List.exists_cons_of_ne_nil hne
    have hc : colAt T w w.length = T := by unfold colAt; rw [if_neg (Nat.lt_irrefl _)]
    have hA := hacc q ρ rfl
    rw [hc] at hA
    have hA2 : act ((q :: ρ).headD 0) T = (3, 0) := (hB.act q T (hq q (List.mem_cons_self ..)) (Nat.le_refl _)).trans hA
    rcases runB_acc (l := l) (gt := gt) (a := w.length) (o := o) hA2 f with e | e
    · exact .inl (by rw [contB, e])
    · exact .inr (by rw [contB, e, List.append_nil])
  | @shift q s σ σ' a a' E ha h hr ih =>
    intro hq ha' hacc hne f o m r out hal hm hm2 hrm
    have hqS := hq q (List.mem_cons_self ..)
    have hcT : colAt T w a ≤ T := by
      unfold colAt; rw [if_pos ha]
      have := hcol _ (List.getElem_mem ha)
      rw [List.getD_eq_getElem?_getD, List.getElem?_eq_getElem ha]
      show w[a].toNat ≤ T
      omega
    have hA2 : act ((q :: σ).headD 0) (colAt T w a) = (1, (s : Int)) := (hB.act q _ hqS hcT).trans h
    have hmean := act_means (act_in h (by show (1 : Int) ≠ 0; decide))
    have hc1 : colAt T w a < T ∧ (Nx.getD q []).getD (colAt T w a) 0 = (s : Int) := by
      rcases hmean with h' | h' | h'
      · exact ⟨h'.2.1, h'.2.2.2.symm⟩
      · cases h'.1
      · have := h'.1; cases this
    obtain ⟨k1, -, -⟩ := cell_next hI hqS (syms_term hc1.1) hc1.2
    have hq2 : ∀ q' ∈ s :: q :: σ, q' < S.length := fun q' hq' => (List.mem_cons.1 hq').elim (fun e => e ▸ k1) fun e => hq q' e
    have hd : w.drop a = w[a] :: w.drop (a + 1) := List.drop_eq_getElem_cons ha
    have hcw : colAt T w a = w[a].toNat := by
      unfold colAt; rw [if_pos ha, List.getD_eq_getElem?_getD, List.getElem?_eq_getElem ha]; rfl
    have key : ∀ (r' : List Int), (contB l act gt T f (q :: σ) o (w[a] :: r') a out).2.2 = 14 ∨ contB l act gt T f (q :: σ) o (w[a] :: r') a out = contB l act gt T 2001 (s :: q :: σ) [] r' (a + 1) (out ++ (o ++ [(2, (a : Int))])) := fun r' => by
      rw [hcw] at hA2
      rcases runB_shift (l := l) (gt := gt) (a := a) (o := o) hA2 f with e | e
      · exact .inl (by rw [contB, e]; rfl)
      · exact .inr (by rw [contB, e, ← run_cont]; rfl)
    constructor
    · intro hrw
      subst hrw
      rw [hd]
      rcases key (w.drop (a + 1)) with h14 | he
      · exact .inl h14
      · rw [he]
        have := (ih hq2 ha' hacc hne 2001 [] 0 (w.drop (a + 1)) (out ++ (o ++ [(2, (a : Int))])) (by omega) (Nat.zero_le _) (Nat.zero_le _) rfl).1 rfl
        rcases this with h14 | h0
        · exact .inl h14
        · right
          rw [h0]
          simp
    · match m, r, hm, hrm with
      | 0, r, _, _ => exact .inr (contB_ge _ _ _ _ _ _)
      | m + 1, [], h', _ => simp at h'
      | m + 1, x :: r', hm', hrm' =>
        rw [hd] at hrm' hm2
        simp only [List.take_succ_cons, List.cons.injEq] at hrm'
        obtain ⟨rfl, hrm'⟩ := hrm'
        rcases key r' with h14 | he
        · exact .inl h14
        · rw [he]
          have := (ih hq2 ha' hacc hne 2001 [] m r' (out ++ (o ++ [(2, (a : Int))])) (by omega) (by simpa using hm') (Nat.le_of_succ_le_succ hm2) hrm').2
          rcases this with h14 | h0
          · exact .inl h14
          · exact .inr (by omega)
  | @reduce q rq tq p σ ρ σ' a a' E h hd hg hr ih =>
    intro hq ha' hacc hne f o m r out hal hm hm2 hrm
    have hqS := hq q (List.mem_cons_self ..)
    have hcT : colAt T w a ≤ T := by
      unfold colAt
      split
      · rename_i ha
        have := hcol _ (List.getElem_mem ha)
        rw [List.getD_eq_getElem?_getD, List.getElem?_eq_getElem ha]
        show w[a].toNat ≤ T
        omega
      · exact Nat.le_refl _
    have hA2 : act ((q :: σ).headD 0) (colAt T w a) = (2, p) := (hB.act q _ hqS hcT).trans h
    have hmean := act_means (act_in h (by show (2 : Int) ≠ 0; decide))
    have hp : p < (l.length : Int) ∧ 0 ≤ p := by
      rcases hmean with h' | h' | h'
      · have := h'.1; cases this
      · cases h'.1
      · exact ⟨h'.2.1, (state_right hI hqS _ h'.2.2).1⟩
    obtain ⟨r1, r2⟩ := prodAt_head hh hp.2 hp.1
    have hrS : rq < S.length := hq rq (List.mem_of_mem_drop (i := (prodAt l p).2.length) (by rw [hd]; exact List.mem_cons_self ..))
    have hk : (symsI T N)[T + (prodAt l p).1.toNat]? = some (2, (prodAt l p).1) := by
      have := syms_non (T := T) (N := N) (k := (prodAt l p).1.toNat) (by omega)
      rwa [Int.toNat_of_nonneg r1] at this
    obtain ⟨k1, -, -⟩ := cell_next hI hrS hk hg
    have hq2 : ∀ q' ∈ tq :: rq :: ρ, q' < S.length := fun q' hq' => (List.mem_cons.1 hq').elim (fun e => e ▸ k1) fun e => hq q' (List.mem_of_mem_drop (i := (prodAt l p).2.length) (by rw [hd]; exact e))
    have hred : redB l gt (q :: σ) p = some (tq :: rq :: ρ) := by
      unfold redB
      rw [hd]
      dsimp only
      rw [hB.gt rq _ hrS r1 r2, hg, if_pos (by omega)]
      rfl
    have stepR : ∀ (col : Nat), act ((q :: σ).headD 0) col = (2, p) → (runB l act gt col a f (q :: σ) o).1 = 14 ∨ ∃ f', runB l act gt col a f (q :: σ) o = runB l act gt col a f' (tq :: rq :: ρ) (o ++ [(4, p)]) := fun col hA2 => by
      rcases runB_red (a := a) (o := o) hA2 hred f with e | e
      · exact .inl (by rw [e])
      · exact .inr e
    have key : ∀ (r' : List Int), (r' = [] → colAt T w a = T) → (∀ t r2, r' = t :: r2 → colAt T w a = t.toNat) → (contB l act gt T f (q :: σ) o r' a out).2.2 = 14 ∨ ∃ f', contB l act gt T f (q :: σ) o r' a out = contB l act gt T f' (tq :: rq :: ρ) (o ++ [(4, p)]) r' a out := fun r' e1 e2 => by
      match r' with
      | [] =>
        have hA3 := hA2
        rw [e1 rfl] at hA3
        rcases stepR T hA3 with h14 | ⟨f', he⟩
        · exact .inl (by rw [contB]; exact h14)
        · exact .inr ⟨f', by rw [contB, contB, he]⟩
      | t :: r2 =>
        have hA3 := hA2
        rw [e2 t r2 rfl] at hA3
        rcases stepR t.toNat hA3 with h14 | ⟨f', he⟩
        · left
          rw [contB, if_pos (by rw [h14]; decide)]
          exact h14
        · exact .inr ⟨f', by rw [contB, contB, he]⟩
    have hcw : ∀ t r2, w.drop a = t :: r2 → colAt T w a = t.toNat := fun t r2 e => by
      have ha : a < w.length := by
        rcases Nat.lt_or_ge a w.length with h | h
        · exact h
        · rw [List.drop_eq_nil_of_le h] at e; cases e
      rw [List.drop_eq_getElem_cons ha] at e
      obtain ⟨rfl, _⟩ := List.cons.inj e
      unfold colAt; rw [if_pos ha, List.getD_eq_getElem?_getD, List.getElem?_eq_getElem ha]; rfl
    constructor
    · intro hrw
      rcases key r (fun e => by
        subst hrw
        have ha : ¬ a < w.length := fun ha => by rw [List.drop_eq_getElem_cons ha] at e; cases e
        unfold colAt; rw [if_neg ha]) (fun t r2 e => hcw t r2 (by rw [← hrw, e])) with h14 | ⟨f', he⟩
      · exact .inl h14
      · rw [he]
        rcases (ih hq2 ha' hacc hne f' (o ++ [(4, p)]) m r out hal hm hm2 hrm).1 hrw with h14 | h0
        · exact .inl h14
        · right
          rw [h0]
          simp
    · match m, r, hm, hrm with
      | 0, r, _, _ => exact .inr (contB_ge _ _ _ _ _ _)
      | m + 1, [], h', _ => simp at h'
      | m + 1, x :: r', hm', hrm' =>
        have ha : a < w.length := by rw [List.length_drop] at hm2; omega
        have hx : w.drop a = x :: w.drop (a + 1) := by
          rw [List.drop_eq_getElem_cons ha] at hrm' ⊢
          simp only [List.take_succ_cons, List.cons.injEq] at hrm'
          rw [hrm'.1]
        rcases key (x :: r') (fun e => by cases e) (fun t r2 e => by cases e; exact hcw _ _ hx) with h14 | ⟨f', he⟩
        · exact .inl h14
        · rw [he]
          exact (ih hq2 ha' hacc hne f' (o ++ [(4, p)]) (m + 1) (x :: r') out hal hm' hm2 hrm').2
/-- how far it was come: a stack is there -/
theorem run_far (hTop : ∀ q, q < S.length → ∀ it ∈ S.getD q [], it.1 = (l.length : Int) → it.2.2 = (T : Int)) : ∀ (r : List Int) {σ : List Nat} {a : Nat} {out : List Sym} {ts : List (Sym × Tree)}, (∀ x ∈ r, 0 ≤ x ∧ x < (T : Int)) → Stk l T N lk S σ ts a →
    ∃ σ' ts', Stk l T N lk S σ' ts' (bRun l act gt T r σ a out).2.1 ∧ yieldK l ts' = yieldK l ts ++ r.take ((bRun l act gt T r σ a out).2.1 - a)
  | [], σ, a, out, ts, _, hs => ⟨σ, ts, hs, by simp⟩
  | t :: r, σ, a, out, ts, hr, hs => by
    obtain ⟨t0, t1⟩ := hr t (List.mem_cons_self ..)
    rw [bRun]
    by_cases c : (runB l act gt t.toNat a 2001 σ []).1 ≠ 0
    · rw [if_pos c]
      exact ⟨σ, ts, hs, by simp⟩
    rw [if_neg c]
    obtain ⟨E, ts1, h1, h2, h3⟩ := run_stk hB hI hw hl hT hh (show t.toNat ≤ T by omega) 2001 (o := []) hs (Classical.not_not.1 c)
    rcases h3 with ⟨h3, h4, h5⟩ | ⟨h3, h4, q, σ', h5, h6⟩
    · obtain ⟨σ', ts', g1, g2⟩ := run_far hTop r (out := out ++ (runB l act gt t.toNat a 2001 σ []).2.2) (fun x hx => hr x (List.mem_cons_of_mem _ hx)) h4
      refine ⟨σ', ts', g1, ?_⟩
      have hge := bRun_ge (l := l) (act := act) (gt := gt) (T := T) r (runB l act gt t.toNat a 2001 σ []).2.1 (a + 1) (out ++ (runB l act gt t.toNat a 2001 σ []).2.2)
      rw [g2, h5, List.append_assoc]
      congr 1
      obtain ⟨d, hd⟩ : ∃ d, (bRun l act gt T r (runB l act gt t.toNat a 2001 σ []).2.1 (a + 1) (out ++ (runB l act gt t.toNat a 2001 σ []).2.2)).2.1 = a + 1 + d := ⟨_, (Nat.add_sub_cancel' hge).symm⟩
      rw [hd, show a + 1 + d - (a + 1) = d by omega, show a + 1 + d - a = d + 1 by omega, List.take_succ_cons, Int.toNat_of_nonneg t0]
      rfl
    · exfalso
      rw [h5] at h3
      have h7 : ((t.toNat : Nat) : Int) = (T : Int) := hTop q (stk_lt hI h3) _ h6 rfl
      omega
omit hB hh in
/-- what stands on a stack goes on to a word -/
theorem stk_viable (hM : ∀ i : Nat, i < N → ∃ ws, Der l (2, (i : Int)) ws) (hb : ∀ p x, x ∈ bodyI l p → x.1 = 1 ∨ (x.1 = 2 ∧ 0 ≤ x.2 ∧ x.2 < (N : Int))) {σ : List Nat} {ts : List (Sym × Tree)} {a : Nat} (h : Stk l T N lk S σ ts a) :
    ∀ q ρ, σ = q :: ρ → ∀ it ∈ S.getD q [], ∀ u, Ders l ((bodyI l it.1).drop it.2.1.toNat) u → ∃ v, Der l (2, 0) (yieldK l ts ++ (u ++ v)) := by
  have hrest : ∀ (b : List Sym), (∀ x ∈ b, x.1 = 1 ∨ (x.1 = 2 ∧ 0 ≤ x.2 ∧ x.2 < (N : Int))) → ∃ ws, Ders l b ws := fun b => by
    induction b with
    | nil => exact fun _ => ⟨[], .nil⟩
    | cons y r ih =>
      intro hx
      obtain ⟨w2, h2⟩ := ih fun x hx' => hx x (List.mem_cons_of_mem _ hx')
      have h1 : ∃ ws, Der l y ws := by
        obtain ⟨k, n⟩ := y
        rcases hx (k, n) (List.mem_cons_self ..) with h | ⟨h1, h2, h3⟩
        · exact ⟨[n], .term h⟩
        · dsimp only at h1 h2 h3
          subst h1
          obtain ⟨m, rfl⟩ := Int.eq_ofNat_of_zero_le h2
          exact hM m (by omega)
      obtain ⟨w1, h1⟩ := h1
      exact ⟨w1 ++ w2, .cons h1 h2⟩
  -- an item that has come up: what it came up for
  have up : ∀ {ts : List (Sym × Tree)} {s : List Item} (hs : ∀ it ∈ s, RightI l T it) (l0 : List Item), (∀ it ∈ l0, ∀ u, Ders l ((bodyI l it.1).drop it.2.1.toNat) u → ∃ v, Der l (2, 0) (yieldK l ts ++ (u ++ v))) → ∀ it, Cl l T lk l0 it → ∀ u, Ders l ((bodyI l it.1).drop it.2.1.toNat) u → ∃ v, Der l (2, 0) (yieldK l ts ++ (u ++ v)) := fun {ts s} _ l0 h0 it hc => by
    induction hc with
    | base hb => exact h0 _ hb
    | @step it2 it3 hc hx ih =>
      intro u hu
      obtain ⟨n, i, k, h1, h2, h3, _, _, rfl⟩ := hx
      have hbi : bodyI l (i : Int) = (prodAt l (i : Int)).2 := by unfold bodyI; rw [if_neg (by omega)]
      have hu : Ders l (bodyI l (i : Int)) u := hu
      rw [hbi] at hu
      have hd : Der l (2, n) u := .non (by show (2 : Int) ≠ 1; decide) (prodAt_mem (by omega) (by omega)) h3 hu
      unfold nextS at h1
      obtain ⟨h4, h5⟩ := List.getElem?_eq_some_iff.1 h1
      obtain ⟨w2, hw2⟩ := hrest ((bodyI l it2.1).drop (it2.2.1.toNat + 1)) fun x hx => hb it2.1 x (List.mem_of_mem_drop hx)
      have hd2 : Ders l ((bodyI l it2.1).drop it2.2.1.toNat) (u ++ w2) := by
        rw [List.drop_eq_getElem_cons h4, h5]
        exact .cons hd hw2
      obtain ⟨v, hv⟩ := ih _ hd2
      exact ⟨w2 ++ v, by rw [← List.append_assoc u]; exact hv⟩
  induction h with
  | start =>
    intro q ρ e it hit u hu
    obtain ⟨rfl, rfl⟩ := List.cons.inj e
    rw [s0_get hI] at hit
    refine up (s := []) (fun _ h => by cases h) [((l.length : Int), 0, (T : Int))] (fun it' h u hu => ?_) it ((closed_mem (lk := lk) hw hl hT (start_right hl hT)).1 hit) u hu
    rw [List.mem_singleton.1 h] at hu
    have hb0 : bodyI l (l.length : Int) = [(2, 0)] := by unfold bodyI; rw [if_pos rfl]
    have hu : Ders l (bodyI l (l.length : Int)) u := hu
    rw [hb0] at hu
    refine ⟨[], ?_⟩
    cases hu with
    | cons h1 h2 =>
      cases h2
      rw [List.append_nil, List.append_nil]
      exact h1
  | @push q s σ ts a x t h hs hx hne ht ih =>
    intro q' ρ e it hit u hu
    obtain ⟨rfl, rfl⟩ := List.cons.inj e
    have hqr := state_right hI (stk_lt hI h)
    rw [hx] at hit
    refine up (s := []) (fun _ h => by cases h) (overI l (S.getD q []) x) (fun it' h u hu => ?_) it ((closed_mem (lk := lk) hw hl hT (over_right hqr)).1 hit) u hu
    obtain ⟨it0, k1, k2, rfl⟩ := mem_over.1 h
    unfold nextS at k2
    obtain ⟨k3, k4⟩ := List.getElem?_eq_some_iff.1 k2
    have h0 := (hqr it0 k1).2.2.1
    have e1 : (advI it0).2.1.toNat = it0.2.1.toNat + 1 := by show (it0.2.1 + 1).toNat = _; omega
    rw [e1] at hu
    have hu2 : Ders l ((bodyI l it0.1).drop it0.2.1.toNat) (yieldX l t x ++ u) := by
      rw [List.drop_eq_getElem_cons k3, k4]
      exact .cons (right_der ht) hu
    obtain ⟨v, hv⟩ := ih q σ rfl it0 k1 _ hu2
    refine ⟨v, ?_⟩
    rw [yieldK_cons]
    simpa [List.append_assoc] using hv
omit hB hh in
theorem stk_begins (hM : ∀ i : Nat, i < N → ∃ ws, Der l (2, (i : Int)) ws) (hb : ∀ p x, x ∈ bodyI l p → x.1 = 1 ∨ (x.1 = 2 ∧ 0 ≤ x.2 ∧ x.2 < (N : Int))) {σ : List Nat} {ts : List (Sym × Tree)} {a : Nat} (h : Stk l T N lk S σ ts a) : ∃ v, Der l (2, 0) (yieldK l ts ++ v) := by
  obtain ⟨q, ρ, rfl⟩ := h.ne
  have hne : S.getD q [] ≠ [] := by
    cases h with
    | start =>
      rw [s0_get hI]
      exact fun e => by
        have := (closed_mem (lk := lk) hw hl hT (start_right hl hT) (x := (((l.length : Int), 0, (T : Int)) : Item))).2 (.base (List.mem_singleton.2 rfl))
        rw [show closedI l T lk [((l.length : Int), 0, (T : Int))] = startI l T lk from rfl, e] at this
        cases this
    | push _ _ hx hne _ => rw [hx]; exact hne
  obtain ⟨it, r, hr⟩ := List.exists_cons_of_ne_nil hne
  have hit : it ∈ S.getD q [] := by rw [hr]; exact List.mem_cons_self ..
  have hrest : ∀ (b : List Sym), (∀ x ∈ b, x.1 = 1 ∨ (x.1 = 2 ∧ 0 ≤ x.2 ∧ x.2 < (N : Int))) → ∃ ws, Ders l b ws := fun b => by
    induction b with
    | nil => exact fun _ => ⟨[], .nil⟩
    | cons y r ih =>
      intro hx
      obtain ⟨w2, h2⟩ := ih fun x hx' => hx x (List.mem_cons_of_mem _ hx')
      have h1 : ∃ ws, Der l y ws := by
        obtain ⟨k, n⟩ := y
        rcases hx (k, n) (List.mem_cons_self ..) with h | ⟨h1, h2, h3⟩
        · exact ⟨[n], .term h⟩
        · dsimp only at h1 h2 h3
          subst h1
          obtain ⟨m, rfl⟩ := Int.eq_ofNat_of_zero_le h2
          exact hM m (by omega)
      obtain ⟨w1, h1⟩ := h1
      exact ⟨w1 ++ w2, .cons h1 h2⟩
  obtain ⟨u, hu⟩ := hrest ((bodyI l it.1).drop it.2.1.toNat) fun x hx => hb it.1 x (List.mem_of_mem_drop hx)
  obtain ⟨v, hv⟩ := stk_viable hI hw hl hT hM hb h q ρ rfl it hit u hu
  exact ⟨u ++ v, hv⟩
end
end
end Go.Proofs.Ytlojfbnimmdehaa.itemL

/- LrT -/
namespace Go.Proofs.Ytlojfbnimmdehaa.eng
open gramL treeL countL factsL itemL smallL derL
open llL (colAt)
/-- what is had of a grammar of which a table was made -/
structure MadeT (g : Gram) (T N : Nat) (Nx : List (List Int)) (S : List (List itemL.Item)) : Prop where
  gram : checkG g = 0
  terms : g.terms = (T : Int)
  nons : g.nons = (N : Int)
  all : allI g.prods T N (lkG g) = some (Nx, S)
  acts : (outT g).1 = actTab g.prods T Nx S S.length
  gos : (outT g).2.1 = gotoTab T Nx S.length
  fights : (outT g).2.2.1 = fightsA g.prods T Nx S S.length
theorem outT_made {g : Gram} (h : (outT g).2.2.2 = 0) : ∃ T N Nx S, MadeT g T N Nx S := by
  unfold outT at h
  by_cases c : (outA g).2.2 ≠ 0
  · rw [if_pos c] at h; exact absurd h c
  · have c2 : (outA g).2.2 = 0 := Classical.not_not.1 c
    obtain ⟨hg, hA⟩ := outA_ok c2
    obtain ⟨hT1, hT2, hN1, hN2, -⟩ := checkG_ok hg
    exact ⟨g.terms.toNat, g.nons.toNat, (outA g).1, (outA g).2.1, hg, by omega, by omega, hA, by unfold outT; rw [if_neg c], by unfold outT; rw [if_neg c], by unfold outT; rw [if_neg c]⟩
section
variable {g : Gram} {T N : Nat} {Nx : List (List Int)} {S : List (List itemL.Item)}
theorem MadeT.wide (h : MadeT g T N Nx S) : ∀ q ∈ g.prods, q.2.length ≤ 8 := fun q hq => ((checkG_ok h.gram).2.2.2.2.2 q hq).1
theorem MadeT.few (h : MadeT g T N Nx S) : g.prods.length ≤ 40 := (checkG_ok h.gram).2.2.2.2.1
theorem MadeT.t30 (h : MadeT g T N Nx S) : T ≤ 30 := by have := (checkG_ok h.gram).2.1; have := h.terms; omega
theorem MadeT.law (h : MadeT g T N Nx S) : AllI g.prods T N (lkG g) S.length Nx S := allI_law h.wide h.few h.t30 h.all
theorem MadeT.heads (h : MadeT g T N Nx S) : ∀ q ∈ g.prods, 0 ≤ q.1 ∧ q.1 < (N : Int) := fun q hq => by
  obtain ⟨_, h1, h2, _⟩ := (checkG_ok h.gram).2.2.2.2.2 q hq
  rw [h.nons] at h2
  exact ⟨h1, h2⟩
theorem actTab_get {l : List gramL.Prod} {i n : Nat} (h : i < n) : (actTab l T Nx S n)[i]? = some (actRow l T Nx S i (T + 1)) := by unfold actTab; simp [h]
theorem gotoTab_get {i n : Nat} (h : i < n) : (gotoTab T Nx n)[i]? = some ((Nx.getD i []).drop T) := by unfold gotoTab; simp [h]
theorem actRow_get {l : List gramL.Prod} {q c : Nat} (h : c < T + 1) : (actRow l T Nx S q (T + 1))[c]? = some (actAt l T Nx S q c) := by
  unfold actRow
  rw [List.getElem?_map, List.getElem?_range h]
  simp [h]
theorem MadeT.right (h : MadeT g T N Nx S) {q c : Nat} (hq : q < S.length) (hc : c < T + 1) : RightAct T g.prods.length S.length (actAt g.prods T Nx S q c) c := by
  have hI := h.law
  by_cases h0 : (actAt g.prods T Nx S q c).1 = 0
  · left
    refine ⟨h0, ?_⟩
    unfold actAt at h0 ⊢
    cases e : actsI g.prods T (S.getD q []) (Nx.getD q []) c with
    | nil => rfl
    | cons y r =>
      rw [e] at h0
      have hm : y ∈ actsI g.prods T (S.getD q []) (Nx.getD q []) c := by rw [e]; exact List.mem_cons_self ..
      rcases act_means hm with h' | h' | h'
      · have := h'.1; have h0 : y.1 = 0 := h0; omega
      · have h0 : y.1 = 0 := h0; rw [h'.1] at h0; cases h0
      · have := h'.1; have h0 : y.1 = 0 := h0; omega
  · rcases act_means (act_in rfl h0) with h' | h' | h'
    · obtain ⟨h1, h2, h3, h4⟩ := h'
      obtain ⟨s, hs⟩ := Int.eq_ofNat_of_zero_le h3
      obtain ⟨k1, -, -⟩ := cell_next hI hq (syms_term h2) hs
      exact .inr (.inl ⟨h1, h2, by omega, by rw [h4, hs]; omega⟩)
    · obtain ⟨h1, h2⟩ := h'
      have ht := all_top h.wide h.few h.t30 h.all q hq _ h2 rfl
      have ht : (c : Int) = (T : Int) := ht
      exact .inr (.inr (.inr ⟨by rw [h1], by rw [h1], by omega⟩))
    · obtain ⟨h1, h2, h3⟩ := h'
      exact .inr (.inr (.inl ⟨h1, (state_right hI hq _ h3).1, h2⟩))
theorem MadeT.tab (h : MadeT g T N Nx S) : LrOk g T N (actTab g.prods T Nx S S.length) (gotoTab T Nx S.length) where
  gram := h.gram
  terms := h.terms
  nons := h.nons
  pos := by rw [actTab_len]; exact (List.getElem?_eq_some_iff.1 h.law.start).1
  few := by rw [actTab_len]; exact h.law.few
  same := by rw [actTab_len, gotoTab_len]
  wA := fun i hi => by
    obtain ⟨h1, h2⟩ := List.getElem?_eq_some_iff.1 (actTab_get (T := T) (Nx := Nx) (S := S) (l := g.prods) (show i < S.length by rw [actTab_len] at hi; exact hi))
    rw [h2]; exact actRow_len
  acts := fun i hi c hc => by
    have hi' : i < S.length := by rw [actTab_len] at hi; exact hi
    obtain ⟨h1, h2⟩ := List.getElem?_eq_some_iff.1 (actTab_get (T := T) (Nx := Nx) (S := S) (l := g.prods) hi')
    simp only [h2] at hc ⊢
    rw [actRow_len] at hc
    obtain ⟨h3, h4⟩ := List.getElem?_eq_some_iff.1 (actRow_get (l := g.prods) (T := T) (Nx := Nx) (S := S) (q := i) hc)
    rw [h4, actTab_len]
    exact h.right hi' hc
  wG := fun i hi => by
    have hi' : i < S.length := by rw [gotoTab_len] at hi; exact hi
    obtain ⟨h1, h2⟩ := List.getElem?_eq_some_iff.1 (gotoTab_get (T := T) (Nx := Nx) hi')
    rw [h2, List.length_drop, h.law.wide i hi']
    omega
  gos := fun i hi y hy => by
    have hi' : i < S.length := by rw [gotoTab_len] at hi; exact hi
    obtain ⟨h1, h2⟩ := List.getElem?_eq_some_iff.1 (gotoTab_get (T := T) (Nx := Nx) hi')
    rw [h2] at hy
    obtain ⟨k, hk, rfl⟩ := List.getElem_of_mem hy
    rw [actTab_len]
    rw [List.length_drop, h.law.wide i hi'] at hk
    rw [List.getElem_drop]
    have hw := h.law.wide i hi'
    have hg : (Nx.getD i [])[T + k]'(by rw [hw]; omega) = (Nx.getD i []).getD (T + k) 0 := by rw [List.getD_eq_getElem?_getD (l := Nx.getD i []), List.getElem?_eq_getElem (by rw [hw]; omega)]; rfl
    rw [hg]
    rcases h.law.cell i hi' (T + k) _ (syms_non (by omega)) with ⟨_, e⟩ | ⟨_, e1, e2⟩
    · rw [e]; omega
    · rw [e2]; have := idx_lt e1; omega
/-- functions for who builds up -/
def actT (A : List (List itemL.Act)) (q c : Nat) : itemL.Act := (A.getD q []).getD c (0, 0)
def gotoT (G : List (List Int)) (q : Nat) (n : Int) : Int := (G.getD q []).getD n.toNat 0
theorem MadeT.tabB (h : MadeT g T N Nx S) : TabB g.prods (actT (actTab g.prods T Nx S S.length)) (gotoT (gotoTab T Nx S.length)) T N Nx S where
  act := fun q c hq hc => by
    unfold actT
    rw [show (actTab g.prods T Nx S S.length).getD q [] = actRow g.prods T Nx S q (T + 1) by rw [List.getD_eq_getElem?_getD, actTab_get hq]; rfl]
    show (actRow g.prods T Nx S q (T + 1)).getD c (0, 0) = _
    rw [List.getD_eq_getElem?_getD, actRow_get (by omega)]
    rfl
  gt := fun q n hq h0 hn => by
    unfold gotoT goTo
    rw [show (gotoTab T Nx S.length).getD q [] = (Nx.getD q []).drop T by rw [List.getD_eq_getElem?_getD, gotoTab_get hq]; rfl]
    show ((Nx.getD q []).drop T).getD n.toNat 0 = _
    rw [List.getD_eq_getElem?_getD (l := (Nx.getD q []).drop T), List.getElem?_drop, List.getD_eq_getElem?_getD (l := Nx.getD q [])]
theorem fights_none {l : List gramL.Prod} : ∀ n, (fightsA l T Nx S n).length = 0 → ∀ q, q < n → ∀ c, c ≤ T → (actsI l T (S.getD q []) (Nx.getD q []) c).length ≤ 1
  | 0, _, q, hq, _, _ => absurd hq (Nat.not_lt_zero _)
  | n + 1, h, q, hq, c, hc => by
    rw [fightsA, List.length_append] at h
    by_cases e : q = n
    · subst e
      have row : ∀ d, (fightsR l T Nx S q d).length = 0 → ∀ c, c < d → (fightsC l T Nx S q c).length = 0 := fun d => by
        induction d with
        | zero => exact fun _ c hc => absurd hc (Nat.not_lt_zero _)
        | succ d ih =>
          intro h c hc
          rw [fightsR, List.length_append] at h
          by_cases e2 : c = d
          · subst e2; omega
          · exact ih (by omega) c (by omega)
      have := row (T + 1) (by omega) c (by omega)
      unfold fightsC at this
      rw [List.length_map, List.length_tail] at this
      have h2 : (actsI l T (S.getD q []) (Nx.getD q []) c).length - 1 = 0 := this
      omega
    · exact fights_none n (by omega) q (by omega) c hc
theorem MadeT.calm (h : MadeT g T N Nx S) (hc : calmB g = true) : CalmI g.prods T Nx S := by
  unfold calmB at hc
  rw [Bool.and_eq_true, decide_eq_true_eq, decide_eq_true_eq, h.fights] at hc
  exact fun q hq c hcT => fights_none S.length hc.2 q hq c hcT
theorem calm_made (hc : calmB g = true) : ∃ T N Nx S, MadeT g T N Nx S := by
  unfold calmB at hc
  rw [Bool.and_eq_true, decide_eq_true_eq] at hc
  exact outT_made hc.1
theorem body_right (hg : checkG g = 0) {p : Int} : ∀ x ∈ bodyI g.prods p, right g.terms g.nons x = true := fun x hx => by
  unfold bodyI at hx
  split at hx
  · rw [List.mem_singleton.1 hx]
    have := (checkG_ok hg).2.2.1
    unfold right
    rw [if_neg (by decide), if_pos rfl]
    simp only [Int.le_refl, decide_true, Bool.true_and, decide_eq_true_eq]
    omega
  · by_cases h2 : p.toNat < g.prods.length
    · have : prodAt g.prods p ∈ g.prods := by unfold prodAt; rw [List.getD_eq_getElem?_getD, List.getElem?_eq_getElem h2]; exact List.getElem_mem h2
      exact ((checkG_ok hg).2.2.2.2.2 _ this).2.2.2 x hx
    · unfold prodAt at hx
      rw [List.getD_eq_getElem?_getD, List.getElem?_eq_none (by omega)] at hx
      cases hx
theorem MadeT.looks (h : MadeT g T N Nx S) (p d : Int) : lkG g p d = beginF (ofS N g.prods).E (ofF N g.prods) ((bodyI g.prods p).drop (d.toNat + 1)) (2 ^ 62) := by
  unfold lkG begV
  have hb8 := body_len (l := g.prods) (p := p) h.wide
  have hE : begE g ((bodyI g.prods p).drop (d.toNat + 1)) = 0 := by
    unfold begE
    rw [if_neg (by rw [h.gram]; simp), if_neg (by rw [List.length_drop]; omega)]
    exact badE_of fun x hx => body_right h.gram x (List.mem_of_mem_drop hx)
  rw [if_pos hE, show g.nons.toNat = N by rw [h.nons]; rfl]
theorem MadeT.lrH (h : MadeT g T N Nx S) (hc : calmB g = true) {w : List Int} (hw : ∀ x ∈ w, 0 ≤ x ∧ x < (T : Int)) : LrH g.prods T N (lkG g) Nx S w (ofS N g.prods).E (ofF N g.prods) (ofW N g.prods) (ofS N g.prods).R (ofS N g.prods).M where
  wide := h.wide
  few := h.few
  terms := h.t30
  nons := by have := (checkG_ok h.gram).2.2.1; have := h.nons; omega
  syms := symsOk_of h.gram h.nons
  term := fun q hq x hx h1 => by
    have := ((checkG_ok h.gram).2.2.2.2.2 q hq).2.2.2 x hx
    rcases right_cases this with ⟨_, h2, h3⟩ | ⟨h2, _⟩
    · rw [h.terms] at h3; exact ⟨h2, h3⟩
    · rw [h1] at h2; cases h2
  all := h.law
  calm := h.calm hc
  facts := closed_of h.gram h.nons
  looks := fun p d _ _ _ => h.looks p d
  word := hw
end
/-! ### brackets -/
theorem brk_outT : outT brkG = (actTab brkP 2 brkNx brkSt 10, gotoTab 2 brkNx 10, [], 0) := by
  unfold outT
  rw [brk_out]
  kernel_rfl
theorem brk_calm : calmB brkG = true := by
  unfold calmB
  rw [brk_outT]
  rfl
theorem brk_made : MadeT brkG 2 1 brkNx brkSt := ⟨brk_ok, rfl, rfl, brk_all, by rw [brk_outT]; rfl, by rw [brk_outT]; rfl, by rw [brk_outT]; kernel_rfl⟩
end Go.Proofs.Ytlojfbnimmdehaa.eng

/- ClimbO -/
namespace Go.Proofs.Ytlojfbnimmdehaa.eng
open Go.RowKit kit mix gramL treeL climbL
def tdB : TD → Bool | .sym _ => false | .close _ => true
def tdN : TD → Int | .sym _ => 0 | .close p => p
def tdX : TD → Sym | .sym x => x | .close _ => (0, 0)
def tdC (d : TD) : List Value := [.bool (tdB d), .int .i64 (tdN d), .int .i64 (tdX d).1, .int .i64 (tdX d).2]
theorem tdC_len (d : TD) : (tdC d).length = 4 := rfl
theorem tdC_all (l : List TD) : ∀ u ∈ l.flatMap tdC, u.oneCell' = true := by
  intro u hu
  obtain ⟨d, _, h⟩ := List.mem_flatMap.1 hu
  simp only [tdC, List.mem_cons, List.not_mem_nil, or_false] at h
  rcases h with rfl | rfl | rfl | rfl <;> rfl
def tdV (d : TD) : Value := .agg (tdC d).toArray
theorem build_tdS (x : Sym) (w : World) : (Instr.build 179 #[(2, .agg (symC x).toArray)]).run Try.prog w = .ok (tdV (.sym x)) w := by
  unfold tdV tdC symC tdB tdN tdX; go_simp
theorem build_tdC (p : Int) (w : World) : (Instr.build 179 #[(0, .bool true), (1, .int .i64 p)]).run Try.prog w = .ok (tdV (.close p)) w := by
  unfold tdV tdC tdB tdN tdX; go_simp
/-- a climber -/
def clV (vt : Value) (seen over : Int) (done : Bool) : Value := .agg #[vt, .int .i64 seen, .int .i64 over, .bool done]
/-- the work of one token -/
def cwV (t n : Int) (vp vt vo : Value) (acts : Nat) : Array Value := #[.int .i64 t, .int .i64 n, vp, vt, vo, .int .i64 (acts : Int)]
abbrev cwO (gw : Nat) (t n : Int) (vp vt vo : Value) (acts : Nat) : Own := blkO gw (cwV t n vp vt vo acts) 186
abbrev tdO (vt : Value) (st : List TD) : Own := rowO 179 4 vt st.length (st.reverse.flatMap tdC)
abbrev evO (vo : Value) (l : List Sym) : Own := rowO 82 2 vo l.length (l.flatMap symC)
theorem build_evn (k n : Int) (w : World) : (Instr.build 82 #[(0, .int .i64 k), (1, .int .i64 n)]).run Try.prog w = .ok (.agg (symC (k, n)).toArray) w := by
  unfold symC; go_simp
theorem rr_vfld {P : Program} {n : Nat} {W : Base} {fr : Fr} {L : List Own} {dst : Option Tmp} {t ty : TypeId} {pos : String} {after : Array Edge} {guard : Option (Nat × Bool)} {x : Operand} {f : Nat} {v u : Value} (hx : ev fr x = some v) (h : ∀ w, (Instr.field t v f).run P w = .ok u w) : RR P n W ⟨dst, .field t x f, ty, pos, after, guard⟩ fr L u := .mk fun a w hr _ => by
  simp [execOp, hr.ev hx, h]
theorem field_td1 (d : TD) (w : World) : (Instr.field 179 (tdV d) 1).run Try.prog w = .ok (.int .i64 (tdN d)) w := by
  unfold tdV tdC; kernel_rfl
end Go.Proofs.Ytlojfbnimmdehaa.eng

/- IntS -/
namespace Go.Proofs.Ytlojfbnimmdehaa.eng
open Go.RowKit kit mix
theorem IntS_len (a : Int) : (kit.intC a).length = 1 := rfl
set_option maxHeartbeats 2000000 in
theorem indexFuncIntS_calls (v : Value) (l : List Int) (w : World) (hs : Sl w v l.length (l.flatMap kit.intC)) (fid : FuncId) (first cp : Array Value) (p : Int → Bool) (hen : Enters Try.prog fid)
    (hp : ∀ a ∈ l, ∀ w', Gr w w' → Calls Try.prog fid (first ++ #[((kit.intC a).headD undef)] ++ cp) w' (Meets (ret (.bool (p a))) w')) :
    Calls Try.prog 64 #[v, .func (.func fid) first cp] w (Meets (ret (.int .i64 (idxF p l))) w) := by
  obtain ⟨base, cap, rfl, hcap, hmax, hrd⟩ := hs
  unfold maxLen at hmax
  refine enter (args := [.slice base l.length cap, .func (.func fid) first cp]) (n := 19) Try.func64 rfl rfl rfl ?_
  repeat(first|refine QV QP ?_|refine QZ ?_|refine qcT rfl ?_|refine qcF rfl ?_|refine E_blockX ?_|refine E_blockO rfl ?_|refine QV QL ?_|refine QV QlT ?_|refine QV QlF ?_|refine QV QaA ?_)
  refine T_loop (ι := Nat) (fun k => k ≤ l.length ∧ ∀ j (hj : j < l.length), j < k → p l[j] = false) (fun k => [(0, .slice base l.length cap), (1, .func (.func fid) first cp), (7, .int .i64 l.length), (8, .int .i64 (k : Int))]) (fun _ => []) (fun k => l.length - k) 0 ⟨by omega, fun j hj h => by omega⟩ (by repeat' (first | exact True.intro | refine And.intro rfl ?_)) rfl ?_
  rintro k ⟨h1, h2⟩
  by_cases c2 : k < l.length
  · obtain ⟨b, off, rfl, hr⟩ := hrd (by omega)
    have hat := at_el (L := ([] : List Own)) IntS_len hr c2
    have hcl := hp l[k] (List.getElem_mem c2)
    by_cases c3 : p l[k] = true
    · rw [idxF_some c2 c3 h2]
      rw [c3] at hcl
      clear hp h2 hrd
      repeat(first|refine QV QP ?_|refine QZ ?_|refine qcT rfl ?_|refine qcF rfl ?_|refine E_blockX ?_|refine E_blockO rfl ?_|refine QV (rr_idxc Und.eq TyC.ty rfl rfl c2) ?_|refine QV (rr_load1 TyC.ty rfl (hat 0 _ rfl)) ?_|refine QV QL ?_|refine QV QlT ?_|refine QV QlF ?_|refine QV QaA ?_)
      refine TL_call (he1c hen rfl rfl) (fun w hm => hcl w hm.below) rfl rfl rfl ?_
      intro _ _
      repeat(first|refine QV QP ?_|refine QZ ?_|refine qcT rfl ?_|refine qcF rfl ?_|refine E_blockX ?_|refine E_blockO rfl ?_|refine QV QL ?_|refine QV QlT ?_|refine QV QlF ?_|refine QV QaA ?_)
      exact E_ret1 rfl rfl fun w hm => hm.ret
    · have c3' : p l[k] = false := by simpa using c3
      rw [c3'] at hcl
      clear hp hrd c3
      repeat(first|refine QV QP ?_|refine QZ ?_|refine qcT rfl ?_|refine qcF rfl ?_|refine E_blockX ?_|refine E_blockO rfl ?_|refine QV (rr_idxc Und.eq TyC.ty rfl rfl c2) ?_|refine QV (rr_load1 TyC.ty rfl (hat 0 _ rfl)) ?_|refine QV QL ?_|refine QV QlT ?_|refine QV QlF ?_|refine QV QaA ?_)
      refine TL_call (he1c hen rfl rfl) (fun w hm => hcl w hm.below) rfl rfl rfl ?_
      intro _ _
      repeat(first|refine QV QP ?_|refine QZ ?_|refine qcT rfl ?_|refine qcF rfl ?_|refine E_blockX ?_|refine E_blockO rfl ?_|refine QV QL ?_|refine QV QlT ?_|refine QV QlF ?_|refine QV QaA ?_)
      exact E_round (k + 1) ⟨by omega, fun j hj h => if e : j < k then h2 j hj e else (by obtain rfl : j = k := (by omega); exact c3')⟩ (by show l.length - (k + 1) < l.length - k; omega) (by repeat' (first | exact True.intro | refine And.intro rfl ?_)) rfl
  · rw [idxF_none fun j hj => h2 j hj (by omega)]
    clear hp h2 hrd
    repeat(first|refine QV QP ?_|refine QZ ?_|refine qcT rfl ?_|refine qcF rfl ?_|refine E_blockX ?_|refine E_blockO rfl ?_|refine QV QL ?_|refine QV QlT ?_|refine QV QlF ?_|refine QV QaA ?_)
    exact E_ret1 rfl rfl fun w hm => hm.ret
theorem containsFuncIntS_calls (v : Value) (l : List Int) (w : World) (hs : Sl w v l.length (l.flatMap kit.intC)) (fid : FuncId) (first cp : Array Value) (p : Int → Bool) (hen : Enters Try.prog fid)
    (hp : ∀ a ∈ l, ∀ w', Gr w w' → Calls Try.prog fid (first ++ #[((kit.intC a).headD undef)] ++ cp) w' (Meets (ret (.bool (p a))) w')) :
    Calls Try.prog 31 #[v, .func (.func fid) first cp] w (Meets (ret (.bool (l.any p))) w) := by
  refine enter (args := [v, .func (.func fid) first cp]) (n := 9) Try.func31 rfl rfl rfl ?_
  have hh := fun w' (hg : Gr w w') => indexFuncIntS_calls v l w' (hs.gr hg) fid first cp p hen fun a ha w'' hg' => hp a ha w'' (hg.trans hg')
  have hr := idxF_range p l
  rw [← idxF_any p l]
  generalize idxF p l = r at *
  repeat(first|refine QV QP ?_|refine QZ ?_|refine QV QhT ?_|refine QV QhF ?_)
  refine TL_call (he2 EntersC.en rfl rfl rfl) (fun w hm => hh _ hm.below) rfl rfl rfl ?_
  intro _ _
  repeat(first|refine QV QP ?_|refine QZ ?_|refine QV (rr_geq rfl rfl rfl) ?_|refine QV QhT ?_|refine QV QhF ?_)
  exact E_ret1 rfl rfl fun w hm => hm.ret
end Go.Proofs.Ytlojfbnimmdehaa.eng

/- BuA -/
namespace Go.Proofs.Ytlojfbnimmdehaa.eng
open Go.RowKit kit mix gramL treeL factsL itemL smallL
/-- a stack, as it lies in memory -/
def sI (σ : List Nat) : List Int := σ.reverse.map fun q : Nat => (q : Int)
theorem sI_len (σ : List Nat) : (sI σ).length = σ.length := by unfold sI; simp
theorem sI_cons (q : Nat) (σ : List Nat) : sI (q :: σ) = sI σ ++ [(q : Int)] := by unfold sI; simp
theorem sI_drop (b : Nat) (σ : List Nat) : sI (σ.drop b) = (sI σ).take (σ.length - b) := by
  unfold sI
  rw [← List.map_take, List.take_reverse]
  by_cases h : b ≤ σ.length
  · rw [show σ.length - (σ.length - b) = b by omega]
  · rw [List.drop_eq_nil_of_le (by omega), List.drop_eq_nil_of_le (by omega)]
theorem sI_get {b : Nat} {σ ρ : List Nat} {r n : Nat} (h : σ.drop b = r :: ρ) (hn : σ.length = n + 1 + b) : (sI σ)[n]? = some (r : Int) := by
  have h1 := sI_drop b σ
  rw [h, sI_cons, show σ.length - b = n + 1 by omega] at h1
  have h2 : ρ.length = n := by
    have := congrArg List.length h
    rw [List.length_drop, List.length_cons] at this
    omega
  have h3 : ((sI σ).take (n + 1))[n]? = some (r : Int) := by
    rw [← h1, List.getElem?_append_right (by rw [sI_len]; omega), sI_len, h2, Nat.sub_self]; rfl
  rwa [List.getElem?_take_of_lt (Nat.lt_succ_self n)] at h3
abbrev skR (w : World) (vs : Value) (σ : List Nat) : Prop := Sl w vs σ.length ((sI σ).flatMap kit.intC)
abbrev skO (vs : Value) (σ : List Nat) : Own := rowO 3 1 vs σ.length ((sI σ).flatMap kit.intC)
def skV (vs : Value) (seen over : Int) (done : Bool) : Value := .agg #[vs, .int .i64 seen, .int .i64 over, .bool done]
theorem bdCheck1_calls (aA : Option Addr) (nA cA : Nat) (vG : Value) (q : Int) (g5 : Nat) (w : World) (h0 : 0 ≤ q) (h1 : q < (nA : Int)) (hg : w.heap[g5]? = some (.cells (Value.agg #[.slice aA nA cA, vG]).cells 29 (0, 0))) :
    Calls Try.prog 115 #[.int .i64 q, .pointer (some ⟨g5, 0, none⟩)] w (Meets (ret (.bool false)) w) := by
  have hcell : ∀ (L : List Own), At w L ⟨g5, 0, none⟩ (.slice aA nA cA) := fun L => at_old (by
    rw [cell_of_row w g5 0 _ _ _ hg]
    rfl)
  clear hg
  refine enter (args := [.int .i64 q, .pointer (some ⟨g5, 0, none⟩)]) (n := 13) Try.func115 rfl rfl rfl ?_
  repeat(first|refine QV QP ?_|refine QZ ?_|refine qs rfl rfl rfl rfl rfl rfl ?_|((try refine qg rfl rfl rfl ?_);first|refine QV QP ?_|refine QV (rr_lss (b := false) rfl rfl (decide_eq_false (by omega))) ?_|refine QV QlT ?_|refine QV QlF ?_|refine QV (rr_load1 (v := .slice aA nA cA) TyC.ty rfl (hcell _)) ?_|refine QV (rr_geq (b := false) rfl rfl (decide_eq_false (by omega))) ?_|refine QV QL ?_|refine QV QA ?_|refine QV QhT ?_|refine QV QhF ?_))
  exact E_ret1 rfl rfl fun w hm => hm.ret
set_option maxHeartbeats 4000000 in
theorem bdCheck_calls (v t vs : Value) (g : Gram) (T N : Nat) (A : List (List itemL.Act)) (G : List (List Int)) (σ : List Nat) (seen col : Int) (w : World) (hG : GraR (fun k => k < w.heap.size) w v g) (ht : TabR w t A G) (hs : skR w vs σ) (hT : LrOk g T N A G) (hq : ∀ q ∈ σ, q < A.length) (h0 : 0 < σ.length) (hl : σ.length ≤ 60) (h1 : 0 ≤ seen) (h2 : seen ≤ 1099511627776) (h3 : 0 ≤ col) (h4 : col ≤ g.terms) :
    Calls Try.prog 88 #[v, t, skV vs seen 0 false, .int .i64 col] w (Meets (ret (.int .i64 0)) w) := by
  have hck := fun w' (hg : Gr w w') => lrCheck_calls v t g T N A G hT w' (hG.gr hg) (ht.gr hg)
  obtain ⟨vp, rfl, hp, -, -⟩ := hG
  obtain ⟨bp, cp, rfl, -⟩ := hp
  obtain ⟨vA, vG, rfl, hA, hGo⟩ := ht
  obtain ⟨aA, cA, rfl, -, -⟩ := slf_form hA
  clear hA hGo
  have hco := fun w' (hg : Gr w w') g5 (hb : w'.heap[g5]? = some (.cells (Value.agg #[.slice aA A.length cA, vG]).cells 29 (0, 0))) => containsFuncIntS_calls vs (sI σ) w' (by rw [sI_len]; exact hs.gr hg) 115 #[] #[.pointer (some ⟨g5, 0, none⟩)] (fun _ => false) EntersC.en (fun a ha w'' hg' => by
    unfold sI at ha
    obtain ⟨q, hq1, rfl⟩ := List.mem_map.1 ha
    have := hq q (List.mem_reverse.1 hq1)
    exact bdCheck1_calls aA A.length cA vG (q : Int) g5 w'' (by omega) (by omega) (by rw [hg'.block g5 (Array.getElem?_eq_some_iff.1 hb).1]; exact hb))
  have hany : (sI σ).any (fun _ => false) = false := by rw [List.any_eq_false]; intro _ _ h; cases h
  rw [hany] at hco
  obtain ⟨bs, cs, rfl, -⟩ := hs
  refine enter (args := [graV g.terms g.nons (.slice bp g.prods.length cp), .agg #[.slice aA A.length cA, vG], skV (.slice bs σ.length cs) seen 0 false, .int .i64 col]) (n := 66) Try.func88 rfl rfl rfl ?_
  refine T_seq (T_region (TL_box rfl rfl rfl fun g4 => ?_))
  conv=>arg 8;simp only[zA,zB,zC,zD,zE,zF,zG,zH,zI,rowS,ret,id_eq]
  refine TL_box rfl rfl rfl fun g5 => ?_
  conv=>arg 8;simp only[zA,zB,zC,zD,zE,zF,zG,zH,zI,rowS,ret,id_eq]
  refine TL_box rfl rfl rfl fun g6 => ?_
  conv=>arg 8;simp only[zA,zB,zC,zD,zE,zF,zG,zH,zI,rowS,ret,id_eq]
  repeat(first|refine QV QP ?_|refine QZ ?_|refine qcT rfl ?_|refine qcF rfl ?_|refine qs rfl rfl rfl rfl rfl rfl ?_|((try refine qg rfl rfl rfl ?_);first|refine QV QP ?_|refine QV (rr_loadB (i := 0) TyC.ty rfl rfl rfl) ?_|refine QV (rr_loadB (i := 1) TyC.ty rfl rfl rfl) ?_|refine QV QL ?_|refine QV QA ?_|refine QV QeT ?_|refine QV QeF ?_|refine QV QnT ?_|refine QV QnF ?_|refine QV (rr_not rfl rfl) ?_|refine QV QlT ?_|refine QV QlF ?_|refine QV QgT ?_|refine QV QgF ?_))
  refine TL_call (he2 EntersC.en rfl rfl rfl) (fun w hm => hck w hm.below) rfl rfl rfl ?_
  intro _ _
  conv=>arg 8;simp only[zA,zB,zC,zD,zE,zF,zG,zH,zI,rowS,ret,id_eq]
  repeat(first|refine QV QP ?_|refine QZ ?_|refine qcT rfl ?_|refine qcF rfl ?_|refine qs rfl rfl rfl rfl rfl rfl ?_|((try refine qg rfl rfl rfl ?_);first|refine QV QP ?_|refine QV (rr_load1 (v := .slice bs σ.length cs) TyC.ty rfl (at_blk (i := 2) rfl rfl)) ?_|refine QV (rr_load1 (v := .int .i64 seen) TyC.ty rfl (at_blk (i := 2) rfl rfl)) ?_|refine QV (rr_load1 (v := .int .i64 0) TyC.ty rfl (at_blk (i := 2) rfl rfl)) ?_|refine QV (rr_load1 (v := .bool false) TyC.ty rfl (at_blk (i := 2) rfl rfl)) ?_|refine QV (rr_load1 (v := .int .i64 g.terms) TyC.ty rfl (at_blk (i := 0) rfl rfl)) ?_|refine QV (rr_func rfl rfl) ?_|refine QV QL ?_|refine QV QA ?_|refine QV QeT ?_|refine QV QeF ?_|refine QV QnT ?_|refine QV QnF ?_|refine QV (rr_not rfl rfl) ?_|refine QV QlT ?_|refine QV QlF ?_|refine QV QgT ?_|refine QV QgF ?_))
  refine TL_call (he2 EntersC.en rfl rfl rfl) (fun w hm => hco _ hm.below _ (hm.get (i := 1) rfl)) rfl rfl rfl ?_
  intro _ _
  conv=>arg 8;simp only[zA,zB,zC,zD,zE,zF,zG,zH,zI,rowS,ret,id_eq]
  repeat(first|refine QV QP ?_|refine QZ ?_|refine qcT rfl ?_|refine qcF rfl ?_|refine qs rfl rfl rfl rfl rfl rfl ?_|((try refine qg rfl rfl rfl ?_);first|refine QV QP ?_|refine QV (rr_load1 (v := .int .i64 0) TyC.ty rfl (at_blk (i := 2) rfl rfl)) ?_|refine QV (rr_load1 (v := .bool false) TyC.ty rfl (at_blk (i := 2) rfl rfl)) ?_|refine QV QL ?_|refine QV QA ?_|refine QV QeT ?_|refine QV QeF ?_|refine QV QnT ?_|refine QV QnF ?_|refine QV (rr_not rfl rfl) ?_|refine QV QlT ?_|refine QV QlF ?_|refine QV QgT ?_|refine QV QgF ?_))
  exact E_ret1 rfl rfl fun w hm => hm.ret
theorem build_sk0 (g : Nat) (w : World) : (Instr.build 125 #[(0, .slice (some ⟨g, 0, none⟩) 1 1)]).run Try.prog w = .ok (skV (.slice (some ⟨g, 0, none⟩) 1 1) 0 0 false) w := by
  unfold skV; go_simp
theorem build_skE (seen e : Int) (w : World) : (Instr.build 125 #[(1, .int .i64 seen), (2, .int .i64 e)]).run Try.prog w = .ok (skV (.slice none 0 0) seen e false) w := by
  unfold skV; go_simp
theorem build_skN (b : Option Addr) (m c : Nat) (seen : Int) (w : World) : (Instr.build 125 #[(0, .slice b m c), (1, .int .i64 seen)]).run Try.prog w = .ok (skV (.slice b m c) seen 0 false) w := by
  unfold skV; go_simp
theorem build_skD (seen : Int) (w : World) : (Instr.build 125 #[(1, .int .i64 seen), (3, .bool true)]).run Try.prog w = .ok (skV (.slice none 0 0) seen 0 true) w := by
  unfold skV; go_simp
def beginSS : Spec Value := ⟨fun _ => True, fun vt => skV vt 0 0 false, fun vt => [skO vt [0]]⟩
theorem bdBegin_calls (w : World) : Calls Try.prog 57 #[] w (Meets beginSS w) := by
  refine enter (args := []) (n := 3) Try.func57 rfl rfl rfl ?_
  refine T_seq (T_region (TL_new rfl fun g2 => ?_))
  conv=>arg 8;simp only[zA,zB,zC,zD,zE,zF,zG,zH,zI,rowS,ret,id_eq]
  repeat(first|refine QZ ?_)
  refine TL_litN (cs := #[.int .i64 0]) [.int .i64 0] rfl rfl rfl (by intro v hv; simp at hv; subst hv; rfl) rfl rfl rfl fun g3 => ?_
  conv=>arg 8;simp only[zA,zB,zC,zD,zE,zF,zG,zH,zI,rowS,ret,id_eq]
  repeat(first|refine QZ ?_|refine QV (rr_build rfl (build_sk0 _)) ?_)
  refine TL_storeB (i := 0) (cs' := #[.slice (some ⟨g3, 0, none⟩) 1 1, .int .i64 0, .int .i64 0, .bool false]) rfl rfl rfl rfl rfl rfl ?_
  conv=>arg 8;simp only[zA,zB,zC,zD,zE,zF,zG,zH,zI,rowS,ret,id_eq]
  refine TL_toRow (i := 1) 1 rfl rfl (by omega) ?_
  conv=>arg 8;simp only[zA,zB,zC,zD,zE,zF,zG,zH,zI,rowS,ret,id_eq]
  repeat(first|refine QZ ?_)
  exact E_retc1 (i := 0) rfl rfl rfl rfl fun w hm => hm.meets (S := beginSS) (.slice (some ⟨g3, 0, none⟩) 1 1) trivial [1] (by decide) rfl
/-- what reduce tells -/
def rduS (R : Option (List Nat)) : Spec Value := ⟨fun _ => True, fun v => .tuple #[v, .bool R.isSome], fun v => match R with | some σ' => [skO v σ'] | none => []⟩
set_option maxHeartbeats 4000000 in
theorem bdReduce_calls (v t vs : Value) (g : Gram) (T N : Nat) (A : List (List itemL.Act)) (G : List (List Int)) (σ : List Nat) (p : Nat) (w : World) (hG : GraR (fun k => k < w.heap.size) w v g) (ht : TabR w t A G) (hs : skR w vs σ) (hT : LrOk g T N A G) (hq : ∀ q ∈ σ, q < A.length) (hl : σ.length ≤ 60) (hp : p < g.prods.length) :
    Calls Try.prog 117 #[v, t, vs, .int .i64 (p : Int)] w (Meets (rduS (redB g.prods (gotoT G) σ (p : Int))) w) := by
  obtain ⟨hg, hTt, hNn, hpos, hfew, hsame, hwA, hact, hwG, hgos⟩ := hT
  obtain ⟨hT1, hT2, -, hN2, hpl, hpr⟩ := checkG_ok hg
  have hpe : prodAt g.prods (p : Int) = g.prods[p] := by unfold prodAt; rw [Int.toNat_natCast, List.getD_eq_getElem?_getD, List.getElem?_eq_getElem hp]; rfl
  have hpp := hpr _ (List.getElem_mem hp)
  obtain ⟨vp, rfl, hpg, -, -⟩ := hG
  obtain ⟨bp, cp, rfl, -, -, hrp⟩ := hpg
  obtain ⟨b1, o1, rfl, -, hrp⟩ := hrp (by omega)
  obtain ⟨base, cap, hrd, -, -⟩ := prod_at hrp hp
  clear hrp
  unfold redB
  rw [hpe]
  have hrdH : ∀ L, At (w : Base) L ⟨b1, o1 + p * 2 + 0, none⟩ (.int .i64 g.prods[p].1) := fun L => at_rd hrd rfl
  have hrdB : ∀ L, At (w : Base) L ⟨b1, o1 + p * 2 + 1, none⟩ (.slice base g.prods[p].2.length cap) := fun L => at_rd hrd rfl
  clear hrd hpe hpr
  generalize g.prods[p] = pr at *
  obtain ⟨hd, bd⟩ := pr
  dsimp only at *
  obtain ⟨vA, vG, rfl, -, hGo⟩ := ht
  obtain ⟨aG, cG, rfl, -, -⟩ := slf_form hGo
  obtain ⟨bs, cs, rfl, hcs, hms, hrS⟩ := hs
  unfold maxLen at hms
  refine enter (args := [graV g.terms g.nons (.slice (some ⟨b1, o1, none⟩) g.prods.length cp), .agg #[vA, .slice aG G.length cG], .slice bs σ.length cs, .int .i64 (p : Int)]) (n := 50) Try.func117 rfl rfl rfl ?_
  refine T_seq (T_region (TL_box rfl rfl rfl fun g4 => ?_))
  conv=>arg 8;simp only[zA,zB,zC,zD,zE,zF,zG,zH,zI,rowS,ret,id_eq]
  refine TL_box rfl rfl rfl fun g5 => ?_
  conv=>arg 8;simp only[zA,zB,zC,zD,zE,zF,zG,zH,zI,rowS,ret,id_eq]
  by_cases c : σ.length ≤ bd.length
  · rw [List.drop_eq_nil_of_le c]
    repeat(first|refine QV QP ?_|refine QZ ?_|refine qcT rfl ?_|refine qcF rfl ?_|refine QV (rr_load1 (v := .slice (some ⟨b1, o1, none⟩) g.prods.length cp) TyC.ty rfl (at_blk (i := 0) rfl rfl)) ?_|refine QV (rr_idxc Und.eq TyC.ty rfl rfl hp) ?_|refine QV (rr_load1 (v := .slice base bd.length cap) TyC.ty rfl (hrdB _)) ?_|refine QV (rr_sub64 (r := (σ.length : Int) - (bd.length : Int)) rfl rfl rfl (by omega) (by omega)) ?_|refine QV (rr_lss (b := true) rfl rfl (decide_eq_true (by omega))) ?_|refine QV QL ?_|refine QV QA ?_|refine QV QlT ?_|refine QV QlF ?_|refine QV QhT ?_|refine QV QhF ?_|refine QV QaS ?_)
    exact E_ret2 rfl rfl rfl fun w hm => hm.meets (S := rduS none) (.slice none 0 0) trivial [] (by decide) rfl
  obtain ⟨n, hn⟩ : ∃ n, σ.length = n + 1 + bd.length := ⟨σ.length - bd.length - 1, by omega⟩
  obtain ⟨r, ρ, hdr⟩ : ∃ r ρ, σ.drop bd.length = r :: ρ := List.exists_cons_of_ne_nil fun e => by
    have := congrArg List.length e
    rw [List.length_drop, List.length_nil] at this
    omega
  have hgr := sI_get hdr hn
  have hdI := sI_drop bd.length σ
  rw [hdr, sI_cons, show σ.length - bd.length = n + 1 by omega] at hdI
  have hrA : r < A.length := hq r (List.mem_of_mem_drop (i := bd.length) (by rw [hdr]; exact List.mem_cons_self ..))
  rw [hdr]
  dsimp only
  have hrG : r < G.length := by omega
  obtain ⟨b2, o2, rfl, hrd2⟩ := hrS (by omega)
  rw [flatI] at hrd2
  have hat2 : ∀ L, At (w : Base) L ⟨b2, o2 + n, none⟩ (.int .i64 (r : Int)) := fun L => at_rd hrd2 (by rw [List.getElem?_map, hgr]; rfl)
  have hat2' : ∀ L j u, (((sI σ).take (n + 1)).flatMap kit.intC)[j]? = some u → At (w : Base) L ⟨b2, o2 + j, none⟩ u := fun L j u hj => at_rd hrd2 (by
    rw [flatI, List.map_take, List.getElem?_take] at hj
    by_cases cc : j < n + 1
    · rwa [if_pos cc] at hj
    · rw [if_neg cc] at hj; cases hj)
  clear hrd2 hrS
  obtain ⟨bG, oG, wi, rfl, hcG, hsG⟩ := slf_at hGo hrG
  have hcG' : ∀ L, At (w : Base) L ⟨bG, oG + r, none⟩ wi := fun L => at_old hcG
  clear hcG
  obtain ⟨ei, di, rfl, hdi, hdi2⟩ := slf_form hsG
  have hfG := hsG.flat (f := fun n => [Value.int .i64 n]) (by decide)
  obtain ⟨_, _, e2, -, -, hrY⟩ := hfG
  cases e2
  have hwGr := hwG r hrG
  have hgo := hgos r hrG
  have hgt : gotoT G r hd = G[r].getD hd.toNat 0 := by unfold gotoT; rw [List.getD_eq_getElem?_getD (l := G), List.getElem?_eq_getElem hrG]; rfl
  rw [hgt]
  clear hsG hgt hgos hwG hwA hact hGo
  generalize G[r] = Y at *
  obtain ⟨h, rfl⟩ := Int.eq_ofNat_of_zero_le hpp.2.1
  have hhY : h < Y.length := by omega
  obtain ⟨b3, o3, rfl, hrd3⟩ := hrY (by omega)
  have hYh : Y[h]? = some (Y.getD h 0) := by rw [List.getD_eq_getElem?_getD, List.getElem?_eq_getElem hhY]; rfl
  have hat3 : ∀ L, At (w : Base) L ⟨b3, o3 + h, none⟩ (.int .i64 (Y.getD h 0)) := fun L => at_rd hrd3 (by
    rw [show (Y.flatMap fun n => [Value.int .i64 n]) = Y.map (.int .i64) from flatI Y, List.getElem?_map, hYh]; rfl)
  have hto := hgo _ (List.mem_of_getElem? hYh)
  clear hrd3 hrY hYh hgo
  rw [show Y.getD ((h : Int)).toNat 0 = Y.getD h 0 from rfl]
  generalize Y.getD h 0 = to1 at *
  repeat(first|refine QV QP ?_|refine QZ ?_|refine qcT rfl ?_|refine qcF rfl ?_|refine QV (rr_load1 (v := .slice (some ⟨b1, o1, none⟩) g.prods.length cp) TyC.ty rfl (at_blk (i := 0) rfl rfl)) ?_|refine QV (rr_idxc Und.eq TyC.ty rfl rfl hp) ?_|refine QV (rr_load1 (v := .slice base bd.length cap) TyC.ty rfl (hrdB _)) ?_|refine QV (rr_sub64 (r := ((n + 1 : Nat) : Int)) rfl rfl (by omega) (by omega) (by omega)) ?_|refine QV (rr_lss (b := false) rfl rfl (decide_eq_false (by omega))) ?_|refine QV QL ?_|refine QV QA ?_|refine QV QlT ?_|refine QV QlF ?_|refine QV QhT ?_|refine QV QhF ?_|refine QV QaS ?_)
  refine T_ord ([blkO g4 (graV g.terms g.nons (.slice (some ⟨b1, o1, none⟩) g.prods.length cp)).cells 24, blkO g5 (Value.agg #[vA, .slice (some ⟨bG, oG, none⟩) G.length cG]).cells 29]) (.calm 0 (.calm 1 (.calm 2 (.calm 3 (.calm 4 (.calm 5 (.calm 6 (.calm 7 (.calm 8 (.calm 9 (.calm 10 (.calm 11 (.calm 12 (.calm 13 (.calm 14 (.calm 15 (.calm 16 (.calm 17 (.done))))))))))))))))))) (fun _ h => h) (by kernel_rfl) (by kernel_rfl) (by intro c a d v w h; cases d <;> exact h) ?_
  repeat(first|((first|refine TW_plain rfl rfl ?_|refine TW_gmet rfl rfl rfl rfl ?_);first|refine QW QP ?_|refine QW (rr_load1 (v := .slice (some ⟨bG, oG, none⟩) G.length cG) TyC.ty rfl (at_blk (i := 1) rfl rfl)) ?_|refine QW (rr_sub64 (r := (n : Int)) rfl rfl (by omega) (by omega) (by omega)) ?_|refine QW (rr_idx1 (j := n) Und.eq TyC.ty rfl rfl (by omega)) ?_|refine QW (rr_load1 (v := .int .i64 (r : Int)) TyC.ty rfl (hat2 _)) ?_|refine QW (rr_idx1 (j := r) Und.eq TyC.ty rfl rfl hrG) ?_|refine QW (rr_load1 (v := .slice (some ⟨b3, o3, none⟩) Y.length di) TyC.ty rfl (hcG' _)) ?_|refine QW (rr_load1 (v := .slice (some ⟨b1, o1, none⟩) g.prods.length cp) TyC.ty rfl (at_blk (i := 0) rfl rfl)) ?_|refine QW (rr_idxc Und.eq TyC.ty rfl rfl hp) ?_|refine QW (rr_load1 (v := .int .i64 (h : Int)) TyC.ty rfl (hrdH _)) ?_|refine QW (rr_idx1 (j := h) Und.eq TyC.ty rfl rfl hhY) ?_|refine QW (rr_load1 (v := .int .i64 to1) TyC.ty rfl (hat3 _)) ?_|refine QW QL ?_|refine QW QA ?_|refine QW QlT ?_|refine QW QlF ?_|refine QW QhT ?_|refine QW QhF ?_|refine QW QaS ?_)|refine TW_done ?_)
  repeat(first|refine QV QP ?_|refine QZ ?_|refine qcT rfl ?_|refine qcF rfl ?_|refine QV (rr_sl3 (j := n + 1) Und.eq TyC.ty rfl rfl rfl (by omega)) ?_|refine QV QL ?_|refine QV QA ?_|refine QV QlT ?_|refine QV QlF ?_|refine QV QhT ?_|refine QV QhF ?_|refine QV QaS ?_)
  refine TL_one (cs := #[.int .i64 to1]) rfl rfl rfl rfl rfl fun g46 => ?_
  conv=>arg 8;simp only[zA,zB,zC,zD,zE,zF,zG,zH,zI,rowS,ret,id_eq]
  refine TL_appFull (q := 2) (m := n + 1) (olds := ((sI σ).take (n + 1)).flatMap kit.intC) rfl (hat2' _) (by rw [flatI, List.length_map, List.length_take, sI_len]; show _ = (n + 1) * 1; omega) rfl rfl rfl (by omega) (by omega) rfl fun v' => ?_
  conv=>arg 8;simp only[zA,zB,zC,zD,zE,zF,zG,zH,zI,rowS,ret,id_eq]
  by_cases c2 : 0 ≤ to1
  · rw [if_pos c2]
    have e : rowO 3 1 v' (n + 1 + 1) (((sI σ).take (n + 1)).flatMap kit.intC ++ [.int .i64 to1]) = skO v' (to1.toNat :: r :: ρ) := by
      have hl1 : (to1.toNat :: r :: ρ).length = n + 1 + 1 := by
        have := congrArg List.length hdr
        rw [List.length_drop] at this
        simp only [List.length_cons] at this ⊢
        omega
      show _ = rowO 3 1 v' (to1.toNat :: r :: ρ).length ((sI (to1.toNat :: r :: ρ)).flatMap kit.intC)
      rw [hl1, sI_cons, sI_cons, hdI, List.flatMap_append, Int.toNat_of_nonneg c2]
      rfl
    repeat(first|refine QV QP ?_|refine QZ ?_|refine qcT rfl ?_|refine qcF rfl ?_|refine QV (rr_geq (b := true) rfl rfl (decide_eq_true c2)) ?_|refine QV QL ?_|refine QV QA ?_|refine QV QlT ?_|refine QV QlF ?_|refine QV QhT ?_|refine QV QhF ?_|refine QV QaS ?_)
    exact E_ret2 rfl rfl rfl fun w hm => hm.meets (S := rduS (some (to1.toNat :: r :: ρ))) v' trivial [3] (by decide) (by show [_] = [_]; rw [← e]; rfl)
  · rw [if_neg c2]
    repeat(first|refine QV QP ?_|refine QZ ?_|refine qcT rfl ?_|refine qcF rfl ?_|refine QV (rr_geq (b := false) rfl rfl (decide_eq_false c2)) ?_|refine QV QL ?_|refine QV QA ?_|refine QV QlT ?_|refine QV QlF ?_|refine QV QhT ?_|refine QV QhF ?_|refine QV QaS ?_)
    exact E_ret2 rfl rfl rfl fun w hm => hm.meets (S := rduS none) v' trivial [] (by decide) rfl
end Go.Proofs.Ytlojfbnimmdehaa.eng

/- BuB -/
namespace Go.Proofs.Ytlojfbnimmdehaa.eng
open Go.RowKit kit mix gramL treeL factsL itemL smallL
theorem LrOk.right {g : Gram} {T N : Nat} {A : List (List itemL.Act)} {G : List (List Int)} (h : LrOk g T N A G) {q c : Nat} (hq : q < A.length) (hc : c ≤ T) : RightAct T g.prods.length A.length (actT A q c) c := by
  have h1 : c < A[q].length := by rw [h.wA q hq]; omega
  have := h.acts q hq c h1
  unfold actT
  rw [List.getD_eq_getElem?_getD (l := A), List.getElem?_eq_getElem hq, Option.getD_some, List.getD_eq_getElem?_getD, List.getElem?_eq_getElem h1]
  exact this
theorem LrOk.go {g : Gram} {T N : Nat} {A : List (List itemL.Act)} {G : List (List Int)} (h : LrOk g T N A G) {q : Nat} {n : Int} (hq : q < A.length) (h0 : 0 ≤ n) (h1 : n < (N : Int)) : gotoT G q n < (A.length : Int) := by
  have hqG : q < G.length := by rw [h.same]; exact hq
  have h2 : n.toNat < G[q].length := by rw [h.wG q hqG]; omega
  have := (h.gos q hqG _ (List.getElem_mem h2)).2
  unfold gotoT
  rw [List.getD_eq_getElem?_getD (l := G), List.getElem?_eq_getElem hqG, Option.getD_some, List.getD_eq_getElem?_getD, List.getElem?_eq_getElem h2]
  exact this
/-- what reduce leaves -/
theorem redB_ok {g : Gram} {T N : Nat} {A : List (List itemL.Act)} {G : List (List Int)} (h : LrOk g T N A G) {σ σ' : List Nat} {p : Int} (h0 : 0 ≤ p) (h1 : p < (g.prods.length : Int)) (hq : ∀ q ∈ σ, q < A.length) (hr : redB g.prods (gotoT G) σ p = some σ') : σ' ≠ [] ∧ σ'.length ≤ σ.length + 1 ∧ ∀ q ∈ σ', q < A.length := by
  unfold redB at hr
  cases e : σ.drop (prodAt g.prods p).2.length with
  | nil => rw [e] at hr; cases hr
  | cons r ρ =>
    rw [e] at hr
    dsimp only at hr
    have hsub : ∀ q ∈ r :: ρ, q < A.length := fun q hq' => hq q (List.mem_of_mem_drop (i := (prodAt g.prods p).2.length) (by rw [e]; exact hq'))
    have hlen : (r :: ρ).length ≤ σ.length := by rw [← e, List.length_drop]; omega
    split at hr
    · rename_i c
      obtain rfl := Option.some.inj hr
      have hh := (checkG_ok h.gram).2.2.2.2.2 _ (countL.prodAt_mem h0 h1)
      have := h.go (hsub r (List.mem_cons_self ..)) hh.2.1 (by have := h.nons; omega)
      refine ⟨by simp, by simp only [List.length_cons] at hlen ⊢; omega, fun q hq' => ?_⟩
      rcases List.mem_cons.1 hq' with rfl | hq'
      · omega
      · exact hsub q hq'
    · cases hr
section
variable {l : List gramL.Prod} {act : Nat → Nat → itemL.Act} {gt : Nat → Int → Int} {col a f q : Nat} {σ : List Nat} {o : List Sym}
theorem rb_0 {m : Int} (h : act q col = (0, m)) : runB l act gt col a (f + 1) (q :: σ) o = (13, [], []) := by
  rw [runB, show (q :: σ).headD 0 = q from rfl, h, if_neg (by simp), if_neg (by simp), if_neg (by simp), if_neg (by simp)]
theorem rb_top {x : itemL.Act} (h : act q col = x) (h0 : x.1 ≠ 0) : runB l act gt col a 1 (q :: σ) o = (14, [], []) := by
  rw [runB, show (q :: σ).headD 0 = q from rfl, h, if_pos ⟨rfl, h0⟩]
theorem rb_3 {m : Int} (h : act q col = (3, m)) : runB l act gt col a (f + 1 + 1) (q :: σ) o = (0, q :: σ, o) := by
  rw [runB, show (q :: σ).headD 0 = q from rfl, h, if_neg (fun h => Nat.succ_ne_zero _ h.1), if_pos rfl]
theorem rb_1 {m : Int} (h : act q col = (1, m)) : runB l act gt col a (f + 1 + 1) (q :: σ) o = if 60 < (q :: σ).length + 1 then (14, [], []) else (0, m.toNat :: q :: σ, o ++ [(2, (a : Int))]) := by
  rw [runB, show (q :: σ).headD 0 = q from rfl, h, if_neg (fun h => Nat.succ_ne_zero _ h.1), if_neg (by simp), if_pos rfl]
theorem rb_2n {m : Int} (h : act q col = (2, m)) (hr : redB l gt (q :: σ) m = none) : runB l act gt col a (f + 1 + 1) (q :: σ) o = (13, [], []) := by
  rw [runB, show (q :: σ).headD 0 = q from rfl, h, if_neg (fun h => Nat.succ_ne_zero _ h.1), if_neg (by simp), if_neg (by simp), if_pos rfl]
  dsimp only
  rw [hr]
theorem rb_2 {m : Int} {σ' : List Nat} (h : act q col = (2, m)) (hr : redB l gt (q :: σ) m = some σ') : runB l act gt col a (f + 1 + 1) (q :: σ) o = if 60 < σ'.length then (14, [], []) else runB l act gt col a (f + 1) σ' (o ++ [(4, m)]) := by
  rw [runB, show (q :: σ).headD 0 = q from rfl, h, if_neg (fun h => Nat.succ_ne_zero _ h.1), if_neg (by simp), if_neg (by simp), if_pos rfl]
  dsimp only
  rw [hr]
end
/-- what a token leaves -/
theorem runB_ok {g : Gram} {T N : Nat} {A : List (List itemL.Act)} {G : List (List Int)} (h : LrOk g T N A G) {col a : Nat} (hc : col ≤ T) : ∀ (f : Nat) {σ : List Nat} {o : List Sym}, σ ≠ [] → (∀ q ∈ σ, q < A.length) → σ.length ≤ 60 → (runB g.prods (actT A) (gotoT G) col a f σ o).1 = 0 →
    (runB g.prods (actT A) (gotoT G) col a f σ o).2.1 ≠ [] ∧ (∀ q ∈ (runB g.prods (actT A) (gotoT G) col a f σ o).2.1, q < A.length) ∧ (runB g.prods (actT A) (gotoT G) col a f σ o).2.1.length ≤ 60 ∧ (runB g.prods (actT A) (gotoT G) col a f σ o).2.2.length ≤ o.length + f
  | 0, _, _, _, _, _, h0 => by cases h0
  | f + 1, σ, o, hne, hq, hl, h0 => by
    obtain ⟨q, σ, rfl⟩ := List.exists_cons_of_ne_nil hne
    have hri := h.right (hq q (List.mem_cons_self ..)) hc
    generalize hx : actT A q col = x at hri
    obtain ⟨k, m⟩ := x
    by_cases ck : k = 0
    · subst ck; rw [rb_0 hx] at h0; cases h0
    cases f with
    | zero => rw [rb_top hx ck] at h0; cases h0
    | succ f =>
      rcases hri with ⟨e, _⟩ | ⟨e, h1, h2, h3⟩ | ⟨e, h1, h2⟩ | ⟨e, _⟩ <;> dsimp only at e <;> subst e
      · exact absurd rfl ck
      · rw [rb_1 hx] at h0 ⊢
        by_cases c : 60 < (q :: σ).length + 1
        · rw [if_pos c] at h0; cases h0
        rw [if_neg c]
        refine ⟨by simp, fun y hy => ?_, by simp only [List.length_cons] at c ⊢; omega, by simp⟩
        rcases List.mem_cons.1 hy with rfl | hy
        · dsimp only at h2 h3; omega
        · exact hq y hy
      · dsimp only at h1 h2
        cases hr : redB g.prods (gotoT G) (q :: σ) m with
        | none => rw [rb_2n hx hr] at h0; cases h0
        | some σ' =>
          rw [rb_2 hx hr] at h0 ⊢
          by_cases c : 60 < σ'.length
          · rw [if_pos c] at h0; cases h0
          rw [if_neg c] at h0 ⊢
          obtain ⟨r1, r2, r3⟩ := redB_ok h h1 h2 hq hr
          have := runB_ok h hc (f + 1) (o := o ++ [(4, m)]) r1 r3 (by omega) h0
          refine ⟨this.1, this.2.1, this.2.2.1, Nat.le_trans this.2.2.2 ?_⟩
          rw [List.length_append, List.length_singleton]; omega
      · rw [rb_3 hx]
        exact ⟨hne, hq, hl, by show o.length ≤ _; omega⟩
theorem sk_at {B : Base} {L : List Own} {i g cap : Nat} {q : Nat} {σ : List Nat} (hi : L[i]? = some (skO (.slice (some ⟨g, 0, none⟩) (σ.length + 1) cap) (q :: σ))) : At B L ⟨g, 0 + σ.length * 1, none⟩ (.int .i64 (q : Int)) :=
  at_rowel (f := kit.intC) IntC_len hi (k := σ.length) (by rw [sI_len]; simp) 0 _ (by
    have : (sI (q :: σ))[σ.length]? = some (q : Int) := sI_get (b := 0) (ρ := σ) rfl rfl
    rw [List.getElem?_eq_some_iff] at this
    obtain ⟨_, h⟩ := this
    rw [h]; rfl)
theorem sk_push {v : Value} {m : Int} {q : Nat} {σ : List Nat} (h : 0 ≤ m) : rowO 3 1 v (σ.length + 1 + 1) ((sI (q :: σ)).flatMap kit.intC ++ [.int .i64 m]) = skO v (m.toNat :: q :: σ) := by
  show _ = rowO 3 1 v (m.toNat :: q :: σ).length ((sI (m.toNat :: q :: σ)).flatMap kit.intC)
  rw [sI_cons m.toNat, List.flatMap_append, Int.toNat_of_nonneg h]
  rfl
theorem ev_push {v : Value} {x : Sym} {o : List Sym} : rowO 82 2 v (o.length + 1) (o.flatMap symC ++ symC x) = evO v (o ++ [x]) := by
  show _ = rowO 82 2 v (o ++ [x]).length ((o ++ [x]).flatMap symC)
  rw [List.length_append, List.flatMap_append]
  simp
/-- what run tells -/
def runBS (R : Int × List Nat × List Sym) : Spec (Value × Value) := ⟨fun _ => True, fun x => if R.1 = 0 then .tuple #[x.1, x.2, .int .i64 0] else .tuple #[.slice none 0 0, .slice none 0 0, .int .i64 R.1], fun x => if R.1 = 0 then [skO x.1 R.2.1, evO x.2 R.2.2] else []⟩
theorem runBS_ok {σ : List Nat} {o : List Sym} : runBS (0, σ, o) = ⟨fun _ => True, fun x => .tuple #[x.1, x.2, .int .i64 0], fun x => [skO x.1 σ, evO x.2 o]⟩ := by unfold runBS; simp
theorem runBS_no {e : Int} (he : e ≠ 0) {x : List Nat × List Sym} : runBS (e, x) = ⟨fun _ => True, fun _ => .tuple #[.slice none 0 0, .slice none 0 0, .int .i64 e], fun _ => []⟩ := by unfold runBS; simp [he]
attribute [local irreducible] Instr.build in
set_option maxHeartbeats 8000000 in
theorem bdRun_calls (v t vs : Value) (g : Gram) (T N : Nat) (A : List (List itemL.Act)) (G : List (List Int)) (σ0 : List Nat) (seen col : Nat) (w : World) (hG : GraR (fun k => k < w.heap.size) w v g) (ht : TabR w t A G) (hs : skR w vs σ0) (hT : LrOk g T N A G) (hq : ∀ q ∈ σ0, q < A.length) (hne : σ0 ≠ []) (hl : σ0.length ≤ 60) (hc : col ≤ T) :
    Calls Try.prog 90 #[v, t, skV vs (seen : Int) 0 false, .int .i64 (col : Int)] w (Meets (runBS (runB g.prods (actT A) (gotoT G) col seen 2001 σ0 [])) w) := by
  have hcl := fun w' (hg : Gr w w') => cloneIntC_calls vs (sI σ0) w' (by rw [sI_len]; exact hs.gr hg) (by rw [sI_len]; omega)
  rw [sI_len] at hcl
  have hrd := fun vs' σ p w' (hg : Gr w w') hs' hq' hl' hp => bdReduce_calls v t vs' g T N A G σ p w' (hG.gr hg) (ht.gr hg) hs' hT hq' hl' hp
  have hrok := fun σ σ' p h0 h1 hq hr => redB_ok (σ := σ) (σ' := σ') (p := p) hT h0 h1 hq hr
  have hri := fun q (hq : q < A.length) => hT.right hq hc
  have hwA := hT.wA
  clear hT
  obtain ⟨vp, rfl, -⟩ := hG
  obtain ⟨vA, vG, rfl, hA, -⟩ := ht
  obtain ⟨aA, cA, rfl, -, -⟩ := slf_form hA
  refine enter (args := [graV g.terms g.nons vp, .agg #[.slice aA A.length cA, vG], skV vs (seen : Int) 0 false, .int .i64 (col : Int)]) (n := 87) Try.func90 rfl rfl rfl ?_
  refine T_seq (T_region (TL_box rfl rfl rfl fun g4 => ?_))
  conv=>arg 8;simp only[zA,zB,zC,zD,zE,zF,zG,zH,zI,rowS,ret,id_eq]
  refine TL_box rfl rfl rfl fun g5 => ?_
  conv=>arg 8;simp only[zA,zB,zC,zD,zE,zF,zG,zH,zI,rowS,ret,id_eq]
  refine TL_box rfl rfl rfl fun g6 => ?_
  conv=>arg 8;simp only[zA,zB,zC,zD,zE,zF,zG,zH,zI,rowS,ret,id_eq]
  repeat(first|refine QV QP ?_|refine QZ ?_|refine qcT rfl ?_|refine qcF rfl ?_|refine qs rfl rfl rfl rfl rfl rfl ?_|((try refine qg rfl rfl rfl ?_);first|refine QV QP ?_|refine QV (rr_load1 (v := vs) TyC.ty rfl (at_blk (i := 2) rfl rfl)) ?_|refine QV QL ?_|refine QV QA ?_|refine QV (rr_not rfl rfl) ?_|refine QV QgT ?_|refine QV QgF ?_|refine QV QeT ?_|refine QV QeF ?_|refine QV QaA ?_|refine QV QaS ?_|refine QV QnT ?_|refine QV QnF ?_))
  refine TL_call (he1 EntersC.en rfl rfl) (fun w hm => hcl w hm.below) rfl rfl rfl ?_
  intro vs1 _
  conv=>arg 8;simp only[zA,zB,zC,zD,zE,zF,zG,zH,zI,rowS,ret,id_eq]
  repeat(first|refine QV QP ?_|refine QZ ?_|refine qcT rfl ?_|refine qcF rfl ?_|refine qs rfl rfl rfl rfl rfl rfl ?_|((try refine qg rfl rfl rfl ?_);first|refine QV QP ?_|refine QV QL ?_|refine QV QA ?_|refine QV (rr_not rfl rfl) ?_|refine QV QgT ?_|refine QV QgF ?_|refine QV QeT ?_|refine QV QeF ?_|refine QV QaA ?_|refine QV QaS ?_|refine QV QnT ?_|refine QV QnF ?_))
  refine T_nil 82 2 ?_
  generalize hR : runB g.prods (actT A) (gotoT G) col seen 2001 σ0 [] = R
  clear hcl hs
  refine T_loop (ι := Nat × List Nat × List Sym × Value × Value) (fun (f, σ, o, _, _) => runB g.prods (actT A) (gotoT G) col seen f σ o = R ∧ f ≤ 2001 ∧ 1 ≤ f ∧ o.length + f ≤ 2001 ∧ σ ≠ [] ∧ σ.length ≤ 60 ∧ ∀ q ∈ σ, q < A.length)
    (fun (f, _, _, vs, vo) => [(3, .int .i64 (col : Int)), (4, .pointer (some ⟨g4, 0, none⟩)), (5, .pointer (some ⟨g5, 0, none⟩)), (6, .pointer (some ⟨g6, 0, none⟩)), (11, vs), (12, vo), (13, .int .i64 ((2001 - f : Nat) : Int))])
    (fun (_, σ, o, vs', vo) => [blkO g4 (graV g.terms g.nons vp).cells 24, blkO g5 (Value.agg #[.slice aA A.length cA, vG]).cells 29, blkO g6 (skV vs (seen : Int) 0 false).cells 125, skO vs' σ, evO vo o]) (fun (f, _, _, _, _) => f) (2001, σ0, [], vs1, .slice none 0 0) ⟨hR, by omega, by omega, by simp, hne, hl, hq⟩ (by repeat' (first | exact True.intro | refine And.intro rfl ?_)) rfl ?_
  clear hR hne hl hq
  rintro ⟨f, σ, o, vs', vo⟩ ⟨i1, i2, i3, i4, i5, i6, i7⟩
  dsimp only at i1 i2 i3 i4 i5 i6 i7 ⊢
  obtain ⟨q, σ, rfl⟩ := List.exists_cons_of_ne_nil i5
  obtain ⟨f, rfl⟩ : ∃ f', f = f' + 1 := ⟨f - 1, by omega⟩
  have hqA := i7 q (List.mem_cons_self ..)
  have hriq := hri q hqA
  obtain ⟨bA, oA, wi, rfl, hcA, hsA⟩ := slf_at hA hqA
  have hcA' : ∀ L, At (w : Base) L ⟨bA, oA + q, none⟩ wi := fun L => at_old hcA
  obtain ⟨ei, di, rfl, hdi, hdi2⟩ := slf_form hsA
  have hfA := hsA.flat (f := actC) (by decide)
  obtain ⟨_, _, e2, -, -, hrX⟩ := hfA
  cases e2
  have hwAq := hwA q hqA
  have hxe : actT A q col = A[q].getD col (0, 0) := by unfold actT; rw [List.getD_eq_getElem?_getD (l := A), List.getElem?_eq_getElem hqA]; rfl
  have hcX : col < A[q].length := by omega
  obtain ⟨b3, o3, rfl, hrd3⟩ := hrX (by omega)
  have hat := fun L => at_el (L := L) actC_len hrd3 hcX
  have hxe2 : A[q][col] = actT A q col := by rw [hxe, List.getD_eq_getElem?_getD, List.getElem?_eq_getElem hcX]; rfl
  rw [hxe2] at hat
  have hatA : ∀ (L : List Own) (j : Nat) (u : Value), (actC (actT A q col))[j]? = some u → At (w : Base) L ⟨b3, o3 + col * 2 + j, none⟩ u := hat
  clear hat hrd3 hrX hxe hxe2 hsA hcA hwA hA hri
  generalize A[q] = X at *
  generalize hx : actT A q col = x at *
  refine T_rowN (i := 3) rfl (by simp) fun gs cs hv q1 q2 => ?_
  subst hv
  simp only [List.length_cons] at i4 i6 q1 ⊢
  repeat(first|refine QV QP ?_|refine QZ ?_|refine qcT rfl ?_|refine qcF rfl ?_|refine qs rfl rfl rfl rfl rfl rfl ?_|((try refine qg rfl rfl rfl ?_);first|refine QV QP ?_|refine QV QL ?_|refine QV QA ?_|refine QV (rr_not rfl rfl) ?_|refine QV QgT ?_|refine QV QgF ?_|refine QV QeT ?_|refine QV QeF ?_|refine QV QaA ?_|refine QV QaS ?_|refine QV QnT ?_|refine QV QnF ?_))
  refine T_ord ([blkO g5 (Value.agg #[.slice (some ⟨bA, oA, none⟩) A.length cA, vG]).cells 29, skO (.slice (some ⟨gs, 0, none⟩) (σ.length + 1) cs) (q :: σ)]) (.calm 0 (.calm 1 (.calm 2 (.calm 3 (.calm 4 (.calm 5 (.calm 6 (.calm 7 (.calm 8 (.calm 9 (.calm 10 (.calm 11 (.calm 12 (.one 13 (.one 14 (.done)))))))))))))))) (sub_pick [1, 3] (by decide) rfl) (by kernel_rfl) (by kernel_rfl) (by intro c a d v w h; cases d <;> exact h) ?_
  repeat(first|((first|refine TW_plain rfl rfl ?_|refine TW_gmet rfl rfl rfl rfl ?_);first|refine QW QP ?_|refine QW (rr_load1 (v := .slice (some ⟨bA, oA, none⟩) A.length cA) TyC.ty rfl (at_blk (i := 0) rfl rfl)) ?_|refine QW (rr_sub64 (r := (σ.length : Int)) rfl rfl (by omega) (by omega) (by omega)) ?_|refine QW (rr_idxc (j := σ.length) Und.eq TyC.ty rfl rfl (by omega)) ?_|refine QW (rr_load1 (v := .int .i64 (q : Int)) TyC.ty rfl (sk_at (i := 1) rfl)) ?_|refine QW (rr_idx1 (j := q) Und.eq TyC.ty rfl rfl hqA) ?_|refine QW (rr_load1 (v := .slice (some ⟨b3, o3, none⟩) X.length di) TyC.ty rfl (hcA' _)) ?_|refine QW (rr_idxc (j := col) Und.eq TyC.ty rfl rfl hcX) ?_|refine QW (rr_loadN (cs := actC x) TyC.ty rfl rfl (hatA _)) ?_|refine QW QL ?_|refine QW QA ?_|refine QW (rr_not rfl rfl) ?_|refine QW QgT ?_|refine QW QgF ?_|refine QW QeT ?_|refine QW QeF ?_|refine QW QaA ?_|refine QW QaS ?_|refine QW QnT ?_|refine QW QnF ?_)|refine TW_skip rfl rfl rfl rfl rfl rfl rfl ?_|refine TW_done ?_)
  refine TW_one rfl (TL_new rfl fun g14 => ?_)
  conv=>arg 8;simp only[zA,zB,zC,zD,zE,zF,zG,zH,zI,rowS,ret,id_eq]
  refine TW_on (sub_pick [1, 3] (by decide) rfl) ?_
  refine TW_one rfl (TL_storeB (i := 5) (cs' := (actC x).toArray) rfl rfl rfl rfl rfl rfl ?_)
  conv=>arg 8;simp only[zA,zB,zC,zD,zE,zF,zG,zH,zI,rowS,ret,id_eq]
  refine TW_on (sub_pick [1, 3] (by decide) rfl) ?_
  repeat(first|((first|refine TW_plain rfl rfl ?_|refine TW_gmet rfl rfl rfl rfl ?_);first|refine QW QP ?_|refine QW QL ?_|refine QW QA ?_|refine QW (rr_not rfl rfl) ?_|refine QW QgT ?_|refine QW QgF ?_|refine QW QeT ?_|refine QW QeF ?_|refine QW QaA ?_|refine QW QaS ?_|refine QW QnT ?_|refine QW QnF ?_)|refine TW_skip rfl rfl rfl rfl rfl rfl rfl ?_|refine TW_done ?_)
  obtain ⟨k, m⟩ := x
  have hn20 : ((2001 - (f + 1) : Nat) : Int) = 2000 ↔ f = 0 := by omega
  by_cases ck : k = 0
  · subst ck
    rw [rb_0 hx] at i1
    subst i1
    by_cases c0 : f = 0
    · repeat(first|refine QV QP ?_|refine QZ ?_|refine qcT rfl ?_|refine qcF rfl ?_|refine qs rfl rfl rfl rfl rfl rfl ?_|((try refine qg rfl rfl rfl ?_);first|refine QV QP ?_|refine QV (rr_eql (b := true) rfl rfl (decide_eq_true (hn20.2 c0))) ?_|refine QV (rr_load1 (v := .int .i64 0) TyC.ty rfl (at_blk (i := 5) rfl rfl)) ?_|refine QV QL ?_|refine QV QA ?_|refine QV (rr_not rfl rfl) ?_|refine QV QgT ?_|refine QV QgF ?_|refine QV QeT ?_|refine QV QeF ?_|refine QV QaA ?_|refine QV QaS ?_|refine QV QnT ?_|refine QV QnF ?_))
      exact E_ret3 rfl rfl rfl rfl fun w hm => hm.meets (S := runBS (13, [], [])) (.slice none 0 0, .slice none 0 0) trivial [] (by decide) rfl
    · repeat(first|refine QV QP ?_|refine QZ ?_|refine qcT rfl ?_|refine qcF rfl ?_|refine qs rfl rfl rfl rfl rfl rfl ?_|((try refine qg rfl rfl rfl ?_);first|refine QV QP ?_|refine QV (rr_eql (b := false) rfl rfl (decide_eq_false fun h => c0 (hn20.1 h))) ?_|refine QV (rr_load1 (v := .int .i64 0) TyC.ty rfl (at_blk (i := 5) rfl rfl)) ?_|refine QV QL ?_|refine QV QA ?_|refine QV (rr_not rfl rfl) ?_|refine QV QgT ?_|refine QV QgF ?_|refine QV QeT ?_|refine QV QeF ?_|refine QV QaA ?_|refine QV QaS ?_|refine QV QnT ?_|refine QV QnF ?_))
      exact E_ret3 rfl rfl rfl rfl fun w hm => hm.meets (S := runBS (13, [], [])) (.slice none 0 0, .slice none 0 0) trivial [] (by decide) rfl
  by_cases c0 : f = 0
  · subst c0
    rw [rb_top hx ck] at i1
    subst i1
    repeat(first|refine QV QP ?_|refine QZ ?_|refine qcT rfl ?_|refine qcF rfl ?_|refine qs rfl rfl rfl rfl rfl rfl ?_|((try refine qg rfl rfl rfl ?_);first|refine QV QP ?_|refine QV (rr_eql (b := true) rfl rfl (decide_eq_true (hn20.2 rfl))) ?_|refine QV (rr_load1 (v := .int .i64 k) TyC.ty rfl (at_blk (i := 5) rfl rfl)) ?_|refine QV QL ?_|refine QV QA ?_|refine QV (rr_not rfl rfl) ?_|refine QV QgT ?_|refine QV QgF ?_|refine QV QeT ?_|refine QV QeF ?_|refine QV QaA ?_|refine QV QaS ?_|refine QV (rr_neq (b := true) rfl rfl (decide_eq_true ck)) ?_|refine QV QnT ?_|refine QV QnF ?_))
    exact E_ret3 rfl rfl rfl rfl fun w hm => hm.meets (S := runBS (14, [], [])) (.slice none 0 0, .slice none 0 0) trivial [] (by decide) rfl
  have hn20 : ¬ ((2001 - (f + 1) : Nat) : Int) = 2000 := fun h => c0 (hn20.1 h)
  obtain ⟨f, rfl⟩ : ∃ f', f = f' + 1 := ⟨f - 1, by omega⟩
  rcases hriq with ⟨e, _⟩ | ⟨e, h1, h2, h3⟩ | ⟨e, h1, h2⟩ | ⟨e, _⟩ <;> dsimp only at e <;> subst e
  · exact absurd rfl ck
  · dsimp only at h1 h2 h3
    rw [rb_1 hx] at i1
    repeat(first|refine QV QP ?_|refine QZ ?_|refine qcT rfl ?_|refine qcF rfl ?_|refine qs rfl rfl rfl rfl rfl rfl ?_|((try refine qg rfl rfl rfl ?_);first|refine QV QP ?_|refine QV (rr_eql (b := false) rfl rfl (decide_eq_false hn20)) ?_|refine QV (rr_load1 (v := .int .i64 1) TyC.ty rfl (at_blk (i := 5) rfl rfl)) ?_|refine QV QL ?_|refine QV QA ?_|refine QV (rr_not rfl rfl) ?_|refine QV QgT ?_|refine QV QgF ?_|refine QV QeT ?_|refine QV QeF ?_|refine QV QaA ?_|refine QV QaS ?_|refine QV QnT ?_|refine QV QnF ?_))
    refine T_ord ([blkO g6 (skV vs (seen : Int) 0 false).cells 125, blkO g14 (actC (1, m)).toArray 87]) (.calm 0 (.calm 1 (.calm 2 (.calm 5 (.calm 6 (.calm 7 (.calm 8 (.two 3 (.two 4 (.one 9 (.one 10 (.calm 11 (.calm 12 (.done))))) 9 (.one 4 (.one 10 (.calm 11 (.calm 12 (.done)))))) 9 (.one 3 (.one 4 (.one 10 (.calm 11 (.calm 12 (.done)))))))))))))) (sub_pick [2, 5] (by decide) rfl) (by kernel_rfl) (by kernel_rfl) (by intro c a d v w h; cases d <;> exact h) ?_
    repeat(first|((first|refine TW_plain rfl rfl ?_|refine TW_gmet rfl rfl rfl rfl ?_);first|refine QW QP ?_|refine QW (rr_load1 (v := .int .i64 m) TyC.ty rfl (at_blk (i := 1) rfl rfl)) ?_|refine QW (rr_load1 (v := .int .i64 (seen : Int)) TyC.ty rfl (at_blk (i := 0) rfl rfl)) ?_|refine QW (rr_build rfl (build_evn _ _)) ?_|refine QW QL ?_|refine QW QA ?_|refine QW (rr_not rfl rfl) ?_|refine QW QgT ?_|refine QW QgF ?_|refine QW QeT ?_|refine QW QeF ?_|refine QW QaA ?_|refine QW QaS ?_|refine QW QnT ?_|refine QW QnF ?_)|refine TW_skip rfl rfl rfl rfl rfl rfl rfl ?_|refine TW_done ?_)
    refine TW_two rfl rfl ?bw1 ?bw2
    case' bw1 =>
      refine TL_one (cs := #[.int .i64 m]) rfl rfl rfl rfl rfl fun g52 => TW_on (sub_pick [2, 5] (by decide) rfl) ?_
      refine TW_two rfl rfl ?bw3 ?bw4
    case' bw3 =>
      refine TL_app11 (i := 3) (q := 6) rfl rfl rfl rfl rfl rfl (by simp only [List.length_cons]; omega) (by simp only [List.length_cons]; omega) rfl fun v3 => TW_on (sub_pick [2, 5] (by decide) rfl) ?_
      refine TW_one rfl (TL_one (cs := (symC (2, (seen : Int))).toArray) rfl rfl rfl rfl rfl fun g58 => TW_on (sub_pick [2, 5] (by decide) rfl) ?_)
      refine TW_one rfl (TL_app1 (i := 4) (q := 7) rfl rfl rfl rfl rfl rfl (by omega) (by omega) rfl fun v4 => TW_on (sub_pick [2, 5] (by decide) rfl) ?_)
    case' bw4 =>
      refine TL_one (cs := (symC (2, (seen : Int))).toArray) rfl rfl rfl rfl rfl fun g58 => TW_on (sub_pick [2, 5] (by decide) rfl) ?_
      refine TW_one rfl (TL_app11 (i := 3) (q := 6) rfl rfl rfl rfl rfl rfl (by simp only [List.length_cons]; omega) (by simp only [List.length_cons]; omega) rfl fun v3 => TW_on (sub_pick [2, 5] (by decide) rfl) ?_)
      refine TW_one rfl (TL_app1 (i := 4) (q := 7) rfl rfl rfl rfl rfl rfl (by omega) (by omega) rfl fun v4 => TW_on (sub_pick [2, 5] (by decide) rfl) ?_)
    case' bw2 =>
      refine TL_one (cs := (symC (2, (seen : Int))).toArray) rfl rfl rfl rfl rfl fun g58 => TW_on (sub_pick [2, 5] (by decide) rfl) ?_
      refine TW_one rfl (TL_one (cs := #[.int .i64 m]) rfl rfl rfl rfl rfl fun g52 => TW_on (sub_pick [2, 5] (by decide) rfl) ?_)
      refine TW_one rfl (TL_app11 (i := 3) (q := 7) rfl rfl rfl rfl rfl rfl (by simp only [List.length_cons]; omega) (by simp only [List.length_cons]; omega) rfl fun v3 => TW_on (sub_pick [2, 5] (by decide) rfl) ?_)
      refine TW_one rfl (TL_app1 (i := 4) (q := 6) rfl rfl rfl rfl rfl rfl (by omega) (by omega) rfl fun v4 => TW_on (sub_pick [2, 5] (by decide) rfl) ?_)
    all_goals
      repeat(first|((first|refine TW_plain rfl rfl ?_|refine TW_gmet rfl rfl rfl rfl ?_);first|refine QW QP ?_|refine QW QL ?_|refine QW QA ?_|refine QW (rr_not rfl rfl) ?_|refine QW QgT ?_|refine QW QgF ?_|refine QW QeT ?_|refine QW QeF ?_|refine QW QaA ?_|refine QW QaS ?_|refine QW QnT ?_|refine QW QnF ?_)|refine TW_skip rfl rfl rfl rfl rfl rfl rfl ?_|refine TW_done ?_)
      by_cases c6 : 60 < (q :: σ).length + 1
      · rw [if_pos c6] at i1
        subst i1
        repeat(first|refine QV QP ?_|refine QZ ?_|refine qcT rfl ?_|refine qcF rfl ?_|refine qs rfl rfl rfl rfl rfl rfl ?_|((try refine qg rfl rfl rfl ?_);first|refine QV QP ?_|refine QV (rr_rowlen (i := 3) Und.eq rfl rfl) ?_|refine QV (rr_gtr (b := true) rfl rfl (decide_eq_true (by omega))) ?_|refine QV QL ?_|refine QV QA ?_|refine QV (rr_not rfl rfl) ?_|refine QV QgT ?_|refine QV QgF ?_|refine QV QeT ?_|refine QV QeF ?_|refine QV QaA ?_|refine QV QaS ?_|refine QV QnT ?_|refine QV QnF ?_))
        exact E_ret3 rfl rfl rfl rfl fun w hm => hm.meets (S := runBS (14, [], [])) (.slice none 0 0, .slice none 0 0) trivial [] (by decide) rfl
      · rw [if_neg c6] at i1
        subst i1
        repeat(first|refine QV QP ?_|refine QZ ?_|refine qcT rfl ?_|refine qcF rfl ?_|refine qs rfl rfl rfl rfl rfl rfl ?_|((try refine qg rfl rfl rfl ?_);first|refine QV QP ?_|refine QV (rr_rowlen (i := 3) Und.eq rfl rfl) ?_|refine QV (rr_gtr (b := false) rfl rfl (decide_eq_false (by omega))) ?_|refine QV (rr_load1 (v := .int .i64 1) TyC.ty rfl (at_blk (i := 5) rfl rfl)) ?_|refine QV QL ?_|refine QV QA ?_|refine QV (rr_not rfl rfl) ?_|refine QV QgT ?_|refine QV QgF ?_|refine QV QeT ?_|refine QV QeF ?_|refine QV QaA ?_|refine QV QaS ?_|refine QV QnT ?_|refine QV QnF ?_))
        exact E_ret3 rfl rfl rfl rfl fun w hm => hm.meets (S := runBS (0, m.toNat :: q :: σ, o ++ [(2, (seen : Int))])) (v3, v4) trivial [3, 4] (by decide) (by
          show [skO v3 (m.toNat :: q :: σ), evO v4 (o ++ [(2, (seen : Int))])] = _
          rw [← sk_push h2, ← ev_push]
          rfl)
  · dsimp only at h1 h2
    obtain ⟨pn, rfl⟩ := Int.eq_ofNat_of_zero_le h1
    have hrd1 := fun w' hg' hs' => hrd (.slice (some ⟨gs, 0, none⟩) (σ.length + 1) cs) (q :: σ) pn w' hg' hs' i7 (by simp only [List.length_cons]; omega) (by omega)
    have hrk := fun σ' => hrok (q :: σ) σ' (pn : Int) h1 h2 i7
    have hb2n := fun hr => @rb_2n g.prods (actT A) (gotoT G) col seen f q σ o (pn : Int) hx hr
    have hb2 := fun σ' hr => @rb_2 g.prods (actT A) (gotoT G) col seen f q σ o (pn : Int) σ' hx hr
    generalize redB g.prods (gotoT G) (q :: σ) (pn : Int) = R2 at *
    clear hrd hrok
    cases R2 with
    | none =>
      rw [hb2n rfl] at i1
      subst i1
      repeat(first|refine QV QP ?_|refine QZ ?_|refine qcT rfl ?_|refine qcF rfl ?_|refine qs rfl rfl rfl rfl rfl rfl ?_|((try refine qg rfl rfl rfl ?_);first|refine QV QP ?_|refine QV (rr_eql (b := false) rfl rfl (decide_eq_false hn20)) ?_|refine QV (rr_load1 (v := .int .i64 2) TyC.ty rfl (at_blk (i := 5) rfl rfl)) ?_|refine QV (rr_loadB (i := 0) TyC.ty rfl rfl rfl) ?_|refine QV (rr_loadB (i := 1) TyC.ty rfl rfl rfl) ?_|refine QV (rr_load1 (v := .int .i64 (pn : Int)) TyC.ty rfl (at_blk (i := 5) rfl rfl)) ?_|refine QV QL ?_|refine QV QA ?_|refine QV (rr_not rfl rfl) ?_|refine QV QgT ?_|refine QV QgF ?_|refine QV QeT ?_|refine QV QeF ?_|refine QV QaA ?_|refine QV QaS ?_|refine QV QnT ?_|refine QV QnF ?_))
      refine TL_call (he4 EntersC.en rfl rfl rfl rfl rfl) (fun w' hm => hrd1 w' hm.below (Sl.of_own (hm.get (i := 3) rfl))) rfl rfl rfl ?_
      intro v2 _
      conv=>arg 8;simp only[zA,zB,zC,zD,zE,zF,zG,zH,zI,rowS,ret,id_eq, rduS]
      conv => arg 7; simp only [rduS]
      repeat(first|refine QV QP ?_|refine QZ ?_|refine qcT rfl ?_|refine qcF rfl ?_|refine qs rfl rfl rfl rfl rfl rfl ?_|((try refine qg rfl rfl rfl ?_);first|refine QV QP ?_|refine QV QL ?_|refine QV QA ?_|refine QV (rr_not rfl rfl) ?_|refine QV QgT ?_|refine QV QgF ?_|refine QV QeT ?_|refine QV QeF ?_|refine QV QaA ?_|refine QV QaS ?_|refine QV QnT ?_|refine QV QnF ?_))
      exact E_ret3 rfl rfl rfl rfl fun w hm => hm.meets (S := runBS (13, [], [])) (.slice none 0 0, .slice none 0 0) trivial [] (by decide) rfl
    | some σ' =>
      rw [hb2 σ' rfl] at i1
      obtain ⟨k1, k2, k3⟩ := hrk σ' rfl
      simp only [List.length_cons] at k2
      repeat(first|refine QV QP ?_|refine QZ ?_|refine qcT rfl ?_|refine qcF rfl ?_|refine qs rfl rfl rfl rfl rfl rfl ?_|((try refine qg rfl rfl rfl ?_);first|refine QV QP ?_|refine QV (rr_eql (b := false) rfl rfl (decide_eq_false hn20)) ?_|refine QV (rr_load1 (v := .int .i64 2) TyC.ty rfl (at_blk (i := 5) rfl rfl)) ?_|refine QV (rr_loadB (i := 0) TyC.ty rfl rfl rfl) ?_|refine QV (rr_loadB (i := 1) TyC.ty rfl rfl rfl) ?_|refine QV (rr_load1 (v := .int .i64 (pn : Int)) TyC.ty rfl (at_blk (i := 5) rfl rfl)) ?_|refine QV QL ?_|refine QV QA ?_|refine QV (rr_not rfl rfl) ?_|refine QV QgT ?_|refine QV QgF ?_|refine QV QeT ?_|refine QV QeF ?_|refine QV QaA ?_|refine QV QaS ?_|refine QV QnT ?_|refine QV QnF ?_))
      refine TL_call (he4 EntersC.en rfl rfl rfl rfl rfl) (fun w' hm => hrd1 w' hm.below (Sl.of_own (hm.get (i := 3) rfl))) rfl rfl rfl ?_
      intro v2 _
      conv=>arg 8;simp only[zA,zB,zC,zD,zE,zF,zG,zH,zI,rowS,ret,id_eq, rduS]
      conv => arg 7; simp only [rduS]
      repeat(first|refine QV QP ?_|refine QZ ?_|refine qcT rfl ?_|refine qcF rfl ?_|refine qs rfl rfl rfl rfl rfl rfl ?_|((try refine qg rfl rfl rfl ?_);first|refine QV QP ?_|refine QV (rr_load1 (v := .int .i64 (pn : Int)) TyC.ty rfl (at_blk (i := 5) rfl rfl)) ?_|refine QV (rr_build rfl (build_evn _ _)) ?_|refine QV QL ?_|refine QV QA ?_|refine QV (rr_not rfl rfl) ?_|refine QV QgT ?_|refine QV QgF ?_|refine QV QeT ?_|refine QV QeF ?_|refine QV QaA ?_|refine QV QaS ?_|refine QV QnT ?_|refine QV QnF ?_))
      refine TL_pushN (i := 4) rfl rfl rfl rfl rfl rfl rfl (fun z h => by cases h; rfl) (by omega) (by omega) rfl fun z4 v4 => ?_
      conv=>arg 8;simp only[zA,zB,zC,zD,zE,zF,zG,zH,zI,rowS,ret,id_eq]
      by_cases c6 : 60 < σ'.length
      · rw [if_pos c6] at i1
        subst i1
        repeat(first|refine QV QP ?_|refine QZ ?_|refine qcT rfl ?_|refine qcF rfl ?_|refine qs rfl rfl rfl rfl rfl rfl ?_|((try refine qg rfl rfl rfl ?_);first|refine QV QP ?_|refine QV (rr_rowlen (i := 6) Und.eq rfl rfl) ?_|refine QV (rr_gtr (b := true) rfl rfl (decide_eq_true (by omega))) ?_|refine QV QL ?_|refine QV QA ?_|refine QV (rr_not rfl rfl) ?_|refine QV QgT ?_|refine QV QgF ?_|refine QV QeT ?_|refine QV QeF ?_|refine QV QaA ?_|refine QV QaS ?_|refine QV QnT ?_|refine QV QnF ?_))
        exact E_ret3 rfl rfl rfl rfl fun w hm => hm.meets (S := runBS (14, [], [])) (.slice none 0 0, .slice none 0 0) trivial [] (by decide) rfl
      · rw [if_neg c6] at i1
        repeat(first|refine QV QP ?_|refine QZ ?_|refine qcT rfl ?_|refine qcF rfl ?_|refine qs rfl rfl rfl rfl rfl rfl ?_|((try refine qg rfl rfl rfl ?_);first|refine QV QP ?_|refine QV (rr_rowlen (i := 6) Und.eq rfl rfl) ?_|refine QV (rr_gtr (b := false) rfl rfl (decide_eq_false (by omega))) ?_|refine QV (rr_load1 (v := .int .i64 2) TyC.ty rfl (at_blk (i := 5) rfl rfl)) ?_|refine QV (rr_add64 (r := ((2001 - (f + 1) : Nat) : Int)) rfl rfl (by omega) (by omega) (by omega)) ?_|refine QV QL ?_|refine QV QA ?_|refine QV (rr_not rfl rfl) ?_|refine QV QgT ?_|refine QV QgF ?_|refine QV QeT ?_|refine QV QeF ?_|refine QV QaA ?_|refine QV QaS ?_|refine QV QnT ?_|refine QV QnF ?_))
        refine E_pick [0, 1, 2, 6, 4] (by decide) rfl ?_
        exact E_round (f + 1, σ', o ++ [(4, (pn : Int))], v2, v4) ⟨i1, by omega, by omega, by show (o ++ [(4, (pn : Int))]).length + (f + 1) ≤ 2001; rw [List.length_append, List.length_singleton]; omega, k1, by show σ'.length ≤ 60; omega, k3⟩ (by show f + 1 < f + 1 + 1; omega) (by repeat' (first | exact True.intro | refine And.intro rfl ?_)) (by rw [← ev_push]; rfl)
  · rw [rb_3 hx] at i1
    subst i1
    repeat(first|refine QV QP ?_|refine QZ ?_|refine qcT rfl ?_|refine qcF rfl ?_|refine qs rfl rfl rfl rfl rfl rfl ?_|((try refine qg rfl rfl rfl ?_);first|refine QV QP ?_|refine QV (rr_eql (b := false) rfl rfl (decide_eq_false hn20)) ?_|refine QV (rr_load1 (v := .int .i64 3) TyC.ty rfl (at_blk (i := 5) rfl rfl)) ?_|refine QV QL ?_|refine QV QA ?_|refine QV (rr_not rfl rfl) ?_|refine QV QgT ?_|refine QV QgF ?_|refine QV QeT ?_|refine QV QeF ?_|refine QV QaA ?_|refine QV QaS ?_|refine QV QnT ?_|refine QV QnF ?_))
    exact E_ret3 rfl rfl rfl rfl fun w hm => hm.meets (S := runBS (0, q :: σ, o)) (.slice (some ⟨gs, 0, none⟩) (σ.length + 1) cs, vo) trivial [3, 4] (by decide) rfl
end Go.Proofs.Ytlojfbnimmdehaa.eng

/- ClimbA -/
namespace Go.Proofs.Ytlojfbnimmdehaa.eng
open Go.RowKit kit mix gramL treeL climbL
attribute [local irreducible] Instr.build in
theorem act_calls (gw : Nat) (t n : Int) (vp vt vo : Value) (out : List Sym) (acts : Nat) (kd m : Int) (w : World) (B : Base) (h1 : out.length ≤ 100000) (h2 : acts ≤ 100000) (hm : Mem B [cwO gw t n vp vt vo acts, evO vo out] w) :
    Calls Try.prog 97 #[.pointer (some ⟨gw, 0, none⟩), .int .i64 kd, .int .i64 m] w (MeetsB ⟨fun (_ : Value) => True, fun _ => .bool (decide (((acts + 1 : Nat) : Int) ≤ 2000)), fun vo' => [cwO gw t n vp vt vo' (acts + 1), evO vo' (out ++ [(kd, m)])]⟩ B) := by
  refine enterB hm (args := [.pointer (some ⟨gw, 0, none⟩), .int .i64 kd, .int .i64 m]) (n := 31) Try.func97 rfl rfl rfl ?_
  refine T_slv (i := 1) rfl fun hv1 hv2 => ?_
  repeat(first|refine QV QP ?_|refine QZ ?_|refine QV (rr_load1 TyC.ty rfl (at_blk (i := 0) rfl rfl)) ?_|refine QV (rr_add64 (r := ((acts + 1 : Nat) : Int)) rfl rfl (by omega) (by omega) (by omega)) ?_|refine QV QA ?_|refine QV (rr_nilc rfl) ?_|refine QV QmT ?_|refine QV QmF ?_|refine QV QaA ?_)
  refine TL_store1 (i := 0) rfl rfl rfl rfl rfl rfl ?_
  rw [show (cwV t n vp vt vo acts).setIfInBounds (0 + 5) (.int .i64 ((acts + 1 : Nat) : Int)) = cwV t n vp vt vo (acts + 1) from rfl]
  conv=>arg 8;simp only[zA,zB,zC,zD,zE,zF,zG,zH,zI,rowS,ret,id_eq]
  repeat(first|refine QV QP ?_|refine QZ ?_|refine QV (rr_load1 TyC.ty rfl (at_blk (i := 0) rfl rfl)) ?_|refine QV (rr_build rfl (build_evn _ _)) ?_|refine QV QA ?_|refine QV (rr_nilc rfl) ?_|refine QV QmT ?_|refine QV QmF ?_|refine QV QaA ?_)
  refine TL_pushN (i := 1) rfl rfl rfl rfl rfl rfl rfl (fun z h => by cases h; rfl) (by omega) (by omega) rfl fun z' v' => ?_
  conv=>arg 8;simp only[zA,zB,zC,zD,zE,zF,zG,zH,zI,rowS,ret,id_eq]
  refine TL_slv (i := 1) rfl fun hv1 hv2 => ?_
  repeat(first|refine QV QP ?_|refine QZ ?_|refine QV QA ?_|refine QV (rr_nilc rfl) ?_|refine QV QmT ?_|refine QV QmF ?_|refine QV QaA ?_)
  refine TL_store1 (i := 0) rfl rfl rfl hv1 hv2 rfl ?_
  rw [show (cwV t n vp vt vo (acts + 1)).setIfInBounds (0 + 4) v' = cwV t n vp vt v' (acts + 1) from rfl]
  conv=>arg 8;simp only[zA,zB,zC,zD,zE,zF,zG,zH,zI,rowS,ret,id_eq]
  repeat(first|refine QV QP ?_|refine QZ ?_|refine QV (rr_load1 (v := .int .i64 ((acts + 1 : Nat) : Int)) TyC.ty rfl (at_blk (i := 0) rfl rfl)) ?_|refine QV (rr_leq rfl rfl rfl) ?_|refine QV QA ?_|refine QV (rr_nilc rfl) ?_|refine QV QmT ?_|refine QV QmF ?_|refine QV QaA ?_)
  exact E_ret1 rfl rfl fun w hm => hm.meetsB (S := ⟨fun (_ : Value) => True, fun _ => .bool (decide (((acts + 1 : Nat) : Int) ≤ 2000)), fun vo' => [cwO gw t n vp vt vo' (acts + 1), evO vo' (out ++ [(kd, m)])]⟩) v' trivial [0, 1] (by decide) (by simp [cwO, evO])
theorem td_at {B : Base} {L : List Own} {i g cap : Nat} {d : TD} {r : List TD} (hi : L[i]? = some (tdO (.slice (some ⟨g, 0, none⟩) (r.length + 1) cap) (d :: r))) (j : Nat) (u : Value) (hu : (tdC d)[j]? = some u) : At B L ⟨g, 0 + r.length * 4 + j, none⟩ u :=
  at_rowel tdC_len hi (k := r.length) (by simp) j u (by simpa using hu)
theorem td_less {d : TD} {r : List TD} {g cap : Nat} {w : World} (h : (tdO (.slice (some ⟨g, 0, none⟩) (r.length + 1) cap) (d :: r)).holds w) : (tdO (.slice (some ⟨g, 0, none⟩) r.length cap) r).holds w := by
  obtain ⟨h1, h2⟩ := h
  refine ⟨by rw [len_el tdC_len]; simp, ?_⟩
  rcases h2 with ⟨h2, _⟩ | ⟨g', cap', cur, e, h3, h4, h5, h6, h7, h8⟩
  · cases h2
  · cases e
    refine .inr ⟨g, cap, cur, rfl, h3, h4, by simp at h5; omega, h6, h7, ?_⟩
    have : (cur.toList.take ((d :: r).length * 4)).take (r.length * 4) = ((d :: r).reverse.flatMap tdC).take (r.length * 4) := by rw [h8]
    rw [List.take_take, Nat.min_eq_left (by simp; omega), List.reverse_cons, List.flatMap_append, List.take_left' (by rw [len_el tdC_len]; simp)] at this
    exact this
attribute [local irreducible] Instr.build in
theorem pop_calls (gw : Nat) (t n : Int) (vp vt vo : Value) (d : TD) (r : List TD) (acts : Nat) (w : World) (B : Base) (h1 : r.length ≤ 100000) (hm : Mem B [cwO gw t n vp vt vo acts, tdO vt (d :: r)] w) :
    Calls Try.prog 96 #[.pointer (some ⟨gw, 0, none⟩)] w (MeetsB ⟨fun (_ : Value) => True, fun _ => tdV d, fun vt' => [cwO gw t n vp vt' vo acts, tdO vt' r]⟩ B) := by
  refine enterB hm (args := [.pointer (some ⟨gw, 0, none⟩)]) (n := 31) Try.func96 rfl rfl rfl ?_
  refine T_rowN (i := 1) rfl (by simp) fun g cap hv q1 q2 => ?_
  subst hv
  simp only [List.length_cons] at *
  refine T_seq (T_region (TL_new rfl fun g2 => ?_))
  conv=>arg 8;simp only[zA,zB,zC,zD,zE,zF,zG,zH,zI,rowS,ret,id_eq]
  repeat(first|refine QV QP ?_|refine QZ ?_|refine QV QL ?_|refine QV QA ?_|refine QV (rr_nilc rfl) ?_|refine QV QaS ?_)
  refine T_ord ([cwO gw t n vp (.slice (some ⟨g, 0, none⟩) (r.length + 1) cap) vo acts, tdO (.slice (some ⟨g, 0, none⟩) (r.length + 1) cap) (d :: r)]) (.calm 0 (.calm 1 (.calm 2 (.calm 3 (.calm 4 (.calm 5 (.calm 6 (.calm 7 (.calm 8 (.calm 9 (.calm 10 (.calm 11 (.one 12 (.one 13 (.done))))))))))))))) (sub_pick [0, 1] (by decide) rfl) (by kernel_rfl) (by kernel_rfl) (by intro c a d v w h; cases d <;> exact h) ?_
  repeat(first|((first|refine TW_plain rfl rfl ?_|refine TW_gmet rfl rfl rfl rfl ?_);first|refine QW QP ?_|refine QW (rr_load1 (v := .slice (some ⟨g, 0, none⟩) (r.length + 1) cap) TyC.ty rfl (at_blk (i := 0) rfl rfl)) ?_|refine QW (rr_sub64 (r := (r.length : Int)) rfl rfl (by omega) (by omega) (by omega)) ?_|refine QW (rr_idxc (j := r.length) Und.eq TyC.ty rfl rfl (by omega)) ?_|refine QW (rr_loadN TyC.ty rfl rfl (td_at (i := 1) rfl)) ?_|refine QW QL ?_|refine QW QA ?_|refine QW (rr_nilc rfl) ?_|refine QW QaS ?_)|refine TW_done ?_)
  refine TW_one rfl (TL_new rfl fun g3 => ?_)
  refine TW_on (sub_pick [0, 1] (by decide) rfl) ?_
  refine TW_one rfl (TL_storeB (i := 3) (cs' := (tdC d).toArray) rfl rfl rfl rfl rfl rfl (TW_on (sub_pick [0, 1] (by decide) rfl) ?_))
  repeat(first|((first|refine TW_plain rfl rfl ?_|refine TW_gmet rfl rfl rfl rfl ?_);first|refine QW QP ?_|refine QW QL ?_|refine QW QA ?_|refine QW (rr_nilc rfl) ?_|refine QW QaS ?_)|refine TW_done ?_)
  repeat(first|refine QV QP ?_|refine QZ ?_|refine QV QL ?_|refine QV QA ?_|refine QV (rr_nilc rfl) ?_|refine QV QaS ?_)
  refine T_ord ([]) (.calm 0 (.calm 1 (.calm 2 (.calm 3 (.calm 5 (.calm 6 (.calm 7 (.two 4 (.one 8 (.calm 9 (.calm 10 (.calm 11 (.calm 12 (.calm 13 (.one 14 (.done)))))))) 8 (.calm 9 (.calm 10 (.one 4 (.calm 11 (.calm 12 (.calm 13 (.one 14 (.done)))))))))))))))) (sub_pick [] (by decide) rfl) (by kernel_rfl) (by kernel_rfl) (by intro c a d v w h; cases d <;> exact h) ?_
  repeat(first|((first|refine TW_plain rfl rfl ?_|refine TW_gmet rfl rfl rfl rfl ?_);first|refine QW QP ?_|refine QW QL ?_|refine QW QA ?_|refine QW (rr_nilc rfl) ?_|refine QW QaS ?_)|refine TW_done ?_)
  refine TW_two rfl rfl ?_ ?_
  · refine TL_val (rr_load1 (v := .slice (some ⟨g, 0, none⟩) (r.length + 1) cap) TyC.ty rfl (at_blk (i := 0) rfl rfl)) rfl rfl rfl (TW_on (sub_pick [] (by decide) rfl) ?_)
    refine TW_one rfl (TL_val (rr_load1 (v := .slice (some ⟨g, 0, none⟩) (r.length + 1) cap) TyC.ty rfl (at_blk (i := 0) rfl rfl)) rfl rfl rfl (TW_on (sub_pick [] (by decide) rfl) ?_))
    repeat(first|((first|refine TW_plain rfl rfl ?_|refine TW_gmet rfl rfl rfl rfl ?_);first|refine QW QP ?_|refine QW (rr_sub64 (r := (r.length : Int)) rfl rfl (by omega) (by omega) (by omega)) ?_|refine QW (rr_slpre (j := r.length) Und.eq TyC.ty rfl rfl (by omega)) ?_|refine QW QL ?_|refine QW QA ?_|refine QW (rr_nilc rfl) ?_|refine QW QaS ?_)|refine TW_done ?_)
    refine TW_one rfl (TL_store1 (i := 0) rfl rfl rfl rfl rfl rfl (TW_on (sub_pick [] (by decide) rfl) ?_))
    rw [show (cwV t n vp (.slice (some ⟨g, 0, none⟩) (r.length + 1) cap) vo acts).setIfInBounds (0 + 3) (.slice (some ⟨g, 0, none⟩) r.length cap) = cwV t n vp (.slice (some ⟨g, 0, none⟩) r.length cap) vo acts from rfl]
    repeat(first|((first|refine TW_plain rfl rfl ?_|refine TW_gmet rfl rfl rfl rfl ?_);first|refine QW QP ?_|refine QW QL ?_|refine QW QA ?_|refine QW (rr_nilc rfl) ?_|refine QW QaS ?_)|refine TW_done ?_)
    repeat(first|refine QV QP ?_|refine QZ ?_|refine QV (rr_loadB (i := 3) TyC.ty rfl rfl rfl) ?_|refine QV QL ?_|refine QV QA ?_|refine QV (rr_nilc rfl) ?_|refine QV QaS ?_)
    refine TL_storeB (i := 2) (cs' := (tdC d).toArray) rfl rfl rfl rfl rfl rfl ?_
    conv=>arg 8;simp only[zA,zB,zC,zD,zE,zF,zG,zH,zI,rowS,ret,id_eq]
    repeat(first|refine QV QP ?_|refine QZ ?_|refine QV QL ?_|refine QV QA ?_|refine QV (rr_nilc rfl) ?_|refine QV QaS ?_)
    refine E_reown (i := 1) (tdO (.slice (some ⟨g, 0, none⟩) r.length cap) r) rfl (fun w h => td_less h) (fun k hk => hk) ?_
    exact E_retc1 (i := 2) rfl rfl rfl rfl fun w hm => hm.meetsB (S := ⟨fun (_ : Value) => True, fun _ => tdV d, fun vt' => [cwO gw t n vp vt' vo acts, tdO vt' r]⟩) (.slice (some ⟨g, 0, none⟩) r.length cap) trivial [0, 1] (by decide) rfl
  · refine TL_val (rr_load1 (v := .slice (some ⟨g, 0, none⟩) (r.length + 1) cap) TyC.ty rfl (at_blk (i := 0) rfl rfl)) rfl rfl rfl (TW_on (sub_pick [] (by decide) rfl) ?_)
    repeat(first|((first|refine TW_plain rfl rfl ?_|refine TW_gmet rfl rfl rfl rfl ?_);first|refine QW QP ?_|refine QW (rr_sub64 (r := (r.length : Int)) rfl rfl (by omega) (by omega) (by omega)) ?_|refine QW QL ?_|refine QW QA ?_|refine QW (rr_nilc rfl) ?_|refine QW QaS ?_)|refine TW_done ?_)
    refine TW_one rfl (TL_val (rr_load1 (v := .slice (some ⟨g, 0, none⟩) (r.length + 1) cap) TyC.ty rfl (at_blk (i := 0) rfl rfl)) rfl rfl rfl (TW_on (sub_pick [] (by decide) rfl) ?_))
    repeat(first|((first|refine TW_plain rfl rfl ?_|refine TW_gmet rfl rfl rfl rfl ?_);first|refine QW QP ?_|refine QW (rr_slpre (j := r.length) Und.eq TyC.ty rfl rfl (by omega)) ?_|refine QW QL ?_|refine QW QA ?_|refine QW (rr_nilc rfl) ?_|refine QW QaS ?_)|refine TW_done ?_)
    refine TW_one rfl (TL_store1 (i := 0) rfl rfl rfl rfl rfl rfl (TW_on (sub_pick [] (by decide) rfl) ?_))
    rw [show (cwV t n vp (.slice (some ⟨g, 0, none⟩) (r.length + 1) cap) vo acts).setIfInBounds (0 + 3) (.slice (some ⟨g, 0, none⟩) r.length cap) = cwV t n vp (.slice (some ⟨g, 0, none⟩) r.length cap) vo acts from rfl]
    repeat(first|((first|refine TW_plain rfl rfl ?_|refine TW_gmet rfl rfl rfl rfl ?_);first|refine QW QP ?_|refine QW QL ?_|refine QW QA ?_|refine QW (rr_nilc rfl) ?_|refine QW QaS ?_)|refine TW_done ?_)
    repeat(first|refine QV QP ?_|refine QZ ?_|refine QV (rr_loadB (i := 3) TyC.ty rfl rfl rfl) ?_|refine QV QL ?_|refine QV QA ?_|refine QV (rr_nilc rfl) ?_|refine QV QaS ?_)
    refine TL_storeB (i := 2) (cs' := (tdC d).toArray) rfl rfl rfl rfl rfl rfl ?_
    conv=>arg 8;simp only[zA,zB,zC,zD,zE,zF,zG,zH,zI,rowS,ret,id_eq]
    repeat(first|refine QV QP ?_|refine QZ ?_|refine QV QL ?_|refine QV QA ?_|refine QV (rr_nilc rfl) ?_|refine QV QaS ?_)
    refine E_reown (i := 1) (tdO (.slice (some ⟨g, 0, none⟩) r.length cap) r) rfl (fun w h => td_less h) (fun k hk => hk) ?_
    exact E_retc1 (i := 2) rfl rfl rfl rfl fun w hm => hm.meetsB (S := ⟨fun (_ : Value) => True, fun _ => tdV d, fun vt' => [cwO gw t n vp vt' vo acts, tdO vt' r]⟩) (.slice (some ⟨g, 0, none⟩) r.length cap) trivial [0, 1] (by decide) rfl
theorem closes_nil (out : List Sym) (a : Nat) : closesF [] out a = ([], out, a, true) := rfl
theorem closes_sym (x : Sym) (r : List TD) (out : List Sym) (a : Nat) : closesF (.sym x :: r) out a = (.sym x :: r, out, a, true) := rfl
theorem closes_yes (p : Int) (r : List TD) (out : List Sym) {a : Nat} (h : a + 1 ≤ 2000) : closesF (.close p :: r) out a = closesF r (out ++ [(3, p)]) (a + 1) := by rw [closesF, if_pos h]
theorem closes_no (p : Int) (r : List TD) (out : List Sym) {a : Nat} (h : ¬ a + 1 ≤ 2000) : closesF (.close p :: r) out a = (r, out ++ [(3, p)], a + 1, false) := by rw [closesF, if_neg h]
def clS (gw : Nat) (t n : Int) (vp : Value) (c : List TD × List Sym × Nat × Bool) : Spec (Value × Value) := ⟨fun _ => True, fun _ => .bool c.2.2.2, fun x => [cwO gw t n vp x.1 x.2 c.2.2.1, tdO x.1 c.1, evO x.2 c.2.1]⟩
set_option maxHeartbeats 2000000 in
theorem workCloses_calls (gw : Nat) (t n : Int) (vp vt0 vo0 : Value) (st0 : List TD) (out0 : List Sym) (acts0 : Nat) (w : World) (B : Base) (h1 : st0.length ≤ 100000) (h2 : acts0 ≤ 2000) (h3 : out0.length = acts0) (hm : Mem B [cwO gw t n vp vt0 vo0 acts0, tdO vt0 st0, evO vo0 out0] w) :
    Calls Try.prog 98 #[.pointer (some ⟨gw, 0, none⟩)] w (MeetsB (clS gw t n vp (closesF st0 out0 acts0)) B) := by
  refine enterB hm (args := [.pointer (some ⟨gw, 0, none⟩)]) (n := 30) Try.func98 rfl rfl rfl ?_
  clear hm
  repeat(first|refine QV QP ?_|refine QZ ?_|refine qcT rfl ?_|refine qcF rfl ?_|refine E_blockX ?_|refine E_blockO rfl ?_|refine qs rfl rfl rfl rfl rfl rfl ?_|((try refine qg rfl rfl rfl ?_);first|refine QV QP ?_|refine QV QL ?_|refine QV QA ?_|refine QV (rr_not rfl rfl) ?_|refine QV (rr_nilc rfl) ?_|refine QV QgT ?_|refine QV QgF ?_|refine QV QaS ?_))
  generalize hC : closesF st0 out0 acts0 = C
  refine T_loop (ι := List TD × List Sym × Nat × Value × Value) (fun (st, out, acts, _, _) => closesF st out acts = C ∧ st.length ≤ 100000 ∧ acts ≤ 2000 ∧ out.length = acts) (fun _ => [(0, .pointer (some ⟨gw, 0, none⟩))]) (fun (st, out, acts, vt, vo) => [cwO gw t n vp vt vo acts, tdO vt st, evO vo out]) (fun (st, _, _, _, _) => st.length) (st0, out0, acts0, vt0, vo0) ⟨hC, h1, h2, h3⟩ (by repeat' (first | exact True.intro | refine And.intro rfl ?_)) rfl ?_
  clear h1 h2 h3 hC
  rintro ⟨st, out, acts, vt, vo⟩ ⟨hC, h1, h2, h3⟩
  dsimp only at hC h1 h2 h3 ⊢
  cases st with
  | nil =>
    rw [closes_nil] at hC
    subst hC
    (repeat refine T_seq ?_)
    refine T_ord ([cwO gw t n vp vt vo acts, tdO vt []]) (.calm 0 (.calm 1 (.calm 2 (.calm 3 (.calm 4 (.calm 5 (.calm 6 (.calm 7 (.calm 8 (.calm 9 (.calm 10 (.calm 11 (.calm 12 (.calm 13 (.calm 14 (.calm 15 (.calm 16 (.calm 17 (.calm 18 (.calm 19 (.calm 20 (.done)))))))))))))))))))))) (sub_pick [0, 1] (by decide) rfl) (by kernel_rfl) (by kernel_rfl) (by intro c a d v w h; cases d <;> exact h) ?_
    repeat(first|((first|refine TW_plain rfl rfl ?_|refine TW_gmet rfl rfl rfl rfl ?_);first|refine QW QP ?_|refine QW (rr_load1 (v := vt) TyC.ty rfl (at_blk (i := 0) rfl rfl)) ?_|refine QW (rr_rowlen (i := 1) Und.eq rfl rfl) ?_|refine QW (rr_gtr (b := false) rfl rfl rfl) ?_|refine QW QL ?_|refine QW QA ?_|refine QW (rr_not rfl rfl) ?_|refine QW (rr_nilc rfl) ?_|refine QW QgT ?_|refine QW QgF ?_|refine QW QaS ?_)|refine TW_skip rfl rfl rfl rfl rfl rfl rfl ?_|refine TW_done ?_)
    repeat(first|refine QV QP ?_|refine QZ ?_|refine qcT rfl ?_|refine qcF rfl ?_|refine E_blockX ?_|refine E_blockO rfl ?_|refine qs rfl rfl rfl rfl rfl rfl ?_|((try refine qg rfl rfl rfl ?_);first|refine QV QP ?_|refine QV QL ?_|refine QV QA ?_|refine QV (rr_not rfl rfl) ?_|refine QV (rr_nilc rfl) ?_|refine QV QgT ?_|refine QV QgF ?_|refine QV QaS ?_))
    exact E_ret1 rfl rfl fun w hm => hm.meetsB (S := clS gw t n vp ([], out, acts, true)) (vt, vo) trivial [0, 1, 2] (by decide) rfl
  | cons d r =>
    simp only [List.length_cons] at h1
    refine T_rowN (i := 1) rfl (by simp) fun g cap hv q1 q2 => ?_
    subst hv
    simp only [List.length_cons] at *
    cases d with
    | sym x =>
      rw [closes_sym] at hC
      subst hC
      (repeat refine T_seq ?_)
      refine T_ord ([cwO gw t n vp (.slice (some ⟨g, 0, none⟩) (r.length + 1) cap) vo acts, tdO (.slice (some ⟨g, 0, none⟩) (r.length + 1) cap) (.sym x :: r)]) (.calm 0 (.calm 1 (.calm 2 (.calm 3 (.calm 4 (.calm 5 (.calm 6 (.calm 7 (.calm 8 (.calm 9 (.calm 10 (.calm 11 (.calm 12 (.calm 13 (.calm 14 (.calm 15 (.calm 16 (.calm 17 (.calm 18 (.calm 19 (.calm 20 (.done)))))))))))))))))))))) (sub_pick [0, 1] (by decide) rfl) (by kernel_rfl) (by kernel_rfl) (by intro c a d v w h; cases d <;> exact h) ?_
      repeat(first|((first|refine TW_plain rfl rfl ?_|refine TW_gmet rfl rfl rfl rfl ?_);first|refine QW QP ?_|refine QW (rr_load1 (v := .slice (some ⟨g, 0, none⟩) (r.length + 1) cap) TyC.ty rfl (at_blk (i := 0) rfl rfl)) ?_|refine QW (rr_load1 (v := .bool false) TyC.ty rfl (td_at (i := 1) rfl 0 _ rfl)) ?_|refine QW QL ?_|refine QW QA ?_|refine QW (rr_not rfl rfl) ?_|refine QW (rr_nilc rfl) ?_|refine QW QgT ?_|refine QW QgF ?_|refine QW (rr_sub64 (r := (r.length : Int)) rfl rfl (by omega) (by omega) (by omega)) ?_|refine QW (rr_idxc (j := r.length) Und.eq TyC.ty rfl rfl (by omega)) ?_|refine QW QaS ?_)|refine TW_skip rfl rfl rfl rfl rfl rfl rfl ?_|refine TW_done ?_)
      repeat(first|refine QV QP ?_|refine QZ ?_|refine qcT rfl ?_|refine qcF rfl ?_|refine E_blockX ?_|refine E_blockO rfl ?_|refine qs rfl rfl rfl rfl rfl rfl ?_|((try refine qg rfl rfl rfl ?_);first|refine QV QP ?_|refine QV QL ?_|refine QV QA ?_|refine QV (rr_not rfl rfl) ?_|refine QV (rr_nilc rfl) ?_|refine QV QgT ?_|refine QV QgF ?_|refine QV QaS ?_))
      exact E_ret1 rfl rfl fun w hm => hm.meetsB (S := clS gw t n vp (.sym x :: r, out, acts, true)) (_, vo) trivial [0, 1, 2] (by decide) rfl
    | close p =>
      (repeat refine T_seq ?_)
      refine T_ord ([cwO gw t n vp (.slice (some ⟨g, 0, none⟩) (r.length + 1) cap) vo acts, tdO (.slice (some ⟨g, 0, none⟩) (r.length + 1) cap) (.close p :: r)]) (.calm 0 (.calm 1 (.calm 2 (.calm 3 (.calm 4 (.calm 5 (.calm 6 (.calm 7 (.calm 8 (.calm 9 (.calm 10 (.calm 11 (.calm 12 (.calm 13 (.calm 14 (.calm 15 (.calm 16 (.calm 17 (.calm 18 (.calm 19 (.calm 20 (.done)))))))))))))))))))))) (sub_pick [0, 1] (by decide) rfl) (by kernel_rfl) (by kernel_rfl) (by intro c a d v w h; cases d <;> exact h) ?_
      repeat(first|((first|refine TW_plain rfl rfl ?_|refine TW_gmet rfl rfl rfl rfl ?_);first|refine QW QP ?_|refine QW (rr_load1 (v := .slice (some ⟨g, 0, none⟩) (r.length + 1) cap) TyC.ty rfl (at_blk (i := 0) rfl rfl)) ?_|refine QW (rr_load1 (v := .bool true) TyC.ty rfl (td_at (i := 1) rfl 0 _ rfl)) ?_|refine QW QL ?_|refine QW QA ?_|refine QW (rr_not rfl rfl) ?_|refine QW (rr_nilc rfl) ?_|refine QW QgT ?_|refine QW QgF ?_|refine QW (rr_sub64 (r := (r.length : Int)) rfl rfl (by omega) (by omega) (by omega)) ?_|refine QW (rr_idxc (j := r.length) Und.eq TyC.ty rfl rfl (by omega)) ?_|refine QW QaS ?_)|refine TW_skip rfl rfl rfl rfl rfl rfl rfl ?_|refine TW_done ?_)
      repeat(first|refine QV QP ?_|refine QZ ?_|refine qcT rfl ?_|refine qcF rfl ?_|refine E_blockX ?_|refine E_blockO rfl ?_|refine qs rfl rfl rfl rfl rfl rfl ?_|((try refine qg rfl rfl rfl ?_);first|refine QV QP ?_|refine QV QL ?_|refine QV QA ?_|refine QV (rr_not rfl rfl) ?_|refine QV (rr_nilc rfl) ?_|refine QV QgT ?_|refine QV QgF ?_|refine QV QaS ?_))
      refine TL_callB [0, 1] [2] (by decide) rfl rfl (he1 EntersC.en rfl rfl) (fun w hm hb => pop_calls gw t n vp _ vo (.close p) r acts w _ (by omega) hb) rfl rfl rfl ?_
      intro vt' _
      conv=>arg 8;simp only[zA,zB,zC,zD,zE,zF,zG,zH,zI,rowS,ret,id_eq]
      dsimp only
      repeat(first|refine QV QP ?_|refine QZ ?_|refine qcT rfl ?_|refine qcF rfl ?_|refine E_blockX ?_|refine E_blockO rfl ?_|refine qs rfl rfl rfl rfl rfl rfl ?_|((try refine qg rfl rfl rfl ?_);first|refine QV QP ?_|refine QV (rr_vfld rfl (field_td1 (.close p))) ?_|refine QV QL ?_|refine QV QA ?_|refine QV (rr_not rfl rfl) ?_|refine QV (rr_nilc rfl) ?_|refine QV QgT ?_|refine QV QgF ?_|refine QV QaS ?_))
      refine TL_callB [1, 0] [2] (by decide) rfl rfl (he3 EntersC.en rfl rfl rfl rfl) (fun w hm hb => act_calls gw t n vp vt' vo out acts 3 p w _ (by omega) (by omega) hb) rfl rfl rfl ?_
      intro vo' _
      conv=>arg 8;simp only[zA,zB,zC,zD,zE,zF,zG,zH,zI,rowS,ret,id_eq]
      dsimp only
      by_cases c : acts + 1 ≤ 2000
      · rw [closes_yes p r out c] at hC
        rw [decide_eq_true (show ((acts + 1 : Nat) : Int) ≤ 2000 by omega)]
        repeat(first|refine QV QP ?_|refine QZ ?_|refine qcT rfl ?_|refine qcF rfl ?_|refine E_blockX ?_|refine E_blockO rfl ?_|refine qs rfl rfl rfl rfl rfl rfl ?_|((try refine qg rfl rfl rfl ?_);first|refine QV QP ?_|refine QV QL ?_|refine QV QA ?_|refine QV (rr_not rfl rfl) ?_|refine QV (rr_nilc rfl) ?_|refine QV QgT ?_|refine QV QgF ?_|refine QV QaS ?_))
        refine E_pick [1, 0, 2] (by decide) rfl ?_
        exact E_round (r, out ++ [(3, p)], acts + 1, vt', vo') ⟨hC, (by show r.length ≤ 100000; omega), c, by simp [h3]⟩ (by show r.length < r.length + 1; omega) (by repeat' (first | exact True.intro | refine And.intro rfl ?_)) rfl
      · rw [closes_no p r out c] at hC
        subst hC
        rw [decide_eq_false (show ¬ ((acts + 1 : Nat) : Int) ≤ 2000 by omega)]
        repeat(first|refine QV QP ?_|refine QZ ?_|refine qcT rfl ?_|refine qcF rfl ?_|refine E_blockX ?_|refine E_blockO rfl ?_|refine qs rfl rfl rfl rfl rfl rfl ?_|((try refine qg rfl rfl rfl ?_);first|refine QV QP ?_|refine QV QL ?_|refine QV QA ?_|refine QV (rr_not rfl rfl) ?_|refine QV (rr_nilc rfl) ?_|refine QV QgT ?_|refine QV QgF ?_|refine QV QaS ?_))
        exact E_ret1 rfl rfl fun w hm => hm.meetsB (S := clS gw t n vp (r, out ++ [(3, p)], acts + 1, false)) (vt', vo') trivial [1, 0, 2] (by decide) rfl
theorem td_push (r : List TD) (d : TD) : (r.reverse.flatMap tdC) ++ tdC d = (d :: r).reverse.flatMap tdC := by simp
/-- how far a production is opened -/
def stO (p : Nat) (r : List TD) (body : List Sym) (j : Nat) : List TD := (body.drop (body.length - j)).map .sym ++ .close (p : Int) :: r
theorem stO_0 (p : Nat) (r : List TD) (body : List Sym) : stO p r body 0 = .close (p : Int) :: r := by unfold stO; rw [Nat.sub_zero, List.drop_length]; rfl
theorem stO_end (p : Nat) (r : List TD) (body : List Sym) : stO p r body body.length = body.map .sym ++ .close (p : Int) :: r := by unfold stO; rw [Nat.sub_self, List.drop_zero]
theorem stO_step (p : Nat) (r : List TD) {body : List Sym} {k : Nat} (hk : k < body.length) : stO p r body (body.length - k) = .sym body[k] :: stO p r body (body.length - k - 1) := by
  unfold stO
  rw [show body.length - (body.length - k) = k by omega, show body.length - (body.length - k - 1) = k + 1 by omega, List.drop_eq_getElem_cons hk]; rfl
def opS (gw : Nat) (t n : Int) (vp : Value) (st : List TD) (out : List Sym) (acts : Nat) : Spec (Value × Value) := ⟨fun _ => True, fun _ => .bool (decide (acts ≤ 2000 ∧ st.length ≤ 60)), fun x => [cwO gw t n vp x.1 x.2 acts, tdO x.1 st, evO x.2 out]⟩
set_option maxHeartbeats 2000000 in
attribute [local irreducible] Instr.build in
theorem open_calls (w0 : World) (gw : Nat) (t n : Int) (vp : Value) (prods : List gramL.Prod) (hG : SlF prodS (fun k => k < w0.heap.size) w0 vp prods) (hlen : prods.length ≤ 100000) (p : Nat) (hp : p < prods.length) (h8 : prods[p].2.length ≤ 8) (vt vo : Value) (d : TD) (r : List TD) (out : List Sym) (acts : Nat) (w : World) (B : Base) (h1 : r.length ≤ 100) (h2 : acts ≤ 2000) (h3 : out.length = acts) (ho : Old w0 B) (hm : Mem B [cwO gw t n vp vt vo acts, tdO vt (d :: r), evO vo out] w) :
    Calls Try.prog 125 #[.pointer (some ⟨gw, 0, none⟩), .int .i64 (p : Int)] w (MeetsB (opS gw t n vp (opened prods p r) (out ++ [(1, (p : Int))]) (acts + 1)) B) := by
  obtain ⟨bp, cp, rfl, hcp, hmp, hrp⟩ := hG
  unfold maxLen at hmp
  obtain ⟨b, off, rfl, _, hr⟩ := hrp (by omega)
  obtain ⟨bb, cb, y1, y2, y3⟩ := prod_at hr hp
  have hopen : opened prods (p : Int) r = prods[p].2.map .sym ++ .close (p : Int) :: r := by unfold opened prodAt; rw [Int.toNat_natCast, List.getD_eq_getElem?_getD, List.getElem?_eq_getElem hp]; rfl
  rw [hopen]
  clear hopen hrp hr
  have hat1 : ∀ (L : List Own), At B L ⟨b, off + p * 2 + 1, none⟩ (.slice bb prods[p].2.length cb) := fun L => at_old0 ho (y1 1 _ rfl)
  have hfl := y3.flat (by decide)
  generalize prods[p].2 = body at *
  clear y1 y2 y3
  obtain ⟨b2, cb2, he, hb4, hb5, hb6⟩ := hfl
  simp only [Value.slice.injEq, true_and] at he
  obtain ⟨rfl, rfl⟩ := he
  refine enterB hm (args := [.pointer (some ⟨gw, 0, none⟩), .int .i64 (p : Int)]) (n := 61) Try.func125 rfl rfl rfl ?_
  clear hm
  repeat(first|refine QV QP ?_|refine QZ ?_|refine qcT rfl ?_|refine qcF rfl ?_|refine E_blockX ?_|refine E_blockO rfl ?_|refine qs rfl rfl rfl rfl rfl rfl ?_|((try refine qg rfl rfl rfl ?_);first|refine QV QP ?_|refine QV QL ?_|refine QV QA ?_|refine QV (rr_nilc rfl) ?_|refine QV QhT ?_|refine QV QhF ?_|refine QV QaS ?_|refine QV QmT ?_|refine QV QmF ?_))
  refine TL_callB [0, 1] [2] (by decide) rfl rfl (he1 EntersC.en rfl rfl) (fun w hm hb => pop_calls gw t n _ vt vo d r acts w _ (by omega) hb) rfl rfl rfl ?_
  intro vt1 _
  conv=>arg 8;simp only[zA,zB,zC,zD,zE,zF,zG,zH,zI,rowS,ret,id_eq]
  dsimp only
  refine TL_slv (i := 2) rfl fun hv1 hv2 => ?_
  repeat(first|refine QV QP ?_|refine QZ ?_|refine qcT rfl ?_|refine qcF rfl ?_|refine E_blockX ?_|refine E_blockO rfl ?_|refine qs rfl rfl rfl rfl rfl rfl ?_|((try refine qg rfl rfl rfl ?_);first|refine QV QP ?_|refine QV (rr_load1 TyC.ty rfl (at_blk (i := 1) rfl rfl)) ?_|refine QV (rr_build rfl (build_tdC _)) ?_|refine QV QL ?_|refine QV QA ?_|refine QV (rr_nilc rfl) ?_|refine QV QhT ?_|refine QV QhF ?_|refine QV QaS ?_|refine QV QmT ?_|refine QV QmF ?_))
  refine TL_pushN (i := 2) rfl rfl rfl rfl rfl rfl rfl (fun z h => by cases h; rfl) (by omega) (by omega) rfl fun z' vt2 => ?_
  conv=>arg 8;simp only[zA,zB,zC,zD,zE,zF,zG,zH,zI,rowS,ret,id_eq]
  refine TL_slv (i := 2) rfl fun hv1 hv2 => ?_
  repeat(first|refine QV QP ?_|refine QZ ?_|refine qcT rfl ?_|refine qcF rfl ?_|refine E_blockX ?_|refine E_blockO rfl ?_|refine qs rfl rfl rfl rfl rfl rfl ?_|((try refine qg rfl rfl rfl ?_);first|refine QV QP ?_|refine QV QL ?_|refine QV QA ?_|refine QV (rr_nilc rfl) ?_|refine QV QhT ?_|refine QV QhF ?_|refine QV QaS ?_|refine QV QmT ?_|refine QV QmF ?_))
  refine TL_store1 (i := 1) rfl rfl rfl hv1 hv2 rfl ?_
  rw [show (cwV t n (.slice (some ⟨b, off, none⟩) prods.length cp) vt1 vo acts).setIfInBounds (0 + 3) vt2 = cwV t n (.slice (some ⟨b, off, none⟩) prods.length cp) vt2 vo acts from rfl]
  conv=>arg 8;simp only[zA,zB,zC,zD,zE,zF,zG,zH,zI,rowS,ret,id_eq]
  repeat(first|refine QV QP ?_|refine QZ ?_|refine qcT rfl ?_|refine qcF rfl ?_|refine E_blockX ?_|refine E_blockO rfl ?_|refine qs rfl rfl rfl rfl rfl rfl ?_|((try refine qg rfl rfl rfl ?_);first|refine QV QP ?_|refine QV (rr_load1 (v := .slice (some ⟨b, off, none⟩) prods.length cp) TyC.ty rfl (at_blk (i := 1) rfl rfl)) ?_|refine QV (rr_idxc Und.eq TyC.ty rfl rfl hp) ?_|refine QV (rr_load1 TyC.ty rfl (hat1 _)) ?_|refine QV (rr_sub64 (r := (body.length : Int) - 1) rfl rfl (by omega) (by omega) rfl) ?_|refine QV QL ?_|refine QV QA ?_|refine QV (rr_nilc rfl) ?_|refine QV QhT ?_|refine QV QhF ?_|refine QV QaS ?_|refine QV QmT ?_|refine QV QmF ?_))
  rw [td_push r (.close (p : Int))]
  refine T_loop (ι := Nat × Value) (fun (j, _) => j ≤ body.length) (fun (j, _) => [(0, .pointer (some ⟨gw, 0, none⟩)), (1, .int .i64 (p : Int)), (5, .slice bb body.length cb), (6, .int .i64 (((body.length - j : Nat) : Int) - 1))])
    (fun (j, vt) => [evO vo out, cwO gw t n (.slice (some ⟨b, off, none⟩) prods.length cp) vt vo acts, rowO 179 4 vt (r.length + 1 + j) ((stO p r body j).reverse.flatMap tdC)]) (fun (j, _) => body.length - j) (0, vt2) (Nat.zero_le _) (by repeat' (first | exact True.intro | refine And.intro rfl ?_)) (by dsimp only; rw [stO_0]) ?_
  rintro ⟨j, vt3⟩ hj
  dsimp only at hj ⊢
  by_cases c : j < body.length
  · obtain ⟨b4, off4, rfl, hr4⟩ := hb6 (by omega)
    have hk : body.length - 1 - j < body.length := by omega
    have hatx := fun L => at_elL (W := B) (L := L) (f := symC) (c := 2) (fun _ => rfl) (fun q x hq => at_old0 ho (hr4 q x hq)) hk
    have hst := stO_step p r hk
    rw [show body.length - (body.length - 1 - j) = j + 1 by omega, Nat.add_sub_cancel] at hst
    rw [show (((body.length - j : Nat) : Int) - 1) = ((body.length - 1 - j : Nat) : Int) by omega]
    generalize body[body.length - 1 - j] = x at *
    obtain ⟨xq, xm⟩ := x
    refine T_slv (i := 2) rfl fun hv1 hv2 => ?_
    repeat(first|refine QV QP ?_|refine QZ ?_|refine qcT rfl ?_|refine qcF rfl ?_|refine E_blockX ?_|refine E_blockO rfl ?_|refine qs rfl rfl rfl rfl rfl rfl ?_|((try refine qg rfl rfl rfl ?_);first|refine QV QP ?_|refine QV (rr_geq (b := true) rfl rfl (decide_eq_true (by omega))) ?_|refine QV QL ?_|refine QV QA ?_|refine QV (rr_nilc rfl) ?_|refine QV QhT ?_|refine QV QhF ?_|refine QV QaS ?_|refine QV QmT ?_|refine QV QmF ?_))
    refine T_ord ([]) (.calm 0 (.calm 1 (.calm 2 (.calm 3 (.calm 5 (.calm 6 (.calm 7 (.calm 8 (.calm 9 (.two 4 (.one 10 (.one 11 (.calm 12 (.calm 13 (.one 14 (.done)))))) 10 (.one 4 (.one 11 (.calm 12 (.calm 13 (.one 14 (.done)))))))))))))))) (sub_pick [] (by decide) rfl) (by kernel_rfl) (by kernel_rfl) (by intro c a d v w h; cases d <;> exact h) ?_
    repeat(first|((first|refine TW_plain rfl rfl ?_|refine TW_gmet rfl rfl rfl rfl ?_);first|refine QW QP ?_|refine QW (rr_idxc (j := body.length - 1 - j) Und.eq TyC.ty rfl rfl hk) ?_|refine QW (rr_loadN TyC.ty rfl rfl (hatx _)) ?_|refine QW (rr_build rfl (build_tdS (xq, xm))) ?_|refine QW QL ?_|refine QW QA ?_|refine QW (rr_nilc rfl) ?_|refine QW QhT ?_|refine QW QhF ?_|refine QW QaS ?_|refine QW QmT ?_|refine QW QmF ?_)|refine TW_skip rfl rfl rfl rfl rfl rfl rfl ?_|refine TW_done ?_)
    refine TW_two rfl rfl ?_ ?_
    · refine TL_val (rr_load1 (v := vt3) TyC.ty rfl (at_blk (i := 1) rfl rfl)) rfl rfl rfl (TW_on (sub_pick [] (by decide) rfl) ?_)
      refine TW_one rfl (TL_litN (cs := (tdC (.sym (xq, xm))).toArray) [tdV (.sym (xq, xm))] rfl rfl rfl (by intro v hv; simp at hv; subst hv; rfl) rfl rfl rfl fun g46 => (TW_on (sub_pick [] (by decide) rfl) ?_))
      refine TW_one rfl (TL_appSl (i := 2) (k := 1) (ys := tdC (.sym (xq, xm))) rfl (sl_blk (i := 3) rfl (fun j u h => by simpa using h) (Nat.le_refl 1) (by decide)) rfl rfl rfl (fun u hu => tdC_all [.sym (xq, xm)] u (by simpa using hu)) (by omega) (by omega) rfl fun v' => (TW_on (sub_pick [] (by decide) rfl) ?_))
      repeat(first|((first|refine TW_plain rfl rfl ?_|refine TW_gmet rfl rfl rfl rfl ?_);first|refine QW QP ?_|refine QW QL ?_|refine QW QA ?_|refine QW (rr_nilc rfl) ?_|refine QW QhT ?_|refine QW QhF ?_|refine QW QaS ?_|refine QW QmT ?_|refine QW QmF ?_)|refine TW_skip rfl rfl rfl rfl rfl rfl rfl ?_|refine TW_done ?_)
      refine TW_one rfl (TL_slv (i := 2) rfl fun hv1 hv2 => TL_store1 (i := 1) rfl rfl rfl hv1 hv2 rfl (TW_on (sub_pick [] (by decide) rfl) ?_))
      rw [show (cwV t n (.slice (some ⟨b, off, none⟩) prods.length cp) vt3 vo acts).setIfInBounds (0 + 3) v' = cwV t n (.slice (some ⟨b, off, none⟩) prods.length cp) v' vo acts from rfl]
      repeat(first|((first|refine TW_plain rfl rfl ?_|refine TW_gmet rfl rfl rfl rfl ?_);first|refine QW QP ?_|refine QW QL ?_|refine QW QA ?_|refine QW (rr_nilc rfl) ?_|refine QW QhT ?_|refine QW QhF ?_|refine QW QaS ?_|refine QW QmT ?_|refine QW QmF ?_)|refine TW_skip rfl rfl rfl rfl rfl rfl rfl ?_|refine TW_done ?_)
      repeat(first|refine QV QP ?_|refine QZ ?_|refine qcT rfl ?_|refine qcF rfl ?_|refine E_blockX ?_|refine E_blockO rfl ?_|refine qs rfl rfl rfl rfl rfl rfl ?_|((try refine qg rfl rfl rfl ?_);first|refine QV QP ?_|refine QV (rr_sub64 (r := ((body.length - (j + 1) : Nat) : Int) - 1) rfl rfl (by omega) (by omega) (by omega)) ?_|refine QV QL ?_|refine QV QA ?_|refine QV (rr_nilc rfl) ?_|refine QV QhT ?_|refine QV QhF ?_|refine QV QaS ?_|refine QV QmT ?_|refine QV QmF ?_))
      refine E_pick [0, 1, 2] (by decide) rfl ?_
      exact E_round (j + 1, v') (by show j + 1 ≤ body.length; omega) (by show body.length - (j + 1) < body.length - j; omega) (by repeat' (first | exact True.intro | refine And.intro rfl ?_)) (by dsimp only; rw [hst, ← td_push]; rfl)
    · refine TL_litN (cs := (tdC (.sym (xq, xm))).toArray) [tdV (.sym (xq, xm))] rfl rfl rfl (by intro v hv; simp at hv; subst hv; rfl) rfl rfl rfl fun g46 => (TW_on (sub_pick [] (by decide) rfl) ?_)
      refine TW_one rfl (TL_val (rr_load1 (v := vt3) TyC.ty rfl (at_blk (i := 1) rfl rfl)) rfl rfl rfl (TW_on (sub_pick [] (by decide) rfl) ?_))
      refine TW_one rfl (TL_appSl (i := 2) (k := 1) (ys := tdC (.sym (xq, xm))) rfl (sl_blk (i := 3) rfl (fun j u h => by simpa using h) (Nat.le_refl 1) (by decide)) rfl rfl rfl (fun u hu => tdC_all [.sym (xq, xm)] u (by simpa using hu)) (by omega) (by omega) rfl fun v' => (TW_on (sub_pick [] (by decide) rfl) ?_))
      repeat(first|((first|refine TW_plain rfl rfl ?_|refine TW_gmet rfl rfl rfl rfl ?_);first|refine QW QP ?_|refine QW QL ?_|refine QW QA ?_|refine QW (rr_nilc rfl) ?_|refine QW QhT ?_|refine QW QhF ?_|refine QW QaS ?_|refine QW QmT ?_|refine QW QmF ?_)|refine TW_skip rfl rfl rfl rfl rfl rfl rfl ?_|refine TW_done ?_)
      refine TW_one rfl (TL_slv (i := 2) rfl fun hv1 hv2 => TL_store1 (i := 1) rfl rfl rfl hv1 hv2 rfl (TW_on (sub_pick [] (by decide) rfl) ?_))
      rw [show (cwV t n (.slice (some ⟨b, off, none⟩) prods.length cp) vt3 vo acts).setIfInBounds (0 + 3) v' = cwV t n (.slice (some ⟨b, off, none⟩) prods.length cp) v' vo acts from rfl]
      repeat(first|((first|refine TW_plain rfl rfl ?_|refine TW_gmet rfl rfl rfl rfl ?_);first|refine QW QP ?_|refine QW QL ?_|refine QW QA ?_|refine QW (rr_nilc rfl) ?_|refine QW QhT ?_|refine QW QhF ?_|refine QW QaS ?_|refine QW QmT ?_|refine QW QmF ?_)|refine TW_skip rfl rfl rfl rfl rfl rfl rfl ?_|refine TW_done ?_)
      repeat(first|refine QV QP ?_|refine QZ ?_|refine qcT rfl ?_|refine qcF rfl ?_|refine E_blockX ?_|refine E_blockO rfl ?_|refine qs rfl rfl rfl rfl rfl rfl ?_|((try refine qg rfl rfl rfl ?_);first|refine QV QP ?_|refine QV (rr_sub64 (r := ((body.length - (j + 1) : Nat) : Int) - 1) rfl rfl (by omega) (by omega) (by omega)) ?_|refine QV QL ?_|refine QV QA ?_|refine QV (rr_nilc rfl) ?_|refine QV QhT ?_|refine QV QhF ?_|refine QV QaS ?_|refine QV QmT ?_|refine QV QmF ?_))
      refine E_pick [0, 1, 2] (by decide) rfl ?_
      exact E_round (j + 1, v') (by show j + 1 ≤ body.length; omega) (by show body.length - (j + 1) < body.length - j; omega) (by repeat' (first | exact True.intro | refine And.intro rfl ?_)) (by dsimp only; rw [hst, ← td_push]; rfl)
  · obtain rfl : j = body.length := by omega
    rw [stO_end]
    have hlen2 : (body.map TD.sym ++ .close (p : Int) :: r).length = r.length + 1 + body.length := by simp; omega
    repeat(first|refine QV QP ?_|refine QZ ?_|refine qcT rfl ?_|refine qcF rfl ?_|refine E_blockX ?_|refine E_blockO rfl ?_|refine qs rfl rfl rfl rfl rfl rfl ?_|((try refine qg rfl rfl rfl ?_);first|refine QV QP ?_|refine QV (rr_geq (b := false) rfl rfl (decide_eq_false (by omega))) ?_|refine QV QL ?_|refine QV QA ?_|refine QV (rr_nilc rfl) ?_|refine QV QhT ?_|refine QV QhF ?_|refine QV QaS ?_|refine QV QmT ?_|refine QV QmF ?_))
    refine TL_callB [1, 0] [2] (by decide) rfl rfl (he3 EntersC.en rfl rfl rfl rfl) (fun w hm hb => act_calls gw t n _ vt3 vo out acts 1 (p : Int) w _ (by omega) (by omega) hb) rfl rfl rfl ?_
    intro vo' _
    conv=>arg 8;simp only[zA,zB,zC,zD,zE,zF,zG,zH,zI,rowS,ret,id_eq]
    dsimp only
    have fin : ∀ (x : Bool), x = decide (acts + 1 ≤ 2000 ∧ (body.map TD.sym ++ .close (p : Int) :: r).length ≤ 60) → (Value.bool x) = (opS gw t n (.slice (some ⟨b, off, none⟩) prods.length cp) (body.map .sym ++ .close (p : Int) :: r) (out ++ [(1, (p : Int))]) (acts + 1)).val (vt3, vo') := fun x h => by rw [h]; rfl
    rw [hlen2] at fin
    by_cases c2 : acts + 1 ≤ 2000
    · rw [decide_eq_true (show ((acts + 1 : Nat) : Int) ≤ 2000 by omega)]
      by_cases c3 : r.length + 1 + body.length ≤ 60
      · repeat(first|refine QV QP ?_|refine QZ ?_|refine qcT rfl ?_|refine qcF rfl ?_|refine E_blockX ?_|refine E_blockO rfl ?_|refine qs rfl rfl rfl rfl rfl rfl ?_|((try refine qg rfl rfl rfl ?_);first|refine QV QP ?_|refine QV (rr_load1 (v := vt3) TyC.ty rfl (at_blk (i := 1) rfl rfl)) ?_|refine QV (rr_rowlen (i := 0) Und.eq rfl rfl) ?_|refine QV QL ?_|refine QV QA ?_|refine QV (rr_nilc rfl) ?_|refine QV QhT ?_|refine QV QhF ?_|refine QV QaS ?_|refine QV (rr_leq (b := true) rfl rfl (decide_eq_true (by omega))) ?_|refine QV QmT ?_|refine QV QmF ?_))
        refine E_ret1 rfl rfl fun w hm => ?_
        rw [fin true (by simp [c2, c3])]
        exact hm.meetsB (S := opS gw t n (.slice (some ⟨b, off, none⟩) prods.length cp) (body.map .sym ++ .close (p : Int) :: r) (out ++ [(1, (p : Int))]) (acts + 1)) (vt3, vo') trivial [1, 0, 2] (by decide) (by rw [← hlen2]; rfl)
      · repeat(first|refine QV QP ?_|refine QZ ?_|refine qcT rfl ?_|refine qcF rfl ?_|refine E_blockX ?_|refine E_blockO rfl ?_|refine qs rfl rfl rfl rfl rfl rfl ?_|((try refine qg rfl rfl rfl ?_);first|refine QV QP ?_|refine QV (rr_load1 (v := vt3) TyC.ty rfl (at_blk (i := 1) rfl rfl)) ?_|refine QV (rr_rowlen (i := 0) Und.eq rfl rfl) ?_|refine QV QL ?_|refine QV QA ?_|refine QV (rr_nilc rfl) ?_|refine QV QhT ?_|refine QV QhF ?_|refine QV QaS ?_|refine QV (rr_leq (b := false) rfl rfl (decide_eq_false (by omega))) ?_|refine QV QmT ?_|refine QV QmF ?_))
        refine E_ret1 rfl rfl fun w hm => ?_
        rw [fin false (by simp [c3])]
        exact hm.meetsB (S := opS gw t n (.slice (some ⟨b, off, none⟩) prods.length cp) (body.map .sym ++ .close (p : Int) :: r) (out ++ [(1, (p : Int))]) (acts + 1)) (vt3, vo') trivial [1, 0, 2] (by decide) (by rw [← hlen2]; rfl)
    · rw [decide_eq_false (show ¬ ((acts + 1 : Nat) : Int) ≤ 2000 by omega)]
      repeat(first|refine QV QP ?_|refine QZ ?_|refine qcT rfl ?_|refine qcF rfl ?_|refine E_blockX ?_|refine E_blockO rfl ?_|refine qs rfl rfl rfl rfl rfl rfl ?_|((try refine qg rfl rfl rfl ?_);first|refine QV QP ?_|refine QV QL ?_|refine QV QA ?_|refine QV (rr_nilc rfl) ?_|refine QV QhT ?_|refine QV QhF ?_|refine QV QaS ?_|refine QV QmT ?_|refine QV QmF ?_))
      refine E_ret1 rfl rfl fun w hm => ?_
      rw [fin false (by simp [c2])]
      exact hm.meetsB (S := opS gw t n (.slice (some ⟨b, off, none⟩) prods.length cp) (body.map .sym ++ .close (p : Int) :: r) (out ++ [(1, (p : Int))]) (acts + 1)) (vt3, vo') trivial [1, 0, 2] (by decide) (by rw [← hlen2]; rfl)
end Go.Proofs.Ytlojfbnimmdehaa.eng

/- TdS -/
namespace Go.Proofs.Ytlojfbnimmdehaa.eng
open Go.RowKit kit mix climbL
theorem TdS_len (a : climbL.TD) : (tdC a).length = 4 := rfl
set_option maxHeartbeats 2000000 in
theorem indexFuncTdS_calls (v : Value) (l : List climbL.TD) (w : World) (hs : Sl w v l.length (l.flatMap tdC)) (fid : FuncId) (first cp : Array Value) (p : climbL.TD → Bool) (hen : Enters Try.prog fid)
    (hp : ∀ a ∈ l, ∀ w', Gr w w' → Calls Try.prog fid (first ++ #[(.agg (tdC a).toArray)] ++ cp) w' (Meets (ret (.bool (p a))) w')) :
    Calls Try.prog 140 #[v, .func (.func fid) first cp] w (Meets (ret (.int .i64 (idxF p l))) w) := by
  obtain ⟨base, cap, rfl, hcap, hmax, hrd⟩ := hs
  unfold maxLen at hmax
  refine enter (args := [.slice base l.length cap, .func (.func fid) first cp]) (n := 19) Try.func140 rfl rfl rfl ?_
  repeat(first|refine QV QP ?_|refine QZ ?_|refine qcT rfl ?_|refine qcF rfl ?_|refine E_blockX ?_|refine E_blockO rfl ?_|refine QV QL ?_|refine QV QlT ?_|refine QV QlF ?_|refine QV QaA ?_)
  refine T_loop (ι := Nat) (fun k => k ≤ l.length ∧ ∀ j (hj : j < l.length), j < k → p l[j] = false) (fun k => [(0, .slice base l.length cap), (1, .func (.func fid) first cp), (7, .int .i64 l.length), (8, .int .i64 (k : Int))]) (fun _ => []) (fun k => l.length - k) 0 ⟨by omega, fun j hj h => by omega⟩ (by repeat' (first | exact True.intro | refine And.intro rfl ?_)) rfl ?_
  rintro k ⟨h1, h2⟩
  by_cases c2 : k < l.length
  · obtain ⟨b, off, rfl, hr⟩ := hrd (by omega)
    have hat := at_el (L := ([] : List Own)) TdS_len hr c2
    have hcl := hp l[k] (List.getElem_mem c2)
    by_cases c3 : p l[k] = true
    · rw [idxF_some c2 c3 h2]
      rw [c3] at hcl
      clear hp h2 hrd
      repeat(first|refine QV QP ?_|refine QZ ?_|refine qcT rfl ?_|refine qcF rfl ?_|refine E_blockX ?_|refine E_blockO rfl ?_|refine QV (rr_idxc Und.eq TyC.ty rfl rfl c2) ?_|refine QV (rr_loadN TyC.ty rfl rfl hat) ?_|refine QV QL ?_|refine QV QlT ?_|refine QV QlF ?_|refine QV QaA ?_)
      refine TL_call (he1c hen rfl rfl) (fun w hm => hcl w hm.below) rfl rfl rfl ?_
      intro _ _
      repeat(first|refine QV QP ?_|refine QZ ?_|refine qcT rfl ?_|refine qcF rfl ?_|refine E_blockX ?_|refine E_blockO rfl ?_|refine QV QL ?_|refine QV QlT ?_|refine QV QlF ?_|refine QV QaA ?_)
      exact E_ret1 rfl rfl fun w hm => hm.ret
    · have c3' : p l[k] = false := by simpa using c3
      rw [c3'] at hcl
      clear hp hrd c3
      repeat(first|refine QV QP ?_|refine QZ ?_|refine qcT rfl ?_|refine qcF rfl ?_|refine E_blockX ?_|refine E_blockO rfl ?_|refine QV (rr_idxc Und.eq TyC.ty rfl rfl c2) ?_|refine QV (rr_loadN TyC.ty rfl rfl hat) ?_|refine QV QL ?_|refine QV QlT ?_|refine QV QlF ?_|refine QV QaA ?_)
      refine TL_call (he1c hen rfl rfl) (fun w hm => hcl w hm.below) rfl rfl rfl ?_
      intro _ _
      repeat(first|refine QV QP ?_|refine QZ ?_|refine qcT rfl ?_|refine qcF rfl ?_|refine E_blockX ?_|refine E_blockO rfl ?_|refine QV QL ?_|refine QV QlT ?_|refine QV QlF ?_|refine QV QaA ?_)
      exact E_round (k + 1) ⟨by omega, fun j hj h => if e : j < k then h2 j hj e else (by obtain rfl : j = k := (by omega); exact c3')⟩ (by show l.length - (k + 1) < l.length - k; omega) (by repeat' (first | exact True.intro | refine And.intro rfl ?_)) rfl
  · rw [idxF_none fun j hj => h2 j hj (by omega)]
    clear hp h2 hrd
    repeat(first|refine QV QP ?_|refine QZ ?_|refine qcT rfl ?_|refine qcF rfl ?_|refine E_blockX ?_|refine E_blockO rfl ?_|refine QV QL ?_|refine QV QlT ?_|refine QV QlF ?_|refine QV QaA ?_)
    exact E_ret1 rfl rfl fun w hm => hm.ret
theorem containsFuncTdS_calls (v : Value) (l : List climbL.TD) (w : World) (hs : Sl w v l.length (l.flatMap tdC)) (fid : FuncId) (first cp : Array Value) (p : climbL.TD → Bool) (hen : Enters Try.prog fid)
    (hp : ∀ a ∈ l, ∀ w', Gr w w' → Calls Try.prog fid (first ++ #[(.agg (tdC a).toArray)] ++ cp) w' (Meets (ret (.bool (p a))) w')) :
    Calls Try.prog 121 #[v, .func (.func fid) first cp] w (Meets (ret (.bool (l.any p))) w) := by
  refine enter (args := [v, .func (.func fid) first cp]) (n := 9) Try.func121 rfl rfl rfl ?_
  have hh := fun w' (hg : Gr w w') => indexFuncTdS_calls v l w' (hs.gr hg) fid first cp p hen fun a ha w'' hg' => hp a ha w'' (hg.trans hg')
  have hr := idxF_range p l
  rw [← idxF_any p l]
  generalize idxF p l = r at *
  repeat(first|refine QV QP ?_|refine QZ ?_|refine QV QhT ?_|refine QV QhF ?_)
  refine TL_call (he2 EntersC.en rfl rfl rfl) (fun w hm => hh _ hm.below) rfl rfl rfl ?_
  intro _ _
  repeat(first|refine QV QP ?_|refine QZ ?_|refine QV (rr_geq rfl rfl rfl) ?_|refine QV QhT ?_|refine QV QhF ?_)
  exact E_ret1 rfl rfl fun w hm => hm.ret
set_option maxHeartbeats 2000000 in
theorem cloneTdS_calls (v : Value) (l : List climbL.TD) (w : World) (hs : Sl w v l.length (l.flatMap tdC)) (hl : l.length * 40 ≤ 140737488355328) :
    Calls Try.prog 124 #[v] w (Meets (rowS 179 4 l.length (l.flatMap tdC) id) w) := by
  obtain ⟨base, cap, rfl, hcap, hmax, hrd⟩ := hs
  unfold maxLen at hmax
  refine enter (args := [.slice base l.length cap]) (n := 8) Try.func124 rfl rfl rfl ?_
  have hsl : ∀ w', Gr w w' → Sl w' (.slice base l.length cap) l.length (l.flatMap tdC) := fun w' hg => Sl.gr ⟨base, cap, rfl, hcap, hmax, hrd⟩ hg
  clear hrd
  cases base with
  | none =>
    repeat(first|refine QV QP ?_|refine QZ ?_|refine qcT rfl ?_|refine qcF rfl ?_|refine QV (rr_slnil Und.eq rfl rfl rfl) ?_)
    have h0 : l = [] := by
      cases l with
      | nil => rfl
      | cons x l => obtain ⟨_, _, h, _, _, h2⟩ := hsl w (Gr.refl w); simp only [Value.slice.injEq] at h; obtain ⟨rfl, _⟩ := h; obtain ⟨b, off, h, _⟩ := h2 (by simp); cases h
    subst h0
    refine E_nilrow 179 4 ?_
    exact E_ret1 rfl rfl fun w hm => hm.meets (S := rowS 179 4 0 [] id) _ trivial [0] (by decide) rfl
  | some p =>
    repeat(first|refine QV QP ?_|refine QZ ?_|refine qcT rfl ?_|refine qcF rfl ?_|refine QV (rr_slnil Und.eq rfl rfl rfl) ?_)
    refine TL_lit0 rfl fun g => ?_
    repeat(first|refine QV QP ?_|refine QZ ?_|refine qcT rfl ?_|refine qcF rfl ?_)
    refine TL_appSl (i := 0) rfl (fun w' hm => hsl w' hm.below) rfl rfl (len_el TdS_len l) (tdC_all l) (by omega) (by omega) rfl fun v' => ?_
    rw [List.nil_append]
    repeat(first|refine QV QP ?_|refine QZ ?_|refine qcT rfl ?_|refine qcF rfl ?_)
    refine E_ret1 rfl rfl fun w hm => ?_
    exact hm.meets (S := rowS 179 4 l.length (l.flatMap tdC) id) v' trivial [0] (by decide) (by simp [rowS])
end Go.Proofs.Ytlojfbnimmdehaa.eng

/- LlC -/
namespace Go.Proofs.Ytlojfbnimmdehaa.eng
open Go.RowKit kit mix gramL llL
def chkRow (l : List gramL.Prod) (n : Nat) : List Int → Int
  | [] => 0
  | p :: r => if p < -1 then 1 else if (l.length : Int) ≤ p then 1 else if 0 ≤ p ∧ (l.getD p.toNat (0, [])).1 ≠ (n : Int) then 1 else chkRow l n r
def chkRows (l : List gramL.Prod) (t : Int) : Nat → List (List Int) → Int
  | _, [] => 0
  | n, r :: rs => if (r.length : Int) ≠ t + 1 then 1 else if chkRow l n r ≠ 0 then 1 else chkRows l t (n + 1) rs
def chkL (g : Gram) (ll : List (List Int)) : Int := if checkG g ≠ 0 then checkG g else if (ll.length : Int) ≠ g.nons then 1 else chkRows g.prods g.terms 0 ll
abbrev RowsR (w : World) (v : Value) (ll : List (List Int)) : Prop := SlF (sliceS intS) (fun k => k < w.heap.size) w v ll
theorem rows_at {F : Nat → Prop} {w : World} {b off : Nat} {ll : List (List Int)} (h : ∀ i (h : i < ll.length), ∃ cs, (sliceS intS).is F w cs ll[i] ∧ Rd w b (off + i * (sliceS intS).c) cs) {k : Nat} (hk : k < ll.length) :
    ∃ vi, w.cell? ⟨b, off + k, none⟩ = some vi ∧ Sl w vi ll[k].length (ll[k].map (.int .i64)) := by
  obtain ⟨cs, ⟨vi, rfl, h1⟩, hr⟩ := h k hk
  refine ⟨vi, ?_, ?_⟩
  · have := hr 0 vi rfl
    rwa [show (sliceS intS).c = 1 from rfl, Nat.mul_one, Nat.add_zero] at this
  · have := h1.flat (by decide)
    rw [show (ll[k].flatMap fun n => [Value.int .i64 n]) = ll[k].map (.int .i64) from by rw [List.flatMap_def]; induction ll[k] with
      | nil => rfl
      | cons x r ih => simp only [List.map_cons, List.flatten_cons, ih]; rfl] at this
    exact this
set_option maxRecDepth 100000 in
set_option maxHeartbeats 8000000 in
theorem llCheck_calls (v vr : Value) (g : Gram) (ll : List (List Int)) (w : World) (h : GraR (fun k => k < w.heap.size) w v g) (hr : RowsR w vr ll) :
    Calls Try.prog 120 #[v, vr] w (Meets (ret (.int .i64 (chkL g ll))) w) := by
  have hck := fun w' (hg : Gr w w') => checkG_calls v g w' (h.gr hg)
  obtain ⟨vp, rfl, h1, _⟩ := h
  obtain ⟨br, cr, rfl, hr1, hr2, hr3⟩ := hr
  unfold maxLen at hr2
  unfold chkL
  by_cases c0 : checkG g = 0
  · rw [if_neg (by simpa using c0)]
    obtain ⟨a1, a2, a3, a4, a5, _⟩ := checkG_ok c0
    rw [c0] at hck
    obtain ⟨t, nn, prods⟩ := g
    dsimp only at *
    obtain ⟨bp, cp, rfl, hcp, hmp, hrp⟩ := h1
    unfold maxLen at hmp
    refine enter (args := [graV t nn (.slice bp prods.length cp), .slice br ll.length cr]) (n := 64) Try.func120 rfl rfl rfl ?_
    refine T_seq (T_region (TL_box rfl rfl rfl fun g2 => ?_))
    conv=>arg 8;simp only[zA,zB,zC,zD,zE,zF,zG,zH,zI,rowS,ret,id_eq]
    repeat(first|refine QV QP ?_|refine QZ ?_|refine qcT rfl ?_|refine qcF rfl ?_|refine E_blockX ?_|refine E_blockO rfl ?_|refine qs rfl rfl rfl rfl rfl rfl ?_|((try refine qg rfl rfl rfl ?_);first|refine QV QP ?_|refine QV (rr_loadB (i := 0) TyC.ty rfl rfl rfl) ?_|refine QV QL ?_|refine QV QA ?_|refine QV QlT ?_|refine QV QlF ?_|refine QV QnT ?_|refine QV QnF ?_|refine QV QaA ?_|refine QV QhT ?_|refine QV QhF ?_))
    refine TL_call (he1 EntersC.en rfl rfl) (fun w hm => hck _ hm.below) rfl rfl rfl ?_
    intro _ _
    conv=>arg 8;simp only[zA,zB,zC,zD,zE,zF,zG,zH,zI,rowS,ret,id_eq]
    by_cases c1 : (ll.length : Int) = nn
    · rw [if_neg (by simpa using c1)]
      repeat(first|refine QV QP ?_|refine QZ ?_|refine qcT rfl ?_|refine qcF rfl ?_|refine E_blockX ?_|refine E_blockO rfl ?_|refine qs rfl rfl rfl rfl rfl rfl ?_|((try refine qg rfl rfl rfl ?_);first|refine QV QP ?_|refine QV (rr_load1 TyC.ty rfl (at_blk (i := 0) rfl rfl)) ?_|refine QV QL ?_|refine QV QA ?_|refine QV QlT ?_|refine QV QlF ?_|refine QV QnT ?_|refine QV QnF ?_|refine QV QaA ?_|refine QV QhT ?_|refine QV QhF ?_))
      generalize hres : chkRows prods t 0 ll = res
      refine T_loop (ι := Nat) (fun n => n ≤ ll.length ∧ res = chkRows prods t n (ll.drop n)) (fun n => [(2, .pointer (some ⟨g2, 0, none⟩)), (20, .slice br ll.length cr), (21, .int .i64 ll.length), (22, .int .i64 (n : Int))]) (fun _ => [blkO g2 (graV t nn (.slice bp prods.length cp)).cells 24]) (fun n => ll.length - n) 0 ⟨Nat.zero_le _, by rw [List.drop_zero]; exact hres.symm⟩ (by repeat' (first | exact True.intro | refine And.intro rfl ?_)) rfl ?_
      clear hres
      rintro n ⟨i1, i2⟩
      by_cases c2 : n < ll.length
      · obtain ⟨b, off, rfl, _, hrd⟩ := hr3 (by omega)
        obtain ⟨vi, y1, y2⟩ := rows_at hrd c2
        have hat : ∀ L, At w L ⟨b, off + n, none⟩ vi := fun L => at_old y1
        rw [List.drop_eq_getElem_cons c2, chkRows] at i2
        clear hrd y1
        generalize ll[n] = r at *
        obtain ⟨bi, ci, rfl, z1, z2, z3⟩ := y2
        unfold maxLen at z2
        by_cases c3 : (r.length : Int) = t + 1
        · rw [if_neg (by simpa using c3)] at i2
          repeat(first|refine QV QP ?_|refine QZ ?_|refine qcT rfl ?_|refine qcF rfl ?_|refine E_blockX ?_|refine E_blockO rfl ?_|refine qs rfl rfl rfl rfl rfl rfl ?_|((try refine qg rfl rfl rfl ?_);first|refine QV QP ?_|refine QV (rr_idx1 Und.eq TyC.ty rfl rfl c2) ?_|refine QV (rr_load1 TyC.ty rfl (hat _)) ?_|refine QV (rr_load1 TyC.ty rfl (at_blk (i := 0) rfl rfl)) ?_|refine QV QL ?_|refine QV QA ?_|refine QV QlT ?_|refine QV QlF ?_|refine QV QnT ?_|refine QV QnF ?_|refine QV QaA ?_|refine QV QhT ?_|refine QV QhF ?_))
          refine T_loop (ι := Nat) (fun j => j ≤ r.length ∧ chkRow prods n r = chkRow prods n (r.drop j)) (fun j => [(2, .pointer (some ⟨g2, 0, none⟩)), (6, .int .i64 (n : Int)), (20, .slice (some ⟨b, off, none⟩) ll.length cr), (21, .int .i64 ll.length), (22, .int .i64 (n : Int)), (33, .slice bi r.length ci), (34, .int .i64 r.length), (35, .int .i64 (j : Int))]) (fun _ => [blkO g2 (graV t nn (.slice bp prods.length cp)).cells 24]) (fun j => r.length - j) 0 ⟨Nat.zero_le _, rfl⟩ (by repeat' (first | exact True.intro | refine And.intro rfl ?_)) rfl ?_
          rintro j ⟨j1, j2⟩
          by_cases c4 : j < r.length
          · obtain ⟨b', off', rfl, hr'⟩ := z3 (by omega)
            have hatj := fun L => at_int (L := L) hr' c4
            rw [List.drop_eq_getElem_cons c4, chkRow] at j2
            clear hr' z3
            generalize r[j] = p at *
            by_cases e1 : p < -1
            · rw [if_pos e1] at j2
              rw [j2, if_pos (by decide)] at i2
              subst i2
              repeat(first|refine QV QP ?_|refine QZ ?_|refine qcT rfl ?_|refine qcF rfl ?_|refine E_blockX ?_|refine E_blockO rfl ?_|refine qs rfl rfl rfl rfl rfl rfl ?_|((try refine qg rfl rfl rfl ?_);first|refine QV QP ?_|refine QV (rr_idx1 Und.eq TyC.ty rfl rfl c4) ?_|refine QV (rr_load1 TyC.ty rfl (hatj _)) ?_|refine QV (rr_load1 TyC.ty rfl (at_blk (i := 0) rfl rfl)) ?_|refine QV QL ?_|refine QV QA ?_|refine QV QlT ?_|refine QV QlF ?_|refine QV QnT ?_|refine QV QnF ?_|refine QV QaA ?_|refine QV QhT ?_|refine QV QhF ?_))
              exact E_ret1 rfl rfl fun w hm => hm.ret
            by_cases e2 : (prods.length : Int) ≤ p
            · rw [if_neg e1, if_pos e2] at j2
              rw [j2, if_pos (by decide)] at i2
              subst i2
              repeat(first|refine QV QP ?_|refine QZ ?_|refine qcT rfl ?_|refine qcF rfl ?_|refine E_blockX ?_|refine E_blockO rfl ?_|refine qs rfl rfl rfl rfl rfl rfl ?_|((try refine qg rfl rfl rfl ?_);first|refine QV QP ?_|refine QV (rr_idx1 Und.eq TyC.ty rfl rfl c4) ?_|refine QV (rr_load1 TyC.ty rfl (hatj _)) ?_|refine QV (rr_load1 TyC.ty rfl (at_blk (i := 0) rfl rfl)) ?_|refine QV QL ?_|refine QV QA ?_|refine QV QlT ?_|refine QV QlF ?_|refine QV QnT ?_|refine QV QnF ?_|refine QV QaA ?_|refine QV QhT ?_|refine QV QhF ?_))
              exact E_ret1 rfl rfl fun w hm => hm.ret
            rw [if_neg e1, if_neg e2] at j2
            by_cases e3 : 0 ≤ p
            · obtain ⟨m, rfl⟩ : ∃ m : Nat, p = m := ⟨p.toNat, by omega⟩
              have hm : m < prods.length := by omega
              obtain ⟨bq, offq, rfl, _, hrq⟩ := hrp (by omega)
              obtain ⟨bb, cb, q1, _, _⟩ := prod_at hrq hm
              have hatp : ∀ (L : List Own), At w L ⟨bq, offq + m * 2 + 0, none⟩ (.int .i64 prods[m].1) := fun L => at_old (q1 0 _ rfl)
              rw [Int.toNat_natCast, List.getD_eq_getElem?_getD, List.getElem?_eq_getElem hm] at j2
              dsimp only [Option.getD] at j2
              clear q1 hrq
              generalize prods[m] = pd at *
              obtain ⟨hd, _⟩ := pd
              dsimp only at *
              by_cases e4 : hd = (n : Int)
              · rw [if_neg (fun h => h.2 e4)] at j2
                repeat(first|refine QV QP ?_|refine QZ ?_|refine qcT rfl ?_|refine qcF rfl ?_|refine E_blockX ?_|refine E_blockO rfl ?_|refine qs rfl rfl rfl rfl rfl rfl ?_|((try refine qg rfl rfl rfl ?_);first|refine QV QP ?_|refine QV (rr_idx1 Und.eq TyC.ty rfl rfl c4) ?_|refine QV (rr_load1 TyC.ty rfl (hatj _)) ?_|refine QV (rr_load1 TyC.ty rfl (at_blk (i := 0) rfl rfl)) ?_|refine QV (rr_idxc Und.eq TyC.ty rfl rfl hm) ?_|refine QV (rr_load1 TyC.ty rfl (hatp _)) ?_|refine QV QL ?_|refine QV QA ?_|refine QV QlT ?_|refine QV QlF ?_|refine QV QnT ?_|refine QV QnF ?_|refine QV QaA ?_|refine QV QhT ?_|refine QV QhF ?_))
                exact E_round (j + 1) ⟨by omega, j2⟩ (by omega) (by repeat' (first | exact True.intro | refine And.intro rfl ?_)) rfl
              · rw [if_pos ⟨e3, e4⟩] at j2
                rw [j2, if_pos (by decide)] at i2
                subst i2
                repeat(first|refine QV QP ?_|refine QZ ?_|refine qcT rfl ?_|refine qcF rfl ?_|refine E_blockX ?_|refine E_blockO rfl ?_|refine qs rfl rfl rfl rfl rfl rfl ?_|((try refine qg rfl rfl rfl ?_);first|refine QV QP ?_|refine QV (rr_idx1 Und.eq TyC.ty rfl rfl c4) ?_|refine QV (rr_load1 TyC.ty rfl (hatj _)) ?_|refine QV (rr_load1 TyC.ty rfl (at_blk (i := 0) rfl rfl)) ?_|refine QV (rr_idxc Und.eq TyC.ty rfl rfl hm) ?_|refine QV (rr_load1 TyC.ty rfl (hatp _)) ?_|refine QV QL ?_|refine QV QA ?_|refine QV QlT ?_|refine QV QlF ?_|refine QV QnT ?_|refine QV QnF ?_|refine QV QaA ?_|refine QV QhT ?_|refine QV QhF ?_))
                exact E_ret1 rfl rfl fun w hm => hm.ret
            · rw [if_neg (fun h => e3 h.1)] at j2
              repeat(first|refine QV QP ?_|refine QZ ?_|refine qcT rfl ?_|refine qcF rfl ?_|refine E_blockX ?_|refine E_blockO rfl ?_|refine qs rfl rfl rfl rfl rfl rfl ?_|((try refine qg rfl rfl rfl ?_);first|refine QV QP ?_|refine QV (rr_idx1 Und.eq TyC.ty rfl rfl c4) ?_|refine QV (rr_load1 TyC.ty rfl (hatj _)) ?_|refine QV (rr_load1 TyC.ty rfl (at_blk (i := 0) rfl rfl)) ?_|refine QV QL ?_|refine QV QA ?_|refine QV QlT ?_|refine QV QlF ?_|refine QV QnT ?_|refine QV QnF ?_|refine QV QaA ?_|refine QV QhT ?_|refine QV QhF ?_))
              exact E_round (j + 1) ⟨by omega, j2⟩ (by omega) (by repeat' (first | exact True.intro | refine And.intro rfl ?_)) rfl
          · rw [List.drop_of_length_le (by omega), chkRow] at j2
            rw [j2, if_neg (by decide)] at i2
            repeat(first|refine QV QP ?_|refine QZ ?_|refine qcT rfl ?_|refine qcF rfl ?_|refine E_blockX ?_|refine E_blockO rfl ?_|refine qs rfl rfl rfl rfl rfl rfl ?_|((try refine qg rfl rfl rfl ?_);first|refine QV QP ?_|refine QV QL ?_|refine QV QA ?_|refine QV QlT ?_|refine QV QlF ?_|refine QV QnT ?_|refine QV QnF ?_|refine QV QaA ?_|refine QV QhT ?_|refine QV QhF ?_))
            exact E_round (n + 1) ⟨by omega, i2⟩ (by omega) (by repeat' (first | exact True.intro | refine And.intro rfl ?_)) rfl
        · rw [if_pos (by simpa using c3)] at i2
          subst i2
          repeat(first|refine QV QP ?_|refine QZ ?_|refine qcT rfl ?_|refine qcF rfl ?_|refine E_blockX ?_|refine E_blockO rfl ?_|refine qs rfl rfl rfl rfl rfl rfl ?_|((try refine qg rfl rfl rfl ?_);first|refine QV QP ?_|refine QV (rr_idx1 Und.eq TyC.ty rfl rfl c2) ?_|refine QV (rr_load1 TyC.ty rfl (hat _)) ?_|refine QV (rr_load1 TyC.ty rfl (at_blk (i := 0) rfl rfl)) ?_|refine QV QL ?_|refine QV QA ?_|refine QV QlT ?_|refine QV QlF ?_|refine QV QnT ?_|refine QV QnF ?_|refine QV QaA ?_|refine QV QhT ?_|refine QV QhF ?_))
          exact E_ret1 rfl rfl fun w hm => hm.ret
      · rw [List.drop_of_length_le (by omega), chkRows] at i2
        subst i2
        repeat(first|refine QV QP ?_|refine QZ ?_|refine qcT rfl ?_|refine qcF rfl ?_|refine E_blockX ?_|refine E_blockO rfl ?_|refine qs rfl rfl rfl rfl rfl rfl ?_|((try refine qg rfl rfl rfl ?_);first|refine QV QP ?_|refine QV QL ?_|refine QV QA ?_|refine QV QlT ?_|refine QV QlF ?_|refine QV QnT ?_|refine QV QnF ?_|refine QV QaA ?_|refine QV QhT ?_|refine QV QhF ?_))
        exact E_ret1 rfl rfl fun w hm => hm.ret
    · rw [if_pos (by simpa using c1)]
      repeat(first|refine QV QP ?_|refine QZ ?_|refine qcT rfl ?_|refine qcF rfl ?_|refine E_blockX ?_|refine E_blockO rfl ?_|refine qs rfl rfl rfl rfl rfl rfl ?_|((try refine qg rfl rfl rfl ?_);first|refine QV QP ?_|refine QV (rr_load1 TyC.ty rfl (at_blk (i := 0) rfl rfl)) ?_|refine QV QL ?_|refine QV QA ?_|refine QV QlT ?_|refine QV QlF ?_|refine QV QnT ?_|refine QV QnF ?_|refine QV QaA ?_|refine QV QhT ?_|refine QV QhF ?_))
      exact E_ret1 rfl rfl fun w hm => hm.ret
  · rw [if_pos (by simpa using c0)]
    generalize checkG g = e at *
    refine enter (args := [graV g.terms g.nons vp, .slice br ll.length cr]) (n := 64) Try.func120 rfl rfl rfl ?_
    refine T_seq (T_region (TL_box rfl rfl rfl fun g2 => ?_))
    conv=>arg 8;simp only[zA,zB,zC,zD,zE,zF,zG,zH,zI,rowS,ret,id_eq]
    repeat(first|refine QV QP ?_|refine QZ ?_|refine qcT rfl ?_|refine qcF rfl ?_|refine E_blockX ?_|refine E_blockO rfl ?_|refine qs rfl rfl rfl rfl rfl rfl ?_|((try refine qg rfl rfl rfl ?_);first|refine QV QP ?_|refine QV (rr_loadB (i := 0) TyC.ty rfl rfl rfl) ?_|refine QV QL ?_|refine QV QA ?_|refine QV QlT ?_|refine QV QlF ?_|refine QV QnT ?_|refine QV QnF ?_|refine QV QaA ?_|refine QV QhT ?_|refine QV QhF ?_))
    refine TL_call (he1 EntersC.en rfl rfl) (fun w hm => hck _ hm.below) rfl rfl rfl ?_
    intro _ _
    conv=>arg 8;simp only[zA,zB,zC,zD,zE,zF,zG,zH,zI,rowS,ret,id_eq]
    repeat(first|refine QV QP ?_|refine QZ ?_|refine qcT rfl ?_|refine qcF rfl ?_|refine E_blockX ?_|refine E_blockO rfl ?_|refine qs rfl rfl rfl rfl rfl rfl ?_|((try refine qg rfl rfl rfl ?_);first|refine QV QP ?_|refine QV QL ?_|refine QV QA ?_|refine QV QlT ?_|refine QV QlF ?_|refine QV QnT ?_|refine QV QnF ?_|refine QV QaA ?_|refine QV QhT ?_|refine QV QhF ?_))
    exact E_ret1 rfl rfl fun w hm => hm.ret
theorem rows_slf {l : List gramL.Prod} {may : Nat → Nat} {T N g : Nat} {vs : Nat → Value} {w : World} (hl : l.length ≤ 40) (hN : N ≤ 20) (h1 : (rowA 25 vals g N vs).holds w) (h2 : (famP (fun j => j < N) (rowsF l may T vs N 0)).holds w) :
    RowsR w (.slice (some ⟨g, 0, none⟩) N N) (tabA N fun n => tabA (T + 1) (llL.rowAt l may T n)) := by
  refine ⟨some ⟨g, 0, none⟩, N, by rw [tabA_len], by rw [tabA_len]; exact Nat.le_refl _, by unfold maxLen; omega, fun h0 => ⟨g, 0, rfl, (rowA 25 vals g N vs).lt w h1 g (.inl rfl), fun i hi => ?_⟩⟩
  rw [tabA_len] at hi
  have hf := h2.1 i hi
  unfold rowsF cntL at hf
  rw [if_pos hi] at hf
  have hget : (tabA N fun n => tabA (T + 1) (llL.rowAt l may T n))[i]'(by rw [tabA_len]; exact hi) = tabA (T + 1) (llL.rowAt l may T i) := by simp [tabA]
  rw [hget]
  refine ⟨[vs i], ⟨vs i, rfl, ?_⟩, fun j u hj => ?_⟩
  · have hs := Sl.of_own hf
    refine SlF.of_flat (p := kit.okI64) (by rw [tabA_len]; rw [show ((tabA (T + 1) (llL.rowAt l may T i)).flatMap fun n => [Value.int .i64 n]) = (tabA (T + 1) (llL.rowAt l may T i)).map intV from by
        rw [List.flatMap_def]
        induction tabA (T + 1) (llL.rowAt l may T i) with
        | nil => rfl
        | cons x r ih => simp only [List.map_cons, List.flatten_cons, ih]; rfl]; exact hs) (fun a ha => ?_) (fun b hb => (rowO 3 1 (vs i) (T + 1) _).lt w hf b (.inl hb)) (fun a n cp he => ?_)
    · unfold tabA at ha
      obtain ⟨c, _, rfl⟩ := List.mem_map.1 ha
      have := first_ge (l := l) (may := may) (T := T) i c l.length
      unfold llL.rowAt
      exact ⟨by omega, by omega⟩
    · have hr : w.ownsRow 0 3 1 (vs i) (T + 1) _ := hf
      rcases hr.2 with ⟨hv, h⟩ | ⟨gg, cap, cur, hv, _⟩
      · omega
      · rw [hv] at he
        simp only [Value.slice.injEq, Option.some.injEq] at he
        rw [← he.1]
        exact (rowO 3 1 (vs i) (T + 1) _).lt w hf gg (.inl (by rw [hv]; rfl))
  · have hj0 : j = 0 := by
      have := (List.getElem?_eq_some_iff.1 hj).1
      simp at this; omega
    subst hj0
    simp only [List.getElem?_cons_zero, Option.some.injEq] at hj
    subst hj
    have := rowA_cell h1 hi
    rw [show 0 + i * (sliceS intS).c + 0 = 0 + i by rw [show (sliceS intS).c = 1 from rfl]; omega]
    exact this
end Go.Proofs.Ytlojfbnimmdehaa.eng

/- ClimbB -/
namespace Go.Proofs.Ytlojfbnimmdehaa.eng
open Go.RowKit kit mix gramL treeL climbL
theorem build_sy0 (w : World) : (Instr.build 71 (#[] : Array (Nat × Value))).run Try.prog w = .ok (.agg (symC (0, 0)).toArray) w := by
  unfold symC; go_simp
set_option maxRecDepth 100000 in
theorem tdright_calls (g : Gram) (b : Option Addr) (cp : Nat) (d : TD) (w : World) (hd : okTD g d) : Calls Try.prog 123 #[graV g.terms g.nons (.slice b g.prods.length cp), tdV d] w (Meets (ret (.bool true)) w) := by
  cases d with
  | close p =>
    obtain ⟨h1, h2⟩ := hd
    refine enter (args := [graV g.terms g.nons (.slice b g.prods.length cp), tdV (.close p)]) (n := 65) Try.func123 rfl rfl rfl ?_
    refine T_seq (T_region (TL_box rfl rfl rfl fun g0 => TL_box rfl rfl rfl fun g1 => ?_))
    repeat(first|refine QV QP ?_|refine QZ ?_|refine qcT rfl ?_|refine qcF rfl ?_|refine qs rfl rfl rfl rfl rfl rfl ?_|((try refine qg rfl rfl rfl ?_);first|refine QV QP ?_|refine QV (rr_load1 (v := .bool true) TyC.ty rfl (at_blk (i := 1) rfl rfl)) ?_|refine QV (rr_load1 (v := .int .i64 p) TyC.ty rfl (at_blk (i := 1) rfl rfl)) ?_|refine QV (rr_load1 TyC.ty rfl (at_blk (i := 0) rfl rfl)) ?_|refine QV (rr_loadN (cs := symC (0, 0)) TyC.ty rfl rfl (fun j v hj => at_blk (i := 1) rfl (by match j, hj with|0, h => exact h|1, h => exact h))) ?_|refine QV QA ?_|refine QV QhT ?_|refine QV QhF ?_|refine QV QeT ?_|refine QV QeF ?_|refine QV (rr_build rfl (build_sy0)) ?_|refine QV (rr_aggeq (b := true) rfl rfl (by kernel_rfl) (fun w => by rw [eq_sym]; rfl)) ?_|refine QV QL ?_|refine QV QlT ?_|refine QV QlF ?_))
    exact E_ret1 rfl rfl fun w hm => hm.ret
  | sym x =>
    obtain ⟨k, m⟩ := x
    have hd : right g.terms g.nons (k, m) = true := hd
    unfold right at hd
    dsimp only at hd
    by_cases c1 : k = 1
    · subst c1
      rw [if_pos rfl] at hd
      simp only [Bool.and_eq_true, decide_eq_true_eq] at hd
      refine enter (args := [graV g.terms g.nons (.slice b g.prods.length cp), tdV (.sym (1, m))]) (n := 65) Try.func123 rfl rfl rfl ?_
      refine T_seq (T_region (TL_box rfl rfl rfl fun g0 => TL_box rfl rfl rfl fun g1 => ?_))
      repeat(first|refine QV QP ?_|refine QZ ?_|refine qcT rfl ?_|refine qcF rfl ?_|refine qs rfl rfl rfl rfl rfl rfl ?_|((try refine qg rfl rfl rfl ?_);first|refine QV QP ?_|refine QV (rr_load1 (v := .bool false) TyC.ty rfl (at_blk (i := 1) rfl rfl)) ?_|refine QV (rr_load1 (v := .int .i64 1) TyC.ty rfl (at_blk (i := 1) rfl rfl)) ?_|refine QV (rr_load1 (v := .int .i64 0) TyC.ty rfl (at_blk (i := 1) rfl rfl)) ?_|refine QV (rr_load1 (v := .int .i64 m) TyC.ty rfl (at_blk (i := 1) rfl rfl)) ?_|refine QV (rr_load1 TyC.ty rfl (at_blk (i := 0) rfl rfl)) ?_|refine QV QA ?_|refine QV QhT ?_|refine QV QhF ?_|refine QV QeT ?_|refine QV QeF ?_|refine QV QL ?_|refine QV QlT ?_|refine QV QlF ?_))
      exact E_ret1 rfl rfl fun w hm => hm.ret
    · rw [if_neg c1] at hd
      by_cases c2 : k = 2
      · subst c2
        rw [if_pos rfl] at hd
        simp only [Bool.and_eq_true, decide_eq_true_eq] at hd
        refine enter (args := [graV g.terms g.nons (.slice b g.prods.length cp), tdV (.sym (2, m))]) (n := 65) Try.func123 rfl rfl rfl ?_
        refine T_seq (T_region (TL_box rfl rfl rfl fun g0 => TL_box rfl rfl rfl fun g1 => ?_))
        repeat(first|refine QV QP ?_|refine QZ ?_|refine qcT rfl ?_|refine qcF rfl ?_|refine qs rfl rfl rfl rfl rfl rfl ?_|((try refine qg rfl rfl rfl ?_);first|refine QV QP ?_|refine QV (rr_load1 (v := .bool false) TyC.ty rfl (at_blk (i := 1) rfl rfl)) ?_|refine QV (rr_load1 (v := .int .i64 2) TyC.ty rfl (at_blk (i := 1) rfl rfl)) ?_|refine QV (rr_load1 (v := .int .i64 0) TyC.ty rfl (at_blk (i := 1) rfl rfl)) ?_|refine QV (rr_load1 (v := .int .i64 m) TyC.ty rfl (at_blk (i := 1) rfl rfl)) ?_|refine QV (rr_load1 TyC.ty rfl (at_blk (i := 0) rfl rfl)) ?_|refine QV QA ?_|refine QV QhT ?_|refine QV QhF ?_|refine QV QeT ?_|refine QV QeF ?_|refine QV QL ?_|refine QV QlT ?_|refine QV QlF ?_))
        exact E_ret1 rfl rfl fun w hm => hm.ret
      · rw [if_neg c2] at hd; cases hd
theorem tdright1_calls (g : Gram) (b : Option Addr) (cp : Nat) (d : TD) (gg : Nat) (w : World) (hd : okTD g d) (hg : w.heap[gg]? = some (.cells (graV g.terms g.nons (.slice b g.prods.length cp)).cells 24 (0, 0))) :
    Calls Try.prog 122 #[tdV d, .pointer (some ⟨gg, 0, none⟩)] w (Meets (ret (.bool false)) w) := by
  have hcell : ∀ (L : List Own) (j : Nat) (v : Value), ([.int .i64 g.terms, .int .i64 g.nons, .slice b g.prods.length cp] : List Value)[j]? = some v → At w L ⟨gg, 0 + j, none⟩ v := fun L j v hj => at_old (by
    rw [cell_of_row w gg (0 + j) _ _ _ hg, Nat.zero_add]
    show (#[.int .i64 g.terms, .int .i64 g.nons, .slice b g.prods.length cp] : Array Value)[j]? = some v
    simpa using hj)
  have hr := tdright_calls g b cp d
  refine enter (args := [tdV d, .pointer (some ⟨gg, 0, none⟩)]) (n := 8) Try.func122 rfl rfl rfl ?_
  refine T_seq (T_region (TL_box rfl rfl rfl fun g0 => ?_))
  repeat(first|refine QV QP ?_|refine QZ ?_|refine QV (rr_loadN TyC.ty rfl rfl (hcell _)) ?_|refine QV (rr_loadB (i := 0) TyC.ty rfl rfl rfl) ?_|refine QV (rr_not rfl rfl) ?_)
  refine TL_call (he2 EntersC.en rfl rfl rfl) (fun w hm => hr w hd) rfl rfl rfl ?_
  intro _ _
  repeat(first|refine QV QP ?_|refine QZ ?_|refine QV (rr_not rfl rfl) ?_)
  exact E_ret1 rfl rfl fun w hm => hm.ret
/-- a climber's list that can be read -/
abbrev TdR (w : World) (vt : Value) (st : List TD) : Prop := Sl w vt st.length (st.reverse.flatMap tdC)
set_option maxHeartbeats 2000000 in
theorem climbCheck_calls (v vr vt : Value) (g : Gram) (ll : List (List Int)) (st : List TD) (seen col : Int) (w : World) (h : GraR (fun k => k < w.heap.size) w v g) (hr : RowsR w vr ll) (ht : TdR w vt st) (h0 : chkL g ll = 0) (hs : ∀ d ∈ st, okTD g d) (hl : st.length ≤ 60) (h1 : 0 ≤ seen) (h2 : seen ≤ 1099511627776) (h3 : 0 ≤ col) (h4 : col ≤ g.terms) :
    Calls Try.prog 92 #[v, vr, clV vt seen 0 false, .int .i64 col] w (Meets (ret (.int .i64 0)) w) := by
  have hck := fun w' (hg : Gr w w') => llCheck_calls v vr g ll w' (h.gr hg) (hr.gr hg)
  rw [h0] at hck
  obtain ⟨vp, rfl, hp, _⟩ := h
  obtain ⟨bp, cp, rfl, _⟩ := hp
  have hco := fun w' (hg : Gr w w') gg (hb : w'.heap[gg]? = some (.cells (graV g.terms g.nons (.slice bp g.prods.length cp)).cells 24 (0, 0))) => containsFuncTdS_calls vt st.reverse w' (by rw [List.length_reverse]; exact ht.gr hg) 122 #[] #[.pointer (some ⟨gg, 0, none⟩)] (fun _ => false) EntersC.en (fun a ha w'' hg' => tdright1_calls g bp cp a gg w'' (hs a (List.mem_reverse.1 ha)) (by rw [hg'.block gg (Array.getElem?_eq_some_iff.1 hb).1]; exact hb))
  have hany : st.reverse.any (fun _ => false) = false := by rw [List.any_eq_false]; intro _ _ h; cases h
  rw [hany] at hco
  obtain ⟨bt, ct, rfl, _⟩ := ht
  refine enter (args := [graV g.terms g.nons (.slice bp g.prods.length cp), vr, clV (.slice bt st.length ct) seen 0 false, .int .i64 col]) (n := 54) Try.func92 rfl rfl rfl ?_
  refine T_seq (T_region (TL_box rfl rfl rfl fun g0 => TL_box rfl rfl rfl fun g1 => ?_))
  repeat(first|refine QV QP ?_|refine QZ ?_|refine qcT rfl ?_|refine qcF rfl ?_|refine qs rfl rfl rfl rfl rfl rfl ?_|((try refine qg rfl rfl rfl ?_);first|refine QV QP ?_|refine QV (rr_loadB (i := 0) TyC.ty rfl rfl rfl) ?_|refine QV QL ?_|refine QV QA ?_|refine QV QgT ?_|refine QV QgF ?_|refine QV QnT ?_|refine QV QnF ?_|refine QV QlT ?_|refine QV QlF ?_))
  refine TL_call (he2 EntersC.en rfl rfl rfl) (fun w hm => hck _ hm.below) rfl rfl rfl ?_
  intro _ _
  conv=>arg 8;simp only[zA,zB,zC,zD,zE,zF,zG,zH,zI,rowS,ret,id_eq]
  repeat(first|refine QV QP ?_|refine QZ ?_|refine qcT rfl ?_|refine qcF rfl ?_|refine qs rfl rfl rfl rfl rfl rfl ?_|((try refine qg rfl rfl rfl ?_);first|refine QV QP ?_|refine QV (rr_load1 (v := .slice bt st.length ct) TyC.ty rfl (at_blk (i := 1) rfl rfl)) ?_|refine QV (rr_load1 (v := .int .i64 seen) TyC.ty rfl (at_blk (i := 1) rfl rfl)) ?_|refine QV (rr_load1 (v := .int .i64 0) TyC.ty rfl (at_blk (i := 1) rfl rfl)) ?_|refine QV (rr_load1 (v := .bool false) TyC.ty rfl (at_blk (i := 1) rfl rfl)) ?_|refine QV (rr_load1 TyC.ty rfl (at_blk (i := 0) rfl rfl)) ?_|refine QV (rr_func rfl rfl) ?_|refine QV QL ?_|refine QV QA ?_|refine QV QgT ?_|refine QV QgF ?_|refine QV QnT ?_|refine QV QnF ?_|refine QV QlT ?_|refine QV QlF ?_))
  refine TL_call (he2 EntersC.en rfl rfl rfl) (fun w hm => hco _ hm.below _ (hm.get (i := 0) rfl)) rfl rfl rfl ?_
  intro _ _
  conv=>arg 8;simp only[zA,zB,zC,zD,zE,zF,zG,zH,zI,rowS,ret,id_eq]
  repeat(first|refine QV QP ?_|refine QZ ?_|refine qcT rfl ?_|refine qcF rfl ?_|refine qs rfl rfl rfl rfl rfl rfl ?_|((try refine qg rfl rfl rfl ?_);first|refine QV QP ?_|refine QV (rr_load1 (v := .int .i64 0) TyC.ty rfl (at_blk (i := 1) rfl rfl)) ?_|refine QV (rr_load1 (v := .bool false) TyC.ty rfl (at_blk (i := 1) rfl rfl)) ?_|refine QV QL ?_|refine QV QA ?_|refine QV QgT ?_|refine QV QgF ?_|refine QV QnT ?_|refine QV QnF ?_|refine QV QlT ?_|refine QV QlF ?_))
  exact E_ret1 rfl rfl fun w hm => hm.ret
end Go.Proofs.Ytlojfbnimmdehaa.eng

/- ClimbC -/
namespace Go.Proofs.Ytlojfbnimmdehaa.eng
open Go.RowKit kit mix gramL treeL climbL
/-- what a table says -/
def nxL (ll : List (List Int)) (col : Nat) (n : Int) : Int := (ll.getD n.toNat []).getD col (-1)
/-- a table that can be asked -/
structure TabOk (g : Gram) (ll : List (List Int)) (T N : Nat) : Prop where
  terms : g.terms = T
  nons : g.nons = N
  len : ll.length = N
  row : ∀ r ∈ ll, r.length = T + 1
  nx : ∀ col, NxOk g.prods (nxL ll col)
theorem down_no1 {l : List gramL.Prod} {nx : Int → Int} {f : Nat} {st : List TD} {out : List Sym} {a : Nat} (h : (closesF st out a).2.2.2 = false) : downF l nx (f + 1) st out a = ((closesF st out a).1, (closesF st out a).2.1, (closesF st out a).2.2.1, 14) := by
  rw [downF, if_pos h]
theorem down_nil {l : List gramL.Prod} {nx : Int → Int} {f : Nat} {st : List TD} {out : List Sym} {a : Nat} (h : (closesF st out a).2.2.2 = true) (h2 : (closesF st out a).1 = []) : downF l nx (f + 1) st out a = ([], (closesF st out a).2.1, (closesF st out a).2.2.1, 0) := by
  rw [downF, if_neg (by simp [h])]
  simp only [h2]
theorem down_sym {l : List gramL.Prod} {nx : Int → Int} {f : Nat} {st : List TD} {out : List Sym} {a : Nat} {x : Sym} {r : List TD} (h : (closesF st out a).2.2.2 = true) (h2 : (closesF st out a).1 = .sym x :: r) :
    downF l nx (f + 1) st out a = if x.1 = 1 then (.sym x :: r, (closesF st out a).2.1, (closesF st out a).2.2.1, 0) else if nx x.2 < 0 then (.sym x :: r, (closesF st out a).2.1, (closesF st out a).2.2.1, 13)
      else if (closesF st out a).2.2.1 + 1 ≤ 2000 ∧ (opened l (nx x.2) r).length ≤ 60 then downF l nx f (opened l (nx x.2) r) ((closesF st out a).2.1 ++ [(1, nx x.2)]) ((closesF st out a).2.2.1 + 1)
      else (opened l (nx x.2) r, (closesF st out a).2.1 ++ [(1, nx x.2)], (closesF st out a).2.2.1 + 1, 14) := by
  rw [downF, if_neg (by simp [h])]
  simp only [h2]
def dwS (gw : Nat) (t n : Int) (vp : Value) (R : List TD × List Sym × Nat × Int) : Spec (Value × Value) := ⟨fun _ => True, fun _ => .int .i64 R.2.2.2, fun x => [cwO gw t n vp x.1 x.2 R.2.2.1, tdO x.1 R.1, evO x.2 R.2.1]⟩
set_option maxHeartbeats 4000000 in
theorem wdown_calls (w0 : World) (gw : Nat) (t n : Int) (vp vr : Value) (g : Gram) (ll : List (List Int)) (T N col : Nat) (hG : SlF prodS (fun k => k < w0.heap.size) w0 vp g.prods) (hR : RowsR w0 vr ll) (hg : checkG g = 0) (hT : TabOk g ll T N) (hcol : col ≤ T)
    (vt0 vo0 : Value) (st0 : List TD) (w : World) (B : Base) (hs0 : ∀ d ∈ st0, okTD g d) (hl0 : st0.length ≤ 60) (ho : Old w0 B) (hm : Mem B [cwO gw t n vp vt0 vo0 0, tdO vt0 st0, evO vo0 []] w) :
    Calls Try.prog 95 #[.pointer (some ⟨gw, 0, none⟩), vr, .int .i64 (col : Int)] w (MeetsB (dwS gw t n vp (downF g.prods (nxL ll col) 2001 st0 [] 0)) B) := by
  obtain ⟨a1, a2, a3, a4, a5, a6⟩ := checkG_ok hg
  have hopen := fun p hp vt vo d r out acts w B h1 h2 h3 ho hm => open_calls w0 gw t n vp g.prods hG (by omega) p hp (a6 _ (List.getElem_mem hp)).1 vt vo d r out acts w B h1 h2 h3 ho hm
  have hnx := hT.nx col
  obtain ⟨br, cr, rfl, hr1, hr2, hr3⟩ := hR
  unfold maxLen at hr2
  refine enterB hm (args := [.pointer (some ⟨gw, 0, none⟩), .slice br ll.length cr, .int .i64 (col : Int)]) (n := 60) Try.func95 rfl rfl rfl ?_
  clear hm
  repeat(first|refine QV QP ?_|refine QZ ?_|refine qcT rfl ?_|refine qcF rfl ?_|refine qs rfl rfl rfl rfl rfl rfl ?_|((try refine qg rfl rfl rfl ?_);first|refine QV QP ?_|refine QV QL ?_|refine QV QA ?_|refine QV (rr_not rfl rfl) ?_|refine QV (rr_nilc rfl) ?_|refine QV QlT ?_|refine QV QlF ?_|refine QV QeT ?_|refine QV QeF ?_|refine QV QaS ?_))
  generalize hD : downF g.prods (nxL ll col) 2001 st0 [] 0 = D
  refine T_loop (ι := Nat × List TD × List Sym × Nat × Value × Value) (fun (f, st, out, acts, _, _) => downF g.prods (nxL ll col) f st out acts = D ∧ 2001 ≤ f + acts ∧ st.length ≤ 60 ∧ acts ≤ 2000 ∧ out.length = acts ∧ ∀ d ∈ st, okTD g d) (fun _ => [(0, .pointer (some ⟨gw, 0, none⟩)), (1, .slice br ll.length cr), (2, .int .i64 (col : Int))])
    (fun (_, st, out, acts, vt, vo) => [cwO gw t n vp vt vo acts, tdO vt st, evO vo out]) (fun (f, _, _, _, _, _) => f) (2001, st0, [], 0, vt0, vo0) ⟨hD, by omega, hl0, by omega, rfl, hs0⟩ (by repeat' (first | exact True.intro | refine And.intro rfl ?_)) rfl ?_
  clear hD hs0 hl0
  rintro ⟨f, st, out, acts, vt, vo⟩ ⟨hD, h1, h2, h3, h4, h5⟩
  dsimp only at hD h1 h2 h3 h4 h5 ⊢
  obtain ⟨f, rfl⟩ : ∃ f', f = f' + 1 := ⟨f - 1, by omega⟩
  repeat(first|refine QV QP ?_|refine QZ ?_|refine qcT rfl ?_|refine qcF rfl ?_|refine qs rfl rfl rfl rfl rfl rfl ?_|((try refine qg rfl rfl rfl ?_);first|refine QV QP ?_|refine QV QL ?_|refine QV QA ?_|refine QV (rr_not rfl rfl) ?_|refine QV (rr_nilc rfl) ?_|refine QV QlT ?_|refine QV QlF ?_|refine QV QeT ?_|refine QV QeF ?_|refine QV QaS ?_))
  refine TL_callB [0, 1, 2] [] (by decide) rfl rfl (he1 EntersC.en rfl rfl) (fun w hm hb => workCloses_calls gw t n vp vt vo st out acts w _ (by omega) h3 h4 hb) rfl rfl rfl ?_
  obtain ⟨z1, z2, z3, z4⟩ := @closes_len st out acts
  have z5 := closes_ok (out := out) (a := acts) h5
  rintro ⟨vt1, vo1⟩ _
  conv=>arg 8;simp only[zA,zB,zC,zD,zE,zF,zG,zH,zI,rowS,ret,id_eq, clS, List.nil_append]
  have hno := @down_no1 g.prods (nxL ll col) f st out acts
  have hnil := @down_nil g.prods (nxL ll col) f st out acts
  have hsym := fun x r => @down_sym g.prods (nxL ll col) f st out acts x r
  have htop := @closes_top st out acts
  generalize closesF st out acts = C at *
  obtain ⟨st1, out1, a1', ok⟩ := C
  dsimp only at *
  cases ok with
  | false =>
    rw [hno rfl] at hD
    subst hD
    repeat(first|refine QV QP ?_|refine QZ ?_|refine qcT rfl ?_|refine qcF rfl ?_|refine qs rfl rfl rfl rfl rfl rfl ?_|((try refine qg rfl rfl rfl ?_);first|refine QV QP ?_|refine QV QL ?_|refine QV QA ?_|refine QV (rr_not rfl rfl) ?_|refine QV (rr_nilc rfl) ?_|refine QV QlT ?_|refine QV QlF ?_|refine QV QeT ?_|refine QV QeF ?_|refine QV QaS ?_))
    exact E_ret1 rfl rfl fun w hm => hm.meetsB (S := dwS gw t n vp (st1, out1, a1', 14)) (vt1, vo1) trivial [0, 1, 2] (by decide) rfl
  | true =>
    have zz3 := z3 rfl h3
    clear z3
    rcases htop rfl with rfl | ⟨x, r, rfl⟩
    · rw [hnil rfl rfl] at hD
      subst hD
      repeat(first|refine QV QP ?_|refine QZ ?_|refine qcT rfl ?_|refine qcF rfl ?_|refine qs rfl rfl rfl rfl rfl rfl ?_|((try refine qg rfl rfl rfl ?_);first|refine QV QP ?_|refine QV QL ?_|refine QV QA ?_|refine QV (rr_not rfl rfl) ?_|refine QV (rr_nilc rfl) ?_|refine QV QlT ?_|refine QV QlF ?_|refine QV QeT ?_|refine QV QeF ?_|refine QV QaS ?_))
      refine T_ord ([cwO gw t n vp vt1 vo1 a1', tdO vt1 []]) (.calm 0 (.calm 1 (.calm 2 (.calm 3 (.calm 4 (.calm 5 (.calm 6 (.calm 7 (.calm 8 (.calm 9 (.calm 10 (.calm 11 (.calm 12 (.calm 13 (.calm 14 (.calm 15 (.calm 16 (.calm 17 (.calm 18 (.calm 19 (.calm 20 (.calm 21 (.calm 22 (.done)))))))))))))))))))))))) (sub_pick [0, 1] (by decide) rfl) (by kernel_rfl) (by kernel_rfl) (by intro c a d v w h; cases d <;> exact h) ?_
      repeat(first|((first|refine TW_plain rfl rfl ?_|refine TW_gmet rfl rfl rfl rfl ?_);first|refine QW QP ?_|refine QW (rr_load1 (v := vt1) TyC.ty rfl (at_blk (i := 0) rfl rfl)) ?_|refine QW (rr_rowlen (i := 1) Und.eq rfl rfl) ?_|refine QW (rr_eql (b := true) rfl rfl rfl) ?_|refine QW QL ?_|refine QW QA ?_|refine QW (rr_not rfl rfl) ?_|refine QW (rr_nilc rfl) ?_|refine QW QlT ?_|refine QW QlF ?_|refine QW QeT ?_|refine QW QeF ?_|refine QW QaS ?_)|refine TW_skip rfl rfl rfl rfl rfl rfl rfl ?_|refine TW_done ?_)
      repeat(first|refine QV QP ?_|refine QZ ?_|refine qcT rfl ?_|refine qcF rfl ?_|refine qs rfl rfl rfl rfl rfl rfl ?_|((try refine qg rfl rfl rfl ?_);first|refine QV QP ?_|refine QV QL ?_|refine QV QA ?_|refine QV (rr_not rfl rfl) ?_|refine QV (rr_nilc rfl) ?_|refine QV QlT ?_|refine QV QlF ?_|refine QV QeT ?_|refine QV QeF ?_|refine QV QaS ?_))
      exact E_ret1 rfl rfl fun w hm => hm.meetsB (S := dwS gw t n vp ([], out1, a1', 0)) (vt1, vo1) trivial [0, 1, 2] (by decide) rfl
    · have hsy := hsym x r rfl rfl
      simp only [List.length_cons] at z1
      have z6 : right g.terms g.nons x = true := z5 _ (List.mem_cons_self ..)
      have z7 := fun d hd => z5 d (List.mem_cons_of_mem _ hd)
      clear hno hnil htop hsym
      repeat(first|refine QV QP ?_|refine QZ ?_|refine qcT rfl ?_|refine qcF rfl ?_|refine qs rfl rfl rfl rfl rfl rfl ?_|((try refine qg rfl rfl rfl ?_);first|refine QV QP ?_|refine QV QL ?_|refine QV QA ?_|refine QV (rr_not rfl rfl) ?_|refine QV (rr_nilc rfl) ?_|refine QV QlT ?_|refine QV QlF ?_|refine QV QeT ?_|refine QV QeF ?_|refine QV QaS ?_))
      refine T_rowN (i := 1) rfl (by simp) fun gt ct hv q1 q2 => ?_
      subst hv
      simp only [List.length_cons] at *
      obtain ⟨k, m⟩ := x
      by_cases c1 : k = 1
      · subst c1
        rw [if_pos rfl] at hsy
        rw [hsy] at hD
        subst hD
        refine T_ord ([cwO gw t n vp (.slice (some ⟨gt, 0, none⟩) (r.length + 1) ct) vo1 a1', tdO (.slice (some ⟨gt, 0, none⟩) (r.length + 1) ct) (.sym (1, m) :: r)]) (.calm 0 (.calm 1 (.calm 2 (.calm 3 (.calm 4 (.calm 5 (.calm 6 (.calm 7 (.calm 8 (.calm 9 (.calm 10 (.calm 11 (.calm 12 (.calm 13 (.calm 14 (.calm 15 (.calm 16 (.calm 17 (.calm 18 (.calm 19 (.calm 20 (.calm 21 (.calm 22 (.done)))))))))))))))))))))))) (sub_pick [0, 1] (by decide) rfl) (by kernel_rfl) (by kernel_rfl) (by intro c a d v w h; cases d <;> exact h) ?_
        repeat(first|((first|refine TW_plain rfl rfl ?_|refine TW_gmet rfl rfl rfl rfl ?_);first|refine QW QP ?_|refine QW (rr_load1 (v := .slice (some ⟨gt, 0, none⟩) (r.length + 1) ct) TyC.ty rfl (at_blk (i := 0) rfl rfl)) ?_|refine QW (rr_sub64 (r := (r.length : Int)) rfl rfl (by omega) (by omega) (by omega)) ?_|refine QW (rr_idxc (j := r.length) Und.eq TyC.ty rfl rfl (by omega)) ?_|refine QW (rr_load1 (v := .int .i64 1) TyC.ty rfl (td_at (i := 1) rfl 2 _ rfl)) ?_|refine QW (rr_eql (b := false) rfl rfl (decide_eq_false (by omega))) ?_|refine QW (rr_eql (b := true) rfl rfl rfl) ?_|refine QW QL ?_|refine QW QA ?_|refine QW (rr_not rfl rfl) ?_|refine QW (rr_nilc rfl) ?_|refine QW QlT ?_|refine QW QlF ?_|refine QW QeT ?_|refine QW QeF ?_|refine QW QaS ?_)|refine TW_skip rfl rfl rfl rfl rfl rfl rfl ?_|refine TW_done ?_)
        repeat(first|refine QV QP ?_|refine QZ ?_|refine qcT rfl ?_|refine qcF rfl ?_|refine qs rfl rfl rfl rfl rfl rfl ?_|((try refine qg rfl rfl rfl ?_);first|refine QV QP ?_|refine QV QL ?_|refine QV QA ?_|refine QV (rr_not rfl rfl) ?_|refine QV (rr_nilc rfl) ?_|refine QV QlT ?_|refine QV QlF ?_|refine QV QeT ?_|refine QV QeF ?_|refine QV QaS ?_))
        exact E_ret1 rfl rfl fun w hm => hm.meetsB (S := dwS gw t n vp (.sym (1, m) :: r, out1, a1', 0)) (_, vo1) trivial [0, 1, 2] (by decide) rfl
      · rw [if_neg c1] at hsy
        unfold right at z6
        dsimp only at z6
        rw [if_neg c1] at z6
        by_cases c2 : k = 2
        · subst c2
          rw [if_pos rfl] at z6
          simp only [Bool.and_eq_true, decide_eq_true_eq] at z6
          obtain ⟨q, rfl⟩ : ∃ q : Nat, m = q := ⟨m.toNat, by omega⟩
          have hq : q < ll.length := by rw [hT.len]; have := hT.nons; omega
          obtain ⟨b, off, rfl, _, hrd⟩ := hr3 (by omega)
          obtain ⟨vi, y1, y2⟩ := rows_at hrd hq
          have hrl := hT.row _ (List.getElem_mem hq)
          have hnxq : nxL ll col (q : Int) = ll[q].getD col (-1) := by unfold nxL; rw [Int.toNat_natCast, List.getD_eq_getElem?_getD (l := ll), List.getElem?_eq_getElem hq]; rfl
          have hok := hnx (q : Int)
          rw [hnxq] at hok
          dsimp only at hsy
          rw [hnxq] at hsy
          generalize ll[q] = row at *
          obtain ⟨bi, ci, rfl, w1, w2, w3⟩ := y2
          obtain ⟨b3, off3, rfl, hrd3⟩ := w3 (by omega)
          have hc : row[col]? = some (row.getD col (-1)) := by rw [List.getD_eq_getElem?_getD, List.getElem?_eq_getElem (by omega)]; rfl
          have hat1 : ∀ L, At B L ⟨b, off + q, none⟩ (.slice (some ⟨b3, off3, none⟩) row.length ci) := fun L => at_old0 ho y1
          have hat2 : ∀ L, At B L ⟨b3, off3 + col, none⟩ (.int .i64 (row.getD col (-1))) := fun L => at_old0 ho (hrd3 col _ (by rw [List.getElem?_map, hc]; rfl))
          clear hrd y1 hrd3 w3 hr3
          generalize row.getD col (-1) = p at *
          refine T_ord ([cwO gw t n vp (.slice (some ⟨gt, 0, none⟩) (r.length + 1) ct) vo1 a1', tdO (.slice (some ⟨gt, 0, none⟩) (r.length + 1) ct) (.sym (2, (q : Int)) :: r)]) (.calm 0 (.calm 1 (.calm 2 (.calm 3 (.calm 4 (.calm 5 (.calm 6 (.calm 7 (.calm 8 (.calm 9 (.calm 10 (.calm 11 (.calm 12 (.calm 13 (.calm 14 (.calm 15 (.calm 16 (.calm 17 (.calm 18 (.calm 19 (.calm 20 (.calm 21 (.calm 22 (.done)))))))))))))))))))))))) (sub_pick [0, 1] (by decide) rfl) (by kernel_rfl) (by kernel_rfl) (by intro c a d v w h; cases d <;> exact h) ?_
          repeat(first|((first|refine TW_plain rfl rfl ?_|refine TW_gmet rfl rfl rfl rfl ?_);first|refine QW QP ?_|refine QW (rr_load1 (v := .slice (some ⟨gt, 0, none⟩) (r.length + 1) ct) TyC.ty rfl (at_blk (i := 0) rfl rfl)) ?_|refine QW (rr_sub64 (r := (r.length : Int)) rfl rfl (by omega) (by omega) (by omega)) ?_|refine QW (rr_idxc (j := r.length) Und.eq TyC.ty rfl rfl (by omega)) ?_|refine QW (rr_load1 (v := .int .i64 2) TyC.ty rfl (td_at (i := 1) rfl 2 _ rfl)) ?_|refine QW (rr_eql (b := false) rfl rfl (decide_eq_false (by omega))) ?_|refine QW QL ?_|refine QW QA ?_|refine QW (rr_not rfl rfl) ?_|refine QW (rr_nilc rfl) ?_|refine QW QlT ?_|refine QW QlF ?_|refine QW QeT ?_|refine QW QeF ?_|refine QW QaS ?_)|refine TW_skip rfl rfl rfl rfl rfl rfl rfl ?_|refine TW_done ?_)
          repeat(first|refine QV QP ?_|refine QZ ?_|refine qcT rfl ?_|refine qcF rfl ?_|refine qs rfl rfl rfl rfl rfl rfl ?_|((try refine qg rfl rfl rfl ?_);first|refine QV QP ?_|refine QV QL ?_|refine QV QA ?_|refine QV (rr_not rfl rfl) ?_|refine QV (rr_nilc rfl) ?_|refine QV QlT ?_|refine QV QlF ?_|refine QV QeT ?_|refine QV QeF ?_|refine QV QaS ?_))
          refine T_ord ([cwO gw t n vp (.slice (some ⟨gt, 0, none⟩) (r.length + 1) ct) vo1 a1', tdO (.slice (some ⟨gt, 0, none⟩) (r.length + 1) ct) (.sym (2, (q : Int)) :: r)]) (.calm 0 (.calm 1 (.calm 2 (.calm 3 (.calm 4 (.calm 5 (.calm 6 (.calm 7 (.calm 8 (.calm 9 (.calm 10 (.calm 11 (.calm 12 (.calm 13 (.calm 14 (.calm 15 (.calm 16 (.calm 17 (.calm 18 (.calm 19 (.calm 20 (.done)))))))))))))))))))))) (sub_pick [0, 1] (by decide) rfl) (by kernel_rfl) (by kernel_rfl) (by intro c a d v w h; cases d <;> exact h) ?_
          repeat(first|((first|refine TW_plain rfl rfl ?_|refine TW_gmet rfl rfl rfl rfl ?_);first|refine QW QP ?_|refine QW (rr_load1 (v := .slice (some ⟨gt, 0, none⟩) (r.length + 1) ct) TyC.ty rfl (at_blk (i := 0) rfl rfl)) ?_|refine QW (rr_sub64 (r := (r.length : Int)) rfl rfl (by omega) (by omega) (by omega)) ?_|refine QW (rr_idxc (j := r.length) Und.eq TyC.ty rfl rfl (by omega)) ?_|refine QW (rr_load1 (v := .int .i64 (q : Int)) TyC.ty rfl (td_at (i := 1) rfl 3 _ rfl)) ?_|refine QW (rr_idx1 (j := q) Und.eq TyC.ty rfl rfl hq) ?_|refine QW (rr_load1 TyC.ty rfl (hat1 _)) ?_|refine QW (rr_idx1 (j := col) Und.eq TyC.ty rfl rfl (by omega)) ?_|refine QW (rr_load1 TyC.ty rfl (hat2 _)) ?_|refine QW QL ?_|refine QW QA ?_|refine QW (rr_not rfl rfl) ?_|refine QW (rr_nilc rfl) ?_|refine QW QlT ?_|refine QW QlF ?_|refine QW QeT ?_|refine QW QeF ?_|refine QW QaS ?_)|refine TW_skip rfl rfl rfl rfl rfl rfl rfl ?_|refine TW_done ?_)
          by_cases c3 : p < 0
          · rw [if_pos c3] at hsy
            rw [hsy] at hD
            subst hD
            repeat(first|refine QV QP ?_|refine QZ ?_|refine qcT rfl ?_|refine qcF rfl ?_|refine qs rfl rfl rfl rfl rfl rfl ?_|((try refine qg rfl rfl rfl ?_);first|refine QV QP ?_|refine QV QL ?_|refine QV QA ?_|refine QV (rr_not rfl rfl) ?_|refine QV (rr_nilc rfl) ?_|refine QV QlT ?_|refine QV QlF ?_|refine QV QeT ?_|refine QV QeF ?_|refine QV QaS ?_))
            exact E_ret1 rfl rfl fun w hm => hm.meetsB (S := dwS gw t n vp (.sym (2, (q : Int)) :: r, out1, a1', 13)) (_, vo1) trivial [0, 1, 2] (by decide) rfl
          · rw [if_neg c3] at hsy
            obtain ⟨pn, rfl⟩ : ∃ pn : Nat, p = pn := ⟨p.toNat, by omega⟩
            have hpn : pn < g.prods.length := by have := (hok (by omega)).1; omega
            have hop := hopen pn hpn
            have hoo := opened_ok hg (p := (pn : Int)) (by omega) (by omega) z7
            repeat(first|refine QV QP ?_|refine QZ ?_|refine qcT rfl ?_|refine qcF rfl ?_|refine qs rfl rfl rfl rfl rfl rfl ?_|((try refine qg rfl rfl rfl ?_);first|refine QV QP ?_|refine QV QL ?_|refine QV QA ?_|refine QV (rr_not rfl rfl) ?_|refine QV (rr_nilc rfl) ?_|refine QV QlT ?_|refine QV QlF ?_|refine QV QeT ?_|refine QV QeF ?_|refine QV QaS ?_))
            refine TL_callB [0, 1, 2] [] (by decide) rfl rfl (he2 EntersC.en rfl rfl rfl) (fun w hm hb => hop _ vo1 (.sym (2, (q : Int))) r out1 a1' w _ (by omega) zz3 (by omega) (ho.on hm fun o h => pick_mem h) hb) rfl rfl rfl ?_
            rintro ⟨vt2, vo2⟩ _
            conv=>arg 8;simp only[zA,zB,zC,zD,zE,zF,zG,zH,zI,rowS,ret,id_eq, opS, List.nil_append]
            conv => arg 7; simp only [opS]
            have hlo : (opened g.prods (pn : Int) r).length = (opened g.prods (pn : Int) r).length := rfl
            generalize hst2 : opened g.prods (pn : Int) r = st2 at *
            by_cases c4 : a1' + 1 ≤ 2000 ∧ st2.length ≤ 60
            · rw [if_pos c4] at hsy
              rw [hsy] at hD
              rw [decide_eq_true c4]
              repeat(first|refine QV QP ?_|refine QZ ?_|refine qcT rfl ?_|refine qcF rfl ?_|refine qs rfl rfl rfl rfl rfl rfl ?_|((try refine qg rfl rfl rfl ?_);first|refine QV QP ?_|refine QV QL ?_|refine QV QA ?_|refine QV (rr_not rfl rfl) ?_|refine QV (rr_nilc rfl) ?_|refine QV QlT ?_|refine QV QlF ?_|refine QV QeT ?_|refine QV QeF ?_|refine QV QaS ?_))
              refine E_pick [0, 1, 2] (by decide) rfl ?_
              exact E_round (f, st2, out1 ++ [(1, (pn : Int))], a1' + 1, vt2, vo2) ⟨hD, (by show 2001 ≤ f + (a1' + 1); omega), c4.2, c4.1, (by show (out1 ++ [(1, (pn : Int))]).length = a1' + 1; simp; omega), hoo⟩ (by show f < f + 1; omega) (by repeat' (first | exact True.intro | refine And.intro rfl ?_)) rfl
            · rw [if_neg c4] at hsy
              rw [hsy] at hD
              subst hD
              rw [decide_eq_false c4]
              repeat(first|refine QV QP ?_|refine QZ ?_|refine qcT rfl ?_|refine qcF rfl ?_|refine qs rfl rfl rfl rfl rfl rfl ?_|((try refine qg rfl rfl rfl ?_);first|refine QV QP ?_|refine QV QL ?_|refine QV QA ?_|refine QV (rr_not rfl rfl) ?_|refine QV (rr_nilc rfl) ?_|refine QV QlT ?_|refine QV QlF ?_|refine QV QeT ?_|refine QV QeF ?_|refine QV QaS ?_))
              exact E_ret1 rfl rfl fun w hm => hm.meetsB (S := dwS gw t n vp (st2, out1 ++ [(1, (pn : Int))], a1' + 1, 14)) (vt2, vo2) trivial [0, 1, 2] (by decide) rfl
        · rw [if_neg c2] at z6; cases z6
end Go.Proofs.Ytlojfbnimmdehaa.eng

/- ClimbD -/
namespace Go.Proofs.Ytlojfbnimmdehaa.eng
open Go.RowKit kit mix gramL treeL climbL
theorem build_sy2 (w : World) : (Instr.build 71 #[(0, .int .i64 2)]).run Try.prog w = .ok (.agg (symC (2, 0)).toArray) w := by
  unfold symC; go_simp
theorem build_cl0 (g : Nat) (w : World) : (Instr.build 134 #[(0, .slice (some ⟨g, 0, none⟩) 1 1)]).run Try.prog w = .ok (clV (.slice (some ⟨g, 0, none⟩) 1 1) 0 0 false) w := by
  unfold clV; go_simp
def beginCS : Spec Value := ⟨fun _ => True, fun vt => clV vt 0 0 false, fun vt => [tdO vt [.sym (2, 0)]]⟩
set_option maxRecDepth 100000 in
theorem climbBegin_calls (w : World) : Calls Try.prog 61 #[] w (Meets beginCS w) := by
  refine enter (args := []) (n := 5) Try.func61 rfl rfl rfl ?_
  refine T_seq (T_region (TL_new rfl fun g2 => ?_))
  conv=>arg 8;simp only[zA,zB,zC,zD,zE,zF,zG,zH,zI,rowS,ret,id_eq]
  repeat(first|refine QZ ?_|refine QV (rr_build rfl build_sy2) ?_|refine QV (rr_build rfl (build_tdS (2, 0))) ?_)
  refine TL_litN (cs := (tdC (.sym (2, 0))).toArray) [tdV (.sym (2, 0))] rfl rfl rfl (by intro v hv; simp at hv; subst hv; rfl) rfl rfl rfl fun g3 => ?_
  conv=>arg 8;simp only[zA,zB,zC,zD,zE,zF,zG,zH,zI,rowS,ret,id_eq]
  repeat(first|refine QZ ?_|refine QV (rr_build rfl (build_cl0 _)) ?_)
  refine TL_storeB (i := 0) (cs' := #[.slice (some ⟨g3, 0, none⟩) 1 1, .int .i64 0, .int .i64 0, .bool false]) rfl rfl rfl rfl rfl rfl ?_
  conv=>arg 8;simp only[zA,zB,zC,zD,zE,zF,zG,zH,zI,rowS,ret,id_eq]
  refine TL_toRow (i := 1) 4 rfl rfl (by omega) ?_
  conv=>arg 8;simp only[zA,zB,zC,zD,zE,zF,zG,zH,zI,rowS,ret,id_eq]
  repeat(first|refine QZ ?_)
  exact E_retc1 (i := 0) rfl rfl rfl rfl fun w hm => hm.meets (S := beginCS) (.slice (some ⟨g3, 0, none⟩) 1 1) trivial [1] (by decide) rfl
theorem build_cw (t n : Int) (bp : Option Addr) (mp cp : Nat) (bt : Option Addr) (mt ct : Nat) (w : World) : (Instr.build 186 #[(0, graV t n (.slice bp mp cp)), (1, .slice bt mt ct)]).run Try.prog w = .ok (.agg (cwV t n (.slice bp mp cp) (.slice bt mt ct) (.slice none 0 0) 0)) w := by
  unfold graV cwV; go_simp
def begunS (t n : Int) (vp : Value) (st : List TD) : Spec (Nat × Value) := ⟨fun _ => True, fun x => .pointer (some ⟨x.1, 0, none⟩), fun x => [cwO x.1 t n vp x.2 (.slice none 0 0) 0, tdO x.2 st]⟩
set_option maxHeartbeats 2000000 in
theorem begun_calls (t n : Int) (vp vt : Value) (st : List TD) (seen over : Int) (done : Bool) (w : World) (ht : TdR w vt st) (hl : st.length ≤ 60) (hvp : ∃ b m c, vp = .slice b m c) :
    Calls Try.prog 94 #[graV t n vp, clV vt seen over done] w (Meets (begunS t n vp st) w) := by
  have hcl := fun w' (hg : Gr w w') => cloneTdS_calls vt st.reverse w' (by rw [List.length_reverse]; exact ht.gr hg) (by rw [List.length_reverse]; omega)
  rw [List.length_reverse] at hcl
  obtain ⟨bp, mp, cp, rfl⟩ := hvp
  refine enter (args := [graV t n (.slice bp mp cp), clV vt seen over done]) (n := 11) Try.func94 rfl rfl rfl ?_
  refine T_seq (T_region (TL_box rfl rfl rfl fun g0 => TL_box rfl rfl rfl fun g1 => ?_))
  conv=>arg 8;simp only[zA,zB,zC,zD,zE,zF,zG,zH,zI,rowS,ret,id_eq]
  repeat(first|refine QV QP ?_|refine QZ ?_|refine QV QA ?_)
  refine T_ord ([blkO g0 (graV t n (.slice bp mp cp)).cells 24, blkO g1 (clV vt seen over done).cells 134]) (.calm 0 (.calm 1 (.calm 2 (.one 3 (.calm 4 (.one 5 (.calm 6 (.done)))))))) (fun _ h => h) (by kernel_rfl) (by kernel_rfl) (by intro c a d v w h; cases d <;> exact h) ?_
  repeat(first|((first|refine TW_plain rfl rfl ?_|refine TW_gmet rfl rfl rfl rfl ?_);first|refine QW QP ?_|refine QW (rr_loadB (i := 0) TyC.ty rfl rfl rfl) ?_|refine QW (rr_load1 (v := vt) TyC.ty rfl (at_blk (i := 1) rfl rfl)) ?_|refine QW QA ?_)|refine TW_done ?_)
  refine TW_one rfl ?_
  refine TL_call (he1 EntersC.en rfl rfl) (fun w hm => hcl _ hm.below) rfl rfl rfl ?_
  intro vt' _
  conv=>arg 8;simp only[zA,zB,zC,zD,zE,zF,zG,zH,zI,rowS,ret,id_eq]
  refine TL_rowv (i := 2) rfl fun bt ct hv q1 q2 => ?_
  subst hv
  refine TW_on (sub_pick [0, 1] (by decide) rfl) ?_
  repeat(first|((first|refine TW_plain rfl rfl ?_|refine TW_gmet rfl rfl rfl rfl ?_);first|refine QW QP ?_|refine QW (rr_build rfl (build_cw _ _ _ _ _ _ _ _)) ?_|refine QW QA ?_)|refine TW_done ?_)
  refine TW_one rfl (TL_box rfl rfl rfl fun g2 => ?_)
  conv=>arg 8;simp only[zA,zB,zC,zD,zE,zF,zG,zH,zI,rowS,ret,id_eq]
  refine TW_on (sub_pick [0, 1] (by decide) rfl) ?_
  repeat(first|((first|refine TW_plain rfl rfl ?_|refine TW_gmet rfl rfl rfl rfl ?_);first|refine QW QP ?_|refine QW QA ?_)|refine TW_done ?_)
  repeat(first|refine QV QP ?_|refine QZ ?_|refine QV QA ?_)
  exact E_ret1 rfl rfl fun w hm => hm.meets (S := begunS t n (.slice bp mp cp) st) (g2, .slice bt st.length ct) trivial [3, 2] (by decide) rfl
theorem push_bad {l : List gramL.Prod} {nx : Int → Int} {st : List TD} {seen : Nat} {t : Int} {st1 : List TD} {out1 : List Sym} {a1 : Nat} {e : Int} (hD : downF l nx 2001 st [] 0 = (st1, out1, a1, e)) (he : e ≠ 0) : pushF l nx st seen t = (e, [], []) := by
  unfold pushF; rw [hD]; dsimp only; rw [if_pos he]
theorem push_nil {l : List gramL.Prod} {nx : Int → Int} {st : List TD} {seen : Nat} {t : Int} {out1 : List Sym} {a1 : Nat} (hD : downF l nx 2001 st [] 0 = ([], out1, a1, 0)) : pushF l nx st seen t = (13, [], []) := by
  unfold pushF; rw [hD]; dsimp only; rw [if_neg (by decide)]
theorem push_sym {l : List gramL.Prod} {nx : Int → Int} {st : List TD} {seen : Nat} {t : Int} {x : Sym} {r : List TD} {out1 : List Sym} {a1 : Nat} (hD : downF l nx 2001 st [] 0 = (.sym x :: r, out1, a1, 0)) : pushF l nx st seen t = if x.2 ≠ t then (13, [], []) else if a1 + 1 ≤ 2000 ∧ (closesF r (out1 ++ [(2, (seen : Int))]) (a1 + 1)).2.2.2 = true then (0, (closesF r (out1 ++ [(2, (seen : Int))]) (a1 + 1)).1, (closesF r (out1 ++ [(2, (seen : Int))]) (a1 + 1)).2.1) else (14, [], []) := by
  unfold pushF; rw [hD]; dsimp only; rw [if_neg (by decide)]
theorem end_bad {l : List gramL.Prod} {nx : Int → Int} {st : List TD} {st1 : List TD} {out1 : List Sym} {a1 : Nat} {e : Int} (hD : downF l nx 2001 st [] 0 = (st1, out1, a1, e)) (he : e ≠ 0) : endF l nx st = (e, []) := by
  unfold endF; rw [hD]; dsimp only; rw [if_pos he]
theorem end_nil {l : List gramL.Prod} {nx : Int → Int} {st : List TD} {out1 : List Sym} {a1 : Nat} (hD : downF l nx 2001 st [] 0 = ([], out1, a1, 0)) : endF l nx st = (0, out1) := by
  unfold endF; rw [hD]; dsimp only; rw [if_neg (by decide)]
theorem end_sym {l : List gramL.Prod} {nx : Int → Int} {st : List TD} {x : Sym} {r : List TD} {out1 : List Sym} {a1 : Nat} (hD : downF l nx 2001 st [] 0 = (.sym x :: r, out1, a1, 0)) : endF l nx st = (13, []) := by
  unfold endF; rw [hD]; dsimp only; rw [if_neg (by decide)]
/-- a push's answer -/
def pushS (seen : Int) (R : Int × List TD × List Sym) : Spec (Value × Value) :=
  ⟨fun _ => True, fun x => if R.1 = 0 then .tuple #[clV x.1 (seen + 1) 0 false, x.2, .int .i64 0] else .tuple #[clV (.slice none 0 0) seen R.1 false, .slice none 0 0, .int .i64 R.1], fun x => if R.1 = 0 then [tdO x.1 R.2.1, evO x.2 R.2.2] else []⟩
theorem build_clE (seen e : Int) (w : World) : (Instr.build 134 #[(1, .int .i64 seen), (2, .int .i64 e)]).run Try.prog w = .ok (clV (.slice none 0 0) seen e false) w := by
  unfold clV; go_simp
theorem build_clN (b : Option Addr) (m c : Nat) (seen : Int) (w : World) : (Instr.build 134 #[(0, .slice b m c), (1, .int .i64 seen)]).run Try.prog w = .ok (clV (.slice b m c) seen 0 false) w := by
  unfold clV; go_simp
set_option maxHeartbeats 4000000 in
theorem climbPush_calls (v vr vt : Value) (g : Gram) (ll : List (List Int)) (T N : Nat) (st : List TD) (seen t : Nat) (w : World) (h : GraR (fun k => k < w.heap.size) w v g) (hr : RowsR w vr ll) (ht : TdR w vt st) (h0 : chkL g ll = 0) (hg : checkG g = 0) (hT : TabOk g ll T N) (hs : ∀ d ∈ st, okTD g d) (hl : st.length ≤ 60) (h1 : seen ≤ 1000000) (h2 : t < T) :
    Calls Try.prog 62 #[v, vr, clV vt (seen : Int) 0 false, .int .i64 (t : Int)] w (Meets (pushS (seen : Int) (pushF g.prods (nxL ll t) st seen (t : Int))) w) := by
  have hck := fun w' (hg' : Gr w w') => climbCheck_calls v vr vt g ll st (seen : Int) (t : Int) w' (h.gr hg') (hr.gr hg') (ht.gr hg') h0 hs hl (by omega) (by omega) (by omega) (by have := hT.terms; omega)
  have hterm := hT.terms
  obtain ⟨vp, rfl, hp, _⟩ := h
  have hbg := fun w' (hg' : Gr w w') => begun_calls g.terms g.nons vp vt st (seen : Int) 0 false w' (ht.gr hg') hl (by obtain ⟨b, c, e, _⟩ := hp; exact ⟨b, _, c, e⟩)
  have hdw := fun gw vt0 vo0 w' B ho hm => wdown_calls w gw g.terms g.nons vp vr g ll T N t hp hr hg hT (by omega) vt0 vo0 st w' B hs hl ho hm
  have hdl := fun R => @down_len g.prods (nxL ll t) 2001 st [] 0 R
  have hdt := fun R => @down_top g.prods (nxL ll t) 2001 st [] 0 R
  have hde := @down_err g.prods (nxL ll t) 2001 st [] 0
  generalize hD : downF g.prods (nxL ll t) 2001 st [] 0 = D at *
  obtain ⟨st1, out1, a1, e⟩ := D
  have hdl := fun h => hdl _ rfl h hl (by omega)
  have hdt := fun h => hdt _ rfl h
  dsimp only at *
  refine enter (args := [graV g.terms g.nons vp, vr, clV vt (seen : Int) 0 false, .int .i64 (t : Int)]) (n := 96) Try.func62 rfl rfl rfl ?_
  refine T_seq (T_region (TL_box rfl rfl rfl fun g0 => TL_box rfl rfl rfl fun g1 => TL_new rfl fun g2 => ?_))
  conv=>arg 8;simp only[zA,zB,zC,zD,zE,zF,zG,zH,zI,rowS,ret,id_eq]
  repeat(first|refine QV QP ?_|refine QZ ?_|refine qcT rfl ?_|refine qcF rfl ?_|refine qs rfl rfl rfl rfl rfl rfl ?_|((try refine qg rfl rfl rfl ?_);first|refine QV QP ?_|refine QV (rr_load1 (v := .int .i64 g.terms) TyC.ty rfl (at_blk (i := 0) rfl rfl)) ?_|refine QV (rr_loadB (i := 0) TyC.ty rfl rfl rfl) ?_|refine QV (rr_loadB (i := 1) TyC.ty rfl rfl rfl) ?_|refine QV QA ?_|refine QV (rr_not rfl rfl) ?_|refine QV (rr_nilc rfl) ?_|refine QV QeT ?_|refine QV QeF ?_|refine QV QnT ?_|refine QV QnF ?_|refine QV QaA ?_|refine QV QL ?_|refine QV QaS ?_))
  refine TL_call (he4 EntersC.en rfl rfl rfl rfl rfl) (fun w hm => hck _ hm.below) rfl rfl rfl ?_
  intro _ _
  conv=>arg 8;simp only[zA,zB,zC,zD,zE,zF,zG,zH,zI,rowS,ret,id_eq]
  repeat(first|refine QV QP ?_|refine QZ ?_|refine qcT rfl ?_|refine qcF rfl ?_|refine qs rfl rfl rfl rfl rfl rfl ?_|((try refine qg rfl rfl rfl ?_);first|refine QV QP ?_|refine QV (rr_loadB (i := 0) TyC.ty rfl rfl rfl) ?_|refine QV (rr_loadB (i := 1) TyC.ty rfl rfl rfl) ?_|refine QV QA ?_|refine QV (rr_not rfl rfl) ?_|refine QV (rr_nilc rfl) ?_|refine QV QeT ?_|refine QV QeF ?_|refine QV QnT ?_|refine QV QnF ?_|refine QV QaA ?_|refine QV QL ?_|refine QV QaS ?_))
  refine TL_call (he2 EntersC.en rfl rfl rfl) (fun w hm => hbg _ hm.below) rfl rfl rfl ?_
  rintro ⟨gw, vt1⟩ _
  conv=>arg 8;simp only[zA,zB,zC,zD,zE,zF,zG,zH,zI,rowS,ret,id_eq, begunS]
  repeat(first|refine QV QP ?_|refine QZ ?_|refine qcT rfl ?_|refine qcF rfl ?_|refine qs rfl rfl rfl rfl rfl rfl ?_|((try refine qg rfl rfl rfl ?_);first|refine QV QP ?_|refine QV QA ?_|refine QV (rr_not rfl rfl) ?_|refine QV (rr_nilc rfl) ?_|refine QV QeT ?_|refine QV QeF ?_|refine QV QnT ?_|refine QV QnF ?_|refine QV QaA ?_|refine QV QL ?_|refine QV QaS ?_))
  refine TL_nilrow 82 2 ?_
  conv=>arg 8;simp only[zA,zB,zC,zD,zE,zF,zG,zH,zI,rowS,ret,id_eq]
  refine TL_callB [3, 4, 5] [0, 1, 2] (by decide) rfl rfl (he3 EntersC.en rfl rfl rfl rfl) (fun w' hm hb => hdw gw vt1 _ w' _ ((Old.self w).on hm fun o h => pick_mem h) hb) rfl rfl rfl ?_
  rintro ⟨vt2, vo2⟩ _
  conv=>arg 8;simp only[zA,zB,zC,zD,zE,zF,zG,zH,zI,rowS,ret,id_eq, dwS]
  conv => arg 7; simp only [dwS]
  rcases hde with rfl | rfl | rfl
  · obtain ⟨hd1, hd2, hd3, hd4⟩ := hdl rfl
    rcases hdt rfl with rfl | ⟨x, r, rfl, hx⟩
    · rw [push_nil hD]
      repeat(first|refine QV QP ?_|refine QZ ?_|refine qcT rfl ?_|refine qcF rfl ?_|refine qs rfl rfl rfl rfl rfl rfl ?_|((try refine qg rfl rfl rfl ?_);first|refine QV QP ?_|refine QV QA ?_|refine QV (rr_not rfl rfl) ?_|refine QV (rr_nilc rfl) ?_|refine QV QeT ?_|refine QV QeF ?_|refine QV QnT ?_|refine QV QnF ?_|refine QV QaA ?_|refine QV QL ?_|refine QV QaS ?_))
      refine T_ord ([cwO gw g.terms g.nons vp vt2 vo2 a1, tdO vt2 []]) (.calm 0 (.calm 1 (.calm 2 (.calm 3 (.calm 4 (.calm 5 (.calm 6 (.calm 7 (.calm 8 (.calm 9 (.calm 10 (.calm 11 (.calm 12 (.calm 13 (.calm 14 (.calm 15 (.calm 16 (.calm 17 (.calm 18 (.calm 19 (.calm 20 (.calm 21 (.calm 22 (.calm 23 (.calm 24 (.calm 25 (.calm 26 (.calm 27 (.done))))))))))))))))))))))))))))) (sub_pick [3, 4] (by decide) rfl) (by kernel_rfl) (by kernel_rfl) (by intro c a d v w h; cases d <;> exact h) ?_
      repeat(first|((first|refine TW_plain rfl rfl ?_|refine TW_gmet rfl rfl rfl rfl ?_);first|refine QW QP ?_|refine QW (rr_load1 (v := vt2) TyC.ty rfl (at_blk (i := 0) rfl rfl)) ?_|refine QW (rr_eql (b := true) rfl rfl rfl) ?_|refine QW QA ?_|refine QW (rr_not rfl rfl) ?_|refine QW (rr_nilc rfl) ?_|refine QW QeT ?_|refine QW QeF ?_|refine QW QnT ?_|refine QW QnF ?_|refine QW QaA ?_|refine QW (rr_rowlen (i := 1) Und.eq rfl rfl) ?_|refine QW QL ?_|refine QW QaS ?_)|refine TW_skip rfl rfl rfl rfl rfl rfl rfl ?_|refine TW_done ?_)
      repeat(first|refine QV QP ?_|refine QZ ?_|refine qcT rfl ?_|refine qcF rfl ?_|refine qs rfl rfl rfl rfl rfl rfl ?_|((try refine qg rfl rfl rfl ?_);first|refine QV QP ?_|refine QV (rr_load1 (v := .int .i64 (seen : Int)) TyC.ty rfl (at_blk (i := 1) rfl rfl)) ?_|refine QV (rr_build rfl (build_clE _ _)) ?_|refine QV QA ?_|refine QV (rr_not rfl rfl) ?_|refine QV (rr_nilc rfl) ?_|refine QV QeT ?_|refine QV QeF ?_|refine QV QnT ?_|refine QV QnF ?_|refine QV QaA ?_|refine QV QL ?_|refine QV QaS ?_))
      refine TL_storeB (i := 2) (cs' := #[.slice none 0 0, .int .i64 (seen : Int), .int .i64 13, .bool false]) rfl rfl rfl rfl rfl rfl ?_
      conv=>arg 8;simp only[zA,zB,zC,zD,zE,zF,zG,zH,zI,rowS,ret,id_eq]
      repeat(first|refine QV QP ?_|refine QZ ?_|refine qcT rfl ?_|refine qcF rfl ?_|refine qs rfl rfl rfl rfl rfl rfl ?_|((try refine qg rfl rfl rfl ?_);first|refine QV QP ?_|refine QV QA ?_|refine QV (rr_not rfl rfl) ?_|refine QV (rr_nilc rfl) ?_|refine QV QeT ?_|refine QV QeF ?_|refine QV QnT ?_|refine QV QnF ?_|refine QV QaA ?_|refine QV QL ?_|refine QV QaS ?_))
      exact E_retc3 (i := 2) rfl rfl rfl rfl rfl rfl fun w hm => hm.meets (S := pushS (seen : Int) (13, [], [])) (.slice none 0 0, .slice none 0 0) trivial [] (by decide) rfl
    · rw [push_sym hD]
      obtain ⟨k, m⟩ := x
      dsimp only at hx
      subst hx
      simp only [List.length_cons] at hd1
      repeat(first|refine QV QP ?_|refine QZ ?_|refine qcT rfl ?_|refine qcF rfl ?_|refine qs rfl rfl rfl rfl rfl rfl ?_|((try refine qg rfl rfl rfl ?_);first|refine QV QP ?_|refine QV QA ?_|refine QV (rr_not rfl rfl) ?_|refine QV (rr_nilc rfl) ?_|refine QV QeT ?_|refine QV QeF ?_|refine QV QnT ?_|refine QV QnF ?_|refine QV QaA ?_|refine QV QL ?_|refine QV QaS ?_))
      refine T_rowN (i := 4) rfl (by simp) fun gt ct hv q1 q2 => ?_
      subst hv
      simp only [List.length_cons] at *
      by_cases c1 : m ≠ (t : Int)
      · rw [if_pos c1]
        refine T_ord ([cwO gw g.terms g.nons vp (.slice (some ⟨gt, 0, none⟩) (r.length + 1) ct) vo2 a1, tdO (.slice (some ⟨gt, 0, none⟩) (r.length + 1) ct) (.sym (1, m) :: r)]) (.calm 0 (.calm 1 (.calm 2 (.calm 3 (.calm 4 (.calm 5 (.calm 6 (.calm 7 (.calm 8 (.calm 9 (.calm 10 (.calm 11 (.calm 12 (.calm 13 (.calm 14 (.calm 15 (.calm 16 (.calm 17 (.calm 18 (.calm 19 (.calm 20 (.calm 21 (.calm 22 (.calm 23 (.calm 24 (.calm 25 (.calm 26 (.calm 27 (.done))))))))))))))))))))))))))))) (sub_pick [3, 4] (by decide) rfl) (by kernel_rfl) (by kernel_rfl) (by intro c a d v w h; cases d <;> exact h) ?_
        repeat(first|((first|refine TW_plain rfl rfl ?_|refine TW_gmet rfl rfl rfl rfl ?_);first|refine QW QP ?_|refine QW (rr_load1 (v := .slice (some ⟨gt, 0, none⟩) (r.length + 1) ct) TyC.ty rfl (at_blk (i := 0) rfl rfl)) ?_|refine QW (rr_eql (b := true) rfl rfl rfl) ?_|refine QW (rr_eql (b := false) rfl rfl (decide_eq_false (by omega))) ?_|refine QW (rr_load1 (v := .int .i64 m) TyC.ty rfl (td_at (i := 1) rfl 3 _ rfl)) ?_|refine QW (rr_neq (b := true) rfl rfl (decide_eq_true c1)) ?_|refine QW QA ?_|refine QW (rr_not rfl rfl) ?_|refine QW (rr_nilc rfl) ?_|refine QW QeT ?_|refine QW QeF ?_|refine QW QnT ?_|refine QW QnF ?_|refine QW QaA ?_|refine QW (rr_sub64 (r := (r.length : Int)) rfl rfl (by omega) (by omega) (by omega)) ?_|refine QW (rr_idxc (j := r.length) Und.eq TyC.ty rfl rfl (by omega)) ?_|refine QW QL ?_|refine QW QaS ?_)|refine TW_skip rfl rfl rfl rfl rfl rfl rfl ?_|refine TW_done ?_)
        repeat(first|refine QV QP ?_|refine QZ ?_|refine qcT rfl ?_|refine qcF rfl ?_|refine qs rfl rfl rfl rfl rfl rfl ?_|((try refine qg rfl rfl rfl ?_);first|refine QV QP ?_|refine QV (rr_load1 (v := .int .i64 (seen : Int)) TyC.ty rfl (at_blk (i := 1) rfl rfl)) ?_|refine QV (rr_build rfl (build_clE _ _)) ?_|refine QV QA ?_|refine QV (rr_not rfl rfl) ?_|refine QV (rr_nilc rfl) ?_|refine QV QeT ?_|refine QV QeF ?_|refine QV QnT ?_|refine QV QnF ?_|refine QV QaA ?_|refine QV QL ?_|refine QV QaS ?_))
        refine TL_storeB (i := 2) (cs' := #[.slice none 0 0, .int .i64 (seen : Int), .int .i64 13, .bool false]) rfl rfl rfl rfl rfl rfl ?_
        conv=>arg 8;simp only[zA,zB,zC,zD,zE,zF,zG,zH,zI,rowS,ret,id_eq]
        repeat(first|refine QV QP ?_|refine QZ ?_|refine qcT rfl ?_|refine qcF rfl ?_|refine qs rfl rfl rfl rfl rfl rfl ?_|((try refine qg rfl rfl rfl ?_);first|refine QV QP ?_|refine QV QA ?_|refine QV (rr_not rfl rfl) ?_|refine QV (rr_nilc rfl) ?_|refine QV QeT ?_|refine QV QeF ?_|refine QV QnT ?_|refine QV QnF ?_|refine QV QaA ?_|refine QV QL ?_|refine QV QaS ?_))
        exact E_retc3 (i := 2) rfl rfl rfl rfl rfl rfl fun w hm => hm.meets (S := pushS (seen : Int) (13, [], [])) (.slice none 0 0, .slice none 0 0) trivial [] (by decide) rfl
      · rw [if_neg c1]
        obtain rfl : m = (t : Int) := by simpa using c1
        refine T_ord ([cwO gw g.terms g.nons vp (.slice (some ⟨gt, 0, none⟩) (r.length + 1) ct) vo2 a1, tdO (.slice (some ⟨gt, 0, none⟩) (r.length + 1) ct) (.sym (1, (t : Int)) :: r)]) (.calm 0 (.calm 1 (.calm 2 (.calm 3 (.calm 4 (.calm 5 (.calm 6 (.calm 7 (.calm 8 (.calm 9 (.calm 10 (.calm 11 (.calm 12 (.calm 13 (.calm 14 (.calm 15 (.calm 16 (.calm 17 (.calm 18 (.calm 19 (.calm 20 (.calm 21 (.calm 22 (.calm 23 (.calm 24 (.calm 25 (.calm 26 (.calm 27 (.done))))))))))))))))))))))))))))) (sub_pick [3, 4] (by decide) rfl) (by kernel_rfl) (by kernel_rfl) (by intro c a d v w h; cases d <;> exact h) ?_
        repeat(first|((first|refine TW_plain rfl rfl ?_|refine TW_gmet rfl rfl rfl rfl ?_);first|refine QW QP ?_|refine QW (rr_load1 (v := .slice (some ⟨gt, 0, none⟩) (r.length + 1) ct) TyC.ty rfl (at_blk (i := 0) rfl rfl)) ?_|refine QW (rr_eql (b := true) rfl rfl rfl) ?_|refine QW (rr_eql (b := false) rfl rfl (decide_eq_false (by omega))) ?_|refine QW (rr_load1 (v := .int .i64 (t : Int)) TyC.ty rfl (td_at (i := 1) rfl 3 _ rfl)) ?_|refine QW (rr_neq (b := false) rfl rfl (decide_eq_false (by simp))) ?_|refine QW QA ?_|refine QW (rr_not rfl rfl) ?_|refine QW (rr_nilc rfl) ?_|refine QW QeT ?_|refine QW QeF ?_|refine QW QnT ?_|refine QW QnF ?_|refine QW QaA ?_|refine QW (rr_sub64 (r := (r.length : Int)) rfl rfl (by omega) (by omega) (by omega)) ?_|refine QW (rr_idxc (j := r.length) Und.eq TyC.ty rfl rfl (by omega)) ?_|refine QW QL ?_|refine QW QaS ?_)|refine TW_skip rfl rfl rfl rfl rfl rfl rfl ?_|refine TW_done ?_)
        repeat(first|refine QV QP ?_|refine QZ ?_|refine qcT rfl ?_|refine qcF rfl ?_|refine qs rfl rfl rfl rfl rfl rfl ?_|((try refine qg rfl rfl rfl ?_);first|refine QV QP ?_|refine QV (rr_eql (b := true) rfl rfl rfl) ?_|refine QV QA ?_|refine QV (rr_not rfl rfl) ?_|refine QV (rr_nilc rfl) ?_|refine QV QeT ?_|refine QV QeF ?_|refine QV QnT ?_|refine QV QnF ?_|refine QV QaA ?_|refine QV QL ?_|refine QV QaS ?_))
        refine TL_callB [3, 4] [0, 1, 2, 5] (by decide) rfl rfl (he1 EntersC.en rfl rfl) (fun w hm hb => pop_calls gw g.terms g.nons vp _ vo2 (.sym (1, (t : Int))) r a1 w _ (by omega) hb) rfl rfl rfl ?_
        intro vt3 _
        conv=>arg 8;simp only[zA,zB,zC,zD,zE,zF,zG,zH,zI,rowS,ret,id_eq]
        dsimp only
        repeat(first|refine QV QP ?_|refine QZ ?_|refine qcT rfl ?_|refine qcF rfl ?_|refine qs rfl rfl rfl rfl rfl rfl ?_|((try refine qg rfl rfl rfl ?_);first|refine QV QP ?_|refine QV (rr_load1 (v := .int .i64 (seen : Int)) TyC.ty rfl (at_blk (i := 1) rfl rfl)) ?_|refine QV QA ?_|refine QV (rr_not rfl rfl) ?_|refine QV (rr_nilc rfl) ?_|refine QV QeT ?_|refine QV QeF ?_|refine QV QnT ?_|refine QV QnF ?_|refine QV QaA ?_|refine QV QL ?_|refine QV QaS ?_))
        refine TL_callB [4, 3] [0, 1, 2, 5] (by decide) rfl rfl (he3 EntersC.en rfl rfl rfl rfl) (fun w hm hb => act_calls gw g.terms g.nons vp vt3 vo2 out1 a1 2 (seen : Int) w _ (by simp at hd3; omega) (by omega) hb) rfl rfl rfl ?_
        intro vo3 _
        conv=>arg 8;simp only[zA,zB,zC,zD,zE,zF,zG,zH,zI,rowS,ret,id_eq]
        dsimp only
        by_cases c2 : a1 + 1 ≤ 2000
        · rw [decide_eq_true (show ((a1 + 1 : Nat) : Int) ≤ 2000 by omega)]
          repeat(first|refine QV QP ?_|refine QZ ?_|refine qcT rfl ?_|refine qcF rfl ?_|refine qs rfl rfl rfl rfl rfl rfl ?_|((try refine qg rfl rfl rfl ?_);first|refine QV QP ?_|refine QV QA ?_|refine QV (rr_not rfl rfl) ?_|refine QV (rr_nilc rfl) ?_|refine QV QeT ?_|refine QV QeF ?_|refine QV QnT ?_|refine QV QnF ?_|refine QV QaA ?_|refine QV QL ?_|refine QV QaS ?_))
          refine TL_metg rfl rfl rfl ?_
          refine TL_callB [4, 3, 5] [0, 1, 2] (by decide) rfl rfl (he1 EntersC.en rfl rfl) (fun w hm hb => workCloses_calls gw g.terms g.nons vp vt3 vo3 r (out1 ++ [(2, (seen : Int))]) (a1 + 1) w _ (by omega) c2 (by simp at hd3 ⊢; omega) hb) rfl rfl rfl ?_
          rintro ⟨vt4, vo4⟩ _
          conv=>arg 8;simp only[zA,zB,zC,zD,zE,zF,zG,zH,zI,rowS,ret,id_eq, clS]
          conv => arg 7; simp only [clS]
          generalize closesF r (out1 ++ [(2, (seen : Int))]) (a1 + 1) = C
          obtain ⟨st3, out3, a3, ok⟩ := C
          dsimp only
          cases ok with
          | true =>
            rw [if_pos ⟨c2, rfl⟩]
            repeat(first|refine QV QP ?_|refine QZ ?_|refine qcT rfl ?_|refine qcF rfl ?_|refine qs rfl rfl rfl rfl rfl rfl ?_|((try refine qg rfl rfl rfl ?_);first|refine QV QP ?_|refine QV (rr_eql (b := true) rfl rfl rfl) ?_|refine QV QA ?_|refine QV (rr_not rfl rfl) ?_|refine QV (rr_nilc rfl) ?_|refine QV QeT ?_|refine QV QeF ?_|refine QV QnT ?_|refine QV QnF ?_|refine QV QaA ?_|refine QV QL ?_|refine QV QaS ?_))
            refine T_rowv (i := 4) rfl fun bt ct' hv q3 q4 => ?_
            subst hv
            refine T_ord ([cwO gw g.terms g.nons vp (.slice bt st3.length ct') vo4 a3, blkO g1 (clV vt (seen : Int) 0 false).cells 134]) (.calm 0 (.calm 1 (.calm 2 (.calm 3 (.calm 4 (.calm 5 (.calm 6 (.calm 7 (.calm 8 (.calm 9 (.calm 10 (.calm 11 (.one 12 (.calm 13 (.calm 14 (.done)))))))))))))))) (sub_pick [3, 1] (by decide) rfl) (by kernel_rfl) (by kernel_rfl) (by intro c a d v w h; cases d <;> exact h) ?_
            repeat(first|((first|refine TW_plain rfl rfl ?_|refine TW_gmet rfl rfl rfl rfl ?_);first|refine QW QP ?_|refine QW (rr_load1 (v := .slice bt st3.length ct') TyC.ty rfl (at_blk (i := 0) rfl rfl)) ?_|refine QW (rr_load1 (v := .int .i64 (seen : Int)) TyC.ty rfl (at_blk (i := 1) rfl rfl)) ?_|refine QW (rr_load1 (v := vo4) TyC.ty rfl (at_blk (i := 0) rfl rfl)) ?_|refine QW (rr_build rfl (build_clN _ _ _ _)) ?_|refine QW QA ?_|refine QW (rr_not rfl rfl) ?_|refine QW (rr_nilc rfl) ?_|refine QW QeT ?_|refine QW QeF ?_|refine QW QnT ?_|refine QW QnF ?_|refine QW QaA ?_|refine QW QL ?_|refine QW QaS ?_)|refine TW_skip rfl rfl rfl rfl rfl rfl rfl ?_|refine TW_done ?_)
            refine TW_one rfl (TL_storeB (i := 2) (cs' := #[.slice bt st3.length ct', .int .i64 ((seen : Int) + 1), .int .i64 0, .bool false]) rfl rfl rfl rfl rfl rfl (TW_on (sub_pick [3, 1] (by decide) rfl) ?_))
            repeat(first|((first|refine TW_plain rfl rfl ?_|refine TW_gmet rfl rfl rfl rfl ?_);first|refine QW QP ?_|refine QW QA ?_|refine QW (rr_not rfl rfl) ?_|refine QW (rr_nilc rfl) ?_|refine QW QeT ?_|refine QW QeF ?_|refine QW QnT ?_|refine QW QnF ?_|refine QW QaA ?_|refine QW QL ?_|refine QW QaS ?_)|refine TW_skip rfl rfl rfl rfl rfl rfl rfl ?_|refine TW_done ?_)
            repeat(first|refine QV QP ?_|refine QZ ?_|refine qcT rfl ?_|refine qcF rfl ?_|refine qs rfl rfl rfl rfl rfl rfl ?_|((try refine qg rfl rfl rfl ?_);first|refine QV QP ?_|refine QV QA ?_|refine QV (rr_not rfl rfl) ?_|refine QV (rr_nilc rfl) ?_|refine QV QeT ?_|refine QV QeF ?_|refine QV QnT ?_|refine QV QnF ?_|refine QV QaA ?_|refine QV QL ?_|refine QV QaS ?_))
            exact E_retc3 (i := 2) rfl rfl rfl rfl rfl rfl fun w hm => hm.meets (S := pushS (seen : Int) (0, st3, out3)) (.slice bt st3.length ct', vo4) trivial [4, 5] (by decide) rfl
          | false =>
            rw [if_neg (by rintro ⟨_, h⟩; cases h)]
            repeat(first|refine QV QP ?_|refine QZ ?_|refine qcT rfl ?_|refine qcF rfl ?_|refine qs rfl rfl rfl rfl rfl rfl ?_|((try refine qg rfl rfl rfl ?_);first|refine QV QP ?_|refine QV QA ?_|refine QV (rr_not rfl rfl) ?_|refine QV (rr_nilc rfl) ?_|refine QV QeT ?_|refine QV QeF ?_|refine QV QnT ?_|refine QV QnF ?_|refine QV QaA ?_|refine QV QL ?_|refine QV QaS ?_))
            repeat(first|refine QV QP ?_|refine QZ ?_|refine qcT rfl ?_|refine qcF rfl ?_|refine qs rfl rfl rfl rfl rfl rfl ?_|((try refine qg rfl rfl rfl ?_);first|refine QV QP ?_|refine QV (rr_load1 (v := .int .i64 (seen : Int)) TyC.ty rfl (at_blk (i := 1) rfl rfl)) ?_|refine QV (rr_build rfl (build_clE _ _)) ?_|refine QV QA ?_|refine QV (rr_not rfl rfl) ?_|refine QV (rr_nilc rfl) ?_|refine QV QeT ?_|refine QV QeF ?_|refine QV QnT ?_|refine QV QnF ?_|refine QV QaA ?_|refine QV QL ?_|refine QV QaS ?_))
            refine TL_storeB (i := 2) (cs' := #[.slice none 0 0, .int .i64 (seen : Int), .int .i64 14, .bool false]) rfl rfl rfl rfl rfl rfl ?_
            conv=>arg 8;simp only[zA,zB,zC,zD,zE,zF,zG,zH,zI,rowS,ret,id_eq]
            repeat(first|refine QV QP ?_|refine QZ ?_|refine qcT rfl ?_|refine qcF rfl ?_|refine qs rfl rfl rfl rfl rfl rfl ?_|((try refine qg rfl rfl rfl ?_);first|refine QV QP ?_|refine QV QA ?_|refine QV (rr_not rfl rfl) ?_|refine QV (rr_nilc rfl) ?_|refine QV QeT ?_|refine QV QeF ?_|refine QV QnT ?_|refine QV QnF ?_|refine QV QaA ?_|refine QV QL ?_|refine QV QaS ?_))
            exact E_retc3 (i := 2) rfl rfl rfl rfl rfl rfl fun w hm => hm.meets (S := pushS (seen : Int) (14, [], [])) (.slice none 0 0, .slice none 0 0) trivial [] (by decide) rfl
        · rw [if_neg (by rintro ⟨h, _⟩; exact c2 h)]
          rw [decide_eq_false (show ¬ ((a1 + 1 : Nat) : Int) ≤ 2000 by omega)]
          repeat(first|refine QV QP ?_|refine QZ ?_|refine qcT rfl ?_|refine qcF rfl ?_|refine qs rfl rfl rfl rfl rfl rfl ?_|((try refine qg rfl rfl rfl ?_);first|refine QV QP ?_|refine QV QA ?_|refine QV (rr_not rfl rfl) ?_|refine QV (rr_nilc rfl) ?_|refine QV QeT ?_|refine QV QeF ?_|refine QV QnT ?_|refine QV QnF ?_|refine QV QaA ?_|refine QV QL ?_|refine QV QaS ?_))
          repeat(first|refine QV QP ?_|refine QZ ?_|refine qcT rfl ?_|refine qcF rfl ?_|refine qs rfl rfl rfl rfl rfl rfl ?_|((try refine qg rfl rfl rfl ?_);first|refine QV QP ?_|refine QV (rr_load1 (v := .int .i64 (seen : Int)) TyC.ty rfl (at_blk (i := 1) rfl rfl)) ?_|refine QV (rr_build rfl (build_clE _ _)) ?_|refine QV QA ?_|refine QV (rr_not rfl rfl) ?_|refine QV (rr_nilc rfl) ?_|refine QV QeT ?_|refine QV QeF ?_|refine QV QnT ?_|refine QV QnF ?_|refine QV QaA ?_|refine QV QL ?_|refine QV QaS ?_))
          refine TL_storeB (i := 2) (cs' := #[.slice none 0 0, .int .i64 (seen : Int), .int .i64 14, .bool false]) rfl rfl rfl rfl rfl rfl ?_
          conv=>arg 8;simp only[zA,zB,zC,zD,zE,zF,zG,zH,zI,rowS,ret,id_eq]
          repeat(first|refine QV QP ?_|refine QZ ?_|refine qcT rfl ?_|refine qcF rfl ?_|refine qs rfl rfl rfl rfl rfl rfl ?_|((try refine qg rfl rfl rfl ?_);first|refine QV QP ?_|refine QV QA ?_|refine QV (rr_not rfl rfl) ?_|refine QV (rr_nilc rfl) ?_|refine QV QeT ?_|refine QV QeF ?_|refine QV QnT ?_|refine QV QnF ?_|refine QV QaA ?_|refine QV QL ?_|refine QV QaS ?_))
          exact E_retc3 (i := 2) rfl rfl rfl rfl rfl rfl fun w hm => hm.meets (S := pushS (seen : Int) (14, [], [])) (.slice none 0 0, .slice none 0 0) trivial [] (by decide) rfl
  · rw [push_bad hD (by decide)]
    repeat(first|refine QV QP ?_|refine QZ ?_|refine qcT rfl ?_|refine qcF rfl ?_|refine qs rfl rfl rfl rfl rfl rfl ?_|((try refine qg rfl rfl rfl ?_);first|refine QV QP ?_|refine QV QA ?_|refine QV (rr_not rfl rfl) ?_|refine QV (rr_nilc rfl) ?_|refine QV QeT ?_|refine QV QeF ?_|refine QV QnT ?_|refine QV QnF ?_|refine QV QaA ?_|refine QV QL ?_|refine QV QaS ?_))
    refine T_ord ([]) (.calm 0 (.calm 1 (.calm 2 (.calm 3 (.calm 4 (.calm 5 (.calm 6 (.calm 7 (.calm 8 (.calm 9 (.calm 10 (.calm 11 (.calm 12 (.calm 13 (.calm 14 (.calm 15 (.calm 16 (.calm 17 (.calm 18 (.calm 19 (.calm 20 (.calm 21 (.calm 22 (.calm 23 (.calm 24 (.calm 25 (.calm 26 (.calm 27 (.done))))))))))))))))))))))))))))) (sub_pick [] (by decide) rfl) (by kernel_rfl) (by kernel_rfl) (by intro c a d v w h; cases d <;> exact h) ?_
    repeat(first|((first|refine TW_plain rfl rfl ?_|refine TW_gmet rfl rfl rfl rfl ?_);first|refine QW QP ?_|refine QW QA ?_|refine QW (rr_not rfl rfl) ?_|refine QW (rr_nilc rfl) ?_|refine QW QeT ?_|refine QW QeF ?_|refine QW QnT ?_|refine QW QnF ?_|refine QW QaA ?_|refine QW QL ?_|refine QW QaS ?_)|refine TW_skip rfl rfl rfl rfl rfl rfl rfl ?_|refine TW_done ?_)
    repeat(first|refine QV QP ?_|refine QZ ?_|refine qcT rfl ?_|refine qcF rfl ?_|refine qs rfl rfl rfl rfl rfl rfl ?_|((try refine qg rfl rfl rfl ?_);first|refine QV QP ?_|refine QV (rr_load1 (v := .int .i64 (seen : Int)) TyC.ty rfl (at_blk (i := 1) rfl rfl)) ?_|refine QV (rr_build rfl (build_clE _ _)) ?_|refine QV QA ?_|refine QV (rr_not rfl rfl) ?_|refine QV (rr_nilc rfl) ?_|refine QV QeT ?_|refine QV QeF ?_|refine QV QnT ?_|refine QV QnF ?_|refine QV QaA ?_|refine QV QL ?_|refine QV QaS ?_))
    refine TL_storeB (i := 2) (cs' := #[.slice none 0 0, .int .i64 (seen : Int), .int .i64 13, .bool false]) rfl rfl rfl rfl rfl rfl ?_
    conv=>arg 8;simp only[zA,zB,zC,zD,zE,zF,zG,zH,zI,rowS,ret,id_eq]
    repeat(first|refine QV QP ?_|refine QZ ?_|refine qcT rfl ?_|refine qcF rfl ?_|refine qs rfl rfl rfl rfl rfl rfl ?_|((try refine qg rfl rfl rfl ?_);first|refine QV QP ?_|refine QV QA ?_|refine QV (rr_not rfl rfl) ?_|refine QV (rr_nilc rfl) ?_|refine QV QeT ?_|refine QV QeF ?_|refine QV QnT ?_|refine QV QnF ?_|refine QV QaA ?_|refine QV QL ?_|refine QV QaS ?_))
    exact E_retc3 (i := 2) rfl rfl rfl rfl rfl rfl fun w hm => hm.meets (S := pushS (seen : Int) (13, [], [])) (.slice none 0 0, .slice none 0 0) trivial [] (by decide) rfl
  · rw [push_bad hD (by decide)]
    repeat(first|refine QV QP ?_|refine QZ ?_|refine qcT rfl ?_|refine qcF rfl ?_|refine qs rfl rfl rfl rfl rfl rfl ?_|((try refine qg rfl rfl rfl ?_);first|refine QV QP ?_|refine QV QA ?_|refine QV (rr_not rfl rfl) ?_|refine QV (rr_nilc rfl) ?_|refine QV QeT ?_|refine QV QeF ?_|refine QV QnT ?_|refine QV QnF ?_|refine QV QaA ?_|refine QV QL ?_|refine QV QaS ?_))
    refine T_ord ([]) (.calm 0 (.calm 1 (.calm 2 (.calm 3 (.calm 4 (.calm 5 (.calm 6 (.calm 7 (.calm 8 (.calm 9 (.calm 10 (.calm 11 (.calm 12 (.calm 13 (.calm 14 (.calm 15 (.calm 16 (.calm 17 (.calm 18 (.calm 19 (.calm 20 (.calm 21 (.calm 22 (.calm 23 (.calm 24 (.calm 25 (.calm 26 (.calm 27 (.done))))))))))))))))))))))))))))) (sub_pick [] (by decide) rfl) (by kernel_rfl) (by kernel_rfl) (by intro c a d v w h; cases d <;> exact h) ?_
    repeat(first|((first|refine TW_plain rfl rfl ?_|refine TW_gmet rfl rfl rfl rfl ?_);first|refine QW QP ?_|refine QW QA ?_|refine QW (rr_not rfl rfl) ?_|refine QW (rr_nilc rfl) ?_|refine QW QeT ?_|refine QW QeF ?_|refine QW QnT ?_|refine QW QnF ?_|refine QW QaA ?_|refine QW QL ?_|refine QW QaS ?_)|refine TW_skip rfl rfl rfl rfl rfl rfl rfl ?_|refine TW_done ?_)
    repeat(first|refine QV QP ?_|refine QZ ?_|refine qcT rfl ?_|refine qcF rfl ?_|refine qs rfl rfl rfl rfl rfl rfl ?_|((try refine qg rfl rfl rfl ?_);first|refine QV QP ?_|refine QV (rr_load1 (v := .int .i64 (seen : Int)) TyC.ty rfl (at_blk (i := 1) rfl rfl)) ?_|refine QV (rr_build rfl (build_clE _ _)) ?_|refine QV QA ?_|refine QV (rr_not rfl rfl) ?_|refine QV (rr_nilc rfl) ?_|refine QV QeT ?_|refine QV QeF ?_|refine QV QnT ?_|refine QV QnF ?_|refine QV QaA ?_|refine QV QL ?_|refine QV QaS ?_))
    refine TL_storeB (i := 2) (cs' := #[.slice none 0 0, .int .i64 (seen : Int), .int .i64 14, .bool false]) rfl rfl rfl rfl rfl rfl ?_
    conv=>arg 8;simp only[zA,zB,zC,zD,zE,zF,zG,zH,zI,rowS,ret,id_eq]
    repeat(first|refine QV QP ?_|refine QZ ?_|refine qcT rfl ?_|refine qcF rfl ?_|refine qs rfl rfl rfl rfl rfl rfl ?_|((try refine qg rfl rfl rfl ?_);first|refine QV QP ?_|refine QV QA ?_|refine QV (rr_not rfl rfl) ?_|refine QV (rr_nilc rfl) ?_|refine QV QeT ?_|refine QV QeF ?_|refine QV QnT ?_|refine QV QnF ?_|refine QV QaA ?_|refine QV QL ?_|refine QV QaS ?_))
    exact E_retc3 (i := 2) rfl rfl rfl rfl rfl rfl fun w hm => hm.meets (S := pushS (seen : Int) (14, [], [])) (.slice none 0 0, .slice none 0 0) trivial [] (by decide) rfl

/-- an end's answer -/
def endS (seen : Int) (R : Int × List Sym) : Spec Value :=
  ⟨fun _ => True, fun x => if R.1 = 0 then .tuple #[clV (.slice none 0 0) seen 0 true, x, .int .i64 0] else .tuple #[clV (.slice none 0 0) seen R.1 false, .slice none 0 0, .int .i64 R.1], fun x => if R.1 = 0 then [evO x R.2] else []⟩
theorem build_clD (seen : Int) (w : World) : (Instr.build 134 #[(1, .int .i64 seen), (3, .bool true)]).run Try.prog w = .ok (clV (.slice none 0 0) seen 0 true) w := by
  unfold clV; go_simp
set_option maxHeartbeats 4000000 in
theorem climbEnd_calls (v vr vt : Value) (g : Gram) (ll : List (List Int)) (T N : Nat) (st : List TD) (seen : Nat) (w : World) (h : GraR (fun k => k < w.heap.size) w v g) (hr : RowsR w vr ll) (ht : TdR w vt st) (h0 : chkL g ll = 0) (hg : checkG g = 0) (hT : TabOk g ll T N) (hs : ∀ d ∈ st, okTD g d) (hl : st.length ≤ 60) (h1 : seen ≤ 1000000) :
    Calls Try.prog 63 #[v, vr, clV vt (seen : Int) 0 false] w (Meets (endS (seen : Int) (endF g.prods (nxL ll T) st)) w) := by
  have hterm := hT.terms
  have hck := fun w' (hg' : Gr w w') => climbCheck_calls v vr vt g ll st (seen : Int) g.terms w' (h.gr hg') (hr.gr hg') (ht.gr hg') h0 hs hl (by omega) (by omega) (by omega) (by omega)
  obtain ⟨vp, rfl, hp, _⟩ := h
  have hbg := fun w' (hg' : Gr w w') => begun_calls g.terms g.nons vp vt st (seen : Int) 0 false w' (ht.gr hg') hl (by obtain ⟨b, c, e, _⟩ := hp; exact ⟨b, _, c, e⟩)
  have hdw := fun gw vt0 vo0 w' B ho hm => wdown_calls w gw g.terms g.nons vp vr g ll T N T hp hr hg hT (by omega) vt0 vo0 st w' B hs hl ho hm
  rw [← hterm] at hdw
  have hdt := fun R => @down_top g.prods (nxL ll T) 2001 st [] 0 R
  have hde := @down_err g.prods (nxL ll T) 2001 st [] 0
  generalize hD : downF g.prods (nxL ll T) 2001 st [] 0 = D at *
  obtain ⟨st1, out1, a1, e⟩ := D
  have hdt := fun h => hdt _ rfl h
  dsimp only at *
  refine enter (args := [graV g.terms g.nons vp, vr, clV vt (seen : Int) 0 false]) (n := 55) Try.func63 rfl rfl rfl ?_
  refine T_seq (T_region (TL_box rfl rfl rfl fun g0 => TL_box rfl rfl rfl fun g1 => TL_new rfl fun g2 => ?_))
  conv=>arg 8;simp only[zA,zB,zC,zD,zE,zF,zG,zH,zI,rowS,ret,id_eq]
  repeat(first|refine QV QP ?_|refine QZ ?_|refine qcT rfl ?_|refine qcF rfl ?_|refine qs rfl rfl rfl rfl rfl rfl ?_|((try refine qg rfl rfl rfl ?_);first|refine QV QP ?_|refine QV (rr_load1 (v := .int .i64 g.terms) TyC.ty rfl (at_blk (i := 0) rfl rfl)) ?_|refine QV (rr_loadB (i := 0) TyC.ty rfl rfl rfl) ?_|refine QV (rr_loadB (i := 1) TyC.ty rfl rfl rfl) ?_|refine QV QA ?_|refine QV (rr_nilc rfl) ?_|refine QV QeT ?_|refine QV QeF ?_|refine QV QnT ?_|refine QV QnF ?_|refine QV QL ?_|refine QV QgT ?_|refine QV QgF ?_))
  refine TL_call (he4 EntersC.en rfl rfl rfl rfl rfl) (fun w hm => hck _ hm.below) rfl rfl rfl ?_
  intro _ _
  conv=>arg 8;simp only[zA,zB,zC,zD,zE,zF,zG,zH,zI,rowS,ret,id_eq]
  repeat(first|refine QV QP ?_|refine QZ ?_|refine qcT rfl ?_|refine qcF rfl ?_|refine qs rfl rfl rfl rfl rfl rfl ?_|((try refine qg rfl rfl rfl ?_);first|refine QV QP ?_|refine QV (rr_loadB (i := 0) TyC.ty rfl rfl rfl) ?_|refine QV (rr_loadB (i := 1) TyC.ty rfl rfl rfl) ?_|refine QV QA ?_|refine QV (rr_nilc rfl) ?_|refine QV QeT ?_|refine QV QeF ?_|refine QV QnT ?_|refine QV QnF ?_|refine QV QL ?_|refine QV QgT ?_|refine QV QgF ?_))
  refine TL_call (he2 EntersC.en rfl rfl rfl) (fun w hm => hbg _ hm.below) rfl rfl rfl ?_
  rintro ⟨gw, vt1⟩ _
  conv=>arg 8;simp only[zA,zB,zC,zD,zE,zF,zG,zH,zI,rowS,ret,id_eq, begunS]
  repeat(first|refine QV QP ?_|refine QZ ?_|refine qcT rfl ?_|refine qcF rfl ?_|refine qs rfl rfl rfl rfl rfl rfl ?_|((try refine qg rfl rfl rfl ?_);first|refine QV QP ?_|refine QV (rr_load1 (v := .int .i64 g.terms) TyC.ty rfl (at_blk (i := 0) rfl rfl)) ?_|refine QV QA ?_|refine QV (rr_nilc rfl) ?_|refine QV QeT ?_|refine QV QeF ?_|refine QV QnT ?_|refine QV QnF ?_|refine QV QL ?_|refine QV QgT ?_|refine QV QgF ?_))
  refine TL_nilrow 82 2 ?_
  conv=>arg 8;simp only[zA,zB,zC,zD,zE,zF,zG,zH,zI,rowS,ret,id_eq]
  refine TL_callB [3, 4, 5] [0, 1, 2] (by decide) rfl rfl (he3 EntersC.en rfl rfl rfl rfl) (fun w' hm hb => hdw gw vt1 _ w' _ ((Old.self w).on hm fun o h => pick_mem h) hb) rfl rfl rfl ?_
  rintro ⟨vt2, vo2⟩ _
  conv=>arg 8;simp only[zA,zB,zC,zD,zE,zF,zG,zH,zI,rowS,ret,id_eq, dwS]
  conv => arg 7; simp only [dwS]
  rcases hde with rfl | rfl | rfl
  · rcases hdt rfl with rfl | ⟨x, r, rfl, hx⟩
    · rw [end_nil hD]
      repeat(first|refine QV QP ?_|refine QZ ?_|refine qcT rfl ?_|refine qcF rfl ?_|refine qs rfl rfl rfl rfl rfl rfl ?_|((try refine qg rfl rfl rfl ?_);first|refine QV QP ?_|refine QV (rr_load1 (v := vt2) TyC.ty rfl (at_blk (i := 3) rfl rfl)) ?_|refine QV (rr_eql (b := true) rfl rfl rfl) ?_|refine QV QA ?_|refine QV (rr_nilc rfl) ?_|refine QV QeT ?_|refine QV QeF ?_|refine QV QnT ?_|refine QV QnF ?_|refine QV (rr_rowlen (i := 4) Und.eq rfl rfl) ?_|refine QV (rr_gtr (b := false) rfl rfl rfl) ?_|refine QV QL ?_|refine QV QgT ?_|refine QV QgF ?_))
      refine T_ord ([cwO gw g.terms g.nons vp vt2 vo2 a1, blkO g1 (clV vt (seen : Int) 0 false).cells 134]) (.calm 0 (.calm 1 (.calm 2 (.calm 3 (.calm 4 (.calm 5 (.calm 6 (.one 7 (.calm 8 (.calm 9 (.done))))))))))) (sub_pick [3, 1] (by decide) rfl) (by kernel_rfl) (by kernel_rfl) (by intro c a d v w h; cases d <;> exact h) ?_
      repeat(first|((first|refine TW_plain rfl rfl ?_|refine TW_gmet rfl rfl rfl rfl ?_);first|refine QW QP ?_|refine QW (rr_load1 (v := .int .i64 (seen : Int)) TyC.ty rfl (at_blk (i := 1) rfl rfl)) ?_|refine QW (rr_load1 (v := vo2) TyC.ty rfl (at_blk (i := 0) rfl rfl)) ?_|refine QW (rr_build rfl (build_clD _)) ?_|refine QW QA ?_|refine QW (rr_nilc rfl) ?_|refine QW QeT ?_|refine QW QeF ?_|refine QW QnT ?_|refine QW QnF ?_|refine QW QL ?_|refine QW QgT ?_|refine QW QgF ?_)|refine TW_skip rfl rfl rfl rfl rfl rfl rfl ?_|refine TW_done ?_)
      refine TW_one rfl (TL_storeB (i := 2) (cs' := #[.slice none 0 0, .int .i64 (seen : Int), .int .i64 0, .bool true]) rfl rfl rfl rfl rfl rfl (TW_on (sub_pick [3, 1] (by decide) rfl) ?_))
      repeat(first|((first|refine TW_plain rfl rfl ?_|refine TW_gmet rfl rfl rfl rfl ?_);first|refine QW QP ?_|refine QW QA ?_|refine QW (rr_nilc rfl) ?_|refine QW QeT ?_|refine QW QeF ?_|refine QW QnT ?_|refine QW QnF ?_|refine QW QL ?_|refine QW QgT ?_|refine QW QgF ?_)|refine TW_skip rfl rfl rfl rfl rfl rfl rfl ?_|refine TW_done ?_)
      repeat(first|refine QV QP ?_|refine QZ ?_|refine qcT rfl ?_|refine qcF rfl ?_|refine qs rfl rfl rfl rfl rfl rfl ?_|((try refine qg rfl rfl rfl ?_);first|refine QV QP ?_|refine QV QA ?_|refine QV (rr_nilc rfl) ?_|refine QV QeT ?_|refine QV QeF ?_|refine QV QnT ?_|refine QV QnF ?_|refine QV QL ?_|refine QV QgT ?_|refine QV QgF ?_))
      exact E_retc3 (i := 2) rfl rfl rfl rfl rfl rfl fun w hm => hm.meets (S := endS (seen : Int) (0, out1)) vo2 trivial [5] (by decide) rfl
    · rw [end_sym hD]
      repeat(first|refine QV QP ?_|refine QZ ?_|refine qcT rfl ?_|refine qcF rfl ?_|refine qs rfl rfl rfl rfl rfl rfl ?_|((try refine qg rfl rfl rfl ?_);first|refine QV QP ?_|refine QV (rr_load1 (v := vt2) TyC.ty rfl (at_blk (i := 3) rfl rfl)) ?_|refine QV (rr_eql (b := true) rfl rfl rfl) ?_|refine QV (rr_load1 (v := .int .i64 (seen : Int)) TyC.ty rfl (at_blk (i := 1) rfl rfl)) ?_|refine QV (rr_build rfl (build_clE _ _)) ?_|refine QV QA ?_|refine QV (rr_nilc rfl) ?_|refine QV QeT ?_|refine QV QeF ?_|refine QV QnT ?_|refine QV QnF ?_|refine QV (rr_rowlen (i := 4) Und.eq rfl rfl) ?_|refine QV (rr_gtr (b := true) rfl rfl (decide_eq_true (by rw [List.length_cons]; omega))) ?_|refine QV QL ?_|refine QV QgT ?_|refine QV QgF ?_))
      refine TL_storeB (i := 2) (cs' := #[.slice none 0 0, .int .i64 (seen : Int), .int .i64 13, .bool false]) rfl rfl rfl rfl rfl rfl ?_
      conv=>arg 8;simp only[zA,zB,zC,zD,zE,zF,zG,zH,zI,rowS,ret,id_eq]
      repeat(first|refine QV QP ?_|refine QZ ?_|refine qcT rfl ?_|refine qcF rfl ?_|refine qs rfl rfl rfl rfl rfl rfl ?_|((try refine qg rfl rfl rfl ?_);first|refine QV QP ?_|refine QV QA ?_|refine QV (rr_nilc rfl) ?_|refine QV QeT ?_|refine QV QeF ?_|refine QV QnT ?_|refine QV QnF ?_|refine QV QL ?_|refine QV QgT ?_|refine QV QgF ?_))
      exact E_retc3 (i := 2) rfl rfl rfl rfl rfl rfl fun w hm => hm.meets (S := endS (seen : Int) (13, [])) (.slice none 0 0) trivial [] (by decide) rfl
  · rw [end_bad hD (by decide)]
    repeat(first|refine QV QP ?_|refine QZ ?_|refine qcT rfl ?_|refine qcF rfl ?_|refine qs rfl rfl rfl rfl rfl rfl ?_|((try refine qg rfl rfl rfl ?_);first|refine QV QP ?_|refine QV (rr_load1 (v := .int .i64 (seen : Int)) TyC.ty rfl (at_blk (i := 1) rfl rfl)) ?_|refine QV (rr_build rfl (build_clE _ _)) ?_|refine QV QA ?_|refine QV (rr_nilc rfl) ?_|refine QV QeT ?_|refine QV QeF ?_|refine QV QnT ?_|refine QV QnF ?_|refine QV QL ?_|refine QV QgT ?_|refine QV QgF ?_))
    refine TL_storeB (i := 2) (cs' := #[.slice none 0 0, .int .i64 (seen : Int), .int .i64 13, .bool false]) rfl rfl rfl rfl rfl rfl ?_
    conv=>arg 8;simp only[zA,zB,zC,zD,zE,zF,zG,zH,zI,rowS,ret,id_eq]
    repeat(first|refine QV QP ?_|refine QZ ?_|refine qcT rfl ?_|refine qcF rfl ?_|refine qs rfl rfl rfl rfl rfl rfl ?_|((try refine qg rfl rfl rfl ?_);first|refine QV QP ?_|refine QV QA ?_|refine QV (rr_nilc rfl) ?_|refine QV QeT ?_|refine QV QeF ?_|refine QV QnT ?_|refine QV QnF ?_|refine QV QL ?_|refine QV QgT ?_|refine QV QgF ?_))
    exact E_retc3 (i := 2) rfl rfl rfl rfl rfl rfl fun w hm => hm.meets (S := endS (seen : Int) (13, [])) (.slice none 0 0) trivial [] (by decide) rfl
  · rw [end_bad hD (by decide)]
    repeat(first|refine QV QP ?_|refine QZ ?_|refine qcT rfl ?_|refine qcF rfl ?_|refine qs rfl rfl rfl rfl rfl rfl ?_|((try refine qg rfl rfl rfl ?_);first|refine QV QP ?_|refine QV (rr_load1 (v := .int .i64 (seen : Int)) TyC.ty rfl (at_blk (i := 1) rfl rfl)) ?_|refine QV (rr_build rfl (build_clE _ _)) ?_|refine QV QA ?_|refine QV (rr_nilc rfl) ?_|refine QV QeT ?_|refine QV QeF ?_|refine QV QnT ?_|refine QV QnF ?_|refine QV QL ?_|refine QV QgT ?_|refine QV QgF ?_))
    refine TL_storeB (i := 2) (cs' := #[.slice none 0 0, .int .i64 (seen : Int), .int .i64 14, .bool false]) rfl rfl rfl rfl rfl rfl ?_
    conv=>arg 8;simp only[zA,zB,zC,zD,zE,zF,zG,zH,zI,rowS,ret,id_eq]
    repeat(first|refine QV QP ?_|refine QZ ?_|refine qcT rfl ?_|refine qcF rfl ?_|refine qs rfl rfl rfl rfl rfl rfl ?_|((try refine qg rfl rfl rfl ?_);first|refine QV QP ?_|refine QV QA ?_|refine QV (rr_nilc rfl) ?_|refine QV QeT ?_|refine QV QeF ?_|refine QV QnT ?_|refine QV QnF ?_|refine QV QL ?_|refine QV QgT ?_|refine QV QgF ?_))
    exact E_retc3 (i := 2) rfl rfl rfl rfl rfl rfl fun w hm => hm.meets (S := endS (seen : Int) (14, [])) (.slice none 0 0) trivial [] (by decide) rfl
end Go.Proofs.Ytlojfbnimmdehaa.eng

