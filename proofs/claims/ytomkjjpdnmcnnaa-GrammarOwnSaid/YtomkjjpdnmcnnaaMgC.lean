/- Part 3 of what GrammarOwn needs: ItL, ItM, ItB, ItI, Map, WrG, GramMW, CountL, CountN, TreeW, FactsQ, CountX, LlL, LrL, MapE, KeyG, ItC, OrdK, OrdJ, ItH, ItN, StrK, MapN, ClassL, RexL, RexS, PlN, ClassB, PlR, ItO, Els, Fam, TreeS, Look, CountC, CountD, LlM. -/
import Derived.Test.YtomkjjpdnmcnnaaMgB
import Derived.WalkKit
import Derived.WalkSpells
import Derived.WalkLawsBesides
import Derived.Deep.RegionLaw
import Derived.Deep.AppendLies
import Derived.Deep.QuietTactic
import Derived.BigQuiet
import Derived.Deep.DeepCutAuto
import Derived.Lib.Hide
import Derived.Test.YtomkjjpdnmcnnaaRows
import Derived.ProofKit
import Derived.OpenShut
import Derived.ShutString
import Derived.SizedLaws
import Derived.JoinedCond
import Derived.Deep.CondSized
import Derived.Deep.Quiet
import Derived.StillTail
import Derived.Deep.LoopGhost
import Derived.Laws.BitsLemmas
import Derived.Laws.BytesString
import Derived.Test.YtomkjjpdnmcnnaaProg
import Derived.Laws.StructEq
import Derived.Laws.MakeOwn
import Derived.Laws.AppendOwn
import Derived.Laws.Entries
import Derived.Maps.OwnSet
import Derived.DeepKeys4
import Derived.WideKeyEntry
import Derived.Sort.Grow
import Derived.Lib.Walk
import Derived.Deep.RegionWith
import Derived.Deep.RegionHeld
import Derived.StringKeys
import Derived.Laws.BitsAllLaws
/- ItL -/
namespace Go.Proofs.Ytomkjjpdnmcnnaa.itemL
open gramL treeL smallL
/-- production, dot, look -/
abbrev Item := Int × Int × Int
def cmpI (a b : Int) : Int := if a < b then -1 else if b < a then 1 else 0
/-- one behind the other -/
def ordI (a b : Item) : Int := if cmpI a.1 b.1 ≠ 0 then cmpI a.1 b.1 else if cmpI a.2.1 b.2.1 ≠ 0 then cmpI a.2.1 b.2.1 else cmpI a.2.2 b.2.2
def ltI (a b : Item) : Bool := decide (ordI a b < 0)
theorem ltI_iff (a b : Item) : ltI a b = true ↔ a.1 < b.1 ∨ (a.1 = b.1 ∧ (a.2.1 < b.2.1 ∨ (a.2.1 = b.2.1 ∧ a.2.2 < b.2.2))) := by
  unfold ltI ordI cmpI
  rw [decide_eq_true_eq]
  repeat' split
  all_goals omega
theorem ltI_no (a b : Item) : ltI a b = false ↔ ¬ (a.1 < b.1 ∨ (a.1 = b.1 ∧ (a.2.1 < b.2.1 ∨ (a.2.1 = b.2.1 ∧ a.2.2 < b.2.2)))) := by
  rw [← ltI_iff, Bool.not_eq_true]
def leI (a b : Item) : Bool := !ltI b a
theorem leI_iff (a b : Item) : leI a b = true ↔ ¬ (b.1 < a.1 ∨ (b.1 = a.1 ∧ (b.2.1 < a.2.1 ∨ (b.2.1 = a.2.1 ∧ b.2.2 < a.2.2)))) := by
  unfold leI
  rw [Bool.not_eq_true', ltI_no]
theorem leI_trans (a b c : Item) (h1 : leI a b = true) (h2 : leI b c = true) : leI a c = true := by
  rw [leI_iff] at *; omega
theorem leI_total (a b : Item) : (leI a b || leI b a) = true := by
  rw [Bool.or_eq_true, leI_iff, leI_iff]; omega
theorem leI_anti {a b : Item} (h1 : leI a b = true) (h2 : leI b a = true) : a = b := by
  rw [leI_iff] at *
  obtain ⟨a1, a2, a3⟩ := a
  obtain ⟨b1, b2, b3⟩ := b
  dsimp only at h1 h2
  rw [Prod.mk.injEq, Prod.mk.injEq]
  omega
theorem ltI_parts (x y : Item) (h1 : ltI x y = false) (h2 : ltI y x = false) : x = y := leI_anti (by unfold leI; rw [h2]; rfl) (by unfold leI; rw [h1]; rfl)
/-- lists that rise: one list for one set -/
def RisI (l : List Item) : Prop := l.Pairwise fun a b => ltI a b = true
theorem ltI_irr (a : Item) : ltI a a = false := by rw [ltI_no]; omega
theorem ltI_tr {a b c : Item} (h1 : ltI a b = true) (h2 : ltI b c = true) : ltI a c = true := by
  rw [ltI_iff] at *; omega
theorem ris_nodup {l : List Item} (h : RisI l) : l.Nodup := h.imp fun {a b} hab e => by subst e; rw [ltI_irr] at hab; cases hab
def sortI (l : List Item) : List Item := l.mergeSort leI
theorem sort_mem {l : List Item} {x : Item} : x ∈ sortI l ↔ x ∈ l := (List.mergeSort_perm l leI).mem_iff
theorem sort_len (l : List Item) : (sortI l).length = l.length := List.length_mergeSort _
theorem sort_ris {l : List Item} (h : l.Nodup) : RisI (sortI l) := by
  have h1 : (sortI l).Pairwise fun a b => leI a b = true := List.pairwise_mergeSort leI_trans leI_total l
  have h2 : (sortI l).Nodup := (List.mergeSort_perm l leI).nodup_iff.2 h
  refine (h1.and h2).imp fun {a b} hab => ?_
  cases e : ltI a b with
  | true => rfl
  | false => exact absurd (leI_anti hab.1 (by unfold leI; rw [e]; rfl)) hab.2
section
variable (l : List gramL.Prod) (T : Nat) (lk : Int → Int → Nat)
/-- a production's body; the WHOLE's too -/
def bodyI (p : Int) : List Sym := if p = (l.length : Int) then [(2, 0)] else (prodAt l p).2
/-- the symbol behind the dot -/
def nextS (it : Item) : Option Sym := (bodyI l it.1)[it.2.1.toNat]?
/-- looks of what comes up behind it -/
def looksI (it : Item) : Nat := if (lk it.1 it.2.1).testBit 62 = true then (lk it.1 it.2.1 ^^^ 2 ^ 62) ||| 2 ^ it.2.2.toNat else lk it.1 it.2.1
def expLook (i : Nat) (bits : Nat) (out : List Item) : Nat → List Item
  | 0 => out
  | k + 1 => if bits.testBit k = true then more (expLook i bits out k) ((i : Int), 0, (k : Int)) else expLook i bits out k
def expProd (N : Int) (bits : Nat) (out : List Item) : Nat → List Item
  | 0 => out
  | i + 1 => if (prodAt l (i : Int)).1 = N then expLook i bits (expProd N bits out i) (T + 1) else expProd N bits out i
def expI (it : Item) (out : List Item) : List Item := match nextS l it with
  | some x => if x.1 = 2 then expProd l T x.2 (looksI lk it) out l.length else out
  | none => out
def workI : Nat → Nat → List Item → List Item
  | 0, _, out => out
  | f + 1, n, out => if n < out.length then workI f (n + 1) (expI l T lk (out.getD n (0, 0, 0)) out) else out
def closedI (l0 : List Item) : List Item := sortI (workI l T lk 12000 0 (firsts [] l0))
/-- what comes of an item -/
def ExpI (it x : Item) : Prop := ∃ N : Int, ∃ i k : Nat, nextS l it = some (2, N) ∧ i < l.length ∧ (prodAt l (i : Int)).1 = N ∧ k ≤ T ∧ (looksI lk it).testBit k = true ∧ x = ((i : Int), 0, (k : Int))
inductive Cl (l0 : List Item) : Item → Prop
  | base {x : Item} (h : x ∈ l0) : Cl l0 x
  | step {it x : Item} (h : Cl l0 it) (hx : ExpI l T lk it x) : Cl l0 x
def RightI (it : Item) : Prop := 0 ≤ it.1 ∧ it.1 ≤ (l.length : Int) ∧ 0 ≤ it.2.1 ∧ it.2.1 ≤ ((bodyI l it.1).length : Int) ∧ 0 ≤ it.2.2 ∧ it.2.2 ≤ (T : Int)
end
section
variable {l : List gramL.Prod} {T : Nat} {lk : Int → Int → Nat}
theorem expLook_mem {i bits : Nat} {out : List Item} {x : Item} : ∀ k, x ∈ expLook i bits out k ↔ x ∈ out ∨ ∃ j, j < k ∧ bits.testBit j = true ∧ x = ((i : Int), 0, (j : Int))
  | 0 => ⟨.inl, fun h => h.elim id fun ⟨j, hj, _⟩ => absurd hj (Nat.not_lt_zero j)⟩
  | k + 1 => by
    rw [expLook]
    by_cases c : bits.testBit k = true
    · rw [if_pos c, mem_more, expLook_mem k]
      constructor
      · rintro ((h | ⟨j, h1, h2⟩) | h)
        · exact .inl h
        · exact .inr ⟨j, by omega, h2⟩
        · exact .inr ⟨k, by omega, c, h⟩
      · rintro (h | ⟨j, h1, h2, h3⟩)
        · exact .inl (.inl h)
        · by_cases e : j = k
          · subst e; exact .inr h3
          · exact .inl (.inr ⟨j, by omega, h2, h3⟩)
    · rw [if_neg c, expLook_mem k]
      constructor
      · rintro (h | ⟨j, h1, h2⟩)
        · exact .inl h
        · exact .inr ⟨j, by omega, h2⟩
      · rintro (h | ⟨j, h1, h2, h3⟩)
        · exact .inl h
        · by_cases e : j = k
          · subst e; exact absurd h2 c
          · exact .inr ⟨j, by omega, h2, h3⟩
theorem expLook_pre (i bits : Nat) (out : List Item) : ∀ k, ∃ E, expLook i bits out k = out ++ E
  | 0 => ⟨[], (List.append_nil _).symm⟩
  | k + 1 => by
    rw [expLook]
    obtain ⟨E, h⟩ := expLook_pre i bits out k
    split
    · obtain ⟨E2, h2⟩ := more_pre (expLook i bits out k) (((i : Int), 0, (k : Int)) : Item)
      exact ⟨E ++ E2, by rw [h2, h, List.append_assoc]⟩
    · exact ⟨E, h⟩
theorem expLook_nodup {i bits : Nat} {out : List Item} (h : out.Nodup) : ∀ k, (expLook i bits out k).Nodup
  | 0 => h
  | k + 1 => by
    rw [expLook]
    split
    · exact more_nodup (expLook_nodup h k)
    · exact expLook_nodup h k
theorem expProd_mem {N : Int} {bits : Nat} {out : List Item} {x : Item} : ∀ n, x ∈ expProd l T N bits out n ↔ x ∈ out ∨ ∃ i k : Nat, i < n ∧ (prodAt l (i : Int)).1 = N ∧ k ≤ T ∧ bits.testBit k = true ∧ x = ((i : Int), 0, (k : Int))
  | 0 => ⟨.inl, fun h => h.elim id fun ⟨j, _, hj, _⟩ => absurd hj (Nat.not_lt_zero j)⟩
  | n + 1 => by
    rw [expProd]
    by_cases c : (prodAt l (n : Int)).1 = N
    · rw [if_pos c, expLook_mem, expProd_mem n]
      constructor
      · rintro ((h | ⟨i, k, h1, h2⟩) | ⟨j, h1, h2, h3⟩)
        · exact .inl h
        · exact .inr ⟨i, k, by omega, h2⟩
        · exact .inr ⟨n, j, by omega, c, by omega, h2, h3⟩
      · rintro (h | ⟨i, k, h1, h2, h3, h4, h5⟩)
        · exact .inl (.inl h)
        · by_cases e : i = n
          · subst e; exact .inr ⟨k, by omega, h4, h5⟩
          · exact .inl (.inr ⟨i, k, by omega, h2, h3, h4, h5⟩)
    · rw [if_neg c, expProd_mem n]
      constructor
      · rintro (h | ⟨i, k, h1, h2⟩)
        · exact .inl h
        · exact .inr ⟨i, k, by omega, h2⟩
      · rintro (h | ⟨i, k, h1, h2, h3⟩)
        · exact .inl h
        · by_cases e : i = n
          · subst e; exact absurd h2 c
          · exact .inr ⟨i, k, by omega, h2, h3⟩
theorem expProd_pre (N : Int) (bits : Nat) (out : List Item) : ∀ n, ∃ E, expProd l T N bits out n = out ++ E
  | 0 => ⟨[], (List.append_nil _).symm⟩
  | n + 1 => by
    rw [expProd]
    obtain ⟨E, h⟩ := expProd_pre N bits out n
    split
    · obtain ⟨E2, h2⟩ := expLook_pre n bits (expProd l T N bits out n) (T + 1)
      exact ⟨E ++ E2, by rw [h2, h, List.append_assoc]⟩
    · exact ⟨E, h⟩
theorem expProd_nodup {N : Int} {bits : Nat} {out : List Item} (h : out.Nodup) : ∀ n, (expProd l T N bits out n).Nodup
  | 0 => h
  | n + 1 => by
    rw [expProd]
    split
    · exact expLook_nodup (expProd_nodup h n) _
    · exact expProd_nodup h n
theorem exp_mem {it : Item} {out : List Item} {x : Item} : x ∈ expI l T lk it out ↔ x ∈ out ∨ ExpI l T lk it x := by
  unfold expI ExpI
  cases e : nextS l it with
  | none => exact ⟨.inl, fun h => h.elim id fun ⟨_, _, _, h, _⟩ => by cases h⟩
  | some s =>
    obtain ⟨k, N⟩ := s
    dsimp only
    by_cases c : k = 2
    · subst c
      rw [if_pos rfl, expProd_mem]
      constructor
      · rintro (h | ⟨i, j, h1, h2, h3, h4, h5⟩)
        · exact .inl h
        · exact .inr ⟨N, i, j, rfl, h1, h2, h3, h4, h5⟩
      · rintro (h | ⟨N', i, j, h0, h1, h2, h3, h4, h5⟩)
        · exact .inl h
        · simp only [Option.some.injEq, Prod.mk.injEq, true_and] at h0
          subst h0
          exact .inr ⟨i, j, h1, h2, h3, h4, h5⟩
    · rw [if_neg c]
      refine ⟨.inl, fun h => h.elim id fun ⟨N', _, _, h, _⟩ => ?_⟩
      simp only [Option.some.injEq, Prod.mk.injEq] at h
      exact absurd h.1 c
theorem exp_pre (it : Item) (out : List Item) : ∃ E, expI l T lk it out = out ++ E := by
  unfold expI
  split
  · split
    · exact expProd_pre _ _ _ _
    · exact ⟨[], (List.append_nil _).symm⟩
  · exact ⟨[], (List.append_nil _).symm⟩
theorem exp_nodup {it : Item} {out : List Item} (h : out.Nodup) : (expI l T lk it out).Nodup := by
  unfold expI
  split
  · split
    · exact expProd_nodup h _
    · exact h
  · exact h
/-! ### as many as there may be -/
theorem body_len {p : Int} (hw : ∀ q ∈ l, q.2.length ≤ 8) : (bodyI l p).length ≤ 8 := by
  unfold bodyI
  split
  · decide
  · unfold prodAt
    rw [List.getD_eq_getElem?_getD]
    cases e : l[p.toNat]? with
    | none => exact Nat.zero_le _
    | some q => exact hw q (List.mem_of_getElem? e)
theorem right_exp {it x : Item} (h : ExpI l T lk it x) : RightI l T x := by
  obtain ⟨N, i, k, _, h2, _, h4, _, rfl⟩ := h
  exact ⟨by dsimp only; omega, by dsimp only; omega, Int.le_refl _, by dsimp only; omega, by dsimp only; omega, by dsimp only; omega⟩
theorem right_cl {l0 : List Item} (h0 : ∀ x ∈ l0, RightI l T x) {x : Item} (h : Cl l T lk l0 x) : RightI l T x := by
  cases h with
  | base h => exact h0 x h
  | step _ hx => exact right_exp hx
theorem items_few {out : List Item} (hw : ∀ q ∈ l, q.2.length ≤ 8) (hl : l.length ≤ 40) (hT : T ≤ 30) (hn : out.Nodup) (hr : ∀ x ∈ out, RightI l T x) : out.length ≤ 11439 := by
  have := nodup_bound (l := out.map fun x : Item => x.1.toNat * 279 + x.2.1.toNat * 31 + x.2.2.toNat) (m := 11439) ?_ ?_
  · rwa [List.length_map] at this
  · rw [List.nodup_iff_pairwise_ne, List.pairwise_map]
    refine (List.Pairwise.and_mem.1 hn).imp fun {a b} hab e => hab.2.2 ?_
    have ha := hr a hab.1
    have hb := hr b hab.2.1
    have ha8 := body_len (p := a.1) hw
    have hb8 := body_len (p := b.1) hw
    unfold RightI at ha hb
    obtain ⟨a1, a2, a3⟩ := a
    obtain ⟨b1, b2, b3⟩ := b
    dsimp only at *
    rw [Prod.mk.injEq, Prod.mk.injEq]
    omega
  · intro x hx
    obtain ⟨a, ha, rfl⟩ := List.mem_map.1 hx
    have h1 := hr a ha
    have h8 := body_len (p := a.1) hw
    unfold RightI at h1
    omega
/-! ### what is come to -/
structure WkI (l : List gramL.Prod) (T : Nat) (lk : Int → Int → Nat) (l0 : List Item) (n : Nat) (out : List Item) : Prop where
  nd : out.Nodup
  le : n ≤ out.length
  has : ∀ x ∈ l0, x ∈ out
  cl : ∀ x ∈ out, Cl l T lk l0 x
  shut : ∀ j (h : j < out.length), j < n → ∀ x, ExpI l T lk out[j] x → x ∈ out
theorem wk_step {l0 : List Item} {n : Nat} {out : List Item} (h : WkI l T lk l0 n out) (hn : n < out.length) : WkI l T lk l0 (n + 1) (expI l T lk out[n] out) := by
  obtain ⟨E, hE⟩ := exp_pre (l := l) (T := T) (lk := lk) out[n] out
  have hlen : out.length ≤ (expI l T lk out[n] out).length := by rw [hE, List.length_append]; omega
  have hget : ∀ j (h : j < out.length), (expI l T lk out[n] out)[j]'(by omega) = out[j] := fun j hj => by
    simp only [hE, List.getElem_append_left hj]
  refine ⟨exp_nodup h.nd, by omega, fun x hx => exp_mem.2 (.inl (h.has x hx)), fun x hx => ?_, fun j hj hjn x hx => ?_⟩
  · rcases exp_mem.1 hx with h1 | h1
    · exact h.cl x h1
    · exact .step (h.cl _ (List.getElem_mem hn)) h1
  · have hj' : j < out.length := by omega
    rw [hget j hj'] at hx
    by_cases e : j = n
    · subst e; exact exp_mem.2 (.inr hx)
    · exact exp_mem.2 (.inl (h.shut j hj' (by omega) x hx))
theorem work_law {l0 : List Item} (hw : ∀ q ∈ l, q.2.length ≤ 8) (hl : l.length ≤ 40) (hT : T ≤ 30) (h0 : ∀ x ∈ l0, RightI l T x) : ∀ (f n : Nat) (out : List Item), 11440 ≤ f + n → WkI l T lk l0 n out → WkI l T lk l0 (workI l T lk f n out).length (workI l T lk f n out)
  | 0, n, out, hf, h => by
    have := items_few hw hl hT h.nd fun x hx => right_cl h0 (h.cl x hx)
    have := h.le
    omega
  | f + 1, n, out, hf, h => by
    rw [workI]
    by_cases c : n < out.length
    · rw [if_pos c, List.getD_eq_getElem?_getD, List.getElem?_eq_getElem c, Option.getD_some]
      exact work_law hw hl hT h0 f (n + 1) _ (by omega) (wk_step h c)
    · rw [if_neg c]
      have := h.le
      rw [show out.length = n by omega]; exact h
theorem wk_start (l0 : List Item) : WkI l T lk l0 0 (firsts [] l0) :=
  ⟨firsts_nodup l0 [] List.nodup_nil, Nat.zero_le _, fun x hx => mem_firsts.2 (.inr hx), fun x hx => .base ((mem_firsts.1 hx).resolve_left (by simp)), fun j _ h => absurd h (Nat.not_lt_zero j)⟩
section
variable (hw : ∀ q ∈ l, q.2.length ≤ 8) (hl : l.length ≤ 40) (hT : T ≤ 30)
include hw hl hT
theorem closed_mem {l0 : List Item} (h0 : ∀ x ∈ l0, RightI l T x) {x : Item} : x ∈ closedI l T lk l0 ↔ Cl l T lk l0 x := by
  unfold closedI
  rw [sort_mem]
  have h := work_law (lk := lk) hw hl hT h0 12000 0 _ (by omega) (wk_start l0)
  refine ⟨h.cl x, fun hx => ?_⟩
  induction hx with
  | base hb => exact h.has _ hb
  | step _ hx ih =>
    obtain ⟨j, hj, rfl⟩ := List.mem_iff_getElem.1 ih
    exact h.shut j hj hj _ hx
theorem closed_ris {l0 : List Item} (h0 : ∀ x ∈ l0, RightI l T x) : RisI (closedI l T lk l0) :=
  sort_ris (work_law (lk := lk) hw hl hT h0 12000 0 _ (by omega) (wk_start l0)).nd
theorem closed_right {l0 : List Item} (h0 : ∀ x ∈ l0, RightI l T x) : ∀ x ∈ closedI l T lk l0, RightI l T x := fun _ hx => right_cl h0 ((closed_mem hw hl hT h0).1 hx)
theorem closed_len {l0 : List Item} (h0 : ∀ x ∈ l0, RightI l T x) : (closedI l T lk l0).length ≤ 11439 :=
  items_few hw hl hT (ris_nodup (closed_ris hw hl hT h0)) (closed_right hw hl hT h0)
end
end
end Go.Proofs.Ytomkjjpdnmcnnaa.itemL

/- ItM -/
namespace Go.Proofs.Ytomkjjpdnmcnnaa.itemL
open gramL treeL smallL
def advI (it : Item) : Item := (it.1, it.2.1 + 1, it.2.2)
section
variable (l : List gramL.Prod) (T N : Nat) (lk : Int → Int → Nat)
/-- items whose dot has gone over x -/
def overI (s : List Item) (x : Sym) : List Item := (s.filter fun it => decide (nextS l it = some x)).map advI
def stepI (s : List Item) (x : Sym) : List Item := closedI l T lk (overI l s x)
def symsI : List Sym := (List.range T).map (fun n : Nat => ((1 : Int), (n : Int))) ++ (List.range N).map (fun n : Nat => ((2 : Int), (n : Int)))
def stateI (S : List (List Item)) (s : List Item) : Nat × List (List Item) := if s ∈ S then (idx S s, S) else (S.length, S ++ [s])
def cellI (s : List Item) (x : Sym) (S : List (List Item)) : Int × List (List Item) := if stepI l T lk s x = [] then (-1, S) else (((stateI S (stepI l T lk s x)).1 : Int), (stateI S (stepI l T lk s x)).2)
def rowI (s : List Item) : List Sym → List Int → List (List Item) → Option (List Int × List (List Item))
  | [], nx, S => some (nx, S)
  | x :: r, nx, S => if 200 < (cellI l T lk s x S).2.length then none else rowI s r (nx ++ [(cellI l T lk s x S).1]) (cellI l T lk s x S).2
def allTo : Nat → Nat → List (List Int) → List (List Item) → Option (List (List Int) × List (List Item))
  | 0, _, _, _ => none
  | f + 1, n, Nx, S => if n < S.length then (match rowI l T lk (S.getD n []) (symsI T N) [] S with
      | none => none
      | some (nx, S') => allTo f (n + 1) (Nx ++ [nx]) S') else some (Nx, S)
def startI : List Item := closedI l T lk [((l.length : Int), 0, (T : Int))]
def allI : Option (List (List Int) × List (List Item)) := allTo l T N lk 202 0 [] [startI l T lk]
end
theorem syms_len (T N : Nat) : (symsI T N).length = T + N := by unfold symsI; rw [List.length_append, List.length_map, List.length_map, List.length_range, List.length_range]
section
variable {l : List gramL.Prod} {T N : Nat} {lk : Int → Int → Nat}
theorem mem_over {s : List Item} {x : Sym} {y : Item} : y ∈ overI l s x ↔ ∃ it ∈ s, nextS l it = some x ∧ y = advI it := by
  unfold overI
  rw [List.mem_map]
  constructor
  · rintro ⟨it, h, rfl⟩
    rw [List.mem_filter, decide_eq_true_eq] at h
    exact ⟨it, h.1, h.2, rfl⟩
  · rintro ⟨it, h1, h2, rfl⟩
    exact ⟨it, List.mem_filter.2 ⟨h1, decide_eq_true h2⟩, rfl⟩
theorem over_right {s : List Item} {x : Sym} (hs : ∀ it ∈ s, RightI l T it) : ∀ y ∈ overI l s x, RightI l T y := by
  intro y hy
  obtain ⟨it, h1, h2, rfl⟩ := mem_over.1 hy
  have hr := hs it h1
  have hd := (List.getElem?_eq_some_iff.1 h2).1
  unfold RightI advI at *
  dsimp only
  omega
/-- states so far, each right -/
structure SsOk (l : List gramL.Prod) (T : Nat) (lk : Int → Int → Nat) (S : List (List Item)) : Prop where
  nd : S.Nodup
  right : ∀ s ∈ S, ∀ it ∈ s, RightI l T it
  shut : ∀ s ∈ S, ∀ it ∈ s, ∀ x, ExpI l T lk it x → x ∈ s
def CellI (l : List gramL.Prod) (T : Nat) (lk : Int → Int → Nat) (S : List (List Item)) (s : List Item) (x : Sym) (c : Int) : Prop :=
  (stepI l T lk s x = [] ∧ c = -1) ∨ (stepI l T lk s x ≠ [] ∧ stepI l T lk s x ∈ S ∧ c = (idx S (stepI l T lk s x) : Int))
theorem CellI.app {S : List (List Item)} {s : List Item} {x : Sym} {c : Int} (h : CellI l T lk S s x c) (E : List (List Item)) : CellI l T lk (S ++ E) s x c := by
  rcases h with h | ⟨h1, h2, h3⟩
  · exact .inl h
  · exact .inr ⟨h1, List.mem_append_left _ h2, by rw [h3, idx_pre h2]⟩
section
variable (hw : ∀ q ∈ l, q.2.length ≤ 8) (hl : l.length ≤ 40) (hT : T ≤ 30)
include hw hl hT
omit hw hl hT in
theorem state_lawI {S : List (List Item)} (hS : SsOk l T lk S) {s : List Item} (hs : ∀ it ∈ s, RightI l T it) (hsh : ∀ it ∈ s, ∀ x, ExpI l T lk it x → x ∈ s) : (∃ E, (stateI S s).2 = S ++ E) ∧ s ∈ (stateI S s).2 ∧ (stateI S s).1 = idx (stateI S s).2 s ∧ SsOk l T lk (stateI S s).2 := by
  unfold stateI
  by_cases c : s ∈ S
  · rw [if_pos c]
    exact ⟨⟨[], (List.append_nil _).symm⟩, c, rfl, hS⟩
  · rw [if_neg c]
    refine ⟨⟨[s], rfl⟩, List.mem_append_right _ (List.mem_singleton.2 rfl), ?_, ?_, ?_, ?_⟩
    · show S.length = idx (S ++ [s]) s
      have := idx_more (D := S) (k := s)
      unfold more at this
      rw [if_neg c, if_neg c] at this
      exact this.symm
    · rw [List.nodup_append]
      exact ⟨hS.nd, by simp, fun a ha b hb e => by rw [List.mem_singleton.1 hb] at e; subst e; exact c ha⟩
    · intro s' hs' it hit
      rcases List.mem_append.1 hs' with h | h
      · exact hS.right s' h it hit
      · rw [List.mem_singleton.1 h] at hit; exact hs it hit
    · intro s' hs' it hit x hx
      rcases List.mem_append.1 hs' with h | h
      · exact hS.shut s' h it hit x hx
      · rw [List.mem_singleton.1 h] at hit ⊢; exact hsh it hit x hx
theorem closed_shut {l0 : List Item} (h0 : ∀ x ∈ l0, RightI l T x) : ∀ it ∈ closedI l T lk l0, ∀ x, ExpI l T lk it x → x ∈ closedI l T lk l0 := fun _ hit _ hx =>
  (closed_mem hw hl hT h0).2 (.step ((closed_mem hw hl hT h0).1 hit) hx)
theorem cell_lawI {S : List (List Item)} (hS : SsOk l T lk S) {s : List Item} (hs : ∀ it ∈ s, RightI l T it) (x : Sym) : (∃ E, (cellI l T lk s x S).2 = S ++ E) ∧ CellI l T lk (cellI l T lk s x S).2 s x (cellI l T lk s x S).1 ∧ SsOk l T lk (cellI l T lk s x S).2 := by
  unfold cellI
  by_cases c : stepI l T lk s x = []
  · rw [if_pos c]
    exact ⟨⟨[], (List.append_nil _).symm⟩, .inl ⟨c, rfl⟩, hS⟩
  · rw [if_neg c]
    obtain ⟨h1, h2, h3, h4⟩ := state_lawI hS (closed_right (lk := lk) hw hl hT (over_right (x := x) hs)) (closed_shut hw hl hT (over_right (x := x) hs))
    exact ⟨h1, .inr ⟨c, h2, congrArg _ h3⟩, h4⟩
theorem row_lawI {s : List Item} (hs : ∀ it ∈ s, RightI l T it) : ∀ (xs : List Sym) (nx : List Int) (S : List (List Item)) (done : List Sym) (nx' : List Int) (S' : List (List Item)), SsOk l T lk S → rowI l T lk s xs nx S = some (nx', S') → S.length ≤ 200 → nx.length = done.length → (∀ k x, done[k]? = some x → CellI l T lk S s x (nx.getD k 0)) →
    (∃ E, S' = S ++ E) ∧ SsOk l T lk S' ∧ S'.length ≤ 200 ∧ nx'.length = (done ++ xs).length ∧ ∀ k x, (done ++ xs)[k]? = some x → CellI l T lk S' s x (nx'.getD k 0)
  | [], nx, S, done, nx', S', hS, h, h200, hlen, hd => by
    simp only [rowI, Option.some.injEq, Prod.mk.injEq] at h
    obtain ⟨rfl, rfl⟩ := h
    rw [List.append_nil]
    exact ⟨⟨[], (List.append_nil _).symm⟩, hS, h200, hlen, hd⟩
  | x :: xs, nx, S, done, nx', S', hS, h, h200, hlen, hd => by
    rw [rowI] at h
    by_cases c : 200 < (cellI l T lk s x S).2.length
    · rw [if_pos c] at h; cases h
    · rw [if_neg c] at h
      obtain ⟨⟨E, h1⟩, h2, h3⟩ := cell_lawI (lk := lk) hw hl hT hS hs x
      obtain ⟨⟨E2, q1⟩, q2, q3, q4, q5⟩ := row_lawI hs xs (nx ++ [(cellI l T lk s x S).1]) _ (done ++ [x]) nx' S' h3 h (by omega) (by rw [List.length_append, List.length_append, hlen]; rfl) (fun k y hk => by
        by_cases ek : k < done.length
        · rw [List.getElem?_append_left ek] at hk
          rw [getD_left (by omega), h1]
          exact (hd k y hk).app E
        · have hk' := (List.getElem?_eq_some_iff.1 hk).1
          rw [List.length_append, List.length_singleton] at hk'
          obtain rfl : k = done.length := by omega
          rw [List.getElem?_append_right (Nat.le_refl _), Nat.sub_self] at hk
          simp only [List.getElem?_cons_zero, Option.some.injEq] at hk
          subst hk
          rw [getD_right (by omega), hlen, Nat.sub_self]
          exact h2)
      rw [List.append_assoc, List.singleton_append] at q4 q5
      exact ⟨⟨E ++ E2, by rw [q1, h1, List.append_assoc]⟩, q2, q3, q4, q5⟩
/-- what has been made of all -/
structure AllI (l : List gramL.Prod) (T N : Nat) (lk : Int → Int → Nat) (n : Nat) (Nx : List (List Int)) (S : List (List Item)) : Prop where
  ss : SsOk l T lk S
  few : S.length ≤ 200
  le : n ≤ S.length
  len : Nx.length = n
  start : S[0]? = some (startI l T lk)
  wide : ∀ q, q < n → (Nx.getD q []).length = T + N
  cell : ∀ q, q < n → ∀ k x, (symsI T N)[k]? = some x → CellI l T lk S (S.getD q []) x ((Nx.getD q []).getD k 0)
theorem all_lawI : ∀ (f n : Nat) (Nx : List (List Int)) (S : List (List Item)) (Nx' : List (List Int)) (S' : List (List Item)), allTo l T N lk f n Nx S = some (Nx', S') → AllI l T N lk n Nx S → AllI l T N lk S'.length Nx' S'
  | 0, _, _, _, _, _, h, _ => by cases h
  | f + 1, n, Nx, S, Nx', S', h, hi => by
    rw [allTo] at h
    by_cases c : n < S.length
    · rw [if_pos c] at h
      have hget : S.getD n [] = S[n] := by rw [List.getD_eq_getElem?_getD, List.getElem?_eq_getElem c]; rfl
      have hs : ∀ it ∈ S.getD n [], RightI l T it := by rw [hget]; exact hi.ss.right _ (List.getElem_mem c)
      cases e : rowI l T lk (S.getD n []) (symsI T N) [] S with
      | none => rw [e] at h; cases h
      | some r =>
        obtain ⟨nx, S1⟩ := r
        rw [e] at h
        dsimp only at h
        obtain ⟨⟨E, q1⟩, q2, q3, q4, q5⟩ := row_lawI (lk := lk) hw hl hT hs (symsI T N) [] S [] nx S1 hi.ss e hi.few rfl (fun k x hk => by simp at hk)
        rw [List.nil_append] at q4 q5
        have hlen := congrArg List.length q1
        rw [List.length_append] at hlen
        refine all_lawI f (n + 1) _ S1 Nx' S' h ⟨q2, q3, by omega, by rw [List.length_append, hi.len]; rfl, ?_, fun q hq => ?_, fun q hq k x hk => ?_⟩
        · rw [q1, List.getElem?_append_left (by have := (List.getElem?_eq_some_iff.1 hi.start).1; omega)]; exact hi.start
        · by_cases eq : q = n
          · subst eq
            rw [getD_right (by rw [hi.len]; exact Nat.le_refl _), hi.len, Nat.sub_self]
            show nx.length = T + N
            rw [q4, syms_len]
          · rw [getD_left (by rw [hi.len]; omega)]; exact hi.wide q (by omega)
        · by_cases eq : q = n
          · subst eq
            rw [getD_right (by rw [hi.len]; exact Nat.le_refl _), hi.len, Nat.sub_self]
            have e1 : S1.getD q [] = S.getD q [] := by rw [q1, getD_left c]
            rw [e1]
            exact q5 k x hk
          · rw [getD_left (by rw [hi.len]; omega)]
            have e1 : S1.getD q [] = S.getD q [] := by rw [q1, getD_left (by omega)]
            rw [e1, q1]
            exact (hi.cell q (by omega) k x hk).app E
    · rw [if_neg c] at h
      simp only [Option.some.injEq, Prod.mk.injEq] at h
      obtain ⟨rfl, rfl⟩ := h
      have : n = S.length := by have := hi.le; omega
      rw [← this]; exact hi
omit hw in
theorem start_right : ∀ x ∈ [(((l.length : Int), 0, (T : Int)) : Item)], RightI l T x := by
  intro x hx
  rw [List.mem_singleton.1 hx]
  exact ⟨by dsimp only; omega, Int.le_refl _, Int.le_refl _, by dsimp only; omega, by dsimp only; omega, Int.le_refl _⟩
theorem allI_law {Nx : List (List Int)} {S : List (List Item)} (h : allI l T N lk = some (Nx, S)) : AllI l T N lk S.length Nx S :=
  all_lawI hw hl hT 202 0 [] [startI l T lk] Nx S h
    ⟨⟨by simp, fun s hs it hit => by rw [List.mem_singleton.1 hs] at hit; exact closed_right (lk := lk) hw hl hT (start_right hl hT) it hit, fun s hs it hit x hx => by rw [List.mem_singleton.1 hs] at hit ⊢; exact closed_shut hw hl hT (start_right hl hT) it hit x hx⟩, by simp, Nat.zero_le _, rfl, rfl, fun q hq => absurd hq (Nat.not_lt_zero q), fun q hq => absurd hq (Nat.not_lt_zero q)⟩
end
end
/-! ### names of lists -/
def nameI (s : List Item) : List UInt8 := s.flatMap fun it => [UInt8.ofNat it.1.toNat, UInt8.ofNat it.2.1.toNat, UInt8.ofNat it.2.2.toNat]
theorem u8_inj {a b : Int} (ha : 0 ≤ a ∧ a < 256) (hb : 0 ≤ b ∧ b < 256) (h : UInt8.ofNat a.toNat = UInt8.ofNat b.toNat) : a = b := by
  have := congrArg UInt8.toNat h
  rw [UInt8.toNat_ofNat', UInt8.toNat_ofNat'] at this
  omega
theorem name_inj : ∀ {s s' : List Item}, (∀ it ∈ s, 0 ≤ it.1 ∧ it.1 < 256 ∧ 0 ≤ it.2.1 ∧ it.2.1 < 256 ∧ 0 ≤ it.2.2 ∧ it.2.2 < 256) → (∀ it ∈ s', 0 ≤ it.1 ∧ it.1 < 256 ∧ 0 ≤ it.2.1 ∧ it.2.1 < 256 ∧ 0 ≤ it.2.2 ∧ it.2.2 < 256) → nameI s = nameI s' → s = s'
  | [], [], _, _, _ => rfl
  | [], b :: s', _, _, h => by simp [nameI] at h
  | a :: s, [], _, _, h => by simp [nameI] at h
  | a :: s, b :: s', h1, h2, h => by
    have ha := h1 a (List.mem_cons_self ..)
    have hb := h2 b (List.mem_cons_self ..)
    unfold nameI at h
    rw [List.flatMap_cons, List.flatMap_cons] at h
    simp only [List.cons_append, List.nil_append, List.cons.injEq] at h
    obtain ⟨e1, e2, e3, e4⟩ := h
    have e1 := u8_inj ⟨ha.1, ha.2.1⟩ ⟨hb.1, hb.2.1⟩ e1
    have e2 := u8_inj ⟨ha.2.2.1, ha.2.2.2.1⟩ ⟨hb.2.2.1, hb.2.2.2.1⟩ e2
    have e3 := u8_inj ⟨ha.2.2.2.2.1, ha.2.2.2.2.2⟩ ⟨hb.2.2.2.2.1, hb.2.2.2.2.2⟩ e3
    have e : a = b := by
      obtain ⟨a1, a2, a3⟩ := a
      obtain ⟨b1, b2, b3⟩ := b
      simp only at e1 e2 e3
      rw [e1, e2, e3]
    rw [e, name_inj (fun it hit => h1 it (List.mem_cons_of_mem _ hit)) (fun it hit => h2 it (List.mem_cons_of_mem _ hit)) e4]
end Go.Proofs.Ytomkjjpdnmcnnaa.itemL

/- ItB -/
namespace Go.Proofs.Ytomkjjpdnmcnnaa.eng
open Go.RowKit kit mix gramL treeL factsL itemL
def itC (x : itemL.Item) : List Value := [.int .i64 x.1, .int .i64 x.2.1, .int .i64 x.2.2]
theorem itC_len (x : itemL.Item) : (itC x).length = 3 := rfl
/-- the body of the WHOLE, or nothing -/
def bodO (x : Option Nat) : Own := match x with
  | some g => blkO g #[.int .i64 2, .int .i64 0] 60
  | none => ⟨none, fun _ => False, fun _ => True, fun _ _ k h => by rcases h with h | h; cases h; exact h.elim, fun _ _ _ _ _ => trivial⟩
def bodV (vb : Nat → Value) (n : Nat) (x : Option Nat) : Value := match x with
  | some g => .slice (some ⟨g, 0, none⟩) 1 1
  | none => vb n
/-- bodies that came in -/
def BodR (F : Nat → Prop) (w : World) (vb : Nat → Value) (l : List gramL.Prod) : Prop := ∀ i, i < l.length → SlF symS F w (vb i) (prodAt l (i : Int)).2
def bodyS (vb : Nat → Value) (n P : Nat) : Spec (Option Nat) := ⟨fun x => x.isSome = decide (n = P), fun x => bodV vb n x, fun x => [bodO x]⟩
/-- productions with their bodies -/
theorem prods_vb {F : Nat → Prop} {w : World} {vp : Value} {l : List gramL.Prod} (h : SlF prodS F w vp l) : ∃ (vb : Nat → Value) (bp : Option Addr) (cp : Nat), vp = .slice bp l.length cp ∧ l.length ≤ cp ∧ cp ≤ maxLen ∧ BodR F w vb l ∧ (0 < l.length → ∃ b off, bp = some ⟨b, off, none⟩ ∧ F b ∧ ∀ i, i < l.length → Rd w b (off + i * 2) [.int .i64 (prodAt l (i : Int)).1, vb i] ∧ kit.okI64 (prodAt l (i : Int)).1) := by
  obtain ⟨bp, cp, rfl, h1, h2, h3⟩ := h
  by_cases h0 : 0 < l.length
  · obtain ⟨b, off, rfl, hF, hr⟩ := h3 h0
    have key : ∀ i : Nat, ∃ v : Value, i < l.length → SlF symS F w v (prodAt l (i : Int)).2 ∧ Rd w b (off + i * 2) [.int .i64 (prodAt l (i : Int)).1, v] ∧ kit.okI64 (prodAt l (i : Int)).1 := fun i => by
      by_cases hi : i < l.length
      · obtain ⟨base, cap, q1, q2, q3⟩ := prod_at hr hi
        have e : prodAt l (i : Int) = l[i] := by unfold prodAt; rw [Int.toNat_natCast, List.getD_eq_getElem?_getD, List.getElem?_eq_getElem hi]; rfl
        exact ⟨_, fun _ => by rw [e]; exact ⟨q3, q1, q2⟩⟩
      · exact ⟨undef, fun h => absurd h hi⟩
    refine ⟨fun i => Classical.choose (key i), some ⟨b, off, none⟩, cp, rfl, h1, h2, fun i hi => (Classical.choose_spec (key i) hi).1, fun _ => ⟨b, off, rfl, hF, fun i hi => (Classical.choose_spec (key i) hi).2⟩⟩
  · exact ⟨fun _ => undef, bp, cp, rfl, h1, h2, fun i hi => absurd hi (by omega), fun h => absurd h h0⟩
theorem E_none {n : Nat} {W : Base} {e : Exit} {Q : Exit → Act → World → Prop} {fr : Fr} {L : List Own} (h : E n W e Q fr (L ++ [bodO none])) : E n W e Q fr L := ⟨fun a w hr hm => h.go a w hr ⟨hm.low, OwnsP.both hm.owns (OwnsP.one trivial fun k hk => by rcases hk with hk | hk; cases hk; exact hk.elim) fun i j o o' _ hj k _ hk => by
  match j, hj with
  | 0, hj =>
    simp only [List.getElem?_cons_zero, Option.some.injEq] at hj; subst hj
    rcases hk with hk | hk
    · cases hk
    · exact hk.elim
  | j + 1, hj => simp at hj⟩⟩
theorem build_symW (w : World) : (Instr.build 60 #[(0, .int .i64 2), (1, .int .i64 0)]).run Try.prog w = .ok (.agg #[.int .i64 2, .int .i64 0]) w := by kernel_rfl
set_option maxHeartbeats 4000000 in
theorem itBody_calls (t n : Int) (bp : Option Addr) (cp : Nat) (l : List gramL.Prod) (vb : Nat → Value) (w0 w : World) (B : Base) (k : Nat) (hk : k ≤ l.length) (ho : Old w0 B) (hm : Mem B [] w) (hvb : ∀ i, i < l.length → ∃ bb m cc, vb i = .slice bb m cc)
    (hr : 0 < l.length → ∃ b off, bp = some ⟨b, off, none⟩ ∧ ∀ i, i < l.length → Rd w0 b (off + i * 2) [.int .i64 (prodAt l (i : Int)).1, vb i]) :
    Calls Try.prog 44 #[graV t n (.slice bp l.length cp), .int .i64 (k : Int)] w (Meets (bodyS vb k l.length) w) := by
  have hb := build_symW
  have hr : ∀ i, i < l.length → ∃ b off, bp = some ⟨b, off, none⟩ ∧ Rd w b (off + i * 2) [.int .i64 (prodAt l (i : Int)).1, vb i] := fun i hi => by
    obtain ⟨b, off, q1, q2⟩ := hr (by omega)
    exact ⟨b, off, q1, fun j u hj => ho.cell hm (q2 i hi j u hj)⟩
  clear hm ho
  refine enter (args := [graV t n (.slice bp l.length cp), .int .i64 (k : Int)]) (n := 18) Try.func44 rfl rfl rfl ?_
  refine T_seq (T_region (TL_box rfl rfl rfl fun g2 => ?_))
  conv=>arg 8;simp only[zA,zB,zC,zD,zE,zF,zG,zH,zI,rowS,ret,id_eq]
  by_cases c : k = l.length
  · subst c
    repeat(first|refine QV QP ?_|refine QZ ?_|refine qcT rfl ?_|refine qcF rfl ?_|refine QV (rr_load1 (v := .slice bp l.length cp) TyC.ty rfl (at_blk (i := 0) rfl rfl)) ?_|refine QV (rr_eql (b := true) rfl rfl (decide_eq_true rfl)) ?_|refine QV (rr_build rfl hb) ?_|refine QV QL ?_|refine QV QA ?_|refine QV QeT ?_|refine QV QeF ?_)
    refine TL_litN (cs := #[.int .i64 2, .int .i64 0]) [.agg #[.int .i64 2, .int .i64 0]] rfl rfl rfl (by intro v hv; simp at hv; subst hv; rfl) rfl rfl rfl fun g11 => ?_
    conv=>arg 8;simp only[zA,zB,zC,zD,zE,zF,zG,zH,zI,rowS,ret,id_eq]
    repeat(first|refine QV QP ?_|refine QZ ?_|refine qcT rfl ?_|refine qcF rfl ?_|refine QV QL ?_|refine QV QA ?_|refine QV QeT ?_|refine QV QeF ?_)
    exact E_ret1 rfl rfl fun w hm => hm.meets (S := bodyS vb l.length l.length) (some g11) (by show true = decide (l.length = l.length); rw [decide_eq_true rfl]) [1] (by decide) rfl
  · obtain ⟨b, off, rfl, hrd⟩ := hr k (by omega)
    obtain ⟨bb, m, cc, hv⟩ := hvb k (by omega)
    have hat : ∀ (L : List Own), At w L ⟨b, off + k * 2 + 1, none⟩ (vb k) := fun L => at_rd hrd (j := 1) rfl
    have hlt : k < l.length := by omega
    repeat(first|refine QV QP ?_|refine QZ ?_|refine qcT rfl ?_|refine qcF rfl ?_|refine QV (rr_load1 (v := .slice (some ⟨b, off, none⟩) l.length cp) TyC.ty rfl (at_blk (i := 0) rfl rfl)) ?_|refine QV (rr_eql (b := false) rfl rfl (decide_eq_false (by omega))) ?_|refine QV (rr_idxc (j := k) Und.eq TyC.ty rfl rfl hlt) ?_|refine QV (rr_load1 (v := vb k) TyC.ty rfl (hat _)) ?_|refine QV QL ?_|refine QV QA ?_|refine QV QeT ?_|refine QV QeF ?_)
    refine E_none ?_
    exact E_ret1 rfl rfl fun w hm => hm.meets (S := bodyS vb k l.length) none (by show false = decide (k = l.length); rw [decide_eq_false c]) [1] (by decide) rfl
end Go.Proofs.Ytomkjjpdnmcnnaa.eng


/- ItI -/
namespace Go.Proofs.Ytomkjjpdnmcnnaa.eng
open Go.RowKit kit mix gramL
set_option maxRecDepth 100000
theorem opensM_item {H : Type} {M : Msr Try.prog H} {enc0 : TypeId × Value → H} {W : World} : OpensM M enc0 W 43 (fun cs x => cs = itC x ∧ kit.okI64 x.1 ∧ kit.okI64 x.2.1 ∧ kit.okI64 x.2.2) := fun fuel cs x h hm => by
  obtain ⟨hl, hfs⟩ := fieldM_of Try.underlying43 h hm
  have hl3 : cs.length = 3 := hl
  obtain ⟨k, e0, k1⟩ := hfs 0 _ rfl (opensM_i64 Try.underlying3)
  obtain ⟨q, e1, q1⟩ := hfs 1 _ rfl (opensM_i64 Try.underlying3)
  obtain ⟨r, e2, r1⟩ := hfs 2 _ rfl (opensM_i64 Try.underlying3)
  replace e0 : (cs.drop 0).take 1 = [.int .i64 k] := e0
  replace e1 : (cs.drop 1).take 1 = [.int .i64 q] := e1
  replace e2 : (cs.drop 2).take 1 = [.int .i64 r] := e2
  refine ⟨(k, q, r), ?_, k1, q1, r1⟩
  match cs, hl3 with
  | [x, y, z], _ =>
    simp only [List.drop_succ_cons, List.drop_zero, List.take_succ_cons, List.take_zero, List.cons.injEq, and_true] at e0 e1 e2
    subst e0 e1 e2
    rfl
theorem open_items {H : Type} {enc0 : TypeId × Value → H} {W : World} {base : Nat} {v : Value} {d : DataW H} {ps : List MemPlace} (hv : Value.okWide Try.prog W .any base 25 v) (h : DataW.Trod enc0 Try.prog W 0 (fun _ => true) true 25 v d ps) {ts : List TypeId} {ds : List (DataW H)} (hsz : (DataW.weightsEach Try.prog ts ds).all (· ≤ reachBytes) = true) (j : Nat) (hj : ts[j]? = some 25) (hd : ds[j]? = some d) :
    ∃ l : List itemL.Item, Sl W v l.length (l.flatMap itC) ∧ l.length * 24 ≤ 140737488351232 := by
  obtain ⟨l, h1, h2⟩ := topM_slice (M := weightM Try.prog H) (c := 3) Try.underlying25 (by kernel_rfl) (by decide) opensM_item (fun cs a h => by rw [h.1]; rfl) hv h (weightM_top hsz j hj hd)
  exact ⟨l, h1.flat (fun _ => rfl) (by decide) fun cs a h => h.1, h2⟩
end Go.Proofs.Ytomkjjpdnmcnnaa.eng


/- Map -/
namespace Go.Proofs.Ytomkjjpdnmcnnaa.eng
open Go.RowKit kit mix
open Go.WideMaps (KeyLaw)
def heldR (v : Value) : Option (DataW Value × List MemPlace) := some (.held v, [])
/-- keys of a map -/
structure KeyT (P : Program) (k : TypeId) (κ : Type) where
  kv : κ → Value
  ok : κ → Prop
  law : KeyLaw P k
  key : ∀ x, ok x → ∃ l, keyOf P k (kv x) = some l
  inj : ∀ x y, kv x = kv y → x = y
section
variable {P : Program} {k : TypeId} {κ : Type}
theorem KeyT.keyed (K : KeyT P k κ) : Maps.Keyed P k := Maps.Keyed.of_law K.law
variable (K : KeyT P k κ)
def MapIs (D : DataW Value) (m : κ → Option Value) (n : Nat) : Prop :=
  Maps.size D = n ∧ ∀ x l, K.ok x → keyOf P k (K.kv x) = some l → match m x with | some v => Maps.has D l = true ∧ (∀ z, D.atKey l z = .held v) | none => Maps.has D l = false
def mapO (g : Nat) (m : κ → Option Value) (n : Nat) : Own :=
  ⟨some g, fun _ => False, fun w => ∃ D, w.ownsMap P k heldR g n D ∧ MapIs K D m n, fun w ⟨D, h, _⟩ q hq => by simp only [Option.some.injEq, or_false] at hq; subst hq; exact h.lt,
    fun w w' ⟨D, ⟨es, clock, hb, h⟩, h2⟩ _ hk => ⟨D, ⟨es, clock, (hk g (.inl rfl)).trans hb, h⟩, h2⟩⟩
theorem map_tight {w : World} {R : Value → Option (DataW Value × List MemPlace)} {b n : Nat} {D : DataW Value} (h : w.ownsMap P k R b n D) : w.ownsMap P k R b (Maps.size D) D := by
  obtain ⟨es, clock, hb, F, hs, rfl⟩ := h
  exact ⟨es, clock, hb, F, by simp [Maps.size, length_sorted], rfl⟩
theorem mapIs_nil : MapIs K (.map []) (fun _ => none) 0 := ⟨rfl, fun _ _ _ _ => rfl⟩
theorem mapIs_put [DecidableEq κ] {w : World} {g n : Nat} {D : DataW Value} {m : κ → Option Value} (ho : w.ownsMap P k heldR g n D) (h : MapIs K D m n) {x : κ} {l : Lit} (hx : K.ok x) (hl : keyOf P k (K.kv x) = some l) (v : Value) :
    MapIs K (D.put l (.held v)) (fun y => if y = x then some v else m y) (if (m x).isSome then n else n + 1) := by
  have hk := K.keyed.key hl
  have ht := ho.tidy K.keyed
  refine ⟨?_, fun y l' hy hl' => ?_⟩
  · have h2 := h.2 x l hx hl
    rw [Maps.size_put ht]
    cases e : m x with
    | none => rw [e] at h2; rw [h2]; simp [h.1]
    | some u => rw [e] at h2; rw [h2.1]; simp [h.1]
  · by_cases e : y = x
    · subst e
      rw [hl] at hl'
      simp only [Option.some.injEq] at hl'; subst hl'
      simp only [if_true]
      exact ⟨Maps.has_put_same ht.isMap hk _, fun z => Maps.atKey_put_same ht.isMap hk _ _⟩
    · have hne : l' ≠ l := fun e' => e (K.inj _ _ (K.keyed.inj (by rw [← e']; exact hl') hl))
      simp only [if_neg e]
      have h2 := h.2 y l' hy hl'
      rw [Maps.has_put_other hne]
      cases e2 : m y with
      | none => rw [e2] at h2; exact h2
      | some u => rw [e2] at h2; exact ⟨h2.1, fun z => by rw [Maps.atKey_put_other hne]; exact h2.2 z⟩
theorem look_of {D : DataW Value} {m : κ → Option Value} {n : Nat} (h : MapIs K D m n) {x : κ} {l : Lit} (hx : K.ok x) (hl : keyOf P k (K.kv x) = some l) (z : Value) : D.atKey l (.held z) = .held ((m x).getD z) ∧ Maps.has D l = (m x).isSome := by
  have h2 := h.2 x l hx hl
  cases e : m x with
  | none => rw [e] at h2; exact ⟨Maps.atKey_of_not_has h2 _, h2⟩
  | some u => rw [e] at h2; exact ⟨h2.2 _, h2.1⟩
section
variable {W : Base} {fr : Fr} {L : List Own} {Q : Exit → Act → World → Prop} {ops : Array Oper} {rest : List Oper} {n d : Nat} {dst : Option Tmp} {ty : TypeId} {pos : String} {after : Array Edge} {guard : Option (Nat × Bool)} {i g c : Nat} {t e : TypeId} {m : κ → Option Value} {x : κ} {z : Value} {xm xk xv : Operand}
theorem rr_lookOk (ht : P.underlying t = some (.map k e)) (hz : ∀ w, (zeroValue e).run P w = .ok z w) (hi : L[i]? = some (mapO K g m c)) (hm : ev fr xm = some (.map (some g))) (hk : ev fr xk = some (K.kv x)) (hx : K.ok x) : RR P n W ⟨dst, .lookup t xm xk true, ty, pos, after, guard⟩ fr L (.tuple #[(m x).getD z, .bool (m x).isSome]) := .mk fun a w hr hw => by
  obtain ⟨D, ho, h⟩ := hw.get hi
  obtain ⟨l, hl⟩ := K.key x hx
  obtain ⟨v, ps, hrun, hv⟩ := ho.look_ok K.keyed ht (hz w) (zd := .held z) (zp := []) rfl hl
  have h2 := look_of K h hx hl z
  simp only [heldR, Option.some.injEq, Prod.mk.injEq] at hv
  rw [h2.1] at hv
  rw [h2.2] at hrun
  have hv1 : v = (m x).getD z := by simpa using hv.1
  subst hv1
  simp [execOp, hr.ev hm, hr.ev hk, hrun, Result.andThen]
theorem TL_map (hn : Nat.blt d n = true) (h : ∀ g, TL P n W ops Q rest ((d, .map (some g)) :: fr) (L ++ [mapO K g (fun _ => none) 0])) :
    TL P n W ops Q (⟨some d, .makeMap t none, ty, pos, after, none⟩ :: rest) fr L := TL_any rfl fun a w hr hm KK hK => by
  have e1 : (execOp a.eval ⟨some d, .makeMap t none, ty, pos, after, none⟩).run P w = .ok (.value (.map (some w.heap.size))) (w.alloc (.map #[] 0)) := by
    simp [execOp, run_makeMap, Result.andThen]
  unfold Oper.wp; rw [e1]
  exact hK _ _ ((h w.heap.size).go _ _ (hr.put hn _) (hm.append (gr_alloc w _) (Owns.one ⟨.map [], World.ownsMap_made w P k heldR, mapIs_nil K⟩ fun q hq => by simp only [mapO, Option.some.injEq] at hq; omega)))
theorem map_put [DecidableEq κ] {w : World} (ht : P.underlying t = some (.map k e)) (h : (mapO K g m c).holds w) (hx : K.ok x) (hc : c ≤ 1152921504606846976) (v : Value) :
    ∃ w', (Instr.mapUpdate t (.map (some g)) (K.kv x) v).run P w = .ok () w' ∧ (mapO K g (fun y => if y = x then some v else m y) (if (m x).isSome then c else c + 1)).holds w' ∧ w.grownBy w' (some g) := by
  obtain ⟨D, ho, h⟩ := h
  obtain ⟨l, hl⟩ := K.key x hx
  obtain ⟨w', hrun, ho', hg⟩ := ho.update K.keyed ht (by unfold maxLen; omega) (val := v) (d := .held v) (ps := []) hl rfl
  have hp := mapIs_put K ho h hx hl v
  exact ⟨w', hrun, ⟨_, by have := map_tight ho'; rwa [hp.1] at this, hp⟩, hg⟩
theorem TL_mapSet [DecidableEq κ] {v : Value} (ht : P.underlying t = some (.map k e)) (hi : L[i]? = some (mapO K g m c)) (hm : ev fr xm = some (.map (some g))) (hk : ev fr xk = some (K.kv x)) (hv : ev fr xv = some v) (hx : K.ok x) (hc : c ≤ 1152921504606846976)
    (h : TL P n W ops Q rest fr (L.set i (mapO K g (fun y => if y = x then some v else m y) (if (m x).isSome then c else c + 1)))) :
    TL P n W ops Q (⟨none, .mapUpdate t xm xk xv, ty, pos, after, none⟩ :: rest) fr L := TL_any rfl fun a w hr hw KK hK => by
  obtain ⟨w', hrun, ho', hg⟩ := map_put K ht (hw.get hi) hx hc v
  have e1 : (execOp a.eval ⟨none, .mapUpdate t xm xk xv, ty, pos, after, none⟩).run P w = .ok .skip w' := by
    simp [execOp, hr.ev hm, hr.ev hk, hr.ev hv, hrun, Result.andThen]
  unfold Oper.wp; rw [e1]
  exact hK _ _ (h.go _ _ (hr.put_none undef) (hw.turn hi hg ho' fun q hq => .inl hq))
end
/-! maps with a value for every key: what is not there counts as zero; b bounds how many keys there are -/
def mapT (g : Nat) (z : Value) (f : κ → Value) (b : Nat) : Own :=
  ⟨some g, fun _ => False, fun w => ∃ m n, n ≤ b ∧ (mapO K g m n).holds w ∧ ∀ x, K.ok x → (m x).getD z = f x, fun w ⟨m, n, _, h, _⟩ q hq => (mapO K g m n).lt w h q hq,
    fun w w' ⟨m, n, h1, h, h2⟩ hs hk => ⟨m, n, h1, (mapO K g m n).stay w w' h hs hk, h2⟩⟩
section
variable {W : Base} {fr : Fr} {L : List Own} {Q : Exit → Act → World → Prop} {ops : Array Oper} {rest : List Oper} {n d : Nat} {dst : Option Tmp} {ty : TypeId} {pos : String} {after : Array Edge} {guard : Option (Nat × Bool)} {i g b : Nat} {t e : TypeId} {f f' : κ → Value} {x : κ} {z v : Value} {xm xk xv : Operand}
theorem run_lookT {w : World} (ht : P.underlying t = some (.map k e)) (hz : ∀ w, (zeroValue e).run P w = .ok z w) (h : (mapT K g z f b).holds w) (hx : K.ok x) : (Instr.lookup t (.map (some g)) (K.kv x) false).run P w = .ok (f x) w := by
  obtain ⟨m, n, _, ⟨D, ho, hi⟩, hf⟩ := h
  obtain ⟨l, hl⟩ := K.key x hx
  obtain ⟨v, ps, hrun, hv⟩ := ho.lookup K.keyed ht (hz w) (zd := .held z) (zp := []) rfl hl
  have h2 := (look_of K hi hx hl z).1
  simp only [heldR, Option.some.injEq, Prod.mk.injEq] at hv
  rw [h2, hf x hx] at hv
  have hv1 : v = f x := by simpa using hv.1
  rw [← hv1]; exact hrun
/-- a map that is known, whichever way -/
theorem rr_lookM (ht : P.underlying t = some (.map k e)) (hz : ∀ w, (zeroValue e).run P w = .ok z w) (hh : ∀ w, Mem W L w → (mapT K g z f b).holds w) (hm : ev fr xm = some (.map (some g))) (hk : ev fr xk = some (K.kv x)) (hx : K.ok x) (hv : f x = v) : RR P n W ⟨dst, .lookup t xm xk false, ty, pos, after, guard⟩ fr L v := .mk fun a w hr hw => by
  subst hv
  have hrun := run_lookT K ht hz (hh w hw) hx
  simp [execOp, hr.ev hm, hr.ev hk, hrun, Result.andThen]
theorem rr_lookT (ht : P.underlying t = some (.map k e)) (hz : ∀ w, (zeroValue e).run P w = .ok z w) (hi : L[i]? = some (mapT K g z f b)) (hm : ev fr xm = some (.map (some g))) (hk : ev fr xk = some (K.kv x)) (hx : K.ok x) (hv : f x = v) : RR P n W ⟨dst, .lookup t xm xk false, ty, pos, after, guard⟩ fr L v :=
  rr_lookM K ht hz (fun _ hw => hw.get hi) hm hk hx hv
theorem TL_mapT (hn : Nat.blt d n = true) (h : ∀ g, TL P n W ops Q rest ((d, .map (some g)) :: fr) (L ++ [mapT K g z (fun _ => z) 0])) :
    TL P n W ops Q (⟨some d, .makeMap t none, ty, pos, after, none⟩ :: rest) fr L := TL_any rfl fun a w hr hm KK hK => by
  have e1 : (execOp a.eval ⟨some d, .makeMap t none, ty, pos, after, none⟩).run P w = .ok (.value (.map (some w.heap.size))) (w.alloc (.map #[] 0)) := by
    simp [execOp, run_makeMap, Result.andThen]
  unfold Oper.wp; rw [e1]
  exact hK _ _ ((h w.heap.size).go _ _ (hr.put hn _) (hm.append (gr_alloc w _) (Owns.one ⟨fun _ => none, 0, Nat.le_refl _, ⟨.map [], World.ownsMap_made w P k heldR, mapIs_nil K⟩, fun _ _ => rfl⟩ fun q hq => by simp only [mapT, Option.some.injEq] at hq; omega)))
theorem mapT_put [DecidableEq κ] {w : World} (ht : P.underlying t = some (.map k e)) (h : (mapT K g z f b).holds w) (hx : K.ok x) (hc : b ≤ 1152921504606846976) (hf : ∀ y, K.ok y → f' y = if y = x then v else f y) :
    ∃ w', (Instr.mapUpdate t (.map (some g)) (K.kv x) v).run P w = .ok () w' ∧ (mapT K g z f' (b + 1)).holds w' ∧ w.grownBy w' (some g) := by
  obtain ⟨m, n, h1, h2, h3⟩ := h
  obtain ⟨w', hrun, ho, hg⟩ := map_put K ht h2 hx (by omega) v
  refine ⟨w', hrun, ⟨_, _, ?_, ho, fun y hy => ?_⟩, hg⟩
  · split <;> omega
  · rw [hf y hy]
    by_cases e : y = x
    · simp [e]
    · simp only [if_neg e]; exact h3 y hy
end
end
end Go.Proofs.Ytomkjjpdnmcnnaa.eng
namespace Go.Proofs.Ytomkjjpdnmcnnaa.eng
open Go.RowKit kit mix
theorem rr_nilc {P : Program} {n : Nat} {W : Base} {fr : Fr} {L : List Own} {dst : Option Tmp} {ty : TypeId} {pos : String} {after : Array Edge} {guard : Option (Nat × Bool)} {x : Operand} {a : Addr} (hx : ev fr x = some (.pointer (some a))) : RR P n W ⟨dst, .nilCheck x, ty, pos, after, guard⟩ fr L (.pointer (some a)) := .mk fun act w hr _ => by
  simp [execOp, hr.ev hx]
end Go.Proofs.Ytomkjjpdnmcnnaa.eng
namespace Go.Proofs.Ytomkjjpdnmcnnaa.eng
open Go.RowKit kit mix
section
variable {P : Program} {n : Nat} {W : Base} {fr : Fr} {L : List Own} {Q : Exit → Act → World → Prop} {ops : Array Oper} {rest : List Oper} {d : Nat} {ty : TypeId} {pos : String} {after : Array Edge}
/-- 'make([]T, m)', T of one cell: an own row -/
theorem TL_makeRow {t e : TypeId} {x y : Operand} {bytes m : Nat} {k k' : IntKind} {z : Value} [ElC P t e 1 bytes] [ZeroC P e #[z]] (hx : ev fr x = some (.int k (m : Int))) (hy : ev fr y = some (.int k' (m : Int))) (hb : bytes * m ≤ 281474976710656) (h63 : m ≤ 9223372036854775807) (hn : Nat.blt d n = true)
    (h : ∀ g, TL P n W ops Q rest ((d, .slice (some ⟨g, 0, none⟩) m m) :: fr) (L ++ [rowO e 1 (.slice (some ⟨g, 0, none⟩) m m) m (List.replicate m z)])) : TL P n W ops Q (⟨some d, .makeSlice t x y, ty, pos, after, none⟩ :: rest) fr L :=
  TL_makeB hx hy (Nat.le_refl _) hb h63 hn fun g => TL_toRowN (i := L.length) 1 (List.getElem?_concat_length ..) (by rw [size_madeCells]) (Nat.le_refl _) h63 (by
    have e1 : (madeCells #[z] (m * 1)).toList.take (m * 1) = List.replicate m z := by
      rw [made1, Nat.mul_one, List.take_of_length_le (by simp)]
    rw [e1, List.set_append_right _ _ (Nat.le_refl _), Nat.sub_self]
    exact h g)
end
end Go.Proofs.Ytomkjjpdnmcnnaa.eng
namespace Go.Proofs.Ytomkjjpdnmcnnaa.eng
open Go.RowKit kit mix
section
end
theorem mapT_weak {P : Program} {k : TypeId} {κ : Type} {K : KeyT P k κ} {g b b' : Nat} {z : Value} {f f' : κ → Value} (hb : b ≤ b') (hf : ∀ x, K.ok x → f' x = f x) (w : World) (h : (mapT K g z f b).holds w) : (mapT K g z f' b').holds w := by
  obtain ⟨m, n, h1, h2, h3⟩ := h
  exact ⟨m, n, by omega, h2, fun x hx => by rw [hf x hx]; exact h3 x hx⟩
end Go.Proofs.Ytomkjjpdnmcnnaa.eng
namespace Go.Proofs.Ytomkjjpdnmcnnaa.eng
open Go.RowKit kit mix
section
variable {P : Program} {n : Nat} {W : Base} {fr : Fr} {L : List Own} {Q : Exit → Act → World → Prop} {ops : Array Oper} {rest : List Oper}
/-- something owned, seen as something else in no more memory -/
theorem Mem.reown {w : World} {i : Nat} {o : Own} (o' : Own) (h : Mem W L w) (hi : L[i]? = some o) (hh : ∀ w, o.holds w → o'.holds w) (hf : ∀ k, o'.foot k → o.foot k) : Mem W (L.set i o') w := by
  have hlen : i < L.length := (List.getElem?_eq_some_iff.1 hi).1
  have hoi := h.owns.all i o hi
  refine ⟨h.low, fun j q hj => ?_, fun j j' q q' hij hj hj' k hk hk' => ?_⟩
  · by_cases e : i = j
    · subst e
      rw [List.getElem?_set_self hlen] at hj
      simp only [Option.some.injEq] at hj; subst hj
      exact ⟨hh w hoi.1, fun k hk => hoi.2 k (hf k hk)⟩
    · rw [List.getElem?_set_ne e] at hj
      exact h.owns.all j q hj
  · by_cases e : i = j
    · subst e
      rw [List.getElem?_set_self hlen] at hj
      rw [List.getElem?_set_ne hij] at hj'
      simp only [Option.some.injEq] at hj; subst hj
      exact h.owns.apart i j' o q' hij hi hj' k (hf k hk) hk'
    · rw [List.getElem?_set_ne e] at hj
      by_cases e' : i = j'
      · subst e'
        rw [List.getElem?_set_self hlen] at hj'
        simp only [Option.some.injEq] at hj'; subst hj'
        exact h.owns.apart j i q o hij hj hi k hk (hf k hk')
      · rw [List.getElem?_set_ne e'] at hj'
        exact h.owns.apart j j' q q' hij hj hj' k hk hk'
theorem T_reown {c : Code} {i : Nat} {o : Own} (o' : Own) (hi : L[i]? = some o) (hh : ∀ w, o.holds w → o'.holds w) (hf : ∀ k, o'.foot k → o.foot k) (h : T P n W c Q fr (L.set i o')) : T P n W c Q fr L := .mk fun a w hr hm => h.go a w hr (hm.reown o' hi hh hf)
theorem E_reown {e : Exit} {i : Nat} {o : Own} (o' : Own) (hi : L[i]? = some o) (hh : ∀ w, o.holds w → o'.holds w) (hf : ∀ k, o'.foot k → o.foot k) (h : E n W e Q fr (L.set i o')) : E n W e Q fr L := .mk fun a w hr hm => h.go a w hr (hm.reown o' hi hh hf)
end
end Go.Proofs.Ytomkjjpdnmcnnaa.eng

/- WrG -/
namespace Go.Proofs.Ytomkjjpdnmcnnaa.eng
open Go.RowKit kit mix
/-- none, or a slice of a block of its own -/
def WrI (p : Nat → Nat → Prop) (v : Value) : Prop := v = .slice none 0 0 ∨ ∃ g n cap, v = .slice (some ⟨g, 0, none⟩) n cap ∧ n ≤ cap ∧ cap ≤ 9223372036854775807 ∧ p g cap
theorem WrI.imp {p q : Nat → Nat → Prop} {v : Value} (h : WrI p v) (hpq : ∀ g cap, p g cap → q g cap) : WrI q v :=
  h.elim .inl fun ⟨g, n, cap, h1, h2, h3, h4⟩ => .inr ⟨g, n, cap, h1, h2, h3, hpq _ _ h4⟩
section
variable (e : TypeId) (sz : Nat)
def wrP (F : Nat → Prop) (w : World) (g cap : Nat) : Prop := F g ∧ ∃ cs : Array Value, w.heap[g]? = some (.cells cs e (0, 0)) ∧ cs.size = cap * sz
variable {e sz} in
theorem wrP.stay {F : Nat → Prop} {w w' : World} {g cap : Nat} (h : wrP e sz F w g cap) (hk : w'.heap[g]? = w.heap[g]?) : wrP e sz F w' g cap :=
  let ⟨h1, cs, h2, h3⟩ := h; ⟨h1, cs, by rw [hk]; exact h2, h3⟩
def wrG (F : Nat → Prop) (vs : List Value) : Own where
  blk := none
  more := F
  holds := fun w => (∀ v ∈ vs, WrI (wrP e sz F w) v) ∧ ∀ k, F k → k < w.heap.size
  lt := fun w h k hk => h.2 k (hk.elim (fun h => by cases h) id)
  stay := fun w w' h hs hb => ⟨fun v hv => (h.1 v hv).imp fun g cap hp => hp.stay (hb g (.inr hp.1)), fun k hk => Nat.lt_of_lt_of_le (h.2 k hk) hs⟩
/-- all but one block -/
def wrX (F : Nat → Prop) (vs : List Value) (g c : Nat) : Own where
  blk := none
  more := fun k => F k ∧ k ≠ g
  holds := fun w => (F g ∧ ∀ v ∈ vs, WrI (fun g' cap => (g' = g ∧ cap * sz = c) ∨ (g' ≠ g ∧ wrP e sz F w g' cap)) v) ∧ ∀ k, F k → k ≠ g → k < w.heap.size
  lt := fun w h k hk => by
    rcases hk with hk | hk
    · cases hk
    · exact h.2 k hk.1 hk.2
  stay := fun w w' h hs hb => ⟨⟨h.1.1, fun v hv => (h.1.2 v hv).imp fun g' cap hp => hp.imp id fun ⟨a, b⟩ => ⟨a, b.stay (hb g' (.inr ⟨b.1, a⟩))⟩⟩, fun k hk hk' => Nat.lt_of_lt_of_le (h.2 k hk hk') hs⟩
end
section
variable {e : TypeId} {sz : Nat}
theorem wr_nil (w : World) : (wrG e sz (fun _ => False) []).holds w := ⟨fun v hv => by simp at hv, fun _ h => h.elim⟩
theorem wr_snoc {F : Nat → Prop} {vs : List Value} {v : Value} {n : Nat} {xs : List Value} {w : World} (h : (wrG e sz F vs).holds w) (hr : (rowO e sz v n xs).holds w) : (wrG e sz (fun k => F k ∨ v.ownBlock = some k) (vs ++ [v])).holds w := by
  have hlt := fun k hk => (rowO e sz v n xs).lt w hr k (.inl hk)
  have h1 : w.ownsRow 0 e sz v n xs := hr
  refine ⟨fun u hu => ?_, fun k hk => hk.elim (h.2 k) (hlt k)⟩
  rcases List.mem_append.1 hu with hu | hu
  · exact (h.1 u hu).imp fun g cap hp => ⟨.inl hp.1, hp.2⟩
  · obtain rfl := List.mem_singleton.1 hu
    rcases h1.2 with ⟨hv, h0⟩ | ⟨g, cap, cs, hv, hb, hg, hmc, hcm, hcs, htk⟩
    · exact .inl hv
    · exact .inr ⟨g, _, cap, hv, hmc, by unfold maxLen at hcm; omega, .inr (by rw [hv]; rfl), cs, hg, hcs⟩
theorem wr_foot {F : Nat → Prop} {vs vs' : List Value} {v : Value} {n : Nat} {xs : List Value} (k : Nat) (h : (wrG e sz (fun k => F k ∨ v.ownBlock = some k) vs').foot k) : (wrG e sz F vs).foot k ∨ (rowO e sz v n xs).foot k := by
  rcases h with h | h | h
  · cases h
  · exact .inl (.inr h)
  · exact .inr (.inl h)
variable {P : Program} {n : Nat} {W : Base} {fr : Fr} {L : List Own} {Q : Exit → Act → World → Prop} {ops : Array Oper} {rest : List Oper} {d : Nat}
theorem Mem.openWr {w : World} {i : Nat} {F : Nat → Prop} {vs : List Value} {v : Value} (h : Mem W L w) (hi : L[i]? = some (wrG e sz F vs)) (hv : v ∈ vs) : v = .slice none 0 0 ∨ ∃ g m cap cs, v = .slice (some ⟨g, 0, none⟩) m cap ∧ m ≤ cap ∧ cap ≤ 9223372036854775807 ∧ cs.size = cap * sz ∧ Mem W (L.set i (wrX e sz F vs g (cap * sz)) ++ [blkO g cs e]) w := by
  have h1 : (wrG e sz F vs).holds w := h.get hi
  rcases h1.1 v hv with hv0 | ⟨g, m, cap, hv0, hm, hc, hF, cs, hg, hsz⟩
  · exact .inl hv0
  · refine .inr ⟨g, m, cap, cs, hv0, hm, hc, by omega, ?_⟩
    have hr : Mem W (L.set i (wrX e sz F vs g (cap * sz))) w := by
      refine h.reown (wrX e sz F vs g (cap * sz)) hi (fun w' hw => ?_) fun k hk => hk.elim (fun h => by cases h) fun h => .inr h.1
      subst hv0
      have hv' := hw.1 _ hv
      rcases hv' with hv' | ⟨g0, m0, cap0, hv', _, _, _, cs0, hg0, hsz0⟩
      · cases hv'
      · cases hv'
        refine ⟨⟨hF, fun u hu => (hw.1 u hu).imp fun g' cap' hp => ?_⟩, fun k hk _ => hw.2 k hk⟩
        by_cases e : g' = g
        · subst e
          obtain ⟨_, cs', hg', hs'⟩ := hp
          rw [hg0] at hg'
          cases hg'
          exact .inl ⟨rfl, by omega⟩
        · exact .inr ⟨e, hp⟩
    have hoq := h.owns.all i _ hi
    have hlen : i < L.length := (List.getElem?_eq_some_iff.1 hi).1
    refine ⟨h.low, OwnsP.both hr.owns (OwnsP.one hg fun k hk => hoq.2 k (.inr (by
      rcases hk with hk | hk
      · simp only [blkO, Option.some.injEq] at hk; subst hk; exact hF
      · exact hk.elim))) fun a b oa ob ha hb k hk hk' => ?_⟩
    match b, hb with
    | 0, hb =>
      simp only [List.getElem?_cons_zero, Option.some.injEq] at hb; subst hb
      have hkg : k = g := by
        rcases hk' with hk' | hk'
        · simp only [blkO, Option.some.injEq] at hk'; exact hk'.symm
        · exact hk'.elim
      by_cases e : i = a
      · subst e
        rw [List.getElem?_set_self hlen] at ha
        simp only [Option.some.injEq] at ha; subst ha
        rcases hk with hk | hk
        · cases hk
        · exact hk.2 hkg
      · rw [List.getElem?_set_ne e] at ha
        exact h.owns.apart a i oa _ (Ne.symm e) ha hi k hk (.inr (by subst hkg; exact hF))
    | b + 1, hb => simp at hb
theorem TL_openWr {i : Nat} {F : Nat → Prop} {vs : List Value} {v : Value} (hi : L[i]? = some (wrG e sz F vs)) (hv : v ∈ vs) (h0 : v = .slice none 0 0 → TL P n W ops Q rest fr L)
    (h : ∀ g m cap cs, v = .slice (some ⟨g, 0, none⟩) m cap → m ≤ cap → cap ≤ 9223372036854775807 → cs.size = cap * sz → TL P n W ops Q rest fr (L.set i (wrX e sz F vs g (cap * sz)) ++ [blkO g cs e])) : TL P n W ops Q rest fr L := ⟨fun a w hr hm => by
  rcases hm.openWr hi hv with a1 | ⟨g, m, cap, cs, a1, a2, a3, a4, a5⟩
  · exact (h0 a1).go a w hr hm
  · exact (h g m cap cs a1 a2 a3 a4).go a w hr a5⟩
theorem wr_close {F : Nat → Prop} {vs : List Value} {g c : Nat} {cs : Array Value} {w : World} (h : (wrX e sz F vs g c).holds w) (hb : (blkO g cs e).holds w) (hs : cs.size = c) : (wrG e sz F vs).holds w := by
  refine ⟨fun v hv => (h.1.2 v hv).imp fun g' cap hp => ?_, fun k hk => ?_⟩
  · rcases hp with ⟨rfl, hc⟩ | ⟨_, hp⟩
    · exact ⟨h.1.1, cs, hb, by omega⟩
    · exact hp
  · by_cases q : k = g
    · subst q; exact (Array.getElem?_eq_some_iff.1 (show w.heap[k]? = some (.cells cs e (0, 0)) from hb)).1
    · exact h.2 k hk q
theorem wr_foot2 {F : Nat → Prop} {vs : List Value} {g c : Nat} {cs : Array Value} (k : Nat) (h : (wrG e sz F vs).foot k) : (wrX e sz F vs g c).foot k ∨ (blkO g cs e).foot k := by
  rcases h with h | h
  · cases h
  · by_cases q : k = g
    · subst q; exact .inr (.inl rfl)
    · exact .inl (.inr ⟨h, q⟩)
end
end Go.Proofs.Ytomkjjpdnmcnnaa.eng

/- GramMW -/
namespace Go.Proofs.Ytomkjjpdnmcnnaa.eng
open Go.RowKit kit mix gramL
def hvC (x : Int × Value) : List Value := [.int .i64 x.1, x.2]
theorem hvC_len (x : Int × Value) : (hvC x).length = 2 := rfl
/-- what Mirror tells: heads and bodies; each body may be written over -/
def mirWS (g : Gram) : Spec (Value × (Nat → Prop) × List (Int × Value)) := ⟨fun x => x.2.2.length = g.prods.length, fun x => .tuple #[graV g.terms g.nons x.1, .int .i64 0], fun x => [rowO 57 2 x.1 g.prods.length (x.2.2.flatMap hvC), wrG 60 2 x.2.1 (x.2.2.map (·.2))]⟩
attribute [local irreducible] Instr.build in
set_option maxHeartbeats 4000000 in
theorem mirrorW_calls (v : Value) (g : Gram) (w : World) (h : GraR (fun k => k < w.heap.size) w v g) (h0 : checkG g = 0) :
    Calls Try.prog 4 #[v] w (Meets (mirWS g) w) := by
  have hck := fun w' (hg : Gr w w') => checkG_calls v g w' (h.gr hg)
  rw [h0] at hck
  obtain ⟨_, _, _, _, hlen, hps⟩ := checkG_ok h0
  obtain ⟨vp, rfl, h1, _⟩ := h
  obtain ⟨bp, cp, rfl, hcp, hmp, hrp⟩ := h1
  unfold maxLen at hmp
  obtain ⟨t, n, prods⟩ := g
  dsimp only at *
  refine enter (args := [graV t n (.slice bp prods.length cp)]) (n := 43) Try.func4 rfl rfl rfl ?_
  refine T_seq (T_region (TL_box rfl rfl rfl fun g1 => TL_new rfl fun g2 => ?_))
  repeat(first|refine QV QP ?_|refine QZ ?_|refine qcT rfl ?_|refine qcF rfl ?_|refine E_blockX ?_|refine E_blockO rfl ?_|refine QV (rr_loadB (i := 0) TyC.ty rfl rfl rfl) ?_|refine QV QL ?_|refine QV QA ?_|refine QV QlT ?_|refine QV QlF ?_|refine QV QnT ?_|refine QV QnF ?_|refine QV QaA ?_)
  refine TL_call (he1 EntersC.en rfl rfl) (fun w hm => hck _ hm.below) rfl rfl rfl ?_
  intro _ _
  clear hck
  repeat(first|refine QV QP ?_|refine QZ ?_|refine qcT rfl ?_|refine qcF rfl ?_|refine E_blockX ?_|refine E_blockO rfl ?_|refine QV (rr_load1 TyC.ty rfl (at_blk (i := 0) rfl rfl)) ?_|refine QV (rr_build rfl (build_gra2 _ _)) ?_|refine QV QL ?_|refine QV QA ?_|refine QV QlT ?_|refine QV QlF ?_|refine QV QnT ?_|refine QV QnF ?_|refine QV QaA ?_)
  refine TL_new rfl fun g5 => ?_
  refine TL_storeB (i := 2) rfl rfl rfl rfl rfl rfl ?_
  conv=>arg 8;simp only[zA,zB,zC,zD,zE,zF,zG,zH,zI,rowS,ret,id_eq]
  repeat(first|refine QV QP ?_|refine QZ ?_|refine qcT rfl ?_|refine qcF rfl ?_|refine E_blockX ?_|refine E_blockO rfl ?_|refine QV (rr_load1 TyC.ty rfl (at_blk (i := 0) rfl rfl)) ?_|refine QV QL ?_|refine QV QA ?_|refine QV QlT ?_|refine QV QlF ?_|refine QV QnT ?_|refine QV QnF ?_|refine QV QaA ?_)
  refine T_nil 57 2 (T_extra (wrG 60 2 (fun _ => False) []) (fun k hk => hk.elim (fun h => by cases h) id) wr_nil (T_pick [1, 2, 3, 4] (by decide) rfl ?_))
  refine T_loop (ι := Nat × Value × List (Int × Value) × (Nat → Prop)) (fun (k, vp, css, _) => k ≤ prods.length ∧ vp.oneCell' = true ∧ css.length = k) (fun (k, vp, _, _) => [(2, .pointer (some ⟨g2, 0, none⟩)), (5, .pointer (some ⟨g5, 0, none⟩)), (21, .slice bp prods.length cp), (22, .int .i64 prods.length), (23, .int .i64 (k : Int))])
    (fun (k, vp, css, F) => [blkO g2 #[.int .i64 0, .int .i64 0, .slice none 0 0] 24, blkO g5 (graV t n vp).cells 24, rowO 57 2 vp k (css.flatMap hvC), wrG 60 2 F (css.map (·.2))]) (fun (k, _, _, _) => prods.length - k) (0, .slice none 0 0, [], fun _ => False) ⟨Nat.zero_le _, rfl, rfl⟩ (by repeat' (first | exact True.intro | refine And.intro rfl ?_)) rfl ?_
  rintro ⟨k, vp, css, F⟩ ⟨i1, i2, i3⟩
  dsimp only at i1 i2 i3 ⊢
  by_cases c6 : k < prods.length
  · obtain ⟨b, off, rfl, _, hr⟩ := hrp (by omega)
    obtain ⟨bb, cb, q1, q2, q3⟩ := prod_at hr c6
    have hat : ∀ (L : List Own) (j : Nat) (v : Value), ([.int .i64 prods[k].1, .slice bb prods[k].2.length cb] : List Value)[j]? = some v → At w L ⟨b, off + k * 2 + j, none⟩ v := fun L j v hj => at_rd q1 hj
    have hpk := hps prods[k] (List.getElem_mem c6)
    clear hr hrp q1 hps
    generalize prods[k] = p at *
    obtain ⟨hd, body⟩ := p
    have hcl := fun w' (hg : Gr w w') => cloneSymS_calls (.slice bb body.length cb) body w' ((q3.flat (by decide)).gr hg) (by have := hpk.1; dsimp only at this; omega)
    have hokp := q3.okp
    dsimp only at *
    repeat(first|refine QV QP ?_|refine QZ ?_|refine qcT rfl ?_|refine qcF rfl ?_|refine E_blockX ?_|refine E_blockO rfl ?_|refine QV (rr_idxc Und.eq TyC.ty rfl rfl c6) ?_|refine QV (rr_loadN TyC.ty rfl rfl (hat _)) ?_|refine QV QL ?_|refine QV QA ?_|refine QV QlT ?_|refine QV QlF ?_|refine QV QnT ?_|refine QV QnF ?_|refine QV QaA ?_)
    clear hat
    refine TL_new rfl fun g7 => ?_
    refine TL_storeB (i := 4) rfl rfl rfl rfl rfl rfl ?_
    conv=>arg 8;simp only[zA,zB,zC,zD,zE,zF,zG,zH,zI,rowS,ret,id_eq]
    repeat(first|refine QV QP ?_|refine QZ ?_|refine qcT rfl ?_|refine qcF rfl ?_|refine E_blockX ?_|refine E_blockO rfl ?_|refine QV (rr_load1 TyC.ty rfl (at_blk (i := 4) rfl rfl)) ?_|refine QV QL ?_|refine QV QA ?_|refine QV QlT ?_|refine QV QlF ?_|refine QV QnT ?_|refine QV QnF ?_|refine QV QaA ?_)
    refine TL_call (he1 EntersC.en rfl rfl) (fun w hm => hcl _ hm.below) rfl rfl rfl ?_
    intro vb _
    conv=>arg 8;simp only[zA,zB,zC,zD,zE,zF,zG,zH,zI,rowS,ret,id_eq]
    repeat(first|refine QV QP ?_|refine QZ ?_|refine qcT rfl ?_|refine qcF rfl ?_|refine E_blockX ?_|refine E_blockO rfl ?_|refine QV QL ?_|refine QV QA ?_|refine QV QlT ?_|refine QV QlF ?_|refine QV QnT ?_|refine QV QnF ?_|refine QV QaA ?_)
    refine TL_callB [5] [0, 1, 2, 3, 4] (by decide) rfl rfl (he1 EntersC.en rfl rfl) (fun w hm hb => reverseSymS_calls vb body w _ hb (by omega)) rfl rfl rfl ?_
    intro _ _
    conv=>arg 8;simp only[zA,zB,zC,zD,zE,zF,zG,zH,zI,rowS,ret,id_eq]
    refine TL_rowv (i := 5) rfl fun b2 c2 hvb e1 e2 => ?_
    subst hvb
    repeat(first|refine QV QP ?_|refine QZ ?_|refine qcT rfl ?_|refine qcF rfl ?_|refine E_blockX ?_|refine E_blockO rfl ?_|refine QV (rr_load1 TyC.ty rfl (at_blk (i := 1) rfl rfl)) ?_|refine QV (rr_load1 TyC.ty rfl (at_blk (i := 4) rfl rfl)) ?_|refine QV (rr_build rfl (build_prod _ _ _ _)) ?_|refine QV QL ?_|refine QV QA ?_|refine QV QlT ?_|refine QV QlF ?_|refine QV QnT ?_|refine QV QnF ?_|refine QV QaA ?_)
    refine TL_pushN (i := 2) rfl rfl rfl rfl rfl rfl rfl (fun z h => by cases h; rfl) (by omega) (by omega) rfl fun z vp' => ?_
    conv=>arg 8;simp only[zA,zB,zC,zD,zE,zF,zG,zH,zI,rowS,ret,id_eq]
    repeat(first|refine QV QP ?_|refine QZ ?_|refine qcT rfl ?_|refine qcF rfl ?_|refine E_blockX ?_|refine E_blockO rfl ?_|refine QV QL ?_|refine QV QA ?_|refine QV QlT ?_|refine QV QlF ?_|refine QV QnT ?_|refine QV QnF ?_|refine QV QaA ?_)
    refine TL_slv (i := 2) rfl fun hc1 ho1 => ?_
    refine TL_store1 (i := 1) rfl rfl rfl hc1 ho1 rfl ?_
    conv=>arg 8;simp only[zA,zB,zC,zD,zE,zF,zG,zH,zI,rowS,ret,id_eq]
    refine TL_merge (wrG 60 2 (fun k => F k ∨ (Value.slice b2 body.length c2).ownBlock = some k) (css.map (·.2) ++ [.slice b2 body.length c2])) 5 3 [0, 1, 2] (by decide) rfl rfl rfl (fun k h => (wr_foot k h).symm) (fun w hr he => wr_snoc he hr) ?_
    conv=>arg 8;simp only[zA,zB,zC,zD,zE,zF,zG,zH,zI,rowS,ret,id_eq]
    repeat(first|refine QV QP ?_|refine QZ ?_|refine qcT rfl ?_|refine qcF rfl ?_|refine E_blockX ?_|refine E_blockO rfl ?_|refine QV QL ?_|refine QV QA ?_|refine QV QlT ?_|refine QV QlF ?_|refine QV QnT ?_|refine QV QnF ?_|refine QV QaA ?_)
    exact E_round (k + 1, vp', css ++ [(hd, .slice b2 body.length c2)], fun k => F k ∨ (Value.slice b2 body.length c2).ownBlock = some k) ⟨by omega, ho1, by rw [List.length_append, i3]; rfl⟩ (by show prods.length - (k + 1) < prods.length - k; omega) (by repeat' (first | exact True.intro | refine And.intro rfl ?_)) (by rw [List.flatMap_append, List.map_append]; rfl)
  · obtain rfl : k = prods.length := by omega
    repeat(first|refine QV QP ?_|refine QZ ?_|refine qcT rfl ?_|refine qcF rfl ?_|refine E_blockX ?_|refine E_blockO rfl ?_|refine QV (rr_loadB (i := 1) TyC.ty rfl rfl rfl) ?_|refine QV QL ?_|refine QV QA ?_|refine QV QlT ?_|refine QV QlF ?_|refine QV QnT ?_|refine QV QnF ?_|refine QV QaA ?_)
    refine TL_storeB (i := 0) rfl rfl rfl rfl (graV_one i2) rfl ?_
    conv=>arg 8;simp only[zA,zB,zC,zD,zE,zF,zG,zH,zI,rowS,ret,id_eq]
    repeat(first|refine QV QP ?_|refine QZ ?_|refine qcT rfl ?_|refine qcF rfl ?_|refine E_blockX ?_|refine E_blockO rfl ?_|refine QV QL ?_|refine QV QA ?_|refine QV QlT ?_|refine QV QlF ?_|refine QV QnT ?_|refine QV QnF ?_|refine QV QaA ?_)
    exact E_retc2 (i := 0) rfl rfl rfl rfl rfl fun w hm => hm.meets (S := mirWS ⟨t, n, prods⟩) (vp, F, css) i3 [2, 3] (by decide) rfl
theorem mirrorE2_calls (v : Value) (g : Gram) (w : World) (h : GraR (fun k => k < w.heap.size) w v g) (h0 : checkG g ≠ 0) :
    Calls Try.prog 4 #[v] w (Meets (ret (.tuple #[graV 0 0 (.slice none 0 0), .int .i64 (checkG g)])) w) := by
  have hck := fun w' (hg : Gr w w') => checkG_calls v g w' (h.gr hg)
  obtain ⟨vp, rfl, h1, _⟩ := h
  obtain ⟨bp, cp, rfl, hcp, hmp, hrp⟩ := h1
  generalize checkG g = e at *
  obtain ⟨t, n, prods⟩ := g
  dsimp only at *
  refine enter (args := [graV t n (.slice bp prods.length cp)]) (n := 43) Try.func4 rfl rfl rfl ?_
  refine T_seq (T_region (TL_box rfl rfl rfl fun g1 => TL_new rfl fun g2 => ?_))
  repeat(first|refine QV QP ?_|refine QZ ?_|refine qcT rfl ?_|refine qcF rfl ?_|refine E_blockX ?_|refine E_blockO rfl ?_|refine QV (rr_loadB (i := 0) TyC.ty rfl rfl rfl) ?_|refine QV QL ?_|refine QV QA ?_|refine QV QlT ?_|refine QV QlF ?_|refine QV QnT ?_|refine QV QnF ?_|refine QV QaA ?_)
  refine TL_call (he1 EntersC.en rfl rfl) (fun w hm => hck _ hm.below) rfl rfl rfl ?_
  intro _ _
  repeat(first|refine QV QP ?_|refine QZ ?_|refine qcT rfl ?_|refine qcF rfl ?_|refine E_blockX ?_|refine E_blockO rfl ?_|refine QV (rr_build rfl build_gra0) ?_|refine QV QL ?_|refine QV QA ?_|refine QV QlT ?_|refine QV QlF ?_|refine QV QnT ?_|refine QV QnF ?_|refine QV QaA ?_)
  refine TL_storeB (i := 1) rfl rfl rfl rfl rfl rfl ?_
  repeat(first|refine QV QP ?_|refine QZ ?_|refine qcT rfl ?_|refine qcF rfl ?_|refine E_blockX ?_|refine E_blockO rfl ?_|refine QV QL ?_|refine QV QA ?_|refine QV QlT ?_|refine QV QlF ?_|refine QV QnT ?_|refine QV QnF ?_|refine QV QaA ?_)
  exact E_retc2 (i := 1) rfl rfl rfl rfl rfl fun w hm => hm.ret
end Go.Proofs.Ytomkjjpdnmcnnaa.eng

/- CountL -/
namespace Go.Proofs.Ytomkjjpdnmcnnaa.countL
open gramL
abbrev Span := Int × Int × Int
abbrev Chart := Span → Nat
def oneF (c : Chart) (w : List Int) (x : Sym) (a b : Nat) : Nat := if x.1 = 2 then c (x.2, (a : Int), (b : Int)) else if b = a + 1 ∧ w[a]? = some x.2 then 1 else 0
def sumN (f : Nat → Nat) : Nat → Nat
  | 0 => 0
  | k + 1 => sumN f k + f k
/-- from places to places, by one symbol more -/
def nextF (o : Nat → Nat → Nat) (f : Nat → Nat) (b : Nat) : Nat := min 2 (sumN (fun j => f j * o j b) (b + 1))
def waysF (o : Sym → Nat → Nat → Nat) (a : Nat) : List Sym → (Nat → Nat) → Nat → Nat
  | [], f => f
  | x :: r, f => waysF o a r (nextF (fun i j => o x (a + i) (a + j)) f)
def ways0 (b : Nat) : Nat := if b = 0 then 1 else 0
def rowF (o : Sym → Nat → Nat → Nat) (l : List Sym) (a b : Nat) : Nat := waysF o a l ways0 (b - a)
/-- all productions of a nonterminal -/
def sumP (o : Sym → Nat → Nat → Nat) (a b : Nat) (n : Nat) : List gramL.Prod → Nat
  | [] => 0
  | p :: r => (if p.1 = (n : Int) then rowF o p.2 a b else 0) + sumP o a b n r
def nowF (o : Sym → Nat → Nat → Nat) (l : List gramL.Prod) (a b n : Nat) : Nat := min 2 (sumP o a b n l)
end Go.Proofs.Ytomkjjpdnmcnnaa.countL

/- CountN -/
namespace Go.Proofs.Ytomkjjpdnmcnnaa.countL
open gramL
/-- symbols of productions: nonterminals are there -/
def NonsIn (n : Nat) (l : List gramL.Prod) : Prop := ∀ p ∈ l, ∀ x ∈ p.2, x.1 = 2 → 0 ≤ x.2 ∧ x.2 < (n : Int)
/-- a chart in which nothing is missing -/
def PreC (w : List Int) (l : List gramL.Prod) (n : Nat) (S : Chart) : Prop := ∀ k a b, k < n → a ≤ b → b ≤ w.length → nowF (oneF S w) l a b k ≤ S ((k : Int), (a : Int), (b : Int))
def Fix1 (w : List Int) (l : List gramL.Prod) (n : Nat) (c : Chart) (a b : Nat) : Prop := ∀ k, k < n → c ((k : Int), (a : Int), (b : Int)) = nowF (oneF c w) l a b k
/-- some spans are done -/
structure InvC (w : List Int) (l : List gramL.Prod) (n : Nat) (D : Nat → Nat → Prop) (c : Chart) : Prop where
  le2 : ∀ x, c x ≤ 2
  fixed : ∀ a b, a ≤ b → b ≤ w.length → D a b → Fix1 w l n c a b
  least : ∀ S, PreC w l n S → ∀ k a b, k < n → a ≤ b → b ≤ w.length → c ((k : Int), (a : Int), (b : Int)) ≤ S ((k : Int), (a : Int), (b : Int))
  zero : ∀ k a b, k < n → a ≤ b → b ≤ w.length → ¬ D a b → c ((k : Int), (a : Int), (b : Int)) = 0
/-- one is under way -/
structure InvI (w : List Int) (l : List gramL.Prod) (n : Nat) (D : Nat → Nat → Prop) (a b : Nat) (c : Chart) : Prop where
  le2 : ∀ x, c x ≤ 2
  fixed : ∀ i j, i ≤ j → j ≤ w.length → D i j → Fix1 w l n c i j
  least : ∀ S, PreC w l n S → ∀ k i j, k < n → i ≤ j → j ≤ w.length → c ((k : Int), (i : Int), (j : Int)) ≤ S ((k : Int), (i : Int), (j : Int))
  zero : ∀ k i j, k < n → i ≤ j → j ≤ w.length → ¬ D i j → ¬ (i = a ∧ j = b) → c ((k : Int), (i : Int), (j : Int)) = 0
  grow : ∀ k, k < n → c ((k : Int), (a : Int), (b : Int)) ≤ nowF (oneF c w) l a b k
section
variable {w : List Int} {l : List gramL.Prod} {n : Nat} {D D' : Nat → Nat → Prop} {a b : Nat} {c : Chart}
theorem InvI.done (h : InvI w l n D a b c) (hf : Fix1 w l n c a b) (hD : ∀ i j, i ≤ j → j ≤ w.length → (D' i j ↔ D i j ∨ (i = a ∧ j = b))) : InvC w l n D' c :=
  ⟨h.le2, fun i j h1 h2 h3 => ((hD i j h1 h2).1 h3).elim (h.fixed i j h1 h2) fun ⟨e1, e2⟩ => by subst e1 e2; exact hf, h.least, fun k i j hk h1 h2 h3 => by
    have : ¬ (D i j ∨ (i = a ∧ j = b)) := fun h => h3 ((hD i j h1 h2).2 h)
    exact h.zero k i j hk h1 h2 (fun h => this (.inl h)) fun h => this (.inr h)⟩
end
end Go.Proofs.Ytomkjjpdnmcnnaa.countL

/- TreeW -/
namespace Go.Proofs.Ytomkjjpdnmcnnaa.countL
open gramL treeL
/-- symbols of a grammar -/
def SymsOk (n : Nat) (l : List gramL.Prod) : Prop := ∀ p ∈ l, 0 ≤ p.1 ∧ p.1 < (n : Int) ∧ ∀ x ∈ p.2, x.1 = 1 ∨ (x.1 = 2 ∧ 0 ≤ x.2 ∧ x.2 < (n : Int))
theorem SymsOk.nons {n : Nat} {l : List gramL.Prod} (h : SymsOk n l) : NonsIn n l := fun p hp x hx h2 => by
  rcases (h p hp).2.2 x hx with h | h
  · omega
  · exact h.2
section
end
end Go.Proofs.Ytomkjjpdnmcnnaa.countL

/- FactsQ -/
namespace Go.Proofs.Ytomkjjpdnmcnnaa.factsL
open gramL treeL
theorem passWb_still {E : List Bool} {F : List Nat} {h : Nat} : ∀ (body : List Sym) (W : List Nat) (more : Bool), (passWb E F h body W more).2 = false → more = false ∧ (passWb E F h body W more).1 = W ∧ ∀ pre x post, body = pre ++ x :: post → x.1 = 2 → W.getD x.2.toNat 0 ||| beginF E F post (W.getD h 0) = W.getD x.2.toNat 0
  | [], W, more, hm => ⟨hm, rfl, fun pre x post e => by simp at e⟩
  | y :: r, W, more, hm => by
    rw [passWb] at hm ⊢
    unfold stepW at hm ⊢
    by_cases c : y.1 = 2
    · rw [if_pos c] at hm ⊢
      obtain ⟨h1, h2, h3⟩ := passWb_still r _ _ hm
      rw [Bool.or_eq_false_iff] at h1
      have h4 : W.getD y.2.toNat 0 ||| beginF E F r (W.getD h 0) = W.getD y.2.toNat 0 := by
        have := h1.1
        unfold addF at this
        simpa using this
      have h5 : (addF W y.2.toNat (beginF E F r (W.getD h 0))).1 = W := by
        unfold addF
        dsimp only
        rw [h4, set_getD]
      rw [h2]
      dsimp only at h3 ⊢
      rw [h5] at h3 ⊢
      refine ⟨h1.2, rfl, fun pre x post e hx => ?_⟩
      match pre, e with
      | [], e =>
        simp only [List.nil_append, List.cons.injEq] at e
        obtain ⟨rfl, rfl⟩ := e
        exact h4
      | z :: pre, e =>
        simp only [List.cons_append, List.cons.injEq] at e
        exact h3 pre x post e.2 hx
    · rw [if_neg c] at hm ⊢
      obtain ⟨h1, h2, h3⟩ := passWb_still r _ _ hm
      refine ⟨h1, h2, fun pre x post e hx => ?_⟩
      match pre, e with
      | [], e =>
        simp only [List.nil_append, List.cons.injEq] at e
        obtain ⟨rfl, rfl⟩ := e
        exact absurd hx c
      | z :: pre, e =>
        simp only [List.cons_append, List.cons.injEq] at e
        exact h3 pre x post e.2 hx
theorem passW_still {E : List Bool} {F : List Nat} : ∀ (l : List gramL.Prod) (W : List Nat) (more : Bool), (passW E F l W more).2 = false → more = false ∧ (passW E F l W more).1 = W ∧ ∀ p ∈ l, ∀ pre x post, p.2 = pre ++ x :: post → x.1 = 2 → W.getD x.2.toNat 0 ||| beginF E F post (W.getD p.1.toNat 0) = W.getD x.2.toNat 0
  | [], W, more, hm => ⟨hm, rfl, fun p hp => by cases hp⟩
  | p :: r, W, more, hm => by
    rw [passW] at hm ⊢
    obtain ⟨h1, h2, h3⟩ := passW_still r _ _ hm
    obtain ⟨k1, k2, k3⟩ := passWb_still p.2 W more h1
    rw [k2] at h2 h3 ⊢
    refine ⟨k1, h2, fun q hq => ?_⟩
    rcases List.mem_cons.1 hq with rfl | hq
    · exact k3
    · exact h3 q hq
end Go.Proofs.Ytomkjjpdnmcnnaa.factsL

/- CountX -/
namespace Go.Proofs.Ytomkjjpdnmcnnaa.countL
open gramL treeL
section
variable {o : Sym → Nat → Nat → Nat} {l : List gramL.Prod} {x : Sym} {a b : Nat}
theorem prodAt_get {k : Nat} (h : k < l.length) : prodAt l (k : Int) = l[k] := by
  unfold prodAt
  rw [Int.toNat_natCast, List.getD_eq_getElem?_getD, List.getElem?_eq_getElem h]; rfl
end
section
end
end Go.Proofs.Ytomkjjpdnmcnnaa.countL

/- LlL -/
namespace Go.Proofs.Ytomkjjpdnmcnnaa.llL
open gramL treeL countL factsL
abbrev Cl := Int × Int × Int × Int
def bitC (T col : Nat) : Nat := if col = T then 9223372036854775808 else 2 ^ col
section
variable (l : List gramL.Prod) (may : Nat → Nat) (T : Nat)
def candL (n col i : Nat) : Bool := decide ((prodAt l (i : Int)).1 = (n : Int)) && !decide ((may i &&& bitC T col) = 0)
/-- the first one -/
def firstL (n col : Nat) : Nat → Int
  | 0 => -1
  | k + 1 => if firstL n col k < 0 then (if candL l may T n col k = true then (k : Int) else firstL n col k) else firstL n col k
def outL (n col : Nat) : Nat → List Cl → List Cl
  | 0, out => out
  | k + 1, out => if candL l may T n col k = true then (if firstL l may T n col k < 0 then outL n col k out else outL n col k out ++ [((n : Int), (col : Int), firstL l may T n col k, (k : Int))]) else outL n col k out
def colO (n : Nat) : Nat → List Cl → List Cl
  | 0, out => out
  | c + 1, out => outL l may T n c l.length (colO n c out)
def rowO' : Nat → List Cl
  | 0 => []
  | n + 1 => colO l may T n (T + 1) (rowO' n)
def rowAt (n col : Nat) : Int := firstL l may T n col l.length
end
section
variable {l : List gramL.Prod} {may : Nat → Nat} {T : Nat}
theorem first_ge (n col : Nat) : ∀ k, -1 ≤ firstL l may T n col k ∧ firstL l may T n col k < (k : Int)
  | 0 => ⟨by rw [firstL]; omega, by rw [firstL]; omega⟩
  | k + 1 => by
    have := first_ge n col k
    rw [firstL]
    split
    · split <;> omega
    · omega
end
/-! ### trees that follow a table -/
def colAt (T : Nat) (w : List Int) (a : Nat) : Nat := if a < w.length then (w.getD a 0).toNat else T
section
end
section
end
section
end
end Go.Proofs.Ytomkjjpdnmcnnaa.llL

/- LrL -/
namespace Go.Proofs.Ytomkjjpdnmcnnaa.itemL
open gramL treeL countL factsL smallL
open llL (colAt)
abbrev Act := Int × Int
section
variable (l : List gramL.Prod) (T : Nat)
/-- what an item says at a column -/
def actOf (c : Nat) (it : Item) : Option Act := if it.2.2 ≠ (c : Int) then none else if it.1 = (l.length : Int) ∧ it.2.1 = 1 then some (3, 0) else if it.1 < (l.length : Int) ∧ it.2.1 = ((prodAt l it.1).2.length : Int) then some (2, it.1) else none
/-- acts that may be done in a state, at a column -/
def actsI (s : List Item) (nx : List Int) (c : Nat) : List Act := (if c < T ∧ 0 ≤ nx.getD c 0 then [(1, nx.getD c 0)] else []) ++ s.filterMap (actOf l c)
end
section
variable (l : List gramL.Prod) (T : Nat) (Nx : List (List Int)) (S : List (List Item))
def actAt (q c : Nat) : Act := (actsI l T (S.getD q []) (Nx.getD q []) c).headD (0, 0)
def goTo (q : Nat) (n : Int) : Int := (Nx.getD q []).getD (T + n.toNat) 0
/-- who builds up -/
inductive LRun (w : List Int) : List Nat → Nat → List Sym → List Nat → Nat → Prop
  | nil {σ : List Nat} {a : Nat} : LRun w σ a [] σ a
  | shift {q s : Nat} {σ σ' : List Nat} {a a' : Nat} {E : List Sym} (ha : a < w.length) (h : actAt l T Nx S q (colAt T w a) = (1, (s : Int))) (hr : LRun w (s :: q :: σ) (a + 1) E σ' a') : LRun w (q :: σ) a ((2, (a : Int)) :: E) σ' a'
  | reduce {q r tq : Nat} {p : Int} {σ ρ σ' : List Nat} {a a' : Nat} {E : List Sym} (h : actAt l T Nx S q (colAt T w a) = (2, p)) (hd : (q :: σ).drop (prodAt l p).2.length = r :: ρ) (hg : goTo T Nx r (prodAt l p).1 = (tq : Int)) (hr : LRun w (tq :: r :: ρ) a E σ' a') : LRun w (q :: σ) a ((4, p) :: E) σ' a'
end
section
variable {l : List gramL.Prod} {T N : Nat} {lk : Int → Int → Nat} {Nx : List (List Int)} {S : List (List Item)} {w : List Int}
theorem LRun.app {σ σ1 σ2 : List Nat} {a a1 a2 : Nat} {E E2 : List Sym} (h : LRun l T Nx S w σ a E σ1 a1) (h2 : LRun l T Nx S w σ1 a1 E2 σ2 a2) : LRun l T Nx S w σ a (E ++ E2) σ2 a2 := by
  induction h with
  | nil => exact h2
  | shift ha h _ ih => exact .shift ha h (ih h2)
  | reduce h hd hg _ ih => exact .reduce h hd hg (ih h2)
section
end
section
end
end
end Go.Proofs.Ytomkjjpdnmcnnaa.itemL

/- MapE -/
namespace Go.Proofs.Ytomkjjpdnmcnnaa.eng
open Go.RowKit kit mix
open Go.WideElems (Fit findIdx_arr findIdx_born modify_last)
open Go.ChangeMaps Go.MapKept Go.WideShapes
section
variable {P : Program} {k : TypeId} {κ : Type} (K : KeyT P k κ)
theorem modify_same {α : Type} (f : α → α) : ∀ (l : List α) (j : Nat) (a : α), l[j]? = some a → f a = a → l.modify j f = l
  | [], _, _, h, _ => by simp at h
  | b :: r, 0, a, h, hf => by simp at h; subst h; simp [hf]
  | b :: r, j + 1, a, h, hf => by simp at h; simp [List.modify_succ_cons, modify_same f r j a h hf]
theorem modify_eq {α : Type} (f f' : α → α) : ∀ (l : List α) (j : Nat) (a : α), l[j]? = some a → f a = f' a → l.modify j f = l.modify j f'
  | [], _, _, h, _ => by simp at h
  | b :: r, 0, a, h, hf => by simp at h; subst h; simp [hf]
  | b :: r, j + 1, a, h, hf => by simp at h; simp [List.modify_succ_cons, modify_eq f f' r j a h hf]
/-- an entry has been laid for x; what is not there counts as zero -/
def entO (g : Nat) (x : κ) (st : Nat) (z : Value) (f : κ → Value) (b : Nat) : Own :=
  ⟨some g, fun _ => False, fun w => (mapT K g z f b).holds w ∧ ∃ es clock e0, w.heap[g]? = some (.map es clock) ∧ e0 ∈ es.toList ∧ e0.key = K.kv x ∧ e0.born = st,
    fun w h q hq => (mapT K g z f b).lt w h.1 q hq,
    fun w w' ⟨h1, es, clock, e0, h2, h3⟩ hs hk => ⟨(mapT K g z f b).stay w w' h1 hs hk, es, clock, e0, (hk g (.inl rfl)).trans h2, h3⟩⟩
theorem set_self_block {w : World} {g : Nat} {es : Array MapEntry} {c : Nat} (h : w.heap[g]? = some (.map es c)) : setBlock w g (.map es c) = w := by
  have e : w.heap.setIfInBounds g (.map es c) = w.heap := by
    apply Array.ext_getElem?
    intro i
    by_cases hi : i = g
    · subst hi; exact (heap_setBlock_same h _).trans h.symm
    · exact heap_setBlock_other h _ hi
  unfold setBlock; rw [e]
variable [DecidableEq κ]
theorem entry_run {w : World} {t e : TypeId} {g b : Nat} {f : κ → Value} {x : κ} {z : Value} (ht : P.underlying t = some (.map k e)) (hz : ∀ u : World, (zeroValue e).run P u = .ok z u) (h : (mapT K g z f b).holds w) (hx : K.ok x) (hc : b ≤ 1152921504606846976) :
    ∃ st w1, (Instr.mapEntry t (.map (some g)) (K.kv x)).run P w = .ok (.tuple #[f x, goInt (st : Nat)]) w1 ∧ w.grownBy w1 (some g) ∧ (entO K g x st z f (b + 1)).holds w1 := by
  have hlook := run_lookT K (f := f) ht hz h hx
  obtain ⟨l, hkey⟩ := K.key x hx
  obtain ⟨m, n, h1, ⟨D, ⟨es, clock, hb, F, hs, hD⟩, hi⟩, h3⟩ := id h
  rcases K.law.find w hkey es.toList F.keys with ⟨k1, k2⟩ | ⟨j, e0, k1, k2, k3⟩
  · have hfx : f x = z := by
      have : (Instr.lookup t (.map (some g)) (K.kv x) false).run P w = .ok z w := by
        simp [Instr.lookup, run_underlying ht, MapKept.run_getObj_map hb, K.law.check w _ hkey, k1, hz, Result.andThen]
      rw [hlook] at this
      simpa using this
    obtain ⟨w', r1, r2, r3⟩ := mapT_put K (f' := f) (v := z) ht h hx hc (fun y _ => by by_cases e : y = x <;> simp [e, hfx])
    have r1' : (Instr.mapUpdate t (.map (some g)) (K.kv x) z).run P w = .ok () (setBlock w g (.map (es.push ⟨K.kv x, z, clock⟩) (clock + 1))) := by
      simp [Instr.mapUpdate, run_underlying ht, MapKept.run_getObj_map hb, K.law.check w false hkey, k1, MapKept.run_setObj_map _ hb, Result.andThen, setBlock]
    have ew : w' = setBlock w g (.map (es.push ⟨K.kv x, z, clock⟩) (clock + 1)) := by
      rw [r1] at r1'; simpa using r1'
    refine ⟨clock, w', ?_, r3, r2, es.push ⟨K.kv x, z, clock⟩, clock + 1, ⟨K.kv x, z, clock⟩, ?_, by simp, rfl, rfl⟩
    · rw [ew, hfx]
      simp [Instr.mapEntry, run_underlying ht, MapKept.run_getObj_map hb, K.law.check w false hkey, k1, hz, MapKept.run_setObj_map _ hb, Result.andThen, setBlock]
    · rw [ew]; exact heap_setBlock_same hb _
  · have hj : es[j]? = some e0 := by simpa using k2
    have hfx : f x = e0.val := by
      have : (Instr.lookup t (.map (some g)) (K.kv x) false).run P w = .ok e0.val w := by
        simp [Instr.lookup, run_underlying ht, MapKept.run_getObj_map hb, K.law.check w _ hkey, k1, Result.andThen]
      rw [hlook] at this
      simpa using this
    have hsame : es.modify j (fun e => { e with key := K.kv x }) = es := by
      apply Array.ext'
      rw [Array.toList_modify]
      exact modify_same _ _ _ _ k2 (by rw [← k3])
    refine ⟨e0.born, w, ?_, ⟨rfl, rfl, rfl, Nat.le_refl _, fun _ _ _ => rfl⟩, mapT_weak (by omega) (fun _ _ => rfl) w h, es, clock, e0, hb, List.mem_of_getElem? k2, k3, rfl⟩
    rw [hfx]
    have := set_self_block hb
    simp [Instr.mapEntry, run_underlying ht, MapKept.run_getObj_map hb, K.law.check w false hkey, k1, hj, k3, K.law.stays w hkey, hsame, MapKept.run_setObj_map _ hb, Result.andThen]
    exact this
theorem entry_set {w : World} {t e : TypeId} {g b st : Nat} {f f' : κ → Value} {x : κ} {z v : Value} (ht : P.underlying t = some (.map k e)) (h : (entO K g x st z f b).holds w) (hx : K.ok x) (hc : b ≤ 1152921504606846976) (hf : ∀ y, K.ok y → f' y = if y = x then v else f y) :
    ∃ w', (Instr.entryStore t (.map (some g)) (goInt (st : Nat)) v).run P w = .ok () w' ∧ (mapT K g z f' (b + 1)).holds w' ∧ w.grownBy w' (some g) := by
  obtain ⟨h, es', clock', e1, hb', he1, hk1, hs1⟩ := h
  obtain ⟨w', r1, r2, r3⟩ := mapT_put K (f' := f') (v := v) ht h hx hc hf
  refine ⟨w', ?_, r2, r3⟩
  rw [← r1]
  obtain ⟨l, hkey⟩ := K.key x hx
  obtain ⟨m, n, h1, ⟨D, ⟨es, clock, hb, F, hs, hD⟩, hi⟩, h3⟩ := h
  rw [hb] at hb'
  simp only [Option.some.injEq, Obj.map.injEq] at hb'
  obtain ⟨rfl, rfl⟩ := hb'
  obtain ⟨s1, s2, s3⟩ := F.stamped
  rcases K.law.find w hkey es.toList F.keys with ⟨k1, k2⟩ | ⟨j, e0, k1, k2, k3⟩
  · exact absurd hk1 (k2 e1 he1)
  · have hj : es[j]? = some e0 := by simpa using k2
    obtain ⟨i, hi'⟩ := List.getElem?_of_mem he1
    have hij : i = j := by
      have hi2 := (List.getElem?_eq_some_iff.1 hi')
      have hj2 := (List.getElem?_eq_some_iff.1 k2)
      obtain ⟨li, ei⟩ := hi2
      obtain ⟨lj, ej⟩ := hj2
      refine (List.getElem_inj (h₀ := by simpa using li) (h₁ := by simpa using lj) s3).1 ?_
      simp only [List.getElem_map, ei, ej, hk1, k3]
    subst hij
    have e01 : e1 = e0 := by rw [hi'] at k2; simpa using k2
    subst e01
    subst hs1
    have hidx : es.findIdx? (fun e => ((e.born : Nat) : Int) == ((e1.born : Nat) : Int)) = some i := by
      rw [findIdx_arr]
      exact findIdx_born s2 k2
    have hmod : es.modify i (fun e => { e with val := v }) = es.modify i (fun e' => { e' with key := K.kv x, val := v }) := by
      apply Array.ext'
      rw [Array.toList_modify, Array.toList_modify]
      exact modify_eq _ _ _ _ _ k2 (by rw [← k3])
    simp [Instr.entryStore, Instr.mapUpdate, run_underlying ht, MapKept.run_getObj_map hb, asInt, asIntOf, goInt, hidx, hmod, K.law.check w false hkey, k1, hj, k3, K.law.stays w hkey, MapKept.run_setObj_map _ hb, Result.andThen]
section
variable {W : Base} {fr : Fr} {L : List Own} {Q : Exit → Act → World → Prop} {ops : Array Oper} {rest : List Oper} {n d : Nat} {dst : Option Tmp} {ty : TypeId} {pos : String} {after : Array Edge} {guard : Option (Nat × Bool)} {i g b : Nat} {t e : TypeId} {f : κ → Value} {x : κ} {z : Value} {xm xk xv xs : Operand}
theorem TL_entry (ht : P.underlying t = some (.map k e)) (hz : ∀ u : World, (zeroValue e).run P u = .ok z u) (hi : L[i]? = some (mapT K g z f b)) (hm : ev fr xm = some (.map (some g))) (hk : ev fr xk = some (K.kv x)) (hx : K.ok x) (hc : b ≤ 1152921504606846976) (hn : Nat.blt d n = true)
    (h : ∀ st : Nat, TL P n W ops Q rest ((d, .tuple #[f x, .int .i64 (st : Int)]) :: fr) (L.set i (entO K g x st z f (b + 1)))) :
    TL P n W ops Q (⟨some d, .mapEntry t xm xk, ty, pos, after, none⟩ :: rest) fr L := TL_any rfl fun a w hr hw KK hK => by
  obtain ⟨st, w1, h1, h2, h3⟩ := entry_run K ht hz (hw.get hi) hx hc
  have e1 : (execOp a.eval ⟨some d, .mapEntry t xm xk, ty, pos, after, none⟩).run P w = .ok (.value (.tuple #[f x, .int .i64 (st : Int)])) w1 := by
    simp [execOp, hr.ev hm, hr.ev hk, h1, goInt, Result.andThen]
  unfold Oper.wp; rw [e1]
  exact hK _ _ ((h st).go _ _ (hr.put hn _) (hw.turn hi h2 h3 fun q hq => .inl hq))
theorem TL_entSet {st : Nat} {v : Value} (f' : κ → Value) (ht : P.underlying t = some (.map k e)) (hi : L[i]? = some (entO K g x st z f b)) (hm : ev fr xm = some (.map (some g))) (hs : ev fr xs = some (.int .i64 (st : Int))) (hv : ev fr xv = some v) (hx : K.ok x) (hc : b ≤ 1152921504606846976) (hf : ∀ y, K.ok y → f' y = if y = x then v else f y)
    (h : TL P n W ops Q rest fr (L.set i (mapT K g z f' (b + 1)))) :
    TL P n W ops Q (⟨none, .entryStore t xm xs xv, ty, pos, after, none⟩ :: rest) fr L := TL_any rfl fun a w hr hw KK hK => by
  obtain ⟨w1, h1, h2, h3⟩ := entry_set K ht (hw.get hi) hx hc hf
  have e1 : (execOp a.eval ⟨none, .entryStore t xm xs xv, ty, pos, after, none⟩).run P w = .ok .skip w1 := by
    have h1' : (Instr.entryStore t (.map (some g)) (.int .i64 (st : Int)) v).run P w = .ok () w1 := h1
    simp [execOp, hr.ev hm, hr.ev hs, hr.ev hv, h1', Result.andThen]
  unfold Oper.wp; rw [e1]
  exact hK _ _ (h.go _ _ (hr.put_none undef) (hw.turn hi h3 h2 fun q hq => .inl hq))
omit [DecidableEq κ] in
/-- a lookup while an entry is under way -/
theorem rr_lookE {st : Nat} {v : Value} (ht : P.underlying t = some (.map k e)) (hz : ∀ w, (zeroValue e).run P w = .ok z w) (hi : L[i]? = some (entO K g x st z f b)) (hm : ev fr xm = some (.map (some g))) (hk : ev fr xk = some (K.kv x)) (hx : K.ok x) (hv : f x = v) : RR P n W ⟨dst, .lookup t xm xk false, ty, pos, after, guard⟩ fr L v :=
  rr_lookM K ht hz (fun _ hw => (hw.get hi).1) hm hk hx hv
end
end
end Go.Proofs.Ytomkjjpdnmcnnaa.eng

/- KeyG -/
namespace Go.Proofs.Ytomkjjpdnmcnnaa.eng
open Go.RowKit kit mix
theorem mapM_some {α β : Type} {f : α → Option β} : ∀ {l : List α}, (∀ x ∈ l, ∃ y, f x = some y) → ∃ ys, l.mapM f = some ys
  | [], _ => ⟨[], by simp⟩
  | a :: l, h => by
    obtain ⟨y, hy⟩ := h a (by simp)
    obtain ⟨ys, hys⟩ := mapM_some (l := l) fun x hx => h x (by simp [hx])
    exact ⟨y :: ys, by simp [List.mapM_cons, hy, hys]⟩
section
variable {P : Program}
def KL (P : Program) (d : Nat) (t : TypeId) (cs : List Value) : Prop := ∃ ls, P.keyLits d t cs = some ls
theorem kl_int {d : Nat} {t : TypeId} {q : IntKind} {n : Int} (ht : P.underlying t = some (.int q)) (h0 : q.min ≤ n) (h1 : n ≤ q.max) : KL P (d + 1) t [.int q n] := by
  refine ⟨[.int q n], ?_⟩
  have hw : (Lit.int q n).wf = true := by simp [Lit.wf, h0, h1]
  simp [Program.keyLits, ht, hw]
theorem kl_struct {d : Nat} {t : TypeId} {fs : Array Field} {cs : List Value} (ht : P.underlying t = some (.struct fs)) (hl : cs.length = P.cellsOf t) (hn : fs.all (·.name != "_") = true) (h : ∀ f ∈ fs.toList, KL P d f.type ((cs.drop f.offset).take (P.cellsOf f.type))) : KL P (d + 1) t cs := by
  obtain ⟨ys, hy⟩ := mapM_some (f := fun f : Field => P.keyLits d f.type ((cs.drop f.offset).take (P.cellsOf f.type))) (l := fs.toList) h
  refine ⟨ys.flatten, ?_⟩
  unfold Program.keyLits
  simp only [ht]
  rw [if_pos ⟨hl, hn⟩, hy]; rfl
theorem key_ex {t : TypeId} {cs : List Value} {m : Nat} (hw : (match P.underlying t with | some (.array _ _) | some (.struct _) => true | _ => false) = true) (hk : P.keyType t = true) (hl : cs.length = P.cellsOf t) (hm : ∃ d, P.types.size + 1 = d + m) (h : ∀ d, KL P (d + m) t cs) : ∃ l, keyOf P t (.agg cs.toArray) = some l := by
  obtain ⟨d, e⟩ := hm
  obtain ⟨ls, hls⟩ := h d
  refine ⟨.string (keyBytes ls), ?_⟩
  have hf : (Value.agg cs.toArray).formed P t = true := by
    unfold Value.formed
    split at hw <;> simp_all
  have hc : (Value.agg cs.toArray).cells.toList = cs := rfl
  have key : (if (P.keyType t && (Value.agg cs.toArray).formed P t) = true then (P.keyLits (P.types.size + 1) t (Value.agg cs.toArray).cells.toList).map (fun ls => Lit.string (keyBytes ls)) else none) = some (.string (keyBytes ls)) := by
    rw [hk, hf, hc, e, hls]; rfl
  unfold keyOf
  split at hw
  · rename_i h1; rw [h1]; exact key
  · rename_i h1; rw [h1]; exact key
  · cases hw
end
theorem tryLaid : laidOutB Try.prog = true := by kernel_rfl
theorem trySize (m : Nat) (h : Nat.ble m (Try.prog.types.size + 1) = true) : ∃ d, Try.prog.types.size + 1 = d + m := ⟨Try.prog.types.size + 1 - m, by have := Nat.le_of_ble_eq_true h; omega⟩
end Go.Proofs.Ytomkjjpdnmcnnaa.eng

/- ItC -/
namespace Go.Proofs.Ytomkjjpdnmcnnaa.eng
open Go.RowKit kit mix gramL treeL factsL itemL
/-! ### keys -/
abbrev RK := Int × Int
def rkV (x : RK) : Value := .agg #[.int .i64 x.1, .int .i64 x.2]
set_option maxRecDepth 100000 in
theorem rk_key (p : RK) (h : kit.okI64 p.1 ∧ kit.okI64 p.2) : ∃ l, keyOf Try.prog 121 (rkV p) = some l := by
  have e1 : Try.prog.cellsOf 121 = 2 := by kernel_rfl
  have e3 : Try.prog.cellsOf 3 = 1 := by kernel_rfl
  refine key_ex (cs := [.int .i64 p.1, .int .i64 p.2]) (m := 2) (by kernel_rfl) (by kernel_rfl) (by rw [e1]; rfl) (trySize 2 (by kernel_rfl)) fun d => ?_
  refine kl_struct (d := d + 1) Try.underlying121 (by rw [e1]; rfl) (by kernel_rfl) fun f hf => ?_
  simp only [List.mem_cons, List.not_mem_nil, or_false] at hf
  rcases hf with rfl | rfl
  · rw [e3]
    exact kl_int Try.underlying3 h.1.1 h.1.2
  · rw [e3]
    exact kl_int Try.underlying3 h.2.1 h.2.2
theorem rkRow : (121 : TypeId) < Try.prog.types.size := of_decide_eq_true (by kernel_rfl)
set_option maxRecDepth 100000 in
def restK : KeyT Try.prog 121 RK where
  kv := rkV
  ok p := kit.okI64 p.1 ∧ kit.okI64 p.2
  law := deep_law_laid tryLaid (m := 2) (by omega) rkRow (by kernel_rfl) (by kernel_rfl)
  key x h := rk_key x h
  inj x y h := by
    simp only [rkV, Value.agg.injEq, Array.mk.injEq, List.cons.injEq, Value.int.injEq, true_and, and_true] at h
    exact Prod.ext h.1 h.2
set_option maxRecDepth 100000 in
theorem it_key (p : itemL.Item) (h : kit.okI64 p.1 ∧ kit.okI64 p.2.1 ∧ kit.okI64 p.2.2) : ∃ l, keyOf Try.prog 43 (.agg (itC p).toArray) = some l := by
  have e1 : Try.prog.cellsOf 43 = 3 := by kernel_rfl
  have e3 : Try.prog.cellsOf 3 = 1 := by kernel_rfl
  refine key_ex (cs := itC p) (m := 2) (by kernel_rfl) (by kernel_rfl) (by rw [e1]; rfl) (trySize 2 (by kernel_rfl)) fun d => ?_
  refine kl_struct (d := d + 1) Try.underlying43 (by rw [e1]; rfl) (by kernel_rfl) fun f hf => ?_
  simp only [List.mem_cons, List.not_mem_nil, or_false] at hf
  rcases hf with rfl | rfl | rfl
  · rw [e3]
    exact kl_int Try.underlying3 h.1.1 h.1.2
  · rw [e3]
    exact kl_int Try.underlying3 h.2.1.1 h.2.1.2
  · rw [e3]
    exact kl_int Try.underlying3 h.2.2.1 h.2.2.2
theorem itRow : (43 : TypeId) < Try.prog.types.size := of_decide_eq_true (by kernel_rfl)
set_option maxRecDepth 100000 in
def itK : KeyT Try.prog 43 itemL.Item where
  kv x := .agg (itC x).toArray
  ok p := kit.okI64 p.1 ∧ kit.okI64 p.2.1 ∧ kit.okI64 p.2.2
  law := deep_law_laid tryLaid (m := 2) (by omega) itRow (by kernel_rfl) (by kernel_rfl)
  key x h := it_key x h
  inj x y h := by
    simp only [itC, Value.agg.injEq, Array.mk.injEq, List.cons.injEq, Value.int.injEq, true_and, and_true] at h
    exact Prod.ext h.1 (Prod.ext h.2.1 h.2.2)
theorem rk_ok {a b : Nat} (ha : a ≤ 9223372036854775807) (hb : b ≤ 9223372036854775807) : restK.ok ((a : Int), (b : Int)) := by
  show kit.okI64 (a : Int) ∧ kit.okI64 (b : Int)
  exact ⟨⟨by omega, by omega⟩, ⟨by omega, by omega⟩⟩
theorem zero_u64 (w : World) : (zeroValue 70).run Try.prog w = .ok (.int .u64 0) w := by kernel_rfl
theorem zero_i64 (w : World) : (zeroValue 3).run Try.prog w = .ok (.int .i64 0) w := by kernel_rfl
/-! ### bits -/
theorem bits_andnX {x : Nat} (hx : x < 18446744073709551616) (h : x.testBit 62 = true) : bits .andNot .u64 (x : Int) 4611686018427387904 = ((x ^^^ 2 ^ 62 : Nat) : Int) := by
  have e0 : (4611686018427387904 : Int) = ((2 ^ 62 : Nat) : Int) := by decide
  rw [e0]
  show IntKind.u64.wrap ((BitVec.ofInt 64 (x : Int) &&& ~~~ BitVec.ofInt 64 ((2 ^ 62 : Nat) : Int)).toNat : Int) = _
  have hlt : x ^^^ 2 ^ 62 < 2 ^ 64 := Nat.xor_lt_two_pow hx (by decide)
  have e : BitVec.ofInt 64 (x : Int) &&& ~~~ BitVec.ofInt 64 ((2 ^ 62 : Nat) : Int) = BitVec.ofNat 64 (x ^^^ 2 ^ 62) := by
    rw [BitVec.ofInt_natCast, BitVec.ofInt_natCast]
    ext i hi
    simp only [BitVec.getElem_and, BitVec.getElem_not]
    rw [← BitVec.getLsbD_eq_getElem, ← BitVec.getLsbD_eq_getElem, ← BitVec.getLsbD_eq_getElem, BitVec.getLsbD_ofNat, BitVec.getLsbD_ofNat, BitVec.getLsbD_ofNat]
    simp only [hi, decide_true, Bool.true_and, Nat.testBit_xor, Nat.testBit_two_pow]
    by_cases e : 62 = i
    · subst e; rw [h]; decide
    · rw [decide_eq_false e]; simp
  rw [e, BitVec.toNat_ofNat, Nat.mod_eq_of_lt hlt, IntKind.wrap_u64]
  omega
theorem shrU2 {P : Program} (x j b : Nat) (k k' : IntKind) (hb : k.bits = b) (hj : j ≤ b) (w : World) : (Op.shift .shr k (x : Int) k' (j : Int)).run P w = .ok (.int k ((x / 2 ^ j : Nat) : Int)) w := by
  have e : min j b = j := by omega
  have h0 : ¬ ((j : Int) < 0) := by omega
  have e2 : (x : Int).fdiv (2 ^ j) = ((x / 2 ^ j : Nat) : Int) := by
    rw [Int.fdiv_eq_ediv_of_nonneg _ (by have : (0 : Int) < 2 ^ j := Int.pow_pos (by decide); omega)]
    simp
  simp only [Op.shift, if_neg h0, hb, Int.toNat_natCast, e, e2, Sem.run_pure]
theorem and1 {y : Nat} (hy : y < 18446744073709551616) : bits .and .u64 (y : Int) 1 = ((y % 2 : Nat) : Int) := by
  have h := bits_nat .u64 64 (by decide) (fun n h0 h1 => by rw [IntKind.wrap_u64]; omega) y 1 (by simpa using hy) (by decide)
  rw [Nat.and_one_is_mod] at h
  exact h.1
theorem bit_dec (x k : Nat) : x.testBit k = decide (x / 2 ^ k % 2 = 1) := Nat.testBit_eq_decide_div_mod_eq ..
def lkG (g : Gram) (p d : Int) : Nat := begV g ((bodyI g.prods p).drop (d.toNat + 1)) 4611686018427387904
theorem begV_lt {g : Gram} {body : List Sym} {behind : Nat} (hb : behind < 18446744073709551616) : begV g body behind < 18446744073709551616 := by
  unfold begV
  by_cases c : begE g body = 0
  · rw [if_pos c]
    have hg : checkG g = 0 := by
      unfold begE at c
      by_cases c2 : checkG g = 0
      · exact c2
      · rw [if_pos c2] at c; exact c
    have h60 : ¬ 60 < body.length := fun h => by
      unfold begE at c
      rw [if_neg (by simpa using hg), if_pos h] at c; cases c
    have hbad : badE g.terms g.nons body = 0 := by
      unfold begE at c
      rw [if_neg (by simpa using hg), if_neg h60] at c; exact c
    have hn := (checkG_ok hg).2.2.1
    have ht := (checkG_ok hg).2.1
    refine beginF_lt (ofW_ok hg (n := g.nons.toNat) (by omega)).2 hb fun x hx h1 => ?_
    rcases right_cases (badE_ok hbad x hx) with h | h
    · omega
    · omega
  · rw [if_neg c]; decide
/-! ### looks -/
def opC (t n : Int) (vp : Value) (gm : Nat) : List Value := [.int .i64 t, .int .i64 n, vp, .map (some gm)]
def CacheOk (lk : Int → Int → Nat) (f : RK → Option Value) : Prop := ∀ x v, f x = some v → v = bitV (lk x.1 x.2)
theorem build_rest (a b : Int) (w : World) : (Instr.build 121 #[(0, .int .i64 a), (1, .int .i64 b)]).run Try.prog w = .ok (.agg #[.int .i64 a, .int .i64 b]) w := by go_simp
theorem CacheOk.put {lk : Int → Int → Nat} {f : RK → Option Value} (h : CacheOk lk f) (x : RK) : CacheOk lk (fun y => if y = x then some (bitV (lk x.1 x.2)) else f y) := by
  intro y v hv
  dsimp only at hv
  by_cases c : y = x
  · rw [if_pos c] at hv
    cases hv; rw [c]
  · rw [if_neg c] at hv; exact h y v hv
theorem SymC_len (a : Sym) : (symC a).length = 2 := rfl
theorem op_gram {t n : Int} {vp v : Value} {gm j : Nat} (h : [.int .i64 t, .int .i64 n, vp][j]? = some v) : (opC t n vp gm).toArray[0 + j]? = some v := by
  rw [Nat.zero_add]
  match j, h with
  | 0, h => exact h
  | 1, h => exact h
  | 2, h => exact h
/-- a body as a slice -/
theorem body_slL {l : List gramL.Prod} {w0 : World} {W : Base} {L : List Own} {vb : Nat → Value} {k i : Nat} {x : Option Nat} (ho : Old w0 W) (hv : BodR (fun q => q < w0.heap.size) w0 vb l) (hk : k ≤ l.length) (hx : x.isSome = decide (k = l.length)) (hi : L[i]? = some (bodO x)) : ∃ b c, bodV vb k x = .slice b (bodyI l (k : Int)).length c ∧ (bodyI l (k : Int)).length ≤ c ∧ SlL W L (bodV vb k x) (bodyI l (k : Int)).length ((bodyI l (k : Int)).flatMap symC) := by
  cases x with
  | some g =>
    have hk : k = l.length := by simpa using hx
    subst hk
    have e : bodyI l (l.length : Int) = [(2, 0)] := by unfold bodyI; rw [if_pos rfl]
    rw [e]
    exact ⟨_, _, rfl, Nat.le_refl _, sl_blk hi (fun j u h => by simpa [symC] using h) (Nat.le_refl _) (by decide)⟩
  | none =>
    have hk' : k < l.length := by
      have : ¬ k = l.length := by simpa using hx
      omega
    have e : bodyI l (k : Int) = (prodAt l (k : Int)).2 := by unfold bodyI; rw [if_neg (by omega)]
    rw [e]
    have h := hv k hk'
    have hs := h.flat (f := symC) (by decide)
    obtain ⟨b, c, e2, e3, _⟩ := id h
    exact ⟨b, c, e2, e3, fun w hm => hs.gr (ho.mem hm)⟩
attribute [local irreducible] Op.shift Go.bits in
set_option maxHeartbeats 8000000 in
theorem looks_calls (g : Gram) (hg : checkG g = 0) (bp : Option Addr) (cp : Nat) (vb : Nat → Value) (w0 : World) (hG : GraR (fun q => q < w0.heap.size) w0 (graV g.terms g.nons (.slice bp g.prods.length cp)) g) (hvb : BodR (fun q => q < w0.heap.size) w0 vb g.prods) (hrp : 0 < g.prods.length → ∃ b off, bp = some ⟨b, off, none⟩ ∧ ∀ i, i < g.prods.length → Rd w0 b (off + i * 2) [.int .i64 (prodAt g.prods (i : Int)).1, vb i])
    (go gm c : Nat) (f : RK → Option Value) (it : itemL.Item) (T : Nat) (hT : T ≤ 30) (hr : RightI g.prods T it) (hd : it.2.1.toNat < (bodyI g.prods it.1).length) (hc : CacheOk (lkG g) f) (hcc : c ≤ 1000000000000000) (w : World) (B : Base) (ho : Old w0 B)
    (hm : Mem B [blkO go (opC g.terms g.nons (.slice bp g.prods.length cp) gm).toArray 105, mapO restK gm f c] w) :
    Calls Try.prog 46 #[.pointer (some ⟨go, 0, none⟩), .agg (itC it).toArray] w (MeetsB ⟨fun (x : (RK → Option Value) × Nat) => CacheOk (lkG g) x.1 ∧ x.2 ≤ c + 1, fun _ => bitV (looksI (lkG g) it), fun x => [blkO go (opC g.terms g.nons (.slice bp g.prods.length cp) gm).toArray 105, mapO restK gm x.1 x.2]⟩ B) := by
  obtain ⟨p, d, lo⟩ := it
  obtain ⟨r1, r2, r3, r4, r5, r6⟩ := hr
  dsimp only at r1 r2 r3 r4 r5 r6 hd
  obtain ⟨k, rfl⟩ := Int.eq_ofNat_of_zero_le r1
  obtain ⟨dn, rfl⟩ := Int.eq_ofNat_of_zero_le r3
  obtain ⟨ln, rfl⟩ := Int.eq_ofNat_of_zero_le r5
  rw [Int.toNat_natCast] at hd
  have hk : k ≤ g.prods.length := by omega
  have hbd := fun w' (hm' : Mem B [] w') => itBody_calls g.terms g.nons bp cp g.prods vb w0 w' B k hk ho hm' (fun i hi => let ⟨b, c, h, _⟩ := hvb i hi; ⟨b, _, c, h⟩) hrp
  have hbg := fun vs body w' (hm' : Gr w0 w') hs => factsBegin_calls _ vs g body 4611686018427387904 w' (hG.gr hm') hs (by decide)
  have hbr := build_rest (k : Int) (dn : Int)
  have hlt : lkG g (k : Int) (dn : Int) < 18446744073709551616 := begV_lt (by decide)
  have hb8 := body_len (l := g.prods) (p := (k : Int)) (fun q hq => ((checkG_ok hg).2.2.2.2.2 q hq).1)
  refine enterB hm (args := [.pointer (some ⟨go, 0, none⟩), .agg (itC ((k : Int), (dn : Int), (ln : Int))).toArray]) (n := 61) Try.func46 rfl rfl rfl ?_
  refine T_seq (T_region (TL_box rfl rfl rfl fun g3 => ?_))
  conv=>arg 8;simp only[zA,zB,zC,zD,zE,zF,zG,zH,zI,rowS,ret,id_eq]
  repeat(first|refine QV QP ?_|refine QZ ?_|refine qcT rfl ?_|refine qcF rfl ?_|refine QV (rr_load1 (v := .int .i64 (k : Int)) TyC.ty rfl (at_blk (i := 2) rfl rfl)) ?_|refine QV (rr_load1 (v := .int .i64 (dn : Int)) TyC.ty rfl (at_blk (i := 2) rfl rfl)) ?_|refine QV (rr_build rfl hbr) ?_|refine QV QA ?_|refine QV (rr_not rfl rfl) ?_|refine QV (rr_nilc rfl) ?_|refine QV QeT ?_|refine QV QeF ?_|refine QV QaA ?_)
  refine TL_new rfl fun g5 => ?_
  conv=>arg 8;simp only[zA,zB,zC,zD,zE,zF,zG,zH,zI,rowS,ret,id_eq]
  refine TL_storeB (i := 3) (cs' := #[.int .i64 (k : Int), .int .i64 (dn : Int)]) rfl rfl rfl rfl rfl rfl ?_
  conv=>arg 8;simp only[zA,zB,zC,zD,zE,zF,zG,zH,zI,rowS,ret,id_eq]
  have hrk : restK.ok ((k : Int), (dn : Int)) := rk_ok (by have := (checkG_ok hg).2.2.2.2.1; omega) (by omega)
  have hrk : restK.ok ((k : Int), (dn : Int)) := rk_ok (by have := (checkG_ok hg).2.2.2.2.1; omega) (by omega)
  have hrk : restK.ok ((k : Int), (dn : Int)) := rk_ok (by have := (checkG_ok hg).2.2.2.2.1; omega) (by omega)
  have hrk : restK.ok ((k : Int), (dn : Int)) := rk_ok (by have := (checkG_ok hg).2.2.2.2.1; omega) (by omega)
  have hcp := hc.put ((k : Int), (dn : Int))
  have hlk : lkG g (k : Int) (dn : Int) = begV g ((bodyI g.prods (k : Int)).drop (dn + 1)) 4611686018427387904 := by unfold lkG; rw [Int.toNat_natCast]
  have hc1 := hc ((k : Int), (dn : Int))
  dsimp only at hcp hc1
  unfold looksI
  dsimp only
  rw [Int.toNat_natCast]
  generalize hB0 : lkG g (k : Int) (dn : Int) = B0 at *
  repeat(first|refine QV QP ?_|refine QZ ?_|refine qcT rfl ?_|refine qcF rfl ?_|refine QV QA ?_|refine QV (rr_not rfl rfl) ?_|refine QV (rr_nilc rfl) ?_|refine QV QeT ?_|refine QV QeF ?_|refine QV QaA ?_)
  cases hf : f ((k : Int), (dn : Int)) with
  | some v =>
    have hv := hc1 v hf
    subst hv
    clear hbd hbg hcp hc1
    refine T_ord ([blkO go (opC g.terms g.nons (.slice bp g.prods.length cp) gm).toArray 105, mapO restK gm f c, blkO g3 (Value.agg (itC ((k : Int), (dn : Int), (ln : Int))).toArray).cells 43, blkO g5 #[.int .i64 (k : Int), .int .i64 (dn : Int)] 121]) (.calm 0 (.calm 1 (.calm 2 (.calm 3 (.calm 4 (.calm 5 (.calm 6 (.calm 7 (.calm 8 (.calm 9 (.calm 10 (.done)))))))))))) (fun _ h => h) (by kernel_rfl) (by kernel_rfl) (by intro c a d v w h; cases d <;> exact h) ?_
    repeat(first|((first|refine TW_plain rfl rfl ?_|refine TW_gmet rfl rfl rfl rfl ?_);first|refine QW QP ?_|refine QW (rr_load1 (v := .map (some gm)) TyC.ty rfl (at_blk (i := 0) rfl rfl)) ?_|refine QW (rr_loadB (i := 3) TyC.ty rfl rfl rfl) ?_|refine QW (rr_lookOk (x := ((k : Int), (dn : Int))) restK Und.eq zero_u64 (i := 1) rfl rfl rfl hrk) ?_|refine QW QA ?_|refine QW (rr_not rfl rfl) ?_|refine QW (rr_nilc rfl) ?_|refine QW QeT ?_|refine QW QeF ?_|refine QW QaA ?_)|refine TW_done ?_)
    rw [hf]
    dsimp only [Option.getD, Option.isSome]
    repeat(first|refine QV QP ?_|refine QZ ?_|refine qcT rfl ?_|refine qcF rfl ?_|refine QV QA ?_|refine QV (rr_not rfl rfl) ?_|refine QV (rr_nilc rfl) ?_|refine QV QeT ?_|refine QV QeF ?_|refine QV QaA ?_)
    have hdv : B0 / 2 ^ 62 ≤ B0 := Nat.div_le_self _ _
    have ha1 := and1 (y := B0 / 2 ^ 62) (by omega)
    have hs1 : ∀ w, (Op.shift .shr .u64 (B0 : Int) .u64 62).run Try.prog w = .ok (.int .u64 ((B0 / 2 ^ 62 : Nat) : Int)) w := fun w => shrU2 B0 62 64 .u64 .u64 rfl (by decide) w
    have hsl : ∀ w, (Op.shift .shl .u64 1 .i64 (ln : Int)).run Try.prog w = .ok (.int .u64 ((2 ^ ln : Nat) : Int)) w := fun w => shl1 ln (by omega) w
    by_cases cb : B0.testBit 62 = true
    · rw [if_pos cb]
      have hn := bits_andnX hlt cb
      have hx2 : B0 ^^^ 2 ^ 62 < 18446744073709551616 := Nat.xor_lt_two_pow (n := 64) hlt (by decide)
      have hor := bits_orN hx2 (pow_lt64 (m := ln) (by omega))
      have hb1 : B0 / 2 ^ 62 % 2 = 1 := by rw [bit_dec] at cb; exact of_decide_eq_true cb
      generalize B0 / 2 ^ 62 = D1 at *
      generalize B0 ^^^ 2 ^ 62 = D2 at *
      generalize 2 ^ ln = D3 at *
      repeat(first|refine QV QP ?_|refine QZ ?_|refine qcT rfl ?_|refine qcF rfl ?_|refine QV (rr_shr rfl rfl hs1) ?_|refine QV (rr_and rfl rfl ha1) ?_|refine QV (rr_eql (b := false) rfl rfl (decide_eq_false (by omega))) ?_|refine QV (rr_andn rfl rfl hn) ?_|refine QV (rr_load1 (v := .int .i64 (ln : Int)) TyC.ty rfl (at_blk (i := 2) rfl rfl)) ?_|refine QV (rr_shl rfl rfl hsl) ?_|refine QV (rr_or rfl rfl hor) ?_|refine QV QA ?_|refine QV (rr_not rfl rfl) ?_|refine QV (rr_nilc rfl) ?_|refine QV QeT ?_|refine QV QeF ?_|refine QV QaA ?_)
      exact E_ret1 rfl rfl fun w hm => hm.meetsB (S := ⟨fun (x : (RK → Option Value) × Nat) => CacheOk (lkG g) x.1 ∧ x.2 ≤ c + 1, fun _ => bitV (D2 ||| D3), fun x => [blkO go (opC g.terms g.nons (.slice bp g.prods.length cp) gm).toArray 105, mapO restK gm x.1 x.2]⟩) (f, c) ⟨hc, by omega⟩ [0, 1] (by decide) rfl
    · rw [if_neg cb]
      have hb0 : B0 / 2 ^ 62 % 2 = 0 := by
        rw [bit_dec, decide_eq_true_eq] at cb; omega
      generalize B0 / 2 ^ 62 = D1 at *
      repeat(first|refine QV QP ?_|refine QZ ?_|refine qcT rfl ?_|refine qcF rfl ?_|refine QV (rr_shr rfl rfl hs1) ?_|refine QV (rr_and rfl rfl ha1) ?_|refine QV (rr_eql (b := true) rfl rfl (decide_eq_true (by omega))) ?_|refine QV QA ?_|refine QV (rr_not rfl rfl) ?_|refine QV (rr_nilc rfl) ?_|refine QV QeT ?_|refine QV QeF ?_|refine QV QaA ?_)
      exact E_ret1 rfl rfl fun w hm => hm.meetsB (S := ⟨fun (x : (RK → Option Value) × Nat) => CacheOk (lkG g) x.1 ∧ x.2 ≤ c + 1, fun _ => bitV B0, fun x => [blkO go (opC g.terms g.nons (.slice bp g.prods.length cp) gm).toArray 105, mapO restK gm x.1 x.2]⟩) (f, c) ⟨hc, by omega⟩ [0, 1] (by decide) rfl
  | none =>
    clear hc1
    refine T_ord ([blkO go (opC g.terms g.nons (.slice bp g.prods.length cp) gm).toArray 105, mapO restK gm f c, blkO g3 (Value.agg (itC ((k : Int), (dn : Int), (ln : Int))).toArray).cells 43, blkO g5 #[.int .i64 (k : Int), .int .i64 (dn : Int)] 121]) (.calm 0 (.calm 1 (.calm 2 (.calm 3 (.calm 4 (.calm 5 (.calm 6 (.calm 7 (.calm 8 (.calm 9 (.calm 10 (.done)))))))))))) (fun _ h => h) (by kernel_rfl) (by kernel_rfl) (by intro c a d v w h; cases d <;> exact h) ?_
    repeat(first|((first|refine TW_plain rfl rfl ?_|refine TW_gmet rfl rfl rfl rfl ?_);first|refine QW QP ?_|refine QW (rr_load1 (v := .map (some gm)) TyC.ty rfl (at_blk (i := 0) rfl rfl)) ?_|refine QW (rr_loadB (i := 3) TyC.ty rfl rfl rfl) ?_|refine QW (rr_lookOk (x := ((k : Int), (dn : Int))) restK Und.eq zero_u64 (i := 1) rfl rfl rfl hrk) ?_|refine QW QA ?_|refine QW (rr_not rfl rfl) ?_|refine QW (rr_nilc rfl) ?_|refine QW QeT ?_|refine QW QeF ?_|refine QW QaA ?_)|refine TW_done ?_)
    rw [hf]
    dsimp only [Option.getD, Option.isSome]
    repeat(first|refine QV QP ?_|refine QZ ?_|refine qcT rfl ?_|refine qcF rfl ?_|refine QV QA ?_|refine QV (rr_not rfl rfl) ?_|refine QV (rr_nilc rfl) ?_|refine QV QeT ?_|refine QV QeF ?_|refine QV QaA ?_)
    refine T_ord ([blkO go (opC g.terms g.nons (.slice bp g.prods.length cp) gm).toArray 105, blkO g3 (Value.agg (itC ((k : Int), (dn : Int), (ln : Int))).toArray).cells 43]) (.calm 0 (.calm 1 (.calm 2 (.calm 3 (.calm 4 (.calm 5 (.calm 6 (.calm 7 (.calm 8 (.calm 9 (.calm 11 (.calm 12 (.calm 13 (.one 10 (.calm 14 (.one 15 (.calm 16 (.calm 17 (.calm 18 (.calm 19 (.done))))))))))))))))))))) (sub_pick [0, 2] (by decide) rfl) (by kernel_rfl) (by kernel_rfl) (by intro c a d v w h; cases d <;> exact h) ?_
    repeat(first|((first|refine TW_plain rfl rfl ?_|refine TW_gmet rfl rfl rfl rfl ?_);first|refine QW QP ?_|refine QW (rr_loadN TyC.ty rfl (cs := [.int .i64 g.terms, .int .i64 g.nons, .slice bp g.prods.length cp]) rfl (fun j v h => at_blk (i := 0) rfl (op_gram h))) ?_|refine QW (rr_load1 (v := .int .i64 (k : Int)) TyC.ty rfl (at_blk (i := 1) rfl rfl)) ?_|refine QW (rr_load1 (v := .int .i64 (dn : Int)) TyC.ty rfl (at_blk (i := 1) rfl rfl)) ?_|refine QW (rr_add64 (r := ((dn + 1 : Nat) : Int)) rfl rfl (by omega) (by omega) (by omega)) ?_|refine QW QA ?_|refine QW (rr_not rfl rfl) ?_|refine QW (rr_nilc rfl) ?_|refine QW QeT ?_|refine QW QeF ?_|refine QW QaA ?_)|refine TW_done ?_)
    refine TW_one rfl ?_
    refine TL_call (he2 EntersC.en rfl rfl rfl) (fun w hm => hbd _ (hm.pick [] (by decide) rfl)) rfl rfl rfl ?_
    rintro x hx
    conv=>arg 8;simp only[zA,zB,zC,zD,zE,zF,zG,zH,zI,rowS,ret,id_eq, bodyS]
    conv => arg 7; simp only [bodyS]
    obtain ⟨bb, cc, hv, hlc, hsl⟩ := body_slL (W := B) (i := 4) (L := [blkO go (opC g.terms g.nons (.slice bp g.prods.length cp) gm).toArray 105, mapO restK gm f c, blkO g3 (Value.agg (itC ((k : Int), (dn : Int), (ln : Int))).toArray).cells 43, blkO g5 #[.int .i64 (k : Int), .int .i64 (dn : Int)] 121, bodO x]) ho hvb hk hx rfl
    rw [hv] at hsl ⊢
    have htk : ((bodyI g.prods (k : Int)).drop (dn + 1)).take ((bodyI g.prods (k : Int)).length - (dn + 1)) = (bodyI g.prods (k : Int)).drop (dn + 1) := List.take_of_length_le (by rw [List.length_drop]; exact Nat.le_refl _)
    have hsub := fun w hm => sl_sub (i := dn + 1) (j := (bodyI g.prods (k : Int)).length) SymC_len (hsl w hm) (by omega) (Nat.le_refl _)
    rw [htk] at hsub
    generalize hbl : (bodyI g.prods (k : Int)).length = m at *
    refine TW_on (sub_pick [0, 2] (by decide) rfl) ?_
    repeat(first|((first|refine TW_plain rfl rfl ?_|refine TW_gmet rfl rfl rfl rfl ?_);first|refine QW QP ?_|refine QW (rr_slfrom (i := dn + 1) Und.eq TyC.ty rfl rfl (by omega) hlc) ?_|refine QW QA ?_|refine QW (rr_not rfl rfl) ?_|refine QW (rr_nilc rfl) ?_|refine QW QeT ?_|refine QW QeF ?_|refine QW QaA ?_)|refine TW_done ?_)
    refine TW_one rfl ?_
    refine TL_call (he3 EntersC.en rfl rfl rfl rfl) (fun w hm => hbg _ _ _ (ho.mem hm) (hsub w hm)) rfl rfl rfl ?_
    intro _ _
    conv=>arg 8;simp only[zA,zB,zC,zD,zE,zF,zG,zH,zI,rowS,ret,id_eq]
    rw [← hlk]
    refine TW_on (sub_pick [0, 2] (by decide) rfl) ?_
    repeat(first|((first|refine TW_plain rfl rfl ?_|refine TW_gmet rfl rfl rfl rfl ?_);first|refine QW QP ?_|refine QW QA ?_|refine QW (rr_not rfl rfl) ?_|refine QW (rr_nilc rfl) ?_|refine QW QeT ?_|refine QW QeF ?_|refine QW QaA ?_)|refine TW_done ?_)
    repeat(first|refine QV QP ?_|refine QZ ?_|refine qcT rfl ?_|refine qcF rfl ?_|refine QV QA ?_|refine QV (rr_not rfl rfl) ?_|refine QV (rr_nilc rfl) ?_|refine QV QeT ?_|refine QV QeF ?_|refine QV QaA ?_)
    refine T_ord ([blkO go (opC g.terms g.nons (.slice bp g.prods.length cp) gm).toArray 105, blkO g5 #[.int .i64 (k : Int), .int .i64 (dn : Int)] 121]) (.calm 0 (.calm 1 (.calm 2 (.calm 3 (.calm 4 (.calm 5 (.one 6 (.done)))))))) (sub_pick [0, 3] (by decide) rfl) (by kernel_rfl) (by kernel_rfl) (by intro c a d v w h; cases d <;> exact h) ?_
    repeat(first|((first|refine TW_plain rfl rfl ?_|refine TW_gmet rfl rfl rfl rfl ?_);first|refine QW QP ?_|refine QW (rr_load1 (v := .map (some gm)) TyC.ty rfl (at_blk (i := 0) rfl rfl)) ?_|refine QW (rr_loadB (i := 1) TyC.ty rfl rfl rfl) ?_|refine QW QA ?_|refine QW (rr_not rfl rfl) ?_|refine QW (rr_nilc rfl) ?_|refine QW QeT ?_|refine QW QeF ?_|refine QW QaA ?_)|refine TW_done ?_)
    refine TW_one rfl ?_
    refine TL_mapSet (i := 1) (x := ((k : Int), (dn : Int))) (v := bitV B0) restK Und.eq rfl rfl rfl rfl hrk (by omega) ?_
    conv=>arg 8;simp only[zA,zB,zC,zD,zE,zF,zG,zH,zI,rowS,ret,id_eq]
    rw [hf]
    dsimp only [Option.isSome]
    refine TW_on (sub_pick [0, 3] (by decide) rfl) ?_
    repeat(first|((first|refine TW_plain rfl rfl ?_|refine TW_gmet rfl rfl rfl rfl ?_);first|refine QW QP ?_|refine QW QA ?_|refine QW (rr_not rfl rfl) ?_|refine QW (rr_nilc rfl) ?_|refine QW QeT ?_|refine QW QeF ?_|refine QW QaA ?_)|refine TW_done ?_)
    repeat(first|refine QV QP ?_|refine QZ ?_|refine qcT rfl ?_|refine qcF rfl ?_|refine QV QA ?_|refine QV (rr_not rfl rfl) ?_|refine QV (rr_nilc rfl) ?_|refine QV QeT ?_|refine QV QeF ?_|refine QV QaA ?_)
    have hdv : B0 / 2 ^ 62 ≤ B0 := Nat.div_le_self _ _
    have ha1 := and1 (y := B0 / 2 ^ 62) (by omega)
    have hs1 : ∀ w, (Op.shift .shr .u64 (B0 : Int) .u64 62).run Try.prog w = .ok (.int .u64 ((B0 / 2 ^ 62 : Nat) : Int)) w := fun w => shrU2 B0 62 64 .u64 .u64 rfl (by decide) w
    have hsl : ∀ w, (Op.shift .shl .u64 1 .i64 (ln : Int)).run Try.prog w = .ok (.int .u64 ((2 ^ ln : Nat) : Int)) w := fun w => shl1 ln (by omega) w
    by_cases cb : B0.testBit 62 = true
    · rw [if_pos cb]
      have hn := bits_andnX hlt cb
      have hx2 : B0 ^^^ 2 ^ 62 < 18446744073709551616 := Nat.xor_lt_two_pow (n := 64) hlt (by decide)
      have hor := bits_orN hx2 (pow_lt64 (m := ln) (by omega))
      have hb1 : B0 / 2 ^ 62 % 2 = 1 := by rw [bit_dec] at cb; exact of_decide_eq_true cb
      generalize B0 / 2 ^ 62 = D1 at *
      generalize B0 ^^^ 2 ^ 62 = D2 at *
      generalize 2 ^ ln = D3 at *
      repeat(first|refine QV QP ?_|refine QZ ?_|refine qcT rfl ?_|refine qcF rfl ?_|refine QV (rr_shr rfl rfl hs1) ?_|refine QV (rr_and rfl rfl ha1) ?_|refine QV (rr_eql (b := false) rfl rfl (decide_eq_false (by omega))) ?_|refine QV (rr_andn rfl rfl hn) ?_|refine QV (rr_load1 (v := .int .i64 (ln : Int)) TyC.ty rfl (at_blk (i := 2) rfl rfl)) ?_|refine QV (rr_shl rfl rfl hsl) ?_|refine QV (rr_or rfl rfl hor) ?_|refine QV QA ?_|refine QV (rr_not rfl rfl) ?_|refine QV (rr_nilc rfl) ?_|refine QV QeT ?_|refine QV QeF ?_|refine QV QaA ?_)
      exact E_ret1 rfl rfl fun w hm => hm.meetsB (S := ⟨fun (x : (RK → Option Value) × Nat) => CacheOk (lkG g) x.1 ∧ x.2 ≤ c + 1, fun _ => bitV (D2 ||| D3), fun x => [blkO go (opC g.terms g.nons (.slice bp g.prods.length cp) gm).toArray 105, mapO restK gm x.1 x.2]⟩) (_, c + 1) ⟨hcp, Nat.le_refl _⟩ [0, 1] (by decide) rfl
    · rw [if_neg cb]
      have hb0 : B0 / 2 ^ 62 % 2 = 0 := by
        rw [bit_dec, decide_eq_true_eq] at cb; omega
      generalize B0 / 2 ^ 62 = D1 at *
      repeat(first|refine QV QP ?_|refine QZ ?_|refine qcT rfl ?_|refine qcF rfl ?_|refine QV (rr_shr rfl rfl hs1) ?_|refine QV (rr_and rfl rfl ha1) ?_|refine QV (rr_eql (b := true) rfl rfl (decide_eq_true (by omega))) ?_|refine QV QA ?_|refine QV (rr_not rfl rfl) ?_|refine QV (rr_nilc rfl) ?_|refine QV QeT ?_|refine QV QeF ?_|refine QV QaA ?_)
      exact E_ret1 rfl rfl fun w hm => hm.meetsB (S := ⟨fun (x : (RK → Option Value) × Nat) => CacheOk (lkG g) x.1 ∧ x.2 ≤ c + 1, fun _ => bitV B0, fun x => [blkO go (opC g.terms g.nons (.slice bp g.prods.length cp) gm).toArray 105, mapO restK gm x.1 x.2]⟩) (_, c + 1) ⟨hcp, Nat.le_refl _⟩ [0, 1] (by decide) rfl
end Go.Proofs.Ytomkjjpdnmcnnaa.eng


/- OrdK -/
namespace Go.Proofs.Ytomkjjpdnmcnnaa.eng
open Go.RowKit kit mix itemL Go.Lib Go.Sort
theorem isNaN_k (x : Int) (w : World) : Calls Try.prog 70 #[.int .i64 x] w fun e w' => e = .returned (.bool false) ∧ w' = w := by
  go_enter Try.func70, Try.ntmps70
  go_wp2
  go_ret
  exact ⟨by simp, rfl⟩
set_option maxHeartbeats 1000000 in
theorem compare_k (x y : Int) (w : World) : Calls Try.prog 59 #[.int .i64 x, .int .i64 y] w fun e w' => e = .returned (.int .i64 (cmpI x y)) ∧ w' = w := by
  go_enter Try.func59, Try.ntmps59
  go_wp2_with (go_at_call 70; refine (isNaN_k _ _).mono ?_; rintro e w' ⟨rfl, hw⟩; rw [hw])
  all_goals (go_ret; refine ⟨?_, rfl⟩; unfold cmpI; (repeat' split) <;> first | rfl | (exfalso; omega))
def orI (a b c : Int) : Int := if a ≠ 0 then a else if b ≠ 0 then b else c
theorem orI_a {a b c : Int} (h : ¬ a = 0) : orI a b c = a := if_pos h
theorem orI_b {b c : Int} (h : ¬ b = 0) : orI 0 b c = b := by unfold orI; rw [if_neg (by simp), if_pos h]
theorem orI_c {c : Int} : orI 0 0 c = c := by unfold orI; rw [if_neg (by simp), if_neg (by simp)]
set_option maxHeartbeats 2000000 in
theorem or_k (g : Nat) (a b c : Int) (w : World) (h0 : w.cell? ⟨g, 0, none⟩ = some (.int .i64 a)) (h1 : w.cell? ⟨g, 1, none⟩ = some (.int .i64 b)) (h2 : w.cell? ⟨g, 2, none⟩ = some (.int .i64 c)) :
    Calls Try.prog 58 #[.slice (some ⟨g, 0, none⟩) 3 3] w fun e w' => e = .returned (.int .i64 (orI a b c)) ∧ w' = w := by
  go_enter Try.func58, Try.ntmps58
  go_wp2
  by_cases ha : a = 0
  · subst ha
    refine wp_loop_rounds 4 ?_
    rw [rounds_succ]
    go_wp2
    by_cases hb : b = 0
    · subst hb
      rw [rounds_succ]
      go_wp2
      by_cases hc : c = 0
      · subst hc
        rw [rounds_succ]
        go_wp2
        rw [rounds_succ]
        go_wp2
        go_ret
        exact ⟨by rw [orI_c]; rfl, rfl⟩
      · rw [rounds_succ]
        go_wp2
        go_ret
        exact ⟨by rw [orI_c]; rfl, rfl⟩
    · rw [rounds_succ]
      go_wp2
      go_ret
      exact ⟨by rw [orI_b hb]; rfl, rfl⟩
  · refine wp_loop_rounds 1 ?_
    rw [rounds_succ]
    go_wp2
    go_ret
    exact ⟨by rw [orI_a ha]; rfl, rfl⟩
theorem or_k2 (o1 o2 : Obj) (a b c : Int) (T : TypeId) (w : World) :
    Calls Try.prog 58 #[.slice (some ⟨w.heap.size + 1 + 1, 0, none⟩) 3 3] (((w.alloc o1).alloc o2).alloc (.cells #[.int .i64 a, .int .i64 b, .int .i64 c] T)).drew fun e w' => e = .returned (.int .i64 (orI a b c)) ∧ w' = (((w.alloc o1).alloc o2).alloc (.cells #[.int .i64 a, .int .i64 b, .int .i64 c] T)).drew := by
  have hg : (((w.alloc o1).alloc o2).alloc (.cells #[.int .i64 a, .int .i64 b, .int .i64 c] T)).drew.heap[w.heap.size + 1 + 1]? = some (.cells #[.int .i64 a, .int .i64 b, .int .i64 c] T (0, 0)) := by
    have h := heap_alloc_new ((w.alloc o1).alloc o2) (.cells #[.int .i64 a, .int .i64 b, .int .i64 c] T)
    have e : ((w.alloc o1).alloc o2).heap.size = w.heap.size + 1 + 1 := by
      show ((w.heap.push o1).push o2).size = _
      rw [Array.size_push, Array.size_push]
    rw [e] at h
    exact h
  exact or_k _ a b c _ (cell_of_row _ _ 0 _ T (0, 0) hg) (cell_of_row _ _ 1 _ T (0, 0) hg) (cell_of_row _ _ 2 _ T (0, 0) hg)
end Go.Proofs.Ytomkjjpdnmcnnaa.eng


/- OrdJ -/
namespace Go.Proofs.Ytomkjjpdnmcnnaa.eng
open Go.RowKit kit mix itemL Go.Lib Go.Sort
theorem two_heap (a b : Obj) (w : World) : ((w.alloc a).alloc b).heap[w.heap.size]? = some a ∧ ((w.alloc a).alloc b).heap[w.heap.size + 1]? = some b := by
  have e : (w.alloc a).heap.size = w.heap.size + 1 := by
    show (w.heap.push a).size = _
    rw [Array.size_push]
  constructor
  · rw [heap_alloc_old (w.alloc a) b (by omega)]
    exact heap_alloc_new w a
  · have h := heap_alloc_new (w.alloc a) b
    rw [e] at h; exact h
theorem three_grow (a b c : Obj) (w : World) : (((w.alloc a).alloc b).alloc c).drew = grow (w.drewN 1) #[a, b, c] := by
  rw [alloc_eq_grow, alloc_eq_grow, alloc_eq_grow, grow_grow, grow_grow]; rfl
set_option maxHeartbeats 4000000 in
theorem order_k (x y : itemL.Item) (w : World) : Calls Try.prog 48 #[.agg (itC x).toArray, .agg (itC y).toArray] w fun e w' => e = .returned (.int .i64 (ordI x y)) ∧ ∃ q os', w' = grow (w.drewN q) os' := by
  obtain ⟨x1, x2, x3⟩ := x
  obtain ⟨y1, y2, y3⟩ := y
  have ho : ordI (x1, x2, x3) (y1, y2, y3) = orI (cmpI x1 y1) (cmpI x2 y2) (cmpI x3 y3) := rfl
  rw [ho]
  clear ho
  unfold itC
  dsimp only
  obtain ⟨t1, t2⟩ := two_heap (.cells #[.int .i64 x1, .int .i64 x2, .int .i64 x3] 43) (.cells #[.int .i64 y1, .int .i64 y2, .int .i64 y3] 43) w
  have k1 := cell_of_row _ _ 0 _ _ (0, 0) t1
  have k2 := cell_of_row _ _ 1 _ _ (0, 0) t1
  have k3 := cell_of_row _ _ 2 _ _ (0, 0) t1
  have k4 := cell_of_row _ _ 0 _ _ (0, 0) t2
  have k5 := cell_of_row _ _ 1 _ _ (0, 0) t2
  have k6 := cell_of_row _ _ 2 _ _ (0, 0) t2
  clear t1 t2
  go_enter Try.func48, Try.ntmps48
  go_wp2
  go_region_held (fun w' => w'.cell? ⟨w.heap.size, 0, none⟩ = some (.int .i64 x1) ∧ w'.cell? ⟨w.heap.size, 1, none⟩ = some (.int .i64 x2) ∧ w'.cell? ⟨w.heap.size, 2, none⟩ = some (.int .i64 x3) ∧ w'.cell? ⟨w.heap.size + 1, 0, none⟩ = some (.int .i64 y1) ∧ w'.cell? ⟨w.heap.size + 1, 1, none⟩ = some (.int .i64 y2) ∧ w'.cell? ⟨w.heap.size + 1, 2, none⟩ = some (.int .i64 y3)) (go_keep) (first | (go_at_call 59; refine (compare_k _ _ _).mono ?_; rintro e w' ⟨rfl, rfl⟩) | (go_at_call 58; have hzz := (or_k2 (.cells #[.int .i64 x1, .int .i64 x2, .int .i64 x3] 43) (.cells #[.int .i64 y1, .int .i64 y2, .int .i64 y3] 43) (cmpI x1 y1) (cmpI x2 y2) (cmpI x3 y3) 3 w); refine hzz.mono ?_; clear hzz; rintro e w' ⟨rfl, rfl⟩))
  go_wp2
  go_ret
  refine ⟨rfl, 1, #[.cells #[.int .i64 x1, .int .i64 x2, .int .i64 x3] 43, .cells #[.int .i64 y1, .int .i64 y2, .int .i64 y3] 43, .cells #[.int .i64 (cmpI x1 y1), .int .i64 (cmpI x2 y2), .int .i64 (cmpI x3 y3)] 3], ?_⟩
  exact three_grow _ _ _ w
end Go.Proofs.Ytomkjjpdnmcnnaa.eng


/- ItH -/
namespace Go.Proofs.Ytomkjjpdnmcnnaa.eng
open Go.RowKit kit mix gramL treeL factsL itemL
def rightB (g : Gram) (it : itemL.Item) : Bool := decide (0 ≤ it.1 ∧ it.1 ≤ (g.prods.length : Int) ∧ 0 ≤ it.2.1 ∧ it.2.1 ≤ ((bodyI g.prods it.1).length : Int) ∧ 0 ≤ it.2.2 ∧ it.2.2 ≤ g.terms)
def itemsE (g : Gram) : List itemL.Item → Int
  | [] => 0
  | x :: r => if rightB g x = true then itemsE g r else 1
def checkI (g : Gram) (l : List itemL.Item) : Int := if checkG g ≠ 0 then checkG g else if 4000 < l.length then 2 else itemsE g l
theorem itemsE_ok {g : Gram} : ∀ {l : List itemL.Item}, itemsE g l = 0 → ∀ x ∈ l, rightB g x = true
  | [], _, x, hx => by cases hx
  | y :: r, h, x, hx => by
    rw [itemsE] at h
    split at h
    · rename_i hy
      rcases List.mem_cons.1 hx with rfl | hx
      · exact hy
      · exact itemsE_ok h x hx
    · cases h
set_option maxHeartbeats 8000000 in
theorem itCheck_calls (v : Value) (g : Gram) (vl : Value) (l : List itemL.Item) (w : World) (hG : GraR (fun k => k < w.heap.size) w v g) (hl : Sl w vl l.length (l.flatMap itC)) :
    Calls Try.prog 28 #[v, vl] w (Meets (ret (.int .i64 (checkI g l))) w) := by
  have hck := fun w' (hg : Gr w w') => checkG_calls v g w' (hG.gr hg)
  obtain ⟨vp, rfl, hp, ht, hn⟩ := hG
  obtain ⟨vb, bp, cp, rfl, -, -, hvb, hrp⟩ := prods_vb hp
  obtain ⟨bl, cl, rfl, hc1, hc2, hrl⟩ := hl
  unfold maxLen at hc2
  have hbd := fun (k : Nat) hk w' (hm' : Mem (w : Base) [] w') => itBody_calls g.terms g.nons bp cp g.prods vb w w' w k hk (Old.self w) hm' (fun i hi => let ⟨b, c, h, _⟩ := hvb i hi; ⟨b, _, c, h⟩) (fun h => let ⟨b, off, h1, _, h3⟩ := hrp h; ⟨b, off, h1, fun i hi => (h3 i hi).1⟩)
  refine enter (args := [graV g.terms g.nons (.slice bp g.prods.length cp), .slice bl l.length cl]) (n := 61) Try.func28 rfl rfl rfl ?_
  refine T_seq (T_region (TL_box rfl rfl rfl fun g2 => ?_))
  conv=>arg 8;simp only[zA,zB,zC,zD,zE,zF,zG,zH,zI,rowS,ret,id_eq]
  repeat(first|refine QV QP ?_|refine QZ ?_|refine qcT rfl ?_|refine qcF rfl ?_|refine E_blockX ?_|refine E_blockO rfl ?_|refine qs rfl rfl rfl rfl rfl rfl ?_|((try refine qg rfl rfl rfl ?_);first|refine QV QP ?_|refine QV (rr_loadB (i := 0) TyC.ty rfl rfl rfl) ?_|refine QV QL ?_|refine QV QA ?_|refine QV QlT ?_|refine QV QlF ?_|refine QV QgT ?_|refine QV QgF ?_|refine QV QnT ?_|refine QV QnF ?_|refine QV QaA ?_))
  refine TL_call (he1 EntersC.en rfl rfl) (fun w hm => hck w hm.below) rfl rfl rfl ?_
  intro _ _
  conv=>arg 8;simp only[zA,zB,zC,zD,zE,zF,zG,zH,zI,rowS,ret,id_eq]
  have hE : checkI g l = if checkG g ≠ 0 then checkG g else if 4000 < l.length then 2 else itemsE g l := rfl
  generalize checkI g l = rE at *
  have hpos := checkG_pos (g := g)
  by_cases c0 : checkG g = 0
  · obtain ⟨-, -, -, -, hpl, hgb⟩ := checkG_ok c0
    rw [if_neg (by rw [c0]; simp)] at hE
    rw [c0]
    by_cases c1 : 4000 < l.length
    · rw [if_pos c1] at hE
      subst hE
      repeat(first|refine QV QP ?_|refine QZ ?_|refine qcT rfl ?_|refine qcF rfl ?_|refine E_blockX ?_|refine E_blockO rfl ?_|refine qs rfl rfl rfl rfl rfl rfl ?_|((try refine qg rfl rfl rfl ?_);first|refine QV QP ?_|refine QV QL ?_|refine QV QA ?_|refine QV QlT ?_|refine QV QlF ?_|refine QV QgT ?_|refine QV QgF ?_|refine QV QnT ?_|refine QV QnF ?_|refine QV QaA ?_))
      exact E_ret1 rfl rfl fun w hm => hm.ret
    rw [if_neg c1] at hE
    repeat(first|refine QV QP ?_|refine QZ ?_|refine qcT rfl ?_|refine qcF rfl ?_|refine E_blockX ?_|refine E_blockO rfl ?_|refine qs rfl rfl rfl rfl rfl rfl ?_|((try refine qg rfl rfl rfl ?_);first|refine QV QP ?_|refine QV QL ?_|refine QV QA ?_|refine QV QlT ?_|refine QV QlF ?_|refine QV QgT ?_|refine QV QgF ?_|refine QV QnT ?_|refine QV QnF ?_|refine QV QaA ?_))
    refine T_loop (ι := Nat) (fun k => k ≤ l.length ∧ rE = itemsE g (l.drop k)) (fun k => [(2, .pointer (some ⟨g2, 0, none⟩)), (16, .slice bl l.length cl), (17, .int .i64 l.length), (18, .int .i64 (k : Int))])
      (fun _ => [blkO g2 (graV g.terms g.nons (.slice bp g.prods.length cp)).cells 24]) (fun k => l.length - k) 0 ⟨Nat.zero_le _, hE⟩ (by repeat' (first | exact True.intro | refine And.intro rfl ?_)) rfl ?_
    rintro k ⟨i1, i2⟩
    clear hE
    by_cases c2 : k < l.length
    · obtain ⟨b, off, rfl, hrd⟩ := hrl (by omega)
      have hat := fun L => at_el (L := L) itC_len hrd c2
      rw [List.drop_eq_getElem_cons c2, itemsE] at i2
      generalize hrest : itemsE g (l.drop (k + 1)) = rest at *
      have hatA : ∀ (L : List Own) (j : Nat) (u : Value), (itC l[k])[j]? = some u → At (w : Base) L ⟨b, off + k * 3 + j, none⟩ u := hat
      clear hat hrl hrd
      generalize l[k] = x at *
      obtain ⟨p, d, lo⟩ := x
      have hB := show rightB g (p, d, lo) = decide (0 ≤ p ∧ p ≤ (g.prods.length : Int) ∧ 0 ≤ d ∧ d ≤ ((bodyI g.prods p).length : Int) ∧ 0 ≤ lo ∧ lo ≤ g.terms) from rfl
      rw [hB] at i2
      clear hB
      repeat(first|refine QV QP ?_|refine QZ ?_|refine qcT rfl ?_|refine qcF rfl ?_|refine E_blockX ?_|refine E_blockO rfl ?_|refine qs rfl rfl rfl rfl rfl rfl ?_|((try refine qg rfl rfl rfl ?_);first|refine QV QP ?_|refine QV (rr_idxc Und.eq TyC.ty rfl rfl c2) ?_|refine QV (rr_loadN (cs := itC (p, d, lo)) TyC.ty rfl rfl (hatA _)) ?_|refine QV QL ?_|refine QV QA ?_|refine QV QlT ?_|refine QV QlF ?_|refine QV QgT ?_|refine QV QgF ?_|refine QV QnT ?_|refine QV QnF ?_|refine QV QaA ?_))
      refine TL_new rfl fun g7 => ?_
      conv=>arg 8;simp only[zA,zB,zC,zD,zE,zF,zG,zH,zI,rowS,ret,id_eq]
      refine TL_storeB (i := 1) (cs' := (itC (p, d, lo)).toArray) rfl rfl rfl rfl rfl rfl ?_
      conv=>arg 8;simp only[zA,zB,zC,zD,zE,zF,zG,zH,zI,rowS,ret,id_eq]
      repeat(first|refine QV QP ?_|refine QZ ?_|refine qcT rfl ?_|refine qcF rfl ?_|refine E_blockX ?_|refine E_blockO rfl ?_|refine qs rfl rfl rfl rfl rfl rfl ?_|((try refine qg rfl rfl rfl ?_);first|refine QV QP ?_|refine QV QL ?_|refine QV QA ?_|refine QV QlT ?_|refine QV QlF ?_|refine QV QgT ?_|refine QV QgF ?_|refine QV QnT ?_|refine QV QnF ?_|refine QV QaA ?_))
      by_cases q1 : p < 0
      · rw [if_neg (by simp; omega)] at i2
        subst i2
        refine T_ord ([blkO g2 (graV g.terms g.nons (.slice bp g.prods.length cp)).cells 24, blkO g7 (itC (p, d, lo)).toArray 43]) (.calm 0 (.calm 1 (.calm 2 (.calm 3 (.calm 4 (.calm 5 (.calm 6 (.calm 7 (.calm 8 (.calm 9 (.calm 10 (.calm 11 (.calm 12 (.calm 13 (.calm 14 (.calm 15 (.calm 16 (.calm 17 (.calm 18 (.calm 19 (.calm 20 (.calm 21 (.calm 22 (.calm 23 (.calm 24 (.calm 25 (.calm 26 (.calm 27 (.calm 28 (.calm 29 (.calm 30 (.calm 31 (.calm 32 (.calm 33 (.calm 34 (.calm 35 (.calm 36 (.calm 37 (.done))))))))))))))))))))))))))))))))))))))) (fun _ h => h) (by kernel_rfl) (by kernel_rfl) (by intro c a d v w h; cases d <;> exact h) ?_
        repeat(first|((first|refine TW_plain rfl rfl ?_|refine TW_gmet rfl rfl rfl rfl ?_);first|refine QW QP ?_|refine QW (rr_load1 (v := .int .i64 p) TyC.ty rfl (at_blk (i := 1) rfl rfl)) ?_|refine QW QL ?_|refine QW QA ?_|refine QW QlT ?_|refine QW QlF ?_|refine QW QgT ?_|refine QW QgF ?_|refine QW QnT ?_|refine QW QnF ?_|refine QW QaA ?_)|refine TW_skip rfl rfl rfl rfl rfl rfl rfl ?_|refine TW_done ?_)
        repeat(first|refine QV QP ?_|refine QZ ?_|refine qcT rfl ?_|refine qcF rfl ?_|refine E_blockX ?_|refine E_blockO rfl ?_|refine qs rfl rfl rfl rfl rfl rfl ?_|((try refine qg rfl rfl rfl ?_);first|refine QV QP ?_|refine QV QL ?_|refine QV QA ?_|refine QV QlT ?_|refine QV QlF ?_|refine QV QgT ?_|refine QV QgF ?_|refine QV QnT ?_|refine QV QnF ?_|refine QV QaA ?_))
        exact E_ret1 rfl rfl fun w hm => hm.ret
      by_cases q2 : (g.prods.length : Int) < p
      · rw [if_neg (by simp; omega)] at i2
        subst i2
        refine T_ord ([blkO g2 (graV g.terms g.nons (.slice bp g.prods.length cp)).cells 24, blkO g7 (itC (p, d, lo)).toArray 43]) (.calm 0 (.calm 1 (.calm 2 (.calm 3 (.calm 4 (.calm 5 (.calm 6 (.calm 7 (.calm 8 (.calm 9 (.calm 10 (.calm 11 (.calm 12 (.calm 13 (.calm 14 (.calm 15 (.calm 16 (.calm 17 (.calm 18 (.calm 19 (.calm 20 (.calm 21 (.calm 22 (.calm 23 (.calm 24 (.calm 25 (.calm 26 (.calm 27 (.calm 28 (.calm 29 (.calm 30 (.calm 31 (.calm 32 (.calm 33 (.calm 34 (.calm 35 (.calm 36 (.calm 37 (.done))))))))))))))))))))))))))))))))))))))) (fun _ h => h) (by kernel_rfl) (by kernel_rfl) (by intro c a d v w h; cases d <;> exact h) ?_
        repeat(first|((first|refine TW_plain rfl rfl ?_|refine TW_gmet rfl rfl rfl rfl ?_);first|refine QW QP ?_|refine QW (rr_load1 (v := .int .i64 p) TyC.ty rfl (at_blk (i := 1) rfl rfl)) ?_|refine QW (rr_load1 (v := .slice bp g.prods.length cp) TyC.ty rfl (at_blk (i := 0) rfl rfl)) ?_|refine QW QL ?_|refine QW QA ?_|refine QW QlT ?_|refine QW QlF ?_|refine QW QgT ?_|refine QW QgF ?_|refine QW QnT ?_|refine QW QnF ?_|refine QW QaA ?_)|refine TW_skip rfl rfl rfl rfl rfl rfl rfl ?_|refine TW_done ?_)
        repeat(first|refine QV QP ?_|refine QZ ?_|refine qcT rfl ?_|refine qcF rfl ?_|refine E_blockX ?_|refine E_blockO rfl ?_|refine qs rfl rfl rfl rfl rfl rfl ?_|((try refine qg rfl rfl rfl ?_);first|refine QV QP ?_|refine QV QL ?_|refine QV QA ?_|refine QV QlT ?_|refine QV QlF ?_|refine QV QgT ?_|refine QV QgF ?_|refine QV QnT ?_|refine QV QnF ?_|refine QV QaA ?_))
        exact E_ret1 rfl rfl fun w hm => hm.ret
      by_cases q3 : d < 0
      · rw [if_neg (by simp; omega)] at i2
        subst i2
        refine T_ord ([blkO g2 (graV g.terms g.nons (.slice bp g.prods.length cp)).cells 24, blkO g7 (itC (p, d, lo)).toArray 43]) (.calm 0 (.calm 1 (.calm 2 (.calm 3 (.calm 4 (.calm 5 (.calm 6 (.calm 7 (.calm 8 (.calm 9 (.calm 10 (.calm 11 (.calm 12 (.calm 13 (.calm 14 (.calm 15 (.calm 16 (.calm 17 (.calm 18 (.calm 19 (.calm 20 (.calm 21 (.calm 22 (.calm 23 (.calm 24 (.calm 25 (.calm 26 (.calm 27 (.calm 28 (.calm 29 (.calm 30 (.calm 31 (.calm 32 (.calm 33 (.calm 34 (.calm 35 (.calm 36 (.calm 37 (.done))))))))))))))))))))))))))))))))))))))) (fun _ h => h) (by kernel_rfl) (by kernel_rfl) (by intro c a d v w h; cases d <;> exact h) ?_
        repeat(first|((first|refine TW_plain rfl rfl ?_|refine TW_gmet rfl rfl rfl rfl ?_);first|refine QW QP ?_|refine QW (rr_load1 (v := .int .i64 p) TyC.ty rfl (at_blk (i := 1) rfl rfl)) ?_|refine QW (rr_load1 (v := .slice bp g.prods.length cp) TyC.ty rfl (at_blk (i := 0) rfl rfl)) ?_|refine QW (rr_load1 (v := .int .i64 d) TyC.ty rfl (at_blk (i := 1) rfl rfl)) ?_|refine QW QL ?_|refine QW QA ?_|refine QW QlT ?_|refine QW QlF ?_|refine QW QgT ?_|refine QW QgF ?_|refine QW QnT ?_|refine QW QnF ?_|refine QW QaA ?_)|refine TW_skip rfl rfl rfl rfl rfl rfl rfl ?_|refine TW_done ?_)
        repeat(first|refine QV QP ?_|refine QZ ?_|refine qcT rfl ?_|refine qcF rfl ?_|refine E_blockX ?_|refine E_blockO rfl ?_|refine qs rfl rfl rfl rfl rfl rfl ?_|((try refine qg rfl rfl rfl ?_);first|refine QV QP ?_|refine QV QL ?_|refine QV QA ?_|refine QV QlT ?_|refine QV QlF ?_|refine QV QgT ?_|refine QV QgF ?_|refine QV QnT ?_|refine QV QnF ?_|refine QV QaA ?_))
        exact E_ret1 rfl rfl fun w hm => hm.ret
      obtain ⟨kn, rfl⟩ := Int.eq_ofNat_of_zero_le (show 0 ≤ p by omega)
      have hk : kn ≤ g.prods.length := by omega
      refine T_ord ([blkO g2 (graV g.terms g.nons (.slice bp g.prods.length cp)).cells 24, blkO g7 (itC ((kn : Int), d, lo)).toArray 43]) (.calm 0 (.calm 1 (.calm 2 (.calm 3 (.calm 4 (.calm 5 (.calm 6 (.calm 7 (.calm 8 (.calm 9 (.calm 10 (.calm 11 (.calm 12 (.calm 13 (.calm 14 (.calm 15 (.calm 16 (.calm 17 (.calm 18 (.calm 19 (.calm 20 (.calm 21 (.one 22 (.calm 23 (.calm 24 (.calm 25 (.calm 26 (.calm 27 (.calm 28 (.calm 29 (.calm 30 (.calm 31 (.calm 32 (.calm 33 (.calm 34 (.calm 35 (.calm 36 (.calm 37 (.done))))))))))))))))))))))))))))))))))))))) (fun _ h => h) (by kernel_rfl) (by kernel_rfl) (by intro c a d v w h; cases d <;> exact h) ?_
      repeat(first|((first|refine TW_plain rfl rfl ?_|refine TW_gmet rfl rfl rfl rfl ?_);first|refine QW QP ?_|refine QW (rr_load1 (v := .int .i64 (kn : Int)) TyC.ty rfl (at_blk (i := 1) rfl rfl)) ?_|refine QW (rr_load1 (v := .slice bp g.prods.length cp) TyC.ty rfl (at_blk (i := 0) rfl rfl)) ?_|refine QW (rr_load1 (v := .int .i64 d) TyC.ty rfl (at_blk (i := 1) rfl rfl)) ?_|refine QW (rr_loadB (i := 0) TyC.ty rfl rfl rfl) ?_|refine QW QL ?_|refine QW QA ?_|refine QW QlT ?_|refine QW QlF ?_|refine QW QgT ?_|refine QW QgF ?_|refine QW QnT ?_|refine QW QnF ?_|refine QW QaA ?_)|refine TW_skip rfl rfl rfl rfl rfl rfl rfl ?_|refine TW_done ?_)
      refine TW_one rfl ?_
      refine TL_gcall (he2 EntersC.en rfl rfl rfl) (fun w hm => hbd kn hk _ (hm.pick [] (by decide) rfl)) rfl rfl rfl rfl rfl ?_
      rintro xb hxb
      conv=>arg 8;simp only[zA,zB,zC,zD,zE,zF,zG,zH,zI,rowS,ret,id_eq, bodyS]
      conv => arg 7; simp only [bodyS]
      obtain ⟨bb, cc, hbv, hlc, -⟩ := body_slL (W := (w : Base)) (i := 2) (L := [blkO g2 (graV g.terms g.nons (.slice bp g.prods.length cp)).cells 24, blkO g7 (itC ((kn : Int), d, lo)).toArray 43, bodO xb]) (Old.self w) hvb hk hxb rfl
      rw [hbv]
      refine TW_on (sub_pick [0, 1] (by decide) rfl) ?_
      clear hbd
      generalize (bodyI g.prods (kn : Int)).length = m at *
      by_cases q4 : (m : Int) < d
      · rw [if_neg (by simp; omega)] at i2
        subst i2
        repeat(first|((first|refine TW_plain rfl rfl ?_|refine TW_gmet rfl rfl rfl rfl ?_);first|refine QW QP ?_|refine QW QL ?_|refine QW QA ?_|refine QW QlT ?_|refine QW QlF ?_|refine QW QgT ?_|refine QW QgF ?_|refine QW QnT ?_|refine QW QnF ?_|refine QW QaA ?_)|refine TW_skip rfl rfl rfl rfl rfl rfl rfl ?_|refine TW_done ?_)
        repeat(first|refine QV QP ?_|refine QZ ?_|refine qcT rfl ?_|refine qcF rfl ?_|refine E_blockX ?_|refine E_blockO rfl ?_|refine qs rfl rfl rfl rfl rfl rfl ?_|((try refine qg rfl rfl rfl ?_);first|refine QV QP ?_|refine QV QL ?_|refine QV QA ?_|refine QV QlT ?_|refine QV QlF ?_|refine QV QgT ?_|refine QV QgF ?_|refine QV QnT ?_|refine QV QnF ?_|refine QV QaA ?_))
        exact E_ret1 rfl rfl fun w hm => hm.ret
      by_cases q5 : lo < 0
      · rw [if_neg (by simp; omega)] at i2
        subst i2
        repeat(first|((first|refine TW_plain rfl rfl ?_|refine TW_gmet rfl rfl rfl rfl ?_);first|refine QW QP ?_|refine QW (rr_load1 (v := .int .i64 lo) TyC.ty rfl (at_blk (i := 1) rfl rfl)) ?_|refine QW QL ?_|refine QW QA ?_|refine QW QlT ?_|refine QW QlF ?_|refine QW QgT ?_|refine QW QgF ?_|refine QW QnT ?_|refine QW QnF ?_|refine QW QaA ?_)|refine TW_skip rfl rfl rfl rfl rfl rfl rfl ?_|refine TW_done ?_)
        repeat(first|refine QV QP ?_|refine QZ ?_|refine qcT rfl ?_|refine qcF rfl ?_|refine E_blockX ?_|refine E_blockO rfl ?_|refine qs rfl rfl rfl rfl rfl rfl ?_|((try refine qg rfl rfl rfl ?_);first|refine QV QP ?_|refine QV QL ?_|refine QV QA ?_|refine QV QlT ?_|refine QV QlF ?_|refine QV QgT ?_|refine QV QgF ?_|refine QV QnT ?_|refine QV QnF ?_|refine QV QaA ?_))
        exact E_ret1 rfl rfl fun w hm => hm.ret
      by_cases q6 : g.terms < lo
      · rw [if_neg (by simp; omega)] at i2
        subst i2
        repeat(first|((first|refine TW_plain rfl rfl ?_|refine TW_gmet rfl rfl rfl rfl ?_);first|refine QW QP ?_|refine QW (rr_load1 (v := .int .i64 lo) TyC.ty rfl (at_blk (i := 1) rfl rfl)) ?_|refine QW (rr_load1 (v := .int .i64 g.terms) TyC.ty rfl (at_blk (i := 0) rfl rfl)) ?_|refine QW QL ?_|refine QW QA ?_|refine QW QlT ?_|refine QW QlF ?_|refine QW QgT ?_|refine QW QgF ?_|refine QW QnT ?_|refine QW QnF ?_|refine QW QaA ?_)|refine TW_skip rfl rfl rfl rfl rfl rfl rfl ?_|refine TW_done ?_)
        repeat(first|refine QV QP ?_|refine QZ ?_|refine qcT rfl ?_|refine qcF rfl ?_|refine E_blockX ?_|refine E_blockO rfl ?_|refine qs rfl rfl rfl rfl rfl rfl ?_|((try refine qg rfl rfl rfl ?_);first|refine QV QP ?_|refine QV QL ?_|refine QV QA ?_|refine QV QlT ?_|refine QV QlF ?_|refine QV QgT ?_|refine QV QgF ?_|refine QV QnT ?_|refine QV QnF ?_|refine QV QaA ?_))
        exact E_ret1 rfl rfl fun w hm => hm.ret
      rw [if_pos (by simp; omega)] at i2
      repeat(first|((first|refine TW_plain rfl rfl ?_|refine TW_gmet rfl rfl rfl rfl ?_);first|refine QW QP ?_|refine QW (rr_load1 (v := .int .i64 lo) TyC.ty rfl (at_blk (i := 1) rfl rfl)) ?_|refine QW (rr_load1 (v := .int .i64 g.terms) TyC.ty rfl (at_blk (i := 0) rfl rfl)) ?_|refine QW QL ?_|refine QW QA ?_|refine QW QlT ?_|refine QW QlF ?_|refine QW QgT ?_|refine QW QgF ?_|refine QW QnT ?_|refine QW QnF ?_|refine QW QaA ?_)|refine TW_skip rfl rfl rfl rfl rfl rfl rfl ?_|refine TW_done ?_)
      repeat(first|refine QV QP ?_|refine QZ ?_|refine qcT rfl ?_|refine qcF rfl ?_|refine E_blockX ?_|refine E_blockO rfl ?_|refine qs rfl rfl rfl rfl rfl rfl ?_|((try refine qg rfl rfl rfl ?_);first|refine QV QP ?_|refine QV QL ?_|refine QV QA ?_|refine QV QlT ?_|refine QV QlF ?_|refine QV QgT ?_|refine QV QgF ?_|refine QV QnT ?_|refine QV QnF ?_|refine QV QaA ?_))
      refine E_pick [0] (by decide) rfl ?_
      exact E_round (k + 1) ⟨by omega, by rw [hrest]; exact i2⟩ (by show l.length - (k + 1) < l.length - k; omega) (by repeat' (first | exact True.intro | refine And.intro rfl ?_)) rfl
    · obtain rfl : k = l.length := by omega
      rw [List.drop_eq_nil_of_le (Nat.le_refl _), itemsE] at i2
      subst i2
      repeat(first|refine QV QP ?_|refine QZ ?_|refine qcT rfl ?_|refine qcF rfl ?_|refine E_blockX ?_|refine E_blockO rfl ?_|refine qs rfl rfl rfl rfl rfl rfl ?_|((try refine qg rfl rfl rfl ?_);first|refine QV QP ?_|refine QV QL ?_|refine QV QA ?_|refine QV QlT ?_|refine QV QlF ?_|refine QV QgT ?_|refine QV QgF ?_|refine QV QnT ?_|refine QV QnF ?_|refine QV QaA ?_))
      exact E_ret1 rfl rfl fun w hm => hm.ret
  · rw [if_pos c0] at hE
    subst hE
    repeat(first|refine QV QP ?_|refine QZ ?_|refine qcT rfl ?_|refine qcF rfl ?_|refine E_blockX ?_|refine E_blockO rfl ?_|refine qs rfl rfl rfl rfl rfl rfl ?_|((try refine qg rfl rfl rfl ?_);first|refine QV QP ?_|refine QV QL ?_|refine QV QA ?_|refine QV QlT ?_|refine QV QlF ?_|refine QV QgT ?_|refine QV QgF ?_|refine QV QnT ?_|refine QV QnF ?_|refine QV QaA ?_))
    exact E_ret1 rfl rfl fun w hm => hm.ret
theorem build_open (t n : Int) (vp : Value) (gm : Nat) (w : World) : (Instr.build 105 #[(0, graV t n vp), (1, .map (some gm))]).run Try.prog w = .ok (.agg (opC t n vp gm).toArray) w := by kernel_rfl
/-- what begun makes -/
def begS (t n : Int) (vp : Value) : Spec (Nat × Nat) := ⟨fun _ => True, fun x => .pointer (some ⟨x.1, 0, none⟩), fun x => [mapO restK x.2 (fun _ => none) 0, blkO x.1 (opC t n vp x.2).toArray 105]⟩
theorem begunI_calls (t n : Int) (vp : Value) (w : World) : Calls Try.prog 29 #[graV t n vp] w (Meets (begS t n vp) w) := by
  have hb := build_open t n vp
  refine enter (args := [graV t n vp]) (n := 7) Try.func29 rfl rfl rfl ?_
  refine T_seq (T_region (TL_box rfl rfl rfl fun g1 => ?_))
  conv=>arg 8;simp only[zA,zB,zC,zD,zE,zF,zG,zH,zI,rowS,ret,id_eq]
  repeat(first|refine QV QP ?_|refine QZ ?_|refine QV (rr_loadB (i := 0) TyC.ty rfl rfl rfl) ?_)
  refine TL_map restK rfl fun gm => ?_
  conv=>arg 8;simp only[zA,zB,zC,zD,zE,zF,zG,zH,zI,rowS,ret,id_eq]
  repeat(first|refine QV QP ?_|refine QZ ?_|refine QV (rr_build rfl (hb _)) ?_)
  refine TL_box rfl rfl rfl fun go => ?_
  conv=>arg 8;simp only[zA,zB,zC,zD,zE,zF,zG,zH,zI,rowS,ret,id_eq]
  repeat(first|refine QV QP ?_|refine QZ ?_)
  exact E_ret1 rfl rfl fun w hm => hm.meets (S := begS t n vp) (go, gm) trivial [1, 2] (by decide) rfl
end Go.Proofs.Ytomkjjpdnmcnnaa.eng


/- ItN -/
namespace Go.Proofs.Ytomkjjpdnmcnnaa.eng
open Go.RowKit kit mix gramL treeL factsL itemL
theorem conv_it {x : Int} (h0 : 0 ≤ x) (h1 : x < 256) : IntKind.u8.wrap x = (((UInt8.ofNat x.toNat).toNat : Nat) : Int) := by
  obtain ⟨n, rfl⟩ := Int.eq_ofNat_of_zero_le h0
  rw [Int.toNat_natCast, IntKind.wrap_u8]; simp
theorem nameI_len (l : List itemL.Item) : (nameI l).length = 3 * l.length := by
  induction l with
  | nil => rfl
  | cons x r ih =>
    have : nameI (x :: r) = [UInt8.ofNat x.1.toNat, UInt8.ofNat x.2.1.toNat, UInt8.ofNat x.2.2.toNat] ++ nameI r := rfl
    rw [this, List.length_append, ih, List.length_cons]
    show 3 + 3 * r.length = 3 * (r.length + 1)
    omega
theorem nameI_take {l : List itemL.Item} {k : Nat} (h : k < l.length) : nameI (l.take (k + 1)) = nameI (l.take k) ++ [UInt8.ofNat l[k].1.toNat, UInt8.ofNat l[k].2.1.toNat, UInt8.ofNat l[k].2.2.toNat] := by
  unfold nameI
  rw [List.take_succ_eq_append_getElem h, List.flatMap_append]
  rfl
set_option maxHeartbeats 4000000 in
theorem name_calls (vl : Value) (l : List itemL.Item) (w : World) (hl : Sl w vl l.length (l.flatMap itC)) (hb : ∀ it ∈ l, 0 ≤ it.1 ∧ it.1 < 256 ∧ 0 ≤ it.2.1 ∧ it.2.1 < 256 ∧ 0 ≤ it.2.2 ∧ it.2.2 < 256) (hn : l.length ≤ 20000) :
    Calls Try.prog 50 #[vl] w (Meets (ret (str (nameI l))) w) := by
  obtain ⟨bl, cl, rfl, hc1, hc2, hrl⟩ := hl
  unfold maxLen at hc2
  refine enter (args := [.slice bl l.length cl]) (n := 27) Try.func50 rfl rfl rfl ?_
  repeat(first|refine QV QP ?_|refine QZ ?_|refine qcT rfl ?_|refine qcF rfl ?_|refine E_blockX ?_|refine E_blockO rfl ?_|refine QV QL ?_|refine QV QA ?_|refine QV QlT ?_|refine QV QlF ?_|refine QV QaA ?_)
  refine T_nil 5 1 ?_
  conv => arg 7; simp only [zA, zB, zC, zD, zE, zF, zG, zH, zI, rowS, ret, id_eq]
  refine T_loop (ι := Nat × Value) (fun (k, _) => k ≤ l.length) (fun (k, v) => [(3, v), (6, .slice bl l.length cl), (7, .int .i64 l.length), (8, .int .i64 (k : Int))])
    (fun (k, v) => [rowO 5 1 v (nameI (l.take k)).length ((nameI (l.take k)).map u8v)]) (fun (k, _) => l.length - k) (0, .slice none 0 0) (Nat.zero_le _) (by repeat' (first | exact True.intro | refine And.intro rfl ?_)) rfl ?_
  rintro ⟨k, v⟩ i1
  dsimp only at i1 ⊢
  by_cases c1 : k < l.length
  · obtain ⟨b, off, rfl, hrd⟩ := hrl (by omega)
    have hat := fun L => at_el (L := L) itC_len hrd c1
    have hatA : ∀ (L : List Own) (j : Nat) (u : Value), (itC l[k])[j]? = some u → At (w : Base) L ⟨b, off + k * 3 + j, none⟩ u := hat
    clear hat hrl hrd
    obtain ⟨b1, b2, b3, b4, b5, b6⟩ := hb l[k] (List.getElem_mem c1)
    have hnx := nameI_take c1
    have hln : (nameI (l.take k)).length ≤ 60000 := by rw [nameI_len, List.length_take]; omega
    generalize l[k] = x at *
    obtain ⟨p, d, lo⟩ := x
    dsimp only at b1 b2 b3 b4 b5 b6 hnx
    have e1 := conv_it b1 b2
    have e2 := conv_it b3 b4
    have e3 := conv_it b5 b6
    generalize UInt8.ofNat p.toNat = y1 at *
    generalize UInt8.ofNat d.toNat = y2 at *
    generalize UInt8.ofNat lo.toNat = y3 at *
    generalize hN : nameI (l.take k) = N at *
    repeat(first|refine QV QP ?_|refine QZ ?_|refine qcT rfl ?_|refine qcF rfl ?_|refine E_blockX ?_|refine E_blockO rfl ?_|refine QV (rr_idxc Und.eq TyC.ty rfl rfl c1) ?_|refine QV (rr_loadN (cs := itC (p, d, lo)) TyC.ty rfl rfl (hatA _)) ?_|refine QV QL ?_|refine QV QA ?_|refine QV QlT ?_|refine QV QlF ?_|refine QV QaA ?_)
    refine TL_new rfl fun g5 => ?_
    conv=>arg 8;simp only[zA,zB,zC,zD,zE,zF,zG,zH,zI,rowS,ret,id_eq]
    refine TL_storeB (i := 1) (cs' := (itC (p, d, lo)).toArray) rfl rfl rfl rfl rfl rfl ?_
    conv=>arg 8;simp only[zA,zB,zC,zD,zE,zF,zG,zH,zI,rowS,ret,id_eq]
    repeat(first|refine QV QP ?_|refine QZ ?_|refine qcT rfl ?_|refine qcF rfl ?_|refine E_blockX ?_|refine E_blockO rfl ?_|refine QV (rr_load1 (v := .int .i64 p) TyC.ty rfl (at_blk (i := 1) rfl rfl)) ?_|refine QV (rr_load1 (v := .int .i64 d) TyC.ty rfl (at_blk (i := 1) rfl rfl)) ?_|refine QV (rr_load1 (v := .int .i64 lo) TyC.ty rfl (at_blk (i := 1) rfl rfl)) ?_|refine QV (rr_conv Und.eq Und.eq rfl e1) ?_|refine QV (rr_conv Und.eq Und.eq rfl e2) ?_|refine QV (rr_conv Und.eq Und.eq rfl e3) ?_|refine QV QL ?_|refine QV QA ?_|refine QV QlT ?_|refine QV QlF ?_|refine QV QaA ?_)
    refine TL_litV [u8v y1, u8v y2, u8v y3] rfl rfl rfl (by intro v hv; simp at hv; rcases hv with rfl | rfl | rfl <;> rfl) rfl rfl fun g22 => ?_
    conv=>arg 8;simp only[zA,zB,zC,zD,zE,zF,zG,zH,zI,rowS,ret,id_eq]
    refine TL_appSl (i := 0) (e := 5) (size := 1) (bytes := 1) (m := N.length) (xs := N.map u8v) (k := 3) (ys := [u8v y1, u8v y2, u8v y3]) rfl (sl_blk (i := 2) rfl (fun j u h => by simpa using h) (Nat.le_refl 3) (by decide)) rfl rfl rfl (by intro u hu; simp at hu; rcases hu with rfl | rfl | rfl <;> rfl) (by omega) (by omega) rfl fun v' => ?_
    conv=>arg 8;simp only[zA,zB,zC,zD,zE,zF,zG,zH,zI,rowS,ret,id_eq]
    repeat(first|refine QV QP ?_|refine QZ ?_|refine qcT rfl ?_|refine qcF rfl ?_|refine E_blockX ?_|refine E_blockO rfl ?_|refine QV QL ?_|refine QV QA ?_|refine QV QlT ?_|refine QV QlF ?_|refine QV QaA ?_)
    refine E_pick [0] (by decide) rfl ?_
    exact E_round (k + 1, v') (by show k + 1 ≤ l.length; omega) (by show l.length - (k + 1) < l.length - k; omega) (by repeat' (first | exact True.intro | refine And.intro rfl ?_)) (by dsimp only; rw [hnx, List.length_append, List.map_append]; rfl)
  · obtain rfl : k = l.length := by omega
    rw [List.take_length]
    repeat(first|refine QV QP ?_|refine QZ ?_|refine qcT rfl ?_|refine qcF rfl ?_|refine E_blockX ?_|refine E_blockO rfl ?_|refine QV (rr_string Und.eq Und.eq Und.eq rfl rfl (sl_row (i := 0) rfl)) ?_|refine QV QL ?_|refine QV QA ?_|refine QV QlT ?_|refine QV QlF ?_|refine QV QaA ?_)
    exact E_ret1 rfl rfl fun w hm => hm.ret
set_option maxHeartbeats 4000000 in
theorem symbols_calls (T N : Nat) (hT : T ≤ 1000) (hN : N ≤ 1000) (vp : Value) (w : World) :
    Calls Try.prog 51 #[graV (T : Int) (N : Int) vp] w (Meets (rowS 60 2 (symsI T N).length ((symsI T N).flatMap symC) id) w) := by
  have hb1 := fun (q : Int) => build_sym 1 q
  have hb2 := fun (q : Int) => build_sym 2 q
  refine enter (args := [graV (T : Int) (N : Int) vp]) (n := 29) Try.func51 rfl rfl rfl ?_
  refine T_seq (T_region (TL_box rfl rfl rfl fun g1 => ?_))
  conv=>arg 8;simp only[zA,zB,zC,zD,zE,zF,zG,zH,zI,rowS,ret,id_eq]
  repeat(first|refine QV QP ?_|refine QZ ?_|refine qcT rfl ?_|refine qcF rfl ?_|refine E_blockX ?_|refine E_blockO rfl ?_|refine QV (rr_load1 (v := .int .i64 (T : Int)) TyC.ty rfl (at_blk (i := 0) rfl rfl)) ?_|refine QV QA ?_|refine QV QlT ?_|refine QV QlF ?_|refine QV QaA ?_)
  refine T_nil 60 2 ?_
  conv => arg 7; simp only [zA, zB, zC, zD, zE, zF, zG, zH, zI, rowS, ret, id_eq]
  refine T_loop (ι := Nat × Value) (fun (k, _) => k ≤ T) (fun (k, v) => [(1, .pointer (some ⟨g1, 0, none⟩)), (3, v), (7, .int .i64 (T : Int)), (8, .int .i64 (k : Int))])
    (fun (k, v) => [blkO g1 (graV (T : Int) (N : Int) vp).cells 24, rowO 60 2 v ((List.range k).map (fun n : Nat => ((1 : Int), (n : Int)))).length (((List.range k).map (fun n : Nat => ((1 : Int), (n : Int)))).flatMap symC)]) (fun (k, _) => T - k) (0, .slice none 0 0) (Nat.zero_le _) (by repeat' (first | exact True.intro | refine And.intro rfl ?_)) rfl ?_
  rintro ⟨k, v⟩ i1
  dsimp only at i1 ⊢
  by_cases c1 : k < T
  · have hnx : (List.range (k + 1)).map (fun n : Nat => ((1 : Int), (n : Int))) = (List.range k).map (fun n : Nat => ((1 : Int), (n : Int))) ++ [((1 : Int), (k : Int))] := by rw [List.range_succ, List.map_append]; rfl
    have hln : ((List.range k).map (fun n : Nat => ((1 : Int), (n : Int)))).length = k := by rw [List.length_map, List.length_range]
    generalize hA : (List.range k).map (fun n : Nat => ((1 : Int), (n : Int))) = A at *
    repeat(first|refine QV QP ?_|refine QZ ?_|refine qcT rfl ?_|refine qcF rfl ?_|refine E_blockX ?_|refine E_blockO rfl ?_|refine QV (rr_build rfl (hb1 _)) ?_|refine QV QA ?_|refine QV QlT ?_|refine QV QlF ?_|refine QV QaA ?_)
    refine TL_pushN (i := 1) rfl rfl rfl rfl rfl rfl rfl (fun z h => by cases h; rfl) (by omega) (by omega) rfl fun z v' => ?_
    conv=>arg 8;simp only[zA,zB,zC,zD,zE,zF,zG,zH,zI,rowS,ret,id_eq]
    repeat(first|refine QV QP ?_|refine QZ ?_|refine qcT rfl ?_|refine qcF rfl ?_|refine E_blockX ?_|refine E_blockO rfl ?_|refine QV QA ?_|refine QV QlT ?_|refine QV QlF ?_|refine QV QaA ?_)
    exact E_round (k + 1, v') (by show k + 1 ≤ T; omega) (by show T - (k + 1) < T - k; omega) (by repeat' (first | exact True.intro | refine And.intro rfl ?_)) (by dsimp only; rw [hnx, List.length_append, List.flatMap_append]; rfl)
  obtain rfl : k = T := by omega
  have hln : ((List.range k).map (fun n : Nat => ((1 : Int), (n : Int)))).length = k := by rw [List.length_map, List.length_range]
  have hS : symsI k N = (List.range k).map (fun n : Nat => ((1 : Int), (n : Int))) ++ (List.range N).map (fun n : Nat => ((2 : Int), (n : Int))) := rfl
  generalize symsI k N = S at *
  generalize hA : (List.range k).map (fun n : Nat => ((1 : Int), (n : Int))) = A at *
  repeat(first|refine QV QP ?_|refine QZ ?_|refine qcT rfl ?_|refine qcF rfl ?_|refine E_blockX ?_|refine E_blockO rfl ?_|refine QV (rr_load1 (v := .int .i64 (N : Int)) TyC.ty rfl (at_blk (i := 0) rfl rfl)) ?_|refine QV QA ?_|refine QV QlT ?_|refine QV QlF ?_|refine QV QaA ?_)
  refine T_loop (ι := Nat × Value) (fun (j, _) => j ≤ N) (fun (j, v) => [(3, v), (18, .int .i64 (N : Int)), (19, .int .i64 (j : Int))])
    (fun (j, v) => [blkO g1 (graV (k : Int) (N : Int) vp).cells 24, rowO 60 2 v (A ++ (List.range j).map (fun n : Nat => ((2 : Int), (n : Int)))).length ((A ++ (List.range j).map (fun n : Nat => ((2 : Int), (n : Int)))).flatMap symC)]) (fun (j, _) => N - j) (0, v) (Nat.zero_le _) (by repeat' (first | exact True.intro | refine And.intro rfl ?_)) (by simp only [List.range_zero, List.map_nil, List.append_nil]) ?_
  rintro ⟨j, v⟩ j1
  dsimp only at j1 ⊢
  by_cases c2 : j < N
  · have hnx : A ++ (List.range (j + 1)).map (fun n : Nat => ((2 : Int), (n : Int))) = (A ++ (List.range j).map (fun n : Nat => ((2 : Int), (n : Int)))) ++ [((2 : Int), (j : Int))] := by rw [List.range_succ, List.map_append, List.append_assoc]; rfl
    have hln2 : (A ++ (List.range j).map (fun n : Nat => ((2 : Int), (n : Int)))).length ≤ 2000 := by rw [List.length_append, List.length_map, List.length_range]; omega
    generalize hD : A ++ (List.range j).map (fun n : Nat => ((2 : Int), (n : Int))) = D at *
    repeat(first|refine QV QP ?_|refine QZ ?_|refine qcT rfl ?_|refine qcF rfl ?_|refine E_blockX ?_|refine E_blockO rfl ?_|refine QV (rr_build rfl (hb2 _)) ?_|refine QV QA ?_|refine QV QlT ?_|refine QV QlF ?_|refine QV QaA ?_)
    refine TL_pushN (i := 1) rfl rfl rfl rfl rfl rfl rfl (fun z h => by cases h; rfl) (by omega) (by omega) rfl fun z v' => ?_
    conv=>arg 8;simp only[zA,zB,zC,zD,zE,zF,zG,zH,zI,rowS,ret,id_eq]
    repeat(first|refine QV QP ?_|refine QZ ?_|refine qcT rfl ?_|refine qcF rfl ?_|refine E_blockX ?_|refine E_blockO rfl ?_|refine QV QA ?_|refine QV QlT ?_|refine QV QlF ?_|refine QV QaA ?_)
    exact E_round (j + 1, v') (by show j + 1 ≤ N; omega) (by show N - (j + 1) < N - j; omega) (by repeat' (first | exact True.intro | refine And.intro rfl ?_)) (by dsimp only; rw [hnx, List.length_append, List.flatMap_append]; rfl)
  obtain rfl : j = N := by omega
  rw [← hS]
  repeat(first|refine QV QP ?_|refine QZ ?_|refine qcT rfl ?_|refine qcF rfl ?_|refine E_blockX ?_|refine E_blockO rfl ?_|refine QV QA ?_|refine QV QlT ?_|refine QV QlF ?_|refine QV QaA ?_)
  exact E_ret1 rfl rfl fun w hm => hm.meets (S := rowS 60 2 S.length (S.flatMap symC) id) v trivial [1] (by decide) rfl
end Go.Proofs.Ytomkjjpdnmcnnaa.eng


/- StrK -/
namespace Go.Proofs.Ytomkjjpdnmcnnaa.eng
open Go.RowKit kit mix
theorem str_inj {x y : List UInt8} (h : str x = str y) : x = y := by
  unfold str at h
  simpa using h
def strK : KeyT Try.prog 9 (List UInt8) where
  kv := str
  ok l := l.length ≤ 9223372036854775807
  law := Go.WideMaps.string_law Try.underlying9
  key l h := ⟨_, Go.WideMaps.keyOf_string_mk Try.underlying9 (by unfold maxLen; simpa [ByteArray.size] using h)⟩
  inj x y h := str_inj h
end Go.Proofs.Ytomkjjpdnmcnnaa.eng

/- MapN -/
namespace Go.Proofs.Ytomkjjpdnmcnnaa.eng
open Go.RowKit kit mix smallL
def mapAt {κ : Type} [DecidableEq κ] (D : List κ) (x : κ) : Option Value := if x ∈ D then some (.int .i64 (idx D x : Int)) else none
theorem mapAt_add {κ : Type} [DecidableEq κ] {D : List κ} {x : κ} (hn : x ∉ D) : (fun y => if y = x then some (.int .i64 (D.length : Int)) else mapAt D y) = mapAt (D ++ [x]) := by
  funext y
  unfold mapAt
  by_cases c : y = x
  · subst c
    rw [if_pos rfl, if_pos (by simp)]
    have := idx_more (D := D) (k := y)
    unfold more at this
    rw [if_neg hn, if_neg hn] at this
    rw [this]
  · rw [if_neg c]
    by_cases c2 : y ∈ D
    · rw [if_pos c2, if_pos (List.mem_append_left _ c2), idx_pre c2]
    · rw [if_neg c2, if_neg (by simp [c, c2])]
section
variable {P : Program} {k : TypeId} {κ : Type} {K : KeyT P k κ}
variable {W : Base} {fr : Fr} {L : List Own} {Q : Exit → Act → World → Prop} {ops : Array Oper} {rest : List Oper} {n d : Nat} {dst : Option Tmp} {ty : TypeId} {pos : String} {after : Array Edge} {guard : Option (Nat × Bool)} {i g c : Nat} {t e : TypeId} {D : List κ} {x : κ} {z : Value} {xm xk xv : Operand} [DecidableEq κ]
theorem rr_lookNumS (ht : P.underlying t = some (.map k e)) (hz : ∀ w, (zeroValue e).run P w = .ok z w) (hi : L[i]? = some (mapO K g (mapAt D) c)) (hm : ev fr xm = some (.map (some g))) (hk : ev fr xk = some (K.kv x)) (hx : K.ok x) (hn : x ∈ D) : RR P n W ⟨dst, .lookup t xm xk true, ty, pos, after, guard⟩ fr L (.tuple #[.int .i64 (idx D x : Int), .bool true]) := by
  have := rr_lookOk (n := n) (W := W) (dst := dst) (ty := ty) (pos := pos) (after := after) (guard := guard) K ht hz hi hm hk hx
  rw [show mapAt D x = some (.int .i64 (idx D x : Int)) from if_pos hn] at this
  exact this
theorem rr_lookNumN (ht : P.underlying t = some (.map k e)) (hz : ∀ w, (zeroValue e).run P w = .ok z w) (hi : L[i]? = some (mapO K g (mapAt D) c)) (hm : ev fr xm = some (.map (some g))) (hk : ev fr xk = some (K.kv x)) (hx : K.ok x) (hn : x ∉ D) : RR P n W ⟨dst, .lookup t xm xk true, ty, pos, after, guard⟩ fr L (.tuple #[z, .bool false]) := by
  have := rr_lookOk (n := n) (W := W) (dst := dst) (ty := ty) (pos := pos) (after := after) (guard := guard) K ht hz hi hm hk hx
  rw [show mapAt D x = none from if_neg hn] at this
  exact this
theorem TL_mapNew (hn : Nat.blt d n = true) (h : ∀ g, TL P n W ops Q rest ((d, .map (some g)) :: fr) (L ++ [mapO K g (mapAt []) 0])) :
    TL P n W ops Q (⟨some d, .makeMap t none, ty, pos, after, none⟩ :: rest) fr L := by
  refine TL_map K hn fun g => ?_
  have e : (fun (_ : κ) => (none : Option Value)) = mapAt [] := by funext y; unfold mapAt; rw [if_neg (by simp)]
  rw [e]; exact h g
end
end Go.Proofs.Ytomkjjpdnmcnnaa.eng

/- ClassL -/
namespace Go.Proofs.Ytomkjjpdnmcnnaa.classL
/-- a word of 64 bits as the model's number -/
def n64 (x : BitVec 64) : Int := x.toNat
theorem wrap64 (x : BitVec 64) : IntKind.u64.wrap (n64 x) = n64 x := by
  have := x.isLt
  unfold n64
  rw [IntKind.wrap_u64]; omega
theorem ofInt64 (x : BitVec 64) : BitVec.ofInt 64 (n64 x) = x := by
  apply BitVec.eq_of_toNat_eq; simp [n64]
theorem and64 (x y : BitVec 64) : bits .and .u64 (n64 x) (n64 y) = n64 (x &&& y) := by
  unfold bits; simp only [IntKind.bits, ofInt64]; exact wrap64 _
theorem or64 (x y : BitVec 64) : bits .or .u64 (n64 x) (n64 y) = n64 (x ||| y) := by
  unfold bits; simp only [IntKind.bits, ofInt64]; exact wrap64 _
theorem xor64 (x y : BitVec 64) : bits .xor .u64 (n64 x) (n64 y) = n64 (x ^^^ y) := by
  unfold bits; simp only [IntKind.bits, ofInt64]; exact wrap64 _
theorem not64 (x : BitVec 64) : bits .xor .u64 IntKind.u64.max (n64 x) = n64 (~~~ x) := by
  have h := xor64 (BitVec.allOnes 64) x
  rw [BitVec.allOnes_xor] at h
  rw [← h]; rfl
/-- a class of bytes -/
structure C4 where
  a : BitVec 64
  b : BitVec 64
  c : BitVec 64
  d : BitVec 64
  deriving DecidableEq
def C4.zero : C4 := ⟨0, 0, 0, 0⟩
def clsL (x : C4) : List Value := [.int .u64 (n64 x.a), .int .u64 (n64 x.b), .int .u64 (n64 x.c), .int .u64 (n64 x.d)]
end Go.Proofs.Ytomkjjpdnmcnnaa.classL

/- RexL -/
namespace Go.Proofs.Ytomkjjpdnmcnnaa.rexL
open classL
inductive Rx where
  | mk (kind : Int) (c : C4) (kids : List Rx)
def Rx.kind : Rx → Int | .mk k _ _ => k
def Rx.cls : Rx → C4 | .mk _ c _ => c
def Rx.kids : Rx → List Rx | .mk _ _ l => l
/-! ### expressions that are as they should be -/
inductive Re where
  | none
  | empty
  | byte (c : C4)
  | cat (a b : Re)
  | alt (a b : Re)
  | star (a : Re)
def Re.size : Re → Nat
  | .cat a b => a.size + b.size + 1
  | .alt a b => a.size + b.size + 1
  | .star a => a.size + 1
  | _ => 1
def Re.kind : Re → Int
  | .none => 1
  | .empty => 2
  | .byte _ => 3
  | .cat _ _ => 4
  | .alt _ _ => 5
  | .star _ => 6
def Re.cls : Re → C4
  | .byte c => c
  | _ => C4.zero
def Re.kids : Re → List Re
  | .cat a b => [a, b]
  | .alt a b => [a, b]
  | .star a => [a]
  | _ => []
end Go.Proofs.Ytomkjjpdnmcnnaa.rexL

/- RexS -/
namespace Go.Proofs.Ytomkjjpdnmcnnaa.eng
open Go.RowKit kit mix classL rexL
/-- an expression that can be read, its blocks being in F -/
inductive RexIs (F : Nat → Prop) (w : World) : List Value → Rx → Prop
  | mk {k : Int} {c : C4} {kids : List Rx} {base : Option Addr} {cap : Nat} (css : List (List Value)) : kit.okI64 k → kids.length ≤ cap → cap ≤ maxLen → css.length = kids.length →
    (∀ i (h : i < kids.length) (h' : i < css.length), RexIs F w css[i] kids[i]) → (0 < kids.length → ∃ b off, base = some ⟨b, off, none⟩ ∧ F b ∧ ∀ i (_ : i < kids.length) (h' : i < css.length), Rd w b (off + i * 6) css[i]) →
    RexIs F w (.int .i64 k :: (clsL c ++ [.slice base kids.length cap])) (.mk k c kids)
theorem RexIs.len6 {F : Nat → Prop} {w : World} {cs : List Value} {t : Rx} (h : RexIs F w cs t) : cs.length = 6 := by
  cases h; rfl
theorem RexIs.stayed {F : Nat → Prop} {w w' : World} {cs : List Value} {t : Rx} (h : RexIs F w cs t) (hk : ∀ k, F k → w'.heap[k]? = w.heap[k]?) : RexIs F w' cs t := by
  induction h with
  | mk css h2 h3 h4 h5 h6 h7 ih =>
    refine .mk css h2 h3 h4 h5 ih fun hl => ?_
    obtain ⟨b, off, e, hF, hr⟩ := h7 hl
    exact ⟨b, off, e, hF, fun i hi hi' => rd_stay (hr i hi hi') (hk b hF)⟩
theorem RexIs.mono {F F' : Nat → Prop} {w : World} {cs : List Value} {t : Rx} (h : RexIs F w cs t) (hk : ∀ k, F k → F' k) : RexIs F' w cs t := by
  induction h with
  | mk css h2 h3 h4 h5 h6 h7 ih =>
    refine .mk css h2 h3 h4 h5 ih fun hl => ?_
    obtain ⟨b, off, e, hF, hr⟩ := h7 hl
    exact ⟨b, off, e, hk b hF, hr⟩
def rexS : Shp Rx := ⟨6, RexIs, fun h => h.len6, fun h hk => h.stayed hk, fun h hk => h.mono hk⟩
def rexC (k : Int) (c : C4) (v : Value) : List Value := .int .i64 k :: (clsL c ++ [v])
def rexV (k : Int) (c : C4) (v : Value) : Value := .agg (rexC k c v).toArray
theorem rex_iff {F : Nat → Prop} {w : World} {cs : List Value} {k : Int} {c : C4} {kids : List Rx} : RexIs F w cs (.mk k c kids) ↔ ∃ v, cs = rexC k c v ∧ kit.okI64 k ∧ SlF rexS F w v kids := by
  constructor
  · intro h
    cases h with
    | mk css h2 h3 h4 h5 h6 h7 =>
      refine ⟨_, rfl, h2, _, _, rfl, h3, h4, fun hl => ?_⟩
      obtain ⟨b, off, e, hF, hr⟩ := h7 hl
      exact ⟨b, off, e, hF, fun i hi => ⟨css[i]'(by omega), h6 i hi (by omega), hr i hi (by omega)⟩⟩
  · rintro ⟨v, rfl, h2, base, cap, rfl, h3, h4, h5⟩
    by_cases hl : 0 < kids.length
    · obtain ⟨b, off, e, hF, hr⟩ := h5 hl
      have hlen : (List.ofFn fun i : Fin kids.length => Classical.choose (hr i i.2)).length = kids.length := by simp
      refine .mk (List.ofFn fun i : Fin kids.length => Classical.choose (hr i i.2)) h2 h3 h4 hlen (fun i hi hi' => ?_) fun _ => ⟨b, off, e, hF, fun i hi hi' => ?_⟩
      · rw [List.getElem_ofFn]; exact (Classical.choose_spec (hr i hi)).1
      · rw [List.getElem_ofFn]; exact (Classical.choose_spec (hr i hi)).2
    · have : kids = [] := List.eq_nil_of_length_eq_zero (by omega)
      subst this
      exact .mk [] h2 h3 h4 rfl (fun i hi => absurd hi (by simp)) fun h => absurd h (by simp)
/-- an expression that is a value -/
def RexR (F : Nat → Prop) (w : World) (v : Value) (r : Rx) : Prop := ∃ vk, v = rexV r.kind r.cls vk ∧ kit.okI64 r.kind ∧ SlF rexS F w vk r.kids
theorem RexR.stay {F : Nat → Prop} {w w' : World} {v : Value} {r : Rx} (h : RexR F w v r) (hk : ∀ k, F k → w'.heap[k]? = w.heap[k]?) : RexR F w' v r :=
  let ⟨vk, h1, h2, h3⟩ := h; ⟨vk, h1, h2, h3.stay hk⟩
theorem RexR.mono {F F' : Nat → Prop} {w : World} {v : Value} {r : Rx} (h : RexR F w v r) (hk : ∀ k, F k → F' k) : RexR F' w v r :=
  let ⟨vk, h1, h2, h3⟩ := h; ⟨vk, h1, h2, h3.mono hk⟩
/-- what is there at all -/
def Low (w : World) : Nat → Prop := fun k => k < w.heap.size
theorem RexR.gr {w w' : World} {v : Value} {r : Rx} (h : RexR (Low w) w v r) (hg : Gr w w') : RexR (Low w') w' v r :=
  (h.stay fun k hk => hg.block k hk).mono fun _ hk => Nat.lt_of_lt_of_le hk hg.size
theorem RexR.is {F : Nat → Prop} {w : World} {v : Value} {r : Rx} (h : RexR F w v r) : ∃ cs, v = .agg cs.toArray ∧ RexIs F w cs r := by
  obtain ⟨k, c, kids⟩ := r
  obtain ⟨vk, rfl, h1, h2⟩ := h
  exact ⟨_, rfl, rex_iff.2 ⟨vk, rfl, h1, h2⟩⟩
theorem RexIs.r {F : Nat → Prop} {w : World} {cs : List Value} {r : Rx} (h : RexIs F w cs r) : RexR F w (.agg cs.toArray) r := by
  obtain ⟨k, c, kids⟩ := r
  obtain ⟨vk, rfl, h1, h2⟩ := rex_iff.1 h
  exact ⟨vk, rfl, h1, h2⟩
/-! ### numbered -/
/-- a node's kids and their numbers -/
def kidsK (r : Re) (k : Nat) : List (Re × Nat) := match r with
  | .cat a b => [(a, k + 1), (b, k + 1 + a.size)]
  | .alt a b => [(a, k + 1), (b, k + 1 + a.size)]
  | .star a => [(a, k + 1)]
  | _ => []
/-- a numbered node that can be read, its kids' blocks being in F -/
inductive NumIs (F : Nat → Prop) (w : World) : List Value → Re × Nat → Prop
  | mk {r : Re} {k : Nat} {vk : Value} {base : Option Addr} {cap : Nat} (css : List (List Value)) : vk.oneCell' = true → (kidsK r k).length ≤ cap → cap ≤ maxLen → css.length = (kidsK r k).length →
    (∀ i (h : i < (kidsK r k).length) (h' : i < css.length), NumIs F w css[i] (kidsK r k)[i]) → (0 < (kidsK r k).length → ∃ b off, base = some ⟨b, off, none⟩ ∧ F b ∧ ∀ i (_ : i < (kidsK r k).length) (h' : i < css.length), Rd w b (off + i * 8) css[i]) →
    NumIs F w (.int .i64 r.kind :: (clsL r.cls ++ [vk, .int .i64 (k : Int), .slice base (kidsK r k).length cap])) (r, k)
theorem NumIs.stayed {F : Nat → Prop} {w w' : World} {cs : List Value} {t : Re × Nat} (h : NumIs F w cs t) (hk : ∀ k, F k → w'.heap[k]? = w.heap[k]?) : NumIs F w' cs t := by
  induction h with
  | mk css h2 h3 h4 h5 h6 h7 ih =>
    refine .mk css h2 h3 h4 h5 ih fun hl => ?_
    obtain ⟨b, off, e, hF, hr⟩ := h7 hl
    exact ⟨b, off, e, hF, fun i hi hi' => rd_stay (hr i hi hi') (hk b hF)⟩
theorem NumIs.mono {F F' : Nat → Prop} {w : World} {cs : List Value} {t : Re × Nat} (h : NumIs F w cs t) (hk : ∀ k, F k → F' k) : NumIs F' w cs t := by
  induction h with
  | mk css h2 h3 h4 h5 h6 h7 ih =>
    refine .mk css h2 h3 h4 h5 ih fun hl => ?_
    obtain ⟨b, off, e, hF, hr⟩ := h7 hl
    exact ⟨b, off, e, hk b hF, hr⟩
section
end
end Go.Proofs.Ytomkjjpdnmcnnaa.eng

/- PlN -/
namespace Go.Proofs.Ytomkjjpdnmcnnaa.eng
open Go.RowKit kit mix classL rexL
/-- blocks that are there already, and stay -/
def OldB (B : Base) (k : Nat) : Prop := k < B.w.heap.size ∧ ¬ B.X k
theorem at_oldB {B : Base} {L : List Own} {b off : Nat} {cs : List Value} (hb : OldB B b) (h : Rd B.w b off cs) (j : Nat) (v : Value) (hj : cs[j]? = some v) : At B L ⟨b, off + j, none⟩ v := fun _ hm =>
  rd_stay h (hm.low.block b hb.1 hb.2) j v hj
end Go.Proofs.Ytomkjjpdnmcnnaa.eng


/- ClassB -/
namespace Go.Proofs.Ytomkjjpdnmcnnaa
open Go.RowKit kit mix classL
attribute [local go_sem] and64 or64 xor64 not64
theorem gr_alloc (w : World) (o : Obj) : Below w.heap.size w (w.alloc o) := (Below.refl _ _).alloc (Nat.le_refl _) _
end Go.Proofs.Ytomkjjpdnmcnnaa


/- PlR -/
namespace Go.Proofs.Ytomkjjpdnmcnnaa.eng
open Go.RowKit kit mix classL rexL
theorem row_slm {e : TypeId} {size n : Nat} {v : Value} {xs : List Value} (w : World) (h : (rowO e size v n xs).holds w) : ∃ a c, v = .slice a n c ∧ n ≤ 9223372036854775807 ∧ (0 < n → ∃ g, a = some ⟨g, 0, none⟩) := by
  rcases (show w.ownsRow 0 e size v n xs from h).2 with ⟨rfl, rfl⟩ | ⟨g, cap, cur, rfl, _, _, hn, hm, _⟩
  · exact ⟨_, _, rfl, by omega, fun h => by omega⟩
  · exact ⟨_, _, rfl, by unfold maxLen at hm; omega, fun _ => ⟨g, rfl⟩⟩
end Go.Proofs.Ytomkjjpdnmcnnaa.eng


/- ItO -/
namespace Go.Proofs.Ytomkjjpdnmcnnaa.eng
open Go.RowKit kit mix gramL treeL factsL itemL smallL
def itS : Shp itemL.Item := flatS itC 3 (fun _ => rfl) (fun _ => True)
theorem idx_map {κ τ : Type} [DecidableEq κ] [DecidableEq τ] (f : κ → τ) (x : κ) : ∀ (D : List κ), (∀ y ∈ D, f y = f x → y = x) → idx (D.map f) (f x) = idx D x
  | [], _ => rfl
  | y :: D, h => by
    have ih := idx_map f x D fun z hz => h z (List.mem_cons_of_mem _ hz)
    unfold idx at ih ⊢
    rw [List.map_cons, List.idxOf_cons, List.idxOf_cons, ih]
    by_cases e : y = x
    · subst e; simp
    · have : ¬ f y = f x := fun e2 => e (h y (List.mem_cons_self ..) e2)
      rw [show (f y == f x) = false by simpa using this, show (y == x) = false by simpa using e]
/-- items whose numbers are bytes -/
def SmallIt (s : List itemL.Item) : Prop := ∀ it ∈ s, 0 ≤ it.1 ∧ it.1 < 256 ∧ 0 ≤ it.2.1 ∧ it.2.1 < 256 ∧ 0 ≤ it.2.2 ∧ it.2.2 < 256
theorem mem_names {S : List (List itemL.Item)} {s : List itemL.Item} (hS : ∀ t ∈ S, SmallIt t) (hs : SmallIt s) : nameI s ∈ S.map nameI ↔ s ∈ S := by
  constructor
  · intro h
    obtain ⟨t, ht, e⟩ := List.mem_map.1 h
    rw [← name_inj (hS t ht) hs e]; exact ht
  · exact List.mem_map_of_mem
def stL (g6 gm g7 : Nat) (vS vN : Value) (vss : List Value) (F : Nat → Prop) (S : List (List itemL.Item)) : List Own :=
  [blkO g6 #[.map (some gm)] 111, mapO strK gm (mapAt (S.map nameI)) S.length, blkO g7 #[vS, vN] 84, rowO 25 1 vS S.length vss, elsO (sliceS itS) F (vss.map fun v => [v]) S]
theorem row_foot {w : World} {e : TypeId} {size n : Nat} {v : Value} {xs : List Value} (h : (rowO e size v n xs).holds w) : ∀ k, v.ownBlock = some k → k < w.heap.size := fun k hk => (rowO e size v n xs).lt w h k (.inl hk)
theorem it_of_row {w : World} {v : Value} {l : List itemL.Item} (h : (rowO 43 3 v l.length (l.flatMap itC)).holds w) : (sliceS itS).is (fun k => v.ownBlock = some k) w [v] l :=
  ⟨v, rfl, SlF.of_flat (Sl.of_own h) (fun _ _ => trivial) (fun _ h => h) (fun a n cp hv => by rw [hv]; rfl)⟩
set_option maxHeartbeats 4000000 in
theorem state_calls (g6 gm g7 : Nat) (vS vN : Value) (vss : List Value) (F : Nat → Prop) (S : List (List itemL.Item)) (vl : Value) (s : List itemL.Item) (hS : ∀ t ∈ S, SmallIt t) (hs : SmallIt s) (hSl : S.length ≤ 1000) (hsl : s.length ≤ 20000) (w : World) (B : Base)
    (hm : Mem B (stL g6 gm g7 vS vN vss F S ++ [rowO 43 3 vl s.length (s.flatMap itC)]) w) :
    Calls Try.prog 49 #[vl, .pointer (some ⟨g6, 0, none⟩), .pointer (some ⟨g7, 0, none⟩)] w (MeetsB ⟨fun (_ : Value × List Value × (Nat → Prop)) => True, fun _ => .int .i64 ((stateI S s).1 : Int), fun x => stL g6 gm g7 x.1 vN x.2.1 x.2.2 (stateI S s).2⟩ B) := by
  have hmn := mem_names hS hs
  have hix := idx_map nameI s S fun t ht e => name_inj (hS t ht) hs e
  have hok : strK.ok (nameI s) := by
    show (nameI s).length ≤ 9223372036854775807
    rw [nameI_len]; omega
  unfold stL at hm
  refine enterB hm (args := [vl, .pointer (some ⟨g6, 0, none⟩), .pointer (some ⟨g7, 0, none⟩)]) (n := 30) Try.func49 rfl rfl rfl ?_
  refine T_know (i := 3) rfl row_slm fun hrow => ?_
  obtain ⟨aS, cS, rfl, -⟩ := hrow
  repeat(first|refine QV QP ?_|refine QZ ?_|refine qcT rfl ?_|refine qcF rfl ?_|refine QV QL ?_|refine QV QA ?_|refine QV (rr_not rfl rfl) ?_)
  refine T_ord ([blkO g6 #[.map (some gm)] 111, mapO strK gm (mapAt (S.map nameI)) S.length, rowO 43 3 vl s.length (s.flatMap itC)]) (.calm 0 (.calm 1 (.calm 2 (.calm 3 (.calm 4 (.calm 5 (.calm 6 (.calm 7 (.calm 8 (.done)))))))))) (sub_pick [0, 1, 5] (by decide) rfl) (by kernel_rfl) (by kernel_rfl) (by intro c a d v w h; cases d <;> exact h) ?_
  repeat(first|((first|refine TW_plain rfl rfl ?_|refine TW_gmet rfl rfl rfl rfl ?_);first|refine QW QP ?_|refine QW (rr_load1 (v := .map (some gm)) TyC.ty rfl (at_blk (i := 0) rfl rfl)) ?_|refine QW QL ?_|refine QW QA ?_|refine QW (rr_not rfl rfl) ?_)|refine TW_done ?_)
  refine TW_call rfl (he1 EntersC.en rfl rfl) (fun w hm => name_calls vl s w (Sl.of_own (hm.get (i := 2) rfl)) hs hsl) rfl rfl rfl ?_
  by_cases c : s ∈ S
  · have hst : stateI S s = (idx S s, S) := if_pos c
    rw [hst]
    repeat(first|((first|refine TW_plain rfl rfl ?_|refine TW_gmet rfl rfl rfl rfl ?_);first|refine QW QP ?_|refine QW (rr_lookNumS (K := strK) (x := nameI s) Und.eq zero_i64 (i := 1) rfl rfl rfl hok (hmn.2 c)) ?_|refine QW QL ?_|refine QW QA ?_|refine QW (rr_not rfl rfl) ?_)|refine TW_done ?_)
    rw [hix]
    repeat(first|refine QV QP ?_|refine QZ ?_|refine qcT rfl ?_|refine qcF rfl ?_|refine QV QL ?_|refine QV QA ?_|refine QV (rr_not rfl rfl) ?_)
    exact E_ret1 rfl rfl fun w hm => hm.meetsB (S := ⟨fun (_ : Value × List Value × (Nat → Prop)) => True, fun _ => .int .i64 (idx S s : Int), fun x => stL g6 gm g7 x.1 vN x.2.1 x.2.2 S⟩) (.slice aS S.length cS, vss, F) trivial [0, 1, 2, 3, 4] (by decide) rfl
  · have hst : stateI S s = (S.length, S ++ [s]) := if_neg c
    rw [hst]
    have hn : nameI s ∉ S.map nameI := fun h => c (hmn.1 h)
    have hadd := mapAt_add hn
    have hnone : mapAt (S.map nameI) (nameI s) = none := if_neg hn
    rw [List.length_map] at hadd
    clear hix hmn
    repeat(first|((first|refine TW_plain rfl rfl ?_|refine TW_gmet rfl rfl rfl rfl ?_);first|refine QW QP ?_|refine QW (rr_lookNumN (K := strK) (x := nameI s) Und.eq zero_i64 (i := 1) rfl rfl rfl hok hn) ?_|refine QW QL ?_|refine QW QA ?_|refine QW (rr_not rfl rfl) ?_)|refine TW_done ?_)
    repeat(first|refine QV QP ?_|refine QZ ?_|refine qcT rfl ?_|refine qcF rfl ?_|refine QV (rr_load1 (v := .slice aS S.length cS) TyC.ty rfl (at_blk (i := 2) rfl rfl)) ?_|refine QV QL ?_|refine QV QA ?_|refine QV (rr_not rfl rfl) ?_)
    refine T_ord ([blkO g6 #[.map (some gm)] 111, rowO 43 3 vl s.length (s.flatMap itC)]) (.calm 0 (.calm 1 (.calm 2 (.calm 3 (.one 4 (.done)))))) (sub_pick [0, 5] (by decide) rfl) (by kernel_rfl) (by kernel_rfl) (by intro c a d v w h; cases d <;> exact h) ?_
    repeat(first|((first|refine TW_plain rfl rfl ?_|refine TW_gmet rfl rfl rfl rfl ?_);first|refine QW QP ?_|refine QW (rr_load1 (v := .map (some gm)) TyC.ty rfl (at_blk (i := 0) rfl rfl)) ?_|refine QW QL ?_|refine QW QA ?_|refine QW (rr_not rfl rfl) ?_)|refine TW_done ?_)
    refine TW_call rfl (he1 EntersC.en rfl rfl) (fun w hm => name_calls vl s w (Sl.of_own (hm.get (i := 1) rfl)) hs hsl) rfl rfl rfl ?_
    repeat(first|((first|refine TW_plain rfl rfl ?_|refine TW_gmet rfl rfl rfl rfl ?_);first|refine QW QP ?_|refine QW QL ?_|refine QW QA ?_|refine QW (rr_not rfl rfl) ?_)|refine TW_done ?_)
    refine TW_one rfl ?_
    refine TL_mapSet (i := 1) (x := nameI s) (v := .int .i64 (S.length : Int)) strK Und.eq rfl rfl rfl rfl hok (by omega) ?_
    conv=>arg 8;simp only[zA,zB,zC,zD,zE,zF,zG,zH,zI,rowS,ret,id_eq]
    rw [hadd, hnone, if_neg (by decide)]
    refine TW_on (sub_pick [0, 5] (by decide) rfl) ?_
    repeat(first|((first|refine TW_plain rfl rfl ?_|refine TW_gmet rfl rfl rfl rfl ?_);first|refine QW QP ?_|refine QW QL ?_|refine QW QA ?_|refine QW (rr_not rfl rfl) ?_)|refine TW_done ?_)
    repeat(first|refine QV QP ?_|refine QZ ?_|refine qcT rfl ?_|refine qcF rfl ?_|refine QV (rr_load1 (v := .slice aS S.length cS) TyC.ty rfl (at_blk (i := 2) rfl rfl)) ?_|refine QV QL ?_|refine QV QA ?_|refine QV (rr_not rfl rfl) ?_)
    refine TL_slv (i := 5) rfl fun hl1 hl2 => ?_
    refine TL_push1 (i := 3) rfl rfl hl1 hl2 rfl rfl (fun z h => by cases h; rfl) (by omega) (by omega) rfl fun z vS' => ?_
    conv=>arg 8;simp only[zA,zB,zC,zD,zE,zF,zG,zH,zI,rowS,ret,id_eq]
    refine TL_merge (elsO (sliceS itS) (fun k => F k ∨ vl.ownBlock = some k) ((vss.map fun v => [v]) ++ [[vl]]) (S ++ [s])) 5 4 [0, 1, 2, 3] (by decide) rfl rfl rfl (fun k hk => hk.elim (fun h => by cases h) fun h => h.elim (fun h => .inr (.inr h)) fun h => .inl (.inl h)) (fun w hr he => els_snoc he (it_of_row hr) (row_foot hr)) ?_
    conv=>arg 8;simp only[zA,zB,zC,zD,zE,zF,zG,zH,zI,rowS,ret,id_eq]
    repeat(first|refine QV QP ?_|refine QZ ?_|refine qcT rfl ?_|refine qcF rfl ?_|refine QV QL ?_|refine QV QA ?_|refine QV (rr_not rfl rfl) ?_)
    refine TL_slv (i := 3) rfl fun hv1 hv2 => TL_store1 (i := 2) rfl rfl rfl hv1 hv2 rfl ?_
    conv=>arg 8;simp only[zA,zB,zC,zD,zE,zF,zG,zH,zI,rowS,ret,id_eq]
    repeat(first|refine QV QP ?_|refine QZ ?_|refine qcT rfl ?_|refine qcF rfl ?_|refine QV QL ?_|refine QV QA ?_|refine QV (rr_not rfl rfl) ?_)
    exact E_ret1 rfl rfl fun w hm => hm.meetsB (S := ⟨fun (_ : Value × List Value × (Nat → Prop)) => True, fun _ => .int .i64 (S.length : Int), fun x => stL g6 gm g7 x.1 vN x.2.1 x.2.2 (S ++ [s])⟩) (vS', vss ++ [vl], fun k => F k ∨ vl.ownBlock = some k) trivial [0, 1, 2, 3, 4] (by decide) (by dsimp only [stL]; rw [List.map_append, List.map_append, List.length_append]; rfl)
end Go.Proofs.Ytomkjjpdnmcnnaa.eng


/- Els -/
namespace Go.Proofs.Ytomkjjpdnmcnnaa.eng
open Go.RowKit kit mix
section
variable {α : Type} {s : Shp α} {F : Nat → Prop} {vs : List Value} {S : List (List α)} {W : Base} {L : List Own} {w : World}
theorem els_count (h : (elsO (sliceS s) F (vs.map fun v => [v]) S).holds w) : vs.length = S.length := by have := h.1.1; rwa [List.length_map] at this
theorem els_is (h : (elsO (sliceS s) F (vs.map fun v => [v]) S).holds w) {q : Nat} (hq : q < S.length) {v : Value} (hv : vs[q]? = some v) : SlF s F w v S[q] := by
  have hnv : q < vs.length := (List.getElem?_eq_some_iff.1 hv).1
  obtain ⟨v', e, hs⟩ := h.1.2 q hq (by rw [List.length_map]; exact hnv)
  rw [List.getElem_map] at e
  have h2 := (List.getElem?_eq_some_iff.1 hv).2
  rw [h2] at e
  rw [(List.cons.inj e).1]
  exact hs
theorem els_form (h : (elsO (sliceS s) F (vs.map fun v => [v]) S).holds w) {q : Nat} (hq : q < S.length) {v : Value} (hv : vs[q]? = some v) : ∃ base cap, v = .slice base S[q].length cap ∧ S[q].length ≤ cap ∧ cap ≤ 9223372036854775807 ∧ (0 < S[q].length → ∃ b off, base = some ⟨b, off, none⟩) := by
  obtain ⟨base, cap, e, h1, h2, h3⟩ := els_is h hq hv
  exact ⟨base, cap, e, h1, by unfold maxLen at h2; omega, fun hn => let ⟨b, off, h4, _⟩ := h3 hn; ⟨b, off, h4⟩⟩
theorem els_sl {f : α → List Value} {c : Nat} {hc : ∀ a, (f a).length = c} {p : α → Prop} (hc0 : 0 < c) {i : Nat} (hi : L[i]? = some (elsO (sliceS (flatS f c hc p)) F (vs.map fun v => [v]) S)) {q : Nat} (hq : q < S.length) {v : Value} (hv : vs[q]? = some v) : SlL W L v S[q].length (S[q].flatMap f) := fun _ hm =>
  SlF.flat hc0 (els_is (hm.get hi) hq hv)
end
end Go.Proofs.Ytomkjjpdnmcnnaa.eng


/- Fam -/
namespace Go.Proofs.Ytomkjjpdnmcnnaa.eng
open Go.RowKit kit mix
def famP (D : Nat → Prop) (f : Nat → Own) : Own where
  blk := none
  more := fun k => ∃ i, D i ∧ (f i).foot k
  holds := fun w => (∀ i, D i → (f i).holds w) ∧ ∀ i j, D i → D j → i ≠ j → ∀ k, (f i).foot k → ¬ (f j).foot k
  lt := fun w h k hk => by
    rcases hk with hk | ⟨i, hi, hk⟩
    · cases hk
    · exact (f i).lt w (h.1 i hi) k hk
  stay := fun w w' h hs hb => ⟨fun i hi => (f i).stay w w' (h.1 i hi) hs fun k hk => hb k (.inr ⟨i, hi, hk⟩), h.2⟩
theorem fam_congr {D D' : Nat → Prop} {f f' : Nat → Own} (h1 : ∀ k, D' k → D k) (h2 : ∀ k, D' k → f' k = f k) (w : World) (h : (famP D f).holds w) : (famP D' f').holds w :=
  ⟨fun i hi => by rw [h2 i hi]; exact h.1 i (h1 i hi), fun i j hi hj hij => by rw [h2 i hi, h2 j hj]; exact h.2 i j (h1 i hi) (h1 j hj) hij⟩
theorem fam_foot {D D' : Nat → Prop} {f f' : Nat → Own} (h1 : ∀ k, D' k → D k) (h2 : ∀ k, D' k → f' k = f k) (k : Nat) (h : (famP D' f').foot k) : (famP D f).foot k := by
  rcases h with h | ⟨i, hi, hk⟩
  · cases h
  · exact .inr ⟨i, h1 i hi, by rw [← h2 i hi]; exact hk⟩
/-- one more -/
def upd (f : Nat → Own) (i : Nat) (o : Own) : Nat → Own := fun k => if k = i then o else f k
theorem upd_ne {f : Nat → Own} {i j : Nat} {o : Own} (h : j ≠ i) : upd f i o j = f j := by unfold upd; rw [if_neg h]
theorem upd_eq {f : Nat → Own} {i : Nat} {o : Own} : upd f i o i = o := by unfold upd; rw [if_pos rfl]
theorem fam_put {D : Nat → Prop} {f : Nat → Own} {i : Nat} {o : Own} {w : World} (hi : ¬ D i) (h : (famP D f).holds w) (ho : o.holds w) (ha : ∀ k, (famP D f).foot k → ¬ o.foot k) : (famP (fun k => D k ∨ k = i) (upd f i o)).holds w := by
  have hf : ∀ j, D j → upd f i o j = f j := fun j hj => upd_ne fun e => hi (by subst e; exact hj)
  have hg : upd f i o i = o := upd_eq
  refine ⟨fun j hj => ?_, fun j k hj hk hjk q hq hq' => ?_⟩
  · rcases hj with hj | rfl
    · rw [hf j hj]; exact h.1 j hj
    · rw [hg]; exact ho
  · rcases hj with hj | rfl <;> rcases hk with hk | rfl
    · rw [hf j hj] at hq; rw [hf k hk] at hq'; exact h.2 j k hj hk hjk q hq hq'
    · rw [hf j hj] at hq; rw [hg] at hq'; exact ha q (.inr ⟨j, hj, hq⟩) hq'
    · rw [hg] at hq; rw [hf k hk] at hq'; exact ha q (.inr ⟨k, hk, hq'⟩) hq
    · exact hjk rfl
theorem fam_putF {D : Nat → Prop} {f : Nat → Own} {i : Nat} {o : Own} (hi : ¬ D i) (k : Nat) (h : (famP (fun k => D k ∨ k = i) (upd f i o)).foot k) : (famP D f).foot k ∨ o.foot k := by
  rcases h with h | ⟨j, hj, hk⟩
  · cases h
  · rcases hj with hj | rfl
    · exact .inl (.inr ⟨j, hj, by rw [upd_ne fun e => hi (by subst e; exact hj)] at hk; exact hk⟩)
    · exact .inr (by rw [upd_eq] at hk; exact hk)
section
variable {P : Program} {n : Nat} {W : Base} {fr : Fr} {L : List Own} {Q : Exit → Act → World → Prop} {ops : Array Oper} {rest : List Oper} {d : Nat}
theorem Mem.split {w : World} {q : Nat} {o : Own} (o1 o2 : Own) (h : Mem W L w) (hq : L[q]? = some o) (h1 : ∀ w, o.holds w → o1.holds w) (h2 : ∀ w, o.holds w → o2.holds w) (f1 : ∀ k, o1.foot k → o.foot k) (f2 : ∀ k, o2.foot k → o.foot k) (ha : ∀ w, o.holds w → ∀ k, o1.foot k → ¬ o2.foot k) : Mem W (L.set q o1 ++ [o2]) w := by
  have hr := h.reown o1 hq h1 f1
  have hoq := h.owns.all q o hq
  have hlen : q < L.length := (List.getElem?_eq_some_iff.1 hq).1
  refine ⟨h.low, OwnsP.both hr.owns (OwnsP.one (h2 w hoq.1) fun k hk => hoq.2 k (f2 k hk)) fun i j a b hi hj k hk hk' => ?_⟩
  match j, hj with
  | 0, hj =>
    simp only [List.getElem?_cons_zero, Option.some.injEq] at hj; subst hj
    by_cases e : q = i
    · subst e
      rw [List.getElem?_set_self hlen] at hi
      simp only [Option.some.injEq] at hi; subst hi
      exact ha w hoq.1 k hk hk'
    · rw [List.getElem?_set_ne e] at hi
      exact h.owns.apart i q a o (Ne.symm e) hi hq k hk (f2 k hk')
  | j + 1, hj => simp at hj
theorem Mem.merge2A {w : World} (o : Own) (i j : Nat) (js : List Nat) {o1 o2 : Own} {R : List Own} (h : Mem W L w) (hn : ([i, j] ++ js).Nodup) (h1 : L[i]? = some o1) (h2 : L[j]? = some o2) (hR : R = js.filterMap fun i => L[i]?) (hf : ∀ k, o.foot k → o1.foot k ∨ o2.foot k) (hh : ∀ w, o1.holds w → o2.holds w → (∀ k, o1.foot k → ¬ o2.foot k) → o.holds w) : Mem W (R ++ [o]) w := by
  have hij : i ≠ j := fun e => by subst e; simp at hn
  have ha := h.owns.apart i j o1 o2 hij h1 h2
  refine Mem.merge o (h.pick ([i, j] ++ js) hn ?_) hf (fun a b => hh w a b ha)
  rw [List.filterMap_append, ← hR]
  congr 1
  rw [List.filterMap_cons_some (by exact h1), List.filterMap_cons_some (by exact h2)]; rfl
theorem Mem.take {w : World} {q : Nat} {D : Nat → Prop} {f : Nat → Own} (i : Nat) (h : Mem W L w) (hq : L[q]? = some (famP D f)) (hi : D i) : Mem W (L.set q (famP (fun k => D k ∧ k ≠ i) f) ++ [f i]) w :=
  h.split _ _ hq (fun w h => fam_congr (fun k h => h.1) (fun _ _ => rfl) w h) (fun w h => h.1 i hi) (fun k h => fam_foot (fun k h => h.1) (fun _ _ => rfl) k h) (fun k h => .inr ⟨i, hi, h⟩) fun w h k hk hk' => by
    rcases hk with hk | ⟨j, ⟨hj, hne⟩, hk⟩
    · cases hk
    · exact h.2 j i hj hi hne k hk hk'
theorem T_take {c : Code} {q : Nat} {D : Nat → Prop} {f : Nat → Own} (i : Nat) (hq : L[q]? = some (famP D f)) (hi : D i) (h : T P n W c Q fr (L.set q (famP (fun k => D k ∧ k ≠ i) f) ++ [f i])) : T P n W c Q fr L := ⟨fun a w hr hm => h.go a w hr (hm.take i hq hi)⟩
theorem TL_take {q : Nat} {D : Nat → Prop} {f : Nat → Own} (i : Nat) (hq : L[q]? = some (famP D f)) (hi : D i) (h : TL P n W ops Q rest fr (L.set q (famP (fun k => D k ∧ k ≠ i) f) ++ [f i])) : TL P n W ops Q rest fr L := ⟨fun a w hr hm => h.go a w hr (hm.take i hq hi)⟩
theorem Mem.put {w : World} {D D' : Nat → Prop} {f f' : Nat → Own} {o : Own} {R : List Own} (x q j : Nat) (js : List Nat) (h : Mem W L w) (hn : ([q, j] ++ js).Nodup) (hq : L[q]? = some (famP D f)) (hj : L[j]? = some o) (hR : R = js.filterMap fun i => L[i]?) (hx : ¬ D x) (hD : ∀ k, D' k → D k ∨ k = x) (hf : ∀ k, D' k → f' k = upd f x o k) : Mem W (R ++ [famP D' f']) w :=
  h.merge2A _ q j js hn hq hj hR (fun k hk => fam_putF hx k (fam_foot hD hf k hk)) fun w h1 h2 h3 => fam_congr hD hf w (fam_put hx h1 h2 h3)
theorem TL_put {D D' : Nat → Prop} {f f' : Nat → Own} {o : Own} {R : List Own} (x q j : Nat) (js : List Nat) (hn : ([q, j] ++ js).Nodup) (hq : L[q]? = some (famP D f)) (hj : L[j]? = some o) (hR : R = js.filterMap fun i => L[i]?) (hx : ¬ D x) (hD : ∀ k, D' k → D k ∨ k = x) (hf : ∀ k, D' k → f' k = upd f x o k) (h : TL P n W ops Q rest fr (R ++ [famP D' f'])) : TL P n W ops Q rest fr L := ⟨fun a w hr hm => h.go a w hr (hm.put x q j js hn hq hj hR hx hD hf)⟩
theorem E_put {e : Exit} {D D' : Nat → Prop} {f f' : Nat → Own} {o : Own} {R : List Own} (x q j : Nat) (js : List Nat) (hn : ([q, j] ++ js).Nodup) (hq : L[q]? = some (famP D f)) (hj : L[j]? = some o) (hR : R = js.filterMap fun i => L[i]?) (hx : ¬ D x) (hD : ∀ k, D' k → D k ∨ k = x) (hf : ∀ k, D' k → f' k = upd f x o k) (h : E n W e Q fr (R ++ [famP D' f'])) : E n W e Q fr L := ⟨fun a w hr hm => h.go a w hr (hm.put x q j js hn hq hj hR hx hD hf)⟩
theorem at_hold {q : Nat} {o : Own} {p : Addr} {v : Value} (hq : L[q]? = some o) (h : ∀ w, o.holds w → w.cell? p = some v) : At W L p v := fun w hm => h w (hm.get hq)
theorem row_cell {g off size cap m k : Nat} {e : TypeId} {xs : List Value} {v : Value} {w : World} (h : (rowO e size (.slice (some ⟨g, 0, none⟩) m cap) k xs).holds w) (hv : xs[off]? = some v) : w.cell? ⟨g, off, none⟩ = some v := by
  have h : w.ownsRow 0 e size (.slice (some ⟨g, 0, none⟩) m cap) k xs := h
  have := h.cells (g := g) rfl off v hv
  rwa [addr_add, Nat.zero_add] at this
/-! ### rows that a function tells -/
def tabA {α : Type} (len : Nat) (f : Nat → α) : List α := (List.range len).map f
section
variable {α : Type}
theorem tabA_len (len : Nat) (f : Nat → α) : (tabA len f).length = len := by simp [tabA]
theorem tabA_get {len : Nat} (f : Nat → α) {k : Nat} (h : k < len) : (tabA len f)[k]? = some (f k) := by simp [tabA, h]
theorem tabA_set {len : Nat} (f g : Nat → α) (k : Nat) (v : α) (h : ∀ i, i < len → g i = if i = k then v else f i) : (tabA len f).set k v = tabA len g := by
  apply List.ext_getElem?
  intro i
  rw [List.getElem?_set]
  by_cases hi : i < len
  · rw [tabA_get g hi, h i hi]
    by_cases e : k = i
    · subst e; simp [tabA_len, hi]
    · rw [if_neg e, if_neg (fun e' => e e'.symm), tabA_get f hi]
  · have h1 : (tabA len g)[i]? = none := List.getElem?_eq_none (by rw [tabA_len]; omega)
    have h2 : (tabA len f)[i]? = none := List.getElem?_eq_none (by rw [tabA_len]; omega)
    rw [h1, h2]
    by_cases e : k = i
    · subst e; simp [tabA_len, hi]
    · rw [if_neg e]
theorem tabA_congr {len : Nat} {f g : Nat → α} (h : ∀ i, i < len → f i = g i) : tabA len f = tabA len g := by
  unfold tabA
  apply List.map_congr_left
  intro i hi
  exact h i (by simpa using hi)
theorem tabA_const (val : α → Value) (a : α) (len : Nat) : (tabA len fun _ => a).map val = List.replicate len (val a) := by
  unfold tabA
  rw [List.map_map]
  apply List.ext_getElem?
  intro i
  by_cases h : i < len <;> simp [h]
/-- a row of one-cell elements -/
def rowA (e : TypeId) (val : α → Value) (g len : Nat) (f : Nat → α) : Own := rowO e 1 (.slice (some ⟨g, 0, none⟩) len len) len ((tabA len f).map val)
theorem rowA_congr {e : TypeId} {val : α → Value} {g len : Nat} {f f' : Nat → α} (h : ∀ i, i < len → f i = f' i) : rowA e val g len f = rowA e val g len f' := by unfold rowA; rw [tabA_congr h]
theorem at_rowA {e : TypeId} {val : α → Value} {i g len k : Nat} {f : Nat → α} (hi : L[i]? = some (rowA e val g len f)) (hk : k < len) : At W L ⟨g, 0 + k, none⟩ (val (f k)) := at_row hi (by rw [Nat.zero_add, List.getElem?_map, tabA_get f hk]; rfl)
theorem rowA_set {e : TypeId} {val : α → Value} {g len k : Nat} {v : α} {f f' : Nat → α} (h : ∀ i, i < len → f' i = if i = k then v else f i) : rowO e 1 (.slice (some ⟨g, 0, none⟩) len len) len (((tabA len f).map val).set k (val v)) = rowA e val g len f' := by
  unfold rowA
  rw [← List.map_set, tabA_set f f' k v h]
theorem TL_storeA {e : TypeId} {val : α → Value} {ty : TypeId} {pos : String} {after : Array Edge} {t : TypeId} {p x : Operand} {i g off len : Nat} {v : α} {f : Nat → α} (f' : Nat → α) (hT : Ty P t false 1) (hi : L[i]? = some (rowA e val g len f)) (hp : ev fr p = some (.pointer (some ⟨g, 0 + off, none⟩))) (hx : ev fr x = some (val v)) (h1 : (val v).cells = #[val v]) (h2 : (val v).oneCell' = true) (hk : off < len) (hf : ∀ i, i < len → f' i = if i = off then v else f i)
    (h : TL P n W ops Q rest fr (L.set i (rowA e val g len f'))) : TL P n W ops Q (⟨none, .store t p x, ty, pos, after, none⟩ :: rest) fr L :=
  TL_storeRow hT hi hp hx h1 rfl h2 (by rw [List.length_map, tabA_len, Nat.zero_add]; exact hk) (by rw [Nat.zero_add, rowA_set hf]; exact h)
theorem TL_makeA {t e : TypeId} {x y : Operand} {bytes m : Nat} {k k' : IntKind} {ty : TypeId} {pos : String} {after : Array Edge} (val : α → Value) (z : α) [ElC P t e 1 bytes] [ZeroC P e #[val z]] (hx : ev fr x = some (.int k (m : Int))) (hy : ev fr y = some (.int k' (m : Int))) (hb : bytes * m ≤ 281474976710656) (h63 : m ≤ 9223372036854775807) (hn : Nat.blt d n = true)
    (h : ∀ g, TL P n W ops Q rest ((d, .slice (some ⟨g, 0, none⟩) m m) :: fr) (L ++ [rowA e val g m fun _ => z])) : TL P n W ops Q (⟨some d, .makeSlice t x y, ty, pos, after, none⟩ :: rest) fr L :=
  TL_makeRow hx hy hb h63 hn fun g => by
    have := h g
    unfold rowA at this
    rw [tabA_const] at this
    exact this
end
end
end Go.Proofs.Ytomkjjpdnmcnnaa.eng

/- TreeS -/
namespace Go.Proofs.Ytomkjjpdnmcnnaa.eng
open Go.RowKit kit mix gramL treeL
/-- a tree that can be read, its blocks being in F -/
inductive TreeIs (F : Nat → Prop) (w : World) : List Value → Tree → Prop
  | mk {p k : Int} {kids : List Tree} {base : Option Addr} {cap : Nat} (css : List (List Value)) : kit.okI64 p → kit.okI64 k → kids.length ≤ cap → cap ≤ maxLen → css.length = kids.length →
    (∀ i (h : i < kids.length) (h' : i < css.length), TreeIs F w css[i] kids[i]) → (0 < kids.length → ∃ b off, base = some ⟨b, off, none⟩ ∧ F b ∧ ∀ i (_ : i < kids.length) (h' : i < css.length), Rd w b (off + i * 3) css[i]) →
    TreeIs F w [.int .i64 p, .int .i64 k, .slice base kids.length cap] (.mk p k kids)
theorem TreeIs.len3 {F : Nat → Prop} {w : World} {cs : List Value} {t : Tree} (h : TreeIs F w cs t) : cs.length = 3 := by
  cases h; rfl
theorem TreeIs.stayed {F : Nat → Prop} {w w' : World} {cs : List Value} {t : Tree} (h : TreeIs F w cs t) (hk : ∀ k, F k → w'.heap[k]? = w.heap[k]?) : TreeIs F w' cs t := by
  induction h with
  | mk css h1 h2 h3 h4 h5 h6 h7 ih =>
    refine .mk css h1 h2 h3 h4 h5 ih fun hl => ?_
    obtain ⟨b, off, e, hF, hr⟩ := h7 hl
    exact ⟨b, off, e, hF, fun i hi hi' => rd_stay (hr i hi hi') (hk b hF)⟩
theorem TreeIs.mono {F F' : Nat → Prop} {w : World} {cs : List Value} {t : Tree} (h : TreeIs F w cs t) (hk : ∀ k, F k → F' k) : TreeIs F' w cs t := by
  induction h with
  | mk css h1 h2 h3 h4 h5 h6 h7 ih =>
    refine .mk css h1 h2 h3 h4 h5 ih fun hl => ?_
    obtain ⟨b, off, e, hF, hr⟩ := h7 hl
    exact ⟨b, off, e, hk b hF, hr⟩
def treeS : Shp Tree := ⟨3, TreeIs, fun h => h.len3, fun h hk => h.stayed hk, fun h hk => h.mono hk⟩
def treeV (p k : Int) (v : Value) : Value := .agg #[.int .i64 p, .int .i64 k, v]
/-- a tree that is a value -/
def TreeR (F : Nat → Prop) (w : World) (v : Value) (t : Tree) : Prop := ∃ vk, v = treeV t.prod t.tok vk ∧ kit.okI64 t.prod ∧ kit.okI64 t.tok ∧ SlF treeS F w vk t.kids
theorem TreeR.gr {w w' : World} {v : Value} {t : Tree} (h : TreeR (fun k => k < w.heap.size) w v t) (hg : Gr w w') : TreeR (fun k => k < w'.heap.size) w' v t :=
  let ⟨vk, h1, h2, h3, h4⟩ := h; ⟨vk, h1, h2, h3, h4.gr hg⟩
section
end
end Go.Proofs.Ytomkjjpdnmcnnaa.eng

/- Look -/
namespace Go.Proofs.Ytomkjjpdnmcnnaa.eng
open Go.RowKit kit mix gramL treeL factsL countL
theorem bits_andN {x y : Nat} (hx : x < 18446744073709551616) (hy : y < 18446744073709551616) : bits .and .u64 (x : Int) (y : Int) = ((x &&& y : Nat) : Int) := bits_and_u64_nat x y hx hy
end Go.Proofs.Ytomkjjpdnmcnnaa.eng


/- CountC -/
namespace Go.Proofs.Ytomkjjpdnmcnnaa.eng
open Go.RowKit kit mix gramL countL
/-- what a grammar's productions are like -/
def FineC (n : Nat) (l : List gramL.Prod) : Prop := ∀ p ∈ l, 0 ≤ p.1 ∧ p.1 < (n : Int) ∧ ∀ x ∈ p.2, kit.okI64 x.2
end Go.Proofs.Ytomkjjpdnmcnnaa.eng


/- CountD -/
namespace Go.Proofs.Ytomkjjpdnmcnnaa.eng
open Go.RowKit kit mix gramL countL
theorem fineC_of {g : Gram} {n : Nat} (h : checkG g = 0) (hn : g.nons = n) : FineC n g.prods ∧ NonsIn n g.prods := by
  obtain ⟨a1, a2, a3, a4, a5, a6⟩ := checkG_ok h
  refine ⟨fun p hp => ?_, fun p hp x hx h2 => ?_⟩
  · obtain ⟨b1, b2, b3, b4⟩ := a6 p hp
    refine ⟨b2, by omega, fun x hx => ?_⟩
    have := b4 x hx
    unfold right at this
    split at this
    · simp at this; exact ⟨by omega, by omega⟩
    · split at this
      · simp at this; exact ⟨by omega, by omega⟩
      · simp at this
  · have := (a6 p hp).2.2.2 x hx
    unfold right at this
    rw [if_neg (by omega), if_pos h2] at this
    simp at this; omega
end Go.Proofs.Ytomkjjpdnmcnnaa.eng


/- LlM -/
namespace Go.Proofs.Ytomkjjpdnmcnnaa.eng
open Go.RowKit kit mix gramL treeL countL factsL llL
attribute [local irreducible] Op.shift Go.bits in
theorem bit_calls (t : Nat) (n : Int) (vp : Value) (col : Nat) (w : World) (ht : t ≤ 30) (hc : col ≤ t) (hv : ∃ b m c, vp = .slice b m c) :
    Calls Try.prog 27 #[graV (t : Int) n vp, .int .i64 (col : Int)] w (Meets (ret (bitV (bitC t col))) w) := by
  obtain ⟨b, m, c, rfl⟩ := hv
  have hsh := fun w => shl1 (P := Try.prog) col (by omega) w
  unfold bitC
  refine enter (args := [graV (t : Int) n (.slice b m c), .int .i64 (col : Int)]) (n := 11) Try.func27 rfl rfl rfl ?_
  refine T_seq (T_region (TL_box rfl rfl rfl fun g2 => ?_))
  by_cases e : col = t
  · rw [if_pos e]
    repeat(first|refine QV QP ?_|refine QZ ?_|refine qcT rfl ?_|refine qcF rfl ?_|refine QV (rr_load1 TyC.ty rfl (at_blk (i := 0) rfl rfl)) ?_|refine QV QA ?_|refine QV QeT ?_|refine QV QeF ?_)
    exact E_ret1 rfl rfl fun w hm => hm.ret
  · rw [if_neg e]
    repeat(first|refine QV QP ?_|refine QZ ?_|refine qcT rfl ?_|refine qcF rfl ?_|refine QV (rr_load1 TyC.ty rfl (at_blk (i := 0) rfl rfl)) ?_|refine QV (rr_shl rfl rfl hsh) ?_|refine QV QA ?_|refine QV QeT ?_|refine QV QeF ?_)
    exact E_ret1 rfl rfl fun w hm => hm.ret
def clC (x : Cl) : List Value := [.int .i64 x.1, .int .i64 x.2.1, .int .i64 x.2.2.1, .int .i64 x.2.2.2]
theorem build_cl (a b c d : Int) (w : World) : (Instr.build 77 #[(0, .int .i64 a), (1, .int .i64 b), (2, .int .i64 c), (3, .int .i64 d)]).run Try.prog w = .ok (.agg (clC (a, b, c, d)).toArray) w := by
  unfold clC; go_simp
abbrev vals (v : Value) : Value := v
def intV (n : Int) : Value := .int .i64 n
/-- how far the rows are -/
def cntL (T n c j : Nat) : Nat := if j < n then T + 1 else if j = n then c else 0
def rowsF (l : List gramL.Prod) (may : Nat → Nat) (T : Nat) (vs : Nat → Value) (n c : Nat) (j : Nat) : Own := rowO 3 1 (vs j) (cntL T n c j) ((tabA (cntL T n c j) (llL.rowAt l may T j)).map intV)
def makeS (N T : Nat) (l : List gramL.Prod) (may : Nat → Nat) : Spec (Nat × (Nat → Value) × Value) :=
  ⟨fun _ => True, fun x => .tuple #[.slice (some ⟨x.1, 0, none⟩) N N, x.2.2, .int .i64 0], fun x => [rowA 61 vals x.1 N x.2.1, famP (fun j => j < N) (rowsF l may T x.2.1 N 0), rowO 77 4 x.2.2 (rowO' l may T N).length ((rowO' l may T N).flatMap clC)]⟩
def mayG (n : Nat) (l : List gramL.Prod) (i : Nat) : Nat := beginF (ofS n l).E (ofF n l) (prodAt l (i : Int)).2 ((ofW n l).getD (prodAt l (i : Int)).1.toNat 0)
section
variable {l : List gramL.Prod} {may : Nat → Nat} {T : Nat}
theorem outL_len (n col : Nat) : ∀ (k : Nat) (out : List Cl), (outL l may T n col k out).length ≤ out.length + k
  | 0, out => by rw [outL]; omega
  | k + 1, out => by
    have := outL_len n col k out
    rw [outL]
    split
    · split
      · omega
      · rw [List.length_append]; simp; omega
    · omega
theorem colO_len (n : Nat) : ∀ (c : Nat) (out : List Cl), (colO l may T n c out).length ≤ out.length + c * l.length
  | 0, out => by rw [colO]; omega
  | c + 1, out => by
    have h1 := colO_len n c out
    have h2 := outL_len (l := l) (may := may) (T := T) n c l.length (colO l may T n c out)
    rw [colO, Nat.succ_mul]; omega
theorem rowO_len : ∀ (N : Nat), (rowO' l may T N).length ≤ N * ((T + 1) * l.length)
  | 0 => by rw [rowO']; simp
  | N + 1 => by
    have h1 := rowO_len N
    have h2 := colO_len (l := l) (may := may) (T := T) N (T + 1) (rowO' l may T N)
    rw [rowO', Nat.succ_mul]; omega
end
theorem ofW_okW2 {g : Gram} {n : Nat} (hck : checkG g = 0) (hn : g.nons = n) : okW n (ofW n g.prods) := by
  obtain ⟨_, _, a3, _⟩ := checkG_ok hck
  have hf := fine_of hck hn
  have hF := (ofW_ok hck hn).2
  have hfl := fallsW (E := (ofS n g.prods).E) hF hf
  obtain ⟨s', h1, h2, h3⟩ := fix_end hfl _ ((List.replicate n 0).set 0 9223372036854775808) ⟨by simp, fun x hx => by
    rcases List.mem_or_eq_of_mem_set hx with h | h
    · rw [List.eq_of_mem_replicate h]; decide
    · rw [h]; decide⟩ (Nat.le_refl _)
  obtain ⟨_, h4, h5⟩ := passW_still _ _ _ h2
  have h6 : ofW n g.prods = s' := by unfold ofW setsW; rw [h3]; exact h4
  rw [h6]
  exact h1
attribute [local irreducible] Op.shift Go.bits Instr.build in
set_option maxRecDepth 100000 in
set_option maxHeartbeats 16000000 in
theorem llMake_calls (v : Value) (g : Gram) (w : World) (h : GraR (fun k => k < w.heap.size) w v g) (hg : checkG g = 0) (T N : Nat) (hT : g.terms = T) (hN : g.nons = N) :
    Calls Try.prog 8 #[v] w (Meets (makeS N T g.prods (mayG N g.prods)) w) := by
  obtain ⟨a1, a2, a3, a4, a5, a6⟩ := checkG_ok hg
  have hof := fun w' (hg' : Gr w w') => of_calls v g w' (h.gr hg') hg N hN
  have hbe : ∀ body : List Sym, body ∈ g.prods.map (·.2) → begE g body = 0 ∧ ∀ b, begV g body b = beginF (ofS N g.prods).E (ofF N g.prods) body b := fun body hb => by
    obtain ⟨p, hp, rfl⟩ := List.mem_map.1 hb
    obtain ⟨b1, b2, b3, b4⟩ := a6 p hp
    have e : begE g p.2 = 0 := by
      unfold begE
      rw [if_neg (by simpa using hg), if_neg (by omega)]
      exact badE_of b4
    refine ⟨e, fun b => ?_⟩
    unfold begV
    rw [if_pos e, show g.nons.toNat = N by omega]
  have hBg := fun vb body b w' (hg : Gr w w') hs => factsBegin_calls v vb g body b w' (h.gr hg) hs
  obtain ⟨_, hF⟩ := ofW_ok hg hN
  have hWW := ofW_okW2 hg hN
  have hfi := fineC_of hg hN
  have hmay : mayG N g.prods = fun i : Nat => beginF (ofS N g.prods).E (ofF N g.prods) (prodAt g.prods (i : Int)).2 ((ofW N g.prods).getD (prodAt g.prods (i : Int)).1.toNat 0) := rfl
  have hmlt : ∀ i, mayG N g.prods i < 18446744073709551616 := fun i => by
    refine beginF_lt hF (getD_lt hWW _) fun x hx h1 => ?_
    by_cases c : i < g.prods.length
    · rw [prodAt_get c] at hx
      have := (a6 _ (List.getElem_mem c)).2.2.2 x hx
      unfold right at this
      rw [if_pos h1] at this
      simp at this; omega
    · unfold prodAt at hx
      rw [Int.toNat_natCast, List.getD_eq_getElem?_getD, List.getElem?_eq_none (by omega)] at hx
      cases hx
  generalize hmm : mayG N g.prods = may at *
  obtain ⟨vp, rfl, h1, _⟩ := h
  obtain ⟨t, nn, prods⟩ := g
  dsimp only at *
  subst hT hN
  have h10 := h1
  obtain ⟨bp, cp, rfl, hcp, hmp, hrp⟩ := h1
  unfold maxLen at hmp
  refine enter (args := [graV (T : Int) (N : Int) (.slice bp prods.length cp)]) (n := 119) Try.func8 rfl rfl rfl ?_
  refine T_seq (T_region (TL_box rfl rfl rfl fun g1 => ?_))
  conv=>arg 8;simp only[zA,zB,zC,zD,zE,zF,zG,zH,zI,rowS,ret,id_eq]
  repeat(first|refine QV QP ?_|refine QZ ?_|refine qcT rfl ?_|refine qcF rfl ?_|refine E_blockX ?_|refine E_blockO rfl ?_|refine qs rfl rfl rfl rfl rfl rfl ?_|((try refine qg rfl rfl rfl ?_);first|refine QV QP ?_|refine QV (rr_loadB (i := 0) TyC.ty rfl rfl rfl) ?_|refine QV QL ?_|refine QV QA ?_|refine QV QlT ?_|refine QV QlF ?_|refine QV QnT ?_|refine QV QnF ?_|refine QV QaA ?_|refine QV QeT ?_|refine QV QeF ?_))
  refine TL_call (he1 EntersC.en rfl rfl) (fun w' hm => (hof w' hm.below).mono fun e w2 h => meets_of h) rfl rfl rfl ?_
  intro x _
  conv=>arg 8;simp only[zA,zB,zC,zD,zE,zF,zG,zH,zI,rowS,ret,id_eq, Rows5.val]
  refine TL_pick [0, 3] (by decide) rfl ?_
  repeat(first|refine QV QP ?_|refine QZ ?_|refine qcT rfl ?_|refine qcF rfl ?_|refine E_blockX ?_|refine E_blockO rfl ?_|refine qs rfl rfl rfl rfl rfl rfl ?_|((try refine qg rfl rfl rfl ?_);first|refine QV QP ?_|refine QV QL ?_|refine QV QA ?_|refine QV QlT ?_|refine QV QlF ?_|refine QV QnT ?_|refine QV QnF ?_|refine QV QaA ?_|refine QV QeT ?_|refine QV QeF ?_))
  refine TL_new rfl fun g5 => ?_
  refine TL_storeB (i := 2) rfl rfl rfl rfl rfl rfl ?_
  conv=>arg 8;simp only[zA,zB,zC,zD,zE,zF,zG,zH,zI,rowS,ret,id_eq]
  repeat(first|refine QV QP ?_|refine QZ ?_|refine qcT rfl ?_|refine qcF rfl ?_|refine E_blockX ?_|refine E_blockO rfl ?_|refine qs rfl rfl rfl rfl rfl rfl ?_|((try refine qg rfl rfl rfl ?_);first|refine QV QP ?_|refine QV (rr_load1 TyC.ty rfl (at_blk (i := 0) rfl rfl)) ?_|refine QV QL ?_|refine QV QA ?_|refine QV QlT ?_|refine QV QlF ?_|refine QV QnT ?_|refine QV QnF ?_|refine QV QaA ?_|refine QV QeT ?_|refine QV QeF ?_))
  have hz : ZeroC Try.prog 70 #[bitV 0] := (inferInstance : ZeroC Try.prog 70 #[.int .u64 0])
  refine TL_makeA bitV 0 rfl rfl (by omega) (by omega) rfl fun g7 => ?_
  conv=>arg 8;simp only[zA,zB,zC,zD,zE,zF,zG,zH,zI,rowS,ret,id_eq]
  repeat(first|refine QV QP ?_|refine QZ ?_|refine qcT rfl ?_|refine qcF rfl ?_|refine E_blockX ?_|refine E_blockO rfl ?_|refine qs rfl rfl rfl rfl rfl rfl ?_|((try refine qg rfl rfl rfl ?_);first|refine QV QP ?_|refine QV (rr_load1 TyC.ty rfl (at_blk (i := 0) rfl rfl)) ?_|refine QV QL ?_|refine QV QA ?_|refine QV QlT ?_|refine QV QlF ?_|refine QV QnT ?_|refine QV QnF ?_|refine QV QaA ?_|refine QV QeT ?_|refine QV QeF ?_))
  refine T_loop (ι := Nat) (fun k => k ≤ prods.length) (fun k => [(1, .pointer (some ⟨g1, 0, none⟩)), (5, .pointer (some ⟨g5, 0, none⟩)), (7, .slice (some ⟨g7, 0, none⟩) prods.length prods.length), (30, .slice bp prods.length cp), (31, .int .i64 prods.length), (32, .int .i64 (k : Int))])
    (fun k => [blkO g1 (graV (T : Int) (N : Int) (.slice bp prods.length cp)).cells 24, rowNn N x.gW x.cW (ofW N prods), blkO g5 (facV (vRow N x.gE x.cE) (vRow N x.gF x.cF) (vRow N x.gW x.cW) (vRow N x.gR x.cR) (vRow N x.gM x.cM)).cells 34, rowA 70 bitV g7 prods.length (fun j => if j < k then may j else 0)]) (fun k => prods.length - k) 0 (Nat.zero_le _) (by repeat' (first | exact True.intro | refine And.intro rfl ?_)) (by rw [show (fun j => if j < 0 then may j else 0) = fun _ => 0 from funext fun j => if_neg (by omega)]; rfl) ?_
  intro k k1
  by_cases c7 : k < prods.length
  · obtain ⟨b, off, rfl, _, hr⟩ := hrp (by omega)
    obtain ⟨bb, cb, y1, y2, y3⟩ := prod_at hr c7
    have hat : ∀ (L : List Own) (j : Nat) (v : Value), ([.int .i64 prods[k].1, .slice bb prods[k].2.length cb] : List Value)[j]? = some v → At w L ⟨b, off + k * 2 + j, none⟩ v := fun L j v hj => at_old (y1 j v hj)
    have hfl := y3.flat (by decide)
    obtain ⟨b1, b2, b3, b4⟩ := a6 _ (List.getElem_mem c7)
    obtain ⟨hb1, hb2⟩ := hbe prods[k].2 (List.mem_map.2 ⟨_, List.getElem_mem c7, rfl⟩)
    have hmk : may k = beginF (ofS N prods).E (ofF N prods) prods[k].2 ((ofW N prods).getD prods[k].1.toNat 0) := by rw [hmay]; dsimp only; rw [prodAt_get c7]
    clear y1 y3 hr hbe hrp
    generalize prods[k] = pd at *
    obtain ⟨hd, body⟩ := pd
    dsimp only at *
    obtain ⟨hn, rfl⟩ : ∃ hn : Nat, hd = hn := ⟨hd.toNat, by omega⟩
    have hlt : hn < N := by omega
    rw [Int.toNat_natCast] at hmk
    have hWat : ((ofW N prods).map bitV)[0 + hn]? = some (bitV ((ofW N prods).getD hn 0)) := by rw [Nat.zero_add]; exact bit_at (by rw [hWW.1]; exact hlt)
    have hWlt := getD_lt hWW hn
    have hBg := fun w' hg hs => hBg (.slice bb body.length cb) body ((ofW N prods).getD hn 0) w' hg hs hWlt
    rw [hb1, hb2, ← hmk] at hBg
    generalize (ofW N prods).getD hn 0 = wv at *
    repeat(first|refine QV QP ?_|refine QZ ?_|refine qcT rfl ?_|refine qcF rfl ?_|refine E_blockX ?_|refine E_blockO rfl ?_|refine qs rfl rfl rfl rfl rfl rfl ?_|((try refine qg rfl rfl rfl ?_);first|refine QV QP ?_|refine QV (rr_idxc Und.eq TyC.ty rfl rfl c7) ?_|refine QV (rr_loadN TyC.ty rfl rfl (hat _)) ?_|refine QV QL ?_|refine QV QA ?_|refine QV QlT ?_|refine QV QlF ?_|refine QV QnT ?_|refine QV QnF ?_|refine QV QaA ?_|refine QV QeT ?_|refine QV QeF ?_))
    refine TL_new rfl fun g9 => ?_
    repeat(first|refine QV QP ?_|refine QZ ?_|refine qcT rfl ?_|refine qcF rfl ?_|refine E_blockX ?_|refine E_blockO rfl ?_|refine qs rfl rfl rfl rfl rfl rfl ?_|((try refine qg rfl rfl rfl ?_);first|refine QV QP ?_|refine QV QL ?_|refine QV QA ?_|refine QV QlT ?_|refine QV QlF ?_|refine QV QnT ?_|refine QV QnF ?_|refine QV QaA ?_|refine QV QeT ?_|refine QV QeF ?_))
    refine TL_storeB (i := 4) rfl rfl rfl rfl rfl rfl ?_
    conv=>arg 8;simp only[zA,zB,zC,zD,zE,zF,zG,zH,zI,rowS,ret,id_eq]
    repeat(first|refine QV QP ?_|refine QZ ?_|refine qcT rfl ?_|refine qcF rfl ?_|refine E_blockX ?_|refine E_blockO rfl ?_|refine qs rfl rfl rfl rfl rfl rfl ?_|((try refine qg rfl rfl rfl ?_);first|refine QV QP ?_|refine QV QL ?_|refine QV QA ?_|refine QV QlT ?_|refine QV QlF ?_|refine QV QnT ?_|refine QV QnF ?_|refine QV QaA ?_|refine QV QeT ?_|refine QV QeF ?_))
    refine T_ord ([blkO g1 (graV (T : Int) (N : Int) (.slice (some ⟨b, off, none⟩) prods.length cp)).cells 24, rowNn N x.gW x.cW (ofW N prods), blkO g5 (facV (vRow N x.gE x.cE) (vRow N x.gF x.cF) (vRow N x.gW x.cW) (vRow N x.gR x.cR) (vRow N x.gM x.cM)).cells 34, blkO g9 #[.int .i64 (hn : Int), .slice bb body.length cb] 57]) (.calm 0 (.calm 1 (.calm 2 (.calm 3 (.calm 4 (.calm 5 (.calm 6 (.calm 7 (.calm 8 (.calm 9 (.calm 10 (.calm 11 (.calm 12 (.calm 13 (.calm 14 (.calm 15 (.one 16 (.done)))))))))))))))))) (sub_pick [0, 1, 2, 4] (by decide) rfl) (by kernel_rfl) (by kernel_rfl) (by intro c a d v w h; cases d <;> exact h) ?_
    repeat(first|((first|refine TW_plain rfl rfl ?_|refine TW_gmet rfl rfl rfl rfl ?_);first|refine QW QP ?_|refine QW (rr_loadB (i := 0) TyC.ty rfl rfl rfl) ?_|refine QW (rr_load1 TyC.ty rfl (at_blk (i := 3) rfl rfl)) ?_|refine QW (rr_load1 TyC.ty rfl (at_blk (i := 2) rfl rfl)) ?_|refine QW (rr_idx1 Und.eq TyC.ty rfl rfl hlt) ?_|refine QW (rr_load1 TyC.ty rfl (at_row (i := 1) rfl hWat)) ?_|refine QW QL ?_|refine QW QA ?_|refine QW QlT ?_|refine QW QlF ?_|refine QW QnT ?_|refine QW QnF ?_|refine QW QaA ?_|refine QW QeT ?_|refine QW QeF ?_)|refine TW_skip rfl rfl rfl rfl rfl rfl rfl ?_|refine TW_done ?_)
    refine TW_call rfl (he3 EntersC.en rfl rfl rfl rfl) (fun w hm => hBg _ hm.below (hfl.gr hm.below)) rfl rfl rfl ?_
    repeat(first|((first|refine TW_plain rfl rfl ?_|refine TW_gmet rfl rfl rfl rfl ?_);first|refine QW QP ?_|refine QW (rr_idx1 Und.eq TyC.ty rfl rfl c7) ?_|refine QW QL ?_|refine QW QA ?_|refine QW QlT ?_|refine QW QlF ?_|refine QW QnT ?_|refine QW QnF ?_|refine QW QaA ?_|refine QW QeT ?_|refine QW QeF ?_)|refine TW_skip rfl rfl rfl rfl rfl rfl rfl ?_|refine TW_done ?_)
    refine TW_one rfl ?_
    refine TL_storeA (i := 3) (v := may k) (fun j => if j < k + 1 then may j else 0) TyC.ty rfl rfl rfl rfl rfl c7 (fun j _ => by
      by_cases e : j = k
      · subst e; simp
      · by_cases e2 : j < k
        · simp [e, e2, show j < k + 1 by omega]
        · simp [e, e2, show ¬ j < k + 1 by omega]) ?_
    conv=>arg 8;simp only[zA,zB,zC,zD,zE,zF,zG,zH,zI,rowS,ret,id_eq]
    refine TW_on (sub_pick [0, 1, 2, 4] (by decide) rfl) ?_
    repeat(first|((first|refine TW_plain rfl rfl ?_|refine TW_gmet rfl rfl rfl rfl ?_);first|refine QW QP ?_|refine QW QL ?_|refine QW QA ?_|refine QW QlT ?_|refine QW QlF ?_|refine QW QnT ?_|refine QW QnF ?_|refine QW QaA ?_|refine QW QeT ?_|refine QW QeF ?_)|refine TW_skip rfl rfl rfl rfl rfl rfl rfl ?_|refine TW_done ?_)
    repeat(first|refine QV QP ?_|refine QZ ?_|refine qcT rfl ?_|refine qcF rfl ?_|refine E_blockX ?_|refine E_blockO rfl ?_|refine qs rfl rfl rfl rfl rfl rfl ?_|((try refine qg rfl rfl rfl ?_);first|refine QV QP ?_|refine QV QL ?_|refine QV QA ?_|refine QV QlT ?_|refine QV QlF ?_|refine QV QnT ?_|refine QV QnF ?_|refine QV QaA ?_|refine QV QeT ?_|refine QV QeF ?_))
    refine E_pick [0, 1, 2, 3] (by decide) rfl ?_
    exact E_round (k + 1) (by omega) (by omega) (by repeat' (first | exact True.intro | refine And.intro rfl ?_)) rfl
  · obtain rfl : k = prods.length := by omega
    rw [show rowA 70 bitV g7 prods.length (fun j => if j < prods.length then may j else 0) = rowA 70 bitV g7 prods.length may from rowA_congr fun j hj => if_pos hj]
    clear hBg hbe hof hmay
    repeat(first|refine QV QP ?_|refine QZ ?_|refine qcT rfl ?_|refine qcF rfl ?_|refine E_blockX ?_|refine E_blockO rfl ?_|refine qs rfl rfl rfl rfl rfl rfl ?_|((try refine qg rfl rfl rfl ?_);first|refine QV QP ?_|refine QV (rr_load1 TyC.ty rfl (at_blk (i := 0) rfl rfl)) ?_|refine QV QL ?_|refine QV QA ?_|refine QV QlT ?_|refine QV QlF ?_|refine QV QnT ?_|refine QV QnF ?_|refine QV QaA ?_|refine QV QeT ?_|refine QV QeF ?_))
    refine TL_makeA vals (.slice none 0 0) rfl rfl (by omega) (by omega) rfl fun g10 => ?_
    conv=>arg 8;simp only[zA,zB,zC,zD,zE,zF,zG,zH,zI,rowS,ret,id_eq]
    repeat(first|refine QV QP ?_|refine QZ ?_|refine qcT rfl ?_|refine qcF rfl ?_|refine E_blockX ?_|refine E_blockO rfl ?_|refine qs rfl rfl rfl rfl rfl rfl ?_|((try refine qg rfl rfl rfl ?_);first|refine QV QP ?_|refine QV QL ?_|refine QV QA ?_|refine QV QlT ?_|refine QV QlF ?_|refine QV QnT ?_|refine QV QnF ?_|refine QV QaA ?_|refine QV QeT ?_|refine QV QeF ?_))
    refine T_pick [0, 3, 4] (by decide) rfl ?_
    refine T_extra (famP (fun j => j < N) (rowsF prods may T (fun _ => .slice none 0 0) 0 0)) (fun k hk => hk.elim (fun h => by cases h) fun ⟨i, hi, h⟩ => h.elim (fun h => by cases h) id) (fun w => ⟨fun i hi => ?_, fun i j _ _ _ k h => h.elim (fun h => by cases h) False.elim⟩) ?_
    · unfold rowsF cntL
      rw [if_neg (by omega), ite_self]
      exact World.ownsRow_nil _ _ _ _
    refine T_nil 77 4 ?_
    refine T_loop (ι := Nat × (Nat → Value) × Value) (fun (n, _, _) => n ≤ N) (fun (n, _, vo) => [(1, .pointer (some ⟨g1, 0, none⟩)), (7, .slice (some ⟨g7, 0, none⟩) prods.length prods.length), (10, .slice (some ⟨g10, 0, none⟩) N N), (11, vo), (58, .int .i64 (N : Int)), (59, .int .i64 (n : Int))])
      (fun (n, vs, vo) => [blkO g1 (graV (T : Int) (N : Int) (.slice bp prods.length cp)).cells 24, rowA 70 bitV g7 prods.length may, rowA 61 vals g10 N vs, famP (fun j => j < N) (rowsF prods may T vs n 0), rowO 77 4 vo (rowO' prods may T n).length ((rowO' prods may T n).flatMap clC)]) (fun (n, _, _) => N - n) (0, fun _ => .slice none 0 0, .slice none 0 0) (Nat.zero_le _) (by repeat' (first | exact True.intro | refine And.intro rfl ?_)) rfl ?_
    rintro ⟨n, vs, vo⟩ n1
    dsimp only at n1 ⊢
    by_cases c8 : n < N
    · repeat(first|refine QV QP ?_|refine QZ ?_|refine qcT rfl ?_|refine qcF rfl ?_|refine E_blockX ?_|refine E_blockO rfl ?_|refine qs rfl rfl rfl rfl rfl rfl ?_|((try refine qg rfl rfl rfl ?_);first|refine QV QP ?_|refine QV (rr_load1 TyC.ty rfl (at_blk (i := 0) rfl rfl)) ?_|refine QV (rr_add64 (r := ((T + 1 : Nat) : Int)) rfl rfl (by omega) (by omega) (by omega)) ?_|refine QV QL ?_|refine QV QA ?_|refine QV QlT ?_|refine QV QlF ?_|refine QV QnT ?_|refine QV QnF ?_|refine QV QaA ?_|refine QV QeT ?_|refine QV QeF ?_))
      refine T_loop (ι := Nat × (Nat → Value) × Value) (fun (c, _, _) => c ≤ T + 1) (fun (c, _, vo) => [(1, .pointer (some ⟨g1, 0, none⟩)), (7, .slice (some ⟨g7, 0, none⟩) prods.length prods.length), (10, .slice (some ⟨g10, 0, none⟩) N N), (11, vo), (12, .int .i64 (n : Int)), (58, .int .i64 (N : Int)), (59, .int .i64 (n : Int)), (64, .int .i64 ((T + 1 : Nat) : Int)), (65, .int .i64 (c : Int))])
        (fun (c, vs, vo) => [blkO g1 (graV (T : Int) (N : Int) (.slice bp prods.length cp)).cells 24, rowA 70 bitV g7 prods.length may, rowA 61 vals g10 N vs, famP (fun j => j < N) (rowsF prods may T vs n c), rowO 77 4 vo (colO prods may T n c (rowO' prods may T n)).length ((colO prods may T n c (rowO' prods may T n)).flatMap clC)]) (fun (c, _, _) => T + 1 - c) (0, vs, vo) (Nat.zero_le _) (by repeat' (first | exact True.intro | refine And.intro rfl ?_)) rfl ?_
      rintro ⟨c, vs, vo⟩ cc
      dsimp only at cc ⊢
      by_cases c9 : c < T + 1
      · have hlen0 := colO_len (l := prods) (may := may) (T := T) n c (rowO' prods may T n)
        have hlen1 := rowO_len (l := prods) (may := may) (T := T) n
        have hm1 : c * prods.length ≤ 31 * 40 := Nat.mul_le_mul (by omega) a5
        have hm2 : (T + 1) * prods.length ≤ 31 * 40 := Nat.mul_le_mul (by omega) a5
        have hm3 : n * ((T + 1) * prods.length) ≤ 20 * (31 * 40) := Nat.mul_le_mul (by omega) hm2
        have hr27 : rowO' prods may T (n + 1) = colO prods may T n (T + 1) (rowO' prods may T n) := rfl
        have hc27 : colO prods may T n (c + 1) (rowO' prods may T n) = outL prods may T n c prods.length (colO prods may T n c (rowO' prods may T n)) := rfl
        have hbc : bitC T c < 18446744073709551616 := by
          unfold bitC
          split
          · decide
          · exact Nat.lt_of_le_of_lt (Nat.pow_le_pow_right (by decide) (show c ≤ 30 by omega)) (by decide)
        have hbit := fun w => bit_calls T (N : Int) (.slice bp prods.length cp) c w (by omega) (by omega) ⟨_, _, _, rfl⟩
        generalize colO prods may T n c (rowO' prods may T n) = out0 at *
        repeat(first|refine QV QP ?_|refine QZ ?_|refine qcT rfl ?_|refine qcF rfl ?_|refine E_blockX ?_|refine E_blockO rfl ?_|refine qs rfl rfl rfl rfl rfl rfl ?_|((try refine qg rfl rfl rfl ?_);first|refine QV QP ?_|refine QV (rr_load1 TyC.ty rfl (at_blk (i := 0) rfl rfl)) ?_|refine QV QL ?_|refine QV QA ?_|refine QV QlT ?_|refine QV QlF ?_|refine QV QnT ?_|refine QV QnF ?_|refine QV QaA ?_|refine QV QeT ?_|refine QV QeF ?_))
        refine T_loop (ι := Nat × Value) (fun (k, _) => k ≤ prods.length) (fun (k, vo) => [(1, .pointer (some ⟨g1, 0, none⟩)), (7, .slice (some ⟨g7, 0, none⟩) prods.length prods.length), (10, .slice (some ⟨g10, 0, none⟩) N N), (11, vo), (12, .int .i64 (n : Int)), (13, .int .i64 (c : Int)), (14, .int .i64 (firstL prods may T n c k)), (58, .int .i64 (N : Int)), (59, .int .i64 (n : Int)), (64, .int .i64 ((T + 1 : Nat) : Int)), (65, .int .i64 (c : Int)), (69, .slice bp prods.length cp), (70, .int .i64 prods.length), (71, .int .i64 (k : Int))])
          (fun (k, vo) => [blkO g1 (graV (T : Int) (N : Int) (.slice bp prods.length cp)).cells 24, rowA 70 bitV g7 prods.length may, rowA 61 vals g10 N vs, famP (fun j => j < N) (rowsF prods may T vs n c), rowO 77 4 vo (outL prods may T n c k out0).length ((outL prods may T n c k out0).flatMap clC)]) (fun (k, _) => prods.length - k) (0, vo) (Nat.zero_le _) (by repeat' (first | exact True.intro | refine And.intro rfl ?_)) rfl ?_
        rintro ⟨k, vo⟩ kk
        dsimp only at kk ⊢
        by_cases ck : k < prods.length
        · obtain ⟨b, off, rfl, _, hr⟩ := hrp (by omega)
          obtain ⟨bb, cb, y1, y2, y3⟩ := prod_at hr ck
          have hat : ∀ (L : List Own) (j : Nat) (v : Value), ([.int .i64 prods[k].1, .slice bb prods[k].2.length cb] : List Value)[j]? = some v → At w L ⟨b, off + k * 2 + j, none⟩ v := fun L j v hj => at_old (y1 j v hj)
          have hol := outL_len (l := prods) (may := may) (T := T) n c k out0
          have hf : firstL prods may T n c (k + 1) = if firstL prods may T n c k < 0 then (if candL prods may T n c k = true then (k : Int) else firstL prods may T n c k) else firstL prods may T n c k := rfl
          have ho : outL prods may T n c (k + 1) out0 = if candL prods may T n c k = true then (if firstL prods may T n c k < 0 then outL prods may T n c k out0 else outL prods may T n c k out0 ++ [((n : Int), (c : Int), firstL prods may T n c k, (k : Int))]) else outL prods may T n c k out0 := rfl
          have hcd : candL prods may T n c k = (decide (prods[k].1 = (n : Int)) && !decide ((may k &&& bitC T c) = 0)) := by unfold candL; rw [prodAt_get ck]
          have hand := bits_andN (hmlt k) hbc
          have hfk := first_ge (l := prods) (may := may) (T := T) n c k
          clear y1 y3 hr hrp
          generalize prods[k] = pd at *
          obtain ⟨hd, body⟩ := pd
          dsimp only at *
          generalize hzz : may k &&& bitC T c = z at *
          generalize firstL prods may T n c k = fk at *
          generalize outL prods may T n c k out0 = ok at *
          repeat(first|refine QV QP ?_|refine QZ ?_|refine qcT rfl ?_|refine qcF rfl ?_|refine E_blockX ?_|refine E_blockO rfl ?_|refine qs rfl rfl rfl rfl rfl rfl ?_|((try refine qg rfl rfl rfl ?_);first|refine QV QP ?_|refine QV (rr_idxc Und.eq TyC.ty rfl rfl ck) ?_|refine QV (rr_loadN TyC.ty rfl rfl (hat _)) ?_|refine QV QL ?_|refine QV QA ?_|refine QV QlT ?_|refine QV QlF ?_|refine QV QnT ?_|refine QV QnF ?_|refine QV QaA ?_|refine QV QeT ?_|refine QV QeF ?_))
          refine TL_new rfl fun g16 => ?_
          repeat(first|refine QV QP ?_|refine QZ ?_|refine qcT rfl ?_|refine qcF rfl ?_|refine E_blockX ?_|refine E_blockO rfl ?_|refine qs rfl rfl rfl rfl rfl rfl ?_|((try refine qg rfl rfl rfl ?_);first|refine QV QP ?_|refine QV QL ?_|refine QV QA ?_|refine QV QlT ?_|refine QV QlF ?_|refine QV QnT ?_|refine QV QnF ?_|refine QV QaA ?_|refine QV QeT ?_|refine QV QeF ?_))
          refine TL_storeB (i := 5) rfl rfl rfl rfl rfl rfl ?_
          conv=>arg 8;simp only[zA,zB,zC,zD,zE,zF,zG,zH,zI,rowS,ret,id_eq]
          repeat(first|refine QV QP ?_|refine QZ ?_|refine qcT rfl ?_|refine qcF rfl ?_|refine E_blockX ?_|refine E_blockO rfl ?_|refine qs rfl rfl rfl rfl rfl rfl ?_|((try refine qg rfl rfl rfl ?_);first|refine QV QP ?_|refine QV QL ?_|refine QV QA ?_|refine QV QlT ?_|refine QV QlF ?_|refine QV QnT ?_|refine QV QnF ?_|refine QV QaA ?_|refine QV QeT ?_|refine QV QeF ?_))
          refine T_ord ([blkO g1 (graV (T : Int) (N : Int) (.slice (some ⟨b, off, none⟩) prods.length cp)).cells 24, rowA 70 bitV g7 prods.length may, blkO g16 #[.int .i64 hd, .slice bb body.length cb] 57]) (.calm 0 (.calm 1 (.calm 2 (.calm 3 (.calm 4 (.calm 5 (.calm 6 (.calm 7 (.calm 8 (.calm 9 (.calm 10 (.calm 11 (.calm 12 (.calm 13 (.calm 14 (.calm 15 (.done))))))))))))))))) (sub_pick [0, 1, 5] (by decide) rfl) (by kernel_rfl) (by kernel_rfl) (by intro c a d v w h; cases d <;> exact h) ?_
          by_cases e1 : hd = (n : Int)
          · by_cases e2 : z = 0
            · rw [decide_eq_true e1, decide_eq_true e2] at hcd
              rw [hcd] at hf ho
              simp only [Bool.not_true, Bool.and_false, Bool.false_eq_true, if_false, ite_self] at hf ho
              repeat(first|((first|refine TW_plain rfl rfl ?_|refine TW_gmet rfl rfl rfl rfl ?_);first|refine QW QP ?_|refine QW (rr_load1 TyC.ty rfl (at_blk (i := 2) rfl rfl)) ?_|refine QW (rr_idx1 Und.eq TyC.ty rfl rfl ck) ?_|refine QW (rr_load1 TyC.ty rfl (at_rowA (i := 1) rfl ck)) ?_|refine QW (rr_loadB (i := 0) TyC.ty rfl rfl rfl) ?_|refine QW QL ?_|refine QW QA ?_|refine QW QlT ?_|refine QW QlF ?_|refine QW QnT ?_|refine QW QnF ?_|refine QW QaA ?_|refine QW QeT ?_|refine QW QeF ?_)|refine TW_skip rfl rfl rfl rfl rfl rfl rfl ?_|refine TW_done ?_)
              refine TW_gcall rfl (he2 EntersC.en rfl rfl rfl) (fun w hm => hbit _) rfl rfl rfl rfl rfl ?_
              repeat(first|((first|refine TW_plain rfl rfl ?_|refine TW_gmet rfl rfl rfl rfl ?_);first|refine QW QP ?_|refine QW QL ?_|refine QW QA ?_|refine QW QlT ?_|refine QW QlF ?_|refine QW QnT ?_|refine QW QnF ?_|refine QW QaA ?_|refine QW (rr_and rfl rfl hand) ?_|refine QW QeT ?_|refine QW QeF ?_)|refine TW_skip rfl rfl rfl rfl rfl rfl rfl ?_|refine TW_done ?_)
              repeat(first|refine QV QP ?_|refine QZ ?_|refine qcT rfl ?_|refine qcF rfl ?_|refine E_blockX ?_|refine E_blockO rfl ?_|refine qs rfl rfl rfl rfl rfl rfl ?_|((try refine qg rfl rfl rfl ?_);first|refine QV QP ?_|refine QV QL ?_|refine QV QA ?_|refine QV QlT ?_|refine QV QlF ?_|refine QV QnT ?_|refine QV QnF ?_|refine QV QaA ?_|refine QV QeT ?_|refine QV QeF ?_))
              refine E_pick [0, 1, 2, 3, 4] (by decide) rfl ?_
              exact E_round (k + 1, vo) (by show k + 1 ≤ prods.length; omega) (by show prods.length - (k + 1) < prods.length - k; omega) (by dsimp only; rw [hf]; repeat' (first | exact True.intro | refine And.intro rfl ?_)) (by dsimp only; rw [ho]; rfl)
            · rw [decide_eq_true e1, decide_eq_false e2] at hcd
              rw [hcd] at hf ho
              simp only [Bool.not_false, Bool.and_true, if_true] at hf ho
              repeat(first|((first|refine TW_plain rfl rfl ?_|refine TW_gmet rfl rfl rfl rfl ?_);first|refine QW QP ?_|refine QW (rr_load1 TyC.ty rfl (at_blk (i := 2) rfl rfl)) ?_|refine QW (rr_idx1 Und.eq TyC.ty rfl rfl ck) ?_|refine QW (rr_load1 TyC.ty rfl (at_rowA (i := 1) rfl ck)) ?_|refine QW (rr_loadB (i := 0) TyC.ty rfl rfl rfl) ?_|refine QW QL ?_|refine QW QA ?_|refine QW QlT ?_|refine QW QlF ?_|refine QW QnT ?_|refine QW QnF ?_|refine QW QaA ?_|refine QW QeT ?_|refine QW QeF ?_)|refine TW_skip rfl rfl rfl rfl rfl rfl rfl ?_|refine TW_done ?_)
              refine TW_gcall rfl (he2 EntersC.en rfl rfl rfl) (fun w hm => hbit _) rfl rfl rfl rfl rfl ?_
              repeat(first|((first|refine TW_plain rfl rfl ?_|refine TW_gmet rfl rfl rfl rfl ?_);first|refine QW QP ?_|refine QW QL ?_|refine QW QA ?_|refine QW QlT ?_|refine QW QlF ?_|refine QW QnT ?_|refine QW QnF ?_|refine QW QaA ?_|refine QW (rr_and rfl rfl hand) ?_|refine QW QeT ?_|refine QW QeF ?_)|refine TW_skip rfl rfl rfl rfl rfl rfl rfl ?_|refine TW_done ?_)
              by_cases e3 : fk < 0
              · rw [if_pos e3] at hf ho
                repeat(first|refine QV QP ?_|refine QZ ?_|refine qcT rfl ?_|refine qcF rfl ?_|refine E_blockX ?_|refine E_blockO rfl ?_|refine qs rfl rfl rfl rfl rfl rfl ?_|((try refine qg rfl rfl rfl ?_);first|refine QV QP ?_|refine QV QL ?_|refine QV QA ?_|refine QV QlT ?_|refine QV QlF ?_|refine QV QnT ?_|refine QV QnF ?_|refine QV QaA ?_|refine QV QeT ?_|refine QV QeF ?_))
                refine E_pick [0, 1, 2, 3, 4] (by decide) rfl ?_
                exact E_round (k + 1, vo) (by show k + 1 ≤ prods.length; omega) (by show prods.length - (k + 1) < prods.length - k; omega) (by dsimp only; rw [hf]; repeat' (first | exact True.intro | refine And.intro rfl ?_)) (by dsimp only; rw [ho]; rfl)
              · rw [if_neg e3] at hf ho
                repeat(first|refine QV QP ?_|refine QZ ?_|refine qcT rfl ?_|refine qcF rfl ?_|refine E_blockX ?_|refine E_blockO rfl ?_|refine qs rfl rfl rfl rfl rfl rfl ?_|((try refine qg rfl rfl rfl ?_);first|refine QV QP ?_|refine QV (rr_build rfl (build_cl _ _ _ _)) ?_|refine QV QL ?_|refine QV QA ?_|refine QV QlT ?_|refine QV QlF ?_|refine QV QnT ?_|refine QV QnF ?_|refine QV QaA ?_|refine QV QeT ?_|refine QV QeF ?_))
                refine TL_pushN (i := 4) rfl rfl rfl rfl rfl rfl rfl (fun z h => by cases h; rfl) (by omega) (by omega) rfl fun z' v2 => ?_
                conv=>arg 8;simp only[zA,zB,zC,zD,zE,zF,zG,zH,zI,rowS,ret,id_eq]
                repeat(first|refine QV QP ?_|refine QZ ?_|refine qcT rfl ?_|refine qcF rfl ?_|refine E_blockX ?_|refine E_blockO rfl ?_|refine qs rfl rfl rfl rfl rfl rfl ?_|((try refine qg rfl rfl rfl ?_);first|refine QV QP ?_|refine QV QL ?_|refine QV QA ?_|refine QV QlT ?_|refine QV QlF ?_|refine QV QnT ?_|refine QV QnF ?_|refine QV QaA ?_|refine QV QeT ?_|refine QV QeF ?_))
                refine E_pick [0, 1, 2, 3, 4] (by decide) rfl ?_
                exact E_round (k + 1, v2) (by show k + 1 ≤ prods.length; omega) (by show prods.length - (k + 1) < prods.length - k; omega) (by dsimp only; rw [hf]; repeat' (first | exact True.intro | refine And.intro rfl ?_)) (by dsimp only; rw [ho, List.flatMap_append, List.length_append]; rfl)
          · rw [decide_eq_false e1] at hcd
            rw [hcd] at hf ho
            simp only [Bool.false_and, Bool.false_eq_true, if_false, ite_self] at hf ho
            repeat(first|((first|refine TW_plain rfl rfl ?_|refine TW_gmet rfl rfl rfl rfl ?_);first|refine QW QP ?_|refine QW (rr_load1 TyC.ty rfl (at_blk (i := 2) rfl rfl)) ?_|refine QW QL ?_|refine QW QA ?_|refine QW QlT ?_|refine QW QlF ?_|refine QW QnT ?_|refine QW QnF ?_|refine QW QaA ?_|refine QW QeT ?_|refine QW QeF ?_)|refine TW_skip rfl rfl rfl rfl rfl rfl rfl ?_|refine TW_done ?_)
            repeat(first|refine QV QP ?_|refine QZ ?_|refine qcT rfl ?_|refine qcF rfl ?_|refine E_blockX ?_|refine E_blockO rfl ?_|refine qs rfl rfl rfl rfl rfl rfl ?_|((try refine qg rfl rfl rfl ?_);first|refine QV QP ?_|refine QV QL ?_|refine QV QA ?_|refine QV QlT ?_|refine QV QlF ?_|refine QV QnT ?_|refine QV QnF ?_|refine QV QaA ?_|refine QV QeT ?_|refine QV QeF ?_))
            refine E_pick [0, 1, 2, 3, 4] (by decide) rfl ?_
            exact E_round (k + 1, vo) (by show k + 1 ≤ prods.length; omega) (by show prods.length - (k + 1) < prods.length - k; omega) (by dsimp only; rw [hf]; repeat' (first | exact True.intro | refine And.intro rfl ?_)) (by dsimp only; rw [ho]; rfl)
        · obtain rfl : k = prods.length := by omega
          rw [← hc27]
          have hra : firstL prods may T n c prods.length = llL.rowAt prods may T n c := rfl
          rw [hra]
          clear hc27 hr27 hra
          have hcn : rowsF prods may T vs n c n = rowO 3 1 (vs n) c ((tabA c (llL.rowAt prods may T n)).map intV) := by
            unfold rowsF cntL
            rw [if_neg (Nat.lt_irrefl n), if_pos rfl]
          repeat(first|refine QV QP ?_|refine QZ ?_|refine qcT rfl ?_|refine qcF rfl ?_|refine E_blockX ?_|refine E_blockO rfl ?_|refine qs rfl rfl rfl rfl rfl rfl ?_|((try refine qg rfl rfl rfl ?_);first|refine QV QP ?_|refine QV (rr_idx1 Und.eq TyC.ty rfl rfl c8) ?_|refine QV (rr_load1 TyC.ty rfl (at_rowA (i := 2) rfl c8)) ?_|refine QV QL ?_|refine QV QA ?_|refine QV QlT ?_|refine QV QlF ?_|refine QV QnT ?_|refine QV QnF ?_|refine QV QaA ?_|refine QV QeT ?_|refine QV QeF ?_))
          refine TL_take (q := 3) n rfl c8 ?_
          rw [hcn]
          conv=>arg 8;simp only[zA,zB,zC,zD,zE,zF,zG,zH,zI,rowS,ret,id_eq]
          refine TL_litV [.int .i64 (llL.rowAt prods may T n c)] rfl rfl rfl (by intro v hv; simp at hv; subst hv; rfl) rfl rfl fun g112 => ?_
          conv=>arg 8;simp only[zA,zB,zC,zD,zE,zF,zG,zH,zI,rowS,ret,id_eq]
          refine TL_app11 (i := 5) (q := 6) rfl rfl rfl rfl rfl rfl (by omega) (by omega) rfl fun v3 => ?_
          conv=>arg 8;simp only[zA,zB,zC,zD,zE,zF,zG,zH,zI,rowS,ret,id_eq]
          refine TL_slv (i := 5) rfl fun hv1 hv2 => ?_
          repeat(first|refine QV QP ?_|refine QZ ?_|refine qcT rfl ?_|refine qcF rfl ?_|refine E_blockX ?_|refine E_blockO rfl ?_|refine qs rfl rfl rfl rfl rfl rfl ?_|((try refine qg rfl rfl rfl ?_);first|refine QV QP ?_|refine QV (rr_idx1 Und.eq TyC.ty rfl rfl c8) ?_|refine QV QL ?_|refine QV QA ?_|refine QV QlT ?_|refine QV QlF ?_|refine QV QnT ?_|refine QV QnF ?_|refine QV QaA ?_|refine QV QeT ?_|refine QV QeF ?_))
          refine TL_storeA (i := 2) (v := v3) (fun j => if j = n then v3 else vs j) TyC.ty rfl rfl rfl hv1 hv2 c8 (fun j _ => rfl) ?_
          conv=>arg 8;simp only[zA,zB,zC,zD,zE,zF,zG,zH,zI,rowS,ret,id_eq]
          refine TL_put (D' := fun j => j < N) (f' := rowsF prods may T (fun j => if j = n then v3 else vs j) n (c + 1)) n 3 5 [0, 1, 2, 4] (by decide) rfl rfl rfl (fun h => h.2 rfl) (fun j hj => by
            by_cases e : j = n
            · exact .inr e
            · exact .inl ⟨hj, e⟩) (fun j hj => by
            by_cases e : j = n
            · subst e
              rw [upd_eq]
              unfold rowsF cntL
              rw [if_neg (Nat.lt_irrefl j), if_pos rfl]
              dsimp only
              rw [if_pos rfl]
              congr 1
              unfold tabA
              rw [List.range_succ, List.map_append, List.map_append]; rfl
            · rw [upd_ne e]
              have : cntL T n (c + 1) j = cntL T n c j := by unfold cntL; rw [if_neg e, if_neg e]
              unfold rowsF
              rw [this]
              dsimp only
              rw [if_neg e]) ?_
          conv=>arg 8;simp only[zA,zB,zC,zD,zE,zF,zG,zH,zI,rowS,ret,id_eq]
          refine TL_pick [0, 1, 2, 4, 3] (by decide) rfl ?_
          repeat(first|refine QV QP ?_|refine QZ ?_|refine qcT rfl ?_|refine qcF rfl ?_|refine E_blockX ?_|refine E_blockO rfl ?_|refine qs rfl rfl rfl rfl rfl rfl ?_|((try refine qg rfl rfl rfl ?_);first|refine QV QP ?_|refine QV QL ?_|refine QV QA ?_|refine QV QlT ?_|refine QV QlF ?_|refine QV QnT ?_|refine QV QnF ?_|refine QV QaA ?_|refine QV QeT ?_|refine QV QeF ?_))
          exact E_round (c + 1, fun j => if j = n then v3 else vs j, vo) (by show c + 1 ≤ T + 1; omega) (by show T + 1 - (c + 1) < T + 1 - c; omega) (by repeat' (first | exact True.intro | refine And.intro rfl ?_)) rfl
      · obtain rfl : c = T + 1 := by omega
        have hfun : rowsF prods may T vs n (T + 1) = rowsF prods may T vs (n + 1) 0 := funext fun j => by
          have : cntL T n (T + 1) j = cntL T (n + 1) 0 j := by
            unfold cntL
            by_cases e : j < n
            · rw [if_pos e, if_pos (by omega)]
            · rw [if_neg e]
              by_cases e2 : j = n
              · rw [if_pos e2, if_pos (by omega)]
              · rw [if_neg e2, if_neg (by omega), ite_self]
          unfold rowsF
          rw [this]
        repeat(first|refine QV QP ?_|refine QZ ?_|refine qcT rfl ?_|refine qcF rfl ?_|refine E_blockX ?_|refine E_blockO rfl ?_|refine qs rfl rfl rfl rfl rfl rfl ?_|((try refine qg rfl rfl rfl ?_);first|refine QV QP ?_|refine QV QL ?_|refine QV QA ?_|refine QV QlT ?_|refine QV QlF ?_|refine QV QnT ?_|refine QV QnF ?_|refine QV QaA ?_|refine QV QeT ?_|refine QV QeF ?_))
        exact E_round (n + 1, vs, vo) (by show n + 1 ≤ N; omega) (by show N - (n + 1) < N - n; omega) (by repeat' (first | exact True.intro | refine And.intro rfl ?_)) (by rw [hfun]; rfl)
    · obtain rfl : n = N := by omega
      repeat(first|refine QV QP ?_|refine QZ ?_|refine qcT rfl ?_|refine qcF rfl ?_|refine E_blockX ?_|refine E_blockO rfl ?_|refine qs rfl rfl rfl rfl rfl rfl ?_|((try refine qg rfl rfl rfl ?_);first|refine QV QP ?_|refine QV QL ?_|refine QV QA ?_|refine QV QlT ?_|refine QV QlF ?_|refine QV QnT ?_|refine QV QnF ?_|refine QV QaA ?_|refine QV QeT ?_|refine QV QeF ?_))
      exact E_ret3 rfl rfl rfl rfl fun w hm => hm.meets (S := makeS n T prods may) (g10, vs, vo) trivial [2, 3, 4] (by decide) rfl
end Go.Proofs.Ytomkjjpdnmcnnaa.eng


