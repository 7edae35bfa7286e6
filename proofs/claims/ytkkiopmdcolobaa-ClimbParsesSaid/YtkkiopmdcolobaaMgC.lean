/- Part 3 of what ClimbParses needs: ClimbL, App, Map, ClimbO, ClimbA, TdS, SymS, Gram, MixX, TreeS, TreeA. -/
import Derived.Test.YtkkiopmdcolobaaMgB
import Derived.WalkKit
import Derived.WalkSpells
import Derived.WalkLawsBesides
import Derived.Deep.RegionLaw
import Derived.Deep.AppendLies
import Derived.Deep.QuietTactic
import Derived.BigQuiet
import Derived.Deep.DeepCutAuto
import Derived.Lib.Hide
import Derived.Test.YtkkiopmdcolobaaRows
import Derived.ProofKit
import Derived.OpenShut
import Derived.ShutString
import Derived.SizedLaws
import Derived.JoinedCond
import Derived.Deep.CondSized
import Derived.Deep.Quiet
import Derived.StillTail
import Derived.Deep.LoopGhost
import Derived.Laws.BitsLemmas
import Derived.Laws.BytesString
import Derived.Test.YtkkiopmdcolobaaProg
import Derived.Laws.StructEq
import Derived.Laws.MakeOwn
import Derived.Laws.AppendOwn
import Derived.Laws.Entries
import Derived.Maps.OwnSet
import Derived.DeepKeys4
import Derived.WideKeyEntry
/- ClimbL -/
namespace Go.Proofs.Ytkkiopmdcolobaa.climbL
open gramL treeL countL factsL derL llL
inductive TD where
  | sym (x : Sym)
  | close (p : Int)
/-- the ends that are next go -/
def closesF : List TD → List Sym → Nat → List TD × List Sym × Nat × Bool
  | [], out, a => ([], out, a, true)
  | .sym x :: r, out, a => (.sym x :: r, out, a, true)
  | .close p :: r, out, a => if a + 1 ≤ 2000 then closesF r (out ++ [(3, p)]) (a + 1) else (r, out ++ [(3, p)], a + 1, false)
def opened (l : List gramL.Prod) (p : Int) (r : List TD) : List TD := (prodAt l p).2.map .sym ++ .close p :: r
def downF (l : List gramL.Prod) (nx : Int → Int) : Nat → List TD → List Sym → Nat → List TD × List Sym × Nat × Int
  | 0, st, out, a => (st, out, a, 14)
  | f + 1, st, out, a =>
    if (closesF st out a).2.2.2 = false then ((closesF st out a).1, (closesF st out a).2.1, (closesF st out a).2.2.1, 14) else
    match (closesF st out a).1 with
    | .sym x :: r =>
      if x.1 = 1 then ((closesF st out a).1, (closesF st out a).2.1, (closesF st out a).2.2.1, 0)
      else if nx x.2 < 0 then ((closesF st out a).1, (closesF st out a).2.1, (closesF st out a).2.2.1, 13)
      else if (closesF st out a).2.2.1 + 1 ≤ 2000 ∧ (opened l (nx x.2) r).length ≤ 60 then downF l nx f (opened l (nx x.2) r) ((closesF st out a).2.1 ++ [(1, nx x.2)]) ((closesF st out a).2.2.1 + 1)
      else (opened l (nx x.2) r, (closesF st out a).2.1 ++ [(1, nx x.2)], (closesF st out a).2.2.1 + 1, 14)
    | _ => ((closesF st out a).1, (closesF st out a).2.1, (closesF st out a).2.2.1, 0)
/-- one token: what goes wrong, what is ahead then, what is told -/
def pushF (l : List gramL.Prod) (nx : Int → Int) (st : List TD) (seen : Nat) (t : Int) : Int × List TD × List Sym :=
  match downF l nx 2001 st [] 0 with
  | (st1, out1, a1, e) =>
    if e ≠ 0 then (e, [], []) else
    match st1 with
    | .sym x :: r => if x.2 ≠ t then (13, [], []) else if a1 + 1 ≤ 2000 ∧ (closesF r (out1 ++ [(2, (seen : Int))]) (a1 + 1)).2.2.2 = true then (0, (closesF r (out1 ++ [(2, (seen : Int))]) (a1 + 1)).1, (closesF r (out1 ++ [(2, (seen : Int))]) (a1 + 1)).2.1) else (14, [], [])
    | _ => (13, [], [])
def endF (l : List gramL.Prod) (nx : Int → Int) (st : List TD) : Int × List Sym :=
  match downF l nx 2001 st [] 0 with
  | (st1, out1, _, e) => if e ≠ 0 then (e, []) else match st1 with | [] => (0, out1) | _ => (13, [])
def runF (l : List gramL.Prod) (nx : Int → Nat → Int) (T : Nat) : List Int → List TD → Nat → List Sym → List Sym × Nat × Int
  | [], st, a, out => (out ++ (endF l (fun n => nx n T) st).2, a, (endF l (fun n => nx n T) st).1)
  | t :: r, st, a, out =>
    if (pushF l (fun n => nx n t.toNat) st a t).1 ≠ 0 then (out, a, (pushF l (fun n => nx n t.toNat) st a t).1)
    else runF l nx T r (pushF l (fun n => nx n t.toNat) st a t).2.1 (a + 1) (out ++ (pushF l (fun n => nx n t.toNat) st a t).2.2)

/-! ### what is still to come: events, a word -/
inductive Rem (l : List gramL.Prod) (C : Int → Nat → Int → Prop) : List TD → Nat → List Sym → List Int → Prop
  | nil {u : Nat} : Rem l C [] u [] []
  | term {x : Sym} {st : List TD} {u : Nat} {E : List Sym} {w : List Int} (hx : x.1 = 1) (h : Rem l C st (u + 1) E w) : Rem l C (.sym x :: st) u ((2, (u : Int)) :: E) (x.2 :: w)
  | close {p : Int} {st : List TD} {u : Nat} {E : List Sym} {w : List Int} (h : Rem l C st u E w) : Rem l C (.close p :: st) u ((3, p) :: E) w
  | opn {x : Sym} {p : Int} {st : List TD} {u : Nat} {E : List Sym} {w : List Int} (hx : x.1 ≠ 1) (h0 : 0 ≤ p) (h1 : p < (l.length : Int)) (h2 : (prodAt l p).1 = x.2) (hc : C x.2 u p) (h : Rem l C (opened l p st) u E w) : Rem l C (.sym x :: st) u ((1, p) :: E) w
section
variable {l : List gramL.Prod} {C : Int → Nat → Int → Prop}
theorem closes_rem : ∀ {st : List TD} {out : List Sym} {a : Nat}, ∃ E1, (closesF st out a).2.1 = out ++ E1 ∧ ∀ {u E w}, Rem l C (closesF st out a).1 u E w → Rem l C st u (E1 ++ E) w
  | [], out, a => ⟨[], by simp [closesF], fun h => h⟩
  | .sym x :: r, out, a => ⟨[], by simp [closesF], fun h => h⟩
  | .close p :: r, out, a => by
    unfold closesF
    split
    · obtain ⟨E1, h1, h2⟩ := @closes_rem r (out ++ [(3, p)]) (a + 1)
      exact ⟨(3, p) :: E1, by rw [h1]; simp, fun h => .close (h2 h)⟩
    · exact ⟨[(3, p)], rfl, fun h => .close h⟩
theorem closes_det : ∀ {st : List TD} {out : List Sym} {a u : Nat} {E : List Sym} {w : List Int}, Rem l C st u E w → ∃ E1 E2, E = E1 ++ E2 ∧ (closesF st out a).2.1 = out ++ E1 ∧ Rem l C (closesF st out a).1 u E2 w
  | [], out, a, u, E, w, h => ⟨[], E, rfl, by simp [closesF], h⟩
  | .sym x :: r, out, a, u, E, w, h => ⟨[], E, rfl, by simp [closesF], h⟩
  | .close p :: r, out, a, u, E, w, h => by
    cases h with
    | close h =>
      unfold closesF
      split
      · obtain ⟨E1, E2, h1, h2, h3⟩ := closes_det (out := out ++ [(3, p)]) (a := a + 1) h
        exact ⟨(3, p) :: E1, E2, by rw [h1]; rfl, by rw [h2]; simp, h3⟩
      · exact ⟨[(3, p)], _, rfl, rfl, h⟩
/-- what is next behind the ends -/
theorem closes_top : ∀ {st : List TD} {out : List Sym} {a : Nat}, (closesF st out a).2.2.2 = true → (closesF st out a).1 = [] ∨ ∃ x r, (closesF st out a).1 = .sym x :: r
  | [], out, a, _ => .inl rfl
  | .sym x :: r, out, a, _ => .inr ⟨x, r, rfl⟩
  | .close p :: r, out, a, h => by
    unfold closesF at h ⊢
    split
    · rename_i c; rw [if_pos c] at h; exact closes_top h
    · rename_i c; rw [if_neg c] at h; cases h
theorem closes_len : ∀ {st : List TD} {out : List Sym} {a : Nat}, (closesF st out a).1.length ≤ st.length ∧ a ≤ (closesF st out a).2.2.1 ∧ ((closesF st out a).2.2.2 = true → a ≤ 2000 → (closesF st out a).2.2.1 ≤ 2000) ∧ (closesF st out a).2.1.length + a = out.length + (closesF st out a).2.2.1
  | [], out, a => ⟨Nat.le_refl _, Nat.le_refl _, fun _ h => h, rfl⟩
  | .sym x :: r, out, a => ⟨Nat.le_refl _, Nat.le_refl _, fun _ h => h, rfl⟩
  | .close p :: r, out, a => by
    unfold closesF
    split
    · obtain ⟨h1, h2, h3, h4⟩ := @closes_len r (out ++ [(3, p)]) (a + 1)
      refine ⟨by simp; omega, by omega, fun h _ => h3 h (by omega), ?_⟩
      simp only [List.length_append, List.length_cons, List.length_nil] at h4
      omega
    · refine ⟨by simp, by simp, (fun h => nomatch h), by simp; omega⟩
def okTD (g : Gram) : TD → Prop
  | .sym x => right g.terms g.nons x = true
  | .close p => 0 ≤ p ∧ p < (g.prods.length : Int)
theorem closes_ok {g : Gram} : ∀ {st : List TD} {out : List Sym} {a : Nat}, (∀ d ∈ st, okTD g d) → ∀ d ∈ (closesF st out a).1, okTD g d
  | [], out, a, h => h
  | .sym x :: r, out, a, h => h
  | .close p :: r, out, a, h => by
    unfold closesF
    split
    · exact closes_ok fun d hd => h d (List.mem_cons_of_mem _ hd)
    · exact fun d hd => h d (List.mem_cons_of_mem _ hd)
theorem opened_ok {g : Gram} (hg : checkG g = 0) {p : Int} (h0 : 0 ≤ p) (h1 : p < (g.prods.length : Int)) {r : List TD} (h : ∀ d ∈ r, okTD g d) : ∀ d ∈ opened g.prods p r, okTD g d := by
  intro d hd
  unfold opened at hd
  rw [List.mem_append] at hd
  rcases hd with hd | hd
  · obtain ⟨x, hx, rfl⟩ := List.mem_map.1 hd
    exact ((checkG_ok hg).2.2.2.2.2 _ (prodAt_mem h0 h1)).2.2.2 x hx
  · rcases List.mem_cons.1 hd with rfl | hd
    · exact ⟨h0, h1⟩
    · exact h d hd
/-- a table whose entries are right -/
def NxOk (l : List gramL.Prod) (nx : Int → Int) : Prop := ∀ n, 0 ≤ nx n → nx n < (l.length : Int) ∧ ((0 ≤ n) → (prodAt l (nx n)).1 = n)
theorem down_err {nx : Int → Int} : ∀ {f : Nat} {st : List TD} {out : List Sym} {a : Nat}, (downF l nx f st out a).2.2.2 = 0 ∨ (downF l nx f st out a).2.2.2 = 13 ∨ (downF l nx f st out a).2.2.2 = 14
  | 0, st, out, a => .inr (.inr rfl)
  | f + 1, st, out, a => by
    unfold downF
    split
    · exact .inr (.inr rfl)
    · split
      · split
        · exact .inl rfl
        · split
          · exact .inr (.inl rfl)
          · split
            · exact down_err
            · exact .inr (.inr rfl)
      · exact .inl rfl
/-- the steps of down, as cases -/
theorem down_cases {nx : Int → Int} {f : Nat} {st : List TD} {out : List Sym} {a : Nat} {R : List TD × List Sym × Nat × Int} (h : downF l nx (f + 1) st out a = R) :
    ((closesF st out a).2.2.2 = false ∧ R.2.2.2 = 14) ∨ ((closesF st out a).2.2.2 = true ∧
      (((closesF st out a).1 = [] ∧ R = ([], (closesF st out a).2.1, (closesF st out a).2.2.1, 0)) ∨
       ∃ x r, (closesF st out a).1 = .sym x :: r ∧ ((x.1 = 1 ∧ R = (.sym x :: r, (closesF st out a).2.1, (closesF st out a).2.2.1, 0)) ∨ (x.1 ≠ 1 ∧ nx x.2 < 0 ∧ R.2.2.2 = 13) ∨
         (x.1 ≠ 1 ∧ 0 ≤ nx x.2 ∧ ((((closesF st out a).2.2.1 + 1 ≤ 2000 ∧ (opened l (nx x.2) r).length ≤ 60) ∧ downF l nx f (opened l (nx x.2) r) ((closesF st out a).2.1 ++ [(1, nx x.2)]) ((closesF st out a).2.2.1 + 1) = R) ∨ R.2.2.2 = 14))))) := by
  unfold downF at h
  cases hc : (closesF st out a).2.2.2 with
  | false => rw [hc, if_pos rfl] at h; subst h; exact .inl ⟨rfl, rfl⟩
  | true =>
    rw [hc, if_neg (by simp)] at h
    refine .inr ⟨rfl, ?_⟩
    rcases closes_top hc with he | ⟨x, r, he⟩
    · rw [he] at h ⊢
      exact .inl ⟨rfl, h.symm⟩
    · rw [he] at h ⊢
      dsimp only at h
      refine .inr ⟨x, r, rfl, ?_⟩
      by_cases c1 : x.1 = 1
      · rw [if_pos c1] at h; exact .inl ⟨c1, h.symm⟩
      · rw [if_neg c1] at h
        by_cases c2 : nx x.2 < 0
        · rw [if_pos c2] at h; subst h; exact .inr (.inl ⟨c1, c2, rfl⟩)
        · rw [if_neg c2] at h
          refine .inr (.inr ⟨c1, by omega, ?_⟩)
          split at h
          · rename_i c3; exact .inl ⟨c3, h⟩
          · subst h; exact .inr rfl
theorem down_top {nx : Int → Int} : ∀ {f : Nat} {st : List TD} {out : List Sym} {a : Nat} {R : List TD × List Sym × Nat × Int}, downF l nx f st out a = R → R.2.2.2 = 0 → R.1 = [] ∨ ∃ x r, R.1 = .sym x :: r ∧ x.1 = 1
  | 0, st, out, a, R, h, h0 => by subst h; cases h0
  | f + 1, st, out, a, R, h, h0 => by
    rcases down_cases h with ⟨_, e⟩ | ⟨_, ⟨_, rfl⟩ | ⟨x, r, _, ⟨c, rfl⟩ | ⟨_, _, e⟩ | ⟨_, _, ⟨_, e⟩ | e⟩⟩⟩
    · omega
    · exact .inl rfl
    · exact .inr ⟨x, r, rfl, c⟩
    · omega
    · exact down_top e h0
    · omega
theorem down_ok {g : Gram} (hg : checkG g = 0) {nx : Int → Int} (hn : NxOk g.prods nx) : ∀ {f : Nat} {st : List TD} {out : List Sym} {a : Nat} {R : List TD × List Sym × Nat × Int}, downF g.prods nx f st out a = R → R.2.2.2 = 0 → (∀ d ∈ st, okTD g d) → ∀ d ∈ R.1, okTD g d
  | 0, st, out, a, R, h, h0, _ => by subst h; cases h0
  | f + 1, st, out, a, R, h, h0, hs => by
    have hc := closes_ok (out := out) (a := a) hs
    rcases down_cases h with ⟨_, e⟩ | ⟨_, ⟨_, rfl⟩ | ⟨x, r, e1, ⟨c, rfl⟩ | ⟨_, _, e⟩ | ⟨_, c, ⟨_, e⟩ | e⟩⟩⟩
    · omega
    · exact fun d hd => nomatch hd
    · rw [e1] at hc; exact hc
    · omega
    · rw [e1] at hc
      exact down_ok hg hn e h0 (opened_ok hg c (hn _ c).1 fun d hd => hc d (List.mem_cons_of_mem _ hd))
    · omega
theorem down_len {nx : Int → Int} : ∀ {f : Nat} {st : List TD} {out : List Sym} {a : Nat} {R : List TD × List Sym × Nat × Int}, downF l nx f st out a = R → R.2.2.2 = 0 → st.length ≤ 60 → a ≤ 2000 → R.1.length ≤ 60 ∧ R.2.2.1 ≤ 2000 ∧ R.2.1.length + a = out.length + R.2.2.1 ∧ a ≤ R.2.2.1
  | 0, st, out, a, R, h, h0, _, _ => by subst h; cases h0
  | f + 1, st, out, a, R, h, h0, h1, h2 => by
    obtain ⟨z1, z2, z3, z4⟩ := @closes_len st out a
    rcases down_cases h with ⟨_, e⟩ | ⟨ec, ⟨_, rfl⟩ | ⟨x, r, e1, ⟨c, rfl⟩ | ⟨_, _, e⟩ | ⟨_, c, ⟨cc, e⟩ | e⟩⟩⟩
    · omega
    · have := z3 ec h2
      exact ⟨by simp, this, by omega, z2⟩
    · rw [e1] at z1
      have := z3 ec h2
      exact ⟨Nat.le_trans z1 h1, this, by omega, z2⟩
    · omega
    · obtain ⟨y1, y2, y3, y4⟩ := down_len e h0 cc.2 cc.1
      rw [List.length_append, List.length_singleton] at y3
      exact ⟨y1, y2, by omega, by omega⟩
    · omega
/-- what is told, and what is still to come, is what was to come -/
theorem down_rem {g : Gram} (hg : checkG g = 0) {nx : Int → Int} (hn : NxOk g.prods nx) (hC : ∀ n u p, C n u p) : ∀ {f : Nat} {st : List TD} {out : List Sym} {a : Nat} {R : List TD × List Sym × Nat × Int}, downF g.prods nx f st out a = R → R.2.2.2 = 0 → (∀ d ∈ st, okTD g d) → ∃ E1, R.2.1 = out ++ E1 ∧ ∀ {u E w}, Rem g.prods C R.1 u E w → Rem g.prods C st u (E1 ++ E) w
  | 0, st, out, a, R, h, h0, _ => by subst h; cases h0
  | f + 1, st, out, a, R, h, h0, hs => by
    have hc := closes_ok (out := out) (a := a) hs
    obtain ⟨E1, z1, z2⟩ := @closes_rem g.prods C st out a
    rcases down_cases h with ⟨_, e⟩ | ⟨_, ⟨e1, rfl⟩ | ⟨x, r, e1, ⟨c, rfl⟩ | ⟨_, _, e⟩ | ⟨c0, c, ⟨_, e⟩ | e⟩⟩⟩
    · omega
    · rw [e1] at z2; exact ⟨E1, z1, z2⟩
    · rw [e1] at z2; exact ⟨E1, z1, z2⟩
    · omega
    · rw [e1] at hc z2
      have hx : right g.terms g.nons x = true := hc _ (List.mem_cons_self ..)
      have hx0 : 0 ≤ x.2 := by
        unfold right at hx
        rw [if_neg c0] at hx
        split at hx
        · simp at hx; exact hx.1
        · cases hx
      obtain ⟨E2, y1, y2⟩ := down_rem hg hn hC e h0 (opened_ok hg c (hn _ c).1 fun d hd => hc d (List.mem_cons_of_mem _ hd))
      refine ⟨E1 ++ (1, nx x.2) :: E2, by rw [y1, z1]; simp, fun hr => ?_⟩
      have := z2 (.opn c0 c (hn _ c).1 ((hn _ c).2 hx0) (hC _ _ _) (y2 hr))
      rw [List.append_assoc]; exact this
    · omega
/-- what is to come, in the way of the table, is told -/
theorem down_det {nx : Int → Int} {u : Nat} (hC : ∀ n p, C n u p → nx n = p) : ∀ {f : Nat} {st : List TD} {out : List Sym} {a : Nat} {R : List TD × List Sym × Nat × Int}, downF l nx f st out a = R → ∀ {E w}, Rem l C st u E w → R.2.2.2 = 14 ∨ (R.2.2.2 = 0 ∧ ∃ E1 E2, E = E1 ++ E2 ∧ R.2.1 = out ++ E1 ∧ Rem l C R.1 u E2 w)
  | 0, st, out, a, R, h, E, w, hr => by subst h; exact .inl rfl
  | f + 1, st, out, a, R, h, E, w, hr => by
    obtain ⟨E1, E2, z1, z2, z3⟩ := closes_det (out := out) (a := a) hr
    rcases down_cases h with ⟨_, e⟩ | ⟨_, ⟨e1, rfl⟩ | ⟨x, r, e1, ⟨c, rfl⟩ | ⟨c0, c1, e⟩ | ⟨c0, c, ⟨_, e⟩ | e⟩⟩⟩
    · exact .inl e
    · rw [e1] at z3; exact .inr ⟨rfl, E1, E2, z1, z2, z3⟩
    · rw [e1] at z3; exact .inr ⟨rfl, E1, E2, z1, z2, z3⟩
    · rw [e1] at z3
      cases z3 with
      | term hx _ => exact absurd hx c0
      | opn hx h0 h1 h2 hc h => rw [hC _ _ hc] at c1; omega
    · rw [e1] at z3
      cases z3 with
      | term hx _ => exact absurd hx c0
      | @opn _ p _ _ E3 _ hx h0 h1 h2 hc h =>
        rw [hC _ _ hc] at e
        rcases down_det hC e h with e' | ⟨e', E4, E5, y1, y2, y3⟩
        · exact .inl e'
        · refine .inr ⟨e', E1 ++ (1, p) :: E4, E5, by rw [z1, y1]; simp, by rw [y2, z2]; simp, y3⟩
    · exact .inl e
/-! ### one token -/
theorem push_cases {nx : Int → Int} {st : List TD} {seen : Nat} {t : Int} {R : Int × List TD × List Sym} (h : pushF l nx st seen t = R) :
    (R.1 = 13 ∨ R.1 = 14) ∧ R.2 = ([], []) ∨ ∃ x r out1 a1, downF l nx 2001 st [] 0 = (.sym x :: r, out1, a1, 0) ∧ x.1 = 1 ∧ x.2 = t ∧ a1 + 1 ≤ 2000 ∧ (closesF r (out1 ++ [(2, (seen : Int))]) (a1 + 1)).2.2.2 = true ∧
      R = (0, (closesF r (out1 ++ [(2, (seen : Int))]) (a1 + 1)).1, (closesF r (out1 ++ [(2, (seen : Int))]) (a1 + 1)).2.1) := by
  unfold pushF at h
  cases hd : downF l nx 2001 st [] 0 with
  | mk st1 R1 =>
  obtain ⟨out1, a1, e⟩ := R1
  rw [hd] at h
  dsimp only at h
  have he := @down_err l nx 2001 st [] 0
  rw [hd] at he
  dsimp only at he
  by_cases c0 : e = 0
  · subst c0
    rw [if_neg (by simp)] at h
    rcases down_top hd rfl with e1 | ⟨x, r, e1, e2⟩
    · dsimp only at e1; subst e1; subst h; exact .inl ⟨.inl rfl, rfl⟩
    · dsimp only at e1; subst e1
      dsimp only at h
      by_cases c1 : x.2 ≠ t
      · rw [if_pos c1] at h; subst h; exact .inl ⟨.inl rfl, rfl⟩
      · rw [if_neg c1] at h
        split at h
        · rename_i c2
          subst h
          exact .inr ⟨x, r, out1, a1, rfl, e2, by simpa using c1, c2.1, c2.2, rfl⟩
        · subst h; exact .inl ⟨.inr rfl, rfl⟩
  · rw [if_pos c0] at h
    subst h
    exact .inl ⟨by rcases he with h | h | h; exact absurd h c0; exact .inl h; exact .inr h, rfl⟩
theorem push_ok {g : Gram} (hg : checkG g = 0) {nx : Int → Int} (hn : NxOk g.prods nx) {st : List TD} {seen : Nat} {t : Int} {R : Int × List TD × List Sym} (h : pushF g.prods nx st seen t = R) (h0 : R.1 = 0) (hs : ∀ d ∈ st, okTD g d) (hl : st.length ≤ 60) : (∀ d ∈ R.2.1, okTD g d) ∧ R.2.1.length ≤ 60 ∧ R.2.2.length ≤ 2000 := by
  rcases push_cases h with ⟨e | e, _⟩ | ⟨x, r, out1, a1, hd, _, _, h4, h5, rfl⟩
  · omega
  · omega
  · have y1 := down_ok hg hn hd rfl hs
    obtain ⟨y2, y3, y4, y5⟩ := down_len hd rfl hl (by omega)
    obtain ⟨z1, z2, z3, z4⟩ := @closes_len r (out1 ++ [(2, (seen : Int))]) (a1 + 1)
    dsimp only at y1 y2 y3 y4 y5 ⊢
    simp only [List.length_append, List.length_cons, List.length_nil] at z4 y2 y4
    have := z3 h5 (by omega)
    exact ⟨closes_ok fun d hd => y1 d (List.mem_cons_of_mem _ hd), by omega, by omega⟩
theorem push_rem {g : Gram} (hg : checkG g = 0) {nx : Int → Int} (hn : NxOk g.prods nx) (hC : ∀ n u p, C n u p) {st : List TD} {seen : Nat} {t : Int} {R : Int × List TD × List Sym} (h : pushF g.prods nx st seen t = R) (h0 : R.1 = 0) (hs : ∀ d ∈ st, okTD g d) {E : List Sym} {w : List Int} (hr : Rem g.prods C R.2.1 (seen + 1) E w) : Rem g.prods C st seen (R.2.2 ++ E) (t :: w) := by
  rcases push_cases h with ⟨e | e, _⟩ | ⟨x, r, out1, a1, hd, h2, rfl, h4, h5, rfl⟩
  · omega
  · omega
  · obtain ⟨E1, y1, y2⟩ := down_rem hg hn hC hd rfl hs
    obtain ⟨E2, z1, z2⟩ := @closes_rem g.prods C r (out1 ++ [(2, (seen : Int))]) (a1 + 1)
    dsimp only at y1 y2 hr ⊢
    rw [z1, y1]
    have := y2 (.term h2 (z2 hr))
    simpa using this
theorem push_det {nx : Int → Int} {st : List TD} {seen : Nat} {t : Int} (hC : ∀ n p, C n seen p → nx n = p) {R : Int × List TD × List Sym} (h : pushF l nx st seen t = R) {E : List Sym} {w : List Int} (hr : Rem l C st seen E (t :: w)) : R.1 = 14 ∨ (R.1 = 0 ∧ ∃ E2, E = R.2.2 ++ E2 ∧ Rem l C R.2.1 (seen + 1) E2 w) := by
  unfold pushF at h
  cases hd : downF l nx 2001 st [] 0 with
  | mk st1 R1 =>
  obtain ⟨out1, a1, e⟩ := R1
  rw [hd] at h
  dsimp only at h
  rcases down_det hC hd hr with e1 | ⟨e1, E1, E2, y1, y2, y3⟩
  · dsimp only at e1; subst e1; rw [if_pos (by decide)] at h; subst h; exact .inl rfl
  · dsimp only at e1 y2 y3; subst e1
    rw [if_neg (by simp)] at h
    rcases down_top hd rfl with e1 | ⟨x, r, e1, e2⟩
    · dsimp only at e1; subst e1; cases y3
    · dsimp only at e1; subst e1
      dsimp only at h
      cases y3 with
      | term hx h3 =>
        rw [if_neg (by simp)] at h
        split at h
        · rename_i c2
          subst h
          obtain ⟨E3, E4, z1, z2, z3⟩ := closes_det (out := out1 ++ [(2, (seen : Int))]) (a := a1 + 1) h3
          refine .inr ⟨rfl, E4, ?_, z3⟩
          dsimp only
          rw [y1, z2, y2, z1]; simp
        · subst h; exact .inl rfl
      | opn hx => exact absurd e2 hx
theorem end_det {nx : Int → Int} {st : List TD} {u : Nat} (hC : ∀ n p, C n u p → nx n = p) {R : Int × List Sym} (h : endF l nx st = R) {E : List Sym} (hr : Rem l C st u E []) : R.1 = 14 ∨ (R.1 = 0 ∧ R.2 = E) := by
  unfold endF at h
  cases hd : downF l nx 2001 st [] 0 with
  | mk st1 R1 =>
  obtain ⟨out1, a1, e⟩ := R1
  rw [hd] at h
  dsimp only at h
  rcases down_det hC hd hr with e1 | ⟨e1, E1, E2, y1, y2, y3⟩
  · dsimp only at e1; subst e1; rw [if_pos (by decide)] at h; subst h; exact .inl rfl
  · dsimp only at e1 y2 y3; subst e1
    rw [if_neg (by simp)] at h
    rcases down_top hd rfl with e1 | ⟨x, r, e1, e2⟩
    · dsimp only at e1; subst e1
      dsimp only at h
      subst h
      cases y3
      exact .inr ⟨rfl, by dsimp only; rw [y1, y2]; simp⟩
    · dsimp only at e1; subst e1
      cases y3 with
      | opn hx => exact absurd e2 hx
theorem end_cases {nx : Int → Int} {st : List TD} {R : Int × List Sym} (h : endF l nx st = R) : ((R.1 = 13 ∨ R.1 = 14) ∧ R.2 = []) ∨ ∃ a1, downF l nx 2001 st [] 0 = ([], R.2, a1, 0) ∧ R.1 = 0 := by
  unfold endF at h
  cases hd : downF l nx 2001 st [] 0 with
  | mk st1 R1 =>
  obtain ⟨out1, a1, e⟩ := R1
  rw [hd] at h
  dsimp only at h
  have he := @down_err l nx 2001 st [] 0
  rw [hd] at he
  dsimp only at he
  by_cases c0 : e = 0
  · subst c0
    rw [if_neg (by simp)] at h
    rcases down_top hd rfl with e1 | ⟨x, r, e1, e2⟩
    · dsimp only at e1; subst e1; subst h; exact .inr ⟨a1, rfl, rfl⟩
    · dsimp only at e1; subst e1; subst h; exact .inl ⟨.inl rfl, rfl⟩
  · rw [if_pos c0] at h
    subst h
    exact .inl ⟨by rcases he with h | h | h; exact absurd h c0; exact .inl h; exact .inr h, rfl⟩
theorem end_rem {g : Gram} (hg : checkG g = 0) {nx : Int → Int} (hn : NxOk g.prods nx) (hC : ∀ n u p, C n u p) {st : List TD} {u : Nat} {R : Int × List Sym} (h : endF g.prods nx st = R) (h0 : R.1 = 0) (hs : ∀ d ∈ st, okTD g d) : Rem g.prods C st u R.2 [] := by
  rcases end_cases h with ⟨e | e, _⟩ | ⟨a1, hd, _⟩
  · omega
  · omega
  · obtain ⟨E1, y1, y2⟩ := down_rem hg hn hC hd rfl hs
    have := @y2 u [] [] .nil
    dsimp only at y1
    rw [y1]; simpa using this
end
end Go.Proofs.Ytkkiopmdcolobaa.climbL

/- App -/
namespace Go.Proofs.Ytkkiopmdcolobaa.eng
open Go.RowKit kit mix
section
variable {P : Program} {n : Nat} {W : Base} {fr : Fr} {L : List Own} {Q : Exit → Act → World → Prop} {ops : Array Oper} {rest : List Oper} {d : Nat} {dst : Option Tmp} {ty : TypeId} {pos : String} {after : Array Edge} {guard : Option (Nat × Bool)}
/-! ### a slice that may be nil -/
def gA (G : Option Nat) : Option Addr := G.map fun g => ⟨g, 0, none⟩
theorem row_form {w : World} {e : TypeId} {size m : Nat} {v : Value} {xs : List Value} (h : (rowO e size v m xs).holds w) : ∃ G cap, v = .slice (gA G) m cap ∧ m ≤ cap ∧ cap ≤ maxLen ∧ (G = none → cap = 0) := by
  have h : w.ownsRow 0 e size v m xs := h
  rcases h.2 with ⟨hv, h0⟩ | ⟨g, cap, cur, hv, _, _, h1, h2, _⟩
  · exact ⟨none, 0, by rw [hv, h0]; rfl, by omega, by decide, fun _ => rfl⟩
  · exact ⟨some g, cap, hv, h1, h2, fun h => by cases h⟩
theorem T_rowG {c : Code} {i size m : Nat} {e : TypeId} {v : Value} {xs : List Value} (hi : L[i]? = some (rowO e size v m xs)) (h : ∀ G cap, v = .slice (gA G) m cap → m ≤ cap → cap ≤ 9223372036854775807 → (G = none → cap = 0) → T P n W c Q fr L) : T P n W c Q fr L := .mk fun a w hr hm => by
  obtain ⟨G, cap, h1, h2, h3, h4⟩ := row_form (hm.get hi)
  exact (h G cap h1 h2 h3 h4).go a w hr hm
theorem T_rowN {c : Code} {i size m : Nat} {e : TypeId} {v : Value} {xs : List Value} (hi : L[i]? = some (rowO e size v m xs)) (h0 : 0 < m) (h : ∀ g cap, v = .slice (some ⟨g, 0, none⟩) m cap → m ≤ cap → cap ≤ 9223372036854775807 → T P n W c Q fr L) : T P n W c Q fr L := by
  refine T_rowG hi fun G cap hv h1 h2 h3 => ?_
  cases G with
  | none => have := h3 rfl; omega
  | some g => exact h g cap hv h1 h2
end
end Go.Proofs.Ytkkiopmdcolobaa.eng

/- Map -/
namespace Go.Proofs.Ytkkiopmdcolobaa.eng
open Go.RowKit kit mix
open Go.WideMaps (KeyLaw)
def heldR (v : Value) : Option (DataW Value × List MemPlace) := some (.held v, [])
/-- keys of a map -/
structure KeyT (P : Program) (k : TypeId) (κ : Type) where
  kv : κ → Value
  ok : κ → Prop
  law : KeyLaw P k
  key : ∀ x, ok x → ∃ l, keyOf P k (kv x) = some l
  inj : ∀ x y, kv x = kv y → x = y
section
variable {P : Program} {k : TypeId} {κ : Type}
theorem KeyT.keyed (K : KeyT P k κ) : Maps.Keyed P k := Maps.Keyed.of_law K.law
variable (K : KeyT P k κ)
def MapIs (D : DataW Value) (m : κ → Option Value) (n : Nat) : Prop :=
  Maps.size D = n ∧ ∀ x l, K.ok x → keyOf P k (K.kv x) = some l → match m x with | some v => Maps.has D l = true ∧ (∀ z, D.atKey l z = .held v) | none => Maps.has D l = false
def mapO (g : Nat) (m : κ → Option Value) (n : Nat) : Own :=
  ⟨some g, fun _ => False, fun w => ∃ D, w.ownsMap P k heldR g n D ∧ MapIs K D m n, fun w ⟨D, h, _⟩ q hq => by simp only [Option.some.injEq, or_false] at hq; subst hq; exact h.lt,
    fun w w' ⟨D, ⟨es, clock, hb, h⟩, h2⟩ _ hk => ⟨D, ⟨es, clock, (hk g (.inl rfl)).trans hb, h⟩, h2⟩⟩
theorem map_tight {w : World} {R : Value → Option (DataW Value × List MemPlace)} {b n : Nat} {D : DataW Value} (h : w.ownsMap P k R b n D) : w.ownsMap P k R b (Maps.size D) D := by
  obtain ⟨es, clock, hb, F, hs, rfl⟩ := h
  exact ⟨es, clock, hb, F, by simp [Maps.size, length_sorted], rfl⟩
theorem mapIs_nil : MapIs K (.map []) (fun _ => none) 0 := ⟨rfl, fun _ _ _ _ => rfl⟩
theorem mapIs_put [DecidableEq κ] {w : World} {g n : Nat} {D : DataW Value} {m : κ → Option Value} (ho : w.ownsMap P k heldR g n D) (h : MapIs K D m n) {x : κ} {l : Lit} (hx : K.ok x) (hl : keyOf P k (K.kv x) = some l) (v : Value) :
    MapIs K (D.put l (.held v)) (fun y => if y = x then some v else m y) (if (m x).isSome then n else n + 1) := by
  have hk := K.keyed.key hl
  have ht := ho.tidy K.keyed
  refine ⟨?_, fun y l' hy hl' => ?_⟩
  · have h2 := h.2 x l hx hl
    rw [Maps.size_put ht]
    cases e : m x with
    | none => rw [e] at h2; rw [h2]; simp [h.1]
    | some u => rw [e] at h2; rw [h2.1]; simp [h.1]
  · by_cases e : y = x
    · subst e
      rw [hl] at hl'
      simp only [Option.some.injEq] at hl'; subst hl'
      simp only [if_true]
      exact ⟨Maps.has_put_same ht.isMap hk _, fun z => Maps.atKey_put_same ht.isMap hk _ _⟩
    · have hne : l' ≠ l := fun e' => e (K.inj _ _ (K.keyed.inj (by rw [← e']; exact hl') hl))
      simp only [if_neg e]
      have h2 := h.2 y l' hy hl'
      rw [Maps.has_put_other hne]
      cases e2 : m y with
      | none => rw [e2] at h2; exact h2
      | some u => rw [e2] at h2; exact ⟨h2.1, fun z => by rw [Maps.atKey_put_other hne]; exact h2.2 z⟩
theorem look_of {D : DataW Value} {m : κ → Option Value} {n : Nat} (h : MapIs K D m n) {x : κ} {l : Lit} (hx : K.ok x) (hl : keyOf P k (K.kv x) = some l) (z : Value) : D.atKey l (.held z) = .held ((m x).getD z) ∧ Maps.has D l = (m x).isSome := by
  have h2 := h.2 x l hx hl
  cases e : m x with
  | none => rw [e] at h2; exact ⟨Maps.atKey_of_not_has h2 _, h2⟩
  | some u => rw [e] at h2; exact ⟨h2.2 _, h2.1⟩
section
variable {W : Base} {fr : Fr} {L : List Own} {Q : Exit → Act → World → Prop} {ops : Array Oper} {rest : List Oper} {n d : Nat} {dst : Option Tmp} {ty : TypeId} {pos : String} {after : Array Edge} {guard : Option (Nat × Bool)} {i g c : Nat} {t e : TypeId} {m : κ → Option Value} {x : κ} {z : Value} {xm xk xv : Operand}
theorem rr_look (ht : P.underlying t = some (.map k e)) (hz : ∀ w, (zeroValue e).run P w = .ok z w) (hi : L[i]? = some (mapO K g m c)) (hm : ev fr xm = some (.map (some g))) (hk : ev fr xk = some (K.kv x)) (hx : K.ok x) : RR P n W ⟨dst, .lookup t xm xk false, ty, pos, after, guard⟩ fr L ((m x).getD z) := .mk fun a w hr hw => by
  obtain ⟨D, ho, h⟩ := hw.get hi
  obtain ⟨l, hl⟩ := K.key x hx
  obtain ⟨v, ps, hrun, hv⟩ := ho.lookup K.keyed ht (hz w) (zd := .held z) (zp := []) rfl hl
  have h2 := (look_of K h hx hl z).1
  simp only [heldR, Option.some.injEq, Prod.mk.injEq] at hv
  rw [h2] at hv
  have hv1 : v = (m x).getD z := by simpa using hv.1
  subst hv1
  simp [execOp, hr.ev hm, hr.ev hk, hrun, Result.andThen]
theorem rr_lookOk (ht : P.underlying t = some (.map k e)) (hz : ∀ w, (zeroValue e).run P w = .ok z w) (hi : L[i]? = some (mapO K g m c)) (hm : ev fr xm = some (.map (some g))) (hk : ev fr xk = some (K.kv x)) (hx : K.ok x) : RR P n W ⟨dst, .lookup t xm xk true, ty, pos, after, guard⟩ fr L (.tuple #[(m x).getD z, .bool (m x).isSome]) := .mk fun a w hr hw => by
  obtain ⟨D, ho, h⟩ := hw.get hi
  obtain ⟨l, hl⟩ := K.key x hx
  obtain ⟨v, ps, hrun, hv⟩ := ho.look_ok K.keyed ht (hz w) (zd := .held z) (zp := []) rfl hl
  have h2 := look_of K h hx hl z
  simp only [heldR, Option.some.injEq, Prod.mk.injEq] at hv
  rw [h2.1] at hv
  rw [h2.2] at hrun
  have hv1 : v = (m x).getD z := by simpa using hv.1
  subst hv1
  simp [execOp, hr.ev hm, hr.ev hk, hrun, Result.andThen]
theorem rr_maplen (ht : P.underlying t = some (.map k e)) (hi : L[i]? = some (mapO K g m c)) (hm : ev fr xm = some (.map (some g))) : RR P n W ⟨dst, .call { callee := .builtin .len, args := #[xm], argTypes := #[t] }, ty, pos, after, guard⟩ fr L (.int .i64 c) := .mk fun a w hr hw => by
  obtain ⟨D, ho, h⟩ := hw.get hi
  have hrun := ho.len ht ty
  rw [h.1] at hrun
  simp [BigFrame.execOp_builtin, BigFrame.builtin_len, hr.ev hm, hrun]
theorem TL_map (hn : Nat.blt d n = true) (h : ∀ g, TL P n W ops Q rest ((d, .map (some g)) :: fr) (L ++ [mapO K g (fun _ => none) 0])) :
    TL P n W ops Q (⟨some d, .makeMap t none, ty, pos, after, none⟩ :: rest) fr L := TL_any rfl fun a w hr hm KK hK => by
  have e1 : (execOp a.eval ⟨some d, .makeMap t none, ty, pos, after, none⟩).run P w = .ok (.value (.map (some w.heap.size))) (w.alloc (.map #[] 0)) := by
    simp [execOp, run_makeMap, Result.andThen]
  unfold Oper.wp; rw [e1]
  exact hK _ _ ((h w.heap.size).go _ _ (hr.put hn _) (hm.append (gr_alloc w _) (Owns.one ⟨.map [], World.ownsMap_made w P k heldR, mapIs_nil K⟩ fun q hq => by simp only [mapO, Option.some.injEq] at hq; omega)))
theorem map_put [DecidableEq κ] {w : World} (ht : P.underlying t = some (.map k e)) (h : (mapO K g m c).holds w) (hx : K.ok x) (hc : c ≤ 1152921504606846976) (v : Value) :
    ∃ w', (Instr.mapUpdate t (.map (some g)) (K.kv x) v).run P w = .ok () w' ∧ (mapO K g (fun y => if y = x then some v else m y) (if (m x).isSome then c else c + 1)).holds w' ∧ w.grownBy w' (some g) := by
  obtain ⟨D, ho, h⟩ := h
  obtain ⟨l, hl⟩ := K.key x hx
  obtain ⟨w', hrun, ho', hg⟩ := ho.update K.keyed ht (by unfold maxLen; omega) (val := v) (d := .held v) (ps := []) hl rfl
  have hp := mapIs_put K ho h hx hl v
  exact ⟨w', hrun, ⟨_, by have := map_tight ho'; rwa [hp.1] at this, hp⟩, hg⟩
theorem TL_mapSet [DecidableEq κ] {v : Value} (ht : P.underlying t = some (.map k e)) (hi : L[i]? = some (mapO K g m c)) (hm : ev fr xm = some (.map (some g))) (hk : ev fr xk = some (K.kv x)) (hv : ev fr xv = some v) (hx : K.ok x) (hc : c ≤ 1152921504606846976)
    (h : TL P n W ops Q rest fr (L.set i (mapO K g (fun y => if y = x then some v else m y) (if (m x).isSome then c else c + 1)))) :
    TL P n W ops Q (⟨none, .mapUpdate t xm xk xv, ty, pos, after, none⟩ :: rest) fr L := TL_any rfl fun a w hr hw KK hK => by
  obtain ⟨w', hrun, ho', hg⟩ := map_put K ht (hw.get hi) hx hc v
  have e1 : (execOp a.eval ⟨none, .mapUpdate t xm xk xv, ty, pos, after, none⟩).run P w = .ok .skip w' := by
    simp [execOp, hr.ev hm, hr.ev hk, hr.ev hv, hrun, Result.andThen]
  unfold Oper.wp; rw [e1]
  exact hK _ _ (h.go _ _ (hr.put_none undef) (hw.turn hi hg ho' fun q hq => .inl hq))
end
/-! maps with a value for every key: what is not there counts as zero; b bounds how many keys there are -/
def mapT (g : Nat) (z : Value) (f : κ → Value) (b : Nat) : Own :=
  ⟨some g, fun _ => False, fun w => ∃ m n, n ≤ b ∧ (mapO K g m n).holds w ∧ ∀ x, K.ok x → (m x).getD z = f x, fun w ⟨m, n, _, h, _⟩ q hq => (mapO K g m n).lt w h q hq,
    fun w w' ⟨m, n, h1, h, h2⟩ hs hk => ⟨m, n, h1, (mapO K g m n).stay w w' h hs hk, h2⟩⟩
section
variable {W : Base} {fr : Fr} {L : List Own} {Q : Exit → Act → World → Prop} {ops : Array Oper} {rest : List Oper} {n d : Nat} {dst : Option Tmp} {ty : TypeId} {pos : String} {after : Array Edge} {guard : Option (Nat × Bool)} {i g b : Nat} {t e : TypeId} {f f' : κ → Value} {x : κ} {z v : Value} {xm xk xv : Operand}
theorem run_lookT {w : World} (ht : P.underlying t = some (.map k e)) (hz : ∀ w, (zeroValue e).run P w = .ok z w) (h : (mapT K g z f b).holds w) (hx : K.ok x) : (Instr.lookup t (.map (some g)) (K.kv x) false).run P w = .ok (f x) w := by
  obtain ⟨m, n, _, ⟨D, ho, hi⟩, hf⟩ := h
  obtain ⟨l, hl⟩ := K.key x hx
  obtain ⟨v, ps, hrun, hv⟩ := ho.lookup K.keyed ht (hz w) (zd := .held z) (zp := []) rfl hl
  have h2 := (look_of K hi hx hl z).1
  simp only [heldR, Option.some.injEq, Prod.mk.injEq] at hv
  rw [h2, hf x hx] at hv
  have hv1 : v = f x := by simpa using hv.1
  rw [← hv1]; exact hrun
/-- a map that is known, whichever way -/
theorem rr_lookM (ht : P.underlying t = some (.map k e)) (hz : ∀ w, (zeroValue e).run P w = .ok z w) (hh : ∀ w, Mem W L w → (mapT K g z f b).holds w) (hm : ev fr xm = some (.map (some g))) (hk : ev fr xk = some (K.kv x)) (hx : K.ok x) (hv : f x = v) : RR P n W ⟨dst, .lookup t xm xk false, ty, pos, after, guard⟩ fr L v := .mk fun a w hr hw => by
  subst hv
  have hrun := run_lookT K ht hz (hh w hw) hx
  simp [execOp, hr.ev hm, hr.ev hk, hrun, Result.andThen]
theorem rr_lookT (ht : P.underlying t = some (.map k e)) (hz : ∀ w, (zeroValue e).run P w = .ok z w) (hi : L[i]? = some (mapT K g z f b)) (hm : ev fr xm = some (.map (some g))) (hk : ev fr xk = some (K.kv x)) (hx : K.ok x) (hv : f x = v) : RR P n W ⟨dst, .lookup t xm xk false, ty, pos, after, guard⟩ fr L v :=
  rr_lookM K ht hz (fun _ hw => hw.get hi) hm hk hx hv
theorem TL_mapT (hn : Nat.blt d n = true) (h : ∀ g, TL P n W ops Q rest ((d, .map (some g)) :: fr) (L ++ [mapT K g z (fun _ => z) 0])) :
    TL P n W ops Q (⟨some d, .makeMap t none, ty, pos, after, none⟩ :: rest) fr L := TL_any rfl fun a w hr hm KK hK => by
  have e1 : (execOp a.eval ⟨some d, .makeMap t none, ty, pos, after, none⟩).run P w = .ok (.value (.map (some w.heap.size))) (w.alloc (.map #[] 0)) := by
    simp [execOp, run_makeMap, Result.andThen]
  unfold Oper.wp; rw [e1]
  exact hK _ _ ((h w.heap.size).go _ _ (hr.put hn _) (hm.append (gr_alloc w _) (Owns.one ⟨fun _ => none, 0, Nat.le_refl _, ⟨.map [], World.ownsMap_made w P k heldR, mapIs_nil K⟩, fun _ _ => rfl⟩ fun q hq => by simp only [mapT, Option.some.injEq] at hq; omega)))
theorem mapT_put [DecidableEq κ] {w : World} (ht : P.underlying t = some (.map k e)) (h : (mapT K g z f b).holds w) (hx : K.ok x) (hc : b ≤ 1152921504606846976) (hf : ∀ y, K.ok y → f' y = if y = x then v else f y) :
    ∃ w', (Instr.mapUpdate t (.map (some g)) (K.kv x) v).run P w = .ok () w' ∧ (mapT K g z f' (b + 1)).holds w' ∧ w.grownBy w' (some g) := by
  obtain ⟨m, n, h1, h2, h3⟩ := h
  obtain ⟨w', hrun, ho, hg⟩ := map_put K ht h2 hx (by omega) v
  refine ⟨w', hrun, ⟨_, _, ?_, ho, fun y hy => ?_⟩, hg⟩
  · split <;> omega
  · rw [hf y hy]
    by_cases e : y = x
    · simp [e]
    · simp only [if_neg e]; exact h3 y hy
theorem TL_mapSetT [DecidableEq κ] (f' : κ → Value) (ht : P.underlying t = some (.map k e)) (hi : L[i]? = some (mapT K g z f b)) (hm : ev fr xm = some (.map (some g))) (hk : ev fr xk = some (K.kv x)) (hv : ev fr xv = some v) (hx : K.ok x) (hc : b ≤ 1152921504606846976) (hf : ∀ y, K.ok y → f' y = if y = x then v else f y)
    (h : TL P n W ops Q rest fr (L.set i (mapT K g z f' (b + 1)))) :
    TL P n W ops Q (⟨none, .mapUpdate t xm xk xv, ty, pos, after, none⟩ :: rest) fr L := TL_any rfl fun a w hr hw KK hK => by
  obtain ⟨w', hrun, ho', hg⟩ := mapT_put K ht (hw.get hi) hx hc hf
  have e1 : (execOp a.eval ⟨none, .mapUpdate t xm xk xv, ty, pos, after, none⟩).run P w = .ok .skip w' := by
    simp [execOp, hr.ev hm, hr.ev hk, hr.ev hv, hrun, Result.andThen]
  unfold Oper.wp; rw [e1]
  exact hK _ _ (h.go _ _ (hr.put_none undef) (hw.turn hi hg ho' fun q hq => .inl hq))
end
end
end Go.Proofs.Ytkkiopmdcolobaa.eng
namespace Go.Proofs.Ytkkiopmdcolobaa.eng
open Go.RowKit kit mix
theorem rr_nilc {P : Program} {n : Nat} {W : Base} {fr : Fr} {L : List Own} {dst : Option Tmp} {ty : TypeId} {pos : String} {after : Array Edge} {guard : Option (Nat × Bool)} {x : Operand} {a : Addr} (hx : ev fr x = some (.pointer (some a))) : RR P n W ⟨dst, .nilCheck x, ty, pos, after, guard⟩ fr L (.pointer (some a)) := .mk fun act w hr _ => by
  simp [execOp, hr.ev hx]
end Go.Proofs.Ytkkiopmdcolobaa.eng
namespace Go.Proofs.Ytkkiopmdcolobaa.eng
open Go.RowKit kit mix
section
variable {P : Program} {n : Nat} {W : Base} {fr : Fr} {L : List Own} {Q : Exit → Act → World → Prop} {ops : Array Oper} {rest : List Oper} {d : Nat} {ty : TypeId} {pos : String} {after : Array Edge}
/-- 'make([]T, m)', T of one cell: an own row -/
theorem TL_makeRow {t e : TypeId} {x y : Operand} {bytes m : Nat} {k k' : IntKind} {z : Value} [ElC P t e 1 bytes] [ZeroC P e #[z]] (hx : ev fr x = some (.int k (m : Int))) (hy : ev fr y = some (.int k' (m : Int))) (hb : bytes * m ≤ 281474976710656) (h63 : m ≤ 9223372036854775807) (hn : Nat.blt d n = true)
    (h : ∀ g, TL P n W ops Q rest ((d, .slice (some ⟨g, 0, none⟩) m m) :: fr) (L ++ [rowO e 1 (.slice (some ⟨g, 0, none⟩) m m) m (List.replicate m z)])) : TL P n W ops Q (⟨some d, .makeSlice t x y, ty, pos, after, none⟩ :: rest) fr L :=
  TL_makeB hx hy (Nat.le_refl _) hb h63 hn fun g => TL_toRowN (i := L.length) 1 (List.getElem?_concat_length ..) (by rw [size_madeCells]) (Nat.le_refl _) h63 (by
    have e1 : (madeCells #[z] (m * 1)).toList.take (m * 1) = List.replicate m z := by
      rw [made1, Nat.mul_one, List.take_of_length_le (by simp)]
    rw [e1, List.set_append_right _ _ (Nat.le_refl _), Nat.sub_self]
    exact h g)
end
end Go.Proofs.Ytkkiopmdcolobaa.eng
namespace Go.Proofs.Ytkkiopmdcolobaa.eng
open Go.RowKit kit mix
section
variable {P : Program} {n : Nat} {W : Base} {fr : Fr} {L : List Own} {Q : Exit → Act → World → Prop} {ops : Array Oper} {rest : List Oper}
/-- something owned, told otherwise -/
theorem Mem.weak {w : World} {i : Nat} {o : Own} (o' : Own) (h : Mem W L w) (hi : L[i]? = some o) (hh : ∀ w, o.holds w → o'.holds w) (hb : ∀ k, o'.blk = some k → o.blk = some k) (hmo : ∀ k, o'.more k → o.foot k := by intro k hk; exact False.elim hk) : Mem W (L.set i o') w :=
  h.turn hi ⟨rfl, rfl, rfl, Nat.le_refl _, fun _ _ _ => rfl⟩ (hh w (h.get hi)) (fun k hk => .inl (hb k hk)) hmo
theorem T_weak {c : Code} {i : Nat} {o : Own} (o' : Own) (hi : L[i]? = some o) (hh : ∀ w, o.holds w → o'.holds w) (hb : ∀ k, o'.blk = some k → o.blk = some k) (hmo : ∀ k, o'.more k → o.foot k) (h : T P n W c Q fr (L.set i o')) : T P n W c Q fr L := .mk fun a w hr hm => h.go a w hr (hm.weak o' hi hh hb hmo)
theorem TL_weak {i : Nat} {o : Own} (o' : Own) (hi : L[i]? = some o) (hh : ∀ w, o.holds w → o'.holds w) (hb : ∀ k, o'.blk = some k → o.blk = some k) (hmo : ∀ k, o'.more k → o.foot k) (h : TL P n W ops Q rest fr (L.set i o')) : TL P n W ops Q rest fr L := .mk fun a w hr hm => h.go a w hr (hm.weak o' hi hh hb hmo)
theorem E_weak {e : Exit} {i : Nat} {o : Own} (o' : Own) (hi : L[i]? = some o) (hh : ∀ w, o.holds w → o'.holds w) (hb : ∀ k, o'.blk = some k → o.blk = some k) (hmo : ∀ k, o'.more k → o.foot k) (h : E n W e Q fr (L.set i o')) : E n W e Q fr L := .mk fun a w hr hm => h.go a w hr (hm.weak o' hi hh hb hmo)
end
theorem mapT_weak {P : Program} {k : TypeId} {κ : Type} {K : KeyT P k κ} {g b b' : Nat} {z : Value} {f f' : κ → Value} (hb : b ≤ b') (hf : ∀ x, K.ok x → f' x = f x) (w : World) (h : (mapT K g z f b).holds w) : (mapT K g z f' b').holds w := by
  obtain ⟨m, n, h1, h2, h3⟩ := h
  exact ⟨m, n, by omega, h2, fun x hx => by rw [hf x hx]; exact h3 x hx⟩
end Go.Proofs.Ytkkiopmdcolobaa.eng
namespace Go.Proofs.Ytkkiopmdcolobaa.eng
open Go.RowKit kit mix
section
variable {P : Program} {n : Nat} {W : Base} {fr : Fr} {L : List Own} {Q : Exit → Act → World → Prop} {ops : Array Oper} {rest : List Oper}
/-- something owned, seen as something else in no more memory -/
theorem Mem.reown {w : World} {i : Nat} {o : Own} (o' : Own) (h : Mem W L w) (hi : L[i]? = some o) (hh : ∀ w, o.holds w → o'.holds w) (hf : ∀ k, o'.foot k → o.foot k) : Mem W (L.set i o') w := by
  have hlen : i < L.length := (List.getElem?_eq_some_iff.1 hi).1
  have hoi := h.owns.all i o hi
  refine ⟨h.low, fun j q hj => ?_, fun j j' q q' hij hj hj' k hk hk' => ?_⟩
  · by_cases e : i = j
    · subst e
      rw [List.getElem?_set_self hlen] at hj
      simp only [Option.some.injEq] at hj; subst hj
      exact ⟨hh w hoi.1, fun k hk => hoi.2 k (hf k hk)⟩
    · rw [List.getElem?_set_ne e] at hj
      exact h.owns.all j q hj
  · by_cases e : i = j
    · subst e
      rw [List.getElem?_set_self hlen] at hj
      rw [List.getElem?_set_ne hij] at hj'
      simp only [Option.some.injEq] at hj; subst hj
      exact h.owns.apart i j' o q' hij hi hj' k (hf k hk) hk'
    · rw [List.getElem?_set_ne e] at hj
      by_cases e' : i = j'
      · subst e'
        rw [List.getElem?_set_self hlen] at hj'
        simp only [Option.some.injEq] at hj'; subst hj'
        exact h.owns.apart j i q o hij hj hi k hk (hf k hk')
      · rw [List.getElem?_set_ne e'] at hj'
        exact h.owns.apart j j' q q' hij hj hj' k hk hk'
theorem T_reown {c : Code} {i : Nat} {o : Own} (o' : Own) (hi : L[i]? = some o) (hh : ∀ w, o.holds w → o'.holds w) (hf : ∀ k, o'.foot k → o.foot k) (h : T P n W c Q fr (L.set i o')) : T P n W c Q fr L := .mk fun a w hr hm => h.go a w hr (hm.reown o' hi hh hf)
theorem TL_reown {i : Nat} {o : Own} (o' : Own) (hi : L[i]? = some o) (hh : ∀ w, o.holds w → o'.holds w) (hf : ∀ k, o'.foot k → o.foot k) (h : TL P n W ops Q rest fr (L.set i o')) : TL P n W ops Q rest fr L := .mk fun a w hr hm => h.go a w hr (hm.reown o' hi hh hf)
theorem E_reown {e : Exit} {i : Nat} {o : Own} (o' : Own) (hi : L[i]? = some o) (hh : ∀ w, o.holds w → o'.holds w) (hf : ∀ k, o'.foot k → o.foot k) (h : E n W e Q fr (L.set i o')) : E n W e Q fr L := .mk fun a w hr hm => h.go a w hr (hm.reown o' hi hh hf)
end
end Go.Proofs.Ytkkiopmdcolobaa.eng

/- ClimbO -/
namespace Go.Proofs.Ytkkiopmdcolobaa.eng
open Go.RowKit kit mix gramL treeL climbL
def tdB : TD → Bool | .sym _ => false | .close _ => true
def tdN : TD → Int | .sym _ => 0 | .close p => p
def tdX : TD → Sym | .sym x => x | .close _ => (0, 0)
def tdC (d : TD) : List Value := [.bool (tdB d), .int .i64 (tdN d), .int .i64 (tdX d).1, .int .i64 (tdX d).2]
theorem tdC_len (d : TD) : (tdC d).length = 4 := rfl
theorem tdC_all (l : List TD) : ∀ u ∈ l.flatMap tdC, u.oneCell' = true := by
  intro u hu
  obtain ⟨d, _, h⟩ := List.mem_flatMap.1 hu
  simp only [tdC, List.mem_cons, List.not_mem_nil, or_false] at h
  rcases h with rfl | rfl | rfl | rfl <;> rfl
def tdV (d : TD) : Value := .agg (tdC d).toArray
theorem build_tdS (x : Sym) (w : World) : (Instr.build 88 #[(2, .agg (symC x).toArray)]).run Try.prog w = .ok (tdV (.sym x)) w := by
  unfold tdV tdC symC tdB tdN tdX; go_simp
theorem build_tdC (p : Int) (w : World) : (Instr.build 88 #[(0, .bool true), (1, .int .i64 p)]).run Try.prog w = .ok (tdV (.close p)) w := by
  unfold tdV tdC tdB tdN tdX; go_simp
/-- a climber -/
def clV (vt : Value) (seen over : Int) (done : Bool) : Value := .agg #[vt, .int .i64 seen, .int .i64 over, .bool done]
/-- the work of one token -/
def cwV (t n : Int) (vp vt vo : Value) (acts : Nat) : Array Value := #[.int .i64 t, .int .i64 n, vp, vt, vo, .int .i64 (acts : Int)]
abbrev cwO (gw : Nat) (t n : Int) (vp vt vo : Value) (acts : Nat) : Own := blkO gw (cwV t n vp vt vo acts) 95
abbrev tdO (vt : Value) (st : List TD) : Own := rowO 88 4 vt st.length (st.reverse.flatMap tdC)
abbrev evO (vo : Value) (l : List Sym) : Own := rowO 39 2 vo l.length (l.flatMap symC)
theorem build_evn (k n : Int) (w : World) : (Instr.build 39 #[(0, .int .i64 k), (1, .int .i64 n)]).run Try.prog w = .ok (.agg (symC (k, n)).toArray) w := by
  unfold symC; go_simp
theorem rr_vfld {P : Program} {n : Nat} {W : Base} {fr : Fr} {L : List Own} {dst : Option Tmp} {t ty : TypeId} {pos : String} {after : Array Edge} {guard : Option (Nat × Bool)} {x : Operand} {f : Nat} {v u : Value} (hx : ev fr x = some v) (h : ∀ w, (Instr.field t v f).run P w = .ok u w) : RR P n W ⟨dst, .field t x f, ty, pos, after, guard⟩ fr L u := .mk fun a w hr _ => by
  simp [execOp, hr.ev hx, h]
theorem field_td1 (d : TD) (w : World) : (Instr.field 88 (tdV d) 1).run Try.prog w = .ok (.int .i64 (tdN d)) w := by
  unfold tdV tdC; kernel_rfl
end Go.Proofs.Ytkkiopmdcolobaa.eng

/- ClimbA -/
namespace Go.Proofs.Ytkkiopmdcolobaa.eng
open Go.RowKit kit mix gramL treeL climbL
attribute [local irreducible] Instr.build in
theorem act_calls (gw : Nat) (t n : Int) (vp vt vo : Value) (out : List Sym) (acts : Nat) (kd m : Int) (w : World) (B : Base) (h1 : out.length ≤ 100000) (h2 : acts ≤ 100000) (hm : Mem B [cwO gw t n vp vt vo acts, evO vo out] w) :
    Calls Try.prog 33 #[.pointer (some ⟨gw, 0, none⟩), .int .i64 kd, .int .i64 m] w (MeetsB ⟨fun (_ : Value) => True, fun _ => .bool (decide (((acts + 1 : Nat) : Int) ≤ 2000)), fun vo' => [cwO gw t n vp vt vo' (acts + 1), evO vo' (out ++ [(kd, m)])]⟩ B) := by
  refine enterB hm (args := [.pointer (some ⟨gw, 0, none⟩), .int .i64 kd, .int .i64 m]) (n := 31) Try.func33 rfl rfl rfl ?_
  refine T_slv (i := 1) rfl fun hv1 hv2 => ?_
  repeat (first
    | refine qv rfl (qp rfl) rfl rfl ?_ | refine TL_nil ?_ | refine T_seq ?_ | refine T_region ?_ | refine T_ret ?_ | refine E_then ?_ | refine E_thenR ?_
    | refine qv rfl (rr_load1 TyC.ty rfl (at_blk (i := 0) rfl rfl)) rfl rfl ?_
    | refine qv rfl (rr_add64 (r := ((acts + 1 : Nat) : Int)) rfl rfl (by omega) (by omega) (by omega)) rfl rfl ?_
    | refine qv rfl (qfld FldC.fld rfl rfl) rfl rfl ?_ | refine qv rfl (rr_nilc rfl) rfl rfl ?_ | refine qv rfl (rr_leq rfl rfl (qT (by omega))) rfl rfl ?_
    | refine qv rfl (rr_leq rfl rfl (qF (by omega))) rfl rfl ?_ | refine qv rfl (rr_add64 rfl rfl (by omega) (by omega) rfl) rfl rfl ?_)
  refine TL_store1 (i := 0) rfl rfl rfl rfl rfl rfl ?_
  rw [show (cwV t n vp vt vo acts).setIfInBounds (0 + 5) (.int .i64 ((acts + 1 : Nat) : Int)) = cwV t n vp vt vo (acts + 1) from rfl]
  conv => arg 8; simp only [zA, zB, zC, zD, zE, zF, zG, zH, zI, rowS, ret, id_eq]
  repeat (first
    | refine qv rfl (qp rfl) rfl rfl ?_ | refine TL_nil ?_ | refine T_seq ?_ | refine T_region ?_ | refine T_ret ?_ | refine E_then ?_ | refine E_thenR ?_
    | refine qv rfl (rr_load1 TyC.ty rfl (at_blk (i := 0) rfl rfl)) rfl rfl ?_ | refine qv rfl (rr_build rfl (build_evn _ _)) rfl rfl ?_
    | refine qv rfl (qfld FldC.fld rfl rfl) rfl rfl ?_ | refine qv rfl (rr_nilc rfl) rfl rfl ?_ | refine qv rfl (rr_leq rfl rfl (qT (by omega))) rfl rfl ?_
    | refine qv rfl (rr_leq rfl rfl (qF (by omega))) rfl rfl ?_ | refine qv rfl (rr_add64 rfl rfl (by omega) (by omega) rfl) rfl rfl ?_)
  refine TL_pushN (i := 1) rfl rfl rfl rfl rfl rfl rfl (fun z h => by cases h; rfl) (by omega) (by omega) rfl fun z' v' => ?_
  conv => arg 8; simp only [zA, zB, zC, zD, zE, zF, zG, zH, zI, rowS, ret, id_eq]
  refine TL_slv (i := 1) rfl fun hv1 hv2 => ?_
  repeat (first
    | refine qv rfl (qp rfl) rfl rfl ?_ | refine TL_nil ?_ | refine T_seq ?_ | refine T_region ?_ | refine T_ret ?_ | refine E_then ?_ | refine E_thenR ?_
    | refine qv rfl (qfld FldC.fld rfl rfl) rfl rfl ?_ | refine qv rfl (rr_nilc rfl) rfl rfl ?_ | refine qv rfl (rr_leq rfl rfl (qT (by omega))) rfl rfl ?_
    | refine qv rfl (rr_leq rfl rfl (qF (by omega))) rfl rfl ?_ | refine qv rfl (rr_add64 rfl rfl (by omega) (by omega) rfl) rfl rfl ?_)
  refine TL_store1 (i := 0) rfl rfl rfl hv1 hv2 rfl ?_
  rw [show (cwV t n vp vt vo (acts + 1)).setIfInBounds (0 + 4) v' = cwV t n vp vt v' (acts + 1) from rfl]
  conv => arg 8; simp only [zA, zB, zC, zD, zE, zF, zG, zH, zI, rowS, ret, id_eq]
  repeat (first
    | refine qv rfl (qp rfl) rfl rfl ?_ | refine TL_nil ?_ | refine T_seq ?_ | refine T_region ?_ | refine T_ret ?_ | refine E_then ?_ | refine E_thenR ?_
    | refine qv rfl (rr_load1 (v := .int .i64 ((acts + 1 : Nat) : Int)) TyC.ty rfl (at_blk (i := 0) rfl rfl)) rfl rfl ?_
    | refine qv rfl (rr_leq rfl rfl rfl) rfl rfl ?_ | refine qv rfl (qfld FldC.fld rfl rfl) rfl rfl ?_ | refine qv rfl (rr_nilc rfl) rfl rfl ?_
    | refine qv rfl (rr_leq rfl rfl (qT (by omega))) rfl rfl ?_ | refine qv rfl (rr_leq rfl rfl (qF (by omega))) rfl rfl ?_
    | refine qv rfl (rr_add64 rfl rfl (by omega) (by omega) rfl) rfl rfl ?_)
  exact E_ret1 rfl rfl fun w hm => hm.meetsB (S := ⟨fun (_ : Value) => True, fun _ => .bool (decide (((acts + 1 : Nat) : Int) ≤ 2000)), fun vo' => [cwO gw t n vp vt vo' (acts + 1), evO vo' (out ++ [(kd, m)])]⟩) v' trivial [0, 1] (by decide) (by simp [cwO, evO])
theorem td_at {B : Base} {L : List Own} {i g cap : Nat} {d : TD} {r : List TD} (hi : L[i]? = some (tdO (.slice (some ⟨g, 0, none⟩) (r.length + 1) cap) (d :: r))) (j : Nat) (u : Value) (hu : (tdC d)[j]? = some u) : At B L ⟨g, 0 + r.length * 4 + j, none⟩ u :=
  at_rowel tdC_len hi (k := r.length) (by simp) j u (by simpa using hu)
theorem td_less {d : TD} {r : List TD} {g cap : Nat} {w : World} (h : (tdO (.slice (some ⟨g, 0, none⟩) (r.length + 1) cap) (d :: r)).holds w) : (tdO (.slice (some ⟨g, 0, none⟩) r.length cap) r).holds w := by
  obtain ⟨h1, h2⟩ := h
  refine ⟨by rw [len_el tdC_len]; simp, ?_⟩
  rcases h2 with ⟨h2, _⟩ | ⟨g', cap', cur, e, h3, h4, h5, h6, h7, h8⟩
  · cases h2
  · cases e
    refine .inr ⟨g, cap, cur, rfl, h3, h4, by simp at h5; omega, h6, h7, ?_⟩
    have : (cur.toList.take ((d :: r).length * 4)).take (r.length * 4) = ((d :: r).reverse.flatMap tdC).take (r.length * 4) := by rw [h8]
    rw [List.take_take, Nat.min_eq_left (by simp; omega), List.reverse_cons, List.flatMap_append, List.take_left' (by rw [len_el tdC_len]; simp)] at this
    exact this
attribute [local irreducible] Instr.build in
theorem pop_calls (gw : Nat) (t n : Int) (vp vt vo : Value) (d : TD) (r : List TD) (acts : Nat) (w : World) (B : Base) (h1 : r.length ≤ 100000) (hm : Mem B [cwO gw t n vp vt vo acts, tdO vt (d :: r)] w) :
    Calls Try.prog 32 #[.pointer (some ⟨gw, 0, none⟩)] w (MeetsB ⟨fun (_ : Value) => True, fun _ => tdV d, fun vt' => [cwO gw t n vp vt' vo acts, tdO vt' r]⟩ B) := by
  refine enterB hm (args := [.pointer (some ⟨gw, 0, none⟩)]) (n := 31) Try.func32 rfl rfl rfl ?_
  refine T_rowN (i := 1) rfl (by simp) fun g cap hv q1 q2 => ?_
  subst hv
  simp only [List.length_cons] at *
  refine T_seq (T_region (TL_new rfl fun g2 => ?_))
  conv => arg 8; simp only [zA, zB, zC, zD, zE, zF, zG, zH, zI, rowS, ret, id_eq]
  repeat (first
    | refine qv rfl (qp rfl) rfl rfl ?_ | refine TL_nil ?_ | refine T_seq ?_ | refine T_region ?_ | refine T_ret ?_ | refine E_then ?_ | refine E_thenR ?_
    | refine qv rfl (qlen Und.eq rfl) rfl rfl ?_ | refine qv rfl (qfld FldC.fld rfl rfl) rfl rfl ?_ | refine qv rfl (rr_nilc rfl) rfl rfl ?_
    | refine qv rfl (rr_sub64 rfl rfl (by omega) (by omega) rfl) rfl rfl ?_)
  refine T_ord ([cwO gw t n vp (.slice (some ⟨g, 0, none⟩) (r.length + 1) cap) vo acts, tdO (.slice (some ⟨g, 0, none⟩) (r.length + 1) cap) (d :: r)]) (.calm 0 (.calm 1 (.calm 2 (.calm 3 (.calm 4 (.calm 5 (.calm 6 (.calm 7 (.calm 8 (.calm 9 (.calm 10 (.calm 11 (.one 12 (.one 13 (.done))))))))))))))) (sub_pick [0, 1] (by decide) rfl) (by kernel_rfl) (by kernel_rfl) (by intro c a d v w h; cases d <;> exact h) ?_
  repeat (first
    | ((first | refine TW_plain rfl rfl ?_ | refine TW_gmet rfl rfl rfl rfl ?_); first | refine TN_val (qp rfl) rfl rfl ?_ | refine TN_val (rr_load1 (v := .slice (some ⟨g, 0, none⟩) (r.length + 1) cap) TyC.ty rfl (at_blk (i := 0) rfl rfl)) rfl rfl ?_ | refine TN_val (rr_sub64 (r := (r.length : Int)) rfl rfl (by omega) (by omega) (by omega)) rfl rfl ?_ | refine TN_val (rr_idxc (j := r.length) Und.eq TyC.ty rfl rfl (by omega)) rfl rfl ?_ | refine TN_val (rr_loadN TyC.ty rfl rfl (td_at (i := 1) rfl)) rfl rfl ?_ | refine TN_val (qlen Und.eq rfl) rfl rfl ?_ | refine TN_val (qfld FldC.fld rfl rfl) rfl rfl ?_ | refine TN_val (rr_nilc rfl) rfl rfl ?_ | refine TN_val (rr_sub64 rfl rfl (by omega) (by omega) rfl) rfl rfl ?_)
    | refine TW_done ?_)
  refine TW_one rfl (TL_new rfl fun g3 => ?_)
  refine TW_on (sub_pick [0, 1] (by decide) rfl) ?_
  refine TW_one rfl (TL_storeB (i := 3) (cs' := (tdC d).toArray) rfl rfl rfl rfl rfl rfl (TW_on (sub_pick [0, 1] (by decide) rfl) ?_))
  repeat (first
    | ((first | refine TW_plain rfl rfl ?_ | refine TW_gmet rfl rfl rfl rfl ?_); first | refine TN_val (qp rfl) rfl rfl ?_ | refine TN_val (qlen Und.eq rfl) rfl rfl ?_ | refine TN_val (qfld FldC.fld rfl rfl) rfl rfl ?_ | refine TN_val (rr_nilc rfl) rfl rfl ?_ | refine TN_val (rr_sub64 rfl rfl (by omega) (by omega) rfl) rfl rfl ?_)
    | refine TW_done ?_)
  repeat (first
    | refine qv rfl (qp rfl) rfl rfl ?_ | refine TL_nil ?_ | refine T_seq ?_ | refine T_region ?_ | refine T_ret ?_ | refine E_then ?_ | refine E_thenR ?_
    | refine qv rfl (qlen Und.eq rfl) rfl rfl ?_ | refine qv rfl (qfld FldC.fld rfl rfl) rfl rfl ?_ | refine qv rfl (rr_nilc rfl) rfl rfl ?_
    | refine qv rfl (rr_sub64 rfl rfl (by omega) (by omega) rfl) rfl rfl ?_)
  refine T_ord ([]) (.calm 0 (.calm 1 (.calm 2 (.calm 3 (.calm 5 (.calm 6 (.calm 7 (.two 4 (.one 8 (.calm 9 (.calm 10 (.calm 11 (.calm 12 (.calm 13 (.one 14 (.done)))))))) 8 (.calm 9 (.calm 10 (.one 4 (.calm 11 (.calm 12 (.calm 13 (.one 14 (.done)))))))))))))))) (sub_pick [] (by decide) rfl) (by kernel_rfl) (by kernel_rfl) (by intro c a d v w h; cases d <;> exact h) ?_
  repeat (first
    | ((first | refine TW_plain rfl rfl ?_ | refine TW_gmet rfl rfl rfl rfl ?_); first | refine TN_val (qp rfl) rfl rfl ?_ | refine TN_val (qlen Und.eq rfl) rfl rfl ?_ | refine TN_val (qfld FldC.fld rfl rfl) rfl rfl ?_ | refine TN_val (rr_nilc rfl) rfl rfl ?_ | refine TN_val (rr_sub64 rfl rfl (by omega) (by omega) rfl) rfl rfl ?_)
    | refine TW_done ?_)
  refine TW_two rfl rfl ?_ ?_
  · refine TL_val (rr_load1 (v := .slice (some ⟨g, 0, none⟩) (r.length + 1) cap) TyC.ty rfl (at_blk (i := 0) rfl rfl)) rfl rfl rfl (TW_on (sub_pick [] (by decide) rfl) ?_)
    refine TW_one rfl (TL_val (rr_load1 (v := .slice (some ⟨g, 0, none⟩) (r.length + 1) cap) TyC.ty rfl (at_blk (i := 0) rfl rfl)) rfl rfl rfl (TW_on (sub_pick [] (by decide) rfl) ?_))
    repeat (first
      | ((first | refine TW_plain rfl rfl ?_ | refine TW_gmet rfl rfl rfl rfl ?_); first | refine TN_val (qp rfl) rfl rfl ?_ | refine TN_val (rr_sub64 (r := (r.length : Int)) rfl rfl (by omega) (by omega) (by omega)) rfl rfl ?_ | refine TN_val (rr_slpre (j := r.length) Und.eq TyC.ty rfl rfl (by omega)) rfl rfl ?_ | refine TN_val (qlen Und.eq rfl) rfl rfl ?_ | refine TN_val (qfld FldC.fld rfl rfl) rfl rfl ?_ | refine TN_val (rr_nilc rfl) rfl rfl ?_ | refine TN_val (rr_sub64 rfl rfl (by omega) (by omega) rfl) rfl rfl ?_)
      | refine TW_done ?_)
    refine TW_one rfl (TL_store1 (i := 0) rfl rfl rfl rfl rfl rfl (TW_on (sub_pick [] (by decide) rfl) ?_))
    rw [show (cwV t n vp (.slice (some ⟨g, 0, none⟩) (r.length + 1) cap) vo acts).setIfInBounds (0 + 3) (.slice (some ⟨g, 0, none⟩) r.length cap) = cwV t n vp (.slice (some ⟨g, 0, none⟩) r.length cap) vo acts from rfl]
    repeat (first
      | ((first | refine TW_plain rfl rfl ?_ | refine TW_gmet rfl rfl rfl rfl ?_); first | refine TN_val (qp rfl) rfl rfl ?_ | refine TN_val (qlen Und.eq rfl) rfl rfl ?_ | refine TN_val (qfld FldC.fld rfl rfl) rfl rfl ?_ | refine TN_val (rr_nilc rfl) rfl rfl ?_ | refine TN_val (rr_sub64 rfl rfl (by omega) (by omega) rfl) rfl rfl ?_)
      | refine TW_done ?_)
    repeat (first
      | refine qv rfl (qp rfl) rfl rfl ?_ | refine TL_nil ?_ | refine T_seq ?_ | refine T_region ?_ | refine T_ret ?_ | refine E_then ?_ | refine E_thenR ?_
      | refine qv rfl (rr_loadB (i := 3) TyC.ty rfl rfl rfl) rfl rfl ?_ | refine qv rfl (qlen Und.eq rfl) rfl rfl ?_
      | refine qv rfl (qfld FldC.fld rfl rfl) rfl rfl ?_ | refine qv rfl (rr_nilc rfl) rfl rfl ?_
      | refine qv rfl (rr_sub64 rfl rfl (by omega) (by omega) rfl) rfl rfl ?_)
    refine TL_storeB (i := 2) (cs' := (tdC d).toArray) rfl rfl rfl rfl rfl rfl ?_
    conv => arg 8; simp only [zA, zB, zC, zD, zE, zF, zG, zH, zI, rowS, ret, id_eq]
    repeat (first
      | refine qv rfl (qp rfl) rfl rfl ?_ | refine TL_nil ?_ | refine T_seq ?_ | refine T_region ?_ | refine T_ret ?_ | refine E_then ?_ | refine E_thenR ?_
      | refine qv rfl (qlen Und.eq rfl) rfl rfl ?_ | refine qv rfl (qfld FldC.fld rfl rfl) rfl rfl ?_ | refine qv rfl (rr_nilc rfl) rfl rfl ?_
      | refine qv rfl (rr_sub64 rfl rfl (by omega) (by omega) rfl) rfl rfl ?_)
    refine E_reown (i := 1) (tdO (.slice (some ⟨g, 0, none⟩) r.length cap) r) rfl (fun w h => td_less h) (fun k hk => hk) ?_
    exact E_retc1 (i := 2) rfl rfl rfl rfl fun w hm => hm.meetsB (S := ⟨fun (_ : Value) => True, fun _ => tdV d, fun vt' => [cwO gw t n vp vt' vo acts, tdO vt' r]⟩) (.slice (some ⟨g, 0, none⟩) r.length cap) trivial [0, 1] (by decide) rfl
  · refine TL_val (rr_load1 (v := .slice (some ⟨g, 0, none⟩) (r.length + 1) cap) TyC.ty rfl (at_blk (i := 0) rfl rfl)) rfl rfl rfl (TW_on (sub_pick [] (by decide) rfl) ?_)
    repeat (first
      | ((first | refine TW_plain rfl rfl ?_ | refine TW_gmet rfl rfl rfl rfl ?_); first | refine TN_val (qp rfl) rfl rfl ?_ | refine TN_val (rr_sub64 (r := (r.length : Int)) rfl rfl (by omega) (by omega) (by omega)) rfl rfl ?_ | refine TN_val (qlen Und.eq rfl) rfl rfl ?_ | refine TN_val (qfld FldC.fld rfl rfl) rfl rfl ?_ | refine TN_val (rr_nilc rfl) rfl rfl ?_ | refine TN_val (rr_sub64 rfl rfl (by omega) (by omega) rfl) rfl rfl ?_)
      | refine TW_done ?_)
    refine TW_one rfl (TL_val (rr_load1 (v := .slice (some ⟨g, 0, none⟩) (r.length + 1) cap) TyC.ty rfl (at_blk (i := 0) rfl rfl)) rfl rfl rfl (TW_on (sub_pick [] (by decide) rfl) ?_))
    repeat (first
      | ((first | refine TW_plain rfl rfl ?_ | refine TW_gmet rfl rfl rfl rfl ?_); first | refine TN_val (qp rfl) rfl rfl ?_ | refine TN_val (rr_slpre (j := r.length) Und.eq TyC.ty rfl rfl (by omega)) rfl rfl ?_ | refine TN_val (qlen Und.eq rfl) rfl rfl ?_ | refine TN_val (qfld FldC.fld rfl rfl) rfl rfl ?_ | refine TN_val (rr_nilc rfl) rfl rfl ?_ | refine TN_val (rr_sub64 rfl rfl (by omega) (by omega) rfl) rfl rfl ?_)
      | refine TW_done ?_)
    refine TW_one rfl (TL_store1 (i := 0) rfl rfl rfl rfl rfl rfl (TW_on (sub_pick [] (by decide) rfl) ?_))
    rw [show (cwV t n vp (.slice (some ⟨g, 0, none⟩) (r.length + 1) cap) vo acts).setIfInBounds (0 + 3) (.slice (some ⟨g, 0, none⟩) r.length cap) = cwV t n vp (.slice (some ⟨g, 0, none⟩) r.length cap) vo acts from rfl]
    repeat (first
      | ((first | refine TW_plain rfl rfl ?_ | refine TW_gmet rfl rfl rfl rfl ?_); first | refine TN_val (qp rfl) rfl rfl ?_ | refine TN_val (qlen Und.eq rfl) rfl rfl ?_ | refine TN_val (qfld FldC.fld rfl rfl) rfl rfl ?_ | refine TN_val (rr_nilc rfl) rfl rfl ?_ | refine TN_val (rr_sub64 rfl rfl (by omega) (by omega) rfl) rfl rfl ?_)
      | refine TW_done ?_)
    repeat (first
      | refine qv rfl (qp rfl) rfl rfl ?_ | refine TL_nil ?_ | refine T_seq ?_ | refine T_region ?_ | refine T_ret ?_ | refine E_then ?_ | refine E_thenR ?_
      | refine qv rfl (rr_loadB (i := 3) TyC.ty rfl rfl rfl) rfl rfl ?_ | refine qv rfl (qlen Und.eq rfl) rfl rfl ?_
      | refine qv rfl (qfld FldC.fld rfl rfl) rfl rfl ?_ | refine qv rfl (rr_nilc rfl) rfl rfl ?_
      | refine qv rfl (rr_sub64 rfl rfl (by omega) (by omega) rfl) rfl rfl ?_)
    refine TL_storeB (i := 2) (cs' := (tdC d).toArray) rfl rfl rfl rfl rfl rfl ?_
    conv => arg 8; simp only [zA, zB, zC, zD, zE, zF, zG, zH, zI, rowS, ret, id_eq]
    repeat (first
      | refine qv rfl (qp rfl) rfl rfl ?_ | refine TL_nil ?_ | refine T_seq ?_ | refine T_region ?_ | refine T_ret ?_ | refine E_then ?_ | refine E_thenR ?_
      | refine qv rfl (qlen Und.eq rfl) rfl rfl ?_ | refine qv rfl (qfld FldC.fld rfl rfl) rfl rfl ?_ | refine qv rfl (rr_nilc rfl) rfl rfl ?_
      | refine qv rfl (rr_sub64 rfl rfl (by omega) (by omega) rfl) rfl rfl ?_)
    refine E_reown (i := 1) (tdO (.slice (some ⟨g, 0, none⟩) r.length cap) r) rfl (fun w h => td_less h) (fun k hk => hk) ?_
    exact E_retc1 (i := 2) rfl rfl rfl rfl fun w hm => hm.meetsB (S := ⟨fun (_ : Value) => True, fun _ => tdV d, fun vt' => [cwO gw t n vp vt' vo acts, tdO vt' r]⟩) (.slice (some ⟨g, 0, none⟩) r.length cap) trivial [0, 1] (by decide) rfl
theorem closes_nil (out : List Sym) (a : Nat) : closesF [] out a = ([], out, a, true) := rfl
theorem closes_sym (x : Sym) (r : List TD) (out : List Sym) (a : Nat) : closesF (.sym x :: r) out a = (.sym x :: r, out, a, true) := rfl
theorem closes_yes (p : Int) (r : List TD) (out : List Sym) {a : Nat} (h : a + 1 ≤ 2000) : closesF (.close p :: r) out a = closesF r (out ++ [(3, p)]) (a + 1) := by rw [closesF, if_pos h]
theorem closes_no (p : Int) (r : List TD) (out : List Sym) {a : Nat} (h : ¬ a + 1 ≤ 2000) : closesF (.close p :: r) out a = (r, out ++ [(3, p)], a + 1, false) := by rw [closesF, if_neg h]
def clS (gw : Nat) (t n : Int) (vp : Value) (c : List TD × List Sym × Nat × Bool) : Spec (Value × Value) := ⟨fun _ => True, fun _ => .bool c.2.2.2, fun x => [cwO gw t n vp x.1 x.2 c.2.2.1, tdO x.1 c.1, evO x.2 c.2.1]⟩
set_option maxHeartbeats 2000000 in
theorem workCloses_calls (gw : Nat) (t n : Int) (vp vt0 vo0 : Value) (st0 : List TD) (out0 : List Sym) (acts0 : Nat) (w : World) (B : Base) (h1 : st0.length ≤ 100000) (h2 : acts0 ≤ 2000) (h3 : out0.length = acts0) (hm : Mem B [cwO gw t n vp vt0 vo0 acts0, tdO vt0 st0, evO vo0 out0] w) :
    Calls Try.prog 34 #[.pointer (some ⟨gw, 0, none⟩)] w (MeetsB (clS gw t n vp (closesF st0 out0 acts0)) B) := by
  refine enterB hm (args := [.pointer (some ⟨gw, 0, none⟩)]) (n := 30) Try.func34 rfl rfl rfl ?_
  clear hm
  repeat (first
    | refine qv rfl (qp rfl) rfl rfl ?_ | refine TL_nil ?_ | refine T_seq ?_ | refine T_region ?_ | refine qcT rfl ?_ | refine qcF rfl ?_ | refine T_skip ?_
    | refine T_exit ?_ | refine T_ret ?_ | refine T_block ?_ | refine E_then ?_ | refine E_thenX ?_ | refine E_thenR ?_ | refine E_blockN ?_
    | refine E_blockR ?_ | refine E_blockX ?_ | refine E_blockO rfl ?_ | refine qs rfl rfl rfl rfl rfl rfl ?_
    | ((try refine qg rfl rfl rfl ?_); first | refine qv rfl (qp rfl) rfl rfl ?_ | refine qv rfl (qlen Und.eq rfl) rfl rfl ?_ | refine qv rfl (qfld FldC.fld rfl rfl) rfl rfl ?_ | refine qv rfl (rr_not rfl rfl) rfl rfl ?_ | refine qv rfl (rr_nilc rfl) rfl rfl ?_ | refine qv rfl (rr_gtr rfl rfl (qT (by omega))) rfl rfl ?_ | refine qv rfl (rr_gtr rfl rfl (qF (by omega))) rfl rfl ?_ | refine qv rfl (rr_sub64 rfl rfl (by omega) (by omega) rfl) rfl rfl ?_))
  generalize hC : closesF st0 out0 acts0 = C
  refine T_loop (ι := List TD × List Sym × Nat × Value × Value) (fun (st, out, acts, _, _) => closesF st out acts = C ∧ st.length ≤ 100000 ∧ acts ≤ 2000 ∧ out.length = acts) (fun _ => [(0, .pointer (some ⟨gw, 0, none⟩))]) (fun (st, out, acts, vt, vo) => [cwO gw t n vp vt vo acts, tdO vt st, evO vo out]) (fun (st, _, _, _, _) => st.length) (st0, out0, acts0, vt0, vo0) ⟨hC, h1, h2, h3⟩ (by repeat' (first | exact True.intro | refine And.intro rfl ?_)) rfl ?_
  clear h1 h2 h3 hC
  rintro ⟨st, out, acts, vt, vo⟩ ⟨hC, h1, h2, h3⟩
  dsimp only at hC h1 h2 h3 ⊢
  cases st with
  | nil =>
    rw [closes_nil] at hC
    subst hC
    (repeat refine T_seq ?_)
    refine T_ord ([cwO gw t n vp vt vo acts, tdO vt []]) (.calm 0 (.calm 1 (.calm 2 (.calm 3 (.calm 4 (.calm 5 (.calm 6 (.calm 7 (.calm 8 (.calm 9 (.calm 10 (.calm 11 (.calm 12 (.calm 13 (.calm 14 (.calm 15 (.calm 16 (.calm 17 (.calm 18 (.calm 19 (.calm 20 (.done)))))))))))))))))))))) (sub_pick [0, 1] (by decide) rfl) (by kernel_rfl) (by kernel_rfl) (by intro c a d v w h; cases d <;> exact h) ?_
    repeat (first
      | ((first | refine TW_plain rfl rfl ?_ | refine TW_gmet rfl rfl rfl rfl ?_); first | refine TN_val (qp rfl) rfl rfl ?_ | refine TN_val (rr_load1 (v := vt) TyC.ty rfl (at_blk (i := 0) rfl rfl)) rfl rfl ?_ | refine TN_val (rr_rowlen (i := 1) Und.eq rfl rfl) rfl rfl ?_ | refine TN_val (rr_gtr (b := false) rfl rfl rfl) rfl rfl ?_ | refine TN_val (qlen Und.eq rfl) rfl rfl ?_ | refine TN_val (qfld FldC.fld rfl rfl) rfl rfl ?_ | refine TN_val (rr_not rfl rfl) rfl rfl ?_ | refine TN_val (rr_nilc rfl) rfl rfl ?_ | refine TN_val (rr_gtr rfl rfl (qT (by omega))) rfl rfl ?_ | refine TN_val (rr_gtr rfl rfl (qF (by omega))) rfl rfl ?_ | refine TN_val (rr_sub64 rfl rfl (by omega) (by omega) rfl) rfl rfl ?_)
      | refine TW_skip rfl rfl rfl rfl rfl rfl rfl ?_ | refine TW_done ?_)
    repeat (first
      | refine qv rfl (qp rfl) rfl rfl ?_ | refine TL_nil ?_ | refine T_seq ?_ | refine T_region ?_ | refine qcT rfl ?_ | refine qcF rfl ?_ | refine T_skip ?_
      | refine T_exit ?_ | refine T_ret ?_ | refine T_block ?_ | refine E_then ?_ | refine E_thenX ?_ | refine E_thenR ?_ | refine E_blockN ?_
      | refine E_blockR ?_ | refine E_blockX ?_ | refine E_blockO rfl ?_ | refine qs rfl rfl rfl rfl rfl rfl ?_
      | ((try refine qg rfl rfl rfl ?_); first | refine qv rfl (qp rfl) rfl rfl ?_ | refine qv rfl (qlen Und.eq rfl) rfl rfl ?_ | refine qv rfl (qfld FldC.fld rfl rfl) rfl rfl ?_ | refine qv rfl (rr_not rfl rfl) rfl rfl ?_ | refine qv rfl (rr_nilc rfl) rfl rfl ?_ | refine qv rfl (rr_gtr rfl rfl (qT (by omega))) rfl rfl ?_ | refine qv rfl (rr_gtr rfl rfl (qF (by omega))) rfl rfl ?_ | refine qv rfl (rr_sub64 rfl rfl (by omega) (by omega) rfl) rfl rfl ?_))
    exact E_ret1 rfl rfl fun w hm => hm.meetsB (S := clS gw t n vp ([], out, acts, true)) (vt, vo) trivial [0, 1, 2] (by decide) rfl
  | cons d r =>
    simp only [List.length_cons] at h1
    refine T_rowN (i := 1) rfl (by simp) fun g cap hv q1 q2 => ?_
    subst hv
    simp only [List.length_cons] at *
    cases d with
    | sym x =>
      rw [closes_sym] at hC
      subst hC
      (repeat refine T_seq ?_)
      refine T_ord ([cwO gw t n vp (.slice (some ⟨g, 0, none⟩) (r.length + 1) cap) vo acts, tdO (.slice (some ⟨g, 0, none⟩) (r.length + 1) cap) (.sym x :: r)]) (.calm 0 (.calm 1 (.calm 2 (.calm 3 (.calm 4 (.calm 5 (.calm 6 (.calm 7 (.calm 8 (.calm 9 (.calm 10 (.calm 11 (.calm 12 (.calm 13 (.calm 14 (.calm 15 (.calm 16 (.calm 17 (.calm 18 (.calm 19 (.calm 20 (.done)))))))))))))))))))))) (sub_pick [0, 1] (by decide) rfl) (by kernel_rfl) (by kernel_rfl) (by intro c a d v w h; cases d <;> exact h) ?_
      repeat (first
        | ((first | refine TW_plain rfl rfl ?_ | refine TW_gmet rfl rfl rfl rfl ?_); first | refine TN_val (qp rfl) rfl rfl ?_ | refine TN_val (rr_load1 (v := .slice (some ⟨g, 0, none⟩) (r.length + 1) cap) TyC.ty rfl (at_blk (i := 0) rfl rfl)) rfl rfl ?_ | refine TN_val (rr_load1 (v := .bool false) TyC.ty rfl (td_at (i := 1) rfl 0 _ rfl)) rfl rfl ?_ | refine TN_val (qlen Und.eq rfl) rfl rfl ?_ | refine TN_val (qfld FldC.fld rfl rfl) rfl rfl ?_ | refine TN_val (rr_not rfl rfl) rfl rfl ?_ | refine TN_val (rr_nilc rfl) rfl rfl ?_ | refine TN_val (rr_gtr rfl rfl (qT (by omega))) rfl rfl ?_ | refine TN_val (rr_gtr rfl rfl (qF (by omega))) rfl rfl ?_ | refine TN_val (rr_sub64 (r := (r.length : Int)) rfl rfl (by omega) (by omega) (by omega)) rfl rfl ?_ | refine TN_val (rr_idxc (j := r.length) Und.eq TyC.ty rfl rfl (by omega)) rfl rfl ?_ | refine TN_val (rr_sub64 rfl rfl (by omega) (by omega) rfl) rfl rfl ?_)
        | refine TW_skip rfl rfl rfl rfl rfl rfl rfl ?_ | refine TW_done ?_)
      repeat (first
        | refine qv rfl (qp rfl) rfl rfl ?_ | refine TL_nil ?_ | refine T_seq ?_ | refine T_region ?_ | refine qcT rfl ?_ | refine qcF rfl ?_ | refine T_skip ?_
        | refine T_exit ?_ | refine T_ret ?_ | refine T_block ?_ | refine E_then ?_ | refine E_thenX ?_ | refine E_thenR ?_ | refine E_blockN ?_
        | refine E_blockR ?_ | refine E_blockX ?_ | refine E_blockO rfl ?_ | refine qs rfl rfl rfl rfl rfl rfl ?_
        | ((try refine qg rfl rfl rfl ?_); first | refine qv rfl (qp rfl) rfl rfl ?_ | refine qv rfl (qlen Und.eq rfl) rfl rfl ?_ | refine qv rfl (qfld FldC.fld rfl rfl) rfl rfl ?_ | refine qv rfl (rr_not rfl rfl) rfl rfl ?_ | refine qv rfl (rr_nilc rfl) rfl rfl ?_ | refine qv rfl (rr_gtr rfl rfl (qT (by omega))) rfl rfl ?_ | refine qv rfl (rr_gtr rfl rfl (qF (by omega))) rfl rfl ?_ | refine qv rfl (rr_sub64 rfl rfl (by omega) (by omega) rfl) rfl rfl ?_))
      exact E_ret1 rfl rfl fun w hm => hm.meetsB (S := clS gw t n vp (.sym x :: r, out, acts, true)) (_, vo) trivial [0, 1, 2] (by decide) rfl
    | close p =>
      (repeat refine T_seq ?_)
      refine T_ord ([cwO gw t n vp (.slice (some ⟨g, 0, none⟩) (r.length + 1) cap) vo acts, tdO (.slice (some ⟨g, 0, none⟩) (r.length + 1) cap) (.close p :: r)]) (.calm 0 (.calm 1 (.calm 2 (.calm 3 (.calm 4 (.calm 5 (.calm 6 (.calm 7 (.calm 8 (.calm 9 (.calm 10 (.calm 11 (.calm 12 (.calm 13 (.calm 14 (.calm 15 (.calm 16 (.calm 17 (.calm 18 (.calm 19 (.calm 20 (.done)))))))))))))))))))))) (sub_pick [0, 1] (by decide) rfl) (by kernel_rfl) (by kernel_rfl) (by intro c a d v w h; cases d <;> exact h) ?_
      repeat (first
        | ((first | refine TW_plain rfl rfl ?_ | refine TW_gmet rfl rfl rfl rfl ?_); first | refine TN_val (qp rfl) rfl rfl ?_ | refine TN_val (rr_load1 (v := .slice (some ⟨g, 0, none⟩) (r.length + 1) cap) TyC.ty rfl (at_blk (i := 0) rfl rfl)) rfl rfl ?_ | refine TN_val (rr_load1 (v := .bool true) TyC.ty rfl (td_at (i := 1) rfl 0 _ rfl)) rfl rfl ?_ | refine TN_val (qlen Und.eq rfl) rfl rfl ?_ | refine TN_val (qfld FldC.fld rfl rfl) rfl rfl ?_ | refine TN_val (rr_not rfl rfl) rfl rfl ?_ | refine TN_val (rr_nilc rfl) rfl rfl ?_ | refine TN_val (rr_gtr rfl rfl (qT (by omega))) rfl rfl ?_ | refine TN_val (rr_gtr rfl rfl (qF (by omega))) rfl rfl ?_ | refine TN_val (rr_sub64 (r := (r.length : Int)) rfl rfl (by omega) (by omega) (by omega)) rfl rfl ?_ | refine TN_val (rr_idxc (j := r.length) Und.eq TyC.ty rfl rfl (by omega)) rfl rfl ?_ | refine TN_val (rr_sub64 rfl rfl (by omega) (by omega) rfl) rfl rfl ?_)
        | refine TW_skip rfl rfl rfl rfl rfl rfl rfl ?_ | refine TW_done ?_)
      repeat (first
        | refine qv rfl (qp rfl) rfl rfl ?_ | refine TL_nil ?_ | refine T_seq ?_ | refine T_region ?_ | refine qcT rfl ?_ | refine qcF rfl ?_ | refine T_skip ?_
        | refine T_exit ?_ | refine T_ret ?_ | refine T_block ?_ | refine E_then ?_ | refine E_thenX ?_ | refine E_thenR ?_ | refine E_blockN ?_
        | refine E_blockR ?_ | refine E_blockX ?_ | refine E_blockO rfl ?_ | refine qs rfl rfl rfl rfl rfl rfl ?_
        | ((try refine qg rfl rfl rfl ?_); first | refine qv rfl (qp rfl) rfl rfl ?_ | refine qv rfl (qlen Und.eq rfl) rfl rfl ?_ | refine qv rfl (qfld FldC.fld rfl rfl) rfl rfl ?_ | refine qv rfl (rr_not rfl rfl) rfl rfl ?_ | refine qv rfl (rr_nilc rfl) rfl rfl ?_ | refine qv rfl (rr_gtr rfl rfl (qT (by omega))) rfl rfl ?_ | refine qv rfl (rr_gtr rfl rfl (qF (by omega))) rfl rfl ?_ | refine qv rfl (rr_sub64 rfl rfl (by omega) (by omega) rfl) rfl rfl ?_))
      refine TL_callB [0, 1] [2] (by decide) rfl rfl (he1 EntersC.en rfl rfl) (fun w hm hb => pop_calls gw t n vp _ vo (.close p) r acts w _ (by omega) hb) rfl rfl rfl ?_
      intro vt' _
      conv => arg 8; simp only [zA, zB, zC, zD, zE, zF, zG, zH, zI, rowS, ret, id_eq]
      dsimp only
      repeat (first
        | refine qv rfl (qp rfl) rfl rfl ?_ | refine TL_nil ?_ | refine T_seq ?_ | refine T_region ?_ | refine qcT rfl ?_ | refine qcF rfl ?_ | refine T_skip ?_
        | refine T_exit ?_ | refine T_ret ?_ | refine T_block ?_ | refine E_then ?_ | refine E_thenX ?_ | refine E_thenR ?_ | refine E_blockN ?_
        | refine E_blockR ?_ | refine E_blockX ?_ | refine E_blockO rfl ?_ | refine qs rfl rfl rfl rfl rfl rfl ?_
        | ((try refine qg rfl rfl rfl ?_); first | refine qv rfl (qp rfl) rfl rfl ?_ | refine qv rfl (rr_vfld rfl (field_td1 (.close p))) rfl rfl ?_ | refine qv rfl (qlen Und.eq rfl) rfl rfl ?_ | refine qv rfl (qfld FldC.fld rfl rfl) rfl rfl ?_ | refine qv rfl (rr_not rfl rfl) rfl rfl ?_ | refine qv rfl (rr_nilc rfl) rfl rfl ?_ | refine qv rfl (rr_gtr rfl rfl (qT (by omega))) rfl rfl ?_ | refine qv rfl (rr_gtr rfl rfl (qF (by omega))) rfl rfl ?_ | refine qv rfl (rr_sub64 rfl rfl (by omega) (by omega) rfl) rfl rfl ?_))
      refine TL_callB [1, 0] [2] (by decide) rfl rfl (he3 EntersC.en rfl rfl rfl rfl) (fun w hm hb => act_calls gw t n vp vt' vo out acts 3 p w _ (by omega) (by omega) hb) rfl rfl rfl ?_
      intro vo' _
      conv => arg 8; simp only [zA, zB, zC, zD, zE, zF, zG, zH, zI, rowS, ret, id_eq]
      dsimp only
      by_cases c : acts + 1 ≤ 2000
      · rw [closes_yes p r out c] at hC
        rw [decide_eq_true (show ((acts + 1 : Nat) : Int) ≤ 2000 by omega)]
        repeat (first
          | refine qv rfl (qp rfl) rfl rfl ?_ | refine TL_nil ?_ | refine T_seq ?_ | refine T_region ?_ | refine qcT rfl ?_ | refine qcF rfl ?_ | refine T_skip ?_
          | refine T_exit ?_ | refine T_ret ?_ | refine T_block ?_ | refine E_then ?_ | refine E_thenX ?_ | refine E_thenR ?_ | refine E_blockN ?_
          | refine E_blockR ?_ | refine E_blockX ?_ | refine E_blockO rfl ?_ | refine qs rfl rfl rfl rfl rfl rfl ?_
          | ((try refine qg rfl rfl rfl ?_); first | refine qv rfl (qp rfl) rfl rfl ?_ | refine qv rfl (qlen Und.eq rfl) rfl rfl ?_ | refine qv rfl (qfld FldC.fld rfl rfl) rfl rfl ?_ | refine qv rfl (rr_not rfl rfl) rfl rfl ?_ | refine qv rfl (rr_nilc rfl) rfl rfl ?_ | refine qv rfl (rr_gtr rfl rfl (qT (by omega))) rfl rfl ?_ | refine qv rfl (rr_gtr rfl rfl (qF (by omega))) rfl rfl ?_ | refine qv rfl (rr_sub64 rfl rfl (by omega) (by omega) rfl) rfl rfl ?_))
        refine E_pick [1, 0, 2] (by decide) rfl ?_
        exact E_round (r, out ++ [(3, p)], acts + 1, vt', vo') ⟨hC, (by show r.length ≤ 100000; omega), c, by simp [h3]⟩ (by show r.length < r.length + 1; omega) (by repeat' (first | exact True.intro | refine And.intro rfl ?_)) rfl
      · rw [closes_no p r out c] at hC
        subst hC
        rw [decide_eq_false (show ¬ ((acts + 1 : Nat) : Int) ≤ 2000 by omega)]
        repeat (first
          | refine qv rfl (qp rfl) rfl rfl ?_ | refine TL_nil ?_ | refine T_seq ?_ | refine T_region ?_ | refine qcT rfl ?_ | refine qcF rfl ?_ | refine T_skip ?_
          | refine T_exit ?_ | refine T_ret ?_ | refine T_block ?_ | refine E_then ?_ | refine E_thenX ?_ | refine E_thenR ?_ | refine E_blockN ?_
          | refine E_blockR ?_ | refine E_blockX ?_ | refine E_blockO rfl ?_ | refine qs rfl rfl rfl rfl rfl rfl ?_
          | ((try refine qg rfl rfl rfl ?_); first | refine qv rfl (qp rfl) rfl rfl ?_ | refine qv rfl (qlen Und.eq rfl) rfl rfl ?_ | refine qv rfl (qfld FldC.fld rfl rfl) rfl rfl ?_ | refine qv rfl (rr_not rfl rfl) rfl rfl ?_ | refine qv rfl (rr_nilc rfl) rfl rfl ?_ | refine qv rfl (rr_gtr rfl rfl (qT (by omega))) rfl rfl ?_ | refine qv rfl (rr_gtr rfl rfl (qF (by omega))) rfl rfl ?_ | refine qv rfl (rr_sub64 rfl rfl (by omega) (by omega) rfl) rfl rfl ?_))
        exact E_ret1 rfl rfl fun w hm => hm.meetsB (S := clS gw t n vp (r, out ++ [(3, p)], acts + 1, false)) (vt', vo') trivial [1, 0, 2] (by decide) rfl
theorem td_push (r : List TD) (d : TD) : (r.reverse.flatMap tdC) ++ tdC d = (d :: r).reverse.flatMap tdC := by simp
/-- how far a production is opened -/
def stO (p : Nat) (r : List TD) (body : List Sym) (j : Nat) : List TD := (body.drop (body.length - j)).map .sym ++ .close (p : Int) :: r
theorem stO_0 (p : Nat) (r : List TD) (body : List Sym) : stO p r body 0 = .close (p : Int) :: r := by unfold stO; rw [Nat.sub_zero, List.drop_length]; rfl
theorem stO_end (p : Nat) (r : List TD) (body : List Sym) : stO p r body body.length = body.map .sym ++ .close (p : Int) :: r := by unfold stO; rw [Nat.sub_self, List.drop_zero]
theorem stO_step (p : Nat) (r : List TD) {body : List Sym} {k : Nat} (hk : k < body.length) : stO p r body (body.length - k) = .sym body[k] :: stO p r body (body.length - k - 1) := by
  unfold stO
  rw [show body.length - (body.length - k) = k by omega, show body.length - (body.length - k - 1) = k + 1 by omega, List.drop_eq_getElem_cons hk]; rfl
def opS (gw : Nat) (t n : Int) (vp : Value) (st : List TD) (out : List Sym) (acts : Nat) : Spec (Value × Value) := ⟨fun _ => True, fun _ => .bool (decide (acts ≤ 2000 ∧ st.length ≤ 60)), fun x => [cwO gw t n vp x.1 x.2 acts, tdO x.1 st, evO x.2 out]⟩
set_option maxHeartbeats 2000000 in
attribute [local irreducible] Instr.build in
theorem open_calls (w0 : World) (gw : Nat) (t n : Int) (vp : Value) (prods : List gramL.Prod) (hG : SlF prodS (fun k => k < w0.heap.size) w0 vp prods) (hlen : prods.length ≤ 100000) (p : Nat) (hp : p < prods.length) (h8 : prods[p].2.length ≤ 8) (vt vo : Value) (d : TD) (r : List TD) (out : List Sym) (acts : Nat) (w : World) (B : Base) (h1 : r.length ≤ 100) (h2 : acts ≤ 2000) (h3 : out.length = acts) (ho : Old w0 B) (hm : Mem B [cwO gw t n vp vt vo acts, tdO vt (d :: r), evO vo out] w) :
    Calls Try.prog 57 #[.pointer (some ⟨gw, 0, none⟩), .int .i64 (p : Int)] w (MeetsB (opS gw t n vp (opened prods p r) (out ++ [(1, (p : Int))]) (acts + 1)) B) := by
  obtain ⟨bp, cp, rfl, hcp, hmp, hrp⟩ := hG
  unfold maxLen at hmp
  obtain ⟨b, off, rfl, _, hr⟩ := hrp (by omega)
  obtain ⟨bb, cb, y1, y2, y3⟩ := prod_at hr hp
  have hopen : opened prods (p : Int) r = prods[p].2.map .sym ++ .close (p : Int) :: r := by unfold opened prodAt; rw [Int.toNat_natCast, List.getD_eq_getElem?_getD, List.getElem?_eq_getElem hp]; rfl
  rw [hopen]
  clear hopen hrp hr
  have hat1 : ∀ (L : List Own), At B L ⟨b, off + p * 2 + 1, none⟩ (.slice bb prods[p].2.length cb) := fun L => at_old0 ho (y1 1 _ rfl)
  have hfl := y3.flat (by decide)
  generalize prods[p].2 = body at *
  clear y1 y2 y3
  obtain ⟨b2, cb2, he, hb4, hb5, hb6⟩ := hfl
  simp only [Value.slice.injEq, true_and] at he
  obtain ⟨rfl, rfl⟩ := he
  refine enterB hm (args := [.pointer (some ⟨gw, 0, none⟩), .int .i64 (p : Int)]) (n := 61) Try.func57 rfl rfl rfl ?_
  clear hm
  repeat (first
    | refine qv rfl (qp rfl) rfl rfl ?_ | refine TL_nil ?_ | refine T_seq ?_ | refine T_region ?_ | refine qcT rfl ?_ | refine qcF rfl ?_ | refine T_skip ?_
    | refine T_exit ?_ | refine T_ret ?_ | refine T_block ?_ | refine E_then ?_ | refine E_thenX ?_ | refine E_thenR ?_ | refine E_blockN ?_
    | refine E_blockR ?_ | refine E_blockX ?_ | refine E_blockO rfl ?_ | refine qs rfl rfl rfl rfl rfl rfl ?_
    | ((try refine qg rfl rfl rfl ?_); first | refine qv rfl (qp rfl) rfl rfl ?_ | refine qv rfl (qlen Und.eq rfl) rfl rfl ?_ | refine qv rfl (qfld FldC.fld rfl rfl) rfl rfl ?_ | refine qv rfl (rr_nilc rfl) rfl rfl ?_ | refine qv rfl (rr_geq rfl rfl (qT (by omega))) rfl rfl ?_ | refine qv rfl (rr_geq rfl rfl (qF (by omega))) rfl rfl ?_ | refine qv rfl (rr_sub64 rfl rfl (by omega) (by omega) rfl) rfl rfl ?_ | refine qv rfl (rr_leq rfl rfl (qT (by omega))) rfl rfl ?_ | refine qv rfl (rr_leq rfl rfl (qF (by omega))) rfl rfl ?_))
  refine TL_callB [0, 1] [2] (by decide) rfl rfl (he1 EntersC.en rfl rfl) (fun w hm hb => pop_calls gw t n _ vt vo d r acts w _ (by omega) hb) rfl rfl rfl ?_
  intro vt1 _
  conv => arg 8; simp only [zA, zB, zC, zD, zE, zF, zG, zH, zI, rowS, ret, id_eq]
  dsimp only
  refine TL_slv (i := 2) rfl fun hv1 hv2 => ?_
  repeat (first
    | refine qv rfl (qp rfl) rfl rfl ?_ | refine TL_nil ?_ | refine T_seq ?_ | refine T_region ?_ | refine qcT rfl ?_ | refine qcF rfl ?_ | refine T_skip ?_
    | refine T_exit ?_ | refine T_ret ?_ | refine T_block ?_ | refine E_then ?_ | refine E_thenX ?_ | refine E_thenR ?_ | refine E_blockN ?_
    | refine E_blockR ?_ | refine E_blockX ?_ | refine E_blockO rfl ?_ | refine qs rfl rfl rfl rfl rfl rfl ?_
    | ((try refine qg rfl rfl rfl ?_); first | refine qv rfl (qp rfl) rfl rfl ?_ | refine qv rfl (rr_load1 TyC.ty rfl (at_blk (i := 1) rfl rfl)) rfl rfl ?_ | refine qv rfl (rr_build rfl (build_tdC _)) rfl rfl ?_ | refine qv rfl (qlen Und.eq rfl) rfl rfl ?_ | refine qv rfl (qfld FldC.fld rfl rfl) rfl rfl ?_ | refine qv rfl (rr_nilc rfl) rfl rfl ?_ | refine qv rfl (rr_geq rfl rfl (qT (by omega))) rfl rfl ?_ | refine qv rfl (rr_geq rfl rfl (qF (by omega))) rfl rfl ?_ | refine qv rfl (rr_sub64 rfl rfl (by omega) (by omega) rfl) rfl rfl ?_ | refine qv rfl (rr_leq rfl rfl (qT (by omega))) rfl rfl ?_ | refine qv rfl (rr_leq rfl rfl (qF (by omega))) rfl rfl ?_))
  refine TL_pushN (i := 2) rfl rfl rfl rfl rfl rfl rfl (fun z h => by cases h; rfl) (by omega) (by omega) rfl fun z' vt2 => ?_
  conv => arg 8; simp only [zA, zB, zC, zD, zE, zF, zG, zH, zI, rowS, ret, id_eq]
  refine TL_slv (i := 2) rfl fun hv1 hv2 => ?_
  repeat (first
    | refine qv rfl (qp rfl) rfl rfl ?_ | refine TL_nil ?_ | refine T_seq ?_ | refine T_region ?_ | refine qcT rfl ?_ | refine qcF rfl ?_ | refine T_skip ?_
    | refine T_exit ?_ | refine T_ret ?_ | refine T_block ?_ | refine E_then ?_ | refine E_thenX ?_ | refine E_thenR ?_ | refine E_blockN ?_
    | refine E_blockR ?_ | refine E_blockX ?_ | refine E_blockO rfl ?_ | refine qs rfl rfl rfl rfl rfl rfl ?_
    | ((try refine qg rfl rfl rfl ?_); first | refine qv rfl (qp rfl) rfl rfl ?_ | refine qv rfl (qlen Und.eq rfl) rfl rfl ?_ | refine qv rfl (qfld FldC.fld rfl rfl) rfl rfl ?_ | refine qv rfl (rr_nilc rfl) rfl rfl ?_ | refine qv rfl (rr_geq rfl rfl (qT (by omega))) rfl rfl ?_ | refine qv rfl (rr_geq rfl rfl (qF (by omega))) rfl rfl ?_ | refine qv rfl (rr_sub64 rfl rfl (by omega) (by omega) rfl) rfl rfl ?_ | refine qv rfl (rr_leq rfl rfl (qT (by omega))) rfl rfl ?_ | refine qv rfl (rr_leq rfl rfl (qF (by omega))) rfl rfl ?_))
  refine TL_store1 (i := 1) rfl rfl rfl hv1 hv2 rfl ?_
  rw [show (cwV t n (.slice (some ⟨b, off, none⟩) prods.length cp) vt1 vo acts).setIfInBounds (0 + 3) vt2 = cwV t n (.slice (some ⟨b, off, none⟩) prods.length cp) vt2 vo acts from rfl]
  conv => arg 8; simp only [zA, zB, zC, zD, zE, zF, zG, zH, zI, rowS, ret, id_eq]
  repeat (first
    | refine qv rfl (qp rfl) rfl rfl ?_ | refine TL_nil ?_ | refine T_seq ?_ | refine T_region ?_ | refine qcT rfl ?_ | refine qcF rfl ?_ | refine T_skip ?_
    | refine T_exit ?_ | refine T_ret ?_ | refine T_block ?_ | refine E_then ?_ | refine E_thenX ?_ | refine E_thenR ?_ | refine E_blockN ?_
    | refine E_blockR ?_ | refine E_blockX ?_ | refine E_blockO rfl ?_ | refine qs rfl rfl rfl rfl rfl rfl ?_
    | ((try refine qg rfl rfl rfl ?_); first | refine qv rfl (qp rfl) rfl rfl ?_ | refine qv rfl (rr_load1 (v := .slice (some ⟨b, off, none⟩) prods.length cp) TyC.ty rfl (at_blk (i := 1) rfl rfl)) rfl rfl ?_ | refine qv rfl (rr_idxc Und.eq TyC.ty rfl rfl hp) rfl rfl ?_ | refine qv rfl (rr_load1 TyC.ty rfl (hat1 _)) rfl rfl ?_ | refine qv rfl (rr_sub64 (r := (body.length : Int) - 1) rfl rfl (by omega) (by omega) rfl) rfl rfl ?_ | refine qv rfl (qlen Und.eq rfl) rfl rfl ?_ | refine qv rfl (qfld FldC.fld rfl rfl) rfl rfl ?_ | refine qv rfl (rr_nilc rfl) rfl rfl ?_ | refine qv rfl (rr_geq rfl rfl (qT (by omega))) rfl rfl ?_ | refine qv rfl (rr_geq rfl rfl (qF (by omega))) rfl rfl ?_ | refine qv rfl (rr_sub64 rfl rfl (by omega) (by omega) rfl) rfl rfl ?_ | refine qv rfl (rr_leq rfl rfl (qT (by omega))) rfl rfl ?_ | refine qv rfl (rr_leq rfl rfl (qF (by omega))) rfl rfl ?_))
  rw [td_push r (.close (p : Int))]
  refine T_loop (ι := Nat × Value) (fun (j, _) => j ≤ body.length) (fun (j, _) => [(0, .pointer (some ⟨gw, 0, none⟩)), (1, .int .i64 (p : Int)), (5, .slice bb body.length cb), (6, .int .i64 (((body.length - j : Nat) : Int) - 1))])
    (fun (j, vt) => [evO vo out, cwO gw t n (.slice (some ⟨b, off, none⟩) prods.length cp) vt vo acts, rowO 88 4 vt (r.length + 1 + j) ((stO p r body j).reverse.flatMap tdC)]) (fun (j, _) => body.length - j) (0, vt2) (Nat.zero_le _) (by repeat' (first | exact True.intro | refine And.intro rfl ?_)) (by dsimp only; rw [stO_0]) ?_
  rintro ⟨j, vt3⟩ hj
  dsimp only at hj ⊢
  by_cases c : j < body.length
  · obtain ⟨b4, off4, rfl, hr4⟩ := hb6 (by omega)
    have hk : body.length - 1 - j < body.length := by omega
    have hatx := fun L => at_elL (W := B) (L := L) (f := symC) (c := 2) (fun _ => rfl) (fun q x hq => at_old0 ho (hr4 q x hq)) hk
    have hst := stO_step p r hk
    rw [show body.length - (body.length - 1 - j) = j + 1 by omega, Nat.add_sub_cancel] at hst
    rw [show (((body.length - j : Nat) : Int) - 1) = ((body.length - 1 - j : Nat) : Int) by omega]
    generalize body[body.length - 1 - j] = x at *
    obtain ⟨xq, xm⟩ := x
    refine T_slv (i := 2) rfl fun hv1 hv2 => ?_
    repeat (first
      | refine qv rfl (qp rfl) rfl rfl ?_ | refine TL_nil ?_ | refine T_seq ?_ | refine T_region ?_ | refine qcT rfl ?_ | refine qcF rfl ?_ | refine T_skip ?_
      | refine T_exit ?_ | refine T_ret ?_ | refine T_block ?_ | refine E_then ?_ | refine E_thenX ?_ | refine E_thenR ?_ | refine E_blockN ?_
      | refine E_blockR ?_ | refine E_blockX ?_ | refine E_blockO rfl ?_ | refine qs rfl rfl rfl rfl rfl rfl ?_
      | ((try refine qg rfl rfl rfl ?_); first | refine qv rfl (qp rfl) rfl rfl ?_ | refine qv rfl (rr_geq (b := true) rfl rfl (decide_eq_true (by omega))) rfl rfl ?_ | refine qv rfl (qlen Und.eq rfl) rfl rfl ?_ | refine qv rfl (qfld FldC.fld rfl rfl) rfl rfl ?_ | refine qv rfl (rr_nilc rfl) rfl rfl ?_ | refine qv rfl (rr_geq rfl rfl (qT (by omega))) rfl rfl ?_ | refine qv rfl (rr_geq rfl rfl (qF (by omega))) rfl rfl ?_ | refine qv rfl (rr_sub64 rfl rfl (by omega) (by omega) rfl) rfl rfl ?_ | refine qv rfl (rr_leq rfl rfl (qT (by omega))) rfl rfl ?_ | refine qv rfl (rr_leq rfl rfl (qF (by omega))) rfl rfl ?_))
    refine T_ord ([]) (.calm 0 (.calm 1 (.calm 2 (.calm 3 (.calm 5 (.calm 6 (.calm 7 (.calm 8 (.calm 9 (.two 4 (.one 10 (.one 11 (.calm 12 (.calm 13 (.one 14 (.done)))))) 10 (.one 4 (.one 11 (.calm 12 (.calm 13 (.one 14 (.done)))))))))))))))) (sub_pick [] (by decide) rfl) (by kernel_rfl) (by kernel_rfl) (by intro c a d v w h; cases d <;> exact h) ?_
    repeat (first
      | ((first | refine TW_plain rfl rfl ?_ | refine TW_gmet rfl rfl rfl rfl ?_); first | refine TN_val (qp rfl) rfl rfl ?_ | refine TN_val (rr_idxc (j := body.length - 1 - j) Und.eq TyC.ty rfl rfl hk) rfl rfl ?_ | refine TN_val (rr_loadN TyC.ty rfl rfl (hatx _)) rfl rfl ?_ | refine TN_val (rr_build rfl (build_tdS (xq, xm))) rfl rfl ?_ | refine TN_val (qlen Und.eq rfl) rfl rfl ?_ | refine TN_val (qfld FldC.fld rfl rfl) rfl rfl ?_ | refine TN_val (rr_nilc rfl) rfl rfl ?_ | refine TN_val (rr_geq rfl rfl (qT (by omega))) rfl rfl ?_ | refine TN_val (rr_geq rfl rfl (qF (by omega))) rfl rfl ?_ | refine TN_val (rr_sub64 rfl rfl (by omega) (by omega) rfl) rfl rfl ?_ | refine TN_val (rr_leq rfl rfl (qT (by omega))) rfl rfl ?_ | refine TN_val (rr_leq rfl rfl (qF (by omega))) rfl rfl ?_)
      | refine TW_skip rfl rfl rfl rfl rfl rfl rfl ?_ | refine TW_done ?_)
    refine TW_two rfl rfl ?_ ?_
    · refine TL_val (rr_load1 (v := vt3) TyC.ty rfl (at_blk (i := 1) rfl rfl)) rfl rfl rfl (TW_on (sub_pick [] (by decide) rfl) ?_)
      refine TW_one rfl (TL_litN (cs := (tdC (.sym (xq, xm))).toArray) [tdV (.sym (xq, xm))] rfl rfl rfl (by intro v hv; simp at hv; subst hv; rfl) rfl rfl rfl fun g46 => (TW_on (sub_pick [] (by decide) rfl) ?_))
      refine TW_one rfl (TL_appSl (i := 2) (k := 1) (ys := tdC (.sym (xq, xm))) rfl (sl_blk (i := 3) rfl (fun j u h => by simpa using h) (Nat.le_refl 1) (by decide)) rfl rfl rfl (fun u hu => tdC_all [.sym (xq, xm)] u (by simpa using hu)) (by omega) (by omega) rfl fun v' => (TW_on (sub_pick [] (by decide) rfl) ?_))
      repeat (first
        | ((first | refine TW_plain rfl rfl ?_ | refine TW_gmet rfl rfl rfl rfl ?_); first | refine TN_val (qp rfl) rfl rfl ?_ | refine TN_val (qlen Und.eq rfl) rfl rfl ?_ | refine TN_val (qfld FldC.fld rfl rfl) rfl rfl ?_ | refine TN_val (rr_nilc rfl) rfl rfl ?_ | refine TN_val (rr_geq rfl rfl (qT (by omega))) rfl rfl ?_ | refine TN_val (rr_geq rfl rfl (qF (by omega))) rfl rfl ?_ | refine TN_val (rr_sub64 rfl rfl (by omega) (by omega) rfl) rfl rfl ?_ | refine TN_val (rr_leq rfl rfl (qT (by omega))) rfl rfl ?_ | refine TN_val (rr_leq rfl rfl (qF (by omega))) rfl rfl ?_)
        | refine TW_skip rfl rfl rfl rfl rfl rfl rfl ?_ | refine TW_done ?_)
      refine TW_one rfl (TL_slv (i := 2) rfl fun hv1 hv2 => TL_store1 (i := 1) rfl rfl rfl hv1 hv2 rfl (TW_on (sub_pick [] (by decide) rfl) ?_))
      rw [show (cwV t n (.slice (some ⟨b, off, none⟩) prods.length cp) vt3 vo acts).setIfInBounds (0 + 3) v' = cwV t n (.slice (some ⟨b, off, none⟩) prods.length cp) v' vo acts from rfl]
      repeat (first
        | ((first | refine TW_plain rfl rfl ?_ | refine TW_gmet rfl rfl rfl rfl ?_); first | refine TN_val (qp rfl) rfl rfl ?_ | refine TN_val (qlen Und.eq rfl) rfl rfl ?_ | refine TN_val (qfld FldC.fld rfl rfl) rfl rfl ?_ | refine TN_val (rr_nilc rfl) rfl rfl ?_ | refine TN_val (rr_geq rfl rfl (qT (by omega))) rfl rfl ?_ | refine TN_val (rr_geq rfl rfl (qF (by omega))) rfl rfl ?_ | refine TN_val (rr_sub64 rfl rfl (by omega) (by omega) rfl) rfl rfl ?_ | refine TN_val (rr_leq rfl rfl (qT (by omega))) rfl rfl ?_ | refine TN_val (rr_leq rfl rfl (qF (by omega))) rfl rfl ?_)
        | refine TW_skip rfl rfl rfl rfl rfl rfl rfl ?_ | refine TW_done ?_)
      repeat (first
        | refine qv rfl (qp rfl) rfl rfl ?_ | refine TL_nil ?_ | refine T_seq ?_ | refine T_region ?_ | refine qcT rfl ?_ | refine qcF rfl ?_ | refine T_skip ?_
        | refine T_exit ?_ | refine T_ret ?_ | refine T_block ?_ | refine E_then ?_ | refine E_thenX ?_ | refine E_thenR ?_ | refine E_blockN ?_
        | refine E_blockR ?_ | refine E_blockX ?_ | refine E_blockO rfl ?_ | refine qs rfl rfl rfl rfl rfl rfl ?_
        | ((try refine qg rfl rfl rfl ?_); first | refine qv rfl (qp rfl) rfl rfl ?_ | refine qv rfl (rr_sub64 (r := ((body.length - (j + 1) : Nat) : Int) - 1) rfl rfl (by omega) (by omega) (by omega)) rfl rfl ?_ | refine qv rfl (qlen Und.eq rfl) rfl rfl ?_ | refine qv rfl (qfld FldC.fld rfl rfl) rfl rfl ?_ | refine qv rfl (rr_nilc rfl) rfl rfl ?_ | refine qv rfl (rr_geq rfl rfl (qT (by omega))) rfl rfl ?_ | refine qv rfl (rr_geq rfl rfl (qF (by omega))) rfl rfl ?_ | refine qv rfl (rr_sub64 rfl rfl (by omega) (by omega) rfl) rfl rfl ?_ | refine qv rfl (rr_leq rfl rfl (qT (by omega))) rfl rfl ?_ | refine qv rfl (rr_leq rfl rfl (qF (by omega))) rfl rfl ?_))
      refine E_pick [0, 1, 2] (by decide) rfl ?_
      exact E_round (j + 1, v') (by show j + 1 ≤ body.length; omega) (by show body.length - (j + 1) < body.length - j; omega) (by repeat' (first | exact True.intro | refine And.intro rfl ?_)) (by dsimp only; rw [hst, ← td_push]; rfl)
    · refine TL_litN (cs := (tdC (.sym (xq, xm))).toArray) [tdV (.sym (xq, xm))] rfl rfl rfl (by intro v hv; simp at hv; subst hv; rfl) rfl rfl rfl fun g46 => (TW_on (sub_pick [] (by decide) rfl) ?_)
      refine TW_one rfl (TL_val (rr_load1 (v := vt3) TyC.ty rfl (at_blk (i := 1) rfl rfl)) rfl rfl rfl (TW_on (sub_pick [] (by decide) rfl) ?_))
      refine TW_one rfl (TL_appSl (i := 2) (k := 1) (ys := tdC (.sym (xq, xm))) rfl (sl_blk (i := 3) rfl (fun j u h => by simpa using h) (Nat.le_refl 1) (by decide)) rfl rfl rfl (fun u hu => tdC_all [.sym (xq, xm)] u (by simpa using hu)) (by omega) (by omega) rfl fun v' => (TW_on (sub_pick [] (by decide) rfl) ?_))
      repeat (first
        | ((first | refine TW_plain rfl rfl ?_ | refine TW_gmet rfl rfl rfl rfl ?_); first | refine TN_val (qp rfl) rfl rfl ?_ | refine TN_val (qlen Und.eq rfl) rfl rfl ?_ | refine TN_val (qfld FldC.fld rfl rfl) rfl rfl ?_ | refine TN_val (rr_nilc rfl) rfl rfl ?_ | refine TN_val (rr_geq rfl rfl (qT (by omega))) rfl rfl ?_ | refine TN_val (rr_geq rfl rfl (qF (by omega))) rfl rfl ?_ | refine TN_val (rr_sub64 rfl rfl (by omega) (by omega) rfl) rfl rfl ?_ | refine TN_val (rr_leq rfl rfl (qT (by omega))) rfl rfl ?_ | refine TN_val (rr_leq rfl rfl (qF (by omega))) rfl rfl ?_)
        | refine TW_skip rfl rfl rfl rfl rfl rfl rfl ?_ | refine TW_done ?_)
      refine TW_one rfl (TL_slv (i := 2) rfl fun hv1 hv2 => TL_store1 (i := 1) rfl rfl rfl hv1 hv2 rfl (TW_on (sub_pick [] (by decide) rfl) ?_))
      rw [show (cwV t n (.slice (some ⟨b, off, none⟩) prods.length cp) vt3 vo acts).setIfInBounds (0 + 3) v' = cwV t n (.slice (some ⟨b, off, none⟩) prods.length cp) v' vo acts from rfl]
      repeat (first
        | ((first | refine TW_plain rfl rfl ?_ | refine TW_gmet rfl rfl rfl rfl ?_); first | refine TN_val (qp rfl) rfl rfl ?_ | refine TN_val (qlen Und.eq rfl) rfl rfl ?_ | refine TN_val (qfld FldC.fld rfl rfl) rfl rfl ?_ | refine TN_val (rr_nilc rfl) rfl rfl ?_ | refine TN_val (rr_geq rfl rfl (qT (by omega))) rfl rfl ?_ | refine TN_val (rr_geq rfl rfl (qF (by omega))) rfl rfl ?_ | refine TN_val (rr_sub64 rfl rfl (by omega) (by omega) rfl) rfl rfl ?_ | refine TN_val (rr_leq rfl rfl (qT (by omega))) rfl rfl ?_ | refine TN_val (rr_leq rfl rfl (qF (by omega))) rfl rfl ?_)
        | refine TW_skip rfl rfl rfl rfl rfl rfl rfl ?_ | refine TW_done ?_)
      repeat (first
        | refine qv rfl (qp rfl) rfl rfl ?_ | refine TL_nil ?_ | refine T_seq ?_ | refine T_region ?_ | refine qcT rfl ?_ | refine qcF rfl ?_ | refine T_skip ?_
        | refine T_exit ?_ | refine T_ret ?_ | refine T_block ?_ | refine E_then ?_ | refine E_thenX ?_ | refine E_thenR ?_ | refine E_blockN ?_
        | refine E_blockR ?_ | refine E_blockX ?_ | refine E_blockO rfl ?_ | refine qs rfl rfl rfl rfl rfl rfl ?_
        | ((try refine qg rfl rfl rfl ?_); first | refine qv rfl (qp rfl) rfl rfl ?_ | refine qv rfl (rr_sub64 (r := ((body.length - (j + 1) : Nat) : Int) - 1) rfl rfl (by omega) (by omega) (by omega)) rfl rfl ?_ | refine qv rfl (qlen Und.eq rfl) rfl rfl ?_ | refine qv rfl (qfld FldC.fld rfl rfl) rfl rfl ?_ | refine qv rfl (rr_nilc rfl) rfl rfl ?_ | refine qv rfl (rr_geq rfl rfl (qT (by omega))) rfl rfl ?_ | refine qv rfl (rr_geq rfl rfl (qF (by omega))) rfl rfl ?_ | refine qv rfl (rr_sub64 rfl rfl (by omega) (by omega) rfl) rfl rfl ?_ | refine qv rfl (rr_leq rfl rfl (qT (by omega))) rfl rfl ?_ | refine qv rfl (rr_leq rfl rfl (qF (by omega))) rfl rfl ?_))
      refine E_pick [0, 1, 2] (by decide) rfl ?_
      exact E_round (j + 1, v') (by show j + 1 ≤ body.length; omega) (by show body.length - (j + 1) < body.length - j; omega) (by repeat' (first | exact True.intro | refine And.intro rfl ?_)) (by dsimp only; rw [hst, ← td_push]; rfl)
  · obtain rfl : j = body.length := by omega
    rw [stO_end]
    have hlen2 : (body.map TD.sym ++ .close (p : Int) :: r).length = r.length + 1 + body.length := by simp; omega
    repeat (first
      | refine qv rfl (qp rfl) rfl rfl ?_ | refine TL_nil ?_ | refine T_seq ?_ | refine T_region ?_ | refine qcT rfl ?_ | refine qcF rfl ?_ | refine T_skip ?_
      | refine T_exit ?_ | refine T_ret ?_ | refine T_block ?_ | refine E_then ?_ | refine E_thenX ?_ | refine E_thenR ?_ | refine E_blockN ?_
      | refine E_blockR ?_ | refine E_blockX ?_ | refine E_blockO rfl ?_ | refine qs rfl rfl rfl rfl rfl rfl ?_
      | ((try refine qg rfl rfl rfl ?_); first | refine qv rfl (qp rfl) rfl rfl ?_ | refine qv rfl (rr_geq (b := false) rfl rfl (decide_eq_false (by omega))) rfl rfl ?_ | refine qv rfl (qlen Und.eq rfl) rfl rfl ?_ | refine qv rfl (qfld FldC.fld rfl rfl) rfl rfl ?_ | refine qv rfl (rr_nilc rfl) rfl rfl ?_ | refine qv rfl (rr_geq rfl rfl (qT (by omega))) rfl rfl ?_ | refine qv rfl (rr_geq rfl rfl (qF (by omega))) rfl rfl ?_ | refine qv rfl (rr_sub64 rfl rfl (by omega) (by omega) rfl) rfl rfl ?_ | refine qv rfl (rr_leq rfl rfl (qT (by omega))) rfl rfl ?_ | refine qv rfl (rr_leq rfl rfl (qF (by omega))) rfl rfl ?_))
    refine TL_callB [1, 0] [2] (by decide) rfl rfl (he3 EntersC.en rfl rfl rfl rfl) (fun w hm hb => act_calls gw t n _ vt3 vo out acts 1 (p : Int) w _ (by omega) (by omega) hb) rfl rfl rfl ?_
    intro vo' _
    conv => arg 8; simp only [zA, zB, zC, zD, zE, zF, zG, zH, zI, rowS, ret, id_eq]
    dsimp only
    have fin : ∀ (x : Bool), x = decide (acts + 1 ≤ 2000 ∧ (body.map TD.sym ++ .close (p : Int) :: r).length ≤ 60) → (Value.bool x) = (opS gw t n (.slice (some ⟨b, off, none⟩) prods.length cp) (body.map .sym ++ .close (p : Int) :: r) (out ++ [(1, (p : Int))]) (acts + 1)).val (vt3, vo') := fun x h => by rw [h]; rfl
    rw [hlen2] at fin
    by_cases c2 : acts + 1 ≤ 2000
    · rw [decide_eq_true (show ((acts + 1 : Nat) : Int) ≤ 2000 by omega)]
      by_cases c3 : r.length + 1 + body.length ≤ 60
      · repeat (first
          | refine qv rfl (qp rfl) rfl rfl ?_ | refine TL_nil ?_ | refine T_seq ?_ | refine T_region ?_ | refine qcT rfl ?_ | refine qcF rfl ?_ | refine T_skip ?_
          | refine T_exit ?_ | refine T_ret ?_ | refine T_block ?_ | refine E_then ?_ | refine E_thenX ?_ | refine E_thenR ?_ | refine E_blockN ?_
          | refine E_blockR ?_ | refine E_blockX ?_ | refine E_blockO rfl ?_ | refine qs rfl rfl rfl rfl rfl rfl ?_
          | ((try refine qg rfl rfl rfl ?_); first | refine qv rfl (qp rfl) rfl rfl ?_ | refine qv rfl (rr_load1 (v := vt3) TyC.ty rfl (at_blk (i := 1) rfl rfl)) rfl rfl ?_ | refine qv rfl (rr_rowlen (i := 0) Und.eq rfl rfl) rfl rfl ?_ | refine qv rfl (qlen Und.eq rfl) rfl rfl ?_ | refine qv rfl (qfld FldC.fld rfl rfl) rfl rfl ?_ | refine qv rfl (rr_nilc rfl) rfl rfl ?_ | refine qv rfl (rr_geq rfl rfl (qT (by omega))) rfl rfl ?_ | refine qv rfl (rr_geq rfl rfl (qF (by omega))) rfl rfl ?_ | refine qv rfl (rr_sub64 rfl rfl (by omega) (by omega) rfl) rfl rfl ?_ | refine qv rfl (rr_leq (b := true) rfl rfl (decide_eq_true (by omega))) rfl rfl ?_ | refine qv rfl (rr_leq rfl rfl (qT (by omega))) rfl rfl ?_ | refine qv rfl (rr_leq rfl rfl (qF (by omega))) rfl rfl ?_))
        refine E_ret1 rfl rfl fun w hm => ?_
        rw [fin true (by simp [c2, c3])]
        exact hm.meetsB (S := opS gw t n (.slice (some ⟨b, off, none⟩) prods.length cp) (body.map .sym ++ .close (p : Int) :: r) (out ++ [(1, (p : Int))]) (acts + 1)) (vt3, vo') trivial [1, 0, 2] (by decide) (by rw [← hlen2]; rfl)
      · repeat (first
          | refine qv rfl (qp rfl) rfl rfl ?_ | refine TL_nil ?_ | refine T_seq ?_ | refine T_region ?_ | refine qcT rfl ?_ | refine qcF rfl ?_ | refine T_skip ?_
          | refine T_exit ?_ | refine T_ret ?_ | refine T_block ?_ | refine E_then ?_ | refine E_thenX ?_ | refine E_thenR ?_ | refine E_blockN ?_
          | refine E_blockR ?_ | refine E_blockX ?_ | refine E_blockO rfl ?_ | refine qs rfl rfl rfl rfl rfl rfl ?_
          | ((try refine qg rfl rfl rfl ?_); first | refine qv rfl (qp rfl) rfl rfl ?_ | refine qv rfl (rr_load1 (v := vt3) TyC.ty rfl (at_blk (i := 1) rfl rfl)) rfl rfl ?_ | refine qv rfl (rr_rowlen (i := 0) Und.eq rfl rfl) rfl rfl ?_ | refine qv rfl (qlen Und.eq rfl) rfl rfl ?_ | refine qv rfl (qfld FldC.fld rfl rfl) rfl rfl ?_ | refine qv rfl (rr_nilc rfl) rfl rfl ?_ | refine qv rfl (rr_geq rfl rfl (qT (by omega))) rfl rfl ?_ | refine qv rfl (rr_geq rfl rfl (qF (by omega))) rfl rfl ?_ | refine qv rfl (rr_sub64 rfl rfl (by omega) (by omega) rfl) rfl rfl ?_ | refine qv rfl (rr_leq (b := false) rfl rfl (decide_eq_false (by omega))) rfl rfl ?_ | refine qv rfl (rr_leq rfl rfl (qT (by omega))) rfl rfl ?_ | refine qv rfl (rr_leq rfl rfl (qF (by omega))) rfl rfl ?_))
        refine E_ret1 rfl rfl fun w hm => ?_
        rw [fin false (by simp [c3])]
        exact hm.meetsB (S := opS gw t n (.slice (some ⟨b, off, none⟩) prods.length cp) (body.map .sym ++ .close (p : Int) :: r) (out ++ [(1, (p : Int))]) (acts + 1)) (vt3, vo') trivial [1, 0, 2] (by decide) (by rw [← hlen2]; rfl)
    · rw [decide_eq_false (show ¬ ((acts + 1 : Nat) : Int) ≤ 2000 by omega)]
      repeat (first
        | refine qv rfl (qp rfl) rfl rfl ?_ | refine TL_nil ?_ | refine T_seq ?_ | refine T_region ?_ | refine qcT rfl ?_ | refine qcF rfl ?_ | refine T_skip ?_
        | refine T_exit ?_ | refine T_ret ?_ | refine T_block ?_ | refine E_then ?_ | refine E_thenX ?_ | refine E_thenR ?_ | refine E_blockN ?_
        | refine E_blockR ?_ | refine E_blockX ?_ | refine E_blockO rfl ?_ | refine qs rfl rfl rfl rfl rfl rfl ?_
        | ((try refine qg rfl rfl rfl ?_); first | refine qv rfl (qp rfl) rfl rfl ?_ | refine qv rfl (qlen Und.eq rfl) rfl rfl ?_ | refine qv rfl (qfld FldC.fld rfl rfl) rfl rfl ?_ | refine qv rfl (rr_nilc rfl) rfl rfl ?_ | refine qv rfl (rr_geq rfl rfl (qT (by omega))) rfl rfl ?_ | refine qv rfl (rr_geq rfl rfl (qF (by omega))) rfl rfl ?_ | refine qv rfl (rr_sub64 rfl rfl (by omega) (by omega) rfl) rfl rfl ?_ | refine qv rfl (rr_leq rfl rfl (qT (by omega))) rfl rfl ?_ | refine qv rfl (rr_leq rfl rfl (qF (by omega))) rfl rfl ?_))
      refine E_ret1 rfl rfl fun w hm => ?_
      rw [fin false (by simp [c2])]
      exact hm.meetsB (S := opS gw t n (.slice (some ⟨b, off, none⟩) prods.length cp) (body.map .sym ++ .close (p : Int) :: r) (out ++ [(1, (p : Int))]) (acts + 1)) (vt3, vo') trivial [1, 0, 2] (by decide) (by rw [← hlen2]; rfl)
end Go.Proofs.Ytkkiopmdcolobaa.eng

/- TdS -/
namespace Go.Proofs.Ytkkiopmdcolobaa.eng
open Go.RowKit kit mix climbL
theorem TdS_len (a : climbL.TD) : (tdC a).length = 4 := rfl
set_option maxHeartbeats 2000000 in
theorem indexFuncTdS_calls (v : Value) (l : List climbL.TD) (w : World) (hs : Sl w v l.length (l.flatMap tdC)) (fid : FuncId) (first cp : Array Value) (p : climbL.TD → Bool) (hen : Enters Try.prog fid)
    (hp : ∀ a ∈ l, ∀ w', Gr w w' → Calls Try.prog fid (first ++ #[(.agg (tdC a).toArray)] ++ cp) w' (Meets (ret (.bool (p a))) w')) :
    Calls Try.prog 69 #[v, .func (.func fid) first cp] w (Meets (ret (.int .i64 (idxF p l))) w) := by
  obtain ⟨base, cap, rfl, hcap, hmax, hrd⟩ := hs
  unfold maxLen at hmax
  refine enter (args := [.slice base l.length cap, .func (.func fid) first cp]) (n := 19) Try.func69 rfl rfl rfl ?_
  repeat (first
    | refine qv rfl (qp rfl) rfl rfl ?_ | refine TL_nil ?_ | refine T_seq ?_ | refine T_region ?_ | refine qcT rfl ?_ | refine qcF rfl ?_ | refine T_skip ?_
    | refine T_exit ?_ | refine T_ret ?_ | refine T_block ?_ | refine E_then ?_ | refine E_thenX ?_ | refine E_thenR ?_ | refine E_blockN ?_
    | refine E_blockR ?_ | refine E_blockX ?_ | refine E_blockO rfl ?_ | refine qv rfl (qlen Und.eq rfl) rfl rfl ?_
    | refine qv rfl (rr_lss rfl rfl (qT (by omega))) rfl rfl ?_ | refine qv rfl (rr_lss rfl rfl (qF (by omega))) rfl rfl ?_
    | refine qv rfl (rr_add64 rfl rfl (by omega) (by omega) rfl) rfl rfl ?_)
  refine T_loop (ι := Nat) (fun k => k ≤ l.length ∧ ∀ j (hj : j < l.length), j < k → p l[j] = false) (fun k => [(0, .slice base l.length cap), (1, .func (.func fid) first cp), (7, .int .i64 l.length), (8, .int .i64 (k : Int))]) (fun _ => []) (fun k => l.length - k) 0 ⟨by omega, fun j hj h => by omega⟩ (by repeat' (first | exact True.intro | refine And.intro rfl ?_)) rfl ?_
  rintro k ⟨h1, h2⟩
  by_cases c2 : k < l.length
  · obtain ⟨b, off, rfl, hr⟩ := hrd (by omega)
    have hat := at_el (L := ([] : List Own)) TdS_len hr c2
    have hcl := hp l[k] (List.getElem_mem c2)
    by_cases c3 : p l[k] = true
    · rw [idxF_some c2 c3 h2]
      rw [c3] at hcl
      clear hp h2 hrd
      repeat (first
        | refine qv rfl (qp rfl) rfl rfl ?_ | refine TL_nil ?_ | refine T_seq ?_ | refine T_region ?_ | refine qcT rfl ?_ | refine qcF rfl ?_ | refine T_skip ?_
        | refine T_exit ?_ | refine T_ret ?_ | refine T_block ?_ | refine E_then ?_ | refine E_thenX ?_ | refine E_thenR ?_ | refine E_blockN ?_
        | refine E_blockR ?_ | refine E_blockX ?_ | refine E_blockO rfl ?_ | refine qv rfl (rr_idxc Und.eq TyC.ty rfl rfl c2) rfl rfl ?_
        | refine qv rfl (rr_loadN TyC.ty rfl rfl hat) rfl rfl ?_ | refine qv rfl (qlen Und.eq rfl) rfl rfl ?_
        | refine qv rfl (rr_lss rfl rfl (qT (by omega))) rfl rfl ?_ | refine qv rfl (rr_lss rfl rfl (qF (by omega))) rfl rfl ?_
        | refine qv rfl (rr_add64 rfl rfl (by omega) (by omega) rfl) rfl rfl ?_)
      refine TL_call (he1c hen rfl rfl) (fun w hm => hcl w hm.below) rfl rfl rfl ?_
      intro _ _
      repeat (first
        | refine qv rfl (qp rfl) rfl rfl ?_ | refine TL_nil ?_ | refine T_seq ?_ | refine T_region ?_ | refine qcT rfl ?_ | refine qcF rfl ?_ | refine T_skip ?_
        | refine T_exit ?_ | refine T_ret ?_ | refine T_block ?_ | refine E_then ?_ | refine E_thenX ?_ | refine E_thenR ?_ | refine E_blockN ?_
        | refine E_blockR ?_ | refine E_blockX ?_ | refine E_blockO rfl ?_ | refine qv rfl (qlen Und.eq rfl) rfl rfl ?_
        | refine qv rfl (rr_lss rfl rfl (qT (by omega))) rfl rfl ?_ | refine qv rfl (rr_lss rfl rfl (qF (by omega))) rfl rfl ?_
        | refine qv rfl (rr_add64 rfl rfl (by omega) (by omega) rfl) rfl rfl ?_)
      exact E_ret1 rfl rfl fun w hm => hm.ret
    · have c3' : p l[k] = false := by simpa using c3
      rw [c3'] at hcl
      clear hp hrd c3
      repeat (first
        | refine qv rfl (qp rfl) rfl rfl ?_ | refine TL_nil ?_ | refine T_seq ?_ | refine T_region ?_ | refine qcT rfl ?_ | refine qcF rfl ?_ | refine T_skip ?_
        | refine T_exit ?_ | refine T_ret ?_ | refine T_block ?_ | refine E_then ?_ | refine E_thenX ?_ | refine E_thenR ?_ | refine E_blockN ?_
        | refine E_blockR ?_ | refine E_blockX ?_ | refine E_blockO rfl ?_ | refine qv rfl (rr_idxc Und.eq TyC.ty rfl rfl c2) rfl rfl ?_
        | refine qv rfl (rr_loadN TyC.ty rfl rfl hat) rfl rfl ?_ | refine qv rfl (qlen Und.eq rfl) rfl rfl ?_
        | refine qv rfl (rr_lss rfl rfl (qT (by omega))) rfl rfl ?_ | refine qv rfl (rr_lss rfl rfl (qF (by omega))) rfl rfl ?_
        | refine qv rfl (rr_add64 rfl rfl (by omega) (by omega) rfl) rfl rfl ?_)
      refine TL_call (he1c hen rfl rfl) (fun w hm => hcl w hm.below) rfl rfl rfl ?_
      intro _ _
      repeat (first
        | refine qv rfl (qp rfl) rfl rfl ?_ | refine TL_nil ?_ | refine T_seq ?_ | refine T_region ?_ | refine qcT rfl ?_ | refine qcF rfl ?_ | refine T_skip ?_
        | refine T_exit ?_ | refine T_ret ?_ | refine T_block ?_ | refine E_then ?_ | refine E_thenX ?_ | refine E_thenR ?_ | refine E_blockN ?_
        | refine E_blockR ?_ | refine E_blockX ?_ | refine E_blockO rfl ?_ | refine qv rfl (qlen Und.eq rfl) rfl rfl ?_
        | refine qv rfl (rr_lss rfl rfl (qT (by omega))) rfl rfl ?_ | refine qv rfl (rr_lss rfl rfl (qF (by omega))) rfl rfl ?_
        | refine qv rfl (rr_add64 rfl rfl (by omega) (by omega) rfl) rfl rfl ?_)
      exact E_round (k + 1) ⟨by omega, fun j hj h => if e : j < k then h2 j hj e else (by obtain rfl : j = k := (by omega); exact c3')⟩ (by show l.length - (k + 1) < l.length - k; omega) (by repeat' (first | exact True.intro | refine And.intro rfl ?_)) rfl
  · rw [idxF_none fun j hj => h2 j hj (by omega)]
    clear hp h2 hrd
    repeat (first
      | refine qv rfl (qp rfl) rfl rfl ?_ | refine TL_nil ?_ | refine T_seq ?_ | refine T_region ?_ | refine qcT rfl ?_ | refine qcF rfl ?_ | refine T_skip ?_
      | refine T_exit ?_ | refine T_ret ?_ | refine T_block ?_ | refine E_then ?_ | refine E_thenX ?_ | refine E_thenR ?_ | refine E_blockN ?_
      | refine E_blockR ?_ | refine E_blockX ?_ | refine E_blockO rfl ?_ | refine qv rfl (qlen Und.eq rfl) rfl rfl ?_
      | refine qv rfl (rr_lss rfl rfl (qT (by omega))) rfl rfl ?_ | refine qv rfl (rr_lss rfl rfl (qF (by omega))) rfl rfl ?_
      | refine qv rfl (rr_add64 rfl rfl (by omega) (by omega) rfl) rfl rfl ?_)
    exact E_ret1 rfl rfl fun w hm => hm.ret
theorem containsFuncTdS_calls (v : Value) (l : List climbL.TD) (w : World) (hs : Sl w v l.length (l.flatMap tdC)) (fid : FuncId) (first cp : Array Value) (p : climbL.TD → Bool) (hen : Enters Try.prog fid)
    (hp : ∀ a ∈ l, ∀ w', Gr w w' → Calls Try.prog fid (first ++ #[(.agg (tdC a).toArray)] ++ cp) w' (Meets (ret (.bool (p a))) w')) :
    Calls Try.prog 53 #[v, .func (.func fid) first cp] w (Meets (ret (.bool (l.any p))) w) := by
  refine enter (args := [v, .func (.func fid) first cp]) (n := 9) Try.func53 rfl rfl rfl ?_
  have hh := fun w' (hg : Gr w w') => indexFuncTdS_calls v l w' (hs.gr hg) fid first cp p hen fun a ha w'' hg' => hp a ha w'' (hg.trans hg')
  have hr := idxF_range p l
  rw [← idxF_any p l]
  generalize idxF p l = r at *
  repeat (first
    | refine qv rfl (qp rfl) rfl rfl ?_ | refine TL_nil ?_ | refine T_seq ?_ | refine T_region ?_ | refine T_ret ?_ | refine E_then ?_ | refine E_thenR ?_
    | refine qv rfl (rr_geq rfl rfl (qT (by omega))) rfl rfl ?_ | refine qv rfl (rr_geq rfl rfl (qF (by omega))) rfl rfl ?_)
  refine TL_call (he2 EntersC.en rfl rfl rfl) (fun w hm => hh _ hm.below) rfl rfl rfl ?_
  intro _ _
  repeat (first
    | refine qv rfl (qp rfl) rfl rfl ?_ | refine TL_nil ?_ | refine T_seq ?_ | refine T_region ?_ | refine T_ret ?_ | refine E_then ?_ | refine E_thenR ?_
    | refine qv rfl (rr_geq rfl rfl rfl) rfl rfl ?_ | refine qv rfl (rr_geq rfl rfl (qT (by omega))) rfl rfl ?_
    | refine qv rfl (rr_geq rfl rfl (qF (by omega))) rfl rfl ?_)
  exact E_ret1 rfl rfl fun w hm => hm.ret
set_option maxHeartbeats 2000000 in
theorem cloneTdS_calls (v : Value) (l : List climbL.TD) (w : World) (hs : Sl w v l.length (l.flatMap tdC)) (hl : l.length * 40 ≤ 140737488355328) :
    Calls Try.prog 56 #[v] w (Meets (rowS 88 4 l.length (l.flatMap tdC) id) w) := by
  obtain ⟨base, cap, rfl, hcap, hmax, hrd⟩ := hs
  unfold maxLen at hmax
  refine enter (args := [.slice base l.length cap]) (n := 8) Try.func56 rfl rfl rfl ?_
  have hsl : ∀ w', Gr w w' → Sl w' (.slice base l.length cap) l.length (l.flatMap tdC) := fun w' hg => Sl.gr ⟨base, cap, rfl, hcap, hmax, hrd⟩ hg
  clear hrd
  cases base with
  | none =>
    repeat (first
      | refine qv rfl (qp rfl) rfl rfl ?_ | refine TL_nil ?_ | refine T_seq ?_ | refine T_region ?_ | refine qcT rfl ?_ | refine qcF rfl ?_ | refine T_skip ?_
      | refine T_ret ?_ | refine E_then ?_ | refine E_thenR ?_ | refine qv rfl (rr_slnil Und.eq rfl rfl rfl) rfl rfl ?_)
    have h0 : l = [] := by
      cases l with
      | nil => rfl
      | cons x l => obtain ⟨_, _, h, _, _, h2⟩ := hsl w (Gr.refl w); simp only [Value.slice.injEq] at h; obtain ⟨rfl, _⟩ := h; obtain ⟨b, off, h, _⟩ := h2 (by simp); cases h
    subst h0
    refine E_nilrow 88 4 ?_
    exact E_ret1 rfl rfl fun w hm => hm.meets (S := rowS 88 4 0 [] id) _ trivial [0] (by decide) rfl
  | some p =>
    repeat (first
      | refine qv rfl (qp rfl) rfl rfl ?_ | refine TL_nil ?_ | refine T_seq ?_ | refine T_region ?_ | refine qcT rfl ?_ | refine qcF rfl ?_ | refine T_skip ?_
      | refine T_ret ?_ | refine E_then ?_ | refine E_thenR ?_ | refine qv rfl (rr_slnil Und.eq rfl rfl rfl) rfl rfl ?_)
    refine TL_lit0 rfl fun g => ?_
    repeat (first
      | refine qv rfl (qp rfl) rfl rfl ?_ | refine TL_nil ?_ | refine T_seq ?_ | refine T_region ?_ | refine qcT rfl ?_ | refine qcF rfl ?_ | refine T_skip ?_
      | refine T_ret ?_ | refine E_then ?_ | refine E_thenR ?_)
    refine TL_appSl (i := 0) rfl (fun w' hm => hsl w' hm.below) rfl rfl (len_el TdS_len l) (tdC_all l) (by omega) (by omega) rfl fun v' => ?_
    rw [List.nil_append]
    repeat (first
      | refine qv rfl (qp rfl) rfl rfl ?_ | refine TL_nil ?_ | refine T_seq ?_ | refine T_region ?_ | refine qcT rfl ?_ | refine qcF rfl ?_ | refine T_skip ?_
      | refine T_ret ?_ | refine E_then ?_ | refine E_thenR ?_)
    refine E_ret1 rfl rfl fun w hm => ?_
    exact hm.meets (S := rowS 88 4 l.length (l.flatMap tdC) id) v' trivial [0] (by decide) (by simp [rowS])
end Go.Proofs.Ytkkiopmdcolobaa.eng

/- SymS -/
namespace Go.Proofs.Ytkkiopmdcolobaa.eng
open Go.RowKit kit mix gramL
theorem SymS_len (a : Sym) : (symC a).length = 2 := rfl
set_option maxHeartbeats 2000000 in
theorem indexFuncSymS_calls (v : Value) (l : List Sym) (w : World) (hs : Sl w v l.length (l.flatMap symC)) (fid : FuncId) (first cp : Array Value) (p : Sym → Bool) (hen : Enters Try.prog fid)
    (hp : ∀ a ∈ l, ∀ w', Gr w w' → Calls Try.prog fid (first ++ #[(.agg (symC a).toArray)] ++ cp) w' (Meets (ret (.bool (p a))) w')) :
    Calls Try.prog 70 #[v, .func (.func fid) first cp] w (Meets (ret (.int .i64 (idxF p l))) w) := by
  obtain ⟨base, cap, rfl, hcap, hmax, hrd⟩ := hs
  unfold maxLen at hmax
  refine enter (args := [.slice base l.length cap, .func (.func fid) first cp]) (n := 19) Try.func70 rfl rfl rfl ?_
  repeat (first
    | refine qv rfl (qp rfl) rfl rfl ?_ | refine TL_nil ?_ | refine T_seq ?_ | refine T_region ?_ | refine qcT rfl ?_ | refine qcF rfl ?_ | refine T_skip ?_
    | refine T_exit ?_ | refine T_ret ?_ | refine T_block ?_ | refine E_then ?_ | refine E_thenX ?_ | refine E_thenR ?_ | refine E_blockN ?_
    | refine E_blockR ?_ | refine E_blockX ?_ | refine E_blockO rfl ?_ | refine qv rfl (qlen Und.eq rfl) rfl rfl ?_
    | refine qv rfl (rr_lss rfl rfl (qT (by omega))) rfl rfl ?_ | refine qv rfl (rr_lss rfl rfl (qF (by omega))) rfl rfl ?_
    | refine qv rfl (rr_add64 rfl rfl (by omega) (by omega) rfl) rfl rfl ?_)
  refine T_loop (ι := Nat) (fun k => k ≤ l.length ∧ ∀ j (hj : j < l.length), j < k → p l[j] = false) (fun k => [(0, .slice base l.length cap), (1, .func (.func fid) first cp), (7, .int .i64 l.length), (8, .int .i64 (k : Int))]) (fun _ => []) (fun k => l.length - k) 0 ⟨by omega, fun j hj h => by omega⟩ (by repeat' (first | exact True.intro | refine And.intro rfl ?_)) rfl ?_
  rintro k ⟨h1, h2⟩
  by_cases c2 : k < l.length
  · obtain ⟨b, off, rfl, hr⟩ := hrd (by omega)
    have hat := at_el (L := ([] : List Own)) SymS_len hr c2
    have hcl := hp l[k] (List.getElem_mem c2)
    by_cases c3 : p l[k] = true
    · rw [idxF_some c2 c3 h2]
      rw [c3] at hcl
      clear hp h2 hrd
      repeat (first
        | refine qv rfl (qp rfl) rfl rfl ?_ | refine TL_nil ?_ | refine T_seq ?_ | refine T_region ?_ | refine qcT rfl ?_ | refine qcF rfl ?_ | refine T_skip ?_
        | refine T_exit ?_ | refine T_ret ?_ | refine T_block ?_ | refine E_then ?_ | refine E_thenX ?_ | refine E_thenR ?_ | refine E_blockN ?_
        | refine E_blockR ?_ | refine E_blockX ?_ | refine E_blockO rfl ?_ | refine qv rfl (rr_idxc Und.eq TyC.ty rfl rfl c2) rfl rfl ?_
        | refine qv rfl (rr_loadN TyC.ty rfl rfl hat) rfl rfl ?_ | refine qv rfl (qlen Und.eq rfl) rfl rfl ?_
        | refine qv rfl (rr_lss rfl rfl (qT (by omega))) rfl rfl ?_ | refine qv rfl (rr_lss rfl rfl (qF (by omega))) rfl rfl ?_
        | refine qv rfl (rr_add64 rfl rfl (by omega) (by omega) rfl) rfl rfl ?_)
      refine TL_call (he1c hen rfl rfl) (fun w hm => hcl w hm.below) rfl rfl rfl ?_
      intro _ _
      repeat (first
        | refine qv rfl (qp rfl) rfl rfl ?_ | refine TL_nil ?_ | refine T_seq ?_ | refine T_region ?_ | refine qcT rfl ?_ | refine qcF rfl ?_ | refine T_skip ?_
        | refine T_exit ?_ | refine T_ret ?_ | refine T_block ?_ | refine E_then ?_ | refine E_thenX ?_ | refine E_thenR ?_ | refine E_blockN ?_
        | refine E_blockR ?_ | refine E_blockX ?_ | refine E_blockO rfl ?_ | refine qv rfl (qlen Und.eq rfl) rfl rfl ?_
        | refine qv rfl (rr_lss rfl rfl (qT (by omega))) rfl rfl ?_ | refine qv rfl (rr_lss rfl rfl (qF (by omega))) rfl rfl ?_
        | refine qv rfl (rr_add64 rfl rfl (by omega) (by omega) rfl) rfl rfl ?_)
      exact E_ret1 rfl rfl fun w hm => hm.ret
    · have c3' : p l[k] = false := by simpa using c3
      rw [c3'] at hcl
      clear hp hrd c3
      repeat (first
        | refine qv rfl (qp rfl) rfl rfl ?_ | refine TL_nil ?_ | refine T_seq ?_ | refine T_region ?_ | refine qcT rfl ?_ | refine qcF rfl ?_ | refine T_skip ?_
        | refine T_exit ?_ | refine T_ret ?_ | refine T_block ?_ | refine E_then ?_ | refine E_thenX ?_ | refine E_thenR ?_ | refine E_blockN ?_
        | refine E_blockR ?_ | refine E_blockX ?_ | refine E_blockO rfl ?_ | refine qv rfl (rr_idxc Und.eq TyC.ty rfl rfl c2) rfl rfl ?_
        | refine qv rfl (rr_loadN TyC.ty rfl rfl hat) rfl rfl ?_ | refine qv rfl (qlen Und.eq rfl) rfl rfl ?_
        | refine qv rfl (rr_lss rfl rfl (qT (by omega))) rfl rfl ?_ | refine qv rfl (rr_lss rfl rfl (qF (by omega))) rfl rfl ?_
        | refine qv rfl (rr_add64 rfl rfl (by omega) (by omega) rfl) rfl rfl ?_)
      refine TL_call (he1c hen rfl rfl) (fun w hm => hcl w hm.below) rfl rfl rfl ?_
      intro _ _
      repeat (first
        | refine qv rfl (qp rfl) rfl rfl ?_ | refine TL_nil ?_ | refine T_seq ?_ | refine T_region ?_ | refine qcT rfl ?_ | refine qcF rfl ?_ | refine T_skip ?_
        | refine T_exit ?_ | refine T_ret ?_ | refine T_block ?_ | refine E_then ?_ | refine E_thenX ?_ | refine E_thenR ?_ | refine E_blockN ?_
        | refine E_blockR ?_ | refine E_blockX ?_ | refine E_blockO rfl ?_ | refine qv rfl (qlen Und.eq rfl) rfl rfl ?_
        | refine qv rfl (rr_lss rfl rfl (qT (by omega))) rfl rfl ?_ | refine qv rfl (rr_lss rfl rfl (qF (by omega))) rfl rfl ?_
        | refine qv rfl (rr_add64 rfl rfl (by omega) (by omega) rfl) rfl rfl ?_)
      exact E_round (k + 1) ⟨by omega, fun j hj h => if e : j < k then h2 j hj e else (by obtain rfl : j = k := (by omega); exact c3')⟩ (by show l.length - (k + 1) < l.length - k; omega) (by repeat' (first | exact True.intro | refine And.intro rfl ?_)) rfl
  · rw [idxF_none fun j hj => h2 j hj (by omega)]
    clear hp h2 hrd
    repeat (first
      | refine qv rfl (qp rfl) rfl rfl ?_ | refine TL_nil ?_ | refine T_seq ?_ | refine T_region ?_ | refine qcT rfl ?_ | refine qcF rfl ?_ | refine T_skip ?_
      | refine T_exit ?_ | refine T_ret ?_ | refine T_block ?_ | refine E_then ?_ | refine E_thenX ?_ | refine E_thenR ?_ | refine E_blockN ?_
      | refine E_blockR ?_ | refine E_blockX ?_ | refine E_blockO rfl ?_ | refine qv rfl (qlen Und.eq rfl) rfl rfl ?_
      | refine qv rfl (rr_lss rfl rfl (qT (by omega))) rfl rfl ?_ | refine qv rfl (rr_lss rfl rfl (qF (by omega))) rfl rfl ?_
      | refine qv rfl (rr_add64 rfl rfl (by omega) (by omega) rfl) rfl rfl ?_)
    exact E_ret1 rfl rfl fun w hm => hm.ret
theorem containsFuncSymS_calls (v : Value) (l : List Sym) (w : World) (hs : Sl w v l.length (l.flatMap symC)) (fid : FuncId) (first cp : Array Value) (p : Sym → Bool) (hen : Enters Try.prog fid)
    (hp : ∀ a ∈ l, ∀ w', Gr w w' → Calls Try.prog fid (first ++ #[(.agg (symC a).toArray)] ++ cp) w' (Meets (ret (.bool (p a))) w')) :
    Calls Try.prog 58 #[v, .func (.func fid) first cp] w (Meets (ret (.bool (l.any p))) w) := by
  refine enter (args := [v, .func (.func fid) first cp]) (n := 9) Try.func58 rfl rfl rfl ?_
  have hh := fun w' (hg : Gr w w') => indexFuncSymS_calls v l w' (hs.gr hg) fid first cp p hen fun a ha w'' hg' => hp a ha w'' (hg.trans hg')
  have hr := idxF_range p l
  rw [← idxF_any p l]
  generalize idxF p l = r at *
  repeat (first
    | refine qv rfl (qp rfl) rfl rfl ?_ | refine TL_nil ?_ | refine T_seq ?_ | refine T_region ?_ | refine T_ret ?_ | refine E_then ?_ | refine E_thenR ?_
    | refine qv rfl (rr_geq rfl rfl (qT (by omega))) rfl rfl ?_ | refine qv rfl (rr_geq rfl rfl (qF (by omega))) rfl rfl ?_)
  refine TL_call (he2 EntersC.en rfl rfl rfl) (fun w hm => hh _ hm.below) rfl rfl rfl ?_
  intro _ _
  repeat (first
    | refine qv rfl (qp rfl) rfl rfl ?_ | refine TL_nil ?_ | refine T_seq ?_ | refine T_region ?_ | refine T_ret ?_ | refine E_then ?_ | refine E_thenR ?_
    | refine qv rfl (rr_geq rfl rfl rfl) rfl rfl ?_ | refine qv rfl (rr_geq rfl rfl (qT (by omega))) rfl rfl ?_
    | refine qv rfl (rr_geq rfl rfl (qF (by omega))) rfl rfl ?_)
  exact E_ret1 rfl rfl fun w hm => hm.ret
end Go.Proofs.Ytkkiopmdcolobaa.eng

/- Gram -/
namespace Go.Proofs.Ytkkiopmdcolobaa.eng
open Go.RowKit kit mix gramL
theorem right_calls (t n : Int) (vp : Value) (x : Sym) (w : World) : Calls Try.prog 60 #[graV t n vp, .agg (symC x).toArray] w (Meets (ret (.bool (right t n x))) w) := by
  obtain ⟨k, q⟩ := x
  refine enter (args := [graV t n vp, .agg (symC (k, q)).toArray]) (n := 31) Try.func60 rfl rfl rfl ?_
  refine T_seq (T_region (TL_box rfl rfl rfl fun g0 => TL_box rfl rfl rfl fun g1 => ?_))
  repeat' (first
    | refine qv rfl (qp rfl) rfl rfl ?_
    | refine TL_nil ?_
    | refine T_seq ?_
    | refine T_region ?_
    | refine qcT rfl ?_
    | refine qcF rfl ?_
    | refine T_skip ?_
    | refine T_ret ?_
    | refine T_block ?_
    | refine E_then ?_
    | refine E_thenR ?_
    | refine E_blockN ?_
    | refine E_blockR ?_
    | refine qs rfl rfl rfl rfl rfl rfl ?_
    | (((try refine qg rfl rfl rfl ?_); first | refine qv rfl (qp rfl) rfl rfl ?_ | refine qv rfl (rr_load1 TyC.ty rfl (at_blk (i := 0) rfl rfl)) rfl rfl ?_ | refine qv rfl (rr_load1 TyC.ty rfl (at_blk (i := 1) rfl rfl)) rfl rfl ?_ | refine qv rfl (qfld FldC.fld rfl rfl) rfl rfl ?_ | refine qv rfl (rr_geq rfl rfl (qT (by omega))) rfl rfl ?_ | refine qv rfl (rr_geq rfl rfl (qF (by omega))) rfl rfl ?_ | refine qv rfl (rr_eql rfl rfl (qT (by omega))) rfl rfl ?_ | refine qv rfl (rr_eql rfl rfl (qF (by omega))) rfl rfl ?_ | refine qv rfl (rr_lss rfl rfl (qT (by omega))) rfl rfl ?_ | refine qv rfl (rr_lss rfl rfl (qF (by omega))) rfl rfl ?_))
    | refine TL_gsplitv (rr_lss rfl rfl rfl) rfl rfl rfl rfl rfl (fun h => ?_) (fun h => ?_)
    | refine TL_split (rr_geq rfl rfl rfl) rfl rfl rfl (fun h => ?_) (fun h => ?_)
    | refine TL_split (rr_eql rfl rfl rfl) rfl rfl rfl (fun h => ?_) (fun h => ?_)
    | ((fail_if_success (refine T_condT rfl ?_)); (fail_if_success (refine T_condF rfl ?_)); refine T_condS rfl (fun h => ?_) (fun h => ?_))
    | ((fail_if_success (refine TL_isT rfl rfl rfl ?_)); (fail_if_success (refine TL_isF rfl rfl rfl ?_)); refine TL_gsplit rfl rfl rfl (fun h => ?_) (fun h => ?_)))
  all_goals (refine E_ret1e rfl rfl ?_; congr 1; unfold right; dsimp only at *; repeat (first | rw [if_pos (by omega)] | rw [if_neg (by omega)] | rw [decide_eq_true (by assumption)] | rw [decide_eq_false (by assumption)]); try rfl)
/-- Check's own question -/
theorem check1_calls (t n : Int) (vp : Value) (x : Sym) (g : Nat) (w : World) (hg : w.heap[g]? = some (.cells (graV t n vp).cells 24 (0, 0))) :
    Calls Try.prog 59 #[.agg (symC x).toArray, .pointer (some ⟨g, 0, none⟩)] w (Meets (ret (.bool (!right t n x))) w) := by
  have hcell : ∀ (L : List Own) (j : Nat) (v : Value), ([.int .i64 t, .int .i64 n, vp] : List Value)[j]? = some v → At w L ⟨g, 0 + j, none⟩ v := fun L j v hj => at_old (by
    rw [cell_of_row w g (0 + j) _ _ _ hg, Nat.zero_add]
    show (#[.int .i64 t, .int .i64 n, vp] : Array Value)[j]? = some v
    simpa using hj)
  have hr := right_calls t n vp x
  refine enter (args := [.agg (symC x).toArray, .pointer (some ⟨g, 0, none⟩)]) (n := 8) Try.func59 rfl rfl rfl ?_
  refine T_seq (T_region (TL_box rfl rfl rfl fun g0 => ?_))
  repeat (first
    | refine qv rfl (qp rfl) rfl rfl ?_ | refine TL_nil ?_ | refine T_seq ?_ | refine T_region ?_ | refine T_ret ?_ | refine E_then ?_ | refine E_thenR ?_
    | refine qv rfl (rr_loadN TyC.ty rfl rfl (hcell _)) rfl rfl ?_ | refine qv rfl (rr_loadB (i := 0) TyC.ty rfl rfl rfl) rfl rfl ?_
    | refine qv rfl (rr_not rfl rfl) rfl rfl ?_)
  refine TL_call (he2 EntersC.en rfl rfl rfl) (fun w hm => hr w) rfl rfl rfl ?_
  intro _ _
  repeat (first
    | refine qv rfl (qp rfl) rfl rfl ?_ | refine TL_nil ?_ | refine T_seq ?_ | refine T_region ?_ | refine T_ret ?_ | refine E_then ?_ | refine E_thenR ?_
    | refine qv rfl (rr_not rfl rfl) rfl rfl ?_)
  exact E_ret1 rfl rfl fun w hm => hm.ret
theorem prodsE_drop {t n : Int} {l : List gramL.Prod} {k : Nat} (h : k < l.length) (h0 : prodE t n l[k] = 0) : prodsE t n (l.drop k) = prodsE t n (l.drop (k + 1)) := by
  rw [List.drop_eq_getElem_cons h, prodsE, if_neg (by simp [h0])]
theorem prodsE_stop {t n : Int} {l : List gramL.Prod} {k : Nat} (h : k < l.length) (h0 : prodE t n l[k] ≠ 0) : prodsE t n (l.drop k) = prodE t n l[k] := by
  rw [List.drop_eq_getElem_cons h, prodsE, if_pos h0]
set_option maxHeartbeats 2000000 in
theorem checkG_calls (v : Value) (g : Gram) (w : World) (h : GraR (fun k => k < w.heap.size) w v g) :
    Calls Try.prog 35 #[v] w (Meets (ret (.int .i64 (checkG g))) w) := by
  obtain ⟨vp, rfl, h1, _⟩ := h
  obtain ⟨bp, cp, rfl, hcp, hmp, hrp⟩ := h1
  unfold maxLen at hmp
  obtain ⟨t, n, prods⟩ := g
  dsimp only at *
  refine enter (args := [graV t n (.slice bp prods.length cp)]) (n := 57) Try.func35 rfl rfl rfl ?_
  refine T_seq (T_region (TL_box rfl rfl rfl fun g0 => ?_))
  unfold checkG
  dsimp only
  by_cases c1 : t < 0
  · rw [if_pos c1]
    repeat (first
      | refine qv rfl (qp rfl) rfl rfl ?_ | refine TL_nil ?_ | refine T_seq ?_ | refine T_region ?_ | refine qcT rfl ?_ | refine qcF rfl ?_ | refine T_skip ?_
      | refine T_exit ?_ | refine T_ret ?_ | refine T_block ?_ | refine E_then ?_ | refine E_thenX ?_ | refine E_thenR ?_ | refine E_blockN ?_
      | refine E_blockR ?_ | refine E_blockX ?_ | refine E_blockO rfl ?_ | refine qs rfl rfl rfl rfl rfl rfl ?_
      | ((try refine qg rfl rfl rfl ?_); first | refine qv rfl (qp rfl) rfl rfl ?_ | refine qv rfl (rr_load1 TyC.ty rfl (at_blk (i := 0) rfl rfl)) rfl rfl ?_ | refine qv rfl (qlen Und.eq rfl) rfl rfl ?_ | refine qv rfl (qfld FldC.fld rfl rfl) rfl rfl ?_ | refine qv rfl (rr_lss rfl rfl (qT (by omega))) rfl rfl ?_ | refine qv rfl (rr_lss rfl rfl (qF (by omega))) rfl rfl ?_ | refine qv rfl (rr_gtr rfl rfl (qT (by omega))) rfl rfl ?_ | refine qv rfl (rr_gtr rfl rfl (qF (by omega))) rfl rfl ?_ | refine qv rfl (rr_add64 rfl rfl (by omega) (by omega) rfl) rfl rfl ?_ | refine qv rfl (rr_geq rfl rfl (qT (by omega))) rfl rfl ?_ | refine qv rfl (rr_geq rfl rfl (qF (by omega))) rfl rfl ?_))
    exact E_ret1 rfl rfl fun w hm => hm.ret
  rw [if_neg c1]
  by_cases c2 : 30 < t
  · rw [if_pos c2]
    repeat (first
      | refine qv rfl (qp rfl) rfl rfl ?_ | refine TL_nil ?_ | refine T_seq ?_ | refine T_region ?_ | refine qcT rfl ?_ | refine qcF rfl ?_ | refine T_skip ?_
      | refine T_exit ?_ | refine T_ret ?_ | refine T_block ?_ | refine E_then ?_ | refine E_thenX ?_ | refine E_thenR ?_ | refine E_blockN ?_
      | refine E_blockR ?_ | refine E_blockX ?_ | refine E_blockO rfl ?_ | refine qs rfl rfl rfl rfl rfl rfl ?_
      | ((try refine qg rfl rfl rfl ?_); first | refine qv rfl (qp rfl) rfl rfl ?_ | refine qv rfl (rr_load1 TyC.ty rfl (at_blk (i := 0) rfl rfl)) rfl rfl ?_ | refine qv rfl (qlen Und.eq rfl) rfl rfl ?_ | refine qv rfl (qfld FldC.fld rfl rfl) rfl rfl ?_ | refine qv rfl (rr_lss rfl rfl (qT (by omega))) rfl rfl ?_ | refine qv rfl (rr_lss rfl rfl (qF (by omega))) rfl rfl ?_ | refine qv rfl (rr_gtr rfl rfl (qT (by omega))) rfl rfl ?_ | refine qv rfl (rr_gtr rfl rfl (qF (by omega))) rfl rfl ?_ | refine qv rfl (rr_add64 rfl rfl (by omega) (by omega) rfl) rfl rfl ?_ | refine qv rfl (rr_geq rfl rfl (qT (by omega))) rfl rfl ?_ | refine qv rfl (rr_geq rfl rfl (qF (by omega))) rfl rfl ?_))
    exact E_ret1 rfl rfl fun w hm => hm.ret
  rw [if_neg c2]
  by_cases c3 : n < 1
  · rw [if_pos c3]
    repeat (first
      | refine qv rfl (qp rfl) rfl rfl ?_ | refine TL_nil ?_ | refine T_seq ?_ | refine T_region ?_ | refine qcT rfl ?_ | refine qcF rfl ?_ | refine T_skip ?_
      | refine T_exit ?_ | refine T_ret ?_ | refine T_block ?_ | refine E_then ?_ | refine E_thenX ?_ | refine E_thenR ?_ | refine E_blockN ?_
      | refine E_blockR ?_ | refine E_blockX ?_ | refine E_blockO rfl ?_ | refine qs rfl rfl rfl rfl rfl rfl ?_
      | ((try refine qg rfl rfl rfl ?_); first | refine qv rfl (qp rfl) rfl rfl ?_ | refine qv rfl (rr_load1 TyC.ty rfl (at_blk (i := 0) rfl rfl)) rfl rfl ?_ | refine qv rfl (qlen Und.eq rfl) rfl rfl ?_ | refine qv rfl (qfld FldC.fld rfl rfl) rfl rfl ?_ | refine qv rfl (rr_lss rfl rfl (qT (by omega))) rfl rfl ?_ | refine qv rfl (rr_lss rfl rfl (qF (by omega))) rfl rfl ?_ | refine qv rfl (rr_gtr rfl rfl (qT (by omega))) rfl rfl ?_ | refine qv rfl (rr_gtr rfl rfl (qF (by omega))) rfl rfl ?_ | refine qv rfl (rr_add64 rfl rfl (by omega) (by omega) rfl) rfl rfl ?_ | refine qv rfl (rr_geq rfl rfl (qT (by omega))) rfl rfl ?_ | refine qv rfl (rr_geq rfl rfl (qF (by omega))) rfl rfl ?_))
    exact E_ret1 rfl rfl fun w hm => hm.ret
  rw [if_neg c3]
  by_cases c4 : 20 < n
  · rw [if_pos c4]
    repeat (first
      | refine qv rfl (qp rfl) rfl rfl ?_ | refine TL_nil ?_ | refine T_seq ?_ | refine T_region ?_ | refine qcT rfl ?_ | refine qcF rfl ?_ | refine T_skip ?_
      | refine T_exit ?_ | refine T_ret ?_ | refine T_block ?_ | refine E_then ?_ | refine E_thenX ?_ | refine E_thenR ?_ | refine E_blockN ?_
      | refine E_blockR ?_ | refine E_blockX ?_ | refine E_blockO rfl ?_ | refine qs rfl rfl rfl rfl rfl rfl ?_
      | ((try refine qg rfl rfl rfl ?_); first | refine qv rfl (qp rfl) rfl rfl ?_ | refine qv rfl (rr_load1 TyC.ty rfl (at_blk (i := 0) rfl rfl)) rfl rfl ?_ | refine qv rfl (qlen Und.eq rfl) rfl rfl ?_ | refine qv rfl (qfld FldC.fld rfl rfl) rfl rfl ?_ | refine qv rfl (rr_lss rfl rfl (qT (by omega))) rfl rfl ?_ | refine qv rfl (rr_lss rfl rfl (qF (by omega))) rfl rfl ?_ | refine qv rfl (rr_gtr rfl rfl (qT (by omega))) rfl rfl ?_ | refine qv rfl (rr_gtr rfl rfl (qF (by omega))) rfl rfl ?_ | refine qv rfl (rr_add64 rfl rfl (by omega) (by omega) rfl) rfl rfl ?_ | refine qv rfl (rr_geq rfl rfl (qT (by omega))) rfl rfl ?_ | refine qv rfl (rr_geq rfl rfl (qF (by omega))) rfl rfl ?_))
    exact E_ret1 rfl rfl fun w hm => hm.ret
  rw [if_neg c4]
  by_cases c5 : 40 < prods.length
  · rw [if_pos c5]
    repeat (first
      | refine qv rfl (qp rfl) rfl rfl ?_ | refine TL_nil ?_ | refine T_seq ?_ | refine T_region ?_ | refine qcT rfl ?_ | refine qcF rfl ?_ | refine T_skip ?_
      | refine T_exit ?_ | refine T_ret ?_ | refine T_block ?_ | refine E_then ?_ | refine E_thenX ?_ | refine E_thenR ?_ | refine E_blockN ?_
      | refine E_blockR ?_ | refine E_blockX ?_ | refine E_blockO rfl ?_ | refine qs rfl rfl rfl rfl rfl rfl ?_
      | ((try refine qg rfl rfl rfl ?_); first | refine qv rfl (qp rfl) rfl rfl ?_ | refine qv rfl (rr_load1 TyC.ty rfl (at_blk (i := 0) rfl rfl)) rfl rfl ?_ | refine qv rfl (qlen Und.eq rfl) rfl rfl ?_ | refine qv rfl (qfld FldC.fld rfl rfl) rfl rfl ?_ | refine qv rfl (rr_lss rfl rfl (qT (by omega))) rfl rfl ?_ | refine qv rfl (rr_lss rfl rfl (qF (by omega))) rfl rfl ?_ | refine qv rfl (rr_gtr rfl rfl (qT (by omega))) rfl rfl ?_ | refine qv rfl (rr_gtr rfl rfl (qF (by omega))) rfl rfl ?_ | refine qv rfl (rr_add64 rfl rfl (by omega) (by omega) rfl) rfl rfl ?_ | refine qv rfl (rr_geq rfl rfl (qT (by omega))) rfl rfl ?_ | refine qv rfl (rr_geq rfl rfl (qF (by omega))) rfl rfl ?_))
    exact E_ret1 rfl rfl fun w hm => hm.ret
  rw [if_neg c5]
  repeat (first
    | refine qv rfl (qp rfl) rfl rfl ?_ | refine TL_nil ?_ | refine T_seq ?_ | refine T_region ?_ | refine qcT rfl ?_ | refine qcF rfl ?_ | refine T_skip ?_
    | refine T_exit ?_ | refine T_ret ?_ | refine T_block ?_ | refine E_then ?_ | refine E_thenX ?_ | refine E_thenR ?_ | refine E_blockN ?_
    | refine E_blockR ?_ | refine E_blockX ?_ | refine E_blockO rfl ?_ | refine qs rfl rfl rfl rfl rfl rfl ?_
    | ((try refine qg rfl rfl rfl ?_); first | refine qv rfl (qp rfl) rfl rfl ?_ | refine qv rfl (rr_load1 TyC.ty rfl (at_blk (i := 0) rfl rfl)) rfl rfl ?_ | refine qv rfl (qlen Und.eq rfl) rfl rfl ?_ | refine qv rfl (qfld FldC.fld rfl rfl) rfl rfl ?_ | refine qv rfl (rr_lss rfl rfl (qT (by omega))) rfl rfl ?_ | refine qv rfl (rr_lss rfl rfl (qF (by omega))) rfl rfl ?_ | refine qv rfl (rr_gtr rfl rfl (qT (by omega))) rfl rfl ?_ | refine qv rfl (rr_gtr rfl rfl (qF (by omega))) rfl rfl ?_ | refine qv rfl (rr_add64 rfl rfl (by omega) (by omega) rfl) rfl rfl ?_ | refine qv rfl (rr_geq rfl rfl (qT (by omega))) rfl rfl ?_ | refine qv rfl (rr_geq rfl rfl (qF (by omega))) rfl rfl ?_))
  refine T_loop (ι := Nat) (fun k => k ≤ prods.length ∧ prodsE t n prods = prodsE t n (prods.drop k)) (fun k => [(1, .pointer (some ⟨g0, 0, none⟩)), (30, .slice bp prods.length cp), (31, .int .i64 prods.length), (32, .int .i64 (k : Int))]) (fun _ => [blkO g0 (graV t n (.slice bp prods.length cp)).cells 24]) (fun k => prods.length - k) 0 ⟨Nat.zero_le _, rfl⟩ (by repeat' (first | exact True.intro | refine And.intro rfl ?_)) rfl ?_
  rintro k ⟨i1, i2⟩
  rw [i2]
  clear i2
  by_cases c6 : k < prods.length
  · obtain ⟨b, off, rfl, _, hr⟩ := hrp (by omega)
    obtain ⟨bb, cb, q1, q2, q3⟩ := prod_at hr c6
    have hstop := prodsE_stop (t := t) (n := n) c6
    have hdrop := prodsE_drop (t := t) (n := n) c6
    have hat : ∀ (L : List Own) (j : Nat) (v : Value), ([.int .i64 prods[k].1, .slice bb prods[k].2.length cb] : List Value)[j]? = some v → At w L ⟨b, off + k * 2 + j, none⟩ v := fun L j v hj => at_rd q1 hj
    clear hr hrp q1
    generalize prods[k] = p at *
    obtain ⟨hd, body⟩ := p
    have hco := fun w' (hg : Gr w w') (hb : w'.heap[g0]? = some (.cells (graV t n (.slice (some ⟨b, off, none⟩) prods.length cp)).cells 24 (0, 0))) => containsFuncSymS_calls (.slice bb body.length cb) body w' ((q3.flat (by decide)).gr hg) 59 #[] #[.pointer (some ⟨g0, 0, none⟩)] (fun x => !right t n x) EntersC.en (fun a _ w'' hg' => check1_calls t n _ a g0 w'' (by rw [hg'.block g0 (Array.getElem?_eq_some_iff.1 hb).1]; exact hb))
    dsimp only at *
    repeat (first
      | refine qv rfl (qp rfl) rfl rfl ?_ | refine TL_nil ?_ | refine T_seq ?_ | refine T_region ?_ | refine qcT rfl ?_ | refine qcF rfl ?_ | refine T_skip ?_
      | refine T_exit ?_ | refine T_ret ?_ | refine T_block ?_ | refine E_then ?_ | refine E_thenX ?_ | refine E_thenR ?_ | refine E_blockN ?_
      | refine E_blockR ?_ | refine E_blockX ?_ | refine E_blockO rfl ?_ | refine qs rfl rfl rfl rfl rfl rfl ?_
      | ((try refine qg rfl rfl rfl ?_); first | refine qv rfl (qp rfl) rfl rfl ?_ | refine qv rfl (rr_idxc Und.eq TyC.ty rfl rfl c6) rfl rfl ?_ | refine qv rfl (rr_loadN TyC.ty rfl rfl (hat _)) rfl rfl ?_ | refine qv rfl (qlen Und.eq rfl) rfl rfl ?_ | refine qv rfl (qfld FldC.fld rfl rfl) rfl rfl ?_ | refine qv rfl (rr_lss rfl rfl (qT (by omega))) rfl rfl ?_ | refine qv rfl (rr_lss rfl rfl (qF (by omega))) rfl rfl ?_ | refine qv rfl (rr_gtr rfl rfl (qT (by omega))) rfl rfl ?_ | refine qv rfl (rr_gtr rfl rfl (qF (by omega))) rfl rfl ?_ | refine qv rfl (rr_add64 rfl rfl (by omega) (by omega) rfl) rfl rfl ?_ | refine qv rfl (rr_geq rfl rfl (qT (by omega))) rfl rfl ?_ | refine qv rfl (rr_geq rfl rfl (qF (by omega))) rfl rfl ?_))
    clear hat
    refine TL_new rfl fun g4 => ?_
    refine TL_storeB (i := 1) rfl rfl rfl rfl rfl rfl ?_
    conv => arg 8; simp only [zA, zB, zC, zD, zE, zF, zG, zH, zI, rowS, ret, id_eq]
    unfold prodE at hstop hdrop
    dsimp only at hstop hdrop
    by_cases c7 : 8 < body.length
    · rw [if_pos c7] at hstop
      rw [hstop (by decide)]
      repeat (first
        | refine qv rfl (qp rfl) rfl rfl ?_ | refine TL_nil ?_ | refine T_seq ?_ | refine T_region ?_ | refine qcT rfl ?_ | refine qcF rfl ?_ | refine T_skip ?_
        | refine T_exit ?_ | refine T_ret ?_ | refine T_block ?_ | refine E_then ?_ | refine E_thenX ?_ | refine E_thenR ?_ | refine E_blockN ?_
        | refine E_blockR ?_ | refine E_blockX ?_ | refine E_blockO rfl ?_ | refine qs rfl rfl rfl rfl rfl rfl ?_
        | ((try refine qg rfl rfl rfl ?_); first | refine qv rfl (qp rfl) rfl rfl ?_ | refine qv rfl (rr_load1 TyC.ty rfl (at_blk (i := 1) rfl rfl)) rfl rfl ?_ | refine qv rfl (qlen Und.eq rfl) rfl rfl ?_ | refine qv rfl (qfld FldC.fld rfl rfl) rfl rfl ?_ | refine qv rfl (rr_lss rfl rfl (qT (by omega))) rfl rfl ?_ | refine qv rfl (rr_lss rfl rfl (qF (by omega))) rfl rfl ?_ | refine qv rfl (rr_gtr rfl rfl (qT (by omega))) rfl rfl ?_ | refine qv rfl (rr_gtr rfl rfl (qF (by omega))) rfl rfl ?_ | refine qv rfl (rr_add64 rfl rfl (by omega) (by omega) rfl) rfl rfl ?_ | refine qv rfl (rr_geq rfl rfl (qT (by omega))) rfl rfl ?_ | refine qv rfl (rr_geq rfl rfl (qF (by omega))) rfl rfl ?_))
      exact E_ret1 rfl rfl fun w hm => hm.ret
    rw [if_neg c7] at hstop hdrop
    by_cases c8 : hd < 0
    · rw [if_pos c8] at hstop
      rw [hstop (by decide)]
      repeat (first
        | refine qv rfl (qp rfl) rfl rfl ?_ | refine TL_nil ?_ | refine T_seq ?_ | refine T_region ?_ | refine qcT rfl ?_ | refine qcF rfl ?_ | refine T_skip ?_
        | refine T_exit ?_ | refine T_ret ?_ | refine T_block ?_ | refine E_then ?_ | refine E_thenX ?_ | refine E_thenR ?_ | refine E_blockN ?_
        | refine E_blockR ?_ | refine E_blockX ?_ | refine E_blockO rfl ?_ | refine qs rfl rfl rfl rfl rfl rfl ?_
        | ((try refine qg rfl rfl rfl ?_); first | refine qv rfl (qp rfl) rfl rfl ?_ | refine qv rfl (rr_load1 TyC.ty rfl (at_blk (i := 1) rfl rfl)) rfl rfl ?_ | refine qv rfl (qlen Und.eq rfl) rfl rfl ?_ | refine qv rfl (qfld FldC.fld rfl rfl) rfl rfl ?_ | refine qv rfl (rr_lss rfl rfl (qT (by omega))) rfl rfl ?_ | refine qv rfl (rr_lss rfl rfl (qF (by omega))) rfl rfl ?_ | refine qv rfl (rr_gtr rfl rfl (qT (by omega))) rfl rfl ?_ | refine qv rfl (rr_gtr rfl rfl (qF (by omega))) rfl rfl ?_ | refine qv rfl (rr_add64 rfl rfl (by omega) (by omega) rfl) rfl rfl ?_ | refine qv rfl (rr_geq rfl rfl (qT (by omega))) rfl rfl ?_ | refine qv rfl (rr_geq rfl rfl (qF (by omega))) rfl rfl ?_))
      exact E_ret1 rfl rfl fun w hm => hm.ret
    rw [if_neg c8] at hstop hdrop
    by_cases c9 : n ≤ hd
    · rw [if_pos c9] at hstop
      rw [hstop (by decide)]
      repeat (first
        | refine qv rfl (qp rfl) rfl rfl ?_ | refine TL_nil ?_ | refine T_seq ?_ | refine T_region ?_ | refine qcT rfl ?_ | refine qcF rfl ?_ | refine T_skip ?_
        | refine T_exit ?_ | refine T_ret ?_ | refine T_block ?_ | refine E_then ?_ | refine E_thenX ?_ | refine E_thenR ?_ | refine E_blockN ?_
        | refine E_blockR ?_ | refine E_blockX ?_ | refine E_blockO rfl ?_ | refine qs rfl rfl rfl rfl rfl rfl ?_
        | ((try refine qg rfl rfl rfl ?_); first | refine qv rfl (qp rfl) rfl rfl ?_ | refine qv rfl (rr_load1 TyC.ty rfl (at_blk (i := 1) rfl rfl)) rfl rfl ?_ | refine qv rfl (rr_load1 TyC.ty rfl (at_blk (i := 0) rfl rfl)) rfl rfl ?_ | refine qv rfl (qlen Und.eq rfl) rfl rfl ?_ | refine qv rfl (qfld FldC.fld rfl rfl) rfl rfl ?_ | refine qv rfl (rr_lss rfl rfl (qT (by omega))) rfl rfl ?_ | refine qv rfl (rr_lss rfl rfl (qF (by omega))) rfl rfl ?_ | refine qv rfl (rr_gtr rfl rfl (qT (by omega))) rfl rfl ?_ | refine qv rfl (rr_gtr rfl rfl (qF (by omega))) rfl rfl ?_ | refine qv rfl (rr_add64 rfl rfl (by omega) (by omega) rfl) rfl rfl ?_ | refine qv rfl (rr_geq rfl rfl (qT (by omega))) rfl rfl ?_ | refine qv rfl (rr_geq rfl rfl (qF (by omega))) rfl rfl ?_))
      exact E_ret1 rfl rfl fun w hm => hm.ret
    rw [if_neg c9] at hstop hdrop
    by_cases c10 : body.any (fun x => !right t n x) = true
    · rw [if_pos c10] at hstop
      rw [hstop (by decide)]
      rw [c10] at hco
      repeat (first
        | refine qv rfl (qp rfl) rfl rfl ?_ | refine TL_nil ?_ | refine T_seq ?_ | refine T_region ?_ | refine qcT rfl ?_ | refine qcF rfl ?_ | refine T_skip ?_
        | refine T_exit ?_ | refine T_ret ?_ | refine T_block ?_ | refine E_then ?_ | refine E_thenX ?_ | refine E_thenR ?_ | refine E_blockN ?_
        | refine E_blockR ?_ | refine E_blockX ?_ | refine E_blockO rfl ?_ | refine qs rfl rfl rfl rfl rfl rfl ?_
        | ((try refine qg rfl rfl rfl ?_); first | refine qv rfl (qp rfl) rfl rfl ?_ | refine qv rfl (rr_load1 TyC.ty rfl (at_blk (i := 1) rfl rfl)) rfl rfl ?_ | refine qv rfl (rr_load1 TyC.ty rfl (at_blk (i := 0) rfl rfl)) rfl rfl ?_ | refine qv rfl (qlen Und.eq rfl) rfl rfl ?_ | refine qv rfl (qfld FldC.fld rfl rfl) rfl rfl ?_ | refine qv rfl (rr_lss rfl rfl (qT (by omega))) rfl rfl ?_ | refine qv rfl (rr_lss rfl rfl (qF (by omega))) rfl rfl ?_ | refine qv rfl (rr_gtr rfl rfl (qT (by omega))) rfl rfl ?_ | refine qv rfl (rr_gtr rfl rfl (qF (by omega))) rfl rfl ?_ | refine qv rfl (rr_add64 rfl rfl (by omega) (by omega) rfl) rfl rfl ?_ | refine qv rfl (rr_func rfl rfl) rfl rfl ?_ | refine qv rfl (rr_geq rfl rfl (qT (by omega))) rfl rfl ?_ | refine qv rfl (rr_geq rfl rfl (qF (by omega))) rfl rfl ?_))
      refine TL_gcall (he2 EntersC.en rfl rfl rfl) (fun w hm => hco _ hm.below (hm.get (i := 0) rfl)) rfl rfl rfl rfl rfl ?_
      intro _ _
      repeat (first
        | refine qv rfl (qp rfl) rfl rfl ?_ | refine TL_nil ?_ | refine T_seq ?_ | refine T_region ?_ | refine qcT rfl ?_ | refine qcF rfl ?_ | refine T_skip ?_
        | refine T_exit ?_ | refine T_ret ?_ | refine T_block ?_ | refine E_then ?_ | refine E_thenX ?_ | refine E_thenR ?_ | refine E_blockN ?_
        | refine E_blockR ?_ | refine E_blockX ?_ | refine E_blockO rfl ?_ | refine qs rfl rfl rfl rfl rfl rfl ?_
        | ((try refine qg rfl rfl rfl ?_); first | refine qv rfl (qp rfl) rfl rfl ?_ | refine qv rfl (qlen Und.eq rfl) rfl rfl ?_ | refine qv rfl (qfld FldC.fld rfl rfl) rfl rfl ?_ | refine qv rfl (rr_lss rfl rfl (qT (by omega))) rfl rfl ?_ | refine qv rfl (rr_lss rfl rfl (qF (by omega))) rfl rfl ?_ | refine qv rfl (rr_gtr rfl rfl (qT (by omega))) rfl rfl ?_ | refine qv rfl (rr_gtr rfl rfl (qF (by omega))) rfl rfl ?_ | refine qv rfl (rr_add64 rfl rfl (by omega) (by omega) rfl) rfl rfl ?_ | refine qv rfl (rr_geq rfl rfl (qT (by omega))) rfl rfl ?_ | refine qv rfl (rr_geq rfl rfl (qF (by omega))) rfl rfl ?_))
      exact E_ret1 rfl rfl fun w hm => hm.ret
    · have c10' : body.any (fun x => !right t n x) = false := by simpa using c10
      rw [if_neg c10] at hdrop
      rw [c10'] at hco
      repeat (first
        | refine qv rfl (qp rfl) rfl rfl ?_ | refine TL_nil ?_ | refine T_seq ?_ | refine T_region ?_ | refine qcT rfl ?_ | refine qcF rfl ?_ | refine T_skip ?_
        | refine T_exit ?_ | refine T_ret ?_ | refine T_block ?_ | refine E_then ?_ | refine E_thenX ?_ | refine E_thenR ?_ | refine E_blockN ?_
        | refine E_blockR ?_ | refine E_blockX ?_ | refine E_blockO rfl ?_ | refine qs rfl rfl rfl rfl rfl rfl ?_
        | ((try refine qg rfl rfl rfl ?_); first | refine qv rfl (qp rfl) rfl rfl ?_ | refine qv rfl (rr_load1 TyC.ty rfl (at_blk (i := 1) rfl rfl)) rfl rfl ?_ | refine qv rfl (rr_load1 TyC.ty rfl (at_blk (i := 0) rfl rfl)) rfl rfl ?_ | refine qv rfl (qlen Und.eq rfl) rfl rfl ?_ | refine qv rfl (qfld FldC.fld rfl rfl) rfl rfl ?_ | refine qv rfl (rr_lss rfl rfl (qT (by omega))) rfl rfl ?_ | refine qv rfl (rr_lss rfl rfl (qF (by omega))) rfl rfl ?_ | refine qv rfl (rr_gtr rfl rfl (qT (by omega))) rfl rfl ?_ | refine qv rfl (rr_gtr rfl rfl (qF (by omega))) rfl rfl ?_ | refine qv rfl (rr_add64 rfl rfl (by omega) (by omega) rfl) rfl rfl ?_ | refine qv rfl (rr_func rfl rfl) rfl rfl ?_ | refine qv rfl (rr_geq rfl rfl (qT (by omega))) rfl rfl ?_ | refine qv rfl (rr_geq rfl rfl (qF (by omega))) rfl rfl ?_))
      refine TL_gcall (he2 EntersC.en rfl rfl rfl) (fun w hm => hco _ hm.below (hm.get (i := 0) rfl)) rfl rfl rfl rfl rfl ?_
      intro _ _
      repeat (first
        | refine qv rfl (qp rfl) rfl rfl ?_ | refine TL_nil ?_ | refine T_seq ?_ | refine T_region ?_ | refine qcT rfl ?_ | refine qcF rfl ?_ | refine T_skip ?_
        | refine T_exit ?_ | refine T_ret ?_ | refine T_block ?_ | refine E_then ?_ | refine E_thenX ?_ | refine E_thenR ?_ | refine E_blockN ?_
        | refine E_blockR ?_ | refine E_blockX ?_ | refine E_blockO rfl ?_ | refine qs rfl rfl rfl rfl rfl rfl ?_
        | ((try refine qg rfl rfl rfl ?_); first | refine qv rfl (qp rfl) rfl rfl ?_ | refine qv rfl (qlen Und.eq rfl) rfl rfl ?_ | refine qv rfl (qfld FldC.fld rfl rfl) rfl rfl ?_ | refine qv rfl (rr_lss rfl rfl (qT (by omega))) rfl rfl ?_ | refine qv rfl (rr_lss rfl rfl (qF (by omega))) rfl rfl ?_ | refine qv rfl (rr_gtr rfl rfl (qT (by omega))) rfl rfl ?_ | refine qv rfl (rr_gtr rfl rfl (qF (by omega))) rfl rfl ?_ | refine qv rfl (rr_add64 rfl rfl (by omega) (by omega) rfl) rfl rfl ?_ | refine qv rfl (rr_geq rfl rfl (qT (by omega))) rfl rfl ?_ | refine qv rfl (rr_geq rfl rfl (qF (by omega))) rfl rfl ?_))
      refine E_pick [0] (by decide) rfl ?_
      exact E_round (k + 1) ⟨by omega, hdrop rfl⟩ (by show prods.length - (k + 1) < prods.length - k; omega) (by repeat' (first | exact True.intro | refine And.intro rfl ?_)) rfl
  · rw [List.drop_of_length_le (by omega)]
    repeat (first
      | refine qv rfl (qp rfl) rfl rfl ?_ | refine TL_nil ?_ | refine T_seq ?_ | refine T_region ?_ | refine qcT rfl ?_ | refine qcF rfl ?_ | refine T_skip ?_
      | refine T_exit ?_ | refine T_ret ?_ | refine T_block ?_ | refine E_then ?_ | refine E_thenX ?_ | refine E_thenR ?_ | refine E_blockN ?_
      | refine E_blockR ?_ | refine E_blockX ?_ | refine E_blockO rfl ?_ | refine qs rfl rfl rfl rfl rfl rfl ?_
      | ((try refine qg rfl rfl rfl ?_); first | refine qv rfl (qp rfl) rfl rfl ?_ | refine qv rfl (qlen Und.eq rfl) rfl rfl ?_ | refine qv rfl (qfld FldC.fld rfl rfl) rfl rfl ?_ | refine qv rfl (rr_lss rfl rfl (qT (by omega))) rfl rfl ?_ | refine qv rfl (rr_lss rfl rfl (qF (by omega))) rfl rfl ?_ | refine qv rfl (rr_gtr rfl rfl (qT (by omega))) rfl rfl ?_ | refine qv rfl (rr_gtr rfl rfl (qF (by omega))) rfl rfl ?_ | refine qv rfl (rr_add64 rfl rfl (by omega) (by omega) rfl) rfl rfl ?_ | refine qv rfl (rr_geq rfl rfl (qT (by omega))) rfl rfl ?_ | refine qv rfl (rr_geq rfl rfl (qF (by omega))) rfl rfl ?_))
    exact E_ret1 rfl rfl fun w hm => hm.ret
end Go.Proofs.Ytkkiopmdcolobaa.eng

/- MixX -/
namespace Go.Proofs.Ytkkiopmdcolobaa.eng
open Go.RowKit kit mix
theorem OwnsP.perm {p : Nat → Prop} {w : World} {L L' : List Own} (h : OwnsP p w L) (hp : L.Perm L') : OwnsP p w L' := by
  have hpw : L.Pairwise (fun o o' => ∀ k, o.foot k → ¬ o'.foot k) := List.pairwise_iff_getElem.2 fun i j hi hj hij => h.apart i j _ _ (by omega) (List.getElem?_eq_getElem hi) (List.getElem?_eq_getElem hj)
  have hpw' := List.pairwise_iff_getElem.1 ((hp.pairwise_iff (fun hxy k h1 h2 => hxy k h2 h1)).1 hpw)
  refine ⟨fun i o hi => ?_, fun i j o o' hij hi hj k h1 h2 => ?_⟩
  · obtain ⟨j, hj⟩ := List.getElem?_of_mem (hp.symm.subset (List.mem_of_getElem? hi))
    exact h.all j o hj
  · obtain ⟨hi', rfl⟩ := List.getElem?_eq_some_iff.1 hi
    obtain ⟨hj', rfl⟩ := List.getElem?_eq_some_iff.1 hj
    rcases Nat.lt_or_gt_of_ne hij with h3 | h3
    · exact hpw' i j hi' hj' h3 k h1 h2
    · exact hpw' j i hj' hi' h3 k h2 h1
theorem Mem.perm {W : Base} {w : World} {L L' : List Own} (h : Mem W L w) (hp : L.Perm L') : Mem W L' w := ⟨h.low, h.owns.perm hp⟩
theorem look_perm {l l' : Fr} (hp : l.Perm l') : (l.map (·.1)).Nodup → ∀ (fr : Fr) (i : Nat), look (l ++ fr) i = look (l' ++ fr) i := by
  induction hp with
  | nil => intro _ _ _; rfl
  | cons x _ ih =>
    intro hn fr i
    rw [List.map_cons, List.nodup_cons] at hn
    obtain ⟨k, v⟩ := x
    show (bif Nat.beq k i then some v else _) = (bif Nat.beq k i then some v else _)
    have e := ih hn.2 fr i
    exact congrArg (fun z => bif Nat.beq k i then some v else z) e
  | swap x y l =>
    intro hn fr i
    obtain ⟨k, v⟩ := x
    obtain ⟨k2, v2⟩ := y
    simp only [List.map_cons, List.nodup_cons, List.mem_cons, not_or] at hn
    show (bif Nat.beq k2 i then some v2 else bif Nat.beq k i then some v else _) = (bif Nat.beq k i then some v else bif Nat.beq k2 i then some v2 else _)
    cases e : Nat.beq k2 i
    · rfl
    · cases e2 : Nat.beq k i
      · rfl
      · have a := Nat.eq_of_beq_eq_true e
        have b := Nat.eq_of_beq_eq_true e2
        exact absurd (a.trans b.symm) hn.1.1
  | trans h1 _ ih1 ih2 =>
    intro hn fr i
    rw [ih1 hn, ih2 ((h1.map _).nodup_iff.1 hn)]
theorem perm_lift {α β : Type} (f : α → β) {l l' : List β} (h : l.Perm l') : ∀ dn : List α, dn.map f = l → ∃ dn' : List α, dn'.Perm dn ∧ dn'.map f = l' := by
  induction h with
  | nil => exact fun dn h => ⟨dn, .refl _, h⟩
  | cons x _ ih =>
    intro dn h
    match dn, h with
    | y :: dn, h =>
      simp only [List.map_cons, List.cons.injEq] at h
      obtain ⟨d', h1, h2⟩ := ih dn h.2
      exact ⟨y :: d', h1.cons y, by simp [h.1, h2]⟩
  | swap x y l =>
    intro dn h
    match dn, h with
    | a :: b :: dn, h =>
      simp only [List.map_cons, List.cons.injEq] at h
      exact ⟨b :: a :: dn, List.Perm.swap _ _ _, by simp [h.1, h.2.1, h.2.2]⟩
  | trans _ _ ih1 ih2 =>
    intro dn h
    obtain ⟨d1, h1, h2⟩ := ih1 dn h
    obtain ⟨d2, h3, h4⟩ := ih2 d1 h2
    exact ⟨d2, h3.trans h1, h4⟩
def subs : List Nat → List (List Nat)
  | [] => [[]]
  | a :: r => subs r ++ (subs r).map (a :: ·)
theorem filter_subs (p : Nat → Bool) : ∀ l, l.filter p ∈ subs l
  | [] => by simp [subs]
  | a :: r => by
    have ih := filter_subs p r
    unfold subs
    rw [List.filter_cons]
    split
    · exact List.mem_append_right _ (List.mem_map_of_mem ih)
    · exact List.mem_append_left _ ih
/-- a maker of a region -/
structure Mk where
  i : Nat
  d : Nat
  v : Nat → Value
  own : Nat → Own
def frm (dn : List (Mk × Nat)) : Fr := dn.map fun x => (x.1.d, x.1.v x.2)
def owm (dn : List (Mk × Nat)) : List Own := dn.map fun x => x.1.own x.2
def markL (listed : Array Bool) (D : List Nat) : Array Bool := D.foldl (fun l i => l.setIfInBounds i true) listed
theorem markL_get (D : List Nat) : ∀ (listed : Array Bool) (j : Nat), (markL listed D)[j]? = (listed[j]?).map fun b => b || D.contains j := by
  induction D with
  | nil => intro listed j; simp [markL]
  | cons a r ih =>
    intro listed j
    show (markL (listed.setIfInBounds a true) r)[j]? = _
    rw [ih, Array.getElem?_setIfInBounds]
    by_cases c : a = j
    · subst c
      simp
      split <;> simp_all
    · rw [if_neg c]
      have : ¬ j = a := fun h => c h.symm
      simp [this]
theorem markL_same {listed : Array Bool} {D D' : List Nat} (h : ∀ j, D.contains j = D'.contains j) : markL listed D = markL listed D' := by
  apply Array.ext_getElem?
  intro j
  rw [markL_get, markL_get, h j]
def manyB (ops : Array Oper) (is : List Nat) (ends : List (List Nat)) (listed : Array Bool) : Bool := (subs is).all fun D => ends.contains D || decide (Region.ready .any ops (markL listed D) = is.filter fun i => !D.contains i)
theorem nodup_le : ∀ (l l' : List Nat), l.Nodup → (∀ x ∈ l, x ∈ l') → l.length ≤ l'.length
  | [], _, _, _ => Nat.zero_le _
  | a :: r, l', hn, hs => by
    rw [List.nodup_cons] at hn
    have ha := hs a (by simp)
    have := nodup_le r (l'.erase a) hn.2 fun x hx => (List.mem_erase_of_ne (fun (e : x = a) => hn.1 (by rw [← e]; exact hx))).2 (hs x (by simp [hx]))
    rw [List.length_erase_of_mem ha] at this
    have := List.length_pos_of_mem ha
    simp; omega
theorem nodup_perm : ∀ (l l' : List Nat), l.Nodup → (∀ x ∈ l, x ∈ l') → l'.length ≤ l.length → l.Perm l'
  | [], l', _, _, h => by
    have : l' = [] := List.length_eq_zero_iff.1 (by simpa using h)
    subst this; exact .refl _
  | a :: r, l', hn, hs, h => by
    rw [List.nodup_cons] at hn
    have ha := hs a (by simp)
    have hl := List.length_erase_of_mem ha
    have h2 := List.length_pos_of_mem ha
    have := nodup_perm r (l'.erase a) hn.2 (fun x hx => (List.mem_erase_of_ne (fun (e : x = a) => hn.1 (by rw [← e]; exact hx))).2 (hs x (by simp [hx]))) (by simp at h; omega)
    exact (this.cons a).trans (List.perm_cons_erase ha).symm
theorem inj_i : ∀ (ms : List Mk), (ms.map (·.i)).Nodup → ∀ m ∈ ms, ∀ m' ∈ ms, m.i = m'.i → m = m'
  | [], _, _, hm, _, _, _ => by cases hm
  | y :: ms, h, m, hm, m', hm', e => by
    rw [List.map_cons, List.nodup_cons] at h
    rcases List.mem_cons.1 hm with a1 | a1 <;> rcases List.mem_cons.1 hm' with a2 | a2
    · rw [a1, a2]
    · exact absurd (by rw [← a1, e]; exact List.mem_map_of_mem a2) h.1
    · exact absurd (by rw [← a2, ← e]; exact List.mem_map_of_mem a1) h.1
    · exact inj_i ms h.2 m a1 m' a2 e
theorem fst_of_i : ∀ (dn : List (Mk × Nat)) (ms all : List Mk), (∀ m ∈ all, ∀ m' ∈ all, m.i = m'.i → m = m') → (∀ x ∈ dn, x.1 ∈ all) → (∀ x ∈ ms, x ∈ all) → dn.map (·.1.i) = ms.map (·.i) → dn.map (·.1) = ms
  | [], ms, _, _, _, _, h => by
    simp only [List.map_nil] at h
    exact (List.map_eq_nil_iff.1 h.symm).symm
  | y :: dn, [], _, _, _, _, h => by simp at h
  | y :: dn, m :: ms, all, hi, h1, h2, h => by
    simp only [List.map_cons, List.cons.injEq] at h
    rw [List.map_cons, fst_of_i dn ms all hi (fun x hx => h1 x (by simp [hx])) (fun x hx => h2 x (by simp [hx])) h.2, hi y.1 (h1 y (by simp)) m (h2 m (by simp)) h.1]
section
variable {P : Program} {n : Nat} {W : Base} {Q : Exit → Act → World → Prop} {fr : Fr} {L L0 : List Own} {ops : Array Oper}
/-- what a maker does, from any frame that knows as much -/
def Makes (P : Program) (n : Nat) (W : Base) (ops : Array Oper) (fr : Fr) (m : Mk) : Prop :=
  ∃ o, ops[m.i]? = some o ∧ ∀ (Q : Exit → Act → World → Prop) (fr' : Fr) (L : List Own), (∀ q v, look fr q = some v → look fr' q = some v) → (∀ g, TL P n W ops Q [] ((m.d, m.v g) :: fr') (L ++ [m.own g])) → TL P n W ops Q [o] fr' L
theorem look_none : ∀ (l : Fr) {q : Nat} {v : Value}, (∀ x ∈ l, look fr x.1 = none) → look fr q = some v → look (l ++ fr) q = some v
  | [], _, _, _, h => h
  | (k, u) :: l, q, v, hl, h => by
    show (bif Nat.beq k q then some u else look (l ++ fr) q) = some v
    cases e : Nat.beq k q
    · exact look_none l (fun x hx => hl x (by simp [hx])) h
    · have := Nat.eq_of_beq_eq_true e
      subst this
      have := hl (k, u) (by simp)
      rw [this] at h
      cases h
theorem Rep.perm {a : Act} {l l' : Fr} (h : Rep n a (l ++ fr)) (hp : l.Perm l') (hn : (l.map (·.1)).Nodup) : Rep n a (l' ++ fr) :=
  ⟨h.size, h.defers, fun i v hl => h.get i v (by rw [look_perm hp hn fr i]; exact hl)⟩
theorem pick_g : ∀ (dn : List (Mk × Nat)), (dn.map (·.1.i)).Nodup → ∃ g : Nat → Nat, ∀ x ∈ dn, g x.1.i = x.2
  | [], _ => ⟨fun _ => 0, fun x hx => by cases hx⟩
  | y :: dn, h => by
    rw [List.map_cons, List.nodup_cons] at h
    obtain ⟨g, hg⟩ := pick_g dn h.2
    refine ⟨fun i => if i = y.1.i then y.2 else g i, fun x hx => ?_⟩
    rcases List.mem_cons.1 hx with rfl | hx
    · simp
    · have : ¬ x.1.i = y.1.i := fun e => h.1 (by rw [← e]; exact List.mem_map_of_mem hx)
      simp only [if_neg this]
      exact hg x hx
theorem many_canon (ms E : List Mk) (hn : (ms.map (·.i)).Nodup) (hEn : (E.map (·.i)).Nodup) (hEd : (E.map (·.d)).Nodup) (hE : ∀ m ∈ E, m ∈ ms) (dn : List (Mk × Nat)) (h1 : ∀ x ∈ dn, x.1 ∈ ms) (hp : (dn.map (·.1.i)).Perm (E.map (·.i))) (a : Act) (hr : Rep n a (frm dn ++ fr)) :
    ∃ g : Nat → Nat, Rep n a (E.map (fun m => (m.d, m.v (g m.i))) ++ fr) ∧ Mem W (L ++ owm dn) = Mem W (L ++ E.map fun m => m.own (g m.i)) := by
  obtain ⟨d', p1, p2⟩ := perm_lift (fun x : Mk × Nat => x.1.i) hp dn rfl
  have e1 := fst_of_i d' E ms (inj_i ms hn) (fun x hx => h1 x (p1.subset hx)) hE p2
  obtain ⟨g, hg⟩ := pick_g d' (by rw [p2]; exact hEn)
  have e2 : d' = E.map fun m => (m, g m.i) := by
    rw [← e1, List.map_map]
    conv => lhs; rw [← List.map_id d']
    exact List.map_congr_left fun x hx => by
      obtain ⟨m, q⟩ := x
      have := hg _ hx
      dsimp only at this
      simp [this]
  have hpd : ((frm dn).map (·.1)).Nodup := by
    have : ((frm dn).map (·.1)).Perm (E.map (·.d)) := by
      have h5 := (p1.map fun x : Mk × Nat => x.1.d).symm
      have e : d'.map (fun x : Mk × Nat => x.1.d) = E.map (·.d) := by rw [← e1, List.map_map]; rfl
      rw [e] at h5
      unfold frm
      rw [List.map_map]
      exact h5
    exact this.nodup_iff.2 hEd
  have hr' := hr.perm (p1.map _).symm hpd
  refine ⟨g, ?_, ?_⟩
  · have : d'.map (fun x => (x.1.d, x.1.v x.2)) = E.map (fun m => (m.d, m.v (g m.i))) := by rw [e2, List.map_map]; rfl
    rw [← this]; exact hr'
  · have e : E.map (fun m => m.own (g m.i)) = owm d' := by rw [e2, owm, List.map_map]; rfl
    rw [e]
    exact funext fun w => propext ⟨fun h => h.perm (((p1.map _).symm).append_left L), fun h => h.perm ((p1.map _).append_left L)⟩
theorem many_go (ms : List Mk) (ends : List (List Mk)) (listed : Array Bool) (U : World → Prop) (S0 : Nat) (hUL : ∀ l, ∀ w, Mem W (L ++ l) w → U w)
    (hn : (ms.map (·.i)).Nodup) (hd : (ms.map (·.d)).Nodup) (hB : manyB ops (ms.map (·.i)) (ends.map fun E => E.map (·.i)) listed = true) (hm : ∀ m ∈ ms, Makes P n W ops fr m) (hf : ∀ m ∈ ms, look fr m.d = none)
    (hEnd : ∀ E ∈ ms :: ends, (∀ m ∈ E, m ∈ ms) ∧ (E.map (·.i)).Nodup ∧ (E.map (·.d)).Nodup ∧ ∀ (k : Nat) (g : Nat → Nat) (a : Act), E.length + k = ms.length → Rep n a (E.map (fun m => (m.d, m.v (g m.i))) ++ fr) → wpAnyV P .any ops Q U (k + S0) (markL listed (E.map (·.i))) a (Mem W (L ++ E.map fun m => m.own (g m.i)))) :
    ∀ (k : Nat) (dn : List (Mk × Nat)), (∀ x ∈ dn, x.1 ∈ ms) → (dn.map (·.1.i)).Nodup → dn.length + k = ms.length → ∀ a, Rep n a (frm dn ++ fr) → wpAnyV P .any ops Q U (k + S0) (markL listed (dn.map (·.1.i))) a (Mem W (L ++ owm dn)) := by
  have stop : ∀ E ∈ ms :: ends, ∀ (k : Nat) (dn : List (Mk × Nat)), (∀ x ∈ dn, x.1 ∈ ms) → (dn.map (·.1.i)).Nodup → dn.length + k = ms.length → (dn.map (·.1.i)).Perm (E.map (·.i)) → ∀ a, Rep n a (frm dn ++ fr) → wpAnyV P .any ops Q U (k + S0) (markL listed (dn.map (·.1.i))) a (Mem W (L ++ owm dn)) := by
    intro E hE k dn h1 h2 h3 hp a hr
    obtain ⟨q1, q2, q3, q4⟩ := hEnd E hE
    obtain ⟨g, r1, r2⟩ := many_canon (W := W) (L := L) ms E hn q2 q3 q1 dn h1 hp a hr
    have hlen := hp.length_eq
    simp only [List.length_map] at hlen
    rw [r2, markL_same (D' := E.map (·.i)) fun j => ?_]
    · exact q4 k g a (by omega) r1
    · exact Bool.eq_iff_iff.2 (by simpa using hp.mem_iff)
  intro k
  induction k with
  | zero =>
    intro dn h1 h2 h3 a hr
    exact stop ms (by simp) 0 dn h1 h2 h3 (nodup_perm (dn.map (·.1.i)) (ms.map (·.i)) h2 (fun x hx => by
      obtain ⟨y, hy, rfl⟩ := List.mem_map.1 hx
      exact List.mem_map_of_mem (f := (·.i)) (h1 y hy)) (by simp; omega)) a hr
  | succ k ih =>
    intro dn h1 h2 h3 a hr
    have hstop := fun E hE hp => stop E hE (k + 1) dn h1 h2 h3 hp a hr
    have hsub : ∀ x ∈ dn.map (·.1.i), x ∈ ms.map (·.i) := fun x hx => by
      obtain ⟨y, hy, rfl⟩ := List.mem_map.1 hx
      exact List.mem_map_of_mem (f := (·.i)) (h1 y hy)
    generalize hD : dn.map (·.1.i) = D at *
    have hlenD : D.length = dn.length := by rw [← hD]; simp
    have hsame : ∀ j, D.contains j = ((ms.map (·.i)).filter fun i => D.contains i).contains j := fun j => by
      apply Bool.eq_iff_iff.2
      simp only [List.contains_iff_mem, List.mem_filter]
      exact ⟨fun h => ⟨hsub j h, h⟩, fun h => h.2⟩
    have hq := List.all_eq_true.1 hB _ (filter_subs (fun i => D.contains i) (ms.map (·.i)))
    rw [Bool.or_eq_true] at hq
    rcases hq with hq | hq
    · rw [List.contains_iff_mem] at hq
      obtain ⟨E, hE, e⟩ := List.mem_map.1 hq
      refine hstop E (by simp [hE]) ?_
      rw [e]
      refine nodup_perm _ _ h2 (fun x hx => List.mem_filter.2 ⟨hsub x hx, by simpa using hx⟩) ?_
      exact nodup_le _ _ (hn.filter _) fun x hx => by simpa using (List.mem_filter.1 hx).2
    have hready : Region.ready .any ops (markL listed D) = (ms.map (·.i)).filter fun i => !D.contains i := by
      have hq := of_decide_eq_true hq
      rw [markL_same hsame, hq]
      exact List.filter_congr fun i _ => by rw [← hsame i]
    rw [show k + 1 + S0 = (k + S0) + 1 by omega]
    refine ⟨fun h0 => ?_, fun i hi w hw => ?_⟩
    · exfalso
      have : (ms.map (·.i)).length ≤ D.length := nodup_le _ _ hn fun x hx => by
        rw [hready] at h0
        have := List.filter_eq_nil_iff.1 h0 x hx
        simpa using this
      simp at this
      omega
    · rw [hready, List.mem_filter] at hi
      obtain ⟨hi1, hi2⟩ := hi
      obtain ⟨m, hm1, rfl⟩ := List.mem_map.1 hi1
      have hi3 : m.i ∉ D := by simpa using hi2
      obtain ⟨o, ho, hmk⟩ := hm m hm1
      refine wpOp_of_list ho ((hmk _ (frm dn ++ fr) (L ++ owm dn) (fun q v hq => look_none (frm dn) (fun x hx => ?_) hq) fun g => ?_).go a w hr hw)
      · obtain ⟨y, hy, rfl⟩ := List.mem_map.1 hx
        exact hf y.1 (h1 y hy)
      · refine TL_nil ⟨fun a' w' hr' hm' => ⟨Mem W (L ++ owm ((m, g) :: dn)), closed_mem _ _, hUL _, hm'.perm ?_, ?_⟩⟩
        · rw [List.append_assoc]
          exact (List.perm_append_comm).append_left L
        · have := ih ((m, g) :: dn) (fun x hx => by
            rcases List.mem_cons.1 hx with rfl | hx
            · exact hm1
            · exact h1 x hx) (by rw [List.map_cons, hD, List.nodup_cons]; exact ⟨hi3, h2⟩) (by simp; omega) a' hr'
          rw [List.map_cons, hD] at this
          have e : (markL listed D).setIfInBounds m.i true = markL listed (m.i :: D) := by
            have e0 : (markL listed D).setIfInBounds m.i true = markL listed (D ++ [m.i]) := by
              unfold markL; rw [List.foldl_append]; rfl
            rw [e0]
            exact markL_same fun j => by
              apply Bool.eq_iff_iff.2
              simp [or_comm]
          rw [e]
          exact this
/-- a region that draws, with some of it listed -/
structure TX (P : Program) (n : Nat) (W : Base) (ops : Array Oper) (Q : Exit → Act → World → Prop) (L0 : List Own) (listed : Array Bool) (f : Nat) (fr : Fr) (L : List Own) : Prop where
  go : (∀ w, Mem W L w → Mem W L0 w) → (∀ c a d v w, Q (.panic c) (Act.put a d v) w → Q (.panic c) a w) → Region.noSelect ops = true → ∀ a, Rep n a fr → wpAnyV P .any ops Q (Mem W L0) f listed a (Mem W L)
theorem mem_left {L l : List Own} {w : World} (h : Mem W (L ++ l) w) : Mem W L w := by
  have hl : ∀ (i : Nat) (o : Own), L[i]? = some o → (L ++ l)[i]? = some o := fun i o h => by
    rw [List.getElem?_append_left (List.getElem?_eq_some_iff.1 h).1]; exact h
  exact ⟨h.low, ⟨fun i o hi => h.owns.all i o (hl i o hi), fun i j o o' hij hi hj => h.owns.apart i j o o' hij (hl i o hi) (hl j o' hj)⟩⟩
theorem T_ordX {id : Nat} {l : List Oper} (L0 : List Own) (hsub : ∀ w, Mem W L w → Mem W L0 w) (hm : P.follows .mixedOrders = true) (hsel : Region.noSelect l.toArray = true)
    (hQ : ∀ c a d v w, Q (.panic c) (Act.put a d v) w → Q (.panic c) a w)
    (h : TX P n W l.toArray Q L0 (Array.replicate l.toArray.size false) l.toArray.size fr L) : T P n W (.region id l.toArray true) Q fr L := ⟨fun a w hr hmm => by
  refine wp_region_any hm ?_
  exact wpAny_of_V (U := Mem W L0) l.toArray.size (Array.replicate l.toArray.size false) a (Mem W L) w.drew hmm.drew (h.go hsub hQ hsel a hr)⟩
theorem TX_tree {listed : Array Bool} {f : Nat} (t : Ord) (ho : orderO .any ops t listed = true) (hf : f = t.size) (h : TW P n W ops Q L0 t fr L) : TX P n W ops Q L0 listed f fr L :=
  ⟨fun hsub hQ hsel a hr => by subst hf; exact wpAnyV_ord hsel hQ t listed a (Mem W L) (closed_mem W L) hsub ho (h.go a hr)⟩
theorem TX_val {listed : Array Bool} {f d : Nat} {o : Oper} {v : Value} (i : Nat) (hi : ((Region.ready .any ops listed).contains i && Region.free .any ops listed i) = true) (ho : ops[i]? = some o) (hr : RR P n W o fr L0 v) (hg : o.guard = none) (hd : o.dst = some d) (hn : Nat.blt d n = true)
    (h : TX P n W ops Q L0 (listed.setIfInBounds i true) f ((d, v) :: fr) L) : TX P n W ops Q L0 listed (f + 1) fr L := ⟨fun hsub hQ hsel a hrep => by
  rw [Bool.and_eq_true] at hi
  have hc : CalmIn P ops (Mem W L0) o v a := .inl ⟨wanted_none hg, fun w hw => by unfold calmAt; rw [hr.go a w hrep hw]; exact ⟨rfl, Gr.refl _⟩⟩
  exact wpAnyV_first ho (Region.noSelect_spec hsel) (fun c a w => hQ c a o.dst v w) f listed a (Mem W L) (closed_mem W L) hsub (Region.free_spec ho hi.2) (by simpa using hi.1) hc
    (by rw [hd]; exact h.go hsub hQ hsel _ (hrep.put hn v))⟩
def manyOk (ops : Array Oper) (ms : List Mk) (ends : List (List Nat)) (listed : Array Bool) (fr : Fr) : Bool :=
  decide (ms.map (·.i)).Nodup && decide (ms.map (·.d)).Nodup && manyB ops (ms.map (·.i)) ends listed && ms.all fun m => (look fr m.d).isNone
/-- where some of them being done sets another operation free (ps tells the places of such a set): a walk of its own from there -/
theorem TX_many2 {listed : Array Bool} {f : Nat} (ms : List Mk) (p : Mk → Bool) (S0 : Nat) (hf : f = ms.length + S0) (hB : manyOk ops ms [ms.map (·.i), (ms.filter p).map (·.i)] listed fr = true) (hm : ∀ m ∈ ms, Makes P n W ops fr m)
    (h : ∀ g : Nat → Nat, TX P n W ops Q L0 (markL listed (ms.map (·.i))) S0 (ms.map (fun m => (m.d, m.v (g m.i))) ++ fr) (L ++ ms.map fun m => m.own (g m.i)))
    (h' : ∀ g : Nat → Nat, TX P n W ops Q L0 (markL listed ((ms.filter p).map (·.i))) (ms.length - (ms.filter p).length + S0) ((ms.filter p).map (fun m => (m.d, m.v (g m.i))) ++ fr) (L ++ (ms.filter p).map fun m => m.own (g m.i))) : TX P n W ops Q L0 listed f fr L := ⟨fun hsub hQ hsel a hr => by
  subst hf
  simp only [manyOk, Bool.and_eq_true, decide_eq_true_eq] at hB
  obtain ⟨⟨⟨b1, b2⟩, b3⟩, b4⟩ := hB
  have := many_go (Q := Q) (L := L) ms [ms, ms.filter p] listed (Mem W L0) S0 (fun l w hw => hsub w (mem_left hw)) b1 b2 b3 hm (fun m hm => by simpa using List.all_eq_true.1 b4 m hm)
    (fun E hE => by
      have hE : E = ms ∨ E = ms.filter p := by
        simp only [List.mem_cons, List.not_mem_nil, or_false] at hE
        rcases hE with h | h | h
        · exact .inl h
        · exact .inl h
        · exact .inr h
      rcases hE with rfl | rfl
      · exact ⟨fun _ h => h, b1, b2, fun k g a hk hr => by
          obtain rfl : k = 0 := by omega
          rw [Nat.zero_add]
          exact (h g).go (fun w hw => hsub w (mem_left hw)) hQ hsel a hr⟩
      · exact ⟨fun _ h => (List.mem_filter.1 h).1, b1.sublist (List.filter_sublist.map _), b2.sublist (List.filter_sublist.map _), fun k g a hk hr => by
          obtain rfl : k = ms.length - (ms.filter p).length := by omega
          exact (h' g).go (fun w hw => hsub w (mem_left hw)) hQ hsel a hr⟩) ms.length [] (fun x hx => by cases hx) (by simp) (by simp) a hr
  simpa [markL, owm] using this⟩
theorem ev_mono {fr fr' : Fr} (h : ∀ q v, look fr q = some v → look fr' q = some v) {x : Operand} {v : Value} (hx : ev fr x = some v) : ev fr' x = some v := by
  cases x with
  | tmp t => exact h _ _ hx
  | _ => exact hx
theorem makes_slice {i d : Nat} {t e ty : TypeId} {pos : String} {after : Array Edge} {x y : Operand} {c bytes m cap : Nat} {k k' : IntKind} {zs : Array Value} [ElC P t e c bytes] [ZeroC P e zs] (ho : ops[i]? = some ⟨some d, .makeSlice t x y, ty, pos, after, none⟩) (hx : ev fr x = some (.int k (m : Int))) (hy : ev fr y = some (.int k' (cap : Int))) (hmc : m ≤ cap) (hb : bytes * cap ≤ 281474976710656) (h63 : cap ≤ 9223372036854775807) (hn : Nat.blt d n = true) :
    Makes P n W ops fr ⟨i, d, fun g => .slice (some ⟨g, 0, none⟩) m cap, fun g => blkO g (madeCells zs (cap * c)) e⟩ :=
  ⟨_, ho, fun _ _ _ hl h => TL_makeB (ev_mono hl hx) (ev_mono hl hy) hmc hb h63 hn h⟩
theorem makes_new {i d : Nat} {t ty : TypeId} {pos : String} {after : Array Edge} {cs : Array Value} [ZeroC P t cs] (ho : ops[i]? = some ⟨some d, .alloc t, ty, pos, after, none⟩) (hn : Nat.blt d n = true) :
    Makes P n W ops fr ⟨i, d, fun g => .pointer (some ⟨g, 0, none⟩), fun g => blkO g cs t⟩ :=
  ⟨_, ho, fun _ _ _ _ h => TL_new hn h⟩
end
end Go.Proofs.Ytkkiopmdcolobaa.eng

/- TreeS -/
namespace Go.Proofs.Ytkkiopmdcolobaa.eng
open Go.RowKit kit mix gramL treeL
/-- a tree that can be read, its blocks being in F -/
inductive TreeIs (F : Nat → Prop) (w : World) : List Value → Tree → Prop
  | mk {p k : Int} {kids : List Tree} {base : Option Addr} {cap : Nat} (css : List (List Value)) : kit.okI64 p → kit.okI64 k → kids.length ≤ cap → cap ≤ maxLen → css.length = kids.length →
    (∀ i (h : i < kids.length) (h' : i < css.length), TreeIs F w css[i] kids[i]) → (0 < kids.length → ∃ b off, base = some ⟨b, off, none⟩ ∧ F b ∧ ∀ i (_ : i < kids.length) (h' : i < css.length), Rd w b (off + i * 3) css[i]) →
    TreeIs F w [.int .i64 p, .int .i64 k, .slice base kids.length cap] (.mk p k kids)
theorem TreeIs.len3 {F : Nat → Prop} {w : World} {cs : List Value} {t : Tree} (h : TreeIs F w cs t) : cs.length = 3 := by
  cases h; rfl
theorem TreeIs.stayed {F : Nat → Prop} {w w' : World} {cs : List Value} {t : Tree} (h : TreeIs F w cs t) (hk : ∀ k, F k → w'.heap[k]? = w.heap[k]?) : TreeIs F w' cs t := by
  induction h with
  | mk css h1 h2 h3 h4 h5 h6 h7 ih =>
    refine .mk css h1 h2 h3 h4 h5 ih fun hl => ?_
    obtain ⟨b, off, e, hF, hr⟩ := h7 hl
    exact ⟨b, off, e, hF, fun i hi hi' => rd_stay (hr i hi hi') (hk b hF)⟩
theorem TreeIs.mono {F F' : Nat → Prop} {w : World} {cs : List Value} {t : Tree} (h : TreeIs F w cs t) (hk : ∀ k, F k → F' k) : TreeIs F' w cs t := by
  induction h with
  | mk css h1 h2 h3 h4 h5 h6 h7 ih =>
    refine .mk css h1 h2 h3 h4 h5 ih fun hl => ?_
    obtain ⟨b, off, e, hF, hr⟩ := h7 hl
    exact ⟨b, off, e, hk b hF, hr⟩
def treeS : Shp Tree := ⟨3, TreeIs, fun h => h.len3, fun h hk => h.stayed hk, fun h hk => h.mono hk⟩
def treeV (p k : Int) (v : Value) : Value := .agg #[.int .i64 p, .int .i64 k, v]
theorem tree_iff {F : Nat → Prop} {w : World} {cs : List Value} {p k : Int} {kids : List Tree} : TreeIs F w cs (.mk p k kids) ↔ ∃ v, cs = [.int .i64 p, .int .i64 k, v] ∧ kit.okI64 p ∧ kit.okI64 k ∧ SlF treeS F w v kids := by
  constructor
  · intro h
    cases h with
    | mk css h1 h2 h3 h4 h5 h6 h7 =>
      refine ⟨_, rfl, h1, h2, _, _, rfl, h3, h4, fun hl => ?_⟩
      obtain ⟨b, off, e, hF, hr⟩ := h7 hl
      exact ⟨b, off, e, hF, fun i hi => ⟨css[i]'(by omega), h6 i hi (by omega), hr i hi (by omega)⟩⟩
  · rintro ⟨v, rfl, h1, h2, base, cap, rfl, h3, h4, h5⟩
    by_cases hl : 0 < kids.length
    · obtain ⟨b, off, e, hF, hr⟩ := h5 hl
      have hlen : (List.ofFn fun i : Fin kids.length => Classical.choose (hr i i.2)).length = kids.length := by simp
      refine .mk (List.ofFn fun i : Fin kids.length => Classical.choose (hr i i.2)) h1 h2 h3 h4 hlen (fun i hi hi' => ?_) fun _ => ⟨b, off, e, hF, fun i hi hi' => ?_⟩
      · rw [List.getElem_ofFn]; exact (Classical.choose_spec (hr i hi)).1
      · rw [List.getElem_ofFn]; exact (Classical.choose_spec (hr i hi)).2
    · have : kids = [] := List.eq_nil_of_length_eq_zero (by omega)
      subst this
      exact .mk [] h1 h2 h3 h4 rfl (fun i hi => absurd hi (by simp)) fun h => absurd h (by simp)
theorem tree_mk {F : Nat → Prop} {w : World} {cs : List Value} {t : Tree} (h : TreeIs F w cs t) : ∃ v, cs = [.int .i64 t.prod, .int .i64 t.tok, v] ∧ kit.okI64 t.prod ∧ kit.okI64 t.tok ∧ SlF treeS F w v t.kids := by
  obtain ⟨p, k, kids⟩ := t
  exact tree_iff.1 h
/-- a tree that is a value -/
def TreeR (F : Nat → Prop) (w : World) (v : Value) (t : Tree) : Prop := ∃ vk, v = treeV t.prod t.tok vk ∧ kit.okI64 t.prod ∧ kit.okI64 t.tok ∧ SlF treeS F w vk t.kids
theorem TreeR.gr {w w' : World} {v : Value} {t : Tree} (h : TreeR (fun k => k < w.heap.size) w v t) (hg : Gr w w') : TreeR (fun k => k < w'.heap.size) w' v t :=
  let ⟨vk, h1, h2, h3, h4⟩ := h; ⟨vk, h1, h2, h3, h4.gr hg⟩
/-- a kid -/
theorem kid_at {F : Nat → Prop} {w : World} {b off : Nat} {l : List Tree} (h : ∀ i (h : i < l.length), ∃ cs, treeS.is F w cs l[i] ∧ Rd w b (off + i * treeS.c) cs) {k : Nat} (hk : k < l.length) :
    ∃ base cap, Rd w b (off + k * 3) [.int .i64 l[k].prod, .int .i64 l[k].tok, .slice base l[k].kids.length cap] ∧ TreeR F w (treeV l[k].prod l[k].tok (.slice base l[k].kids.length cap)) l[k] := by
  obtain ⟨cs, h1, hr⟩ := h k hk
  obtain ⟨v, rfl, a1, a2, a3⟩ := tree_mk h1
  have a3' := a3
  obtain ⟨base, cap, rfl, _⟩ := a3'
  exact ⟨base, cap, hr, _, rfl, a1, a2, a3⟩
section
variable {P : Program} {n : Nat} {W : Base} {fr : Fr} {L : List Own} {dst : Option Tmp} {ty : TypeId} {pos : String} {after : Array Edge} {guard : Option (Nat × Bool)} {f : FuncId} {ts : Array TypeId} {cl x1 x2 : Operand} {v1 v2 : Value} {first cap : Array Value}
theorem he2c (hf : Enters P f) (hc : ev fr cl = some (.func (.func f) first cap)) (h1 : ev fr x1 = some v1) (h2 : ev fr x2 = some v2) : ∀ a w, Rep n a fr → (execOp a.eval ⟨dst, .call { callee := .value cl, args := #[x1, x2], argTypes := ts }, ty, pos, after, guard⟩).run P w = .ok (.enter f (first ++ #[v1, v2] ++ cap)) w := fun a w hr => by
  have hf' : ∀ args w, (callFunc f args).run P w = .ok (.enter f args) w := hf
  simp [execOp, resolve, hr.ev hc, hr.ev h1, hr.ev h2, Deferred.ofValue, invoke, hf']
theorem he5 {x3 x4 x5 : Operand} {v3 v4 v5 : Value} (hf : Enters P f) (hc : ev fr cl = some (.func (.func f) #[] #[])) (h1 : ev fr x1 = some v1) (h2 : ev fr x2 = some v2) (h3 : ev fr x3 = some v3) (h4 : ev fr x4 = some v4) (h5 : ev fr x5 = some v5) : ∀ a w, Rep n a fr → (execOp a.eval ⟨dst, .call { callee := .value cl, args := #[x1, x2, x3, x4, x5], argTypes := ts }, ty, pos, after, guard⟩).run P w = .ok (.enter f #[v1, v2, v3, v4, v5]) w := fun a w hr => by
  have hf' : ∀ args w, (callFunc f args).run P w = .ok (.enter f args) w := hf
  simp [execOp, resolve, hr.ev hc, hr.ev h1, hr.ev h2, hr.ev h3, hr.ev h4, hr.ev h5, Deferred.ofValue, invoke, hf']
end
end Go.Proofs.Ytkkiopmdcolobaa.eng

/- TreeA -/
namespace Go.Proofs.Ytkkiopmdcolobaa.eng
open Go.RowKit kit mix gramL treeL
def wkV (t n : Int) (vp : Value) (nodes leaves : Nat) : Array Value := #[.int .i64 t, .int .i64 n, vp, .int .i64 (nodes : Int), .int .i64 (leaves : Int)]
theorem prodAt_eq {l : List gramL.Prod} {k : Nat} (h : k < l.length) : prodAt l (k : Int) = l[k] := by
  unfold prodAt
  rw [Int.toNat_natCast, List.getD_eq_getElem?_getD, List.getElem?_eq_getElem h]; rfl
set_option maxRecDepth 100000 in
set_option maxHeartbeats 16000000 in
theorem node_calls (w0 : World) (gw : Nat) (t n : Int) (vp : Value) (prods : List gramL.Prod) (hG : SlF prodS (fun k => k < w0.heap.size) w0 vp prods) (hlen : prods.length ≤ 40) : ∀ (N : Nat) (tr : Tree), size tr ≤ N → ∀ (v : Value) (x : Sym) (d nodes leaves : Nat) (w : World) (B : Base), TreeR (fun k => k < w0.heap.size) w0 v tr → leaves ≤ nodes → nodes ≤ 1000 → d ≤ 101 → Old w0 B → Mem B [blkO gw (wkV t n vp nodes leaves) 130] w →
    Calls Try.prog 68 #[.pointer (some ⟨gw, 0, none⟩), v, .agg (symC x).toArray, .int .i64 (d : Int)] w (MeetsB ⟨fun (_ : Unit) => True, fun _ => .int .i64 (nodeF prods tr x d nodes leaves).1, fun _ => [blkO gw (wkV t n vp (nodeF prods tr x d nodes leaves).2.1 (nodeF prods tr x d nodes leaves).2.2) 130]⟩ B)
  | 0, tr, h, _, _, _, _, _, _, _, _, _, _, _, _, _ => by have := size_pos tr; omega
  | N + 1, .mk p k kids, hN, v, x, d, nodes, leaves, w, B, hv, hl1, hl2, hd, ho, hm => by
    have IH := node_calls w0 gw t n vp prods hG hlen N
    obtain ⟨vk, rfl, hp64, hk64, hks⟩ := hv
    dsimp only [Tree.prod, Tree.tok, Tree.kids] at hp64 hk64 hks ⊢
    obtain ⟨bk, ck, rfl, hck, hmk, hrk⟩ := hks
    unfold maxLen at hmk
    obtain ⟨q, m⟩ := x
    rw [nodeF]
    rw [size] at hN
    dsimp only
    obtain ⟨bp, cp, rfl, hcp, hmp, hrp⟩ := hG
    unfold maxLen at hmp
    refine enterB hm (args := [.pointer (some ⟨gw, 0, none⟩), treeV p k (.slice bk kids.length ck), .agg (symC (q, m)).toArray, .int .i64 (d : Int)]) (n := 139) Try.func68 rfl rfl rfl ?_
    clear hm
    refine T_seq (T_region (TL_box rfl rfl rfl fun g5 => TL_box rfl rfl rfl fun g6 => ?_))
    conv => arg 8; simp only [zA, zB, zC, zD, zE, zF, zG, zH, zI, rowS, ret, id_eq]
    repeat (first
      | refine qv rfl (qp rfl) rfl rfl ?_ | refine TL_nil ?_ | refine T_seq ?_ | refine T_region ?_ | refine qcT rfl ?_ | refine qcF rfl ?_ | refine T_skip ?_
      | refine T_exit ?_ | refine T_ret ?_ | refine T_block ?_ | refine E_then ?_ | refine E_thenX ?_ | refine E_thenR ?_ | refine E_blockN ?_
      | refine E_blockR ?_ | refine E_blockX ?_ | refine E_blockO rfl ?_ | refine qs rfl rfl rfl rfl rfl rfl ?_
      | ((try refine qg rfl rfl rfl ?_); first | refine qv rfl (qp rfl) rfl rfl ?_ | refine qv rfl (rr_load1 TyC.ty rfl (at_blk (i := 0) rfl rfl)) rfl rfl ?_ | refine qv rfl (rr_add64 (r := ((nodes + 1 : Nat) : Int)) rfl rfl (by omega) (by omega) (by omega)) rfl rfl ?_ | refine qv rfl (qlen Und.eq rfl) rfl rfl ?_ | refine qv rfl (qfld FldC.fld rfl rfl) rfl rfl ?_ | refine qv rfl (rr_nilc rfl) rfl rfl ?_ | refine qv rfl (rr_lss rfl rfl (qT (by omega))) rfl rfl ?_ | refine qv rfl (rr_lss rfl rfl (qF (by omega))) rfl rfl ?_ | refine qv rfl (rr_gtr rfl rfl (qT (by omega))) rfl rfl ?_ | refine qv rfl (rr_gtr rfl rfl (qF (by omega))) rfl rfl ?_ | refine qv rfl (rr_eql rfl rfl (qT (by omega))) rfl rfl ?_ | refine qv rfl (rr_eql rfl rfl (qF (by omega))) rfl rfl ?_ | refine qv rfl (rr_neq rfl rfl (qT (by omega))) rfl rfl ?_ | refine qv rfl (rr_neq rfl rfl (qF (by omega))) rfl rfl ?_ | refine qv rfl (rr_add64 rfl rfl (by omega) (by omega) rfl) rfl rfl ?_ | refine qv rfl (rr_geq rfl rfl (qT (by omega))) rfl rfl ?_ | refine qv rfl (rr_geq rfl rfl (qF (by omega))) rfl rfl ?_))
    refine TL_store1 (i := 0) rfl rfl rfl rfl rfl rfl ?_
    rw [show (wkV t n (.slice bp prods.length cp) nodes leaves).setIfInBounds (0 + 3) (.int .i64 ((nodes + 1 : Nat) : Int)) = wkV t n (.slice bp prods.length cp) (nodes + 1) leaves from rfl]
    conv => arg 8; simp only [zA, zB, zC, zD, zE, zF, zG, zH, zI, rowS, ret, id_eq]
    by_cases c1 : 1000 < nodes + 1
    · rw [if_pos c1]
      repeat (first
        | refine qv rfl (qp rfl) rfl rfl ?_ | refine TL_nil ?_ | refine T_seq ?_ | refine T_region ?_ | refine qcT rfl ?_ | refine qcF rfl ?_ | refine T_skip ?_
        | refine T_exit ?_ | refine T_ret ?_ | refine T_block ?_ | refine E_then ?_ | refine E_thenX ?_ | refine E_thenR ?_ | refine E_blockN ?_
        | refine E_blockR ?_ | refine E_blockX ?_ | refine E_blockO rfl ?_ | refine qs rfl rfl rfl rfl rfl rfl ?_
        | ((try refine qg rfl rfl rfl ?_); first | refine qv rfl (qp rfl) rfl rfl ?_ | refine qv rfl (rr_load1 TyC.ty rfl (at_blk (i := 0) rfl rfl)) rfl rfl ?_ | refine qv rfl (qlen Und.eq rfl) rfl rfl ?_ | refine qv rfl (qfld FldC.fld rfl rfl) rfl rfl ?_ | refine qv rfl (rr_nilc rfl) rfl rfl ?_ | refine qv rfl (rr_lss rfl rfl (qT (by omega))) rfl rfl ?_ | refine qv rfl (rr_lss rfl rfl (qF (by omega))) rfl rfl ?_ | refine qv rfl (rr_gtr rfl rfl (qT (by omega))) rfl rfl ?_ | refine qv rfl (rr_gtr rfl rfl (qF (by omega))) rfl rfl ?_ | refine qv rfl (rr_eql rfl rfl (qT (by omega))) rfl rfl ?_ | refine qv rfl (rr_eql rfl rfl (qF (by omega))) rfl rfl ?_ | refine qv rfl (rr_neq rfl rfl (qT (by omega))) rfl rfl ?_ | refine qv rfl (rr_neq rfl rfl (qF (by omega))) rfl rfl ?_ | refine qv rfl (rr_add64 rfl rfl (by omega) (by omega) rfl) rfl rfl ?_ | refine qv rfl (rr_geq rfl rfl (qT (by omega))) rfl rfl ?_ | refine qv rfl (rr_geq rfl rfl (qF (by omega))) rfl rfl ?_))
      exact E_ret1 rfl rfl fun w hm => hm.meetsB (S := ⟨fun (_ : Unit) => True, fun _ => .int .i64 2, fun _ => [blkO gw (wkV t n (.slice bp prods.length cp) (nodes + 1) leaves) 130]⟩) () trivial [0] (by decide) rfl
    rw [if_neg c1]
    by_cases c2 : 100 < d
    · rw [if_pos c2]
      repeat (first
        | refine qv rfl (qp rfl) rfl rfl ?_ | refine TL_nil ?_ | refine T_seq ?_ | refine T_region ?_ | refine qcT rfl ?_ | refine qcF rfl ?_ | refine T_skip ?_
        | refine T_exit ?_ | refine T_ret ?_ | refine T_block ?_ | refine E_then ?_ | refine E_thenX ?_ | refine E_thenR ?_ | refine E_blockN ?_
        | refine E_blockR ?_ | refine E_blockX ?_ | refine E_blockO rfl ?_ | refine qs rfl rfl rfl rfl rfl rfl ?_
        | ((try refine qg rfl rfl rfl ?_); first | refine qv rfl (qp rfl) rfl rfl ?_ | refine qv rfl (rr_load1 TyC.ty rfl (at_blk (i := 0) rfl rfl)) rfl rfl ?_ | refine qv rfl (qlen Und.eq rfl) rfl rfl ?_ | refine qv rfl (qfld FldC.fld rfl rfl) rfl rfl ?_ | refine qv rfl (rr_nilc rfl) rfl rfl ?_ | refine qv rfl (rr_lss rfl rfl (qT (by omega))) rfl rfl ?_ | refine qv rfl (rr_lss rfl rfl (qF (by omega))) rfl rfl ?_ | refine qv rfl (rr_gtr rfl rfl (qT (by omega))) rfl rfl ?_ | refine qv rfl (rr_gtr rfl rfl (qF (by omega))) rfl rfl ?_ | refine qv rfl (rr_eql rfl rfl (qT (by omega))) rfl rfl ?_ | refine qv rfl (rr_eql rfl rfl (qF (by omega))) rfl rfl ?_ | refine qv rfl (rr_neq rfl rfl (qT (by omega))) rfl rfl ?_ | refine qv rfl (rr_neq rfl rfl (qF (by omega))) rfl rfl ?_ | refine qv rfl (rr_add64 rfl rfl (by omega) (by omega) rfl) rfl rfl ?_ | refine qv rfl (rr_geq rfl rfl (qT (by omega))) rfl rfl ?_ | refine qv rfl (rr_geq rfl rfl (qF (by omega))) rfl rfl ?_))
      exact E_ret1 rfl rfl fun w hm => hm.meetsB (S := ⟨fun (_ : Unit) => True, fun _ => .int .i64 7, fun _ => [blkO gw (wkV t n (.slice bp prods.length cp) (nodes + 1) leaves) 130]⟩) () trivial [0] (by decide) rfl
    rw [if_neg c2]
    by_cases c3 : q = 1
    · rw [if_pos c3]
      repeat (first
        | refine qv rfl (qp rfl) rfl rfl ?_ | refine TL_nil ?_ | refine T_seq ?_ | refine T_region ?_ | refine qcT rfl ?_ | refine qcF rfl ?_ | refine T_skip ?_
        | refine T_exit ?_ | refine T_ret ?_ | refine T_block ?_ | refine E_then ?_ | refine E_thenX ?_ | refine E_thenR ?_ | refine E_blockN ?_
        | refine E_blockR ?_ | refine E_blockX ?_ | refine E_blockO rfl ?_ | refine qs rfl rfl rfl rfl rfl rfl ?_
        | ((try refine qg rfl rfl rfl ?_); first | refine qv rfl (qp rfl) rfl rfl ?_ | refine qv rfl (rr_load1 TyC.ty rfl (at_blk (i := 0) rfl rfl)) rfl rfl ?_ | refine qv rfl (rr_load1 TyC.ty rfl (at_blk (i := 2) rfl rfl)) rfl rfl ?_ | refine qv rfl (qlen Und.eq rfl) rfl rfl ?_ | refine qv rfl (qfld FldC.fld rfl rfl) rfl rfl ?_ | refine qv rfl (rr_nilc rfl) rfl rfl ?_ | refine qv rfl (rr_lss rfl rfl (qT (by omega))) rfl rfl ?_ | refine qv rfl (rr_lss rfl rfl (qF (by omega))) rfl rfl ?_ | refine qv rfl (rr_gtr rfl rfl (qT (by omega))) rfl rfl ?_ | refine qv rfl (rr_gtr rfl rfl (qF (by omega))) rfl rfl ?_ | refine qv rfl (rr_eql rfl rfl (qT (by omega))) rfl rfl ?_ | refine qv rfl (rr_eql rfl rfl (qF (by omega))) rfl rfl ?_ | refine qv rfl (rr_neq rfl rfl (qT (by omega))) rfl rfl ?_ | refine qv rfl (rr_neq rfl rfl (qF (by omega))) rfl rfl ?_ | refine qv rfl (rr_add64 rfl rfl (by omega) (by omega) rfl) rfl rfl ?_ | refine qv rfl (rr_geq rfl rfl (qT (by omega))) rfl rfl ?_ | refine qv rfl (rr_geq rfl rfl (qF (by omega))) rfl rfl ?_))
      have hcs : (p ≠ -1) ∨ (p = -1 ∧ k ≠ (leaves : Int)) ∨ (p = -1 ∧ k = (leaves : Int) ∧ 0 < kids.length) ∨ (p = -1 ∧ k = (leaves : Int) ∧ kids.length = 0) := by omega
      rcases hcs with h | h | h | h
      · rw [if_pos h]
        refine T_ord ([blkO gw (wkV t n (.slice bp prods.length cp) (nodes + 1) leaves) 130, blkO g5 (treeV p k (.slice bk kids.length ck)).cells 75, blkO g6 (symC (q, m)).toArray 47]) (.calm 0 (.calm 1 (.calm 2 (.calm 3 (.calm 4 (.calm 5 (.calm 6 (.calm 7 (.calm 8 (.calm 9 (.calm 10 (.calm 11 (.calm 12 (.calm 13 (.calm 14 (.calm 15 (.calm 16 (.calm 17 (.done))))))))))))))))))) (fun _ h => h) (by kernel_rfl) (by kernel_rfl) (by intro c a d v w h; cases d <;> exact h) ?_
        repeat (first
          | ((first | refine TW_plain rfl rfl ?_ | refine TW_gmet rfl rfl rfl rfl ?_); first | refine TN_val (qp rfl) rfl rfl ?_ | refine TN_val (rr_load1 TyC.ty rfl (at_blk (i := 0) rfl rfl)) rfl rfl ?_ | refine TN_val (rr_load1 TyC.ty rfl (at_blk (i := 1) rfl rfl)) rfl rfl ?_ | refine TN_val (qlen Und.eq rfl) rfl rfl ?_ | refine TN_val (qfld FldC.fld rfl rfl) rfl rfl ?_ | refine TN_val (rr_nilc rfl) rfl rfl ?_ | refine TN_val (rr_lss rfl rfl (qT (by omega))) rfl rfl ?_ | refine TN_val (rr_lss rfl rfl (qF (by omega))) rfl rfl ?_ | refine TN_val (rr_gtr rfl rfl (qT (by omega))) rfl rfl ?_ | refine TN_val (rr_gtr rfl rfl (qF (by omega))) rfl rfl ?_ | refine TN_val (rr_eql rfl rfl (qT (by omega))) rfl rfl ?_ | refine TN_val (rr_eql rfl rfl (qF (by omega))) rfl rfl ?_ | refine TN_val (rr_neq rfl rfl (qT (by omega))) rfl rfl ?_ | refine TN_val (rr_neq rfl rfl (qF (by omega))) rfl rfl ?_ | refine TN_val (rr_add64 rfl rfl (by omega) (by omega) rfl) rfl rfl ?_ | refine TN_val (rr_geq rfl rfl (qT (by omega))) rfl rfl ?_ | refine TN_val (rr_geq rfl rfl (qF (by omega))) rfl rfl ?_)
          | refine TW_skip rfl rfl rfl rfl rfl rfl rfl ?_ | refine TW_done ?_)
        repeat (first
          | refine qv rfl (qp rfl) rfl rfl ?_ | refine TL_nil ?_ | refine T_seq ?_ | refine T_region ?_ | refine qcT rfl ?_ | refine qcF rfl ?_ | refine T_skip ?_
          | refine T_exit ?_ | refine T_ret ?_ | refine T_block ?_ | refine E_then ?_ | refine E_thenX ?_ | refine E_thenR ?_ | refine E_blockN ?_
          | refine E_blockR ?_ | refine E_blockX ?_ | refine E_blockO rfl ?_ | refine qs rfl rfl rfl rfl rfl rfl ?_
          | ((try refine qg rfl rfl rfl ?_); first | refine qv rfl (qp rfl) rfl rfl ?_ | refine qv rfl (qlen Und.eq rfl) rfl rfl ?_ | refine qv rfl (qfld FldC.fld rfl rfl) rfl rfl ?_ | refine qv rfl (rr_nilc rfl) rfl rfl ?_ | refine qv rfl (rr_lss rfl rfl (qT (by omega))) rfl rfl ?_ | refine qv rfl (rr_lss rfl rfl (qF (by omega))) rfl rfl ?_ | refine qv rfl (rr_gtr rfl rfl (qT (by omega))) rfl rfl ?_ | refine qv rfl (rr_gtr rfl rfl (qF (by omega))) rfl rfl ?_ | refine qv rfl (rr_eql rfl rfl (qT (by omega))) rfl rfl ?_ | refine qv rfl (rr_eql rfl rfl (qF (by omega))) rfl rfl ?_ | refine qv rfl (rr_neq rfl rfl (qT (by omega))) rfl rfl ?_ | refine qv rfl (rr_neq rfl rfl (qF (by omega))) rfl rfl ?_ | refine qv rfl (rr_add64 rfl rfl (by omega) (by omega) rfl) rfl rfl ?_ | refine qv rfl (rr_geq rfl rfl (qT (by omega))) rfl rfl ?_ | refine qv rfl (rr_geq rfl rfl (qF (by omega))) rfl rfl ?_))
        exact E_ret1 rfl rfl fun w hm => hm.meetsB (S := ⟨fun (_ : Unit) => True, fun _ => .int .i64 4, fun _ => [blkO gw (wkV t n (.slice bp prods.length cp) (nodes + 1) leaves) 130]⟩) () trivial [0] (by decide) rfl
      · rw [if_neg (by simpa using h.1), if_pos h.2]
        refine T_ord ([blkO gw (wkV t n (.slice bp prods.length cp) (nodes + 1) leaves) 130, blkO g5 (treeV p k (.slice bk kids.length ck)).cells 75, blkO g6 (symC (q, m)).toArray 47]) (.calm 0 (.calm 1 (.calm 2 (.calm 3 (.calm 4 (.calm 5 (.calm 6 (.calm 7 (.calm 8 (.calm 9 (.calm 10 (.calm 11 (.calm 12 (.calm 13 (.calm 14 (.calm 15 (.calm 16 (.calm 17 (.done))))))))))))))))))) (fun _ h => h) (by kernel_rfl) (by kernel_rfl) (by intro c a d v w h; cases d <;> exact h) ?_
        repeat (first
          | ((first | refine TW_plain rfl rfl ?_ | refine TW_gmet rfl rfl rfl rfl ?_); first | refine TN_val (qp rfl) rfl rfl ?_ | refine TN_val (rr_load1 TyC.ty rfl (at_blk (i := 0) rfl rfl)) rfl rfl ?_ | refine TN_val (rr_load1 TyC.ty rfl (at_blk (i := 1) rfl rfl)) rfl rfl ?_ | refine TN_val (qlen Und.eq rfl) rfl rfl ?_ | refine TN_val (qfld FldC.fld rfl rfl) rfl rfl ?_ | refine TN_val (rr_nilc rfl) rfl rfl ?_ | refine TN_val (rr_lss rfl rfl (qT (by omega))) rfl rfl ?_ | refine TN_val (rr_lss rfl rfl (qF (by omega))) rfl rfl ?_ | refine TN_val (rr_gtr rfl rfl (qT (by omega))) rfl rfl ?_ | refine TN_val (rr_gtr rfl rfl (qF (by omega))) rfl rfl ?_ | refine TN_val (rr_eql rfl rfl (qT (by omega))) rfl rfl ?_ | refine TN_val (rr_eql rfl rfl (qF (by omega))) rfl rfl ?_ | refine TN_val (rr_neq rfl rfl (qT (by omega))) rfl rfl ?_ | refine TN_val (rr_neq rfl rfl (qF (by omega))) rfl rfl ?_ | refine TN_val (rr_add64 rfl rfl (by omega) (by omega) rfl) rfl rfl ?_ | refine TN_val (rr_geq rfl rfl (qT (by omega))) rfl rfl ?_ | refine TN_val (rr_geq rfl rfl (qF (by omega))) rfl rfl ?_)
          | refine TW_skip rfl rfl rfl rfl rfl rfl rfl ?_ | refine TW_done ?_)
        repeat (first
          | refine qv rfl (qp rfl) rfl rfl ?_ | refine TL_nil ?_ | refine T_seq ?_ | refine T_region ?_ | refine qcT rfl ?_ | refine qcF rfl ?_ | refine T_skip ?_
          | refine T_exit ?_ | refine T_ret ?_ | refine T_block ?_ | refine E_then ?_ | refine E_thenX ?_ | refine E_thenR ?_ | refine E_blockN ?_
          | refine E_blockR ?_ | refine E_blockX ?_ | refine E_blockO rfl ?_ | refine qs rfl rfl rfl rfl rfl rfl ?_
          | ((try refine qg rfl rfl rfl ?_); first | refine qv rfl (qp rfl) rfl rfl ?_ | refine qv rfl (qlen Und.eq rfl) rfl rfl ?_ | refine qv rfl (qfld FldC.fld rfl rfl) rfl rfl ?_ | refine qv rfl (rr_nilc rfl) rfl rfl ?_ | refine qv rfl (rr_lss rfl rfl (qT (by omega))) rfl rfl ?_ | refine qv rfl (rr_lss rfl rfl (qF (by omega))) rfl rfl ?_ | refine qv rfl (rr_gtr rfl rfl (qT (by omega))) rfl rfl ?_ | refine qv rfl (rr_gtr rfl rfl (qF (by omega))) rfl rfl ?_ | refine qv rfl (rr_eql rfl rfl (qT (by omega))) rfl rfl ?_ | refine qv rfl (rr_eql rfl rfl (qF (by omega))) rfl rfl ?_ | refine qv rfl (rr_neq rfl rfl (qT (by omega))) rfl rfl ?_ | refine qv rfl (rr_neq rfl rfl (qF (by omega))) rfl rfl ?_ | refine qv rfl (rr_add64 rfl rfl (by omega) (by omega) rfl) rfl rfl ?_ | refine qv rfl (rr_geq rfl rfl (qT (by omega))) rfl rfl ?_ | refine qv rfl (rr_geq rfl rfl (qF (by omega))) rfl rfl ?_))
        exact E_ret1 rfl rfl fun w hm => hm.meetsB (S := ⟨fun (_ : Unit) => True, fun _ => .int .i64 4, fun _ => [blkO gw (wkV t n (.slice bp prods.length cp) (nodes + 1) leaves) 130]⟩) () trivial [0] (by decide) rfl
      · rw [if_neg (by simpa using h.1), if_neg (by simpa using h.2.1), if_pos h.2.2]
        refine T_ord ([blkO gw (wkV t n (.slice bp prods.length cp) (nodes + 1) leaves) 130, blkO g5 (treeV p k (.slice bk kids.length ck)).cells 75, blkO g6 (symC (q, m)).toArray 47]) (.calm 0 (.calm 1 (.calm 2 (.calm 3 (.calm 4 (.calm 5 (.calm 6 (.calm 7 (.calm 8 (.calm 9 (.calm 10 (.calm 11 (.calm 12 (.calm 13 (.calm 14 (.calm 15 (.calm 16 (.calm 17 (.done))))))))))))))))))) (fun _ h => h) (by kernel_rfl) (by kernel_rfl) (by intro c a d v w h; cases d <;> exact h) ?_
        repeat (first
          | ((first | refine TW_plain rfl rfl ?_ | refine TW_gmet rfl rfl rfl rfl ?_); first | refine TN_val (qp rfl) rfl rfl ?_ | refine TN_val (rr_load1 TyC.ty rfl (at_blk (i := 0) rfl rfl)) rfl rfl ?_ | refine TN_val (rr_load1 TyC.ty rfl (at_blk (i := 1) rfl rfl)) rfl rfl ?_ | refine TN_val (qlen Und.eq rfl) rfl rfl ?_ | refine TN_val (qfld FldC.fld rfl rfl) rfl rfl ?_ | refine TN_val (rr_nilc rfl) rfl rfl ?_ | refine TN_val (rr_lss rfl rfl (qT (by omega))) rfl rfl ?_ | refine TN_val (rr_lss rfl rfl (qF (by omega))) rfl rfl ?_ | refine TN_val (rr_gtr rfl rfl (qT (by omega))) rfl rfl ?_ | refine TN_val (rr_gtr rfl rfl (qF (by omega))) rfl rfl ?_ | refine TN_val (rr_eql rfl rfl (qT (by omega))) rfl rfl ?_ | refine TN_val (rr_eql rfl rfl (qF (by omega))) rfl rfl ?_ | refine TN_val (rr_neq rfl rfl (qT (by omega))) rfl rfl ?_ | refine TN_val (rr_neq rfl rfl (qF (by omega))) rfl rfl ?_ | refine TN_val (rr_add64 rfl rfl (by omega) (by omega) rfl) rfl rfl ?_ | refine TN_val (rr_geq rfl rfl (qT (by omega))) rfl rfl ?_ | refine TN_val (rr_geq rfl rfl (qF (by omega))) rfl rfl ?_)
          | refine TW_skip rfl rfl rfl rfl rfl rfl rfl ?_ | refine TW_done ?_)
        repeat (first
          | refine qv rfl (qp rfl) rfl rfl ?_ | refine TL_nil ?_ | refine T_seq ?_ | refine T_region ?_ | refine qcT rfl ?_ | refine qcF rfl ?_ | refine T_skip ?_
          | refine T_exit ?_ | refine T_ret ?_ | refine T_block ?_ | refine E_then ?_ | refine E_thenX ?_ | refine E_thenR ?_ | refine E_blockN ?_
          | refine E_blockR ?_ | refine E_blockX ?_ | refine E_blockO rfl ?_ | refine qs rfl rfl rfl rfl rfl rfl ?_
          | ((try refine qg rfl rfl rfl ?_); first | refine qv rfl (qp rfl) rfl rfl ?_ | refine qv rfl (qlen Und.eq rfl) rfl rfl ?_ | refine qv rfl (qfld FldC.fld rfl rfl) rfl rfl ?_ | refine qv rfl (rr_nilc rfl) rfl rfl ?_ | refine qv rfl (rr_lss rfl rfl (qT (by omega))) rfl rfl ?_ | refine qv rfl (rr_lss rfl rfl (qF (by omega))) rfl rfl ?_ | refine qv rfl (rr_gtr rfl rfl (qT (by omega))) rfl rfl ?_ | refine qv rfl (rr_gtr rfl rfl (qF (by omega))) rfl rfl ?_ | refine qv rfl (rr_eql rfl rfl (qT (by omega))) rfl rfl ?_ | refine qv rfl (rr_eql rfl rfl (qF (by omega))) rfl rfl ?_ | refine qv rfl (rr_neq rfl rfl (qT (by omega))) rfl rfl ?_ | refine qv rfl (rr_neq rfl rfl (qF (by omega))) rfl rfl ?_ | refine qv rfl (rr_add64 rfl rfl (by omega) (by omega) rfl) rfl rfl ?_ | refine qv rfl (rr_geq rfl rfl (qT (by omega))) rfl rfl ?_ | refine qv rfl (rr_geq rfl rfl (qF (by omega))) rfl rfl ?_))
        exact E_ret1 rfl rfl fun w hm => hm.meetsB (S := ⟨fun (_ : Unit) => True, fun _ => .int .i64 4, fun _ => [blkO gw (wkV t n (.slice bp prods.length cp) (nodes + 1) leaves) 130]⟩) () trivial [0] (by decide) rfl
      · rw [if_neg (by simpa using h.1), if_neg (by simpa using h.2.1), if_neg (by omega)]
        refine T_ord ([blkO gw (wkV t n (.slice bp prods.length cp) (nodes + 1) leaves) 130, blkO g5 (treeV p k (.slice bk kids.length ck)).cells 75, blkO g6 (symC (q, m)).toArray 47]) (.calm 0 (.calm 1 (.calm 2 (.calm 3 (.calm 4 (.calm 5 (.calm 6 (.calm 7 (.calm 8 (.calm 9 (.calm 10 (.calm 11 (.calm 12 (.calm 13 (.calm 14 (.calm 15 (.calm 16 (.calm 17 (.done))))))))))))))))))) (fun _ h => h) (by kernel_rfl) (by kernel_rfl) (by intro c a d v w h; cases d <;> exact h) ?_
        repeat (first
          | ((first | refine TW_plain rfl rfl ?_ | refine TW_gmet rfl rfl rfl rfl ?_); first | refine TN_val (qp rfl) rfl rfl ?_ | refine TN_val (rr_load1 TyC.ty rfl (at_blk (i := 0) rfl rfl)) rfl rfl ?_ | refine TN_val (rr_load1 TyC.ty rfl (at_blk (i := 1) rfl rfl)) rfl rfl ?_ | refine TN_val (qlen Und.eq rfl) rfl rfl ?_ | refine TN_val (qfld FldC.fld rfl rfl) rfl rfl ?_ | refine TN_val (rr_nilc rfl) rfl rfl ?_ | refine TN_val (rr_lss rfl rfl (qT (by omega))) rfl rfl ?_ | refine TN_val (rr_lss rfl rfl (qF (by omega))) rfl rfl ?_ | refine TN_val (rr_gtr rfl rfl (qT (by omega))) rfl rfl ?_ | refine TN_val (rr_gtr rfl rfl (qF (by omega))) rfl rfl ?_ | refine TN_val (rr_eql rfl rfl (qT (by omega))) rfl rfl ?_ | refine TN_val (rr_eql rfl rfl (qF (by omega))) rfl rfl ?_ | refine TN_val (rr_neq rfl rfl (qT (by omega))) rfl rfl ?_ | refine TN_val (rr_neq rfl rfl (qF (by omega))) rfl rfl ?_ | refine TN_val (rr_add64 rfl rfl (by omega) (by omega) rfl) rfl rfl ?_ | refine TN_val (rr_geq rfl rfl (qT (by omega))) rfl rfl ?_ | refine TN_val (rr_geq rfl rfl (qF (by omega))) rfl rfl ?_)
          | refine TW_skip rfl rfl rfl rfl rfl rfl rfl ?_ | refine TW_done ?_)
        repeat (first
          | refine qv rfl (qp rfl) rfl rfl ?_ | refine TL_nil ?_ | refine T_seq ?_ | refine T_region ?_ | refine qcT rfl ?_ | refine qcF rfl ?_ | refine T_skip ?_
          | refine T_exit ?_ | refine T_ret ?_ | refine T_block ?_ | refine E_then ?_ | refine E_thenX ?_ | refine E_thenR ?_ | refine E_blockN ?_
          | refine E_blockR ?_ | refine E_blockX ?_ | refine E_blockO rfl ?_ | refine qs rfl rfl rfl rfl rfl rfl ?_
          | ((try refine qg rfl rfl rfl ?_); first | refine qv rfl (qp rfl) rfl rfl ?_ | refine qv rfl (rr_load1 TyC.ty rfl (at_blk (i := 0) rfl rfl)) rfl rfl ?_ | refine qv rfl (rr_add64 (r := ((leaves + 1 : Nat) : Int)) rfl rfl (by omega) (by omega) (by omega)) rfl rfl ?_ | refine qv rfl (qlen Und.eq rfl) rfl rfl ?_ | refine qv rfl (qfld FldC.fld rfl rfl) rfl rfl ?_ | refine qv rfl (rr_nilc rfl) rfl rfl ?_ | refine qv rfl (rr_lss rfl rfl (qT (by omega))) rfl rfl ?_ | refine qv rfl (rr_lss rfl rfl (qF (by omega))) rfl rfl ?_ | refine qv rfl (rr_gtr rfl rfl (qT (by omega))) rfl rfl ?_ | refine qv rfl (rr_gtr rfl rfl (qF (by omega))) rfl rfl ?_ | refine qv rfl (rr_eql rfl rfl (qT (by omega))) rfl rfl ?_ | refine qv rfl (rr_eql rfl rfl (qF (by omega))) rfl rfl ?_ | refine qv rfl (rr_neq rfl rfl (qT (by omega))) rfl rfl ?_ | refine qv rfl (rr_neq rfl rfl (qF (by omega))) rfl rfl ?_ | refine qv rfl (rr_add64 rfl rfl (by omega) (by omega) rfl) rfl rfl ?_ | refine qv rfl (rr_geq rfl rfl (qT (by omega))) rfl rfl ?_ | refine qv rfl (rr_geq rfl rfl (qF (by omega))) rfl rfl ?_))
        refine TL_store1 (i := 0) rfl rfl rfl rfl rfl rfl ?_
        rw [show (wkV t n (.slice bp prods.length cp) (nodes + 1) leaves).setIfInBounds (0 + 4) (.int .i64 ((leaves + 1 : Nat) : Int)) = wkV t n (.slice bp prods.length cp) (nodes + 1) (leaves + 1) from rfl]
        conv => arg 8; simp only [zA, zB, zC, zD, zE, zF, zG, zH, zI, rowS, ret, id_eq]
        repeat (first
          | refine qv rfl (qp rfl) rfl rfl ?_ | refine TL_nil ?_ | refine T_seq ?_ | refine T_region ?_ | refine qcT rfl ?_ | refine qcF rfl ?_ | refine T_skip ?_
          | refine T_exit ?_ | refine T_ret ?_ | refine T_block ?_ | refine E_then ?_ | refine E_thenX ?_ | refine E_thenR ?_ | refine E_blockN ?_
          | refine E_blockR ?_ | refine E_blockX ?_ | refine E_blockO rfl ?_ | refine qs rfl rfl rfl rfl rfl rfl ?_
          | ((try refine qg rfl rfl rfl ?_); first | refine qv rfl (qp rfl) rfl rfl ?_ | refine qv rfl (qlen Und.eq rfl) rfl rfl ?_ | refine qv rfl (qfld FldC.fld rfl rfl) rfl rfl ?_ | refine qv rfl (rr_nilc rfl) rfl rfl ?_ | refine qv rfl (rr_lss rfl rfl (qT (by omega))) rfl rfl ?_ | refine qv rfl (rr_lss rfl rfl (qF (by omega))) rfl rfl ?_ | refine qv rfl (rr_gtr rfl rfl (qT (by omega))) rfl rfl ?_ | refine qv rfl (rr_gtr rfl rfl (qF (by omega))) rfl rfl ?_ | refine qv rfl (rr_eql rfl rfl (qT (by omega))) rfl rfl ?_ | refine qv rfl (rr_eql rfl rfl (qF (by omega))) rfl rfl ?_ | refine qv rfl (rr_neq rfl rfl (qT (by omega))) rfl rfl ?_ | refine qv rfl (rr_neq rfl rfl (qF (by omega))) rfl rfl ?_ | refine qv rfl (rr_add64 rfl rfl (by omega) (by omega) rfl) rfl rfl ?_ | refine qv rfl (rr_geq rfl rfl (qT (by omega))) rfl rfl ?_ | refine qv rfl (rr_geq rfl rfl (qF (by omega))) rfl rfl ?_))
        exact E_ret1 rfl rfl fun w hm => hm.meetsB (S := ⟨fun (_ : Unit) => True, fun _ => .int .i64 0, fun _ => [blkO gw (wkV t n (.slice bp prods.length cp) (nodes + 1) (leaves + 1)) 130]⟩) () trivial [0] (by decide) rfl
    · rw [if_neg c3]
      repeat (first
        | refine qv rfl (qp rfl) rfl rfl ?_ | refine TL_nil ?_ | refine T_seq ?_ | refine T_region ?_ | refine qcT rfl ?_ | refine qcF rfl ?_ | refine T_skip ?_
        | refine T_exit ?_ | refine T_ret ?_ | refine T_block ?_ | refine E_then ?_ | refine E_thenX ?_ | refine E_thenR ?_ | refine E_blockN ?_
        | refine E_blockR ?_ | refine E_blockX ?_ | refine E_blockO rfl ?_ | refine qs rfl rfl rfl rfl rfl rfl ?_
        | ((try refine qg rfl rfl rfl ?_); first | refine qv rfl (qp rfl) rfl rfl ?_ | refine qv rfl (rr_load1 TyC.ty rfl (at_blk (i := 0) rfl rfl)) rfl rfl ?_ | refine qv rfl (rr_load1 TyC.ty rfl (at_blk (i := 2) rfl rfl)) rfl rfl ?_ | refine qv rfl (qlen Und.eq rfl) rfl rfl ?_ | refine qv rfl (qfld FldC.fld rfl rfl) rfl rfl ?_ | refine qv rfl (rr_nilc rfl) rfl rfl ?_ | refine qv rfl (rr_lss rfl rfl (qT (by omega))) rfl rfl ?_ | refine qv rfl (rr_lss rfl rfl (qF (by omega))) rfl rfl ?_ | refine qv rfl (rr_gtr rfl rfl (qT (by omega))) rfl rfl ?_ | refine qv rfl (rr_gtr rfl rfl (qF (by omega))) rfl rfl ?_ | refine qv rfl (rr_eql rfl rfl (qT (by omega))) rfl rfl ?_ | refine qv rfl (rr_eql rfl rfl (qF (by omega))) rfl rfl ?_ | refine qv rfl (rr_neq rfl rfl (qT (by omega))) rfl rfl ?_ | refine qv rfl (rr_neq rfl rfl (qF (by omega))) rfl rfl ?_ | refine qv rfl (rr_add64 rfl rfl (by omega) (by omega) rfl) rfl rfl ?_ | refine qv rfl (rr_geq rfl rfl (qT (by omega))) rfl rfl ?_ | refine qv rfl (rr_geq rfl rfl (qF (by omega))) rfl rfl ?_))
      refine T_ord ([blkO gw (wkV t n (.slice bp prods.length cp) (nodes + 1) leaves) 130, blkO g5 (treeV p k (.slice bk kids.length ck)).cells 75, blkO g6 (symC (q, m)).toArray 47]) (.calm 0 (.calm 1 (.calm 2 (.calm 3 (.calm 4 (.calm 5 (.calm 6 (.calm 7 (.calm 8 (.calm 9 (.calm 10 (.calm 11 (.calm 12 (.calm 13 (.calm 14 (.calm 15 (.calm 16 (.calm 17 (.calm 18 (.calm 19 (.calm 20 (.calm 21 (.calm 22 (.calm 23 (.calm 24 (.calm 25 (.calm 26 (.calm 27 (.calm 28 (.calm 29 (.calm 30 (.calm 31 (.calm 32 (.calm 33 (.calm 34 (.calm 35 (.calm 36 (.calm 37 (.calm 38 (.calm 39 (.calm 40 (.calm 41 (.calm 42 (.calm 43 (.calm 44 (.calm 45 (.calm 46 (.calm 47 (.calm 48 (.calm 49 (.calm 50 (.calm 51 (.done))))))))))))))))))))))))))))))))))))))))))))))))))))) (fun _ h => h) (by kernel_rfl) (by kernel_rfl) (by intro c a d v w h; cases d <;> exact h) ?_
      by_cases h1 : p < 0
      · rw [if_pos h1]
        repeat (first
          | ((first | refine TW_plain rfl rfl ?_ | refine TW_gmet rfl rfl rfl rfl ?_); first | refine TN_val (qp rfl) rfl rfl ?_ | refine TN_val (rr_load1 TyC.ty rfl (at_blk (i := 0) rfl rfl)) rfl rfl ?_ | refine TN_val (rr_load1 TyC.ty rfl (at_blk (i := 1) rfl rfl)) rfl rfl ?_ | refine TN_val (rr_load1 TyC.ty rfl (at_blk (i := 2) rfl rfl)) rfl rfl ?_ | refine TN_val (qlen Und.eq rfl) rfl rfl ?_ | refine TN_val (qfld FldC.fld rfl rfl) rfl rfl ?_ | refine TN_val (rr_nilc rfl) rfl rfl ?_ | refine TN_val (rr_lss rfl rfl (qT (by omega))) rfl rfl ?_ | refine TN_val (rr_lss rfl rfl (qF (by omega))) rfl rfl ?_ | refine TN_val (rr_gtr rfl rfl (qT (by omega))) rfl rfl ?_ | refine TN_val (rr_gtr rfl rfl (qF (by omega))) rfl rfl ?_ | refine TN_val (rr_eql rfl rfl (qT (by omega))) rfl rfl ?_ | refine TN_val (rr_eql rfl rfl (qF (by omega))) rfl rfl ?_ | refine TN_val (rr_neq rfl rfl (qT (by omega))) rfl rfl ?_ | refine TN_val (rr_neq rfl rfl (qF (by omega))) rfl rfl ?_ | refine TN_val (rr_add64 rfl rfl (by omega) (by omega) rfl) rfl rfl ?_ | refine TN_val (rr_geq rfl rfl (qT (by omega))) rfl rfl ?_ | refine TN_val (rr_geq rfl rfl (qF (by omega))) rfl rfl ?_)
          | refine TW_skip rfl rfl rfl rfl rfl rfl rfl ?_ | refine TW_done ?_)
        repeat (first
          | refine qv rfl (qp rfl) rfl rfl ?_ | refine TL_nil ?_ | refine T_seq ?_ | refine T_region ?_ | refine qcT rfl ?_ | refine qcF rfl ?_ | refine T_skip ?_
          | refine T_exit ?_ | refine T_ret ?_ | refine T_block ?_ | refine E_then ?_ | refine E_thenX ?_ | refine E_thenR ?_ | refine E_blockN ?_
          | refine E_blockR ?_ | refine E_blockX ?_ | refine E_blockO rfl ?_ | refine qs rfl rfl rfl rfl rfl rfl ?_
          | ((try refine qg rfl rfl rfl ?_); first | refine qv rfl (qp rfl) rfl rfl ?_ | refine qv rfl (qlen Und.eq rfl) rfl rfl ?_ | refine qv rfl (qfld FldC.fld rfl rfl) rfl rfl ?_ | refine qv rfl (rr_nilc rfl) rfl rfl ?_ | refine qv rfl (rr_lss rfl rfl (qT (by omega))) rfl rfl ?_ | refine qv rfl (rr_lss rfl rfl (qF (by omega))) rfl rfl ?_ | refine qv rfl (rr_gtr rfl rfl (qT (by omega))) rfl rfl ?_ | refine qv rfl (rr_gtr rfl rfl (qF (by omega))) rfl rfl ?_ | refine qv rfl (rr_eql rfl rfl (qT (by omega))) rfl rfl ?_ | refine qv rfl (rr_eql rfl rfl (qF (by omega))) rfl rfl ?_ | refine qv rfl (rr_neq rfl rfl (qT (by omega))) rfl rfl ?_ | refine qv rfl (rr_neq rfl rfl (qF (by omega))) rfl rfl ?_ | refine qv rfl (rr_add64 rfl rfl (by omega) (by omega) rfl) rfl rfl ?_ | refine qv rfl (rr_geq rfl rfl (qT (by omega))) rfl rfl ?_ | refine qv rfl (rr_geq rfl rfl (qF (by omega))) rfl rfl ?_))
        exact E_ret1 rfl rfl fun w hm => hm.meetsB (S := ⟨fun (_ : Unit) => True, fun _ => .int .i64 4, fun _ => [blkO gw (wkV t n (.slice bp prods.length cp) (nodes + 1) leaves) 130]⟩) () trivial [0] (by decide) rfl
      rw [if_neg h1]
      by_cases h2 : (prods.length : Int) ≤ p
      · rw [if_pos h2]
        repeat (first
          | ((first | refine TW_plain rfl rfl ?_ | refine TW_gmet rfl rfl rfl rfl ?_); first | refine TN_val (qp rfl) rfl rfl ?_ | refine TN_val (rr_load1 TyC.ty rfl (at_blk (i := 0) rfl rfl)) rfl rfl ?_ | refine TN_val (rr_load1 TyC.ty rfl (at_blk (i := 1) rfl rfl)) rfl rfl ?_ | refine TN_val (rr_load1 TyC.ty rfl (at_blk (i := 2) rfl rfl)) rfl rfl ?_ | refine TN_val (qlen Und.eq rfl) rfl rfl ?_ | refine TN_val (qfld FldC.fld rfl rfl) rfl rfl ?_ | refine TN_val (rr_nilc rfl) rfl rfl ?_ | refine TN_val (rr_lss rfl rfl (qT (by omega))) rfl rfl ?_ | refine TN_val (rr_lss rfl rfl (qF (by omega))) rfl rfl ?_ | refine TN_val (rr_gtr rfl rfl (qT (by omega))) rfl rfl ?_ | refine TN_val (rr_gtr rfl rfl (qF (by omega))) rfl rfl ?_ | refine TN_val (rr_eql rfl rfl (qT (by omega))) rfl rfl ?_ | refine TN_val (rr_eql rfl rfl (qF (by omega))) rfl rfl ?_ | refine TN_val (rr_neq rfl rfl (qT (by omega))) rfl rfl ?_ | refine TN_val (rr_neq rfl rfl (qF (by omega))) rfl rfl ?_ | refine TN_val (rr_add64 rfl rfl (by omega) (by omega) rfl) rfl rfl ?_ | refine TN_val (rr_geq rfl rfl (qT (by omega))) rfl rfl ?_ | refine TN_val (rr_geq rfl rfl (qF (by omega))) rfl rfl ?_)
          | refine TW_skip rfl rfl rfl rfl rfl rfl rfl ?_ | refine TW_done ?_)
        repeat (first
          | refine qv rfl (qp rfl) rfl rfl ?_ | refine TL_nil ?_ | refine T_seq ?_ | refine T_region ?_ | refine qcT rfl ?_ | refine qcF rfl ?_ | refine T_skip ?_
          | refine T_exit ?_ | refine T_ret ?_ | refine T_block ?_ | refine E_then ?_ | refine E_thenX ?_ | refine E_thenR ?_ | refine E_blockN ?_
          | refine E_blockR ?_ | refine E_blockX ?_ | refine E_blockO rfl ?_ | refine qs rfl rfl rfl rfl rfl rfl ?_
          | ((try refine qg rfl rfl rfl ?_); first | refine qv rfl (qp rfl) rfl rfl ?_ | refine qv rfl (qlen Und.eq rfl) rfl rfl ?_ | refine qv rfl (qfld FldC.fld rfl rfl) rfl rfl ?_ | refine qv rfl (rr_nilc rfl) rfl rfl ?_ | refine qv rfl (rr_lss rfl rfl (qT (by omega))) rfl rfl ?_ | refine qv rfl (rr_lss rfl rfl (qF (by omega))) rfl rfl ?_ | refine qv rfl (rr_gtr rfl rfl (qT (by omega))) rfl rfl ?_ | refine qv rfl (rr_gtr rfl rfl (qF (by omega))) rfl rfl ?_ | refine qv rfl (rr_eql rfl rfl (qT (by omega))) rfl rfl ?_ | refine qv rfl (rr_eql rfl rfl (qF (by omega))) rfl rfl ?_ | refine qv rfl (rr_neq rfl rfl (qT (by omega))) rfl rfl ?_ | refine qv rfl (rr_neq rfl rfl (qF (by omega))) rfl rfl ?_ | refine qv rfl (rr_add64 rfl rfl (by omega) (by omega) rfl) rfl rfl ?_ | refine qv rfl (rr_geq rfl rfl (qT (by omega))) rfl rfl ?_ | refine qv rfl (rr_geq rfl rfl (qF (by omega))) rfl rfl ?_))
        exact E_ret1 rfl rfl fun w hm => hm.meetsB (S := ⟨fun (_ : Unit) => True, fun _ => .int .i64 4, fun _ => [blkO gw (wkV t n (.slice bp prods.length cp) (nodes + 1) leaves) 130]⟩) () trivial [0] (by decide) rfl
      rw [if_neg h2]
      obtain ⟨pn, rfl⟩ : ∃ pn : Nat, p = pn := ⟨p.toNat, by omega⟩
      have c6 : pn < prods.length := by omega
      obtain ⟨b, off, rfl, _, hr⟩ := hrp (by omega)
      obtain ⟨bb, cb, q1, q2, q3⟩ := prod_at hr c6
      rw [prodAt_eq c6]
      have hat : ∀ (L : List Own) (j : Nat) (v : Value), ([.int .i64 prods[pn].1, .slice bb prods[pn].2.length cb] : List Value)[j]? = some v → At B L ⟨b, off + pn * 2 + j, none⟩ v := fun L j v hj => at_old0 ho (q1 j v hj)
      have hfl := q3.flat (by decide)
      clear hr hrp q1 q3 q2
      generalize prods[pn] = pd at *
      obtain ⟨hd, body⟩ := pd
      dsimp only at *
      have hat0 := fun L => hat L 0 _ rfl
      have hat1 := fun L => hat L 1 _ rfl
      clear hat
      obtain ⟨b2, cb2, he, hb4, hb5, hb6⟩ := hfl
      simp only [Value.slice.injEq, true_and] at he
      obtain ⟨rfl, rfl⟩ := he
      unfold maxLen at hb5
      repeat (first
        | ((first | refine TW_plain rfl rfl ?_ | refine TW_gmet rfl rfl rfl rfl ?_); first | refine TN_val (qp rfl) rfl rfl ?_ | refine TN_val (rr_load1 TyC.ty rfl (at_blk (i := 0) rfl rfl)) rfl rfl ?_ | refine TN_val (rr_load1 TyC.ty rfl (at_blk (i := 1) rfl rfl)) rfl rfl ?_ | refine TN_val (rr_load1 TyC.ty rfl (at_blk (i := 2) rfl rfl)) rfl rfl ?_ | refine TN_val (rr_idxc Und.eq TyC.ty rfl rfl c6) rfl rfl ?_ | refine TN_val (rr_load1 TyC.ty rfl (hat0 _)) rfl rfl ?_ | refine TN_val (rr_load1 TyC.ty rfl (hat1 _)) rfl rfl ?_ | refine TN_val (qlen Und.eq rfl) rfl rfl ?_ | refine TN_val (qfld FldC.fld rfl rfl) rfl rfl ?_ | refine TN_val (rr_nilc rfl) rfl rfl ?_ | refine TN_val (rr_lss rfl rfl (qT (by omega))) rfl rfl ?_ | refine TN_val (rr_lss rfl rfl (qF (by omega))) rfl rfl ?_ | refine TN_val (rr_gtr rfl rfl (qT (by omega))) rfl rfl ?_ | refine TN_val (rr_gtr rfl rfl (qF (by omega))) rfl rfl ?_ | refine TN_val (rr_eql rfl rfl (qT (by omega))) rfl rfl ?_ | refine TN_val (rr_eql rfl rfl (qF (by omega))) rfl rfl ?_ | refine TN_val (rr_neq rfl rfl (qT (by omega))) rfl rfl ?_ | refine TN_val (rr_neq rfl rfl (qF (by omega))) rfl rfl ?_ | refine TN_val (rr_add64 rfl rfl (by omega) (by omega) rfl) rfl rfl ?_ | refine TN_val (rr_geq rfl rfl (qT (by omega))) rfl rfl ?_ | refine TN_val (rr_geq rfl rfl (qF (by omega))) rfl rfl ?_)
        | refine TW_skip rfl rfl rfl rfl rfl rfl rfl ?_ | refine TW_done ?_)
      by_cases h3 : hd ≠ m
      · rw [if_pos h3]
        repeat (first
          | ((first | refine TW_plain rfl rfl ?_ | refine TW_gmet rfl rfl rfl rfl ?_); first | refine TN_val (qp rfl) rfl rfl ?_ | refine TN_val (rr_load1 TyC.ty rfl (at_blk (i := 0) rfl rfl)) rfl rfl ?_ | refine TN_val (rr_load1 TyC.ty rfl (at_blk (i := 1) rfl rfl)) rfl rfl ?_ | refine TN_val (rr_load1 TyC.ty rfl (at_blk (i := 2) rfl rfl)) rfl rfl ?_ | refine TN_val (rr_idxc Und.eq TyC.ty rfl rfl c6) rfl rfl ?_ | refine TN_val (rr_load1 TyC.ty rfl (hat0 _)) rfl rfl ?_ | refine TN_val (rr_load1 TyC.ty rfl (hat1 _)) rfl rfl ?_ | refine TN_val (qlen Und.eq rfl) rfl rfl ?_ | refine TN_val (qfld FldC.fld rfl rfl) rfl rfl ?_ | refine TN_val (rr_nilc rfl) rfl rfl ?_ | refine TN_val (rr_lss rfl rfl (qT (by omega))) rfl rfl ?_ | refine TN_val (rr_lss rfl rfl (qF (by omega))) rfl rfl ?_ | refine TN_val (rr_gtr rfl rfl (qT (by omega))) rfl rfl ?_ | refine TN_val (rr_gtr rfl rfl (qF (by omega))) rfl rfl ?_ | refine TN_val (rr_eql rfl rfl (qT (by omega))) rfl rfl ?_ | refine TN_val (rr_eql rfl rfl (qF (by omega))) rfl rfl ?_ | refine TN_val (rr_neq rfl rfl (qT (by omega))) rfl rfl ?_ | refine TN_val (rr_neq rfl rfl (qF (by omega))) rfl rfl ?_ | refine TN_val (rr_add64 rfl rfl (by omega) (by omega) rfl) rfl rfl ?_ | refine TN_val (rr_geq rfl rfl (qT (by omega))) rfl rfl ?_ | refine TN_val (rr_geq rfl rfl (qF (by omega))) rfl rfl ?_)
          | refine TW_skip rfl rfl rfl rfl rfl rfl rfl ?_ | refine TW_done ?_)
        repeat (first
          | refine qv rfl (qp rfl) rfl rfl ?_ | refine TL_nil ?_ | refine T_seq ?_ | refine T_region ?_ | refine qcT rfl ?_ | refine qcF rfl ?_ | refine T_skip ?_
          | refine T_exit ?_ | refine T_ret ?_ | refine T_block ?_ | refine E_then ?_ | refine E_thenX ?_ | refine E_thenR ?_ | refine E_blockN ?_
          | refine E_blockR ?_ | refine E_blockX ?_ | refine E_blockO rfl ?_ | refine qs rfl rfl rfl rfl rfl rfl ?_
          | ((try refine qg rfl rfl rfl ?_); first | refine qv rfl (qp rfl) rfl rfl ?_ | refine qv rfl (qlen Und.eq rfl) rfl rfl ?_ | refine qv rfl (qfld FldC.fld rfl rfl) rfl rfl ?_ | refine qv rfl (rr_nilc rfl) rfl rfl ?_ | refine qv rfl (rr_lss rfl rfl (qT (by omega))) rfl rfl ?_ | refine qv rfl (rr_lss rfl rfl (qF (by omega))) rfl rfl ?_ | refine qv rfl (rr_gtr rfl rfl (qT (by omega))) rfl rfl ?_ | refine qv rfl (rr_gtr rfl rfl (qF (by omega))) rfl rfl ?_ | refine qv rfl (rr_eql rfl rfl (qT (by omega))) rfl rfl ?_ | refine qv rfl (rr_eql rfl rfl (qF (by omega))) rfl rfl ?_ | refine qv rfl (rr_neq rfl rfl (qT (by omega))) rfl rfl ?_ | refine qv rfl (rr_neq rfl rfl (qF (by omega))) rfl rfl ?_ | refine qv rfl (rr_add64 rfl rfl (by omega) (by omega) rfl) rfl rfl ?_ | refine qv rfl (rr_geq rfl rfl (qT (by omega))) rfl rfl ?_ | refine qv rfl (rr_geq rfl rfl (qF (by omega))) rfl rfl ?_))
        exact E_ret1 rfl rfl fun w hm => hm.meetsB (S := ⟨fun (_ : Unit) => True, fun _ => .int .i64 4, fun _ => [blkO gw (wkV t n (.slice (some ⟨b, off, none⟩) prods.length cp) (nodes + 1) leaves) 130]⟩) () trivial [0] (by decide) rfl
      rw [if_neg h3]
      by_cases h4 : k ≠ 0
      · rw [if_pos h4]
        repeat (first
          | ((first | refine TW_plain rfl rfl ?_ | refine TW_gmet rfl rfl rfl rfl ?_); first | refine TN_val (qp rfl) rfl rfl ?_ | refine TN_val (rr_load1 TyC.ty rfl (at_blk (i := 0) rfl rfl)) rfl rfl ?_ | refine TN_val (rr_load1 TyC.ty rfl (at_blk (i := 1) rfl rfl)) rfl rfl ?_ | refine TN_val (rr_load1 TyC.ty rfl (at_blk (i := 2) rfl rfl)) rfl rfl ?_ | refine TN_val (rr_idxc Und.eq TyC.ty rfl rfl c6) rfl rfl ?_ | refine TN_val (rr_load1 TyC.ty rfl (hat0 _)) rfl rfl ?_ | refine TN_val (rr_load1 TyC.ty rfl (hat1 _)) rfl rfl ?_ | refine TN_val (qlen Und.eq rfl) rfl rfl ?_ | refine TN_val (qfld FldC.fld rfl rfl) rfl rfl ?_ | refine TN_val (rr_nilc rfl) rfl rfl ?_ | refine TN_val (rr_lss rfl rfl (qT (by omega))) rfl rfl ?_ | refine TN_val (rr_lss rfl rfl (qF (by omega))) rfl rfl ?_ | refine TN_val (rr_gtr rfl rfl (qT (by omega))) rfl rfl ?_ | refine TN_val (rr_gtr rfl rfl (qF (by omega))) rfl rfl ?_ | refine TN_val (rr_eql rfl rfl (qT (by omega))) rfl rfl ?_ | refine TN_val (rr_eql rfl rfl (qF (by omega))) rfl rfl ?_ | refine TN_val (rr_neq rfl rfl (qT (by omega))) rfl rfl ?_ | refine TN_val (rr_neq rfl rfl (qF (by omega))) rfl rfl ?_ | refine TN_val (rr_add64 rfl rfl (by omega) (by omega) rfl) rfl rfl ?_ | refine TN_val (rr_geq rfl rfl (qT (by omega))) rfl rfl ?_ | refine TN_val (rr_geq rfl rfl (qF (by omega))) rfl rfl ?_)
          | refine TW_skip rfl rfl rfl rfl rfl rfl rfl ?_ | refine TW_done ?_)
        repeat (first
          | refine qv rfl (qp rfl) rfl rfl ?_ | refine TL_nil ?_ | refine T_seq ?_ | refine T_region ?_ | refine qcT rfl ?_ | refine qcF rfl ?_ | refine T_skip ?_
          | refine T_exit ?_ | refine T_ret ?_ | refine T_block ?_ | refine E_then ?_ | refine E_thenX ?_ | refine E_thenR ?_ | refine E_blockN ?_
          | refine E_blockR ?_ | refine E_blockX ?_ | refine E_blockO rfl ?_ | refine qs rfl rfl rfl rfl rfl rfl ?_
          | ((try refine qg rfl rfl rfl ?_); first | refine qv rfl (qp rfl) rfl rfl ?_ | refine qv rfl (qlen Und.eq rfl) rfl rfl ?_ | refine qv rfl (qfld FldC.fld rfl rfl) rfl rfl ?_ | refine qv rfl (rr_nilc rfl) rfl rfl ?_ | refine qv rfl (rr_lss rfl rfl (qT (by omega))) rfl rfl ?_ | refine qv rfl (rr_lss rfl rfl (qF (by omega))) rfl rfl ?_ | refine qv rfl (rr_gtr rfl rfl (qT (by omega))) rfl rfl ?_ | refine qv rfl (rr_gtr rfl rfl (qF (by omega))) rfl rfl ?_ | refine qv rfl (rr_eql rfl rfl (qT (by omega))) rfl rfl ?_ | refine qv rfl (rr_eql rfl rfl (qF (by omega))) rfl rfl ?_ | refine qv rfl (rr_neq rfl rfl (qT (by omega))) rfl rfl ?_ | refine qv rfl (rr_neq rfl rfl (qF (by omega))) rfl rfl ?_ | refine qv rfl (rr_add64 rfl rfl (by omega) (by omega) rfl) rfl rfl ?_ | refine qv rfl (rr_geq rfl rfl (qT (by omega))) rfl rfl ?_ | refine qv rfl (rr_geq rfl rfl (qF (by omega))) rfl rfl ?_))
        exact E_ret1 rfl rfl fun w hm => hm.meetsB (S := ⟨fun (_ : Unit) => True, fun _ => .int .i64 4, fun _ => [blkO gw (wkV t n (.slice (some ⟨b, off, none⟩) prods.length cp) (nodes + 1) leaves) 130]⟩) () trivial [0] (by decide) rfl
      rw [if_neg h4]
      by_cases h5 : kids.length ≠ body.length
      · rw [if_pos h5]
        repeat (first
          | ((first | refine TW_plain rfl rfl ?_ | refine TW_gmet rfl rfl rfl rfl ?_); first | refine TN_val (qp rfl) rfl rfl ?_ | refine TN_val (rr_load1 TyC.ty rfl (at_blk (i := 0) rfl rfl)) rfl rfl ?_ | refine TN_val (rr_load1 TyC.ty rfl (at_blk (i := 1) rfl rfl)) rfl rfl ?_ | refine TN_val (rr_load1 TyC.ty rfl (at_blk (i := 2) rfl rfl)) rfl rfl ?_ | refine TN_val (rr_idxc Und.eq TyC.ty rfl rfl c6) rfl rfl ?_ | refine TN_val (rr_load1 TyC.ty rfl (hat0 _)) rfl rfl ?_ | refine TN_val (rr_load1 TyC.ty rfl (hat1 _)) rfl rfl ?_ | refine TN_val (qlen Und.eq rfl) rfl rfl ?_ | refine TN_val (qfld FldC.fld rfl rfl) rfl rfl ?_ | refine TN_val (rr_nilc rfl) rfl rfl ?_ | refine TN_val (rr_lss rfl rfl (qT (by omega))) rfl rfl ?_ | refine TN_val (rr_lss rfl rfl (qF (by omega))) rfl rfl ?_ | refine TN_val (rr_gtr rfl rfl (qT (by omega))) rfl rfl ?_ | refine TN_val (rr_gtr rfl rfl (qF (by omega))) rfl rfl ?_ | refine TN_val (rr_eql rfl rfl (qT (by omega))) rfl rfl ?_ | refine TN_val (rr_eql rfl rfl (qF (by omega))) rfl rfl ?_ | refine TN_val (rr_neq rfl rfl (qT (by omega))) rfl rfl ?_ | refine TN_val (rr_neq rfl rfl (qF (by omega))) rfl rfl ?_ | refine TN_val (rr_add64 rfl rfl (by omega) (by omega) rfl) rfl rfl ?_ | refine TN_val (rr_geq rfl rfl (qT (by omega))) rfl rfl ?_ | refine TN_val (rr_geq rfl rfl (qF (by omega))) rfl rfl ?_)
          | refine TW_skip rfl rfl rfl rfl rfl rfl rfl ?_ | refine TW_done ?_)
        repeat (first
          | refine qv rfl (qp rfl) rfl rfl ?_ | refine TL_nil ?_ | refine T_seq ?_ | refine T_region ?_ | refine qcT rfl ?_ | refine qcF rfl ?_ | refine T_skip ?_
          | refine T_exit ?_ | refine T_ret ?_ | refine T_block ?_ | refine E_then ?_ | refine E_thenX ?_ | refine E_thenR ?_ | refine E_blockN ?_
          | refine E_blockR ?_ | refine E_blockX ?_ | refine E_blockO rfl ?_ | refine qs rfl rfl rfl rfl rfl rfl ?_
          | ((try refine qg rfl rfl rfl ?_); first | refine qv rfl (qp rfl) rfl rfl ?_ | refine qv rfl (qlen Und.eq rfl) rfl rfl ?_ | refine qv rfl (qfld FldC.fld rfl rfl) rfl rfl ?_ | refine qv rfl (rr_nilc rfl) rfl rfl ?_ | refine qv rfl (rr_lss rfl rfl (qT (by omega))) rfl rfl ?_ | refine qv rfl (rr_lss rfl rfl (qF (by omega))) rfl rfl ?_ | refine qv rfl (rr_gtr rfl rfl (qT (by omega))) rfl rfl ?_ | refine qv rfl (rr_gtr rfl rfl (qF (by omega))) rfl rfl ?_ | refine qv rfl (rr_eql rfl rfl (qT (by omega))) rfl rfl ?_ | refine qv rfl (rr_eql rfl rfl (qF (by omega))) rfl rfl ?_ | refine qv rfl (rr_neq rfl rfl (qT (by omega))) rfl rfl ?_ | refine qv rfl (rr_neq rfl rfl (qF (by omega))) rfl rfl ?_ | refine qv rfl (rr_add64 rfl rfl (by omega) (by omega) rfl) rfl rfl ?_ | refine qv rfl (rr_geq rfl rfl (qT (by omega))) rfl rfl ?_ | refine qv rfl (rr_geq rfl rfl (qF (by omega))) rfl rfl ?_))
        exact E_ret1 rfl rfl fun w hm => hm.meetsB (S := ⟨fun (_ : Unit) => True, fun _ => .int .i64 4, fun _ => [blkO gw (wkV t n (.slice (some ⟨b, off, none⟩) prods.length cp) (nodes + 1) leaves) 130]⟩) () trivial [0] (by decide) rfl
      rw [if_neg h5]
      have h3 : hd = m := by simpa using h3
      have h4 : k = 0 := by simpa using h4
      have h5 : kids.length = body.length := by simpa using h5
      repeat (first
        | ((first | refine TW_plain rfl rfl ?_ | refine TW_gmet rfl rfl rfl rfl ?_); first | refine TN_val (qp rfl) rfl rfl ?_ | refine TN_val (rr_load1 TyC.ty rfl (at_blk (i := 0) rfl rfl)) rfl rfl ?_ | refine TN_val (rr_load1 TyC.ty rfl (at_blk (i := 1) rfl rfl)) rfl rfl ?_ | refine TN_val (rr_load1 TyC.ty rfl (at_blk (i := 2) rfl rfl)) rfl rfl ?_ | refine TN_val (rr_idxc Und.eq TyC.ty rfl rfl c6) rfl rfl ?_ | refine TN_val (rr_load1 TyC.ty rfl (hat0 _)) rfl rfl ?_ | refine TN_val (rr_load1 TyC.ty rfl (hat1 _)) rfl rfl ?_ | refine TN_val (qlen Und.eq rfl) rfl rfl ?_ | refine TN_val (qfld FldC.fld rfl rfl) rfl rfl ?_ | refine TN_val (rr_nilc rfl) rfl rfl ?_ | refine TN_val (rr_lss rfl rfl (qT (by omega))) rfl rfl ?_ | refine TN_val (rr_lss rfl rfl (qF (by omega))) rfl rfl ?_ | refine TN_val (rr_gtr rfl rfl (qT (by omega))) rfl rfl ?_ | refine TN_val (rr_gtr rfl rfl (qF (by omega))) rfl rfl ?_ | refine TN_val (rr_eql rfl rfl (qT (by omega))) rfl rfl ?_ | refine TN_val (rr_eql rfl rfl (qF (by omega))) rfl rfl ?_ | refine TN_val (rr_neq rfl rfl (qT (by omega))) rfl rfl ?_ | refine TN_val (rr_neq rfl rfl (qF (by omega))) rfl rfl ?_ | refine TN_val (rr_add64 rfl rfl (by omega) (by omega) rfl) rfl rfl ?_ | refine TN_val (rr_geq rfl rfl (qT (by omega))) rfl rfl ?_ | refine TN_val (rr_geq rfl rfl (qF (by omega))) rfl rfl ?_)
        | refine TW_skip rfl rfl rfl rfl rfl rfl rfl ?_ | refine TW_done ?_)
      repeat (first
        | refine qv rfl (qp rfl) rfl rfl ?_ | refine TL_nil ?_ | refine T_seq ?_ | refine T_region ?_ | refine qcT rfl ?_ | refine qcF rfl ?_ | refine T_skip ?_
        | refine T_exit ?_ | refine T_ret ?_ | refine T_block ?_ | refine E_then ?_ | refine E_thenX ?_ | refine E_thenR ?_ | refine E_blockN ?_
        | refine E_blockR ?_ | refine E_blockX ?_ | refine E_blockO rfl ?_ | refine qs rfl rfl rfl rfl rfl rfl ?_
        | ((try refine qg rfl rfl rfl ?_); first | refine qv rfl (qp rfl) rfl rfl ?_ | refine qv rfl (rr_load1 TyC.ty rfl (at_blk (i := 1) rfl rfl)) rfl rfl ?_ | refine qv rfl (qlen Und.eq rfl) rfl rfl ?_ | refine qv rfl (qfld FldC.fld rfl rfl) rfl rfl ?_ | refine qv rfl (rr_nilc rfl) rfl rfl ?_ | refine qv rfl (rr_lss rfl rfl (qT (by omega))) rfl rfl ?_ | refine qv rfl (rr_lss rfl rfl (qF (by omega))) rfl rfl ?_ | refine qv rfl (rr_gtr rfl rfl (qT (by omega))) rfl rfl ?_ | refine qv rfl (rr_gtr rfl rfl (qF (by omega))) rfl rfl ?_ | refine qv rfl (rr_eql rfl rfl (qT (by omega))) rfl rfl ?_ | refine qv rfl (rr_eql rfl rfl (qF (by omega))) rfl rfl ?_ | refine qv rfl (rr_neq rfl rfl (qT (by omega))) rfl rfl ?_ | refine qv rfl (rr_neq rfl rfl (qF (by omega))) rfl rfl ?_ | refine qv rfl (rr_add64 rfl rfl (by omega) (by omega) rfl) rfl rfl ?_ | refine qv rfl (rr_geq rfl rfl (qT (by omega))) rfl rfl ?_ | refine qv rfl (rr_geq rfl rfl (qF (by omega))) rfl rfl ?_))
      subst h3 h4
      have hbd := fun (tr : Tree) (x : Sym) (a b c : Nat) h h2 => nodeF_bound (l := prods) (t := tr) (x := x) (d := a) (n := b) (v := c) h h2
      generalize hres : kidsF prods kids body (d + 1) (nodes + 1) leaves = res
      refine T_pick [0, 1] (by decide) rfl ?_
      refine T_loop (ι := Nat × Nat × Nat) (fun (i, a, b) => i ≤ kids.length ∧ b ≤ a ∧ a ≤ 1000 ∧ kidsF prods (kids.drop i) (body.drop i) (d + 1) a b = res) (fun (i, _, _) => [(0, .pointer (some ⟨gw, 0, none⟩)), (3, .int .i64 (d : Int)), (5, .pointer (some ⟨g5, 0, none⟩)), (110, .slice bk kids.length ck), (111, .int .i64 kids.length), (112, .int .i64 (i : Int))])
        (fun (_, a, b') => [blkO gw (wkV t n (.slice (some ⟨b, off, none⟩) prods.length cp) a b') 130, blkO g5 (treeV (pn : Int) 0 (.slice bk kids.length ck)).cells 75]) (fun (i, _, _) => kids.length - i) (0, nodes + 1, leaves) ⟨Nat.zero_le _, by omega, by omega, hres⟩ (by repeat' (first | exact True.intro | refine And.intro rfl ?_)) rfl ?_
      clear hres
      rintro ⟨i, a, b'⟩ ⟨i1, i2, i3, i4⟩
      dsimp only at i1 i2 i3 i4 ⊢
      by_cases c7 : i < kids.length
      · obtain ⟨bk2, offk, rfl, _, hrkk⟩ := hrk (by omega)
        obtain ⟨kb, kc, r1, r2⟩ := kid_at hrkk c7
        have c8 : i < body.length := by omega
        obtain ⟨b3, off3, rfl, hr3⟩ := hb6 (by omega)
        rw [List.drop_eq_getElem_cons c7, List.drop_eq_getElem_cons c8, kidsF] at i4
        have hatk : ∀ (L : List Own) (j : Nat) (v : Value), ([.int .i64 kids[i].prod, .int .i64 kids[i].tok, .slice kb kids[i].kids.length kc] : List Value)[j]? = some v → At B L ⟨bk2, offk + i * 3 + j, none⟩ v := fun L j v hj => at_old0 ho (r1 j v hj)
        have hatx := fun L => at_elL (W := B) (L := L) SymS_len (fun q x hq => at_old0 ho (hr3 q x hq)) c8
        have hszk : size kids[i] ≤ N := by have := size_mem kids i c7; omega
        have IHk := IH kids[i] hszk
        clear hrk hrkk hb6 hr3 r1 IH
        generalize kids[i] = kt at *
        generalize body[i] = y at *
        have IHk := IHk (treeV kt.prod kt.tok (.slice kb kt.kids.length kc)) y (d + 1) a b'
        have hbk := fun h => hbd kt y (d + 1) a b' h i2
        generalize nodeF prods kt y (d + 1) a b' = r at *
        obtain ⟨e, a2, b2'⟩ := r
        dsimp only at *
        obtain ⟨kp, kk, kk2⟩ := kt
        dsimp only [Tree.prod, Tree.tok, Tree.kids] at *
        obtain ⟨yq, ym⟩ := y
        repeat (first
          | refine qv rfl (qp rfl) rfl rfl ?_ | refine TL_nil ?_ | refine T_seq ?_ | refine T_region ?_ | refine qcT rfl ?_ | refine qcF rfl ?_ | refine T_skip ?_
          | refine T_exit ?_ | refine T_ret ?_ | refine T_block ?_ | refine E_then ?_ | refine E_thenX ?_ | refine E_thenR ?_ | refine E_blockN ?_
          | refine E_blockR ?_ | refine E_blockX ?_ | refine E_blockO rfl ?_ | refine qs rfl rfl rfl rfl rfl rfl ?_
          | ((try refine qg rfl rfl rfl ?_); first | refine qv rfl (qp rfl) rfl rfl ?_ | refine qv rfl (rr_idxc Und.eq TyC.ty rfl rfl c7) rfl rfl ?_ | refine qv rfl (rr_loadN TyC.ty rfl rfl (hatk _)) rfl rfl ?_ | refine qv rfl (qlen Und.eq rfl) rfl rfl ?_ | refine qv rfl (qfld FldC.fld rfl rfl) rfl rfl ?_ | refine qv rfl (rr_nilc rfl) rfl rfl ?_ | refine qv rfl (rr_lss rfl rfl (qT (by omega))) rfl rfl ?_ | refine qv rfl (rr_lss rfl rfl (qF (by omega))) rfl rfl ?_ | refine qv rfl (rr_gtr rfl rfl (qT (by omega))) rfl rfl ?_ | refine qv rfl (rr_gtr rfl rfl (qF (by omega))) rfl rfl ?_ | refine qv rfl (rr_eql rfl rfl (qT (by omega))) rfl rfl ?_ | refine qv rfl (rr_eql rfl rfl (qF (by omega))) rfl rfl ?_ | refine qv rfl (rr_neq rfl rfl (qT (by omega))) rfl rfl ?_ | refine qv rfl (rr_neq rfl rfl (qF (by omega))) rfl rfl ?_ | refine qv rfl (rr_add64 rfl rfl (by omega) (by omega) rfl) rfl rfl ?_ | refine qv rfl (rr_geq rfl rfl (qT (by omega))) rfl rfl ?_ | refine qv rfl (rr_geq rfl rfl (qF (by omega))) rfl rfl ?_))
        refine TL_new rfl fun g10 => ?_
        repeat (first
          | refine qv rfl (qp rfl) rfl rfl ?_ | refine TL_nil ?_ | refine T_seq ?_ | refine T_region ?_ | refine qcT rfl ?_ | refine qcF rfl ?_ | refine T_skip ?_
          | refine T_exit ?_ | refine T_ret ?_ | refine T_block ?_ | refine E_then ?_ | refine E_thenX ?_ | refine E_thenR ?_ | refine E_blockN ?_
          | refine E_blockR ?_ | refine E_blockX ?_ | refine E_blockO rfl ?_ | refine qs rfl rfl rfl rfl rfl rfl ?_
          | ((try refine qg rfl rfl rfl ?_); first | refine qv rfl (qp rfl) rfl rfl ?_ | refine qv rfl (qlen Und.eq rfl) rfl rfl ?_ | refine qv rfl (qfld FldC.fld rfl rfl) rfl rfl ?_ | refine qv rfl (rr_nilc rfl) rfl rfl ?_ | refine qv rfl (rr_lss rfl rfl (qT (by omega))) rfl rfl ?_ | refine qv rfl (rr_lss rfl rfl (qF (by omega))) rfl rfl ?_ | refine qv rfl (rr_gtr rfl rfl (qT (by omega))) rfl rfl ?_ | refine qv rfl (rr_gtr rfl rfl (qF (by omega))) rfl rfl ?_ | refine qv rfl (rr_eql rfl rfl (qT (by omega))) rfl rfl ?_ | refine qv rfl (rr_eql rfl rfl (qF (by omega))) rfl rfl ?_ | refine qv rfl (rr_neq rfl rfl (qT (by omega))) rfl rfl ?_ | refine qv rfl (rr_neq rfl rfl (qF (by omega))) rfl rfl ?_ | refine qv rfl (rr_add64 rfl rfl (by omega) (by omega) rfl) rfl rfl ?_ | refine qv rfl (rr_geq rfl rfl (qT (by omega))) rfl rfl ?_ | refine qv rfl (rr_geq rfl rfl (qF (by omega))) rfl rfl ?_))
        refine TL_storeB (i := 2) rfl rfl rfl rfl rfl rfl ?_
        conv => arg 8; simp only [zA, zB, zC, zD, zE, zF, zG, zH, zI, rowS, ret, id_eq]
        repeat (first
          | refine qv rfl (qp rfl) rfl rfl ?_ | refine TL_nil ?_ | refine T_seq ?_ | refine T_region ?_ | refine qcT rfl ?_ | refine qcF rfl ?_ | refine T_skip ?_
          | refine T_exit ?_ | refine T_ret ?_ | refine T_block ?_ | refine E_then ?_ | refine E_thenX ?_ | refine E_thenR ?_ | refine E_blockN ?_
          | refine E_blockR ?_ | refine E_blockX ?_ | refine E_blockO rfl ?_ | refine qs rfl rfl rfl rfl rfl rfl ?_
          | ((try refine qg rfl rfl rfl ?_); first | refine qv rfl (qp rfl) rfl rfl ?_ | refine qv rfl (qlen Und.eq rfl) rfl rfl ?_ | refine qv rfl (qfld FldC.fld rfl rfl) rfl rfl ?_ | refine qv rfl (rr_nilc rfl) rfl rfl ?_ | refine qv rfl (rr_lss rfl rfl (qT (by omega))) rfl rfl ?_ | refine qv rfl (rr_lss rfl rfl (qF (by omega))) rfl rfl ?_ | refine qv rfl (rr_gtr rfl rfl (qT (by omega))) rfl rfl ?_ | refine qv rfl (rr_gtr rfl rfl (qF (by omega))) rfl rfl ?_ | refine qv rfl (rr_eql rfl rfl (qT (by omega))) rfl rfl ?_ | refine qv rfl (rr_eql rfl rfl (qF (by omega))) rfl rfl ?_ | refine qv rfl (rr_neq rfl rfl (qT (by omega))) rfl rfl ?_ | refine qv rfl (rr_neq rfl rfl (qF (by omega))) rfl rfl ?_ | refine qv rfl (rr_add64 rfl rfl (by omega) (by omega) rfl) rfl rfl ?_ | refine qv rfl (rr_geq rfl rfl (qT (by omega))) rfl rfl ?_ | refine qv rfl (rr_geq rfl rfl (qF (by omega))) rfl rfl ?_))
        refine T_ord ([blkO g5 (treeV (pn : Int) 0 (.slice (some ⟨bk2, offk, none⟩) kids.length ck)).cells 75, blkO g10 #[.int .i64 kp, .int .i64 kk, .slice kb kk2.length kc] 75]) (.calm 0 (.calm 1 (.calm 2 (.calm 3 (.calm 4 (.calm 5 (.calm 7 (.calm 8 (.calm 12 (.calm 15 (.calm 16 (.one 6 (.calm 9 (.calm 10 (.calm 11 (.calm 13 (.calm 14 (.one 17 (.calm 18 (.done)))))))))))))))))))) (sub_pick [1, 2] (by decide) rfl) (by kernel_rfl) (by kernel_rfl) (by intro c a d v w h; cases d <;> exact h) ?_
        repeat (first
          | ((first | refine TW_plain rfl rfl ?_ | refine TW_gmet rfl rfl rfl rfl ?_); first | refine TN_val (qp rfl) rfl rfl ?_ | refine TN_val (rr_loadB (i := 1) TyC.ty rfl rfl rfl) rfl rfl ?_ | refine TN_val (rr_load1 TyC.ty rfl (at_blk (i := 0) rfl rfl)) rfl rfl ?_ | refine TN_val (rr_add64 (r := ((d + 1 : Nat) : Int)) rfl rfl (by omega) (by omega) (by omega)) rfl rfl ?_ | refine TN_val (qlen Und.eq rfl) rfl rfl ?_ | refine TN_val (qfld FldC.fld rfl rfl) rfl rfl ?_ | refine TN_val (rr_nilc rfl) rfl rfl ?_ | refine TN_val (rr_lss rfl rfl (qT (by omega))) rfl rfl ?_ | refine TN_val (rr_lss rfl rfl (qF (by omega))) rfl rfl ?_ | refine TN_val (rr_gtr rfl rfl (qT (by omega))) rfl rfl ?_ | refine TN_val (rr_gtr rfl rfl (qF (by omega))) rfl rfl ?_ | refine TN_val (rr_eql rfl rfl (qT (by omega))) rfl rfl ?_ | refine TN_val (rr_eql rfl rfl (qF (by omega))) rfl rfl ?_ | refine TN_val (rr_neq rfl rfl (qT (by omega))) rfl rfl ?_ | refine TN_val (rr_neq rfl rfl (qF (by omega))) rfl rfl ?_ | refine TN_val (rr_add64 rfl rfl (by omega) (by omega) rfl) rfl rfl ?_ | refine TN_val (rr_geq rfl rfl (qT (by omega))) rfl rfl ?_ | refine TN_val (rr_geq rfl rfl (qF (by omega))) rfl rfl ?_)
          | refine TW_skip rfl rfl rfl rfl rfl rfl rfl ?_ | refine TW_done ?_)
        refine TW_one rfl (TL_val (rr_load1 TyC.ty rfl (at_blk (i := 0) rfl rfl)) rfl rfl rfl (TW_on (sub_pick [1, 2] (by decide) rfl) ?_))
        repeat (first
          | ((first | refine TW_plain rfl rfl ?_ | refine TW_gmet rfl rfl rfl rfl ?_); first | refine TN_val (qp rfl) rfl rfl ?_ | refine TN_val (rr_idxc Und.eq TyC.ty rfl rfl c6) rfl rfl ?_ | refine TN_val (rr_load1 TyC.ty rfl (hat1 _)) rfl rfl ?_ | refine TN_val (rr_idxc Und.eq TyC.ty rfl rfl c8) rfl rfl ?_ | refine TN_val (rr_loadN TyC.ty rfl rfl (hatx _)) rfl rfl ?_ | refine TN_val (qlen Und.eq rfl) rfl rfl ?_ | refine TN_val (qfld FldC.fld rfl rfl) rfl rfl ?_ | refine TN_val (rr_nilc rfl) rfl rfl ?_ | refine TN_val (rr_lss rfl rfl (qT (by omega))) rfl rfl ?_ | refine TN_val (rr_lss rfl rfl (qF (by omega))) rfl rfl ?_ | refine TN_val (rr_gtr rfl rfl (qT (by omega))) rfl rfl ?_ | refine TN_val (rr_gtr rfl rfl (qF (by omega))) rfl rfl ?_ | refine TN_val (rr_eql rfl rfl (qT (by omega))) rfl rfl ?_ | refine TN_val (rr_eql rfl rfl (qF (by omega))) rfl rfl ?_ | refine TN_val (rr_neq rfl rfl (qT (by omega))) rfl rfl ?_ | refine TN_val (rr_neq rfl rfl (qF (by omega))) rfl rfl ?_ | refine TN_val (rr_add64 rfl rfl (by omega) (by omega) rfl) rfl rfl ?_ | refine TN_val (rr_geq rfl rfl (qT (by omega))) rfl rfl ?_ | refine TN_val (rr_geq rfl rfl (qF (by omega))) rfl rfl ?_)
          | refine TW_skip rfl rfl rfl rfl rfl rfl rfl ?_ | refine TW_done ?_)
        refine TW_one rfl ?_
        refine TL_callB [0] [1, 2] (by decide) rfl rfl (he4 EntersC.en rfl rfl rfl rfl rfl) (fun w hm hb => IHk w _ r2 i2 i3 (by omega) (ho.on hm (by intro o ho; simp at ho ⊢; simp [ho])) hb) rfl rfl rfl ?_
        intro _ _
        conv => arg 8; simp only [zA, zB, zC, zD, zE, zF, zG, zH, zI, rowS, ret, id_eq]
        refine TW_on (sub_pick [0, 1] (by decide) rfl) ?_
        repeat (first
          | ((first | refine TW_plain rfl rfl ?_ | refine TW_gmet rfl rfl rfl rfl ?_); first | refine TN_val (qp rfl) rfl rfl ?_ | refine TN_val (qlen Und.eq rfl) rfl rfl ?_ | refine TN_val (qfld FldC.fld rfl rfl) rfl rfl ?_ | refine TN_val (rr_nilc rfl) rfl rfl ?_ | refine TN_val (rr_lss rfl rfl (qT (by omega))) rfl rfl ?_ | refine TN_val (rr_lss rfl rfl (qF (by omega))) rfl rfl ?_ | refine TN_val (rr_gtr rfl rfl (qT (by omega))) rfl rfl ?_ | refine TN_val (rr_gtr rfl rfl (qF (by omega))) rfl rfl ?_ | refine TN_val (rr_eql rfl rfl (qT (by omega))) rfl rfl ?_ | refine TN_val (rr_eql rfl rfl (qF (by omega))) rfl rfl ?_ | refine TN_val (rr_neq rfl rfl (qT (by omega))) rfl rfl ?_ | refine TN_val (rr_neq rfl rfl (qF (by omega))) rfl rfl ?_ | refine TN_val (rr_add64 rfl rfl (by omega) (by omega) rfl) rfl rfl ?_ | refine TN_val (rr_geq rfl rfl (qT (by omega))) rfl rfl ?_ | refine TN_val (rr_geq rfl rfl (qF (by omega))) rfl rfl ?_)
          | refine TW_skip rfl rfl rfl rfl rfl rfl rfl ?_ | refine TW_done ?_)
        by_cases c9 : e = 0
        · rw [if_neg (by simpa using c9)] at i4
          obtain ⟨y1, y2⟩ := hbk c9
          repeat (first
            | refine qv rfl (qp rfl) rfl rfl ?_ | refine TL_nil ?_ | refine T_seq ?_ | refine T_region ?_ | refine qcT rfl ?_ | refine qcF rfl ?_ | refine T_skip ?_
            | refine T_exit ?_ | refine T_ret ?_ | refine T_block ?_ | refine E_then ?_ | refine E_thenX ?_ | refine E_thenR ?_ | refine E_blockN ?_
            | refine E_blockR ?_ | refine E_blockX ?_ | refine E_blockO rfl ?_ | refine qs rfl rfl rfl rfl rfl rfl ?_
            | ((try refine qg rfl rfl rfl ?_); first | refine qv rfl (qp rfl) rfl rfl ?_ | refine qv rfl (qlen Und.eq rfl) rfl rfl ?_ | refine qv rfl (qfld FldC.fld rfl rfl) rfl rfl ?_ | refine qv rfl (rr_nilc rfl) rfl rfl ?_ | refine qv rfl (rr_lss rfl rfl (qT (by omega))) rfl rfl ?_ | refine qv rfl (rr_lss rfl rfl (qF (by omega))) rfl rfl ?_ | refine qv rfl (rr_gtr rfl rfl (qT (by omega))) rfl rfl ?_ | refine qv rfl (rr_gtr rfl rfl (qF (by omega))) rfl rfl ?_ | refine qv rfl (rr_eql rfl rfl (qT (by omega))) rfl rfl ?_ | refine qv rfl (rr_eql rfl rfl (qF (by omega))) rfl rfl ?_ | refine qv rfl (rr_neq rfl rfl (qT (by omega))) rfl rfl ?_ | refine qv rfl (rr_neq rfl rfl (qF (by omega))) rfl rfl ?_ | refine qv rfl (rr_add64 rfl rfl (by omega) (by omega) rfl) rfl rfl ?_ | refine qv rfl (rr_geq rfl rfl (qT (by omega))) rfl rfl ?_ | refine qv rfl (rr_geq rfl rfl (qF (by omega))) rfl rfl ?_))
          refine E_pick [2, 0] (by decide) rfl ?_
          exact E_round (i + 1, a2, b2') ⟨by omega, y2, y1, i4⟩ (by show kids.length - (i + 1) < kids.length - i; omega) (by repeat' (first | exact True.intro | refine And.intro rfl ?_)) rfl
        · rw [if_pos c9] at i4
          subst i4
          repeat (first
            | refine qv rfl (qp rfl) rfl rfl ?_ | refine TL_nil ?_ | refine T_seq ?_ | refine T_region ?_ | refine qcT rfl ?_ | refine qcF rfl ?_ | refine T_skip ?_
            | refine T_exit ?_ | refine T_ret ?_ | refine T_block ?_ | refine E_then ?_ | refine E_thenX ?_ | refine E_thenR ?_ | refine E_blockN ?_
            | refine E_blockR ?_ | refine E_blockX ?_ | refine E_blockO rfl ?_ | refine qs rfl rfl rfl rfl rfl rfl ?_
            | ((try refine qg rfl rfl rfl ?_); first | refine qv rfl (qp rfl) rfl rfl ?_ | refine qv rfl (qlen Und.eq rfl) rfl rfl ?_ | refine qv rfl (qfld FldC.fld rfl rfl) rfl rfl ?_ | refine qv rfl (rr_nilc rfl) rfl rfl ?_ | refine qv rfl (rr_lss rfl rfl (qT (by omega))) rfl rfl ?_ | refine qv rfl (rr_lss rfl rfl (qF (by omega))) rfl rfl ?_ | refine qv rfl (rr_gtr rfl rfl (qT (by omega))) rfl rfl ?_ | refine qv rfl (rr_gtr rfl rfl (qF (by omega))) rfl rfl ?_ | refine qv rfl (rr_eql rfl rfl (qT (by omega))) rfl rfl ?_ | refine qv rfl (rr_eql rfl rfl (qF (by omega))) rfl rfl ?_ | refine qv rfl (rr_neq rfl rfl (qT (by omega))) rfl rfl ?_ | refine qv rfl (rr_neq rfl rfl (qF (by omega))) rfl rfl ?_ | refine qv rfl (rr_add64 rfl rfl (by omega) (by omega) rfl) rfl rfl ?_ | refine qv rfl (rr_geq rfl rfl (qT (by omega))) rfl rfl ?_ | refine qv rfl (rr_geq rfl rfl (qF (by omega))) rfl rfl ?_))
          exact E_ret1 rfl rfl fun w hm => hm.meetsB (S := ⟨fun (_ : Unit) => True, fun _ => .int .i64 e, fun _ => [blkO gw (wkV t n (.slice (some ⟨b, off, none⟩) prods.length cp) a2 b2') 130]⟩) () trivial [2] (by decide) rfl
      · rw [List.drop_of_length_le (by omega), kidsF] at i4
        subst i4
        repeat (first
          | refine qv rfl (qp rfl) rfl rfl ?_ | refine TL_nil ?_ | refine T_seq ?_ | refine T_region ?_ | refine qcT rfl ?_ | refine qcF rfl ?_ | refine T_skip ?_
          | refine T_exit ?_ | refine T_ret ?_ | refine T_block ?_ | refine E_then ?_ | refine E_thenX ?_ | refine E_thenR ?_ | refine E_blockN ?_
          | refine E_blockR ?_ | refine E_blockX ?_ | refine E_blockO rfl ?_ | refine qs rfl rfl rfl rfl rfl rfl ?_
          | ((try refine qg rfl rfl rfl ?_); first | refine qv rfl (qp rfl) rfl rfl ?_ | refine qv rfl (qlen Und.eq rfl) rfl rfl ?_ | refine qv rfl (qfld FldC.fld rfl rfl) rfl rfl ?_ | refine qv rfl (rr_nilc rfl) rfl rfl ?_ | refine qv rfl (rr_lss rfl rfl (qT (by omega))) rfl rfl ?_ | refine qv rfl (rr_lss rfl rfl (qF (by omega))) rfl rfl ?_ | refine qv rfl (rr_gtr rfl rfl (qT (by omega))) rfl rfl ?_ | refine qv rfl (rr_gtr rfl rfl (qF (by omega))) rfl rfl ?_ | refine qv rfl (rr_eql rfl rfl (qT (by omega))) rfl rfl ?_ | refine qv rfl (rr_eql rfl rfl (qF (by omega))) rfl rfl ?_ | refine qv rfl (rr_neq rfl rfl (qT (by omega))) rfl rfl ?_ | refine qv rfl (rr_neq rfl rfl (qF (by omega))) rfl rfl ?_ | refine qv rfl (rr_add64 rfl rfl (by omega) (by omega) rfl) rfl rfl ?_ | refine qv rfl (rr_geq rfl rfl (qT (by omega))) rfl rfl ?_ | refine qv rfl (rr_geq rfl rfl (qF (by omega))) rfl rfl ?_))
        exact E_ret1 rfl rfl fun w hm => hm.meetsB (S := ⟨fun (_ : Unit) => True, fun _ => .int .i64 0, fun _ => [blkO gw (wkV t n (.slice (some ⟨b, off, none⟩) prods.length cp) a b') 130]⟩) () trivial [0] (by decide) rfl
end Go.Proofs.Ytkkiopmdcolobaa.eng

