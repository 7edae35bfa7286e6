/- Part 3 of what BuildSoon needs: Der, CountU, LlL, LrL, SymS, Gram, FactsA, FactsB, FactsC, FactsD, MixX, FactsO, GramN, Brk, FactsE, FactsF, IntO, IntK, ItB, Map, MapE, KeyG. -/
import Derived.Test.YtlojfbnimmdehaaMgB
import Derived.WalkKit
import Derived.WalkSpells
import Derived.WalkLawsBesides
import Derived.Deep.RegionLaw
import Derived.Deep.AppendLies
import Derived.Deep.QuietTactic
import Derived.BigQuiet
import Derived.Deep.DeepCutAuto
import Derived.Lib.Hide
import Derived.Test.YtlojfbnimmdehaaRows
import Derived.ProofKit
import Derived.OpenShut
import Derived.ShutString
import Derived.SizedLaws
import Derived.JoinedCond
import Derived.Deep.CondSized
import Derived.Deep.Quiet
import Derived.StillTail
import Derived.Deep.LoopGhost
import Derived.Laws.BitsLemmas
import Derived.Laws.BytesString
import Derived.Test.YtlojfbnimmdehaaProg
import Derived.Laws.StructEq
import Derived.Laws.MakeOwn
import Derived.Laws.AppendOwn
import Derived.Laws.Entries
import Derived.Maps.OwnSet
import Derived.DeepKeys4
import Derived.WideKeyEntry
/- Der -/
namespace Go.Proofs.Ytlojfbnimmdehaa.derL
open gramL treeL countL factsL
mutual
/-- a symbol makes a word -/
inductive Der (l : List gramL.Prod) : Sym → List Int → Prop
  | term {x : Sym} (h : x.1 = 1) : Der l x [x.2]
  | non {x : Sym} {p : gramL.Prod} {ws : List Int} (h : x.1 ≠ 1) (hp : p ∈ l) (hx : p.1 = x.2) (hd : Ders l p.2 ws) : Der l x ws
inductive Ders (l : List gramL.Prod) : List Sym → List Int → Prop
  | nil : Ders l [] []
  | cons {y : Sym} {r : List Sym} {a b : List Int} (h1 : Der l y a) (h2 : Ders l r b) : Ders l (y :: r) (a ++ b)
end
theorem Ders.app {l : List gramL.Prod} : ∀ {r r' : List Sym} {a b : List Int}, Ders l r a → Ders l r' b → Ders l (r ++ r') (a ++ b)
  | [], _, _, _, .nil, h => h
  | _ :: _, _, _, _, .cons h1 h2, h => by rw [List.append_assoc]; exact .cons h1 (Ders.app h2 h)
theorem ders_one {l : List gramL.Prod} {x : Sym} {a : List Int} (h : Der l x a) : Ders l [x] a := by
  have := Ders.cons h Ders.nil
  rwa [List.append_nil] at this
theorem der_term {l : List gramL.Prod} {x : Sym} {ws : List Int} (h : Der l x ws) (hx : x.1 = 1) : ws = [x.2] := by
  cases h with
  | term _ => rfl
  | non h _ _ _ => exact absurd hx h
/-- the word between two places -/
def cut (w : List Int) (a b : Nat) : List Int := (w.drop a).take (b - a)
theorem cut_app {w : List Int} {a m b : Nat} (h1 : a ≤ m) (h2 : m ≤ b) : cut w a m ++ cut w m b = cut w a b := by
  unfold cut
  have e3 : w.drop m = (w.drop a).drop (m - a) := by rw [List.drop_drop, show a + (m - a) = m by omega]
  rw [e3, show b - a = (m - a) + (b - m) by omega, List.take_add]
theorem cut_self (w : List Int) (a : Nat) : cut w a a = [] := by unfold cut; simp
theorem cut_end {w : List Int} {a n : Nat} (h : n = w.length) : cut w a n = w.drop a := by
  unfold cut; rw [List.take_of_length_le (by simp; omega)]
theorem cut_len {w : List Int} {a b : Nat} (h1 : a ≤ b) (h2 : b ≤ w.length) : (cut w a b).length = b - a := by
  unfold cut; rw [List.length_take, List.length_drop]; omega
theorem row_ders {l : List gramL.Prod} {w : List Int} {o : Sym → Nat → Nat → Nat} : ∀ (body : List Sym) (a b : Nat), a ≤ b → (∀ y ∈ body, ∀ i j, a ≤ i → i ≤ j → j ≤ b → 0 < o y i j → Der l y (cut w i j)) → 0 < rowF o body a b → Ders l body (cut w a b)
  | [], a, b, hab, _, h => by
    rw [rowF_E _ _ hab, rowE] at h
    have hE : a = b := by
      by_cases c : a = b
      · exact c
      · rw [if_neg c] at h; omega
    subst hE
    rw [cut_self]; exact .nil
  | y :: r, a, b, hab, ho, h => by
    obtain ⟨m, m1, m2, m3⟩ := row_cut hab h
    unfold cutB at m3
    rw [Bool.and_eq_true, decide_eq_true_iff, decide_eq_true_iff] at m3
    rw [← cut_app m1 m2]
    exact .cons (ho y (by simp) a m (Nat.le_refl _) m1 m2 m3.1) (row_ders r m b m2 (fun z hz i j h1 h2 h3 => ho z (by simp [hz]) i j (by omega) h2 h3) m3.2)
section
variable {w : List Int} {l : List gramL.Prod} {n : Nat} {c : Chart}
open Classical in
theorem der_of_chart (hc : Lfp w l n c) (hs : SymsOk n l) {k a b : Nat} (hk : k < n) (hab : a ≤ b) (hb : b ≤ w.length) (h : 0 < c ((k : Int), (a : Int), (b : Int))) : Der l (2, (k : Int)) (cut w a b) := by
  have hp : PreC w l n (fun x => if Der l (2, x.1) (cut w x.2.1.toNat x.2.2.toNat) then 2 else 0) := fun q i j hq hij hj => by
    dsimp only
    rw [Int.toNat_natCast, Int.toNat_natCast]
    by_cases cd : Der l (2, (q : Int)) (cut w i j)
    · rw [if_pos cd]; exact nowF_le _ _ _ _ _
    · rw [if_neg cd]
      apply Nat.le_of_not_lt
      intro h0
      unfold nowF at h0
      obtain ⟨r, r1, r2, r3⟩ := sumP_pos (Nat.lt_min.1 h0).2
      have hm := prodAt_mem (l := l) (p := (r : Int)) (by omega) (by omega)
      refine cd (.non (by show (2 : Int) ≠ 1; decide) hm r2 (row_ders _ i j hij (fun y hy i' j' h1 h2 h3 h4 => ?_) r3))
      unfold oneF at h4
      by_cases e : y.1 = 2
      · rw [if_pos e] at h4
        dsimp only at h4
        rw [Int.toNat_natCast, Int.toNat_natCast] at h4
        split at h4
        · rename_i hd
          obtain ⟨y1, y2⟩ := y
          dsimp only at e hd
          subst e
          exact hd
        · omega
      · rw [if_neg e] at h4
        split at h4
        · rename_i h5
          obtain ⟨h6, h7⟩ := h5
          have e1 : y.1 = 1 := ((hs _ hm).2.2 y hy).resolve_right fun h => e h.1
          obtain ⟨h8, h9⟩ := List.getElem?_eq_some_iff.1 h7
          have : cut w i' j' = [y.2] := by
            unfold cut
            rw [h6, show i' + 1 - i' = 1 by omega, List.drop_eq_getElem_cons h8, h9]; rfl
          rw [this]
          exact .term e1
        · omega
  have := hc.least _ hp k a b hk hab hb
  dsimp only at this
  rw [Int.toNat_natCast, Int.toNat_natCast] at this
  by_cases cd : Der l (2, (k : Int)) (cut w a b)
  · exact cd
  · rw [if_neg cd] at this; omega
theorem der_of_one (hc : Lfp w l n c) (hs : SymsOk n l) {x : Sym} {a b : Nat} (hx : x.1 = 1 ∨ (x.1 = 2 ∧ 0 ≤ x.2 ∧ x.2 < (n : Int))) (hab : a ≤ b) (hb : b ≤ w.length) (h : 0 < oneF c w x a b) : Der l x (cut w a b) := by
  unfold oneF at h
  rcases hx with hx | ⟨h2, h3, h4⟩
  · rw [if_neg (by omega)] at h
    split at h
    · rename_i h5
      obtain ⟨h6, h7⟩ := h5
      obtain ⟨h8, h9⟩ := List.getElem?_eq_some_iff.1 h7
      have : cut w a b = [x.2] := by
        unfold cut
        rw [h6, show a + 1 - a = 1 by omega, List.drop_eq_getElem_cons h8, h9]; rfl
      rw [this]
      exact .term hx
    · omega
  · rw [if_pos h2] at h
    obtain ⟨x1, x2⟩ := x
    dsimp only at *
    subst h2
    have e : x2 = ((x2.toNat : Nat) : Int) := by omega
    rw [e] at h ⊢
    exact der_of_chart hc hs (by omega) hab hb h
mutual
theorem one_of_der (hc : Lfp w l n c) (hs : SymsOk n l) : ∀ {x : Sym} {ws : List Int}, Der l x ws → (x.1 = 1 ∨ x.1 = 2) → ∀ {a : Nat}, a ≤ w.length → (∃ r, w.drop a = ws ++ r) → 1 ≤ oneF c w x a (a + ws.length)
  | x, _, .term h1, _, a, ha, ⟨r, hr⟩ => by
    have hcell : w[a]? = some x.2 := by
      have : (w.drop a)[0]? = some x.2 := by rw [hr]; rfl
      rw [List.getElem?_drop] at this
      exact this
    unfold oneF
    rw [if_neg (by omega), if_pos ⟨rfl, hcell⟩]
    exact Nat.le_refl _
  | x, ws, .non (p := p) h1 hp hx hd, hx2, a, ha, ⟨r, hr⟩ => by
    obtain ⟨s1, s2, s3⟩ := hs _ hp
    have hal : a + ws.length ≤ w.length := by
      have := congrArg List.length hr
      rw [List.length_drop, List.length_append] at this
      omega
    have hrow := row_of_ders hc hs hd (fun y hy => (s3 y hy).imp id fun h => h.1) ha ⟨r, hr⟩
    unfold oneF
    rw [if_pos (hx2.resolve_left h1)]
    have e : x.2 = ((x.2.toNat : Nat) : Int) := by omega
    rw [e, hc.fixed a (a + ws.length) (by omega) hal x.2.toNat (by omega)]
    have h1 := sumP_ge (oneF c w) a (a + ws.length) x.2.toNat hp (by omega)
    rw [rowF_E _ _ (by omega)] at h1
    unfold nowF
    omega
theorem row_of_ders (hc : Lfp w l n c) (hs : SymsOk n l) : ∀ {b : List Sym} {ws : List Int}, Ders l b ws → (∀ y ∈ b, y.1 = 1 ∨ y.1 = 2) → ∀ {a : Nat}, a ≤ w.length → (∃ r, w.drop a = ws ++ r) → 1 ≤ rowE (oneF c w) b a (a + ws.length)
  | [], _, .nil, _, a, _, _ => by rw [rowE, List.length_nil, if_pos (by omega)]; omega
  | y :: b, _, .cons (a := u) (b := s) h1 h2, hy, a, ha, ⟨r, hr⟩ => by
    rw [List.append_assoc] at hr
    have hal : a + u.length ≤ w.length := by
      have := congrArg List.length hr
      rw [List.length_drop, List.length_append] at this
      omega
    have k1 := one_of_der hc hs h1 (hy y (by simp)) ha ⟨_, hr⟩
    have k2 := row_of_ders hc hs h2 (fun z hz => hy z (by simp [hz])) hal ⟨r, by rw [← List.drop_drop, hr, List.drop_left]⟩
    rw [rowE, List.length_append, show a + (u.length + s.length) = a + u.length + s.length by omega]
    have h3 := sumN_ge (fun i => oneF c w y a (a + i) * rowE (oneF c w) b (a + i) (a + u.length + s.length)) (i := u.length) (k := a + u.length + s.length - a + 1) (by omega)
    have h4 : 1 * 1 ≤ oneF c w y a (a + u.length) * rowE (oneF c w) b (a + u.length) (a + u.length + s.length) := Nat.mul_le_mul k1 k2
    omega
end
end
section
variable {l : List gramL.Prod} {E R M : List Bool} {F W : List Nat}
mutual
theorem makes_der (hC : ClosedF l E F W R M) : ∀ {x : Sym} {ws : List Int}, Der l x ws → x.1 ≠ 1 → M.getD x.2.toNat false = true
  | _, _, .term h, h0 => absurd h h0
  | x, ws, .non h1 hp hx hd, _ => by rw [← hx]; exact hC.makes _ hp (makes_ders hC hd)
theorem makes_ders (hC : ClosedF l E F W R M) : ∀ {b : List Sym} {ws : List Int}, Ders l b ws → allF M b true = true
  | [], _, .nil => rfl
  | y :: r, _, .cons h1 h2 => by
    have ih := makes_ders hC h2
    unfold allF at ih ⊢
    rw [List.all_cons, ih, Bool.and_true]
    by_cases c : y.1 = 1
    · rw [if_pos c]
    · rw [if_neg c, makes_der hC h1 c, ite_self]
end
end
/-- what is told to be empty, to make something, is so -/
def SoundS (l : List gramL.Prod) (s : FS) : Prop := (∀ i : Nat, s.E.getD i false = true → Der l (2, (i : Int)) []) ∧ ∀ i : Nat, s.M.getD i false = true → ∃ ws, Der l (2, (i : Int)) ws
theorem allE_sound {l : List gramL.Prod} {E : List Bool} (h : ∀ i : Nat, E.getD i false = true → Der l (2, (i : Int)) []) : ∀ (b : List Sym), (∀ x ∈ b, x.1 = 1 ∨ (x.1 = 2 ∧ 0 ≤ x.2)) → allF E b false = true → Ders l b []
  | [], _, _ => .nil
  | y :: r, hx, ha => by
    unfold allF at ha
    rw [List.all_cons, Bool.and_eq_true] at ha
    have ih := allE_sound h r (fun z hz => hx z (by simp [hz])) ha.2
    rcases hx y (by simp) with c | ⟨c1, c2⟩
    · rw [if_pos c] at ha; simp at ha
    · rw [if_neg (by omega), if_pos c1] at ha
      have hd := h _ ha.1
      obtain ⟨y1, y2⟩ := y
      dsimp only at *
      subst c1
      rw [Int.toNat_of_nonneg c2] at hd
      exact .cons hd ih
theorem allM_sound {l : List gramL.Prod} {M : List Bool} (h : ∀ i : Nat, M.getD i false = true → ∃ ws, Der l (2, (i : Int)) ws) : ∀ (b : List Sym), (∀ x ∈ b, x.1 = 1 ∨ (x.1 = 2 ∧ 0 ≤ x.2)) → allF M b true = true → ∃ ws, Ders l b ws
  | [], _, _ => ⟨[], .nil⟩
  | y :: r, hx, ha => by
    unfold allF at ha
    rw [List.all_cons, Bool.and_eq_true] at ha
    obtain ⟨ws, ih⟩ := allM_sound h r (fun z hz => hx z (by simp [hz])) ha.2
    rcases hx y (by simp) with c | ⟨c1, c2⟩
    · exact ⟨_, .cons (.term c) ih⟩
    · rw [if_neg (by omega), if_pos c1] at ha
      obtain ⟨us, hd⟩ := h _ ha.1
      obtain ⟨y1, y2⟩ := y
      dsimp only at *
      subst c1
      rw [Int.toNat_of_nonneg c2] at hd
      exact ⟨_, .cons hd ih⟩
theorem markF_in {l : List Bool} {i k : Nat} {b : Bool} (h : (markF l i b).1.getD k false = true) : l.getD k false = true ∨ (k = i ∧ b = true) := by
  unfold markF at h
  split at h
  · rename_i c
    dsimp only at h
    rw [List.getD_eq_getElem?_getD, List.getElem?_set] at h
    by_cases e : i = k
    · exact .inr ⟨e.symm, c.1⟩
    · rw [if_neg e, ← List.getD_eq_getElem?_getD] at h
      exact .inl h
  · exact .inl h
theorem roundP_sound {n : Nat} {l : List gramL.Prod} (hs : SymsOk n l) {p : gramL.Prod} (hp : p ∈ l) {s : FS} (h : SoundS l s) : SoundS l (roundP p s) := by
  obtain ⟨s1, s2, s3⟩ := hs p hp
  have hx : ∀ x ∈ p.2, x.1 = 1 ∨ (x.1 = 2 ∧ 0 ≤ x.2) := fun x hx => (s3 x hx).imp id fun h => ⟨h.1, h.2.1⟩
  unfold roundP
  refine ⟨fun i hi => ?_, fun i hi => ?_⟩
  · rcases markF_in hi with h1 | ⟨h1, h2⟩
    · exact h.1 i h1
    · subst h1
      exact .non (by show (2 : Int) ≠ 1; decide) hp (by omega) (allE_sound h.1 _ hx h2)
  · rcases markF_in hi with h1 | ⟨h1, h2⟩
    · exact h.2 i h1
    · subst h1
      obtain ⟨ws, hw⟩ := allM_sound h.2 _ hx h2
      exact ⟨ws, .non (by show (2 : Int) ≠ 1; decide) hp (by omega) hw⟩
theorem roundL_sound {n : Nat} {l : List gramL.Prod} (hs : SymsOk n l) : ∀ (r : List gramL.Prod), (∀ p ∈ r, p ∈ l) → ∀ (s : FS), SoundS l s → SoundS l (roundL r s)
  | [], _, s, h => h
  | p :: r, hr, s, h => by
    rw [roundL]
    exact roundL_sound hs r (fun q hq => hr q (by simp [hq])) _ (roundP_sound hs (hr p (by simp)) h)
end Go.Proofs.Ytlojfbnimmdehaa.derL

/- CountU -/
namespace Go.Proofs.Ytlojfbnimmdehaa.derL
open gramL treeL countL
def TreeA (l : List gramL.Prod) (w : List Int) (x : Sym) (a b : Nat) (t : Tree) : Prop := Right l t x a ∧ yieldX l t x = cut w a b
theorem TreeA.leaves {l : List gramL.Prod} {w : List Int} {x : Sym} {a b : Nat} {t : Tree} (h : TreeA l w x a b t) (hab : a ≤ b) (hb : b ≤ w.length) : leaves t = b - a := by
  rw [← yieldX_len h.1, h.2, cut_len hab hb]
section
end
section
end
end Go.Proofs.Ytlojfbnimmdehaa.derL

/- LlL -/
namespace Go.Proofs.Ytlojfbnimmdehaa.llL
open gramL treeL countL factsL derL
abbrev Cl := Int × Int × Int × Int
def bitC (T col : Nat) : Nat := if col = T then 9223372036854775808 else 2 ^ col
section
variable (l : List gramL.Prod) (may : Nat → Nat) (T : Nat)
def candL (n col i : Nat) : Bool := decide ((prodAt l (i : Int)).1 = (n : Int)) && !decide ((may i &&& bitC T col) = 0)
/-- the first one -/
def firstL (n col : Nat) : Nat → Int
  | 0 => -1
  | k + 1 => if firstL n col k < 0 then (if candL l may T n col k = true then (k : Int) else firstL n col k) else firstL n col k
def rowAt (n col : Nat) : Int := firstL l may T n col l.length
end
section
end
/-! ### trees that follow a table -/
def colAt (T : Nat) (w : List Int) (a : Nat) : Nat := if a < w.length then (w.getD a 0).toNat else T
section
end
section
end
section
end
end Go.Proofs.Ytlojfbnimmdehaa.llL

/- LrL -/
namespace Go.Proofs.Ytlojfbnimmdehaa.itemL
open gramL treeL countL factsL smallL
open llL (colAt)
abbrev Act := Int × Int
section
variable (l : List gramL.Prod) (T : Nat)
/-- what an item says at a column -/
def actOf (c : Nat) (it : Item) : Option Act := if it.2.2 ≠ (c : Int) then none else if it.1 = (l.length : Int) ∧ it.2.1 = 1 then some (3, 0) else if it.1 < (l.length : Int) ∧ it.2.1 = ((prodAt l it.1).2.length : Int) then some (2, it.1) else none
/-- acts that may be done in a state, at a column -/
def actsI (s : List Item) (nx : List Int) (c : Nat) : List Act := (if c < T ∧ 0 ≤ nx.getD c 0 then [(1, nx.getD c 0)] else []) ++ s.filterMap (actOf l c)
end
section
variable (l : List gramL.Prod) (T : Nat) (Nx : List (List Int)) (S : List (List Item))
def actAt (q c : Nat) : Act := (actsI l T (S.getD q []) (Nx.getD q []) c).headD (0, 0)
def goTo (q : Nat) (n : Int) : Int := (Nx.getD q []).getD (T + n.toNat) 0
/-- no Fight -/
def CalmI : Prop := ∀ q, q < S.length → ∀ c, c ≤ T → (actsI l T (S.getD q []) (Nx.getD q []) c).length ≤ 1
/-- who builds up -/
inductive LRun (w : List Int) : List Nat → Nat → List Sym → List Nat → Nat → Prop
  | nil {σ : List Nat} {a : Nat} : LRun w σ a [] σ a
  | shift {q s : Nat} {σ σ' : List Nat} {a a' : Nat} {E : List Sym} (ha : a < w.length) (h : actAt l T Nx S q (colAt T w a) = (1, (s : Int))) (hr : LRun w (s :: q :: σ) (a + 1) E σ' a') : LRun w (q :: σ) a ((2, (a : Int)) :: E) σ' a'
  | reduce {q r tq : Nat} {p : Int} {σ ρ σ' : List Nat} {a a' : Nat} {E : List Sym} (h : actAt l T Nx S q (colAt T w a) = (2, p)) (hd : (q :: σ).drop (prodAt l p).2.length = r :: ρ) (hg : goTo T Nx r (prodAt l p).1 = (tq : Int)) (hr : LRun w (tq :: r :: ρ) a E σ' a') : LRun w (q :: σ) a ((4, p) :: E) σ' a'
end
section
variable {l : List gramL.Prod} {T N : Nat} {lk : Int → Int → Nat} {Nx : List (List Int)} {S : List (List Item)} {w : List Int}
theorem LRun.app {σ σ1 σ2 : List Nat} {a a1 a2 : Nat} {E E2 : List Sym} (h : LRun l T Nx S w σ a E σ1 a1) (h2 : LRun l T Nx S w σ1 a1 E2 σ2 a2) : LRun l T Nx S w σ a (E ++ E2) σ2 a2 := by
  induction h with
  | nil => exact h2
  | shift ha h _ ih => exact .shift ha h (ih h2)
  | reduce h hd hg _ ih => exact .reduce h hd hg (ih h2)
theorem acts_one {q c : Nat} {x : Act} (hc : CalmI l T Nx S) (hq : q < S.length) (hcT : c ≤ T) (h : x ∈ actsI l T (S.getD q []) (Nx.getD q []) c) : actAt l T Nx S q c = x := by
  have := hc q hq c hcT
  unfold actAt
  generalize actsI l T (S.getD q []) (Nx.getD q []) c = A at *
  match A, h, this with
  | [y], h, _ => rw [List.mem_singleton.1 h]; rfl
  | _ :: _ :: _, _, h => simp at h
section
variable (hI : AllI l T N lk S.length Nx S)
include hI
/-- where a state leads to -/
theorem next_ok (hw : ∀ q ∈ l, q.2.length ≤ 8) (hl : l.length ≤ 40) (hT : T ≤ 30) {q k : Nat} {x : Sym} {it : Item} (hq : q < S.length) (hk : (symsI T N)[k]? = some x) (hit : it ∈ S.getD q []) (hx : nextS l it = some x) : ∃ s, s < S.length ∧ (Nx.getD q []).getD k 0 = (s : Int) ∧ advI it ∈ S.getD s [] := by
  have hget : S.getD q [] = S[q] := by rw [List.getD_eq_getElem?_getD, List.getElem?_eq_getElem hq]; rfl
  have hr : ∀ it ∈ S.getD q [], RightI l T it := by rw [hget]; exact hI.ss.right _ (List.getElem_mem hq)
  have hov := over_right (x := x) hr
  have hm : advI it ∈ stepI l T lk (S.getD q []) x := (closed_mem (lk := lk) hw hl hT hov).2 (.base (mem_over.2 ⟨it, hit, hx, rfl⟩))
  rcases hI.cell q hq k x hk with ⟨h1, _⟩ | ⟨_, h2, h3⟩
  · rw [h1] at hm; cases hm
  · have hlt := idx_lt h2
    refine ⟨_, hlt, h3, ?_⟩
    rw [List.getD_eq_getElem?_getD, List.getElem?_eq_getElem hlt, Option.getD_some, idx_get hlt]
    exact hm
theorem shift_act (hw : ∀ q ∈ l, q.2.length ≤ 8) (hl : l.length ≤ 40) (hT : T ≤ 30) (hc : CalmI l T Nx S) {q t : Nat} {it : Item} (hq : q < S.length) (ht : t < T) (hit : it ∈ S.getD q []) (hx : nextS l it = some (1, (t : Int))) : ∃ s, s < S.length ∧ actAt l T Nx S q t = (1, (s : Int)) ∧ advI it ∈ S.getD s [] := by
  obtain ⟨s, h1, h2, h3⟩ := next_ok hI hw hl hT hq (syms_term ht) hit hx
  refine ⟨s, h1, acts_one hc hq (by omega) ?_, h3⟩
  unfold actsI
  rw [h2, if_pos ⟨ht, by omega⟩]
  exact List.mem_append_left _ (List.mem_singleton.2 rfl)
theorem goto_ok (hw : ∀ q ∈ l, q.2.length ≤ 8) (hl : l.length ≤ 40) (hT : T ≤ 30) {q : Nat} {n : Int} {it : Item} (hq : q < S.length) (hn : 0 ≤ n ∧ n < (N : Int)) (hit : it ∈ S.getD q []) (hx : nextS l it = some (2, n)) : ∃ s, s < S.length ∧ goTo T Nx q n = (s : Int) ∧ advI it ∈ S.getD s [] := by
  obtain ⟨k, rfl⟩ := Int.eq_ofNat_of_zero_le hn.1
  exact next_ok hI hw hl hT hq (syms_non (by omega)) hit hx
omit hI in
theorem reduce_act (hc : CalmI l T Nx S) {q c : Nat} {it : Item} (hq : q < S.length) (hcT : c ≤ T) (hit : it ∈ S.getD q []) (h1 : it.1 < (l.length : Int)) (h2 : it.2.1 = ((prodAt l it.1).2.length : Int)) (h3 : it.2.2 = (c : Int)) : actAt l T Nx S q c = (2, it.1) := by
  refine acts_one hc hq hcT (List.mem_append_right _ (List.mem_filterMap.2 ⟨it, hit, ?_⟩))
  unfold actOf
  rw [if_neg (by simpa using h3), if_neg (by omega), if_pos ⟨h1, h2⟩]
omit hI in
theorem accept_act (hc : CalmI l T Nx S) {q : Nat} (hq : q < S.length) (hit : (((l.length : Int), 1, (T : Int)) : Item) ∈ S.getD q []) : actAt l T Nx S q T = (3, 0) := by
  refine acts_one hc hq (Nat.le_refl _) (List.mem_append_right _ (List.mem_filterMap.2 ⟨_, hit, ?_⟩))
  unfold actOf
  rw [if_neg (by simp), if_pos ⟨rfl, rfl⟩]
theorem shut_mem {q : Nat} {it x : Item} (hq : q < S.length) (hit : it ∈ S.getD q []) (hx : ExpI l T lk it x) : x ∈ S.getD q [] := by
  have hget : S.getD q [] = S[q] := by rw [List.getD_eq_getElem?_getD, List.getElem?_eq_getElem hq]; rfl
  rw [hget] at hit ⊢
  exact hI.ss.shut _ (List.getElem_mem hq) it hit x hx
end
theorem looks_bit {it : Item} {k : Nat} (hk : k < 62) (h0 : 0 ≤ it.2.2) : (looksI lk it).testBit k = true ↔ (lk it.1 it.2.1).testBit k = true ∨ ((lk it.1 it.2.1).testBit 62 = true ∧ it.2.2 = (k : Int)) := by
  unfold looksI
  by_cases c : (lk it.1 it.2.1).testBit 62 = true
  · rw [if_pos c, Nat.testBit_or, Nat.testBit_xor, Nat.testBit_two_pow, Nat.testBit_two_pow, Bool.or_eq_true, decide_eq_true_eq]
    have : decide (62 = k) = false := decide_eq_false (by omega)
    rw [this, Bool.xor_false]
    constructor
    · rintro (h | h)
      · exact .inl h
      · exact .inr ⟨c, by omega⟩
    · rintro (h | ⟨_, h⟩)
      · exact .inl h
      · exact .inr (by omega)
  · rw [if_neg c]
    exact ⟨.inl, fun h => h.elim id fun h => absurd h.1 c⟩
/-- nothing there: what stands behind comes -/
theorem begin_behind {E : List Bool} {F : List Nat} {behind z : Nat} (hz : behind.testBit z = true) : ∀ (b : List Sym) (out : Nat), (∀ x ∈ b, x.1 = 1 ∨ x.1 = 2) → allF E b false = true → (beginGo E F behind b out).testBit z = true
  | [], out, _, _ => by
    show (out ||| behind).testBit z = true
    rw [Nat.testBit_or, hz, Bool.or_true]
  | x :: r, out, hx, h => by
    unfold allF at h
    rw [List.all_cons, Bool.and_eq_true] at h
    have h1 : ¬ x.1 = 1 := fun e => by rw [if_pos e] at h; cases h.1
    have h2 := (hx x (List.mem_cons_self ..)).resolve_left h1
    have h3 := h.1
    rw [if_neg h1, if_pos h2] at h3
    rw [beginGo, if_neg h1, if_pos h3]
    exact begin_behind hz r _ (fun y hy => hx y (List.mem_cons_of_mem _ hy)) h.2
section
variable {E R M : List Bool} {F W : List Nat} {n : Nat}
/-- what the looks behind a dot have: the token that comes behind a tree -/
theorem looks_has (hC : ClosedF l E F W R M) (hs : SymsOk n l) (hlk : ∀ p d : Int, 0 ≤ p → p ≤ (l.length : Int) → 0 ≤ d → lk p d = beginF E F ((bodyI l p).drop (d.toNat + 1)) (2 ^ 62)) (hT : T ≤ 30) (hwd : ∀ x ∈ w, 0 ≤ x ∧ x < (T : Int))
    {it : Item} (hr : RightI l T it) {ks : List Tree} {b : List Sym} {u a : Nat} (hb : (bodyI l it.1).drop (it.2.1.toNat + 1) = b) (hbs : ∀ x ∈ b, x.1 = 1 ∨ x.1 = 2) (hk : Rights l ks b u) (hy : ∃ r, w.drop a = yields l ks b ++ r) (ha : a + leavess ks ≤ w.length) (hcol : it.2.2 = (colAt T w (a + leavess ks) : Int)) :
    (looksI lk it).testBit (colAt T w a) = true := by
  have hcT : colAt T w a ≤ T := by
    unfold colAt
    split
    · rename_i h
      rw [List.getD_eq_getElem?_getD, List.getElem?_eq_getElem h, Option.getD_some]
      have := hwd w[a] (List.getElem_mem h)
      omega
    · exact Nat.le_refl _
  rw [looks_bit (by omega) hr.2.2.2.2.1, hlk it.1 it.2.1 hr.1 hr.2.1 hr.2.2.1, hb]
  by_cases c : leavess ks = 0
  · right
    refine ⟨begin_behind (by rw [Nat.testBit_two_pow]; rfl) b 0 hbs (empties_of hC hk c), ?_⟩
    rw [hcol, c, Nat.add_zero]
  · left
    have h := begin_has hC hk hy (2 ^ 62) 0 (fun h => absurd h c)
    have e : bitAt w a = colAt T w a := by
      unfold bitAt colAt
      rw [if_pos (by omega), if_pos (by omega)]
    rwa [e] at h
theorem body_syms (hs : SymsOk n l) (hn : 0 < n) {p : Int} : ∀ x ∈ bodyI l p, x.1 = 1 ∨ (x.1 = 2 ∧ 0 ≤ x.2 ∧ x.2 < (n : Int)) := by
  intro x hx
  unfold bodyI at hx
  split at hx
  · rw [List.mem_singleton.1 hx]; exact .inr ⟨rfl, Int.le_refl _, by show (0 : Int) < n; omega⟩
  · unfold prodAt at hx
    rw [List.getD_eq_getElem?_getD] at hx
    cases e : l[p.toNat]? with
    | none => rw [e] at hx; cases hx
    | some q => rw [e] at hx; exact (hs q (List.mem_of_getElem? e)).2.2 x hx
end
end
end Go.Proofs.Ytlojfbnimmdehaa.itemL

/- SymS -/
namespace Go.Proofs.Ytlojfbnimmdehaa.eng
open Go.RowKit kit mix gramL
theorem SymS_len (a : Sym) : (symC a).length = 2 := rfl
set_option maxHeartbeats 2000000 in
theorem indexFuncSymS_calls (v : Value) (l : List Sym) (w : World) (hs : Sl w v l.length (l.flatMap symC)) (fid : FuncId) (first cp : Array Value) (p : Sym → Bool) (hen : Enters Try.prog fid)
    (hp : ∀ a ∈ l, ∀ w', Gr w w' → Calls Try.prog fid (first ++ #[(.agg (symC a).toArray)] ++ cp) w' (Meets (ret (.bool (p a))) w')) :
    Calls Try.prog 109 #[v, .func (.func fid) first cp] w (Meets (ret (.int .i64 (idxF p l))) w) := by
  obtain ⟨base, cap, rfl, hcap, hmax, hrd⟩ := hs
  unfold maxLen at hmax
  refine enter (args := [.slice base l.length cap, .func (.func fid) first cp]) (n := 19) Try.func109 rfl rfl rfl ?_
  repeat(first|refine QV QP ?_|refine QZ ?_|refine qcT rfl ?_|refine qcF rfl ?_|refine E_blockX ?_|refine E_blockO rfl ?_|refine QV QL ?_|refine QV QlT ?_|refine QV QlF ?_|refine QV QaA ?_)
  refine T_loop (ι := Nat) (fun k => k ≤ l.length ∧ ∀ j (hj : j < l.length), j < k → p l[j] = false) (fun k => [(0, .slice base l.length cap), (1, .func (.func fid) first cp), (7, .int .i64 l.length), (8, .int .i64 (k : Int))]) (fun _ => []) (fun k => l.length - k) 0 ⟨by omega, fun j hj h => by omega⟩ (by repeat' (first | exact True.intro | refine And.intro rfl ?_)) rfl ?_
  rintro k ⟨h1, h2⟩
  by_cases c2 : k < l.length
  · obtain ⟨b, off, rfl, hr⟩ := hrd (by omega)
    have hat := at_el (L := ([] : List Own)) SymS_len hr c2
    have hcl := hp l[k] (List.getElem_mem c2)
    by_cases c3 : p l[k] = true
    · rw [idxF_some c2 c3 h2]
      rw [c3] at hcl
      clear hp h2 hrd
      repeat(first|refine QV QP ?_|refine QZ ?_|refine qcT rfl ?_|refine qcF rfl ?_|refine E_blockX ?_|refine E_blockO rfl ?_|refine QV (rr_idxc Und.eq TyC.ty rfl rfl c2) ?_|refine QV (rr_loadN TyC.ty rfl rfl hat) ?_|refine QV QL ?_|refine QV QlT ?_|refine QV QlF ?_|refine QV QaA ?_)
      refine TL_call (he1c hen rfl rfl) (fun w hm => hcl w hm.below) rfl rfl rfl ?_
      intro _ _
      repeat(first|refine QV QP ?_|refine QZ ?_|refine qcT rfl ?_|refine qcF rfl ?_|refine E_blockX ?_|refine E_blockO rfl ?_|refine QV QL ?_|refine QV QlT ?_|refine QV QlF ?_|refine QV QaA ?_)
      exact E_ret1 rfl rfl fun w hm => hm.ret
    · have c3' : p l[k] = false := by simpa using c3
      rw [c3'] at hcl
      clear hp hrd c3
      repeat(first|refine QV QP ?_|refine QZ ?_|refine qcT rfl ?_|refine qcF rfl ?_|refine E_blockX ?_|refine E_blockO rfl ?_|refine QV (rr_idxc Und.eq TyC.ty rfl rfl c2) ?_|refine QV (rr_loadN TyC.ty rfl rfl hat) ?_|refine QV QL ?_|refine QV QlT ?_|refine QV QlF ?_|refine QV QaA ?_)
      refine TL_call (he1c hen rfl rfl) (fun w hm => hcl w hm.below) rfl rfl rfl ?_
      intro _ _
      repeat(first|refine QV QP ?_|refine QZ ?_|refine qcT rfl ?_|refine qcF rfl ?_|refine E_blockX ?_|refine E_blockO rfl ?_|refine QV QL ?_|refine QV QlT ?_|refine QV QlF ?_|refine QV QaA ?_)
      exact E_round (k + 1) ⟨by omega, fun j hj h => if e : j < k then h2 j hj e else (by obtain rfl : j = k := (by omega); exact c3')⟩ (by show l.length - (k + 1) < l.length - k; omega) (by repeat' (first | exact True.intro | refine And.intro rfl ?_)) rfl
  · rw [idxF_none fun j hj => h2 j hj (by omega)]
    clear hp h2 hrd
    repeat(first|refine QV QP ?_|refine QZ ?_|refine qcT rfl ?_|refine qcF rfl ?_|refine E_blockX ?_|refine E_blockO rfl ?_|refine QV QL ?_|refine QV QlT ?_|refine QV QlF ?_|refine QV QaA ?_)
    exact E_ret1 rfl rfl fun w hm => hm.ret
theorem containsFuncSymS_calls (v : Value) (l : List Sym) (w : World) (hs : Sl w v l.length (l.flatMap symC)) (fid : FuncId) (first cp : Array Value) (p : Sym → Bool) (hen : Enters Try.prog fid)
    (hp : ∀ a ∈ l, ∀ w', Gr w w' → Calls Try.prog fid (first ++ #[(.agg (symC a).toArray)] ++ cp) w' (Meets (ret (.bool (p a))) w')) :
    Calls Try.prog 69 #[v, .func (.func fid) first cp] w (Meets (ret (.bool (l.any p))) w) := by
  refine enter (args := [v, .func (.func fid) first cp]) (n := 9) Try.func69 rfl rfl rfl ?_
  have hh := fun w' (hg : Gr w w') => indexFuncSymS_calls v l w' (hs.gr hg) fid first cp p hen fun a ha w'' hg' => hp a ha w'' (hg.trans hg')
  have hr := idxF_range p l
  rw [← idxF_any p l]
  generalize idxF p l = r at *
  repeat(first|refine QV QP ?_|refine QZ ?_|refine QV QhT ?_|refine QV QhF ?_)
  refine TL_call (he2 EntersC.en rfl rfl rfl) (fun w hm => hh _ hm.below) rfl rfl rfl ?_
  intro _ _
  repeat(first|refine QV QP ?_|refine QZ ?_|refine QV (rr_geq rfl rfl rfl) ?_|refine QV QhT ?_|refine QV QhF ?_)
  exact E_ret1 rfl rfl fun w hm => hm.ret
end Go.Proofs.Ytlojfbnimmdehaa.eng

/- Gram -/
namespace Go.Proofs.Ytlojfbnimmdehaa.eng
open Go.RowKit kit mix gramL
theorem right_calls (t n : Int) (vp : Value) (x : Sym) (w : World) : Calls Try.prog 71 #[graV t n vp, .agg (symC x).toArray] w (Meets (ret (.bool (right t n x))) w) := by
  obtain ⟨k, q⟩ := x
  refine enter (args := [graV t n vp, .agg (symC (k, q)).toArray]) (n := 31) Try.func71 rfl rfl rfl ?_
  refine T_seq (T_region (TL_box rfl rfl rfl fun g0 => TL_box rfl rfl rfl fun g1 => ?_))
  repeat' (first
    | refine QV QP ?_
    | refine QZ ?_
    | refine qcT rfl ?_
    | refine qcF rfl ?_
    | refine qs rfl rfl rfl rfl rfl rfl ?_
    | (((try refine qg rfl rfl rfl ?_); first | refine QV QP ?_ | refine QV (rr_load1 TyC.ty rfl (at_blk (i := 0) rfl rfl)) ?_ | refine QV (rr_load1 TyC.ty rfl (at_blk (i := 1) rfl rfl)) ?_ | refine QV QA ?_ | refine QV QhT ?_ | refine QV QhF ?_ | refine QV QeT ?_ | refine QV QeF ?_ | refine QV QlT ?_ | refine QV QlF ?_))
    | refine TL_gsplitv (rr_lss rfl rfl rfl) rfl rfl rfl rfl rfl (fun h => ?_) (fun h => ?_)
    | refine TL_split (rr_geq rfl rfl rfl) rfl rfl rfl (fun h => ?_) (fun h => ?_)
    | refine TL_split (rr_eql rfl rfl rfl) rfl rfl rfl (fun h => ?_) (fun h => ?_)
    | ((fail_if_success (refine T_condT rfl ?_)); (fail_if_success (refine T_condF rfl ?_)); refine T_condS rfl (fun h => ?_) (fun h => ?_))
    | ((fail_if_success (refine TL_isT rfl rfl rfl ?_)); (fail_if_success (refine TL_isF rfl rfl rfl ?_)); refine TL_gsplit rfl rfl rfl (fun h => ?_) (fun h => ?_)))
  all_goals (refine E_ret1e rfl rfl ?_; congr 1; unfold right; dsimp only at *; repeat (first | rw [if_pos (by omega)] | rw [if_neg (by omega)] | rw [decide_eq_true (by assumption)] | rw [decide_eq_false (by assumption)]); try rfl)
/-- Check's own question -/
theorem check1_calls (t n : Int) (vp : Value) (x : Sym) (g : Nat) (w : World) (hg : w.heap[g]? = some (.cells (graV t n vp).cells 24 (0, 0))) :
    Calls Try.prog 70 #[.agg (symC x).toArray, .pointer (some ⟨g, 0, none⟩)] w (Meets (ret (.bool (!right t n x))) w) := by
  have hcell : ∀ (L : List Own) (j : Nat) (v : Value), ([.int .i64 t, .int .i64 n, vp] : List Value)[j]? = some v → At w L ⟨g, 0 + j, none⟩ v := fun L j v hj => at_old (by
    rw [cell_of_row w g (0 + j) _ _ _ hg, Nat.zero_add]
    show (#[.int .i64 t, .int .i64 n, vp] : Array Value)[j]? = some v
    simpa using hj)
  have hr := right_calls t n vp x
  refine enter (args := [.agg (symC x).toArray, .pointer (some ⟨g, 0, none⟩)]) (n := 8) Try.func70 rfl rfl rfl ?_
  refine T_seq (T_region (TL_box rfl rfl rfl fun g0 => ?_))
  repeat(first|refine QV QP ?_|refine QZ ?_|refine QV (rr_loadN TyC.ty rfl rfl (hcell _)) ?_|refine QV (rr_loadB (i := 0) TyC.ty rfl rfl rfl) ?_|refine QV (rr_not rfl rfl) ?_)
  refine TL_call (he2 EntersC.en rfl rfl rfl) (fun w hm => hr w) rfl rfl rfl ?_
  intro _ _
  repeat(first|refine QV QP ?_|refine QZ ?_|refine QV (rr_not rfl rfl) ?_)
  exact E_ret1 rfl rfl fun w hm => hm.ret
theorem prodsE_drop {t n : Int} {l : List gramL.Prod} {k : Nat} (h : k < l.length) (h0 : prodE t n l[k] = 0) : prodsE t n (l.drop k) = prodsE t n (l.drop (k + 1)) := by
  rw [List.drop_eq_getElem_cons h, prodsE, if_neg (by simp [h0])]
theorem prodsE_stop {t n : Int} {l : List gramL.Prod} {k : Nat} (h : k < l.length) (h0 : prodE t n l[k] ≠ 0) : prodsE t n (l.drop k) = prodE t n l[k] := by
  rw [List.drop_eq_getElem_cons h, prodsE, if_pos h0]
set_option maxHeartbeats 2000000 in
theorem checkG_calls (v : Value) (g : Gram) (w : World) (h : GraR (fun k => k < w.heap.size) w v g) :
    Calls Try.prog 36 #[v] w (Meets (ret (.int .i64 (checkG g))) w) := by
  obtain ⟨vp, rfl, h1, _⟩ := h
  obtain ⟨bp, cp, rfl, hcp, hmp, hrp⟩ := h1
  unfold maxLen at hmp
  obtain ⟨t, n, prods⟩ := g
  dsimp only at *
  refine enter (args := [graV t n (.slice bp prods.length cp)]) (n := 57) Try.func36 rfl rfl rfl ?_
  refine T_seq (T_region (TL_box rfl rfl rfl fun g0 => ?_))
  unfold checkG
  dsimp only
  by_cases c1 : t < 0
  · rw [if_pos c1]
    repeat(first|refine QV QP ?_|refine QZ ?_|refine qcT rfl ?_|refine qcF rfl ?_|refine E_blockX ?_|refine E_blockO rfl ?_|refine qs rfl rfl rfl rfl rfl rfl ?_|((try refine qg rfl rfl rfl ?_);first|refine QV QP ?_|refine QV (rr_load1 TyC.ty rfl (at_blk (i := 0) rfl rfl)) ?_|refine QV QL ?_|refine QV QA ?_|refine QV QlT ?_|refine QV QlF ?_|refine QV QgT ?_|refine QV QgF ?_|refine QV QaA ?_|refine QV QhT ?_|refine QV QhF ?_))
    exact E_ret1 rfl rfl fun w hm => hm.ret
  rw [if_neg c1]
  by_cases c2 : 30 < t
  · rw [if_pos c2]
    repeat(first|refine QV QP ?_|refine QZ ?_|refine qcT rfl ?_|refine qcF rfl ?_|refine E_blockX ?_|refine E_blockO rfl ?_|refine qs rfl rfl rfl rfl rfl rfl ?_|((try refine qg rfl rfl rfl ?_);first|refine QV QP ?_|refine QV (rr_load1 TyC.ty rfl (at_blk (i := 0) rfl rfl)) ?_|refine QV QL ?_|refine QV QA ?_|refine QV QlT ?_|refine QV QlF ?_|refine QV QgT ?_|refine QV QgF ?_|refine QV QaA ?_|refine QV QhT ?_|refine QV QhF ?_))
    exact E_ret1 rfl rfl fun w hm => hm.ret
  rw [if_neg c2]
  by_cases c3 : n < 1
  · rw [if_pos c3]
    repeat(first|refine QV QP ?_|refine QZ ?_|refine qcT rfl ?_|refine qcF rfl ?_|refine E_blockX ?_|refine E_blockO rfl ?_|refine qs rfl rfl rfl rfl rfl rfl ?_|((try refine qg rfl rfl rfl ?_);first|refine QV QP ?_|refine QV (rr_load1 TyC.ty rfl (at_blk (i := 0) rfl rfl)) ?_|refine QV QL ?_|refine QV QA ?_|refine QV QlT ?_|refine QV QlF ?_|refine QV QgT ?_|refine QV QgF ?_|refine QV QaA ?_|refine QV QhT ?_|refine QV QhF ?_))
    exact E_ret1 rfl rfl fun w hm => hm.ret
  rw [if_neg c3]
  by_cases c4 : 20 < n
  · rw [if_pos c4]
    repeat(first|refine QV QP ?_|refine QZ ?_|refine qcT rfl ?_|refine qcF rfl ?_|refine E_blockX ?_|refine E_blockO rfl ?_|refine qs rfl rfl rfl rfl rfl rfl ?_|((try refine qg rfl rfl rfl ?_);first|refine QV QP ?_|refine QV (rr_load1 TyC.ty rfl (at_blk (i := 0) rfl rfl)) ?_|refine QV QL ?_|refine QV QA ?_|refine QV QlT ?_|refine QV QlF ?_|refine QV QgT ?_|refine QV QgF ?_|refine QV QaA ?_|refine QV QhT ?_|refine QV QhF ?_))
    exact E_ret1 rfl rfl fun w hm => hm.ret
  rw [if_neg c4]
  by_cases c5 : 40 < prods.length
  · rw [if_pos c5]
    repeat(first|refine QV QP ?_|refine QZ ?_|refine qcT rfl ?_|refine qcF rfl ?_|refine E_blockX ?_|refine E_blockO rfl ?_|refine qs rfl rfl rfl rfl rfl rfl ?_|((try refine qg rfl rfl rfl ?_);first|refine QV QP ?_|refine QV (rr_load1 TyC.ty rfl (at_blk (i := 0) rfl rfl)) ?_|refine QV QL ?_|refine QV QA ?_|refine QV QlT ?_|refine QV QlF ?_|refine QV QgT ?_|refine QV QgF ?_|refine QV QaA ?_|refine QV QhT ?_|refine QV QhF ?_))
    exact E_ret1 rfl rfl fun w hm => hm.ret
  rw [if_neg c5]
  repeat(first|refine QV QP ?_|refine QZ ?_|refine qcT rfl ?_|refine qcF rfl ?_|refine E_blockX ?_|refine E_blockO rfl ?_|refine qs rfl rfl rfl rfl rfl rfl ?_|((try refine qg rfl rfl rfl ?_);first|refine QV QP ?_|refine QV (rr_load1 TyC.ty rfl (at_blk (i := 0) rfl rfl)) ?_|refine QV QL ?_|refine QV QA ?_|refine QV QlT ?_|refine QV QlF ?_|refine QV QgT ?_|refine QV QgF ?_|refine QV QaA ?_|refine QV QhT ?_|refine QV QhF ?_))
  refine T_loop (ι := Nat) (fun k => k ≤ prods.length ∧ prodsE t n prods = prodsE t n (prods.drop k)) (fun k => [(1, .pointer (some ⟨g0, 0, none⟩)), (30, .slice bp prods.length cp), (31, .int .i64 prods.length), (32, .int .i64 (k : Int))]) (fun _ => [blkO g0 (graV t n (.slice bp prods.length cp)).cells 24]) (fun k => prods.length - k) 0 ⟨Nat.zero_le _, rfl⟩ (by repeat' (first | exact True.intro | refine And.intro rfl ?_)) rfl ?_
  rintro k ⟨i1, i2⟩
  rw [i2]
  clear i2
  by_cases c6 : k < prods.length
  · obtain ⟨b, off, rfl, _, hr⟩ := hrp (by omega)
    obtain ⟨bb, cb, q1, q2, q3⟩ := prod_at hr c6
    have hstop := prodsE_stop (t := t) (n := n) c6
    have hdrop := prodsE_drop (t := t) (n := n) c6
    have hat : ∀ (L : List Own) (j : Nat) (v : Value), ([.int .i64 prods[k].1, .slice bb prods[k].2.length cb] : List Value)[j]? = some v → At w L ⟨b, off + k * 2 + j, none⟩ v := fun L j v hj => at_rd q1 hj
    clear hr hrp q1
    generalize prods[k] = p at *
    obtain ⟨hd, body⟩ := p
    have hco := fun w' (hg : Gr w w') (hb : w'.heap[g0]? = some (.cells (graV t n (.slice (some ⟨b, off, none⟩) prods.length cp)).cells 24 (0, 0))) => containsFuncSymS_calls (.slice bb body.length cb) body w' ((q3.flat (by decide)).gr hg) 70 #[] #[.pointer (some ⟨g0, 0, none⟩)] (fun x => !right t n x) EntersC.en (fun a _ w'' hg' => check1_calls t n _ a g0 w'' (by rw [hg'.block g0 (Array.getElem?_eq_some_iff.1 hb).1]; exact hb))
    dsimp only at *
    repeat(first|refine QV QP ?_|refine QZ ?_|refine qcT rfl ?_|refine qcF rfl ?_|refine E_blockX ?_|refine E_blockO rfl ?_|refine qs rfl rfl rfl rfl rfl rfl ?_|((try refine qg rfl rfl rfl ?_);first|refine QV QP ?_|refine QV (rr_idxc Und.eq TyC.ty rfl rfl c6) ?_|refine QV (rr_loadN TyC.ty rfl rfl (hat _)) ?_|refine QV QL ?_|refine QV QA ?_|refine QV QlT ?_|refine QV QlF ?_|refine QV QgT ?_|refine QV QgF ?_|refine QV QaA ?_|refine QV QhT ?_|refine QV QhF ?_))
    clear hat
    refine TL_new rfl fun g4 => ?_
    refine TL_storeB (i := 1) rfl rfl rfl rfl rfl rfl ?_
    conv=>arg 8;simp only[zA,zB,zC,zD,zE,zF,zG,zH,zI,rowS,ret,id_eq]
    unfold prodE at hstop hdrop
    dsimp only at hstop hdrop
    by_cases c7 : 8 < body.length
    · rw [if_pos c7] at hstop
      rw [hstop (by decide)]
      repeat(first|refine QV QP ?_|refine QZ ?_|refine qcT rfl ?_|refine qcF rfl ?_|refine E_blockX ?_|refine E_blockO rfl ?_|refine qs rfl rfl rfl rfl rfl rfl ?_|((try refine qg rfl rfl rfl ?_);first|refine QV QP ?_|refine QV (rr_load1 TyC.ty rfl (at_blk (i := 1) rfl rfl)) ?_|refine QV QL ?_|refine QV QA ?_|refine QV QlT ?_|refine QV QlF ?_|refine QV QgT ?_|refine QV QgF ?_|refine QV QaA ?_|refine QV QhT ?_|refine QV QhF ?_))
      exact E_ret1 rfl rfl fun w hm => hm.ret
    rw [if_neg c7] at hstop hdrop
    by_cases c8 : hd < 0
    · rw [if_pos c8] at hstop
      rw [hstop (by decide)]
      repeat(first|refine QV QP ?_|refine QZ ?_|refine qcT rfl ?_|refine qcF rfl ?_|refine E_blockX ?_|refine E_blockO rfl ?_|refine qs rfl rfl rfl rfl rfl rfl ?_|((try refine qg rfl rfl rfl ?_);first|refine QV QP ?_|refine QV (rr_load1 TyC.ty rfl (at_blk (i := 1) rfl rfl)) ?_|refine QV QL ?_|refine QV QA ?_|refine QV QlT ?_|refine QV QlF ?_|refine QV QgT ?_|refine QV QgF ?_|refine QV QaA ?_|refine QV QhT ?_|refine QV QhF ?_))
      exact E_ret1 rfl rfl fun w hm => hm.ret
    rw [if_neg c8] at hstop hdrop
    by_cases c9 : n ≤ hd
    · rw [if_pos c9] at hstop
      rw [hstop (by decide)]
      repeat(first|refine QV QP ?_|refine QZ ?_|refine qcT rfl ?_|refine qcF rfl ?_|refine E_blockX ?_|refine E_blockO rfl ?_|refine qs rfl rfl rfl rfl rfl rfl ?_|((try refine qg rfl rfl rfl ?_);first|refine QV QP ?_|refine QV (rr_load1 TyC.ty rfl (at_blk (i := 1) rfl rfl)) ?_|refine QV (rr_load1 TyC.ty rfl (at_blk (i := 0) rfl rfl)) ?_|refine QV QL ?_|refine QV QA ?_|refine QV QlT ?_|refine QV QlF ?_|refine QV QgT ?_|refine QV QgF ?_|refine QV QaA ?_|refine QV QhT ?_|refine QV QhF ?_))
      exact E_ret1 rfl rfl fun w hm => hm.ret
    rw [if_neg c9] at hstop hdrop
    by_cases c10 : body.any (fun x => !right t n x) = true
    · rw [if_pos c10] at hstop
      rw [hstop (by decide)]
      rw [c10] at hco
      repeat(first|refine QV QP ?_|refine QZ ?_|refine qcT rfl ?_|refine qcF rfl ?_|refine E_blockX ?_|refine E_blockO rfl ?_|refine qs rfl rfl rfl rfl rfl rfl ?_|((try refine qg rfl rfl rfl ?_);first|refine QV QP ?_|refine QV (rr_load1 TyC.ty rfl (at_blk (i := 1) rfl rfl)) ?_|refine QV (rr_load1 TyC.ty rfl (at_blk (i := 0) rfl rfl)) ?_|refine QV QL ?_|refine QV QA ?_|refine QV QlT ?_|refine QV QlF ?_|refine QV QgT ?_|refine QV QgF ?_|refine QV QaA ?_|refine QV (rr_func rfl rfl) ?_|refine QV QhT ?_|refine QV QhF ?_))
      refine TL_gcall (he2 EntersC.en rfl rfl rfl) (fun w hm => hco _ hm.below (hm.get (i := 0) rfl)) rfl rfl rfl rfl rfl ?_
      intro _ _
      repeat(first|refine QV QP ?_|refine QZ ?_|refine qcT rfl ?_|refine qcF rfl ?_|refine E_blockX ?_|refine E_blockO rfl ?_|refine qs rfl rfl rfl rfl rfl rfl ?_|((try refine qg rfl rfl rfl ?_);first|refine QV QP ?_|refine QV QL ?_|refine QV QA ?_|refine QV QlT ?_|refine QV QlF ?_|refine QV QgT ?_|refine QV QgF ?_|refine QV QaA ?_|refine QV QhT ?_|refine QV QhF ?_))
      exact E_ret1 rfl rfl fun w hm => hm.ret
    · have c10' : body.any (fun x => !right t n x) = false := by simpa using c10
      rw [if_neg c10] at hdrop
      rw [c10'] at hco
      repeat(first|refine QV QP ?_|refine QZ ?_|refine qcT rfl ?_|refine qcF rfl ?_|refine E_blockX ?_|refine E_blockO rfl ?_|refine qs rfl rfl rfl rfl rfl rfl ?_|((try refine qg rfl rfl rfl ?_);first|refine QV QP ?_|refine QV (rr_load1 TyC.ty rfl (at_blk (i := 1) rfl rfl)) ?_|refine QV (rr_load1 TyC.ty rfl (at_blk (i := 0) rfl rfl)) ?_|refine QV QL ?_|refine QV QA ?_|refine QV QlT ?_|refine QV QlF ?_|refine QV QgT ?_|refine QV QgF ?_|refine QV QaA ?_|refine QV (rr_func rfl rfl) ?_|refine QV QhT ?_|refine QV QhF ?_))
      refine TL_gcall (he2 EntersC.en rfl rfl rfl) (fun w hm => hco _ hm.below (hm.get (i := 0) rfl)) rfl rfl rfl rfl rfl ?_
      intro _ _
      repeat(first|refine QV QP ?_|refine QZ ?_|refine qcT rfl ?_|refine qcF rfl ?_|refine E_blockX ?_|refine E_blockO rfl ?_|refine qs rfl rfl rfl rfl rfl rfl ?_|((try refine qg rfl rfl rfl ?_);first|refine QV QP ?_|refine QV QL ?_|refine QV QA ?_|refine QV QlT ?_|refine QV QlF ?_|refine QV QgT ?_|refine QV QgF ?_|refine QV QaA ?_|refine QV QhT ?_|refine QV QhF ?_))
      refine E_pick [0] (by decide) rfl ?_
      exact E_round (k + 1) ⟨by omega, hdrop rfl⟩ (by show prods.length - (k + 1) < prods.length - k; omega) (by repeat' (first | exact True.intro | refine And.intro rfl ?_)) rfl
  · rw [List.drop_of_length_le (by omega)]
    repeat(first|refine QV QP ?_|refine QZ ?_|refine qcT rfl ?_|refine qcF rfl ?_|refine E_blockX ?_|refine E_blockO rfl ?_|refine qs rfl rfl rfl rfl rfl rfl ?_|((try refine qg rfl rfl rfl ?_);first|refine QV QP ?_|refine QV QL ?_|refine QV QA ?_|refine QV QlT ?_|refine QV QlF ?_|refine QV QgT ?_|refine QV QgF ?_|refine QV QaA ?_|refine QV QhT ?_|refine QV QhF ?_))
    exact E_ret1 rfl rfl fun w hm => hm.ret
end Go.Proofs.Ytlojfbnimmdehaa.eng

/- FactsA -/
namespace Go.Proofs.Ytlojfbnimmdehaa.eng
open Go.RowKit kit mix gramL factsL
def bitV (n : Nat) : Value := .int .u64 (n : Int)
theorem bool_at {l : List Bool} {i : Nat} (hi : i < l.length) : (l.map Value.bool)[i]? = some (.bool (l.getD i false)) := by
  simp [hi]
theorem bit_at {l : List Nat} {i : Nat} (hi : i < l.length) : (l.map bitV)[i]? = some (bitV (l.getD i 0)) := by
  simp [hi]
set_option maxHeartbeats 1000000 in
theorem mark_calls (g cap : Nat) (l : List Bool) (i : Nat) (b : Bool) (w : World) (B : Base) (hi : i < l.length) (hm : Mem B [rowO 4 1 (.slice (some ⟨g, 0, none⟩) l.length cap) l.length (l.map .bool)] w) :
    Calls Try.prog 73 #[.slice (some ⟨g, 0, none⟩) l.length cap, .int .i64 (i : Int), .bool b] w (MeetsB ⟨fun (_ : Unit) => True, fun _ => .bool (markF l i b).2, fun _ => [rowO 4 1 (.slice (some ⟨g, 0, none⟩) l.length cap) l.length ((markF l i b).1.map .bool)]⟩ B) := by
  have hb := bool_at hi
  refine enterB hm (args := [.slice (some ⟨g, 0, none⟩) l.length cap, .int .i64 (i : Int), .bool b]) (n := 18) Try.func73 rfl rfl rfl ?_
  unfold markF
  cases b
  · rw [if_neg (by simp)]
    repeat(first|refine QV QP ?_|refine QZ ?_|refine qcT rfl ?_|refine qcF rfl ?_|refine qs rfl rfl rfl rfl rfl rfl ?_|((try refine qg rfl rfl rfl ?_);first|refine QV QP ?_|refine QV (rr_not rfl rfl) ?_))
    exact E_ret1 rfl rfl fun w hm => hm.meetsB (S := ⟨fun (_ : Unit) => True, fun _ => .bool false, fun _ => [rowO 4 1 (.slice (some ⟨g, 0, none⟩) l.length cap) l.length (l.map .bool)]⟩) () trivial [0] (by decide) rfl
  · generalize hx : l.getD i false = x at *
    cases x
    · rw [if_pos ⟨rfl, rfl⟩]
      repeat(first|refine QV QP ?_|refine QZ ?_|refine qcT rfl ?_|refine qcF rfl ?_|refine qs rfl rfl rfl rfl rfl rfl ?_|((try refine qg rfl rfl rfl ?_);first|refine QV QP ?_|refine QV (rr_idx1 Und.eq TyC.ty rfl rfl hi) ?_|refine QV (rr_load1 TyC.ty rfl (at_row (i := 0) rfl (by rw [Nat.zero_add]; exact hb))) ?_|refine QV (rr_not rfl rfl) ?_))
      refine TL_storeRow (i := 0) TyC.ty rfl rfl rfl rfl rfl rfl (by simpa using hi) ?_
      repeat(first|refine QV QP ?_|refine QZ ?_|refine qcT rfl ?_|refine qcF rfl ?_|refine qs rfl rfl rfl rfl rfl rfl ?_|((try refine qg rfl rfl rfl ?_);first|refine QV QP ?_|refine QV (rr_not rfl rfl) ?_))
      exact E_ret1 rfl rfl fun w hm => hm.meetsB (S := ⟨fun (_ : Unit) => True, fun _ => .bool true, fun _ => [rowO 4 1 (.slice (some ⟨g, 0, none⟩) l.length cap) l.length ((l.set i true).map .bool)]⟩) () trivial [0] (by decide) (by simp [List.map_set])
    · rw [if_neg (by simp)]
      repeat(first|refine QV QP ?_|refine QZ ?_|refine qcT rfl ?_|refine qcF rfl ?_|refine qs rfl rfl rfl rfl rfl rfl ?_|((try refine qg rfl rfl rfl ?_);first|refine QV QP ?_|refine QV (rr_idx1 Und.eq TyC.ty rfl rfl hi) ?_|refine QV (rr_load1 TyC.ty rfl (at_row (i := 0) rfl (by rw [Nat.zero_add]; exact hb))) ?_|refine QV (rr_not rfl rfl) ?_))
      exact E_ret1 rfl rfl fun w hm => hm.meetsB (S := ⟨fun (_ : Unit) => True, fun _ => .bool false, fun _ => [rowO 4 1 (.slice (some ⟨g, 0, none⟩) l.length cap) l.length (l.map .bool)]⟩) () trivial [0] (by decide) rfl
set_option maxHeartbeats 2000000 in
theorem allB_calls (v vb : Value) (l : List Bool) (body : List Sym) (terms : Bool) (w : World) (hs : Sl w v l.length (l.map .bool)) (hs2 : Sl w vb body.length (body.flatMap symC)) (hok : ∀ x ∈ body, x.1 = 2 → 0 ≤ x.2 ∧ x.2 < l.length) :
    Calls Try.prog 74 #[v, vb, .bool terms] w (Meets (ret (.bool (allF l body terms))) w) := by
  obtain ⟨bv, cv, rfl, h1, h2, h3⟩ := hs
  obtain ⟨bb, cb, rfl, h4, h5, h6⟩ := hs2
  unfold maxLen at h2 h5
  refine enter (args := [.slice bv l.length cv, .slice bb body.length cb, .bool terms]) (n := 36) Try.func74 rfl rfl rfl ?_
  repeat(first|refine QV QP ?_|refine QZ ?_|refine qcT rfl ?_|refine qcF rfl ?_|refine E_blockX ?_|refine E_blockO rfl ?_|refine qs rfl rfl rfl rfl rfl rfl ?_|((try refine qg rfl rfl rfl ?_);first|refine QV QP ?_|refine QV QL ?_|refine QV QA ?_|refine QV QlT ?_|refine QV QlF ?_|refine QV QeT ?_|refine QV QeF ?_|refine QV QaA ?_|refine QV (rr_not rfl rfl) ?_))
  refine T_loop (ι := Nat) (fun k => k ≤ body.length ∧ allF l body terms = allF l (body.drop k) terms) (fun k => [(0, .slice bv l.length cv), (2, .bool terms), (9, .slice bb body.length cb), (10, .int .i64 body.length), (11, .int .i64 (k : Int))]) (fun _ => []) (fun k => body.length - k) 0 ⟨Nat.zero_le _, rfl⟩ (by repeat' (first | exact True.intro | refine And.intro rfl ?_)) rfl ?_
  rintro k ⟨i1, i2⟩
  rw [i2]
  clear i2
  by_cases c6 : k < body.length
  · obtain ⟨b, off, rfl, hr⟩ := h6 (by omega)
    have hat := at_el (L := ([] : List Own)) SymS_len hr c6
    have hokx := hok body[k] (List.getElem_mem c6)
    have hd : allF l (body.drop k) terms = ((if body[k].1 = 1 then terms else if body[k].1 = 2 then l.getD body[k].2.toNat false else true) && allF l (body.drop (k + 1)) terms) := by
      rw [List.drop_eq_getElem_cons c6]; rfl
    rw [hd]
    clear hd h6 hok hr
    generalize body[k] = x at *
    obtain ⟨q, m⟩ := x
    dsimp only at *
    by_cases c1 : q = 1
    · rw [if_pos c1]
      cases terms
      · repeat(first|refine QV QP ?_|refine QZ ?_|refine qcT rfl ?_|refine qcF rfl ?_|refine E_blockX ?_|refine E_blockO rfl ?_|refine qs rfl rfl rfl rfl rfl rfl ?_|((try refine qg rfl rfl rfl ?_);first|refine QV QP ?_|refine QV (rr_idxc Und.eq TyC.ty rfl rfl c6) ?_|refine QV (rr_loadN TyC.ty rfl rfl hat) ?_|refine QV QL ?_|refine QV QA ?_|refine QV QlT ?_|refine QV QlF ?_|refine QV QeT ?_|refine QV QeF ?_|refine QV QaA ?_|refine QV (rr_not rfl rfl) ?_))
        refine TL_new rfl fun g8 => ?_
        refine TL_storeB (i := 0) rfl rfl rfl rfl rfl rfl ?_
        repeat(first|refine QV QP ?_|refine QZ ?_|refine qcT rfl ?_|refine qcF rfl ?_|refine E_blockX ?_|refine E_blockO rfl ?_|refine qs rfl rfl rfl rfl rfl rfl ?_|((try refine qg rfl rfl rfl ?_);first|refine QV QP ?_|refine QV (rr_load1 TyC.ty rfl (at_blk (i := 0) rfl rfl)) ?_|refine QV QL ?_|refine QV QA ?_|refine QV QlT ?_|refine QV QlF ?_|refine QV QeT ?_|refine QV QeF ?_|refine QV QaA ?_|refine QV (rr_not rfl rfl) ?_))
        exact E_ret1 rfl rfl fun w hm => hm.ret
      · repeat(first|refine QV QP ?_|refine QZ ?_|refine qcT rfl ?_|refine qcF rfl ?_|refine E_blockX ?_|refine E_blockO rfl ?_|refine qs rfl rfl rfl rfl rfl rfl ?_|((try refine qg rfl rfl rfl ?_);first|refine QV QP ?_|refine QV (rr_idxc Und.eq TyC.ty rfl rfl c6) ?_|refine QV (rr_loadN TyC.ty rfl rfl hat) ?_|refine QV QL ?_|refine QV QA ?_|refine QV QlT ?_|refine QV QlF ?_|refine QV QeT ?_|refine QV QeF ?_|refine QV QaA ?_|refine QV (rr_not rfl rfl) ?_))
        refine TL_new rfl fun g8 => ?_
        refine TL_storeB (i := 0) rfl rfl rfl rfl rfl rfl ?_
        repeat(first|refine QV QP ?_|refine QZ ?_|refine qcT rfl ?_|refine qcF rfl ?_|refine E_blockX ?_|refine E_blockO rfl ?_|refine qs rfl rfl rfl rfl rfl rfl ?_|((try refine qg rfl rfl rfl ?_);first|refine QV QP ?_|refine QV (rr_load1 TyC.ty rfl (at_blk (i := 0) rfl rfl)) ?_|refine QV QL ?_|refine QV QA ?_|refine QV QlT ?_|refine QV QlF ?_|refine QV QeT ?_|refine QV QeF ?_|refine QV QaA ?_|refine QV (rr_not rfl rfl) ?_))
        refine E_pick [] (by decide) rfl ?_
        exact E_round (k + 1) ⟨by omega, by simp⟩ (by show body.length - (k + 1) < body.length - k; omega) (by repeat' (first | exact True.intro | refine And.intro rfl ?_)) rfl
    · rw [if_neg c1]
      by_cases c2 : q = 2
      · rw [if_pos c2]
        obtain ⟨o1, o2⟩ := hokx c2
        obtain ⟨mm, rfl⟩ : ∃ mm : Nat, m = mm := ⟨m.toNat, by omega⟩
        have hmm : mm < l.length := by omega
        obtain ⟨b', off', rfl, hr'⟩ := h3 (by omega)
        rw [Int.toNat_natCast]
        have hcell := bool_at hmm
        generalize l.getD mm false = y at *
        cases y
        · repeat(first|refine QV QP ?_|refine QZ ?_|refine qcT rfl ?_|refine qcF rfl ?_|refine E_blockX ?_|refine E_blockO rfl ?_|refine qs rfl rfl rfl rfl rfl rfl ?_|((try refine qg rfl rfl rfl ?_);first|refine QV QP ?_|refine QV (rr_idxc Und.eq TyC.ty rfl rfl c6) ?_|refine QV (rr_loadN TyC.ty rfl rfl hat) ?_|refine QV QL ?_|refine QV QA ?_|refine QV QlT ?_|refine QV QlF ?_|refine QV QeT ?_|refine QV QeF ?_|refine QV QaA ?_|refine QV (rr_not rfl rfl) ?_))
          refine TL_new rfl fun g8 => ?_
          refine TL_storeB (i := 0) rfl rfl rfl rfl rfl rfl ?_
          repeat(first|refine QV QP ?_|refine QZ ?_|refine qcT rfl ?_|refine qcF rfl ?_|refine E_blockX ?_|refine E_blockO rfl ?_|refine qs rfl rfl rfl rfl rfl rfl ?_|((try refine qg rfl rfl rfl ?_);first|refine QV QP ?_|refine QV (rr_load1 TyC.ty rfl (at_blk (i := 0) rfl rfl)) ?_|refine QV (rr_idx1 Und.eq TyC.ty rfl rfl hmm) ?_|refine QV (rr_load1 TyC.ty rfl (at_rd hr' hcell)) ?_|refine QV QL ?_|refine QV QA ?_|refine QV QlT ?_|refine QV QlF ?_|refine QV QeT ?_|refine QV QeF ?_|refine QV QaA ?_|refine QV (rr_not rfl rfl) ?_))
          exact E_ret1 rfl rfl fun w hm => hm.ret
        · repeat(first|refine QV QP ?_|refine QZ ?_|refine qcT rfl ?_|refine qcF rfl ?_|refine E_blockX ?_|refine E_blockO rfl ?_|refine qs rfl rfl rfl rfl rfl rfl ?_|((try refine qg rfl rfl rfl ?_);first|refine QV QP ?_|refine QV (rr_idxc Und.eq TyC.ty rfl rfl c6) ?_|refine QV (rr_loadN TyC.ty rfl rfl hat) ?_|refine QV QL ?_|refine QV QA ?_|refine QV QlT ?_|refine QV QlF ?_|refine QV QeT ?_|refine QV QeF ?_|refine QV QaA ?_|refine QV (rr_not rfl rfl) ?_))
          refine TL_new rfl fun g8 => ?_
          refine TL_storeB (i := 0) rfl rfl rfl rfl rfl rfl ?_
          repeat(first|refine QV QP ?_|refine QZ ?_|refine qcT rfl ?_|refine qcF rfl ?_|refine E_blockX ?_|refine E_blockO rfl ?_|refine qs rfl rfl rfl rfl rfl rfl ?_|((try refine qg rfl rfl rfl ?_);first|refine QV QP ?_|refine QV (rr_load1 TyC.ty rfl (at_blk (i := 0) rfl rfl)) ?_|refine QV (rr_idx1 Und.eq TyC.ty rfl rfl hmm) ?_|refine QV (rr_load1 TyC.ty rfl (at_rd hr' hcell)) ?_|refine QV QL ?_|refine QV QA ?_|refine QV QlT ?_|refine QV QlF ?_|refine QV QeT ?_|refine QV QeF ?_|refine QV QaA ?_|refine QV (rr_not rfl rfl) ?_))
          refine E_pick [] (by decide) rfl ?_
          exact E_round (k + 1) ⟨by omega, by simp⟩ (by show body.length - (k + 1) < body.length - k; omega) (by repeat' (first | exact True.intro | refine And.intro rfl ?_)) rfl
      · rw [if_neg c2]
        repeat(first|refine QV QP ?_|refine QZ ?_|refine qcT rfl ?_|refine qcF rfl ?_|refine E_blockX ?_|refine E_blockO rfl ?_|refine qs rfl rfl rfl rfl rfl rfl ?_|((try refine qg rfl rfl rfl ?_);first|refine QV QP ?_|refine QV (rr_idxc Und.eq TyC.ty rfl rfl c6) ?_|refine QV (rr_loadN TyC.ty rfl rfl hat) ?_|refine QV QL ?_|refine QV QA ?_|refine QV QlT ?_|refine QV QlF ?_|refine QV QeT ?_|refine QV QeF ?_|refine QV QaA ?_|refine QV (rr_not rfl rfl) ?_))
        refine TL_new rfl fun g8 => ?_
        refine TL_storeB (i := 0) rfl rfl rfl rfl rfl rfl ?_
        repeat(first|refine QV QP ?_|refine QZ ?_|refine qcT rfl ?_|refine qcF rfl ?_|refine E_blockX ?_|refine E_blockO rfl ?_|refine qs rfl rfl rfl rfl rfl rfl ?_|((try refine qg rfl rfl rfl ?_);first|refine QV QP ?_|refine QV (rr_load1 TyC.ty rfl (at_blk (i := 0) rfl rfl)) ?_|refine QV QL ?_|refine QV QA ?_|refine QV QlT ?_|refine QV QlF ?_|refine QV QeT ?_|refine QV QeF ?_|refine QV QaA ?_|refine QV (rr_not rfl rfl) ?_))
        refine E_pick [] (by decide) rfl ?_
        exact E_round (k + 1) ⟨by omega, by simp⟩ (by show body.length - (k + 1) < body.length - k; omega) (by repeat' (first | exact True.intro | refine And.intro rfl ?_)) rfl
  · rw [List.drop_of_length_le (by omega)]
    repeat(first|refine QV QP ?_|refine QZ ?_|refine qcT rfl ?_|refine qcF rfl ?_|refine E_blockX ?_|refine E_blockO rfl ?_|refine qs rfl rfl rfl rfl rfl rfl ?_|((try refine qg rfl rfl rfl ?_);first|refine QV QP ?_|refine QV QL ?_|refine QV QA ?_|refine QV QlT ?_|refine QV QlF ?_|refine QV QeT ?_|refine QV QeF ?_|refine QV QaA ?_|refine QV (rr_not rfl rfl) ?_))
    exact E_ret1 rfl rfl fun w hm => hm.ret
end Go.Proofs.Ytlojfbnimmdehaa.eng

/- FactsB -/
namespace Go.Proofs.Ytlojfbnimmdehaa.eng
open Go.RowKit kit mix gramL factsL
theorem bits_orN {x y : Nat} (hx : x < 18446744073709551616) (hy : y < 18446744073709551616) : bits .or .u64 (x : Int) (y : Int) = ((x ||| y : Nat) : Int) := by
  have h := bits_nat .u64 64 (by decide) (fun n h0 h1 => by rw [IntKind.wrap_u64]; omega) x y (by simpa using hx) (by simpa using hy)
  exact h.2
theorem or_lt {x y : Nat} (hx : x < 18446744073709551616) (hy : y < 18446744073709551616) : x ||| y < 18446744073709551616 := Nat.or_lt_two_pow (n := 64) hx hy
theorem pow_lt64 {m : Nat} (h : m < 64) : 2 ^ m < 18446744073709551616 := by
  have : (2 : Nat) ^ m < 2 ^ 64 := Nat.pow_lt_pow_right (by decide) h
  simpa using this
theorem shl1 {P : Program} (m : Nat) (hm : m < 64) (w : World) : (Op.shift .shl .u64 1 .i64 (m : Int)).run P w = .ok (.int .u64 ((2 ^ m : Nat) : Int)) w := by
  have e : min m 64 = m := by omega
  have hp := pow_lt64 hm
  have e2 : (2 : Int) ^ m = ((2 ^ m : Nat) : Int) := by rw [Int.natCast_pow]; rfl
  have e3 : IntKind.u64.wrap ((1 : Int) * 2 ^ m) = ((2 ^ m : Nat) : Int) := by
    rw [e2, IntKind.wrap_u64, Int.one_mul]
    generalize 2 ^ m = q at hp
    omega
  have h0 : ¬ ((m : Int) < 0) := by omega
  simp only [Op.shift, if_neg h0, IntKind.bits, Int.toNat_natCast, e, e3, Sem.run_pure]
attribute [local irreducible] Op.shift Go.bits in
set_option maxHeartbeats 1000000 in
theorem add_calls (g cap : Nat) (l : List Nat) (i b : Nat) (w : World) (B : Base) (hi : i < l.length) (h64 : ∀ x ∈ l, x < 18446744073709551616) (hb : b < 18446744073709551616) (hm : Mem B [rowO 97 1 (.slice (some ⟨g, 0, none⟩) l.length cap) l.length (l.map bitV)] w) :
    Calls Try.prog 75 #[.slice (some ⟨g, 0, none⟩) l.length cap, .int .i64 (i : Int), bitV b] w (MeetsB ⟨fun (_ : Unit) => True, fun _ => .bool (addF l i b).2, fun _ => [rowO 97 1 (.slice (some ⟨g, 0, none⟩) l.length cap) l.length ((addF l i b).1.map bitV)]⟩ B) := by
  have hc := bit_at hi
  have hx64 : l.getD i 0 < 18446744073709551616 := by
    have e : l.getD i 0 = l[i] := by rw [List.getD_eq_getElem?_getD, List.getElem?_eq_getElem hi]; rfl
    rw [e]; exact h64 _ (List.getElem_mem hi)
  refine enterB hm (args := [.slice (some ⟨g, 0, none⟩) l.length cap, .int .i64 (i : Int), bitV b]) (n := 25) Try.func75 rfl rfl rfl ?_
  unfold addF
  generalize l.getD i 0 = x at *
  have hor := bits_orN hx64 hb
  have hset : ((l.map bitV).set i (.int .u64 ((x ||| b : Nat) : Int)))[0 + i]? = some (.int .u64 ((x ||| b : Nat) : Int)) := by
    rw [Nat.zero_add, List.getElem?_set_self (by simpa using hi)]
  generalize x ||| b = y at *
  by_cases c : y = x
  · rw [show (!decide (y = x)) = false by simp [c]]
    repeat(first|refine QV QP ?_|refine QZ ?_|refine QV (rr_idx1 Und.eq TyC.ty rfl rfl hi) ?_|refine QV (rr_load1 TyC.ty rfl (at_row (i := 0) rfl (by rw [Nat.zero_add]; exact hc))) ?_|refine QV (rr_or rfl rfl hor) ?_|refine QV QnT ?_|refine QV QnF ?_)
    refine TL_storeRow (i := 0) TyC.ty rfl rfl rfl rfl rfl rfl (by simpa using hi) ?_
    conv => arg 8; simp only [List.set_cons_zero, Nat.zero_add]
    repeat(first|refine QV QP ?_|refine QZ ?_|refine QV (rr_idx1 Und.eq TyC.ty rfl rfl hi) ?_|refine QV (rr_load1 TyC.ty rfl (at_row (i := 0) rfl hset)) ?_|refine QV QnT ?_|refine QV QnF ?_)
    exact E_ret1 rfl rfl fun w hm => hm.meetsB (S := ⟨fun (_ : Unit) => True, fun _ => .bool false, fun _ => [rowO 97 1 (.slice (some ⟨g, 0, none⟩) l.length cap) l.length ((l.set i y).map bitV)]⟩) () trivial [0] (by decide) (by simp [List.map_set]; rfl)
  · rw [show (!decide (y = x)) = true by simp [c]]
    repeat(first|refine QV QP ?_|refine QZ ?_|refine QV (rr_idx1 Und.eq TyC.ty rfl rfl hi) ?_|refine QV (rr_load1 TyC.ty rfl (at_row (i := 0) rfl (by rw [Nat.zero_add]; exact hc))) ?_|refine QV (rr_or rfl rfl hor) ?_|refine QV QnT ?_|refine QV QnF ?_)
    refine TL_storeRow (i := 0) TyC.ty rfl rfl rfl rfl rfl rfl (by simpa using hi) ?_
    conv => arg 8; simp only [List.set_cons_zero, Nat.zero_add]
    repeat(first|refine QV QP ?_|refine QZ ?_|refine QV (rr_idx1 Und.eq TyC.ty rfl rfl hi) ?_|refine QV (rr_load1 TyC.ty rfl (at_row (i := 0) rfl hset)) ?_|refine QV QnT ?_|refine QV QnF ?_)
    exact E_ret1 rfl rfl fun w hm => hm.meetsB (S := ⟨fun (_ : Unit) => True, fun _ => .bool true, fun _ => [rowO 97 1 (.slice (some ⟨g, 0, none⟩) l.length cap) l.length ((l.set i y).map bitV)]⟩) () trivial [0] (by decide) (by simp [List.map_set]; rfl)
theorem beginGo_cons (E : List Bool) (F : List Nat) (behind : Nat) (x : Sym) (r : List Sym) (out : Nat) : beginGo E F behind (x :: r) out = if x.1 = 1 then out ||| 2 ^ x.2.toNat else if E.getD x.2.toNat false = true then beginGo E F behind r (out ||| F.getD x.2.toNat 0) else out ||| F.getD x.2.toNat 0 := rfl
theorem beginGo_nil (E : List Bool) (F : List Nat) (behind out : Nat) : beginGo E F behind [] out = out ||| behind := rfl
def facV (vE vF vL vR vM : Value) : Value := .agg #[vE, vF, vL, vR, vM]
attribute [local irreducible] Op.shift Go.bits in
set_option maxHeartbeats 2000000 in
theorem begin_calls (vE vF vL vR vM vb : Value) (E : List Bool) (F : List Nat) (body : List Sym) (behind : Nat) (w : World) (hE : Sl w vE E.length (E.map .bool)) (hF : Sl w vF F.length (F.map bitV)) (hs : Sl w vb body.length (body.flatMap symC)) (hEF : E.length = F.length)
    (hok : ∀ x ∈ body, (x.1 = 1 → 0 ≤ x.2 ∧ x.2 < 64) ∧ (x.1 ≠ 1 → 0 ≤ x.2 ∧ x.2 < F.length)) (h64 : ∀ x ∈ F, x < 18446744073709551616) (hb : behind < 18446744073709551616) :
    Calls Try.prog 76 #[facV vE vF vL vR vM, vb, bitV behind] w (Meets (ret (bitV (beginF E F body behind))) w) := by
  obtain ⟨bE, cE, rfl, e1, e2, e3⟩ := hE
  obtain ⟨bF, cF, rfl, f1, f2, f3⟩ := hF
  obtain ⟨bb, cb, rfl, h4, h5, h6⟩ := hs
  unfold maxLen at e2 f2 h5
  refine enter (args := [facV (.slice bE E.length cE) (.slice bF F.length cF) vL vR vM, .slice bb body.length cb, bitV behind]) (n := 44) Try.func76 rfl rfl rfl ?_
  refine T_seq (T_region (TL_box rfl rfl rfl fun g3 => ?_))
  repeat(first|refine QV QP ?_|refine QZ ?_|refine qcT rfl ?_|refine qcF rfl ?_|refine E_blockX ?_|refine E_blockO rfl ?_|refine QV QL ?_|refine QV QA ?_|refine QV (rr_not rfl rfl) ?_|refine QV QlT ?_|refine QV QlF ?_|refine QV QeT ?_|refine QV QeF ?_|refine QV QaA ?_)
  unfold beginF
  refine T_loop (ι := Nat × Nat) (fun (k, out) => k ≤ body.length ∧ out < 18446744073709551616 ∧ beginGo E F behind body 0 = beginGo E F behind (body.drop k) out) (fun (k, out) => [(2, bitV behind), (3, .pointer (some ⟨g3, 0, none⟩)), (7, bitV out), (10, .slice bb body.length cb), (11, .int .i64 body.length), (12, .int .i64 (k : Int))]) (fun _ => [blkO g3 (facV (.slice bE E.length cE) (.slice bF F.length cF) vL vR vM).cells 41]) (fun (k, _) => body.length - k) (0, 0) ⟨Nat.zero_le _, by decide, rfl⟩ (by repeat' (first | exact True.intro | refine And.intro rfl ?_)) rfl ?_
  rintro ⟨k, out⟩ ⟨i1, i3, i2⟩
  dsimp only at i1 i3 i2 ⊢
  rw [i2]
  clear i2
  by_cases c6 : k < body.length
  · obtain ⟨b, off, rfl, hr⟩ := h6 (by omega)
    have hat := at_el (L := [blkO g3 (facV (.slice bE E.length cE) (.slice bF F.length cF) vL vR vM).cells 41]) SymS_len hr c6
    have hokx := hok body[k] (List.getElem_mem c6)
    have hd : beginGo E F behind (body.drop k) out = beginGo E F behind (body[k] :: body.drop (k + 1)) out := by
      rw [List.drop_eq_getElem_cons c6]
    rw [hd]
    clear hd h6 hok hr
    generalize body[k] = x at *
    obtain ⟨q, m⟩ := x
    dsimp only at *
    rw [beginGo_cons]
    dsimp only
    by_cases c1 : q = 1
    · rw [if_pos c1]
      obtain ⟨o1, o2⟩ := hokx.1 c1
      obtain ⟨mm, rfl⟩ : ∃ mm : Nat, m = mm := ⟨m.toNat, by omega⟩
      rw [Int.toNat_natCast]
      have hsh := fun w => shl1 (P := Try.prog) mm (by omega) w
      have hor := bits_orN i3 (pow_lt64 (m := mm) (by omega))
      repeat(first|refine QV QP ?_|refine QZ ?_|refine qcT rfl ?_|refine qcF rfl ?_|refine E_blockX ?_|refine E_blockO rfl ?_|refine QV (rr_idxc Und.eq TyC.ty rfl rfl c6) ?_|refine QV (rr_loadN TyC.ty rfl rfl hat) ?_|refine QV QL ?_|refine QV QA ?_|refine QV (rr_not rfl rfl) ?_|refine QV QlT ?_|refine QV QlF ?_|refine QV QeT ?_|refine QV QeF ?_|refine QV QaA ?_)
      refine TL_new rfl fun g8 => ?_
      refine TL_storeB (i := 1) rfl rfl rfl rfl rfl rfl ?_
      repeat(first|refine QV QP ?_|refine QZ ?_|refine qcT rfl ?_|refine qcF rfl ?_|refine E_blockX ?_|refine E_blockO rfl ?_|refine QV (rr_load1 TyC.ty rfl (at_blk (i := 1) rfl rfl)) ?_|refine QV (rr_shl rfl rfl hsh) ?_|refine QV (rr_or rfl rfl hor) ?_|refine QV QL ?_|refine QV QA ?_|refine QV (rr_not rfl rfl) ?_|refine QV QlT ?_|refine QV QlF ?_|refine QV QeT ?_|refine QV QeF ?_|refine QV QaA ?_)
      exact E_ret1 rfl rfl fun w hm => hm.ret
    · rw [if_neg c1]
      obtain ⟨o1, o2⟩ := hokx.2 c1
      obtain ⟨mm, rfl⟩ : ∃ mm : Nat, m = mm := ⟨m.toNat, by omega⟩
      rw [Int.toNat_natCast]
      have hmm : mm < F.length := by omega
      have hmE : mm < E.length := by omega
      obtain ⟨b1, off1, rfl, hr1⟩ := e3 (by omega)
      obtain ⟨b2, off2, rfl, hr2⟩ := f3 (by omega)
      have hcE := bool_at hmE
      have hcF := bit_at hmm
      have hx64 : F.getD mm 0 < 18446744073709551616 := by
        have e : F.getD mm 0 = F[mm] := by rw [List.getD_eq_getElem?_getD, List.getElem?_eq_getElem hmm]; rfl
        rw [e]; exact h64 _ (List.getElem_mem hmm)
      have hor := bits_orN i3 hx64
      have hlt := or_lt i3 hx64
      generalize E.getD mm false = y at *
      generalize F.getD mm 0 = z at *
      generalize out ||| z = o2 at *
      cases y
      · rw [if_neg (by decide)]
        repeat(first|refine QV QP ?_|refine QZ ?_|refine qcT rfl ?_|refine qcF rfl ?_|refine E_blockX ?_|refine E_blockO rfl ?_|refine QV (rr_idxc Und.eq TyC.ty rfl rfl c6) ?_|refine QV (rr_loadN TyC.ty rfl rfl hat) ?_|refine QV QL ?_|refine QV QA ?_|refine QV (rr_not rfl rfl) ?_|refine QV QlT ?_|refine QV QlF ?_|refine QV QeT ?_|refine QV QeF ?_|refine QV QaA ?_)
        refine TL_new rfl fun g8 => ?_
        refine TL_storeB (i := 1) rfl rfl rfl rfl rfl rfl ?_
        repeat(first|refine QV QP ?_|refine QZ ?_|refine qcT rfl ?_|refine qcF rfl ?_|refine E_blockX ?_|refine E_blockO rfl ?_|refine QV (rr_load1 TyC.ty rfl (at_blk (i := 1) rfl rfl)) ?_|refine QV (rr_load1 TyC.ty rfl (at_blk (i := 0) rfl rfl)) ?_|refine QV (rr_idx1 Und.eq TyC.ty rfl rfl hmm) ?_|refine QV (rr_idx1 Und.eq TyC.ty rfl rfl hmE) ?_|refine QV (rr_load1 TyC.ty rfl (at_rd hr1 hcE)) ?_|refine QV (rr_load1 TyC.ty rfl (at_rd hr2 hcF)) ?_|refine QV (rr_or rfl rfl hor) ?_|refine QV QL ?_|refine QV QA ?_|refine QV (rr_not rfl rfl) ?_|refine QV QlT ?_|refine QV QlF ?_|refine QV QeT ?_|refine QV QeF ?_|refine QV QaA ?_)
        exact E_ret1 rfl rfl fun w hm => hm.ret
      · rw [if_pos rfl]
        repeat(first|refine QV QP ?_|refine QZ ?_|refine qcT rfl ?_|refine qcF rfl ?_|refine E_blockX ?_|refine E_blockO rfl ?_|refine QV (rr_idxc Und.eq TyC.ty rfl rfl c6) ?_|refine QV (rr_loadN TyC.ty rfl rfl hat) ?_|refine QV QL ?_|refine QV QA ?_|refine QV (rr_not rfl rfl) ?_|refine QV QlT ?_|refine QV QlF ?_|refine QV QeT ?_|refine QV QeF ?_|refine QV QaA ?_)
        refine TL_new rfl fun g8 => ?_
        refine TL_storeB (i := 1) rfl rfl rfl rfl rfl rfl ?_
        repeat(first|refine QV QP ?_|refine QZ ?_|refine qcT rfl ?_|refine qcF rfl ?_|refine E_blockX ?_|refine E_blockO rfl ?_|refine QV (rr_load1 TyC.ty rfl (at_blk (i := 1) rfl rfl)) ?_|refine QV (rr_load1 TyC.ty rfl (at_blk (i := 0) rfl rfl)) ?_|refine QV (rr_idx1 Und.eq TyC.ty rfl rfl hmm) ?_|refine QV (rr_idx1 Und.eq TyC.ty rfl rfl hmE) ?_|refine QV (rr_load1 TyC.ty rfl (at_rd hr1 hcE)) ?_|refine QV (rr_load1 TyC.ty rfl (at_rd hr2 hcF)) ?_|refine QV (rr_or rfl rfl hor) ?_|refine QV QL ?_|refine QV QA ?_|refine QV (rr_not rfl rfl) ?_|refine QV QlT ?_|refine QV QlF ?_|refine QV QeT ?_|refine QV QeF ?_|refine QV QaA ?_)
        refine E_pick [0] (by decide) rfl ?_
        exact E_round (k + 1, o2) ⟨by omega, hlt, rfl⟩ (by show body.length - (k + 1) < body.length - k; omega) (by repeat' (first | exact True.intro | refine And.intro rfl ?_)) rfl
  · rw [List.drop_of_length_le (by omega)]
    have hor := bits_orN i3 hb
    rw [beginGo_nil]
    repeat(first|refine QV QP ?_|refine QZ ?_|refine qcT rfl ?_|refine qcF rfl ?_|refine E_blockX ?_|refine E_blockO rfl ?_|refine QV (rr_or rfl rfl hor) ?_|refine QV QL ?_|refine QV QA ?_|refine QV (rr_not rfl rfl) ?_|refine QV QlT ?_|refine QV QlF ?_|refine QV QeT ?_|refine QV QeF ?_|refine QV QaA ?_)
    exact E_ret1 rfl rfl fun w hm => hm.ret
end Go.Proofs.Ytlojfbnimmdehaa.eng

/- FactsC -/
namespace Go.Proofs.Ytlojfbnimmdehaa.eng
open Go.RowKit kit mix gramL factsL
/-- a row of bools of a given number -/
def rowBn (n g c : Nat) (l : List Bool) : Own := rowO 4 1 (.slice (some ⟨g, 0, none⟩) n c) n (l.map .bool)
theorem mark2_calls (n g cap : Nat) (l : List Bool) (i : Nat) (b : Bool) (w : World) (B : Base) (hl : l.length = n) (hi : i < n) (hm : Mem B [rowBn n g cap l] w) :
    Calls Try.prog 73 #[.slice (some ⟨g, 0, none⟩) n cap, .int .i64 (i : Int), .bool b] w (MeetsB ⟨fun (_ : Unit) => True, fun _ => .bool (markF l i b).2, fun _ => [rowBn n g cap (markF l i b).1]⟩ B) := by
  subst hl
  exact mark_calls g cap l i b w B hi hm
structure Rows3 where
  gE : Nat
  cE : Nat
  gR : Nat
  cR : Nat
  gM : Nat
  cM : Nat
def vRow (n g c : Nat) : Value := .slice (some ⟨g, 0, none⟩) n c
theorem roundR_cons (h : Nat) (x : Sym) (r : List Sym) (R : List Bool) (more : Bool) : roundR h (x :: r) R more = roundR h r (stepR h x R more).1 (stepR h x R more).2 := rfl
theorem roundL_cons (p : gramL.Prod) (r : List gramL.Prod) (s : FS) : roundL (p :: r) s = roundL r (roundP p s) := rfl
set_option maxHeartbeats 8000000 in
theorem round_calls (w0 : World) (v : Value) (g : Gram) (h : GraR (fun k => k < w0.heap.size) w0 v g) (hck : checkG g = 0) (n : Nat) (hn : g.nons = n) (x : Rows3) (vF vL : Value) (E R M : List Bool) (hE : E.length = n) (hR : R.length = n) (hM : M.length = n) (w : World) (B : Base) (ho : Old w0 B) (hm : Mem B [rowBn n x.gE x.cE E, rowBn n x.gR x.cR R, rowBn n x.gM x.cM M] w) :
    Calls Try.prog 40 #[v, facV (vRow n x.gE x.cE) vF vL (vRow n x.gR x.cR) (vRow n x.gM x.cM)] w (MeetsB ⟨fun (_ : Unit) => True, fun _ => .bool (roundL g.prods ⟨E, R, M, false⟩).more, fun _ => [rowBn n x.gE x.cE (roundL g.prods ⟨E, R, M, false⟩).E, rowBn n x.gR x.cR (roundL g.prods ⟨E, R, M, false⟩).R, rowBn n x.gM x.cM (roundL g.prods ⟨E, R, M, false⟩).M]⟩ B) := by
  obtain ⟨gE, cE, gR, cR, gM, cM⟩ := x
  dsimp only at *
  obtain ⟨_, _, _, _, hlen, hps⟩ := checkG_ok hck
  obtain ⟨vp, rfl, h1, _⟩ := h
  obtain ⟨bp, cp, rfl, hcp, hmp, hrp⟩ := h1
  unfold maxLen at hmp
  obtain ⟨t, nn, prods⟩ := g
  dsimp only at *
  subst hn
  refine enterB hm (args := [graV t (n : Int) (.slice bp prods.length cp), facV (vRow n gE cE) vF vL (vRow n gR cR) (vRow n gM cM)]) (n := 70) Try.func40 rfl rfl rfl ?_
  refine T_seq (T_region (TL_box rfl rfl rfl fun g2 => TL_box rfl rfl rfl fun g3 => ?_))
  conv=>arg 8;simp only[zA,zB,zC,zD,zE,zF,zG,zH,zI,rowS,ret,id_eq]
  repeat(first|refine QV QP ?_|refine QZ ?_|refine qcT rfl ?_|refine qcF rfl ?_|refine E_blockX ?_|refine E_blockO rfl ?_|refine qs rfl rfl rfl rfl rfl rfl ?_|((try refine qg rfl rfl rfl ?_);first|refine QV QP ?_|refine QV (rr_load1 TyC.ty rfl (at_blk (i := 3) rfl rfl)) ?_|refine QV QL ?_|refine QV QA ?_|refine QV QlT ?_|refine QV QlF ?_|refine QV QeT ?_|refine QV QeF ?_|refine QV QaA ?_))
  refine T_pick [0, 1, 2, 4] (by decide) rfl ?_
  generalize hfin : roundL prods ⟨E, R, M, false⟩ = fin
  refine T_loop (ι := Nat × FS) (fun (k, s) => k ≤ prods.length ∧ s.E.length = n ∧ s.R.length = n ∧ s.M.length = n ∧ roundL (prods.drop k) s = fin) (fun (k, s) => [(3, .pointer (some ⟨g3, 0, none⟩)), (5, .bool s.more), (11, .slice bp prods.length cp), (12, .int .i64 prods.length), (13, .int .i64 (k : Int))])
    (fun (_, s) => [rowBn n gE cE s.E, rowBn n gR cR s.R, rowBn n gM cM s.M, blkO g3 (facV (vRow n gE cE) vF vL (vRow n gR cR) (vRow n gM cM)).cells 41]) (fun (k, _) => prods.length - k) (0, ⟨E, R, M, false⟩) ⟨Nat.zero_le _, hE, hR, hM, hfin⟩ (by repeat' (first | exact True.intro | refine And.intro rfl ?_)) rfl ?_
  clear hm hE hR hM hfin
  rintro ⟨k, E, R, M, more⟩ ⟨i1, i2, i3, i4, i5⟩
  dsimp only at i1 i2 i3 i4 i5 ⊢
  by_cases c6 : k < prods.length
  · obtain ⟨b, off, rfl, _, hr⟩ := hrp (by omega)
    obtain ⟨bb, cb, q1, q2, q3⟩ := prod_at hr c6
    have hpk := hps prods[k] (List.getElem_mem c6)
    rw [List.drop_eq_getElem_cons c6, roundL_cons] at i5
    have hat : ∀ (L : List Own) (j : Nat) (v : Value), ([.int .i64 prods[k].1, .slice bb prods[k].2.length cb] : List Value)[j]? = some v → At B L ⟨b, off + k * 2 + j, none⟩ v := fun L j v hj => at_old0 ho (q1 j v hj)
    have hfl := q3.flat (by decide)
    clear hr hrp q1 hps q3
    generalize prods[k] = p at *
    obtain ⟨hd, body⟩ := p
    obtain ⟨p1, p2, p3, p4⟩ := hpk
    dsimp only at *
    obtain ⟨hn, rfl⟩ : ∃ hn : Nat, hd = hn := ⟨hd.toNat, by omega⟩
    have hhn : hn < n := by omega
    have hbody : ∀ x ∈ body, x.1 = 2 → 0 ≤ x.2 ∧ x.2 < (n : Int) := fun x hx hx2 => by
      have := p4 x hx
      unfold right at this
      rw [if_neg (by omega), if_pos hx2] at this
      simpa using this
    have hsb : ∀ w' L, Mem B L w' → Sl w' (.slice bb body.length cb) body.length (body.flatMap symC) := fun w' L hm => hfl.gr (ho.mem hm)
    unfold roundP at i5
    dsimp only at i5
    rw [Int.toNat_natCast] at i5
    have hall1 := fun w' L (hm : Mem B L w') (hx : Sl w' (vRow n gE cE) E.length (E.map .bool)) => allB_calls (vRow n gE cE) (.slice bb body.length cb) E body false w' hx (hsb w' L hm) (fun x hx hx2 => by rw [i2]; exact hbody x hx hx2)
    have hall2 := fun w' L (hm : Mem B L w') (hx : Sl w' (vRow n gM cM) M.length (M.map .bool)) => allB_calls (vRow n gM cM) (.slice bb body.length cb) M body true w' hx (hsb w' L hm) (fun x hx hx2 => by rw [i4]; exact hbody x hx hx2)
    generalize allF E body false = a1 at *
    generalize allF M body true = a2 at *
    have hmk1 := fun w' B' hm => mark2_calls n gE cE E hn a1 w' B' i2 hhn hm
    have hmk2 := fun w' B' hm => mark2_calls n gM cM M hn a2 w' B' i4 hhn hm
    have hl1 := markF_len E hn a1
    have hl2 := markF_len M hn a2
    rw [i2] at hl1 hall1
    rw [i4] at hl2 hall2
    generalize markF E hn a1 = m1 at *
    generalize markF M hn a2 = m2 at *
    obtain ⟨E1, b1⟩ := m1
    obtain ⟨M1, b2⟩ := m2
    dsimp only at *
    repeat(first|refine QV QP ?_|refine QZ ?_|refine qcT rfl ?_|refine qcF rfl ?_|refine E_blockX ?_|refine E_blockO rfl ?_|refine qs rfl rfl rfl rfl rfl rfl ?_|((try refine qg rfl rfl rfl ?_);first|refine QV QP ?_|refine QV (rr_idxc Und.eq TyC.ty rfl rfl c6) ?_|refine QV (rr_loadN TyC.ty rfl rfl (hat _)) ?_|refine QV QL ?_|refine QV QA ?_|refine QV QlT ?_|refine QV QlF ?_|refine QV QeT ?_|refine QV QeF ?_|refine QV QaA ?_))
    clear hat
    refine TL_new rfl fun g7 => ?_
    refine TL_storeB (i := 4) rfl rfl rfl rfl rfl rfl ?_
    conv=>arg 8;simp only[zA,zB,zC,zD,zE,zF,zG,zH,zI,rowS,ret,id_eq]
    repeat(first|refine QV QP ?_|refine TL_nil ?_|refine E_then ?_|refine qs rfl rfl rfl rfl rfl rfl ?_|((try refine qg rfl rfl rfl ?_);first|refine QV QP ?_|refine QV QL ?_|refine QV QA ?_|refine QV QlT ?_|refine QV QlF ?_|refine QV QeT ?_|refine QV QeF ?_|refine QV QaA ?_))
    (repeat refine T_seq ?_)
    refine T_midq (ι := Unit) (fun _ => True) (fun _ => [(3, .pointer (some ⟨g3, 0, none⟩)), (5, .bool (b1 || more)), (7, .pointer (some ⟨g7, 0, none⟩)), (11, .slice (some ⟨b, off, none⟩) prods.length cp), (12, .int .i64 prods.length), (13, .int .i64 (k : Int))])
      (fun _ => [rowBn n gE cE E1, rowBn n gR cR R, rowBn n gM cM M, blkO g3 (facV (vRow n gE cE) vF vL (vRow n gR cR) (vRow n gM cM)).cells 41, blkO g7 #[.int .i64 (hn : Int), .slice bb body.length cb] 68]) ?_ ?_
    · refine T_ord ([blkO g3 (facV (vRow n gE cE) vF vL (vRow n gR cR) (vRow n gM cM)).cells 41, blkO g7 #[.int .i64 (hn : Int), .slice bb body.length cb] 68]) (.calm 0 (.calm 1 (.calm 2 (.calm 3 (.calm 4 (.calm 5 (.calm 6 (.calm 7 (.one 8 (.one 9 (.calm 10 (.calm 11 (.calm 12 (.calm 13 (.done))))))))))))))) (sub_pick [3, 4] (by decide) rfl) (by kernel_rfl) (by kernel_rfl) (by intro c a d v w h; cases d <;> exact h) ?_
      repeat(first|((first|refine TW_plain rfl rfl ?_|refine TW_gmet rfl rfl rfl rfl ?_);first|refine QW QP ?_|refine QW (rr_load1 TyC.ty rfl (at_blk (i := 0) rfl rfl)) ?_|refine QW (rr_load1 TyC.ty rfl (at_blk (i := 1) rfl rfl)) ?_|refine QW QL ?_|refine QW QA ?_|refine QW QlT ?_|refine QW QlF ?_|refine QW QeT ?_|refine QW QeF ?_|refine QW QaA ?_)|refine TW_skip rfl rfl rfl rfl rfl rfl rfl ?_|refine TW_done ?_)
      refine TW_one rfl ?_
      refine TL_call (he3 EntersC.en rfl rfl rfl rfl) (fun w hm => hall1 _ _ hm (sl_row (i := 0) rfl w hm)) rfl rfl rfl ?_
      intro _ _
      conv=>arg 8;simp only[zA,zB,zC,zD,zE,zF,zG,zH,zI,rowS,ret,id_eq]
      refine TW_on (sub_pick [3, 4] (by decide) rfl) ?_
      refine TW_one rfl ?_
      refine TL_callB [0] [1, 2, 3, 4] (by decide) rfl rfl (he3 EntersC.en rfl rfl rfl rfl) (fun w hm hb => hmk1 w _ hb) rfl rfl rfl ?_
      intro _ _
      conv=>arg 8;simp only[zA,zB,zC,zD,zE,zF,zG,zH,zI,rowS,ret,id_eq]
      refine TW_on (sub_pick [2, 3] (by decide) rfl) ?_
      cases b1
      · repeat(first|((first|refine TW_plain rfl rfl ?_|refine TW_gmet rfl rfl rfl rfl ?_);first|refine QW QP ?_|refine QW QL ?_|refine QW QA ?_|refine QW QlT ?_|refine QW QlF ?_|refine QW QeT ?_|refine QW QeF ?_|refine QW QaA ?_)|refine TW_skip rfl rfl rfl rfl rfl rfl rfl ?_|refine TW_done ?_)
        refine E_pick [4, 0, 1, 2, 3] (by decide) rfl ?_
        exact E_mid () trivial (by repeat' (first | exact True.intro | refine And.intro rfl ?_)) rfl
      · repeat(first|((first|refine TW_plain rfl rfl ?_|refine TW_gmet rfl rfl rfl rfl ?_);first|refine QW QP ?_|refine QW QL ?_|refine QW QA ?_|refine QW QlT ?_|refine QW QlF ?_|refine QW QeT ?_|refine QW QeF ?_|refine QW QaA ?_)|refine TW_skip rfl rfl rfl rfl rfl rfl rfl ?_|refine TW_done ?_)
        refine E_pick [4, 0, 1, 2, 3] (by decide) rfl ?_
        exact E_mid () trivial (by repeat' (first | exact True.intro | refine And.intro rfl ?_)) rfl
    intro _ _
    (repeat refine T_seq ?_)
    refine T_midq (ι := Unit) (fun _ => True) (fun _ => [(3, .pointer (some ⟨g3, 0, none⟩)), (5, .bool (b2 || (b1 || more))), (7, .pointer (some ⟨g7, 0, none⟩)), (11, (.slice (some ⟨b, off, none⟩) prods.length cp)), (12, .int .i64 prods.length), (13, .int .i64 (k : Int))])
      (fun _ => [rowBn n gE cE E1, rowBn n gR cR R, rowBn n gM cM M1, blkO g3 (facV (vRow n gE cE) vF vL (vRow n gR cR) (vRow n gM cM)).cells 41, blkO g7 #[.int .i64 (hn : Int), .slice bb body.length cb] 68]) ?_ ?_
    · refine T_ord ([blkO g3 (facV (vRow n gE cE) vF vL (vRow n gR cR) (vRow n gM cM)).cells 41, blkO g7 #[.int .i64 (hn : Int), .slice bb body.length cb] 68]) (.calm 0 (.calm 1 (.calm 2 (.calm 3 (.calm 4 (.calm 5 (.calm 6 (.calm 7 (.one 8 (.one 9 (.calm 10 (.calm 11 (.calm 12 (.calm 13 (.done))))))))))))))) (sub_pick [3, 4] (by decide) rfl) (by kernel_rfl) (by kernel_rfl) (by intro c a d v w h; cases d <;> exact h) ?_
      repeat(first|((first|refine TW_plain rfl rfl ?_|refine TW_gmet rfl rfl rfl rfl ?_);first|refine QW QP ?_|refine QW (rr_load1 TyC.ty rfl (at_blk (i := 0) rfl rfl)) ?_|refine QW (rr_load1 TyC.ty rfl (at_blk (i := 1) rfl rfl)) ?_|refine QW QL ?_|refine QW QA ?_|refine QW QlT ?_|refine QW QlF ?_|refine QW QeT ?_|refine QW QeF ?_|refine QW QaA ?_)|refine TW_skip rfl rfl rfl rfl rfl rfl rfl ?_|refine TW_done ?_)
      refine TW_one rfl ?_
      refine TL_call (he3 EntersC.en rfl rfl rfl rfl) (fun w hm => hall2 _ _ hm (sl_row (i := 2) rfl w hm)) rfl rfl rfl ?_
      intro _ _
      conv=>arg 8;simp only[zA,zB,zC,zD,zE,zF,zG,zH,zI,rowS,ret,id_eq]
      refine TW_on (sub_pick [3, 4] (by decide) rfl) ?_
      refine TW_one rfl ?_
      refine TL_callB [2] [0, 1, 3, 4] (by decide) rfl rfl (he3 EntersC.en rfl rfl rfl rfl) (fun w hm hb => hmk2 w _ hb) rfl rfl rfl ?_
      intro _ _
      conv=>arg 8;simp only[zA,zB,zC,zD,zE,zF,zG,zH,zI,rowS,ret,id_eq]
      refine TW_on (sub_pick [2, 3] (by decide) rfl) ?_
      generalize (b1 || more) = mo
      cases b2
      · repeat(first|((first|refine TW_plain rfl rfl ?_|refine TW_gmet rfl rfl rfl rfl ?_);first|refine QW QP ?_|refine QW QL ?_|refine QW QA ?_|refine QW QlT ?_|refine QW QlF ?_|refine QW QeT ?_|refine QW QeF ?_|refine QW QaA ?_)|refine TW_skip rfl rfl rfl rfl rfl rfl rfl ?_|refine TW_done ?_)
        refine E_pick [0, 1, 4, 2, 3] (by decide) rfl ?_
        exact E_mid () trivial (by repeat' (first | exact True.intro | refine And.intro rfl ?_)) rfl
      · repeat(first|((first|refine TW_plain rfl rfl ?_|refine TW_gmet rfl rfl rfl rfl ?_);first|refine QW QP ?_|refine QW QL ?_|refine QW QA ?_|refine QW QlT ?_|refine QW QlF ?_|refine QW QeT ?_|refine QW QeF ?_|refine QW QaA ?_)|refine TW_skip rfl rfl rfl rfl rfl rfl rfl ?_|refine TW_done ?_)
        refine E_pick [0, 1, 4, 2, 3] (by decide) rfl ?_
        exact E_mid () trivial (by repeat' (first | exact True.intro | refine And.intro rfl ?_)) rfl
    intro _ _
    generalize (b2 || (b1 || more)) = mo at *
    clear hmk1 hmk2 hall1 hall2
    repeat(first|refine QV QP ?_|refine QZ ?_|refine qcT rfl ?_|refine qcF rfl ?_|refine E_blockX ?_|refine E_blockO rfl ?_|refine qs rfl rfl rfl rfl rfl rfl ?_|((try refine qg rfl rfl rfl ?_);first|refine QV QP ?_|refine QV (rr_load1 TyC.ty rfl (at_blk (i := 4) rfl rfl)) ?_|refine QV QL ?_|refine QV QA ?_|refine QV QlT ?_|refine QV QlF ?_|refine QV QeT ?_|refine QV QeF ?_|refine QV QaA ?_))
    generalize hfr : roundR hn body R mo = fr at *
    obtain ⟨R2, mo2⟩ := fr
    dsimp only at i5
    refine T_loop (ι := Nat × List Bool × Bool) (fun (j, R', m') => j ≤ body.length ∧ R'.length = n ∧ roundR hn (body.drop j) R' m' = (R2, mo2)) (fun (j, _, m') => [(3, .pointer (some ⟨g3, 0, none⟩)), (5, .bool m'), (7, .pointer (some ⟨g7, 0, none⟩)), (11, (.slice (some ⟨b, off, none⟩) prods.length cp)), (12, .int .i64 prods.length), (13, .int .i64 (k : Int)), (44, .slice bb body.length cb), (45, .int .i64 body.length), (46, .int .i64 (j : Int))])
      (fun (_, R', _) => [rowBn n gE cE E1, rowBn n gR cR R', rowBn n gM cM M1, blkO g3 (facV (vRow n gE cE) vF vL (vRow n gR cR) (vRow n gM cM)).cells 41, blkO g7 #[.int .i64 (hn : Int), .slice bb body.length cb] 68]) (fun (j, _, _) => body.length - j) (0, R, mo) ⟨Nat.zero_le _, i3, hfr⟩ (by repeat' (first | exact True.intro | refine And.intro rfl ?_)) rfl ?_
    clear hfr
    rintro ⟨j, R', m'⟩ ⟨j1, j2, j3⟩
    dsimp only at j1 j2 j3 ⊢
    by_cases c7 : j < body.length
    · obtain ⟨b', off', rfl, hrb⟩ := (by
        obtain ⟨bs, cs, hv, _, _, hrd⟩ := hfl
        simp only [Value.slice.injEq, true_and] at hv
        obtain ⟨rfl, rfl⟩ := hv
        exact hrd (by omega) : ∃ b' off', bb = some ⟨b', off', none⟩ ∧ Rd w0 b' off' (body.flatMap symC))
      have hatx : ∀ (L : List Own) (q : Nat) (u : Value), (symC body[j])[q]? = some u → At B L ⟨b', off' + j * 2 + q, none⟩ u := fun L => at_elL SymS_len (fun q u hq => at_old0 ho (hrb q u hq)) c7
      have hx2 := hbody body[j] (List.getElem_mem c7)
      rw [List.drop_eq_getElem_cons c7, roundR_cons] at j3
      clear hbody hrb hfl hsb p4
      generalize body[j] = x at *
      obtain ⟨q, m⟩ := x
      dsimp only at hx2
      unfold stepR at j3
      dsimp only at j3
      by_cases c8 : q = 2
      · subst c8
        rw [if_pos rfl] at j3
        obtain ⟨y1, y2⟩ := hx2 rfl
        obtain ⟨mm, rfl⟩ : ∃ mm : Nat, m = mm := ⟨m.toNat, by omega⟩
        rw [Int.toNat_natCast] at j3
        have hcell := bool_at (l := R') (i := hn) (by omega)
        generalize R'.getD hn false = bh at *
        have hmk := fun w' B' hm => mark2_calls n gR cR R' mm bh w' B' j2 (by omega) hm
        have hl3 := markF_len R' mm bh
        rw [j2] at hl3
        generalize markF R' mm bh = m3 at *
        obtain ⟨R3, b3⟩ := m3
        dsimp only at *
        repeat(first|refine QV QP ?_|refine QZ ?_|refine qcT rfl ?_|refine qcF rfl ?_|refine E_blockX ?_|refine E_blockO rfl ?_|refine qs rfl rfl rfl rfl rfl rfl ?_|((try refine qg rfl rfl rfl ?_);first|refine QV QP ?_|refine QV (rr_idxc Und.eq TyC.ty rfl rfl c7) ?_|refine QV (rr_loadN TyC.ty rfl rfl (hatx _)) ?_|refine QV QL ?_|refine QV QA ?_|refine QV QlT ?_|refine QV QlF ?_|refine QV QeT ?_|refine QV QeF ?_|refine QV QaA ?_))
        clear hatx
        refine TL_new rfl fun g9 => ?_
        refine TL_storeB (i := 5) rfl rfl rfl rfl rfl rfl ?_
        conv=>arg 8;simp only[zA,zB,zC,zD,zE,zF,zG,zH,zI,rowS,ret,id_eq]
        repeat(first|refine QV QP ?_|refine QZ ?_|refine qcT rfl ?_|refine qcF rfl ?_|refine E_blockX ?_|refine E_blockO rfl ?_|refine qs rfl rfl rfl rfl rfl rfl ?_|((try refine qg rfl rfl rfl ?_);first|refine QV QP ?_|refine QV (rr_load1 TyC.ty rfl (at_blk (i := 5) rfl rfl)) ?_|refine QV QL ?_|refine QV QA ?_|refine QV QlT ?_|refine QV QlF ?_|refine QV QeT ?_|refine QV QeF ?_|refine QV QaA ?_))
        refine T_ord ([blkO g3 (facV (vRow n gE cE) vF vL (vRow n gR cR) (vRow n gM cM)).cells 41, blkO g7 #[.int .i64 (hn : Int), .slice (some ⟨b', off', none⟩) body.length cb] 68, blkO g9 #[.int .i64 2, .int .i64 (mm : Int)] 71]) (.calm 0 (.calm 1 (.calm 2 (.calm 3 (.calm 4 (.calm 5 (.calm 6 (.calm 7 (.calm 8 (.one 9 (.one 10 (.calm 11 (.calm 12 (.calm 13 (.calm 14 (.done)))))))))))))))) (sub_pick [3, 4, 5] (by decide) rfl) (by kernel_rfl) (by kernel_rfl) (by intro c a d v w h; cases d <;> exact h) ?_
        repeat(first|((first|refine TW_plain rfl rfl ?_|refine TW_gmet rfl rfl rfl rfl ?_);first|refine QW QP ?_|refine QW (rr_load1 TyC.ty rfl (at_blk (i := 0) rfl rfl)) ?_|refine QW (rr_load1 TyC.ty rfl (at_blk (i := 1) rfl rfl)) ?_|refine QW (rr_load1 TyC.ty rfl (at_blk (i := 2) rfl rfl)) ?_|refine QW (rr_idx1 Und.eq TyC.ty rfl rfl (show hn < n by omega)) ?_|refine QW QL ?_|refine QW QA ?_|refine QW QlT ?_|refine QW QlF ?_|refine QW QeT ?_|refine QW QeF ?_|refine QW QaA ?_)|refine TW_skip rfl rfl rfl rfl rfl rfl rfl ?_|refine TW_done ?_)
        refine TW_one rfl (TL_val (rr_load1 TyC.ty rfl (at_row (i := 1) rfl (by rw [Nat.zero_add]; exact hcell))) rfl rfl rfl (TW_on (sub_pick [3, 4, 5] (by decide) rfl) ?_))
        refine TW_one rfl ?_
        refine TL_callB [1] [0, 2, 3, 4, 5] (by decide) rfl rfl (he3 EntersC.en rfl rfl rfl rfl) (fun w hm hb => hmk w _ hb) rfl rfl rfl ?_
        intro _ _
        conv=>arg 8;simp only[zA,zB,zC,zD,zE,zF,zG,zH,zI,rowS,ret,id_eq]
        refine TW_on (sub_pick [2, 3, 4] (by decide) rfl) ?_
        cases b3
        · repeat(first|((first|refine TW_plain rfl rfl ?_|refine TW_gmet rfl rfl rfl rfl ?_);first|refine QW QP ?_|refine QW QL ?_|refine QW QA ?_|refine QW QlT ?_|refine QW QlF ?_|refine QW QeT ?_|refine QW QeF ?_|refine QW QaA ?_)|refine TW_skip rfl rfl rfl rfl rfl rfl rfl ?_|refine TW_done ?_)
          repeat(first|refine QV QP ?_|refine QZ ?_|refine qcT rfl ?_|refine qcF rfl ?_|refine E_blockX ?_|refine E_blockO rfl ?_|refine qs rfl rfl rfl rfl rfl rfl ?_|((try refine qg rfl rfl rfl ?_);first|refine QV QP ?_|refine QV QL ?_|refine QV QA ?_|refine QV QlT ?_|refine QV QlF ?_|refine QV QeT ?_|refine QV QeF ?_|refine QV QaA ?_))
          refine E_pick [0, 5, 1, 2, 3] (by decide) rfl ?_
          exact E_round (j + 1, R3, false || m') ⟨by omega, hl3, j3⟩ (by show body.length - (j + 1) < body.length - j; omega) (by repeat' (first | exact True.intro | refine And.intro rfl ?_)) rfl
        · repeat(first|((first|refine TW_plain rfl rfl ?_|refine TW_gmet rfl rfl rfl rfl ?_);first|refine QW QP ?_|refine QW QL ?_|refine QW QA ?_|refine QW QlT ?_|refine QW QlF ?_|refine QW QeT ?_|refine QW QeF ?_|refine QW QaA ?_)|refine TW_skip rfl rfl rfl rfl rfl rfl rfl ?_|refine TW_done ?_)
          repeat(first|refine QV QP ?_|refine QZ ?_|refine qcT rfl ?_|refine qcF rfl ?_|refine E_blockX ?_|refine E_blockO rfl ?_|refine qs rfl rfl rfl rfl rfl rfl ?_|((try refine qg rfl rfl rfl ?_);first|refine QV QP ?_|refine QV QL ?_|refine QV QA ?_|refine QV QlT ?_|refine QV QlF ?_|refine QV QeT ?_|refine QV QeF ?_|refine QV QaA ?_))
          refine E_pick [0, 5, 1, 2, 3] (by decide) rfl ?_
          exact E_round (j + 1, R3, true || m') ⟨by omega, hl3, j3⟩ (by show body.length - (j + 1) < body.length - j; omega) (by repeat' (first | exact True.intro | refine And.intro rfl ?_)) rfl
      · rw [if_neg c8] at j3
        dsimp only at j3
        repeat(first|refine QV QP ?_|refine QZ ?_|refine qcT rfl ?_|refine qcF rfl ?_|refine E_blockX ?_|refine E_blockO rfl ?_|refine qs rfl rfl rfl rfl rfl rfl ?_|((try refine qg rfl rfl rfl ?_);first|refine QV QP ?_|refine QV (rr_idxc Und.eq TyC.ty rfl rfl c7) ?_|refine QV (rr_loadN TyC.ty rfl rfl (hatx _)) ?_|refine QV QL ?_|refine QV QA ?_|refine QV QlT ?_|refine QV QlF ?_|refine QV QeT ?_|refine QV QeF ?_|refine QV QaA ?_))
        clear hatx
        refine TL_new rfl fun g9 => ?_
        refine TL_storeB (i := 5) rfl rfl rfl rfl rfl rfl ?_
        conv=>arg 8;simp only[zA,zB,zC,zD,zE,zF,zG,zH,zI,rowS,ret,id_eq]
        repeat(first|refine QV QP ?_|refine QZ ?_|refine qcT rfl ?_|refine qcF rfl ?_|refine E_blockX ?_|refine E_blockO rfl ?_|refine qs rfl rfl rfl rfl rfl rfl ?_|((try refine qg rfl rfl rfl ?_);first|refine QV QP ?_|refine QV (rr_load1 TyC.ty rfl (at_blk (i := 5) rfl rfl)) ?_|refine QV QL ?_|refine QV QA ?_|refine QV QlT ?_|refine QV QlF ?_|refine QV QeT ?_|refine QV QeF ?_|refine QV QaA ?_))
        refine E_pick [0, 1, 2, 3, 4] (by decide) rfl ?_
        exact E_round (j + 1, R', m') ⟨by omega, j2, j3⟩ (by show body.length - (j + 1) < body.length - j; omega) (by repeat' (first | exact True.intro | refine And.intro rfl ?_)) rfl
    · rw [List.drop_of_length_le (by omega)] at j3
      have j3 : (R', m') = (R2, mo2) := j3
      simp only [Prod.mk.injEq] at j3
      obtain ⟨rfl, rfl⟩ := j3
      repeat(first|refine QV QP ?_|refine QZ ?_|refine qcT rfl ?_|refine qcF rfl ?_|refine E_blockX ?_|refine E_blockO rfl ?_|refine qs rfl rfl rfl rfl rfl rfl ?_|((try refine qg rfl rfl rfl ?_);first|refine QV QP ?_|refine QV QL ?_|refine QV QA ?_|refine QV QlT ?_|refine QV QlF ?_|refine QV QeT ?_|refine QV QeF ?_|refine QV QaA ?_))
      refine E_pick [0, 1, 2, 3] (by decide) rfl ?_
      exact E_round (k + 1, ⟨E1, R', M1, m'⟩) ⟨by omega, hl1, j2, hl2, i5⟩ (by show prods.length - (k + 1) < prods.length - k; omega) (by repeat' (first | exact True.intro | refine And.intro rfl ?_)) rfl
  · rw [List.drop_of_length_le (by omega)] at i5
    have i5 : (⟨E, R, M, more⟩ : FS) = fin := i5
    subst i5
    repeat(first|refine QV QP ?_|refine QZ ?_|refine qcT rfl ?_|refine qcF rfl ?_|refine E_blockX ?_|refine E_blockO rfl ?_|refine qs rfl rfl rfl rfl rfl rfl ?_|((try refine qg rfl rfl rfl ?_);first|refine QV QP ?_|refine QV QL ?_|refine QV QA ?_|refine QV QlT ?_|refine QV QlF ?_|refine QV QeT ?_|refine QV QeF ?_|refine QV QaA ?_))
    exact E_ret1 rfl rfl fun w hm => hm.meetsB (S := ⟨fun (_ : Unit) => True, fun _ => .bool more, fun _ => [rowBn n gE cE E, rowBn n gR cR R, rowBn n gM cM M]⟩) () trivial [0, 1, 2] (by decide) rfl
end Go.Proofs.Ytlojfbnimmdehaa.eng

/- FactsD -/
namespace Go.Proofs.Ytlojfbnimmdehaa.eng
open Go.RowKit kit mix gramL factsL
def rowNn (n g c : Nat) (l : List Nat) : Own := rowO 97 1 (.slice (some ⟨g, 0, none⟩) n c) n (l.map bitV)
theorem add2_calls (n g cap : Nat) (l : List Nat) (i b : Nat) (w : World) (B : Base) (hl : okW n l) (hi : i < n) (hb : b < 18446744073709551616) (hm : Mem B [rowNn n g cap l] w) :
    Calls Try.prog 75 #[.slice (some ⟨g, 0, none⟩) n cap, .int .i64 (i : Int), bitV b] w (MeetsB ⟨fun (_ : Unit) => True, fun _ => .bool (addF l i b).2, fun _ => [rowNn n g cap (addF l i b).1]⟩ B) := by
  obtain ⟨rfl, h64⟩ := hl
  exact add_calls g cap l i b w B hi h64 hb hm
structure Rows4 where
  gE : Nat
  cE : Nat
  gF : Nat
  cF : Nat
  gW : Nat
  cW : Nat
  gM : Nat
  cM : Nat
theorem passF_cons (E M : List Bool) (p : gramL.Prod) (r : List gramL.Prod) (F : List Nat) (more : Bool) : passF E M (p :: r) F more = passF E M r (stepF E M p F more).1 (stepF E M p F more).2 := rfl
theorem passW_cons (E : List Bool) (F : List Nat) (p : gramL.Prod) (r : List gramL.Prod) (W : List Nat) (more : Bool) : passW E F (p :: r) W more = passW E F r (passWb E F p.1.toNat p.2 W more).1 (passWb E F p.1.toNat p.2 W more).2 := rfl
theorem passWb_cons (E : List Bool) (F : List Nat) (h : Nat) (x : Sym) (r : List Sym) (W : List Nat) (more : Bool) : passWb E F h (x :: r) W more = passWb E F h r (stepW E F h x r W more).1 (stepW E F h x r W more).2 := rfl
def setsF (E M : List Bool) (l : List gramL.Prod) (F : List Nat) : List Nat := factsL.fix (fun F => passF E M l F false) lack F
def setsW (E : List Bool) (F : List Nat) (l : List gramL.Prod) (W : List Nat) : List Nat := factsL.fix (fun W => passW E F l W false) lack W
set_option maxHeartbeats 8000000 in
theorem sets_calls (w0 : World) (v : Value) (g : Gram) (h : GraR (fun k => k < w0.heap.size) w0 v g) (hck : checkG g = 0) (n : Nat) (hn : g.nons = n) (x : Rows4) (vR : Value) (E : List Bool) (F W : List Nat) (M : List Bool) (hE : E.length = n) (hF : okW n F) (hW : okW n W) (hM : M.length = n) (w : World) (B : Base) (ho : Old w0 B) (hm : Mem B [rowBn n x.gE x.cE E, rowNn n x.gF x.cF F, rowNn n x.gW x.cW W, rowBn n x.gM x.cM M] w) :
    Calls Try.prog 41 #[v, facV (vRow n x.gE x.cE) (vRow n x.gF x.cF) (vRow n x.gW x.cW) vR (vRow n x.gM x.cM)] w (MeetsB ⟨fun (_ : Unit) => True, fun _ => .tuple #[], fun _ => [rowBn n x.gE x.cE E, rowNn n x.gF x.cF (setsF E M g.prods F), rowNn n x.gW x.cW (setsW E (setsF E M g.prods F) g.prods W), rowBn n x.gM x.cM M]⟩ B) := by
  obtain ⟨gE, cE, gF, cF, gW, cW, gM, cM⟩ := x
  dsimp only at *
  have hfine := fine_of hck hn
  obtain ⟨_, _, _, _, hlen, _⟩ := checkG_ok hck
  obtain ⟨vp, rfl, h1, _⟩ := h
  obtain ⟨bp, cp, rfl, hcp, hmp, hrp⟩ := h1
  unfold maxLen at hmp
  obtain ⟨t, nn, prods⟩ := g
  dsimp only at *
  subst hn
  have hfalls := fallsF (E := E) (M := M) hfine
  refine enterB hm (args := [graV t (n : Int) (.slice bp prods.length cp), facV (vRow n gE cE) (vRow n gF cF) (vRow n gW cW) vR (vRow n gM cM)]) (n := 80) Try.func41 rfl rfl rfl ?_
  refine T_seq (T_region (TL_box rfl rfl rfl fun g2 => TL_box rfl rfl rfl fun g3 => ?_))
  conv=>arg 8;simp only[zA,zB,zC,zD,zE,zF,zG,zH,zI,rowS,ret,id_eq]
  repeat(first|refine QV QP ?_|refine QZ ?_|refine qcT rfl ?_|refine qcF rfl ?_|refine E_blockX ?_|refine E_blockO rfl ?_|refine qs rfl rfl rfl rfl rfl rfl ?_|((try refine qg rfl rfl rfl ?_);first|refine QV QP ?_|refine QV QL ?_|refine QV QA ?_|refine QV QlT ?_|refine QV QlF ?_|refine QV QeT ?_|refine QV QeF ?_|refine QV QaA ?_))
  generalize hfin : setsF E M prods F = fin
  refine T_loop (ι := List Nat × Bool) (fun (F, more) => okW n F ∧ (more = true → setsF E M prods F = fin) ∧ (more = false → F = fin)) (fun (_, more) => [(2, .pointer (some ⟨g2, 0, none⟩)), (3, .pointer (some ⟨g3, 0, none⟩)), (4, .bool more)])
    (fun (F, _) => [rowBn n gE cE E, rowNn n gF cF F, rowNn n gW cW W, rowBn n gM cM M, blkO g2 (graV t (n : Int) (.slice bp prods.length cp)).cells 24, blkO g3 (facV (vRow n gE cE) (vRow n gF cF) (vRow n gW cW) vR (vRow n gM cM)).cells 41]) (fun (F, more) => 2 * lack F + (if more = true then 1 else 0)) (F, true) ⟨hF, fun _ => hfin, fun h => by cases h⟩ (by repeat' (first | exact True.intro | refine And.intro rfl ?_)) rfl ?_
  clear hm hF hfin
  rintro ⟨F, more⟩ ⟨i1, i2, i3⟩
  dsimp only at i1 i2 i3 ⊢
  cases more
  · have i3 := i3 rfl
    subst i3
    clear i2 hfalls
    have hfalls := fallsW (E := E) i1 hfine
    repeat(first|refine QV QP ?_|refine QZ ?_|refine qcT rfl ?_|refine qcF rfl ?_|refine E_blockX ?_|refine E_blockO rfl ?_|refine qs rfl rfl rfl rfl rfl rfl ?_|((try refine qg rfl rfl rfl ?_);first|refine QV QP ?_|refine QV QL ?_|refine QV QA ?_|refine QV QlT ?_|refine QV QlF ?_|refine QV QeT ?_|refine QV QeF ?_|refine QV QaA ?_))
    generalize hfin : setsW E F prods W = fin
    refine T_loop (ι := List Nat × Bool) (fun (W, more) => okW n W ∧ (more = true → setsW E F prods W = fin) ∧ (more = false → W = fin)) (fun (_, more) => [(2, .pointer (some ⟨g2, 0, none⟩)), (3, .pointer (some ⟨g3, 0, none⟩)), (7, .bool more)])
      (fun (W, _) => [rowBn n gE cE E, rowNn n gF cF F, rowNn n gW cW W, rowBn n gM cM M, blkO g2 (graV t (n : Int) (.slice bp prods.length cp)).cells 24, blkO g3 (facV (vRow n gE cE) (vRow n gF cF) (vRow n gW cW) vR (vRow n gM cM)).cells 41]) (fun (W, more) => 2 * lack W + (if more = true then 1 else 0)) (W, true) ⟨hW, fun _ => hfin, fun h => by cases h⟩ (by repeat' (first | exact True.intro | refine And.intro rfl ?_)) rfl ?_
    clear hfin hW
    clear W
    rintro ⟨W, more⟩ ⟨j1, j2, j3⟩
    dsimp only at j1 j2 j3 ⊢
    cases more
    · have j3 := j3 rfl
      subst j3
      repeat(first|refine QV QP ?_|refine QZ ?_|refine qcT rfl ?_|refine qcF rfl ?_|refine E_blockX ?_|refine E_blockO rfl ?_|refine qs rfl rfl rfl rfl rfl rfl ?_|((try refine qg rfl rfl rfl ?_);first|refine QV QP ?_|refine QV QL ?_|refine QV QA ?_|refine QV QlT ?_|refine QV QlF ?_|refine QV QeT ?_|refine QV QeF ?_|refine QV QaA ?_))
      exact E_end0 rfl fun w hm => hm.meetsB (S := ⟨fun (_ : Unit) => True, fun _ => .tuple #[], fun _ => [rowBn n gE cE E, rowNn n gF cF F, rowNn n gW cW W, rowBn n gM cM M]⟩) () trivial [0, 1, 2, 3] (by decide) rfl
    · have j2 := j2 rfl
      clear j3
      have hdone : ∀ W' m', passW E F prods W false = (W', m') → okW n W' ∧ (m' = true → setsW E F prods W' = fin) ∧ (m' = false → W' = fin) ∧ 2 * lack W' + (if m' = true then 1 else 0) < 2 * lack W + 1 := fun W' m' hp => by
        have hk := passW_ok (E := E) i1 prods W false hfine j1
        rw [hp] at hk
        dsimp only at hk
        refine ⟨hk.1, fun c => ?_, fun c => ?_, ?_⟩
        · rw [← j2]
          unfold setsW
          rw [fix_go hfalls j1 (by rw [hp]; exact c), hp]
        · rw [← j2]
          unfold setsW
          rw [fix_stop (by rw [hp]; exact c), hp]
        · have h2 := hk.2.2
          cases m'
          · have := hk.2.1; simp; omega
          · rcases h2 rfl with h | h
            · cases h
            · simp; omega
      repeat(first|refine QV QP ?_|refine QZ ?_|refine qcT rfl ?_|refine qcF rfl ?_|refine E_blockX ?_|refine E_blockO rfl ?_|refine qs rfl rfl rfl rfl rfl rfl ?_|((try refine qg rfl rfl rfl ?_);first|refine QV QP ?_|refine QV (rr_load1 TyC.ty rfl (at_blk (i := 4) rfl rfl)) ?_|refine QV QL ?_|refine QV QA ?_|refine QV QlT ?_|refine QV QlF ?_|refine QV QeT ?_|refine QV QeF ?_|refine QV QaA ?_))
      generalize hfp : passW E F prods W false = fp at *
      obtain ⟨Wx, mx⟩ := fp
      have hdone := hdone Wx mx rfl
      refine T_loop (ι := Nat × List Nat × Bool) (fun (k, W, m) => k ≤ prods.length ∧ okW n W ∧ passW E F (prods.drop k) W m = (Wx, mx)) (fun (k, _, m) => [(2, .pointer (some ⟨g2, 0, none⟩)), (3, .pointer (some ⟨g3, 0, none⟩)), (7, .bool m), (40, .slice bp prods.length cp), (41, .int .i64 prods.length), (42, .int .i64 (k : Int))])
        (fun (_, W, _) => [rowBn n gE cE E, rowNn n gF cF F, rowNn n gW cW W, rowBn n gM cM M, blkO g2 (graV t (n : Int) (.slice bp prods.length cp)).cells 24, blkO g3 (facV (vRow n gE cE) (vRow n gF cF) (vRow n gW cW) vR (vRow n gM cM)).cells 41]) (fun (k, _, _) => prods.length - k) (0, W, false) ⟨Nat.zero_le _, j1, hfp⟩ (by repeat' (first | exact True.intro | refine And.intro rfl ?_)) rfl ?_
      clear hfp j2
      rintro ⟨k, W', m⟩ ⟨k1, k2, k3⟩
      dsimp only at k1 k2 k3 ⊢
      by_cases c6 : k < prods.length
      · obtain ⟨b, off, rfl, _, hr⟩ := hrp (by omega)
        obtain ⟨bb, cb, q1, q2, q3⟩ := prod_at hr c6
        have hp1 := hfine.head prods[k] (List.getElem_mem c6)
        have hp2 := hfine.term prods[k] (List.getElem_mem c6)
        have hp3 := hfine.non prods[k] (List.getElem_mem c6)
        rw [List.drop_eq_getElem_cons c6, passW_cons] at k3
        have hat : ∀ (L : List Own) (j : Nat) (v : Value), ([.int .i64 prods[k].1, .slice bb prods[k].2.length cb] : List Value)[j]? = some v → At B L ⟨b, off + k * 2 + j, none⟩ v := fun L j v hj => at_old0 ho (q1 j v hj)
        have hfl := q3.flat (by decide)
        clear hr hrp q1 q3
        generalize prods[k] = p at *
        obtain ⟨hd, body⟩ := p
        dsimp only at *
        obtain ⟨hn, rfl⟩ : ∃ hn : Nat, hd = hn := ⟨hd.toNat, by omega⟩
        rw [Int.toNat_natCast] at hp1 k3
        have hsb : ∀ w' L, Mem B L w' → Sl w' (.slice bb body.length cb) body.length (body.flatMap symC) := fun w' L hm => hfl.gr (ho.mem hm)
        obtain ⟨bb2, cb2, he, h4, h5, h6⟩ := hfl
        simp only [Value.slice.injEq, true_and] at he
        obtain ⟨rfl, rfl⟩ := he
        unfold maxLen at h5
        repeat(first|refine QV QP ?_|refine QZ ?_|refine qcT rfl ?_|refine qcF rfl ?_|refine E_blockX ?_|refine E_blockO rfl ?_|refine qs rfl rfl rfl rfl rfl rfl ?_|((try refine qg rfl rfl rfl ?_);first|refine QV QP ?_|refine QV (rr_idxc Und.eq TyC.ty rfl rfl c6) ?_|refine QV (rr_loadN TyC.ty rfl rfl (hat _)) ?_|refine QV QL ?_|refine QV QA ?_|refine QV QlT ?_|refine QV QlF ?_|refine QV QeT ?_|refine QV QeF ?_|refine QV QaA ?_))
        clear hat
        refine TL_new rfl fun g9 => ?_
        refine TL_storeB (i := 6) rfl rfl rfl rfl rfl rfl ?_
        conv=>arg 8;simp only[zA,zB,zC,zD,zE,zF,zG,zH,zI,rowS,ret,id_eq]
        repeat(first|refine QV QP ?_|refine QZ ?_|refine qcT rfl ?_|refine qcF rfl ?_|refine E_blockX ?_|refine E_blockO rfl ?_|refine qs rfl rfl rfl rfl rfl rfl ?_|((try refine qg rfl rfl rfl ?_);first|refine QV QP ?_|refine QV (rr_load1 TyC.ty rfl (at_blk (i := 6) rfl rfl)) ?_|refine QV QL ?_|refine QV QA ?_|refine QV QlT ?_|refine QV QlF ?_|refine QV QeT ?_|refine QV QeF ?_|refine QV QaA ?_))
        refine T_loop (ι := Nat × List Nat × Bool) (fun (j, W, m) => j ≤ body.length ∧ okW n W ∧ passW E F (prods.drop (k + 1)) (passWb E F hn (body.drop j) W m).1 (passWb E F hn (body.drop j) W m).2 = (Wx, mx)) (fun (j, _, m) => [(2, .pointer (some ⟨g2, 0, none⟩)), (3, .pointer (some ⟨g3, 0, none⟩)), (7, .bool m), (9, .pointer (some ⟨g9, 0, none⟩)), (40, .slice (some ⟨b, off, none⟩) prods.length cp), (41, .int .i64 prods.length), (42, .int .i64 (k : Int)), (47, .slice bb body.length cb), (48, .int .i64 body.length), (49, .int .i64 (j : Int))])
          (fun (_, W, _) => [rowBn n gE cE E, rowNn n gF cF F, rowNn n gW cW W, rowBn n gM cM M, blkO g2 (graV t (n : Int) (.slice (some ⟨b, off, none⟩) prods.length cp)).cells 24, blkO g3 (facV (vRow n gE cE) (vRow n gF cF) (vRow n gW cW) vR (vRow n gM cM)).cells 41, blkO g9 #[.int .i64 (hn : Int), .slice bb body.length cb] 68]) (fun (j, _, _) => body.length - j) (0, W', m) ⟨Nat.zero_le _, k2, k3⟩ (by repeat' (first | exact True.intro | refine And.intro rfl ?_)) rfl ?_
        clear k2 k3
        rintro ⟨j, W2, m2⟩ ⟨k2, k3, k4⟩
        dsimp only at k2 k3 k4 ⊢
        by_cases c7 : j < body.length
        · obtain ⟨b2, off2, rfl, hr2⟩ := h6 (by omega)
          have hat2 := at_elL (W := B) (L := [rowBn n gE cE E, rowNn n gF cF F, rowNn n gW cW W2, rowBn n gM cM M, blkO g2 (graV t (n : Int) (.slice (some ⟨b, off, none⟩) prods.length cp)).cells 24, blkO g3 (facV (vRow n gE cE) (vRow n gF cF) (vRow n gW cW) vR (vRow n gM cM)).cells 41, blkO g9 #[.int .i64 (hn : Int), .slice (some ⟨b2, off2, none⟩) body.length cb] 68]) SymS_len (fun q x hq => at_old0 ho (hr2 q x hq)) c7
          have hx3 := hp3 body[j] (List.getElem_mem c7)
          have hsub : ∀ w' L, Mem B L w' → Sl w' (subV (some ⟨b2, off2, none⟩) cb 2 (j + 1) body.length) (body.drop (j + 1)).length ((body.drop (j + 1)).flatMap symC) := fun w' L hm => by
            have := sl_sub SymS_len (hsb w' L hm) (i := j + 1) (j := body.length) (by omega) (Nat.le_refl _)
            rwa [List.take_of_length_le (by simp)] at this
          have hbl : beginF E F (body.drop (j + 1)) (W2.getD hn 0) < 18446744073709551616 := beginF_lt i1 (getD_lt k3 _) fun x hx h => (hp2 x (List.mem_of_mem_drop hx) h).2
          have hbg := fun w' L (hm : Mem B L w') (hx : Sl w' (vRow n gE cE) E.length (E.map .bool)) (hy : Sl w' (vRow n gF cF) F.length (F.map bitV)) => begin_calls (vRow n gE cE) (vRow n gF cF) (vRow n gW cW) vR (vRow n gM cM) _ E F (body.drop (j + 1)) (W2.getD hn 0) w' hx hy (hsub w' L hm) (by rw [hE, i1.1]) (fun x hx => ⟨fun h => by have := hp2 x (List.mem_of_mem_drop hx) h; omega, fun h => by have := hp3 x (List.mem_of_mem_drop hx) h; rw [i1.1]; omega⟩) i1.2 (getD_lt k3 _)
          rw [hE, i1.1] at hbg
          have hcW : (W2.map bitV)[hn]? = some (bitV (W2.getD hn 0)) := bit_at (by rw [k3.1]; exact hp1.2)
          rw [List.drop_eq_getElem_cons c7, passWb_cons] at k4
          generalize body[j] = x at *
          obtain ⟨q, mn⟩ := x
          dsimp only at hx3
          unfold stepW at k4
          dsimp only at k4
          generalize W2.getD hn 0 = bh at *
          generalize beginF E F (body.drop (j + 1)) bh = bg at *
          repeat(first|refine QV QP ?_|refine QZ ?_|refine qcT rfl ?_|refine qcF rfl ?_|refine E_blockX ?_|refine E_blockO rfl ?_|refine qs rfl rfl rfl rfl rfl rfl ?_|((try refine qg rfl rfl rfl ?_);first|refine QV QP ?_|refine QV (rr_idxc Und.eq TyC.ty rfl rfl c7) ?_|refine QV (rr_loadN TyC.ty rfl rfl hat2) ?_|refine QV QL ?_|refine QV QA ?_|refine QV QlT ?_|refine QV QlF ?_|refine QV QeT ?_|refine QV QeF ?_|refine QV QaA ?_))
          clear hat2 hr2
          refine TL_new rfl fun g11 => ?_
          conv=>arg 8;simp only[zA,zB,zC,zD,zE,zF,zG,zH,zI,rowS,ret,id_eq]
          repeat(first|refine QV QP ?_|refine QZ ?_|refine qcT rfl ?_|refine qcF rfl ?_|refine E_blockX ?_|refine E_blockO rfl ?_|refine qs rfl rfl rfl rfl rfl rfl ?_|((try refine qg rfl rfl rfl ?_);first|refine QV QP ?_|refine QV QL ?_|refine QV QA ?_|refine QV QlT ?_|refine QV QlF ?_|refine QV QeT ?_|refine QV QeF ?_|refine QV QaA ?_))
          refine TL_storeB (i := 7) rfl rfl rfl rfl rfl rfl ?_
          conv=>arg 8;simp only[zA,zB,zC,zD,zE,zF,zG,zH,zI,rowS,ret,id_eq]
          by_cases c1 : q = 2
          · rw [if_pos c1] at k4
            obtain ⟨_, o1, o2⟩ := hx3 (by omega)
            subst c1
            obtain ⟨mm, rfl⟩ : ∃ mm : Nat, mn = mm := ⟨mn.toNat, by omega⟩
            rw [Int.toNat_natCast] at k4 o2
            have hok2 := addF_ok (i := mm) k3 hbl
            have hadd := fun w' B' hm => add2_calls n gW cW W2 mm bg w' B' k3 o2 hbl hm
            generalize addF W2 mm bg = ad at *
            obtain ⟨W3, ch⟩ := ad
            dsimp only at k4 hok2 hadd
            repeat(first|refine QV QP ?_|refine QZ ?_|refine qcT rfl ?_|refine qcF rfl ?_|refine E_blockX ?_|refine E_blockO rfl ?_|refine qs rfl rfl rfl rfl rfl rfl ?_|((try refine qg rfl rfl rfl ?_);first|refine QV QP ?_|refine QV (rr_load1 TyC.ty rfl (at_blk (i := 7) rfl rfl)) ?_|refine QV QL ?_|refine QV QA ?_|refine QV QlT ?_|refine QV QlF ?_|refine QV QeT ?_|refine QV QeF ?_|refine QV QaA ?_))
            refine T_ord ([blkO g3 (facV (vRow n gE cE) (vRow n gF cF) (vRow n gW cW) vR (vRow n gM cM)).cells 41, blkO g9 #[.int .i64 (hn : Int), .slice (some ⟨b2, off2, none⟩) body.length cb] 68, blkO g11 #[.int .i64 2, .int .i64 (mm : Int)] 71]) (.calm 0 (.calm 1 (.calm 2 (.calm 3 (.calm 4 (.calm 5 (.calm 6 (.calm 7 (.calm 8 (.calm 9 (.calm 10 (.calm 11 (.calm 12 (.calm 13 (.calm 14 (.one 15 (.one 16 (.one 17 (.calm 18 (.calm 19 (.calm 20 (.calm 21 (.done))))))))))))))))))))))) (sub_pick [5, 6, 7] (by decide) rfl) (by kernel_rfl) (by kernel_rfl) (by intro c a d v w h; cases d <;> exact h) ?_
            repeat(first|((first|refine TW_plain rfl rfl ?_|refine TW_gmet rfl rfl rfl rfl ?_);first|refine QW QP ?_|refine QW (rr_load1 TyC.ty rfl (at_blk (i := 0) rfl rfl)) ?_|refine QW (rr_load1 TyC.ty rfl (at_blk (i := 1) rfl rfl)) ?_|refine QW (rr_load1 TyC.ty rfl (at_blk (i := 2) rfl rfl)) ?_|refine QW (rr_loadB (i := 0) TyC.ty rfl rfl rfl) ?_|refine QW (rr_slfrom (i := j + 1) Und.eq TyC.ty rfl rfl c7 h4) ?_|refine QW (rr_idx1 Und.eq TyC.ty rfl rfl hp1.2) ?_|refine QW QL ?_|refine QW QA ?_|refine QW QlT ?_|refine QW QlF ?_|refine QW QeT ?_|refine QW QeF ?_|refine QW QaA ?_)|refine TW_skip rfl rfl rfl rfl rfl rfl rfl ?_|refine TW_done ?_)
            refine TW_one rfl ?_
            refine TL_val (rr_load1 TyC.ty rfl (at_row (i := 2) rfl (by rw [Nat.zero_add]; exact hcW))) rfl rfl rfl ?_
            refine TW_on (sub_pick [5, 6, 7] (by decide) rfl) ?_
            refine TW_one rfl ?_
            refine TL_call (he3 EntersC.en rfl rfl rfl rfl) (fun w hm => hbg _ _ hm (sl_row (i := 0) rfl w hm) (sl_row (i := 1) rfl w hm)) rfl rfl rfl ?_
            intro _ _
            conv=>arg 8;simp only[zA,zB,zC,zD,zE,zF,zG,zH,zI,rowS,ret,id_eq]
            refine TW_on (sub_pick [5, 6, 7] (by decide) rfl) ?_
            refine TW_one rfl ?_
            refine TL_callB [2] [0, 1, 3, 4, 5, 6, 7] (by decide) rfl rfl (he3 EntersC.en rfl rfl rfl rfl) (fun w hm hb => hadd w _ hb) rfl rfl rfl ?_
            intro _ _
            conv=>arg 8;simp only[zA,zB,zC,zD,zE,zF,zG,zH,zI,rowS,ret,id_eq]
            refine TW_on (sub_pick [4, 5, 6] (by decide) rfl) ?_
            cases ch
            · repeat(first|((first|refine TW_plain rfl rfl ?_|refine TW_gmet rfl rfl rfl rfl ?_);first|refine QW QP ?_|refine QW QL ?_|refine QW QA ?_|refine QW QlT ?_|refine QW QlF ?_|refine QW QeT ?_|refine QW QeF ?_|refine QW QaA ?_)|refine TW_skip rfl rfl rfl rfl rfl rfl rfl ?_|refine TW_done ?_)
              repeat(first|refine QV QP ?_|refine QZ ?_|refine qcT rfl ?_|refine qcF rfl ?_|refine E_blockX ?_|refine E_blockO rfl ?_|refine qs rfl rfl rfl rfl rfl rfl ?_|((try refine qg rfl rfl rfl ?_);first|refine QV QP ?_|refine QV QL ?_|refine QV QA ?_|refine QV QlT ?_|refine QV QlF ?_|refine QV QeT ?_|refine QV QeF ?_|refine QV QaA ?_))
              refine E_pick [0, 1, 7, 2, 3, 4, 5] (by decide) rfl ?_
              exact E_round (j + 1, W3, false || m2) ⟨by omega, hok2, k4⟩ (by show body.length - (j + 1) < body.length - j; omega) (by repeat' (first | exact True.intro | refine And.intro rfl ?_)) rfl
            · repeat(first|((first|refine TW_plain rfl rfl ?_|refine TW_gmet rfl rfl rfl rfl ?_);first|refine QW QP ?_|refine QW QL ?_|refine QW QA ?_|refine QW QlT ?_|refine QW QlF ?_|refine QW QeT ?_|refine QW QeF ?_|refine QW QaA ?_)|refine TW_skip rfl rfl rfl rfl rfl rfl rfl ?_|refine TW_done ?_)
              repeat(first|refine QV QP ?_|refine QZ ?_|refine qcT rfl ?_|refine qcF rfl ?_|refine E_blockX ?_|refine E_blockO rfl ?_|refine qs rfl rfl rfl rfl rfl rfl ?_|((try refine qg rfl rfl rfl ?_);first|refine QV QP ?_|refine QV QL ?_|refine QV QA ?_|refine QV QlT ?_|refine QV QlF ?_|refine QV QeT ?_|refine QV QeF ?_|refine QV QaA ?_))
              refine E_pick [0, 1, 7, 2, 3, 4, 5] (by decide) rfl ?_
              exact E_round (j + 1, W3, true || m2) ⟨by omega, hok2, k4⟩ (by show body.length - (j + 1) < body.length - j; omega) (by repeat' (first | exact True.intro | refine And.intro rfl ?_)) rfl
          · rw [if_neg c1] at k4
            repeat(first|refine QV QP ?_|refine QZ ?_|refine qcT rfl ?_|refine qcF rfl ?_|refine E_blockX ?_|refine E_blockO rfl ?_|refine qs rfl rfl rfl rfl rfl rfl ?_|((try refine qg rfl rfl rfl ?_);first|refine QV QP ?_|refine QV (rr_load1 TyC.ty rfl (at_blk (i := 7) rfl rfl)) ?_|refine QV QL ?_|refine QV QA ?_|refine QV QlT ?_|refine QV QlF ?_|refine QV QeT ?_|refine QV QeF ?_|refine QV QaA ?_))
            refine E_pick [0, 1, 2, 3, 4, 5, 6] (by decide) rfl ?_
            exact E_round (j + 1, W2, m2) ⟨c7, k3, k4⟩ (by show body.length - (j + 1) < body.length - j; omega) (by repeat' (first | exact True.intro | refine And.intro rfl ?_)) rfl
        · rw [show body.drop j = [] from List.drop_of_length_le (by omega)] at k4
          repeat(first|refine QV QP ?_|refine QZ ?_|refine qcT rfl ?_|refine qcF rfl ?_|refine E_blockX ?_|refine E_blockO rfl ?_|refine qs rfl rfl rfl rfl rfl rfl ?_|((try refine qg rfl rfl rfl ?_);first|refine QV QP ?_|refine QV QL ?_|refine QV QA ?_|refine QV QlT ?_|refine QV QlF ?_|refine QV QeT ?_|refine QV QeF ?_|refine QV QaA ?_))
          refine E_pick [0, 1, 2, 3, 4, 5] (by decide) rfl ?_
          exact E_round (k + 1, W2, m2) ⟨by omega, k3, k4⟩ (by show prods.length - (k + 1) < prods.length - k; omega) (by repeat' (first | exact True.intro | refine And.intro rfl ?_)) rfl
      · rw [List.drop_of_length_le (by omega)] at k3
        have k3 : (W', m) = (Wx, mx) := k3
        simp only [Prod.mk.injEq] at k3
        obtain ⟨rfl, rfl⟩ := k3
        obtain ⟨d1, d2, d3, d4⟩ := hdone
        repeat(first|refine QV QP ?_|refine QZ ?_|refine qcT rfl ?_|refine qcF rfl ?_|refine E_blockX ?_|refine E_blockO rfl ?_|refine qs rfl rfl rfl rfl rfl rfl ?_|((try refine qg rfl rfl rfl ?_);first|refine QV QP ?_|refine QV QL ?_|refine QV QA ?_|refine QV QlT ?_|refine QV QlF ?_|refine QV QeT ?_|refine QV QeF ?_|refine QV QaA ?_))
        exact E_round (W', m) ⟨d1, d2, d3⟩ d4 (by repeat' (first | exact True.intro | refine And.intro rfl ?_)) rfl
  · have i2 := i2 rfl
    clear i3
    have hdone : ∀ F' m', passF E M prods F false = (F', m') → okW n F' ∧ (m' = true → setsF E M prods F' = fin) ∧ (m' = false → F' = fin) ∧ 2 * lack F' + (if m' = true then 1 else 0) < 2 * lack F + 1 := fun F' m' hp => by
      have hk := passF_ok (E := E) (M := M) prods F false hfine i1
      rw [hp] at hk
      dsimp only at hk
      refine ⟨hk.1, fun c => ?_, fun c => ?_, ?_⟩
      · rw [← i2]
        unfold setsF
        rw [fix_go hfalls i1 (by rw [hp]; exact c), hp]
      · rw [← i2]
        unfold setsF
        rw [fix_stop (by rw [hp]; exact c), hp]
      · have h2 := hk.2.2
        cases m'
        · have := hk.2.1; simp; omega
        · rcases h2 rfl with h | h
          · cases h
          · simp; omega
    repeat(first|refine QV QP ?_|refine QZ ?_|refine qcT rfl ?_|refine qcF rfl ?_|refine E_blockX ?_|refine E_blockO rfl ?_|refine qs rfl rfl rfl rfl rfl rfl ?_|((try refine qg rfl rfl rfl ?_);first|refine QV QP ?_|refine QV (rr_load1 TyC.ty rfl (at_blk (i := 4) rfl rfl)) ?_|refine QV QL ?_|refine QV QA ?_|refine QV QlT ?_|refine QV QlF ?_|refine QV QeT ?_|refine QV QeF ?_|refine QV QaA ?_))
    generalize hfp : passF E M prods F false = fp at *
    obtain ⟨Fx, mx⟩ := fp
    have hdone := hdone Fx mx rfl
    refine T_loop (ι := Nat × List Nat × Bool) (fun (k, F, m) => k ≤ prods.length ∧ okW n F ∧ passF E M (prods.drop k) F m = (Fx, mx)) (fun (k, _, m) => [(2, .pointer (some ⟨g2, 0, none⟩)), (3, .pointer (some ⟨g3, 0, none⟩)), (4, .bool m), (14, .slice bp prods.length cp), (15, .int .i64 prods.length), (16, .int .i64 (k : Int))])
      (fun (_, F, _) => [rowBn n gE cE E, rowNn n gF cF F, rowNn n gW cW W, rowBn n gM cM M, blkO g2 (graV t (n : Int) (.slice bp prods.length cp)).cells 24, blkO g3 (facV (vRow n gE cE) (vRow n gF cF) (vRow n gW cW) vR (vRow n gM cM)).cells 41]) (fun (k, _, _) => prods.length - k) (0, F, false) ⟨Nat.zero_le _, i1, hfp⟩ (by repeat' (first | exact True.intro | refine And.intro rfl ?_)) rfl ?_
    clear hfp i2
    rintro ⟨k, F', m⟩ ⟨j1, j2, j3⟩
    dsimp only at j1 j2 j3 ⊢
    by_cases c6 : k < prods.length
    · obtain ⟨b, off, rfl, _, hr⟩ := hrp (by omega)
      obtain ⟨bb, cb, q1, q2, q3⟩ := prod_at hr c6
      have hp1 := hfine.head prods[k] (List.getElem_mem c6)
      have hp2 := hfine.term prods[k] (List.getElem_mem c6)
      have hp3 := hfine.non prods[k] (List.getElem_mem c6)
      rw [List.drop_eq_getElem_cons c6, passF_cons] at j3
      have hat : ∀ (L : List Own) (j : Nat) (v : Value), ([.int .i64 prods[k].1, .slice bb prods[k].2.length cb] : List Value)[j]? = some v → At B L ⟨b, off + k * 2 + j, none⟩ v := fun L j v hj => at_old0 ho (q1 j v hj)
      have hfl := q3.flat (by decide)
      clear hr hrp q1 q3
      generalize prods[k] = p at *
      obtain ⟨hd, body⟩ := p
      dsimp only at *
      obtain ⟨hn, rfl⟩ : ∃ hn : Nat, hd = hn := ⟨hd.toNat, by omega⟩
      rw [Int.toNat_natCast] at hp1
      have hsb : ∀ w' L, Mem B L w' → Sl w' (.slice bb body.length cb) body.length (body.flatMap symC) := fun w' L hm => hfl.gr (ho.mem hm)
      have hall := fun w' L (hm : Mem B L w') (hx : Sl w' (vRow n gM cM) M.length (M.map .bool)) => allB_calls (vRow n gM cM) (.slice bb body.length cb) M body true w' hx (hsb w' L hm) (fun x hx hx2 => by have := hp3 x hx (by omega); rw [hM]; omega)
      rw [hM] at hall
      have hbg := fun w' L (hm : Mem B L w') (hx : Sl w' (vRow n gE cE) E.length (E.map .bool)) (hy : Sl w' (vRow n gF cF) F'.length (F'.map bitV)) => begin_calls (vRow n gE cE) (vRow n gF cF) (vRow n gW cW) vR (vRow n gM cM) (.slice bb body.length cb) E F' body 0 w' hx hy (hsb w' L hm) (by rw [hE, j2.1]) (fun x hx => ⟨fun h => by have := hp2 x hx h; omega, fun h => by have := hp3 x hx h; rw [j2.1]; omega⟩) j2.2 (by decide)
      rw [hE, j2.1] at hbg
      unfold stepF at j3
      dsimp only at j3
      rw [Int.toNat_natCast] at j3
      generalize allF M body true = a1 at *
      have hbl : beginF E F' body 0 < 18446744073709551616 := beginF_lt j2 (by decide) fun x hx h => (hp2 x hx h).2
      generalize beginF E F' body 0 = bg at *
      repeat(first|refine QV QP ?_|refine QZ ?_|refine qcT rfl ?_|refine qcF rfl ?_|refine E_blockX ?_|refine E_blockO rfl ?_|refine qs rfl rfl rfl rfl rfl rfl ?_|((try refine qg rfl rfl rfl ?_);first|refine QV QP ?_|refine QV (rr_idxc Und.eq TyC.ty rfl rfl c6) ?_|refine QV (rr_loadN TyC.ty rfl rfl (hat _)) ?_|refine QV QL ?_|refine QV QA ?_|refine QV QlT ?_|refine QV QlF ?_|refine QV QeT ?_|refine QV QeF ?_|refine QV QaA ?_))
      clear hat
      refine TL_new rfl fun g6 => ?_
      refine TL_storeB (i := 6) rfl rfl rfl rfl rfl rfl ?_
      conv=>arg 8;simp only[zA,zB,zC,zD,zE,zF,zG,zH,zI,rowS,ret,id_eq]
      repeat(first|refine QV QP ?_|refine QZ ?_|refine qcT rfl ?_|refine qcF rfl ?_|refine E_blockX ?_|refine E_blockO rfl ?_|refine qs rfl rfl rfl rfl rfl rfl ?_|((try refine qg rfl rfl rfl ?_);first|refine QV QP ?_|refine QV (rr_load1 TyC.ty rfl (at_blk (i := 5) rfl rfl)) ?_|refine QV (rr_load1 TyC.ty rfl (at_blk (i := 6) rfl rfl)) ?_|refine QV QL ?_|refine QV QA ?_|refine QV QlT ?_|refine QV QlF ?_|refine QV QeT ?_|refine QV QeF ?_|refine QV QaA ?_))
      refine TL_call (he3 EntersC.en rfl rfl rfl rfl) (fun w hm => hall _ _ hm (sl_row (i := 3) rfl w hm)) rfl rfl rfl ?_
      intro _ _
      conv=>arg 8;simp only[zA,zB,zC,zD,zE,zF,zG,zH,zI,rowS,ret,id_eq]
      cases a1
      · rw [if_neg (by decide)] at j3
        repeat(first|refine QV QP ?_|refine QZ ?_|refine qcT rfl ?_|refine qcF rfl ?_|refine E_blockX ?_|refine E_blockO rfl ?_|refine qs rfl rfl rfl rfl rfl rfl ?_|((try refine qg rfl rfl rfl ?_);first|refine QV QP ?_|refine QV QL ?_|refine QV QA ?_|refine QV QlT ?_|refine QV QlF ?_|refine QV QeT ?_|refine QV QeF ?_|refine QV QaA ?_))
        refine E_pick [0, 1, 2, 3, 4, 5] (by decide) rfl ?_
        exact E_round (k + 1, F', m) ⟨by omega, j2, j3⟩ (by show prods.length - (k + 1) < prods.length - k; omega) (by repeat' (first | exact True.intro | refine And.intro rfl ?_)) rfl
      · rw [if_pos rfl] at j3
        have hok2 := addF_ok (i := hn) j2 hbl
        have hadd := fun w' B' hm => add2_calls n gF cF F' hn bg w' B' j2 hp1.2 hbl hm
        generalize addF F' hn bg = ad at *
        obtain ⟨F2, ch⟩ := ad
        dsimp only at *
        repeat(first|refine QV QP ?_|refine QZ ?_|refine qcT rfl ?_|refine qcF rfl ?_|refine E_blockX ?_|refine E_blockO rfl ?_|refine qs rfl rfl rfl rfl rfl rfl ?_|((try refine qg rfl rfl rfl ?_);first|refine QV QP ?_|refine QV QL ?_|refine QV QA ?_|refine QV QlT ?_|refine QV QlF ?_|refine QV QeT ?_|refine QV QeF ?_|refine QV QaA ?_))
        refine T_ord ([blkO g3 (facV (vRow n gE cE) (vRow n gF cF) (vRow n gW cW) vR (vRow n gM cM)).cells 41, blkO g6 #[.int .i64 (hn : Int), .slice bb body.length cb] 68]) (.calm 0 (.calm 1 (.calm 2 (.calm 3 (.calm 4 (.calm 5 (.calm 6 (.one 7 (.one 8 (.calm 9 (.calm 10 (.calm 11 (.calm 12 (.done)))))))))))))) (sub_pick [5, 6] (by decide) rfl) (by kernel_rfl) (by kernel_rfl) (by intro c a d v w h; cases d <;> exact h) ?_
        repeat(first|((first|refine TW_plain rfl rfl ?_|refine TW_gmet rfl rfl rfl rfl ?_);first|refine QW QP ?_|refine QW (rr_load1 TyC.ty rfl (at_blk (i := 0) rfl rfl)) ?_|refine QW (rr_load1 TyC.ty rfl (at_blk (i := 1) rfl rfl)) ?_|refine QW (rr_loadB (i := 0) TyC.ty rfl rfl rfl) ?_|refine QW QL ?_|refine QW QA ?_|refine QW QlT ?_|refine QW QlF ?_|refine QW QeT ?_|refine QW QeF ?_|refine QW QaA ?_)|refine TW_skip rfl rfl rfl rfl rfl rfl rfl ?_|refine TW_done ?_)
        refine TW_one rfl ?_
        refine TL_call (he3 EntersC.en rfl rfl rfl rfl) (fun w hm => hbg _ _ hm (sl_row (i := 0) rfl w hm) (sl_row (i := 1) rfl w hm)) rfl rfl rfl ?_
        intro _ _
        conv=>arg 8;simp only[zA,zB,zC,zD,zE,zF,zG,zH,zI,rowS,ret,id_eq]
        refine TW_on (sub_pick [5, 6] (by decide) rfl) ?_
        refine TW_one rfl ?_
        refine TL_callB [1] [0, 2, 3, 4, 5, 6] (by decide) rfl rfl (he3 EntersC.en rfl rfl rfl rfl) (fun w hm hb => hadd w _ hb) rfl rfl rfl ?_
        intro _ _
        conv=>arg 8;simp only[zA,zB,zC,zD,zE,zF,zG,zH,zI,rowS,ret,id_eq]
        refine TW_on (sub_pick [4, 5] (by decide) rfl) ?_
        cases ch
        · repeat(first|((first|refine TW_plain rfl rfl ?_|refine TW_gmet rfl rfl rfl rfl ?_);first|refine QW QP ?_|refine QW QL ?_|refine QW QA ?_|refine QW QlT ?_|refine QW QlF ?_|refine QW QeT ?_|refine QW QeF ?_|refine QW QaA ?_)|refine TW_skip rfl rfl rfl rfl rfl rfl rfl ?_|refine TW_done ?_)
          repeat(first|refine QV QP ?_|refine QZ ?_|refine qcT rfl ?_|refine qcF rfl ?_|refine E_blockX ?_|refine E_blockO rfl ?_|refine qs rfl rfl rfl rfl rfl rfl ?_|((try refine qg rfl rfl rfl ?_);first|refine QV QP ?_|refine QV QL ?_|refine QV QA ?_|refine QV QlT ?_|refine QV QlF ?_|refine QV QeT ?_|refine QV QeF ?_|refine QV QaA ?_))
          refine E_pick [0, 6, 1, 2, 3, 4] (by decide) rfl ?_
          exact E_round (k + 1, F2, false || m) ⟨by omega, hok2, j3⟩ (by show prods.length - (k + 1) < prods.length - k; omega) (by repeat' (first | exact True.intro | refine And.intro rfl ?_)) rfl
        · repeat(first|((first|refine TW_plain rfl rfl ?_|refine TW_gmet rfl rfl rfl rfl ?_);first|refine QW QP ?_|refine QW QL ?_|refine QW QA ?_|refine QW QlT ?_|refine QW QlF ?_|refine QW QeT ?_|refine QW QeF ?_|refine QW QaA ?_)|refine TW_skip rfl rfl rfl rfl rfl rfl rfl ?_|refine TW_done ?_)
          repeat(first|refine QV QP ?_|refine QZ ?_|refine qcT rfl ?_|refine qcF rfl ?_|refine E_blockX ?_|refine E_blockO rfl ?_|refine qs rfl rfl rfl rfl rfl rfl ?_|((try refine qg rfl rfl rfl ?_);first|refine QV QP ?_|refine QV QL ?_|refine QV QA ?_|refine QV QlT ?_|refine QV QlF ?_|refine QV QeT ?_|refine QV QeF ?_|refine QV QaA ?_))
          refine E_pick [0, 6, 1, 2, 3, 4] (by decide) rfl ?_
          exact E_round (k + 1, F2, true || m) ⟨by omega, hok2, j3⟩ (by show prods.length - (k + 1) < prods.length - k; omega) (by repeat' (first | exact True.intro | refine And.intro rfl ?_)) rfl
    · rw [List.drop_of_length_le (by omega)] at j3
      have j3 : (F', m) = (Fx, mx) := j3
      simp only [Prod.mk.injEq] at j3
      obtain ⟨rfl, rfl⟩ := j3
      obtain ⟨d1, d2, d3, d4⟩ := hdone
      repeat(first|refine QV QP ?_|refine QZ ?_|refine qcT rfl ?_|refine qcF rfl ?_|refine E_blockX ?_|refine E_blockO rfl ?_|refine qs rfl rfl rfl rfl rfl rfl ?_|((try refine qg rfl rfl rfl ?_);first|refine QV QP ?_|refine QV QL ?_|refine QV QA ?_|refine QV QlT ?_|refine QV QlF ?_|refine QV QeT ?_|refine QV QeF ?_|refine QV QaA ?_))
      exact E_round (F', m) ⟨d1, d2, d3⟩ d4 (by repeat' (first | exact True.intro | refine And.intro rfl ?_)) rfl
end Go.Proofs.Ytlojfbnimmdehaa.eng

/- MixX -/
namespace Go.Proofs.Ytlojfbnimmdehaa.eng
open Go.RowKit kit mix
theorem OwnsP.perm {p : Nat → Prop} {w : World} {L L' : List Own} (h : OwnsP p w L) (hp : L.Perm L') : OwnsP p w L' := by
  have hpw : L.Pairwise (fun o o' => ∀ k, o.foot k → ¬ o'.foot k) := List.pairwise_iff_getElem.2 fun i j hi hj hij => h.apart i j _ _ (by omega) (List.getElem?_eq_getElem hi) (List.getElem?_eq_getElem hj)
  have hpw' := List.pairwise_iff_getElem.1 ((hp.pairwise_iff (fun hxy k h1 h2 => hxy k h2 h1)).1 hpw)
  refine ⟨fun i o hi => ?_, fun i j o o' hij hi hj k h1 h2 => ?_⟩
  · obtain ⟨j, hj⟩ := List.getElem?_of_mem (hp.symm.subset (List.mem_of_getElem? hi))
    exact h.all j o hj
  · obtain ⟨hi', rfl⟩ := List.getElem?_eq_some_iff.1 hi
    obtain ⟨hj', rfl⟩ := List.getElem?_eq_some_iff.1 hj
    rcases Nat.lt_or_gt_of_ne hij with h3 | h3
    · exact hpw' i j hi' hj' h3 k h1 h2
    · exact hpw' j i hj' hi' h3 k h2 h1
theorem Mem.perm {W : Base} {w : World} {L L' : List Own} (h : Mem W L w) (hp : L.Perm L') : Mem W L' w := ⟨h.low, h.owns.perm hp⟩
theorem look_perm {l l' : Fr} (hp : l.Perm l') : (l.map (·.1)).Nodup → ∀ (fr : Fr) (i : Nat), look (l ++ fr) i = look (l' ++ fr) i := by
  induction hp with
  | nil => intro _ _ _; rfl
  | cons x _ ih =>
    intro hn fr i
    rw [List.map_cons, List.nodup_cons] at hn
    obtain ⟨k, v⟩ := x
    show (bif Nat.beq k i then some v else _) = (bif Nat.beq k i then some v else _)
    have e := ih hn.2 fr i
    exact congrArg (fun z => bif Nat.beq k i then some v else z) e
  | swap x y l =>
    intro hn fr i
    obtain ⟨k, v⟩ := x
    obtain ⟨k2, v2⟩ := y
    simp only [List.map_cons, List.nodup_cons, List.mem_cons, not_or] at hn
    show (bif Nat.beq k2 i then some v2 else bif Nat.beq k i then some v else _) = (bif Nat.beq k i then some v else bif Nat.beq k2 i then some v2 else _)
    cases e : Nat.beq k2 i
    · rfl
    · cases e2 : Nat.beq k i
      · rfl
      · have a := Nat.eq_of_beq_eq_true e
        have b := Nat.eq_of_beq_eq_true e2
        exact absurd (a.trans b.symm) hn.1.1
  | trans h1 _ ih1 ih2 =>
    intro hn fr i
    rw [ih1 hn, ih2 ((h1.map _).nodup_iff.1 hn)]
theorem perm_lift {α β : Type} (f : α → β) {l l' : List β} (h : l.Perm l') : ∀ dn : List α, dn.map f = l → ∃ dn' : List α, dn'.Perm dn ∧ dn'.map f = l' := by
  induction h with
  | nil => exact fun dn h => ⟨dn, .refl _, h⟩
  | cons x _ ih =>
    intro dn h
    match dn, h with
    | y :: dn, h =>
      simp only [List.map_cons, List.cons.injEq] at h
      obtain ⟨d', h1, h2⟩ := ih dn h.2
      exact ⟨y :: d', h1.cons y, by simp [h.1, h2]⟩
  | swap x y l =>
    intro dn h
    match dn, h with
    | a :: b :: dn, h =>
      simp only [List.map_cons, List.cons.injEq] at h
      exact ⟨b :: a :: dn, List.Perm.swap _ _ _, by simp [h.1, h.2.1, h.2.2]⟩
  | trans _ _ ih1 ih2 =>
    intro dn h
    obtain ⟨d1, h1, h2⟩ := ih1 dn h
    obtain ⟨d2, h3, h4⟩ := ih2 d1 h2
    exact ⟨d2, h3.trans h1, h4⟩
def subs : List Nat → List (List Nat)
  | [] => [[]]
  | a :: r => subs r ++ (subs r).map (a :: ·)
theorem filter_subs (p : Nat → Bool) : ∀ l, l.filter p ∈ subs l
  | [] => by simp [subs]
  | a :: r => by
    have ih := filter_subs p r
    unfold subs
    rw [List.filter_cons]
    split
    · exact List.mem_append_right _ (List.mem_map_of_mem ih)
    · exact List.mem_append_left _ ih
/-- a maker of a region -/
structure Mk where
  i : Nat
  d : Nat
  v : Nat → Value
  own : Nat → Own
def frm (dn : List (Mk × Nat)) : Fr := dn.map fun x => (x.1.d, x.1.v x.2)
def owm (dn : List (Mk × Nat)) : List Own := dn.map fun x => x.1.own x.2
def markL (listed : Array Bool) (D : List Nat) : Array Bool := D.foldl (fun l i => l.setIfInBounds i true) listed
theorem markL_get (D : List Nat) : ∀ (listed : Array Bool) (j : Nat), (markL listed D)[j]? = (listed[j]?).map fun b => b || D.contains j := by
  induction D with
  | nil => intro listed j; simp [markL]
  | cons a r ih =>
    intro listed j
    show (markL (listed.setIfInBounds a true) r)[j]? = _
    rw [ih, Array.getElem?_setIfInBounds]
    by_cases c : a = j
    · subst c
      simp
      split <;> simp_all
    · rw [if_neg c]
      have : ¬ j = a := fun h => c h.symm
      simp [this]
theorem markL_same {listed : Array Bool} {D D' : List Nat} (h : ∀ j, D.contains j = D'.contains j) : markL listed D = markL listed D' := by
  apply Array.ext_getElem?
  intro j
  rw [markL_get, markL_get, h j]
def manyB (ops : Array Oper) (is : List Nat) (ends : List (List Nat)) (listed : Array Bool) : Bool := (subs is).all fun D => ends.contains D || decide (Region.ready .any ops (markL listed D) = is.filter fun i => !D.contains i)
theorem nodup_le : ∀ (l l' : List Nat), l.Nodup → (∀ x ∈ l, x ∈ l') → l.length ≤ l'.length
  | [], _, _, _ => Nat.zero_le _
  | a :: r, l', hn, hs => by
    rw [List.nodup_cons] at hn
    have ha := hs a (by simp)
    have := nodup_le r (l'.erase a) hn.2 fun x hx => (List.mem_erase_of_ne (fun (e : x = a) => hn.1 (by rw [← e]; exact hx))).2 (hs x (by simp [hx]))
    rw [List.length_erase_of_mem ha] at this
    have := List.length_pos_of_mem ha
    simp; omega
theorem nodup_perm : ∀ (l l' : List Nat), l.Nodup → (∀ x ∈ l, x ∈ l') → l'.length ≤ l.length → l.Perm l'
  | [], l', _, _, h => by
    have : l' = [] := List.length_eq_zero_iff.1 (by simpa using h)
    subst this; exact .refl _
  | a :: r, l', hn, hs, h => by
    rw [List.nodup_cons] at hn
    have ha := hs a (by simp)
    have hl := List.length_erase_of_mem ha
    have h2 := List.length_pos_of_mem ha
    have := nodup_perm r (l'.erase a) hn.2 (fun x hx => (List.mem_erase_of_ne (fun (e : x = a) => hn.1 (by rw [← e]; exact hx))).2 (hs x (by simp [hx]))) (by simp at h; omega)
    exact (this.cons a).trans (List.perm_cons_erase ha).symm
theorem inj_i : ∀ (ms : List Mk), (ms.map (·.i)).Nodup → ∀ m ∈ ms, ∀ m' ∈ ms, m.i = m'.i → m = m'
  | [], _, _, hm, _, _, _ => by cases hm
  | y :: ms, h, m, hm, m', hm', e => by
    rw [List.map_cons, List.nodup_cons] at h
    rcases List.mem_cons.1 hm with a1 | a1 <;> rcases List.mem_cons.1 hm' with a2 | a2
    · rw [a1, a2]
    · exact absurd (by rw [← a1, e]; exact List.mem_map_of_mem a2) h.1
    · exact absurd (by rw [← a2, ← e]; exact List.mem_map_of_mem a1) h.1
    · exact inj_i ms h.2 m a1 m' a2 e
theorem fst_of_i : ∀ (dn : List (Mk × Nat)) (ms all : List Mk), (∀ m ∈ all, ∀ m' ∈ all, m.i = m'.i → m = m') → (∀ x ∈ dn, x.1 ∈ all) → (∀ x ∈ ms, x ∈ all) → dn.map (·.1.i) = ms.map (·.i) → dn.map (·.1) = ms
  | [], ms, _, _, _, _, h => by
    simp only [List.map_nil] at h
    exact (List.map_eq_nil_iff.1 h.symm).symm
  | y :: dn, [], _, _, _, _, h => by simp at h
  | y :: dn, m :: ms, all, hi, h1, h2, h => by
    simp only [List.map_cons, List.cons.injEq] at h
    rw [List.map_cons, fst_of_i dn ms all hi (fun x hx => h1 x (by simp [hx])) (fun x hx => h2 x (by simp [hx])) h.2, hi y.1 (h1 y (by simp)) m (h2 m (by simp)) h.1]
section
variable {P : Program} {n : Nat} {W : Base} {Q : Exit → Act → World → Prop} {fr : Fr} {L L0 : List Own} {ops : Array Oper}
/-- what a maker does, from any frame that knows as much -/
def Makes (P : Program) (n : Nat) (W : Base) (ops : Array Oper) (fr : Fr) (m : Mk) : Prop :=
  ∃ o, ops[m.i]? = some o ∧ ∀ (Q : Exit → Act → World → Prop) (fr' : Fr) (L : List Own), (∀ q v, look fr q = some v → look fr' q = some v) → (∀ g, TL P n W ops Q [] ((m.d, m.v g) :: fr') (L ++ [m.own g])) → TL P n W ops Q [o] fr' L
theorem look_none : ∀ (l : Fr) {q : Nat} {v : Value}, (∀ x ∈ l, look fr x.1 = none) → look fr q = some v → look (l ++ fr) q = some v
  | [], _, _, _, h => h
  | (k, u) :: l, q, v, hl, h => by
    show (bif Nat.beq k q then some u else look (l ++ fr) q) = some v
    cases e : Nat.beq k q
    · exact look_none l (fun x hx => hl x (by simp [hx])) h
    · have := Nat.eq_of_beq_eq_true e
      subst this
      have := hl (k, u) (by simp)
      rw [this] at h
      cases h
theorem Rep.perm {a : Act} {l l' : Fr} (h : Rep n a (l ++ fr)) (hp : l.Perm l') (hn : (l.map (·.1)).Nodup) : Rep n a (l' ++ fr) :=
  ⟨h.size, h.defers, fun i v hl => h.get i v (by rw [look_perm hp hn fr i]; exact hl)⟩
theorem pick_g : ∀ (dn : List (Mk × Nat)), (dn.map (·.1.i)).Nodup → ∃ g : Nat → Nat, ∀ x ∈ dn, g x.1.i = x.2
  | [], _ => ⟨fun _ => 0, fun x hx => by cases hx⟩
  | y :: dn, h => by
    rw [List.map_cons, List.nodup_cons] at h
    obtain ⟨g, hg⟩ := pick_g dn h.2
    refine ⟨fun i => if i = y.1.i then y.2 else g i, fun x hx => ?_⟩
    rcases List.mem_cons.1 hx with rfl | hx
    · simp
    · have : ¬ x.1.i = y.1.i := fun e => h.1 (by rw [← e]; exact List.mem_map_of_mem hx)
      simp only [if_neg this]
      exact hg x hx
theorem many_canon (ms E : List Mk) (hn : (ms.map (·.i)).Nodup) (hEn : (E.map (·.i)).Nodup) (hEd : (E.map (·.d)).Nodup) (hE : ∀ m ∈ E, m ∈ ms) (dn : List (Mk × Nat)) (h1 : ∀ x ∈ dn, x.1 ∈ ms) (hp : (dn.map (·.1.i)).Perm (E.map (·.i))) (a : Act) (hr : Rep n a (frm dn ++ fr)) :
    ∃ g : Nat → Nat, Rep n a (E.map (fun m => (m.d, m.v (g m.i))) ++ fr) ∧ Mem W (L ++ owm dn) = Mem W (L ++ E.map fun m => m.own (g m.i)) := by
  obtain ⟨d', p1, p2⟩ := perm_lift (fun x : Mk × Nat => x.1.i) hp dn rfl
  have e1 := fst_of_i d' E ms (inj_i ms hn) (fun x hx => h1 x (p1.subset hx)) hE p2
  obtain ⟨g, hg⟩ := pick_g d' (by rw [p2]; exact hEn)
  have e2 : d' = E.map fun m => (m, g m.i) := by
    rw [← e1, List.map_map]
    conv => lhs; rw [← List.map_id d']
    exact List.map_congr_left fun x hx => by
      obtain ⟨m, q⟩ := x
      have := hg _ hx
      dsimp only at this
      simp [this]
  have hpd : ((frm dn).map (·.1)).Nodup := by
    have : ((frm dn).map (·.1)).Perm (E.map (·.d)) := by
      have h5 := (p1.map fun x : Mk × Nat => x.1.d).symm
      have e : d'.map (fun x : Mk × Nat => x.1.d) = E.map (·.d) := by rw [← e1, List.map_map]; rfl
      rw [e] at h5
      unfold frm
      rw [List.map_map]
      exact h5
    exact this.nodup_iff.2 hEd
  have hr' := hr.perm (p1.map _).symm hpd
  refine ⟨g, ?_, ?_⟩
  · have : d'.map (fun x => (x.1.d, x.1.v x.2)) = E.map (fun m => (m.d, m.v (g m.i))) := by rw [e2, List.map_map]; rfl
    rw [← this]; exact hr'
  · have e : E.map (fun m => m.own (g m.i)) = owm d' := by rw [e2, owm, List.map_map]; rfl
    rw [e]
    exact funext fun w => propext ⟨fun h => h.perm (((p1.map _).symm).append_left L), fun h => h.perm ((p1.map _).append_left L)⟩
theorem many_go (ms : List Mk) (ends : List (List Mk)) (listed : Array Bool) (U : World → Prop) (S0 : Nat) (hUL : ∀ l, ∀ w, Mem W (L ++ l) w → U w)
    (hn : (ms.map (·.i)).Nodup) (hd : (ms.map (·.d)).Nodup) (hB : manyB ops (ms.map (·.i)) (ends.map fun E => E.map (·.i)) listed = true) (hm : ∀ m ∈ ms, Makes P n W ops fr m) (hf : ∀ m ∈ ms, look fr m.d = none)
    (hEnd : ∀ E ∈ ms :: ends, (∀ m ∈ E, m ∈ ms) ∧ (E.map (·.i)).Nodup ∧ (E.map (·.d)).Nodup ∧ ∀ (k : Nat) (g : Nat → Nat) (a : Act), E.length + k = ms.length → Rep n a (E.map (fun m => (m.d, m.v (g m.i))) ++ fr) → wpAnyV P .any ops Q U (k + S0) (markL listed (E.map (·.i))) a (Mem W (L ++ E.map fun m => m.own (g m.i)))) :
    ∀ (k : Nat) (dn : List (Mk × Nat)), (∀ x ∈ dn, x.1 ∈ ms) → (dn.map (·.1.i)).Nodup → dn.length + k = ms.length → ∀ a, Rep n a (frm dn ++ fr) → wpAnyV P .any ops Q U (k + S0) (markL listed (dn.map (·.1.i))) a (Mem W (L ++ owm dn)) := by
  have stop : ∀ E ∈ ms :: ends, ∀ (k : Nat) (dn : List (Mk × Nat)), (∀ x ∈ dn, x.1 ∈ ms) → (dn.map (·.1.i)).Nodup → dn.length + k = ms.length → (dn.map (·.1.i)).Perm (E.map (·.i)) → ∀ a, Rep n a (frm dn ++ fr) → wpAnyV P .any ops Q U (k + S0) (markL listed (dn.map (·.1.i))) a (Mem W (L ++ owm dn)) := by
    intro E hE k dn h1 h2 h3 hp a hr
    obtain ⟨q1, q2, q3, q4⟩ := hEnd E hE
    obtain ⟨g, r1, r2⟩ := many_canon (W := W) (L := L) ms E hn q2 q3 q1 dn h1 hp a hr
    have hlen := hp.length_eq
    simp only [List.length_map] at hlen
    rw [r2, markL_same (D' := E.map (·.i)) fun j => ?_]
    · exact q4 k g a (by omega) r1
    · exact Bool.eq_iff_iff.2 (by simpa using hp.mem_iff)
  intro k
  induction k with
  | zero =>
    intro dn h1 h2 h3 a hr
    exact stop ms (by simp) 0 dn h1 h2 h3 (nodup_perm (dn.map (·.1.i)) (ms.map (·.i)) h2 (fun x hx => by
      obtain ⟨y, hy, rfl⟩ := List.mem_map.1 hx
      exact List.mem_map_of_mem (f := (·.i)) (h1 y hy)) (by simp; omega)) a hr
  | succ k ih =>
    intro dn h1 h2 h3 a hr
    have hstop := fun E hE hp => stop E hE (k + 1) dn h1 h2 h3 hp a hr
    have hsub : ∀ x ∈ dn.map (·.1.i), x ∈ ms.map (·.i) := fun x hx => by
      obtain ⟨y, hy, rfl⟩ := List.mem_map.1 hx
      exact List.mem_map_of_mem (f := (·.i)) (h1 y hy)
    generalize hD : dn.map (·.1.i) = D at *
    have hlenD : D.length = dn.length := by rw [← hD]; simp
    have hsame : ∀ j, D.contains j = ((ms.map (·.i)).filter fun i => D.contains i).contains j := fun j => by
      apply Bool.eq_iff_iff.2
      simp only [List.contains_iff_mem, List.mem_filter]
      exact ⟨fun h => ⟨hsub j h, h⟩, fun h => h.2⟩
    have hq := List.all_eq_true.1 hB _ (filter_subs (fun i => D.contains i) (ms.map (·.i)))
    rw [Bool.or_eq_true] at hq
    rcases hq with hq | hq
    · rw [List.contains_iff_mem] at hq
      obtain ⟨E, hE, e⟩ := List.mem_map.1 hq
      refine hstop E (by simp [hE]) ?_
      rw [e]
      refine nodup_perm _ _ h2 (fun x hx => List.mem_filter.2 ⟨hsub x hx, by simpa using hx⟩) ?_
      exact nodup_le _ _ (hn.filter _) fun x hx => by simpa using (List.mem_filter.1 hx).2
    have hready : Region.ready .any ops (markL listed D) = (ms.map (·.i)).filter fun i => !D.contains i := by
      have hq := of_decide_eq_true hq
      rw [markL_same hsame, hq]
      exact List.filter_congr fun i _ => by rw [← hsame i]
    rw [show k + 1 + S0 = (k + S0) + 1 by omega]
    refine ⟨fun h0 => ?_, fun i hi w hw => ?_⟩
    · exfalso
      have : (ms.map (·.i)).length ≤ D.length := nodup_le _ _ hn fun x hx => by
        rw [hready] at h0
        have := List.filter_eq_nil_iff.1 h0 x hx
        simpa using this
      simp at this
      omega
    · rw [hready, List.mem_filter] at hi
      obtain ⟨hi1, hi2⟩ := hi
      obtain ⟨m, hm1, rfl⟩ := List.mem_map.1 hi1
      have hi3 : m.i ∉ D := by simpa using hi2
      obtain ⟨o, ho, hmk⟩ := hm m hm1
      refine wpOp_of_list ho ((hmk _ (frm dn ++ fr) (L ++ owm dn) (fun q v hq => look_none (frm dn) (fun x hx => ?_) hq) fun g => ?_).go a w hr hw)
      · obtain ⟨y, hy, rfl⟩ := List.mem_map.1 hx
        exact hf y.1 (h1 y hy)
      · refine TL_nil ⟨fun a' w' hr' hm' => ⟨Mem W (L ++ owm ((m, g) :: dn)), closed_mem _ _, hUL _, hm'.perm ?_, ?_⟩⟩
        · rw [List.append_assoc]
          exact (List.perm_append_comm).append_left L
        · have := ih ((m, g) :: dn) (fun x hx => by
            rcases List.mem_cons.1 hx with rfl | hx
            · exact hm1
            · exact h1 x hx) (by rw [List.map_cons, hD, List.nodup_cons]; exact ⟨hi3, h2⟩) (by simp; omega) a' hr'
          rw [List.map_cons, hD] at this
          have e : (markL listed D).setIfInBounds m.i true = markL listed (m.i :: D) := by
            have e0 : (markL listed D).setIfInBounds m.i true = markL listed (D ++ [m.i]) := by
              unfold markL; rw [List.foldl_append]; rfl
            rw [e0]
            exact markL_same fun j => by
              apply Bool.eq_iff_iff.2
              simp [or_comm]
          rw [e]
          exact this
/-- a region that draws, with some of it listed -/
structure TX (P : Program) (n : Nat) (W : Base) (ops : Array Oper) (Q : Exit → Act → World → Prop) (L0 : List Own) (listed : Array Bool) (f : Nat) (fr : Fr) (L : List Own) : Prop where
  go : (∀ w, Mem W L w → Mem W L0 w) → (∀ c a d v w, Q (.panic c) (Act.put a d v) w → Q (.panic c) a w) → Region.noSelect ops = true → ∀ a, Rep n a fr → wpAnyV P .any ops Q (Mem W L0) f listed a (Mem W L)
theorem mem_left {L l : List Own} {w : World} (h : Mem W (L ++ l) w) : Mem W L w := by
  have hl : ∀ (i : Nat) (o : Own), L[i]? = some o → (L ++ l)[i]? = some o := fun i o h => by
    rw [List.getElem?_append_left (List.getElem?_eq_some_iff.1 h).1]; exact h
  exact ⟨h.low, ⟨fun i o hi => h.owns.all i o (hl i o hi), fun i j o o' hij hi hj => h.owns.apart i j o o' hij (hl i o hi) (hl j o' hj)⟩⟩
theorem T_ordX {id : Nat} {l : List Oper} (L0 : List Own) (hsub : ∀ w, Mem W L w → Mem W L0 w) (hm : P.follows .mixedOrders = true) (hsel : Region.noSelect l.toArray = true)
    (hQ : ∀ c a d v w, Q (.panic c) (Act.put a d v) w → Q (.panic c) a w)
    (h : TX P n W l.toArray Q L0 (Array.replicate l.toArray.size false) l.toArray.size fr L) : T P n W (.region id l.toArray true) Q fr L := ⟨fun a w hr hmm => by
  refine wp_region_any hm ?_
  exact wpAny_of_V (U := Mem W L0) l.toArray.size (Array.replicate l.toArray.size false) a (Mem W L) w.drew hmm.drew (h.go hsub hQ hsel a hr)⟩
theorem TX_tree {listed : Array Bool} {f : Nat} (t : Ord) (ho : orderO .any ops t listed = true) (hf : f = t.size) (h : TW P n W ops Q L0 t fr L) : TX P n W ops Q L0 listed f fr L :=
  ⟨fun hsub hQ hsel a hr => by subst hf; exact wpAnyV_ord hsel hQ t listed a (Mem W L) (closed_mem W L) hsub ho (h.go a hr)⟩
theorem TX_val {listed : Array Bool} {f d : Nat} {o : Oper} {v : Value} (i : Nat) (hi : ((Region.ready .any ops listed).contains i && Region.free .any ops listed i) = true) (ho : ops[i]? = some o) (hr : RR P n W o fr L0 v) (hg : o.guard = none) (hd : o.dst = some d) (hn : Nat.blt d n = true)
    (h : TX P n W ops Q L0 (listed.setIfInBounds i true) f ((d, v) :: fr) L) : TX P n W ops Q L0 listed (f + 1) fr L := ⟨fun hsub hQ hsel a hrep => by
  rw [Bool.and_eq_true] at hi
  have hc : CalmIn P ops (Mem W L0) o v a := .inl ⟨wanted_none hg, fun w hw => by unfold calmAt; rw [hr.go a w hrep hw]; exact ⟨rfl, Gr.refl _⟩⟩
  exact wpAnyV_first ho (Region.noSelect_spec hsel) (fun c a w => hQ c a o.dst v w) f listed a (Mem W L) (closed_mem W L) hsub (Region.free_spec ho hi.2) (by simpa using hi.1) hc
    (by rw [hd]; exact h.go hsub hQ hsel _ (hrep.put hn v))⟩
def manyOk (ops : Array Oper) (ms : List Mk) (ends : List (List Nat)) (listed : Array Bool) (fr : Fr) : Bool :=
  decide (ms.map (·.i)).Nodup && decide (ms.map (·.d)).Nodup && manyB ops (ms.map (·.i)) ends listed && ms.all fun m => (look fr m.d).isNone
/-- where some of them being done sets another operation free (ps tells the places of such a set): a walk of its own from there -/
theorem TX_many2 {listed : Array Bool} {f : Nat} (ms : List Mk) (p : Mk → Bool) (S0 : Nat) (hf : f = ms.length + S0) (hB : manyOk ops ms [ms.map (·.i), (ms.filter p).map (·.i)] listed fr = true) (hm : ∀ m ∈ ms, Makes P n W ops fr m)
    (h : ∀ g : Nat → Nat, TX P n W ops Q L0 (markL listed (ms.map (·.i))) S0 (ms.map (fun m => (m.d, m.v (g m.i))) ++ fr) (L ++ ms.map fun m => m.own (g m.i)))
    (h' : ∀ g : Nat → Nat, TX P n W ops Q L0 (markL listed ((ms.filter p).map (·.i))) (ms.length - (ms.filter p).length + S0) ((ms.filter p).map (fun m => (m.d, m.v (g m.i))) ++ fr) (L ++ (ms.filter p).map fun m => m.own (g m.i))) : TX P n W ops Q L0 listed f fr L := ⟨fun hsub hQ hsel a hr => by
  subst hf
  simp only [manyOk, Bool.and_eq_true, decide_eq_true_eq] at hB
  obtain ⟨⟨⟨b1, b2⟩, b3⟩, b4⟩ := hB
  have := many_go (Q := Q) (L := L) ms [ms, ms.filter p] listed (Mem W L0) S0 (fun l w hw => hsub w (mem_left hw)) b1 b2 b3 hm (fun m hm => by simpa using List.all_eq_true.1 b4 m hm)
    (fun E hE => by
      have hE : E = ms ∨ E = ms.filter p := by
        simp only [List.mem_cons, List.not_mem_nil, or_false] at hE
        rcases hE with h | h | h
        · exact .inl h
        · exact .inl h
        · exact .inr h
      rcases hE with rfl | rfl
      · exact ⟨fun _ h => h, b1, b2, fun k g a hk hr => by
          obtain rfl : k = 0 := by omega
          rw [Nat.zero_add]
          exact (h g).go (fun w hw => hsub w (mem_left hw)) hQ hsel a hr⟩
      · exact ⟨fun _ h => (List.mem_filter.1 h).1, b1.sublist (List.filter_sublist.map _), b2.sublist (List.filter_sublist.map _), fun k g a hk hr => by
          obtain rfl : k = ms.length - (ms.filter p).length := by omega
          exact (h' g).go (fun w hw => hsub w (mem_left hw)) hQ hsel a hr⟩) ms.length [] (fun x hx => by cases hx) (by simp) (by simp) a hr
  simpa [markL, owm] using this⟩
theorem ev_mono {fr fr' : Fr} (h : ∀ q v, look fr q = some v → look fr' q = some v) {x : Operand} {v : Value} (hx : ev fr x = some v) : ev fr' x = some v := by
  cases x with
  | tmp t => exact h _ _ hx
  | _ => exact hx
theorem makes_slice {i d : Nat} {t e ty : TypeId} {pos : String} {after : Array Edge} {x y : Operand} {c bytes m cap : Nat} {k k' : IntKind} {zs : Array Value} [ElC P t e c bytes] [ZeroC P e zs] (ho : ops[i]? = some ⟨some d, .makeSlice t x y, ty, pos, after, none⟩) (hx : ev fr x = some (.int k (m : Int))) (hy : ev fr y = some (.int k' (cap : Int))) (hmc : m ≤ cap) (hb : bytes * cap ≤ 281474976710656) (h63 : cap ≤ 9223372036854775807) (hn : Nat.blt d n = true) :
    Makes P n W ops fr ⟨i, d, fun g => .slice (some ⟨g, 0, none⟩) m cap, fun g => blkO g (madeCells zs (cap * c)) e⟩ :=
  ⟨_, ho, fun _ _ _ hl h => TL_makeB (ev_mono hl hx) (ev_mono hl hy) hmc hb h63 hn h⟩
theorem makes_new {i d : Nat} {t ty : TypeId} {pos : String} {after : Array Edge} {cs : Array Value} [ZeroC P t cs] (ho : ops[i]? = some ⟨some d, .alloc t, ty, pos, after, none⟩) (hn : Nat.blt d n = true) :
    Makes P n W ops fr ⟨i, d, fun g => .pointer (some ⟨g, 0, none⟩), fun g => blkO g cs t⟩ :=
  ⟨_, ho, fun _ _ _ _ h => TL_new hn h⟩
end
end Go.Proofs.Ytlojfbnimmdehaa.eng

/- FactsO -/
namespace Go.Proofs.Ytlojfbnimmdehaa.eng
open Go.RowKit kit mix gramL factsL
def ofS (n : Nat) (l : List gramL.Prod) : FS := factsL.fix (stepS l) (lackS n) ⟨List.replicate n false, (List.replicate n false).set 0 true, List.replicate n false, false⟩
def ofF (n : Nat) (l : List gramL.Prod) : List Nat := setsF (ofS n l).E (ofS n l).M l (List.replicate n 0)
def ofW (n : Nat) (l : List gramL.Prod) : List Nat := setsW (ofS n l).E (ofF n l) l ((List.replicate n 0).set 0 9223372036854775808)
structure Rows5 extends Rows4 where
  gR : Nat
  cR : Nat
def Rows5.val (n : Nat) (x : Rows5) : Value := facV (vRow n x.gE x.cE) (vRow n x.gF x.cF) (vRow n x.gW x.cW) (vRow n x.gR x.cR) (vRow n x.gM x.cM)
theorem build_fac (a b c d e : Option Addr) (n1 n2 n3 n4 n5 c1 c2 c3 c4 c5 : Nat) (w : World) : (Instr.build 41 #[(0, .slice a n1 c1), (1, .slice b n2 c2), (2, .slice c n3 c3), (3, .slice d n4 c4), (4, .slice e n5 c5)]).run Try.prog w = .ok (.agg #[.slice a n1 c1, .slice b n2 c2, .slice c n3 c3, .slice d n4 c4, .slice e n5 c5]) w := by
  go_simp
def mkB (i d n : Nat) : Mk := ⟨i, d, fun g => .slice (some ⟨g, 0, none⟩) n n, fun g => blkO g (madeCells #[.bool false] (n * 1)) 4⟩
def mkN (i d n : Nat) : Mk := ⟨i, d, fun g => .slice (some ⟨g, 0, none⟩) n n, fun g => blkO g (madeCells #[.int .u64 0] (n * 1)) 97⟩
def mkF (i d : Nat) : Mk := ⟨i, d, fun g => .pointer (some ⟨g, 0, none⟩), fun g => blkO g #[.slice none 0 0, .slice none 0 0, .slice none 0 0, .slice none 0 0, .slice none 0 0] 41⟩
theorem T_rowMade {P : Program} {k : Nat} {W : Base} {Q : Exit → Act → World → Prop} {fr : Fr} {L : List Own} {c : Code} {i g m : Nat} {e : TypeId} {z : Value} (hi : L[i]? = some (blkO g (madeCells #[z] (m * 1)) e)) (hm : m ≤ 9223372036854775807) (h : T P k W c Q fr (L.set i (rowO e 1 (.slice (some ⟨g, 0, none⟩) m m) m (List.replicate m z)))) : T P k W c Q fr L :=
  T_toRowN 1 hi (by rw [size_madeCells]) (Nat.le_refl _) hm (by
    have : (madeCells #[z] (m * 1)).toList.take (m * 1) = List.replicate m z := by
      rw [made1, Nat.mul_one, List.take_of_length_le (by simp)]
    rw [this]; exact h)
set_option maxHeartbeats 8000000 in
theorem of_calls (v : Value) (g : Gram) (w : World) (h : GraR (fun k => k < w.heap.size) w v g) (hck : checkG g = 0) (n : Nat) (hn : g.nons = n) :
    Calls Try.prog 13 #[v] w (MeetsB ⟨fun (_ : Rows5) => True, fun x => .tuple #[x.val n, .int .i64 0], fun x => [rowBn n x.gE x.cE (ofS n g.prods).E, rowNn n x.gF x.cF (ofF n g.prods), rowNn n x.gW x.cW (ofW n g.prods), rowBn n x.gR x.cR (ofS n g.prods).R, rowBn n x.gM x.cM (ofS n g.prods).M]⟩ w) := by
  obtain ⟨n1, n2, _, _, hlen, _⟩ := checkG_ok hck
  have hcc := fun w' L (hm : Mem w L w') => checkG_calls v g w' (h.gr ((Old.self w).mem hm))
  rw [hck] at hcc
  have h0 := h
  obtain ⟨vp, rfl, h1, _⟩ := h
  obtain ⟨bp, cp, rfl, hcp, hmp, hrp⟩ := h1
  unfold maxLen at hmp
  obtain ⟨t, nn, prods⟩ := g
  dsimp only at *
  subst hn
  refine enter (args := [graV t (n : Int) (.slice bp prods.length cp)]) (n := 39) Try.func13 rfl rfl rfl ?_
  refine T_seq (T_region (TL_box rfl rfl rfl fun g1 => TL_new rfl fun g2 => ?_))
  conv=>arg 8;simp only[zA,zB,zC,zD,zE,zF,zG,zH,zI,rowS,ret,id_eq]
  repeat(first|refine QV QP ?_|refine QZ ?_|refine qcT rfl ?_|refine qcF rfl ?_|refine E_blockX ?_|refine E_blockO rfl ?_|refine QV (rr_loadB (i := 0) TyC.ty rfl rfl rfl) ?_|refine QV QA ?_|refine QV QnT ?_|refine QV QnF ?_)
  refine TL_call (he1 EntersC.en rfl rfl) (fun w hm => hcc _ _ hm) rfl rfl rfl ?_
  intro _ _
  conv=>arg 8;simp only[zA,zB,zC,zD,zE,zF,zG,zH,zI,rowS,ret,id_eq]
  repeat(first|refine QV QP ?_|refine QZ ?_|refine qcT rfl ?_|refine qcF rfl ?_|refine E_blockX ?_|refine E_blockO rfl ?_|refine QV (rr_load1 TyC.ty rfl (at_blk (i := 0) rfl rfl)) ?_|refine QV QA ?_|refine QV QnT ?_|refine QV QnF ?_)
  refine T_midq (ι := Nat × Nat × Nat × Nat × Nat × Nat) (fun _ => True) (fun (_, _, _, _, _, g6) => [(1, .pointer (some ⟨g1, 0, none⟩)), (2, .pointer (some ⟨g2, 0, none⟩)), (6, .pointer (some ⟨g6, 0, none⟩))])
    (fun (gE, gF, gW, gR, gM, g6) => [blkO g1 (graV t (n : Int) (.slice bp prods.length cp)).cells 24, blkO g2 #[.slice none 0 0, .slice none 0 0, .slice none 0 0, .slice none 0 0, .slice none 0 0] 41, blkO gE (madeCells #[.bool false] (n * 1)) 4, blkO gF (madeCells #[.int .u64 0] (n * 1)) 97, blkO gW (madeCells #[.int .u64 0] (n * 1)) 97, blkO gR (madeCells #[.bool false] (n * 1)) 4, blkO gM (madeCells #[.bool false] (n * 1)) 4, blkO g6 (facV (vRow n gE n) (vRow n gF n) (vRow n gW n) (vRow n gR n) (vRow n gM n)).cells 41]) ?_ ?_
  rotate_left
  · rintro ⟨gE, gF, gW, gR, gM, g6⟩ _
    dsimp only
    refine T_rowMade (i := 2) rfl (by omega) ?_
    refine T_rowMade (i := 3) rfl (by omega) ?_
    refine T_rowMade (i := 4) rfl (by omega) ?_
    refine T_rowMade (i := 5) rfl (by omega) ?_
    refine T_rowMade (i := 6) rfl (by omega) ?_
    conv => arg 7; simp only [List.set_cons_succ, List.set_cons_zero]
    rw [show List.replicate n (Value.bool false) = (List.replicate n false).map .bool by simp, show List.replicate n (Value.int .u64 0) = (List.replicate n 0).map bitV by simp [bitV]]
    have hn0 : 0 < n := by omega
    repeat(first|refine QV QP ?_|refine QZ ?_|refine qcT rfl ?_|refine qcF rfl ?_|refine E_blockX ?_|refine E_blockO rfl ?_|refine QV (rr_load1 TyC.ty rfl (at_blk (i := 7) rfl rfl)) ?_|refine QV (rr_idx1 (j := 0) Und.eq TyC.ty rfl rfl hn0) ?_|refine QV QA ?_|refine QV QnT ?_|refine QV QnF ?_)
    refine TL_storeRow (i := 5) TyC.ty rfl rfl rfl rfl rfl rfl (by simpa using hn0) ?_
    repeat(first|refine QV QP ?_|refine QZ ?_|refine qcT rfl ?_|refine qcF rfl ?_|refine E_blockX ?_|refine E_blockO rfl ?_|refine QV (rr_load1 TyC.ty rfl (at_blk (i := 7) rfl rfl)) ?_|refine QV (rr_idx1 (j := 0) Und.eq TyC.ty rfl rfl hn0) ?_|refine QV QA ?_|refine QV QnT ?_|refine QV QnF ?_)
    refine TL_storeRow (i := 4) TyC.ty rfl rfl rfl rfl rfl rfl (by simpa using hn0) ?_
    conv => arg 8; simp only [List.set_cons_succ, List.set_cons_zero, Nat.zero_add]
    repeat(first|refine QV QP ?_|refine QZ ?_|refine qcT rfl ?_|refine qcF rfl ?_|refine E_blockX ?_|refine E_blockO rfl ?_|refine QV QA ?_|refine QV QnT ?_|refine QV QnF ?_)
    generalize hfin : ofS n prods = fin
    have hfine := fine_of (g := ⟨t, n, prods⟩) hck rfl
    have hfalls := fallsS hfine
    refine T_loop (ι := FS) (fun s => okR n s ∧ factsL.fix (stepS prods) (lackS n) s = fin) (fun _ => [(1, .pointer (some ⟨g1, 0, none⟩)), (2, .pointer (some ⟨g2, 0, none⟩)), (6, .pointer (some ⟨g6, 0, none⟩))])
      (fun s => [blkO g1 (graV t (n : Int) (.slice bp prods.length cp)).cells 24, blkO g2 #[.slice none 0 0, .slice none 0 0, .slice none 0 0, .slice none 0 0, .slice none 0 0] 41, rowBn n gE n s.E, rowNn n gF n (List.replicate n 0), rowNn n gW n ((List.replicate n 0).set 0 9223372036854775808), rowBn n gR n s.R, rowBn n gM n s.M, blkO g6 (facV (vRow n gE n) (vRow n gF n) (vRow n gW n) (vRow n gR n) (vRow n gM n)).cells 41])
      (fun s => lackS n s) ⟨List.replicate n false, (List.replicate n false).set 0 true, List.replicate n false, false⟩ ⟨⟨by simp, by simp, by simp⟩, hfin⟩ (by repeat' (first | exact True.intro | refine And.intro rfl ?_)) (by simp [rowBn, rowNn, bitV, List.map_set]) ?_
    rintro ⟨E, R, M, mo⟩ ⟨i1, i2⟩
    dsimp only at i2 ⊢
    have hrd := fun w' B' (ho : Old w B') hm => round_calls w _ ⟨t, n, prods⟩ h0 hck n rfl ⟨gE, n, gR, n, gM, n⟩ (vRow n gF n) (vRow n gW n) E R M i1.1 i1.2.1 i1.2.2 w' B' ho hm
    dsimp only at hrd
    repeat(first|refine QV QP ?_|refine QZ ?_|refine qcT rfl ?_|refine qcF rfl ?_|refine E_blockX ?_|refine E_blockO rfl ?_|refine QV (rr_loadB (i := 0) TyC.ty rfl rfl rfl) ?_|refine QV (rr_loadB (i := 7) TyC.ty rfl rfl rfl) ?_|refine QV QA ?_|refine QV QnT ?_|refine QV QnF ?_)
    refine TL_callB [2, 5, 6] [0, 1, 3, 4, 7] (by decide) rfl rfl (he2 EntersC.en rfl rfl rfl) (fun w' hm hb => hrd w' _ ((Old.self w).on hm (by intro o ho; simp at ho ⊢; rcases ho with h | h | h <;> simp [h])) hb) rfl rfl rfl ?_
    intro _ _
    conv=>arg 8;simp only[zA,zB,zC,zD,zE,zF,zG,zH,zI,rowS,ret,id_eq]
    clear hrd
    have hk := roundL_grow prods ⟨E, R, M, false⟩ hfine i1
    have hgo : (roundL prods ⟨E, R, M, false⟩).more = true → factsL.fix (stepS prods) (lackS n) (roundL prods ⟨E, R, M, false⟩) = fin ∧ lackS n (roundL prods ⟨E, R, M, false⟩) < lackS n ⟨E, R, M, mo⟩ := fun c => ⟨by rw [← i2, fix_go hfalls i1 c]; rfl, hfalls.dec _ i1 c⟩
    have hst : (roundL prods ⟨E, R, M, false⟩).more = false → roundL prods ⟨E, R, M, false⟩ = fin := fun c => by rw [← i2, fix_stop (s := (⟨E, R, M, mo⟩ : FS)) c]; rfl
    generalize roundL prods ⟨E, R, M, false⟩ = r at *
    obtain ⟨E', R', M', m'⟩ := r
    dsimp only at hgo hst ⊢
    cases m'
    · have hst := hst rfl
      have hsets := fun w' B' (ho : Old w B') hm => sets_calls w _ ⟨t, n, prods⟩ h0 hck n rfl ⟨gE, n, gF, n, gW, n, gM, n⟩ (vRow n gR n) E' (List.replicate n 0) ((List.replicate n 0).set 0 9223372036854775808) M' hk.1.1 ⟨by simp, fun x hx => by rw [List.eq_of_mem_replicate hx]; decide⟩ ⟨by simp, fun x hx => by
        rcases List.mem_or_eq_of_mem_set hx with h | h
        · rw [List.eq_of_mem_replicate h]; decide
        · rw [h]; decide⟩ hk.1.2.2 w' B' ho hm
      dsimp only at hsets
      repeat(first|refine QV QP ?_|refine QZ ?_|refine qcT rfl ?_|refine qcF rfl ?_|refine E_blockX ?_|refine E_blockO rfl ?_|refine QV (rr_loadB (i := 0) TyC.ty rfl rfl rfl) ?_|refine QV (rr_loadB (i := 4) TyC.ty rfl rfl rfl) ?_|refine QV QA ?_|refine QV QnT ?_|refine QV QnF ?_)
      refine TL_callB [5, 2, 3, 7] [0, 1, 6, 4] (by decide) rfl rfl (he2 EntersC.en rfl rfl rfl) (fun w' hm hb => hsets w' _ ((Old.self w).on hm (by intro o ho; simp at ho ⊢; rcases ho with h | h | h | h <;> simp [h])) hb) rfl rfl rfl ?_
      intro _ _
      conv=>arg 8;simp only[zA,zB,zC,zD,zE,zF,zG,zH,zI,rowS,ret,id_eq]
      repeat(first|refine QV QP ?_|refine QZ ?_|refine qcT rfl ?_|refine qcF rfl ?_|refine E_blockX ?_|refine E_blockO rfl ?_|refine QV (rr_loadB (i := 3) TyC.ty rfl rfl rfl) ?_|refine QV QA ?_|refine QV QnT ?_|refine QV QnF ?_)
      refine TL_storeB (i := 1) rfl rfl rfl rfl rfl rfl ?_
      conv=>arg 8;simp only[zA,zB,zC,zD,zE,zF,zG,zH,zI,rowS,ret,id_eq]
      repeat(first|refine QV QP ?_|refine QZ ?_|refine qcT rfl ?_|refine qcF rfl ?_|refine E_blockX ?_|refine E_blockO rfl ?_|refine QV QA ?_|refine QV QnT ?_|refine QV QnF ?_)
      subst hst
      have eF : ofF n prods = setsF E' M' prods (List.replicate n 0) := by unfold ofF; rw [hfin]
      have eW : ofW n prods = setsW E' (setsF E' M' prods (List.replicate n 0)) prods ((List.replicate n 0).set 0 9223372036854775808) := by unfold ofW; rw [eF, hfin]
      rw [eF, eW]
      refine E_retc2 (i := 1) rfl rfl rfl rfl (z := .int .i64 0) ?_ fun w' hm => ?_
      · rfl
      exact hm.meetsB (S := ⟨fun (_ : Rows5) => True, fun x => .tuple #[x.val n, .int .i64 0], fun x => [rowBn n x.gE x.cE E', rowNn n x.gF x.cF (setsF E' M' prods (List.replicate n 0)), rowNn n x.gW x.cW (setsW E' (setsF E' M' prods (List.replicate n 0)) prods ((List.replicate n 0).set 0 9223372036854775808)), rowBn n x.gR x.cR R', rowBn n x.gM x.cM M']⟩) ⟨⟨gE, n, gF, n, gW, n, gM, n⟩, gR, n⟩ trivial [4, 5, 6, 2, 7] (by decide) rfl
    · repeat(first|refine QV QP ?_|refine QZ ?_|refine qcT rfl ?_|refine qcF rfl ?_|refine E_blockX ?_|refine E_blockO rfl ?_|refine QV QA ?_|refine QV QnT ?_|refine QV QnF ?_)
      refine E_pick [0, 1, 5, 2, 3, 6, 7, 4] (by decide) rfl ?_
      exact E_round ⟨E', R', M', true⟩ ⟨hk.1, (hgo rfl).1⟩ (hgo rfl).2 (by repeat' (first | exact True.intro | refine And.intro rfl ?_)) rfl
  refine T_ordX [] sub_nil (by kernel_rfl) (by kernel_rfl) (by intro c a d v w h; cases d <;> exact h) ?_
  refine TX_val 0 (by kernel_rfl) rfl (rr_move rfl) rfl rfl rfl ?_
  refine TX_val 2 (by kernel_rfl) rfl (rr_move rfl) rfl rfl rfl ?_
  refine TX_val 4 (by kernel_rfl) rfl (rr_move rfl) rfl rfl rfl ?_
  refine TX_val 6 (by kernel_rfl) rfl (rr_move rfl) rfl rfl rfl ?_
  refine TX_val 8 (by kernel_rfl) rfl (rr_move rfl) rfl rfl rfl ?_
  refine TX_many2 [mkB 1 16 n, mkN 3 18 n, mkN 5 20 n, mkB 7 22 n, mkB 9 24 n, mkF 11 6] (fun m => !Nat.beq m.i 11) 2 (by kernel_rfl) (by kernel_rfl) ?_ (fun q => ?_) fun q => ?_
  · intro m hm
    simp only [List.mem_cons, List.not_mem_nil, or_false] at hm
    rcases hm with rfl | rfl | rfl | rfl | rfl | rfl
    · exact makes_slice rfl rfl rfl (Nat.le_refl _) (by omega) (by omega) rfl
    · exact makes_slice rfl rfl rfl (Nat.le_refl _) (by omega) (by omega) rfl
    · exact makes_slice rfl rfl rfl (Nat.le_refl _) (by omega) (by omega) rfl
    · exact makes_slice rfl rfl rfl (Nat.le_refl _) (by omega) (by omega) rfl
    · exact makes_slice rfl rfl rfl (Nat.le_refl _) (by omega) (by omega) rfl
    · exact makes_new rfl rfl
  · simp only [mkB, mkN, mkF, List.map_cons, List.map_nil]
    generalize q 1 = gE
    generalize q 3 = gF
    generalize q 5 = gW
    generalize q 7 = gR
    generalize q 9 = gM
    generalize q 11 = g6
    clear q
    refine TX_tree (.calm 10 (.one 12 .done)) (by kernel_rfl) rfl ?_
    repeat(first|((first|refine TW_plain rfl rfl ?_|refine TW_gmet rfl rfl rfl rfl ?_);first|refine QW QP ?_|refine QW (rr_build rfl (build_fac _ _ _ _ _ _ _ _ _ _ _ _ _ _ _)) ?_|refine QW QA ?_|refine QW QnT ?_|refine QW QnF ?_)|refine TW_done ?_)
    refine TW_one rfl ?_
    refine TL_storeB (i := 7) rfl rfl rfl rfl rfl rfl ?_
    refine TW_on sub_nil ?_
    repeat(first|((first|refine TW_plain rfl rfl ?_|refine TW_gmet rfl rfl rfl rfl ?_);first|refine QW QP ?_|refine QW QA ?_|refine QW QnT ?_|refine QW QnF ?_)|refine TW_done ?_)
    exact E_mid (gE, gF, gW, gR, gM, g6) trivial (by repeat' (first | exact True.intro | refine And.intro rfl ?_)) rfl
  · rw [show List.filter (fun m : Mk => !Nat.beq m.i 11) [mkB 1 16 n, mkN 3 18 n, mkN 5 20 n, mkB 7 22 n, mkB 9 24 n, mkF 11 6] = [mkB 1 16 n, mkN 3 18 n, mkN 5 20 n, mkB 7 22 n, mkB 9 24 n] from rfl]
    simp only [mkB, mkN, mkF, List.map_cons, List.map_nil]
    generalize q 1 = gE
    generalize q 3 = gF
    generalize q 5 = gW
    generalize q 7 = gR
    generalize q 9 = gM
    clear q
    refine TX_tree (.calm 10 (.one 11 (.one 12 .done))) (by kernel_rfl) (by kernel_rfl) ?_
    repeat(first|((first|refine TW_plain rfl rfl ?_|refine TW_gmet rfl rfl rfl rfl ?_);first|refine QW QP ?_|refine QW (rr_build rfl (build_fac _ _ _ _ _ _ _ _ _ _ _ _ _ _ _)) ?_|refine QW QA ?_|refine QW QnT ?_|refine QW QnF ?_)|refine TW_done ?_)
    refine TW_one rfl ?_
    refine TL_new rfl fun g6 => ?_
    refine TW_on sub_nil ?_
    refine TW_one rfl ?_
    refine TL_storeB (i := 7) rfl rfl rfl rfl rfl rfl ?_
    refine TW_on sub_nil ?_
    repeat(first|((first|refine TW_plain rfl rfl ?_|refine TW_gmet rfl rfl rfl rfl ?_);first|refine QW QP ?_|refine QW QA ?_|refine QW QnT ?_|refine QW QnF ?_)|refine TW_done ?_)
    exact E_mid (gE, gF, gW, gR, gM, g6) trivial (by repeat' (first | exact True.intro | refine And.intro rfl ?_)) rfl
end Go.Proofs.Ytlojfbnimmdehaa.eng

/- GramN -/
namespace Go.Proofs.Ytlojfbnimmdehaa.eng
open Go.RowKit kit mix gramL
def prodsO (F : Nat → Prop) (vp : Value) (l : List gramL.Prod) : Own := shpO (sliceS prodS) F [vp] l
end Go.Proofs.Ytlojfbnimmdehaa.eng

/- Brk -/
namespace Go.Proofs.Ytlojfbnimmdehaa.eng
open Go.RowKit kit mix gramL
theorem slf_one {α : Type} {s : Shp α} {F : Nat → Prop} {w : World} {v : Value} {l : List α} (h : SlF s F w v l) : v.oneCell' = true := by
  obtain ⟨b, c, rfl, _⟩ := h; rfl
theorem prodsO_gra {F : Nat → Prop} {vp : Value} {l : List gramL.Prod} {w : World} {t n : Int} (ht : kit.okI64 t) (hn : kit.okI64 n) (h : (prodsO F vp l).holds w) : GraR (fun k => k < w.heap.size) w (graV t n vp) ⟨t, n, l⟩ := by
  obtain ⟨⟨v', hv, h1⟩, h2⟩ := h
  simp only [List.cons.injEq, and_true] at hv
  subst hv
  exact ⟨vp, rfl, h1.mono h2, ht, hn⟩
theorem build_sym (k q : Int) (w : World) : (Instr.build 71 #[(0, .int .i64 k), (1, .int .i64 q)]).run Try.prog w = .ok (.agg #[.int .i64 k, .int .i64 q]) w := by
  go_simp
theorem non_calls (q : Int) (w : World) : Calls Try.prog 35 #[.int .i64 q] w (Meets (ret (.agg (symC (2, q)).toArray)) w) := by
  refine enter (args := [.int .i64 q]) (n := 5) Try.func35 rfl rfl rfl ?_
  refine T_seq (T_region (TL_new rfl fun g => ?_))
  repeat(first|refine QV QP ?_|refine QZ ?_|refine QV (rr_build rfl (build_sym _ _)) ?_)
  refine TL_storeB (i := 0) rfl rfl rfl rfl rfl rfl ?_
  repeat(first|refine QV QP ?_|refine QZ ?_)
  exact E_retc1 (i := 0) rfl rfl rfl rfl fun w hm => hm.ret
theorem term_calls (q : Int) (w : World) : Calls Try.prog 34 #[.int .i64 q] w (Meets (ret (.agg (symC (1, q)).toArray)) w) := by
  refine enter (args := [.int .i64 q]) (n := 5) Try.func34 rfl rfl rfl ?_
  refine T_seq (T_region (TL_new rfl fun g => ?_))
  repeat(first|refine QV QP ?_|refine QZ ?_|refine QV (rr_build rfl (build_sym _ _)) ?_)
  refine TL_storeB (i := 0) rfl rfl rfl rfl rfl rfl ?_
  repeat(first|refine QV QP ?_|refine QZ ?_)
  exact E_retc1 (i := 0) rfl rfl rfl rfl fun w hm => hm.ret
def brkP : List gramL.Prod := [(0, []), (0, [(1, 0), (2, 0), (1, 1), (2, 0)])]
def brkG : Gram := ⟨2, 1, brkP⟩
def gramS (g : Gram) : Spec (Value × (Nat → Prop)) := ⟨fun _ => True, fun x => graV g.terms g.nons x.1, fun x => [prodsO x.2 x.1 g.prods]⟩
theorem build_prod0 (w : World) : (Instr.build 68 (#[] : Array (Nat × Value))).run Try.prog w = .ok (.agg #[.int .i64 0, .slice none 0 0]) w := by
  go_simp
theorem build_prod1 (b : Option Addr) (m c : Nat) (w : World) : (Instr.build 68 #[(1, .slice b m c)]).run Try.prog w = .ok (.agg #[.int .i64 0, .slice b m c]) w := by
  go_simp
theorem build_gra3 (t n : Int) (b : Option Addr) (m c : Nat) (w : World) : (Instr.build 24 #[(0, .int .i64 t), (1, .int .i64 n), (2, .slice b m c)]).run Try.prog w = .ok (.agg #[.int .i64 t, .int .i64 n, .slice b m c]) w := by
  go_simp
theorem rd_blk {w : World} {g : Nat} {cs : Array Value} {T : TypeId} (h : w.heap[g]? = some (.cells cs T (0, 0))) {off : Nat} {xs : List Value} (hx : ∀ (j : Nat) u, xs[j]? = some u → cs[off + j]? = some u) : Rd w g off xs := fun j u hj => by
  rw [cell_of_row w g (off + j) _ _ _ h]; exact hx j u hj
theorem ok0 : kit.okI64 0 := ⟨by decide, by decide⟩
theorem ok1 : kit.okI64 1 := ⟨by decide, by decide⟩
theorem ok2 : kit.okI64 2 := ⟨by decide, by decide⟩
theorem brk_slf {w : World} {g h : Nat} {T T' : TypeId} (hg : w.heap[g]? = some (.cells #[.int .i64 1, .int .i64 0, .int .i64 2, .int .i64 0, .int .i64 1, .int .i64 1, .int .i64 2, .int .i64 0] T (0, 0))) (hh : w.heap[h]? = some (.cells #[.int .i64 0, .slice none 0 0, .int .i64 0, .slice (some ⟨g, 0, none⟩) 4 4] T' (0, 0))) :
    SlF prodS (fun k => k = g ∨ k = h) w (.slice (some ⟨h, 0, none⟩) 2 2) brkP := by
  refine ⟨_, _, rfl, Nat.le_refl _, by decide, fun _ => ⟨h, 0, rfl, .inr rfl, fun i hi => ?_⟩⟩
  match i, hi with
  | 0, _ => exact ⟨[.int .i64 0, .slice none 0 0], ⟨[.int .i64 0], [.slice none 0 0], rfl, ⟨rfl, ok0⟩, _, rfl, SlF.nil⟩, rd_blk hh fun j u hj => by match j, hj with | 0, hj => exact hj | 1, hj => exact hj⟩
  | 1, _ =>
    refine ⟨[.int .i64 0, .slice (some ⟨g, 0, none⟩) 4 4], ⟨[.int .i64 0], [.slice (some ⟨g, 0, none⟩) 4 4], rfl, ⟨rfl, ok0⟩, _, rfl, ?_⟩, rd_blk hh fun j u hj => by match j, hj with | 0, hj => exact hj | 1, hj => exact hj⟩
    refine ⟨_, _, rfl, Nat.le_refl _, by decide, fun _ => ⟨g, 0, rfl, .inl rfl, fun i hi => ?_⟩⟩
    match i, hi with
    | 0, _ => exact ⟨_, ⟨rfl, ok1, ok0⟩, rd_blk hg fun j u hj => by match j, hj with | 0, hj => exact hj | 1, hj => exact hj⟩
    | 1, _ => exact ⟨_, ⟨rfl, ok2, ok0⟩, rd_blk hg fun j u hj => by match j, hj with | 0, hj => exact hj | 1, hj => exact hj⟩
    | 2, _ => exact ⟨_, ⟨rfl, ok1, ok1⟩, rd_blk hg fun j u hj => by match j, hj with | 0, hj => exact hj | 1, hj => exact hj⟩
    | 3, _ => exact ⟨_, ⟨rfl, ok2, ok0⟩, rd_blk hg fun j u hj => by match j, hj with | 0, hj => exact hj | 1, hj => exact hj⟩
attribute [local irreducible] Instr.build in
set_option maxHeartbeats 1000000 in
theorem brackets_calls (w : World) : Calls Try.prog 10 #[] w (Meets (gramS brkG) w) := by
  refine enter (args := []) (n := 10) Try.func10 rfl rfl rfl ?_
  refine T_seq (T_region (TL_new rfl fun g => ?_))
  repeat(first|refine QZ ?_|refine QV (rr_build rfl build_prod0) ?_)
  refine TL_call (he1 EntersC.en rfl rfl) (fun w hm => term_calls 0 w) rfl rfl rfl ?_
  intro _ _
  repeat(first|refine QZ ?_)
  refine TL_call (he1 EntersC.en rfl rfl) (fun w hm => non_calls 0 w) rfl rfl rfl ?_
  intro _ _
  repeat(first|refine QZ ?_)
  refine TL_call (he1 EntersC.en rfl rfl) (fun w hm => term_calls 1 w) rfl rfl rfl ?_
  intro _ _
  repeat(first|refine QZ ?_)
  refine TL_call (he1 EntersC.en rfl rfl) (fun w hm => non_calls 0 w) rfl rfl rfl ?_
  intro _ _
  conv=>arg 8;simp only[zA,zB,zC,zD,zE,zF,zG,zH,zI,rowS,ret,id_eq]
  refine TL_litN [.agg (symC (1, 0)).toArray, .agg (symC (2, 0)).toArray, .agg (symC (1, 1)).toArray, .agg (symC (2, 0)).toArray] rfl rfl rfl (by intro v hv; simp at hv; rcases hv with rfl | rfl | rfl | rfl <;> rfl) rfl rfl rfl fun g6 => ?_
  repeat(first|refine QZ ?_|refine QV (rr_build rfl (build_prod1 _ _ _)) ?_)
  refine TL_litN [.agg #[.int .i64 0, .slice none 0 0], .agg #[.int .i64 0, .slice (some ⟨g6, 0, none⟩) 4 4]] rfl rfl rfl (by intro v hv; simp at hv; rcases hv with rfl | rfl <;> rfl) rfl rfl rfl fun g8 => ?_
  conv=>arg 8;simp only[zA,zB,zC,zD,zE,zF,zG,zH,zI,rowS,ret,id_eq]
  repeat(first|refine QZ ?_|refine QV (rr_build rfl (build_gra3 _ _ _ _ _)) ?_)
  refine TL_storeB (i := 0) rfl rfl rfl rfl rfl rfl ?_
  conv=>arg 8;simp only[zA,zB,zC,zD,zE,zF,zG,zH,zI,rowS,ret,id_eq]
  repeat(first|refine QZ ?_)
  refine E_merge (prodsO (fun k => k = g6 ∨ k = g8) (.slice (some ⟨g8, 0, none⟩) 2 2) brkP) 1 2 [0] (by decide) rfl rfl rfl (fun k hk => hk.elim (fun h => by cases h) fun h => h.elim (fun h => .inl (.inl (by rw [h]; rfl))) fun h => .inr (.inl (by rw [h]; rfl))) (fun w h6 h8 => ?_) ?_
  · refine ⟨⟨_, rfl, brk_slf h6 h8⟩, fun k hk => ?_⟩
    rcases hk with rfl | rfl
    · exact (Array.getElem?_eq_some_iff.1 (show w.heap[k]? = some _ from h6)).1
    · exact (Array.getElem?_eq_some_iff.1 (show w.heap[k]? = some _ from h8)).1
  exact E_retc1 (i := 0) rfl rfl rfl rfl fun w hm => hm.meets (S := gramS brkG) (.slice (some ⟨g8, 0, none⟩) 2 2, fun k => k = g6 ∨ k = g8) trivial [1] (by decide) rfl
end Go.Proofs.Ytlojfbnimmdehaa.eng

/- FactsE -/
namespace Go.Proofs.Ytlojfbnimmdehaa.eng
open Go.RowKit kit mix gramL factsL
section
variable {P : Program} {n : Nat} {W : Base} {fr : Fr} {L : List Own} {dst : Option Tmp} {ty : TypeId} {pos : String} {after : Array Edge} {guard : Option (Nat × Bool)} {t u : TypeId} {x y : Operand} {k : IntKind} {m m' r : Int}
theorem rr_andn (hx : ev fr x = some (.int k m)) (hy : ev fr y = some (.int k m')) (h : bits .andNot k m m' = r) : RR P n W ⟨dst, .binOp .andNot t x y u, ty, pos, after, guard⟩ fr L (.int k r) := rr_bits (.inr (.inr (.inr rfl))) hx hy h
end
theorem meets_of {ι : Type} {S : Spec ι} {w w' : World} {e : Ending} (h : MeetsB S w e w') : Meets S w e w' := let ⟨x, h1, h2, h3⟩ := h; ⟨x, h1, h2, h3.below, h3.newer⟩
theorem build_fac0 (w : World) : (Instr.build 41 (#[] : Array (Nat × Value))).run Try.prog w = .ok (.agg #[.slice none 0 0, .slice none 0 0, .slice none 0 0, .slice none 0 0, .slice none 0 0]) w := by
  go_simp
/-- of a grammar that is none -/
theorem ofE_calls (v : Value) (g : Gram) (w : World) (h : GraR (fun k => k < w.heap.size) w v g) (h0 : checkG g ≠ 0) :
    Calls Try.prog 13 #[v] w (Meets (ret (.tuple #[facV (.slice none 0 0) (.slice none 0 0) (.slice none 0 0) (.slice none 0 0) (.slice none 0 0), .int .i64 (checkG g)])) w) := by
  have hck := fun w' (hg : Gr w w') => checkG_calls v g w' (h.gr hg)
  obtain ⟨vp, rfl, h1, _⟩ := h
  obtain ⟨bp, cp, rfl, hcp, hmp, hrp⟩ := h1
  generalize checkG g = e at *
  obtain ⟨t, n, prods⟩ := g
  dsimp only at *
  refine enter (args := [graV t n (.slice bp prods.length cp)]) (n := 39) Try.func13 rfl rfl rfl ?_
  refine T_seq (T_region (TL_box rfl rfl rfl fun g1 => TL_new rfl fun g2 => ?_))
  repeat(first|refine QV QP ?_|refine QZ ?_|refine qcT rfl ?_|refine qcF rfl ?_|refine E_blockX ?_|refine E_blockO rfl ?_|refine QV (rr_loadB (i := 0) TyC.ty rfl rfl rfl) ?_|refine QV QA ?_|refine QV QnT ?_|refine QV QnF ?_)
  refine TL_call (he1 EntersC.en rfl rfl) (fun w hm => hck _ hm.below) rfl rfl rfl ?_
  intro _ _
  conv=>arg 8;simp only[zA,zB,zC,zD,zE,zF,zG,zH,zI,rowS,ret,id_eq]
  repeat(first|refine QV QP ?_|refine QZ ?_|refine qcT rfl ?_|refine qcF rfl ?_|refine E_blockX ?_|refine E_blockO rfl ?_|refine QV (rr_build rfl build_fac0) ?_|refine QV QA ?_|refine QV QnT ?_|refine QV QnF ?_)
  refine TL_storeB (i := 1) rfl rfl rfl rfl rfl rfl ?_
  repeat(first|refine QV QP ?_|refine QZ ?_|refine qcT rfl ?_|refine qcF rfl ?_|refine E_blockX ?_|refine E_blockO rfl ?_|refine QV QA ?_|refine QV QnT ?_|refine QV QnF ?_)
  exact E_retc2 (i := 1) rfl rfl rfl rfl rfl fun w hm => hm.ret
end Go.Proofs.Ytlojfbnimmdehaa.eng

/- FactsF -/
namespace Go.Proofs.Ytlojfbnimmdehaa.eng
open Go.RowKit kit mix gramL factsL
/-- is a symbol wrong? -/
def badE (t n : Int) : List Sym → Int
  | [] => 0
  | x :: r => if right t n x = true then badE t n r else 1
theorem badE_ok {t n : Int} : ∀ {l : List Sym}, badE t n l = 0 → ∀ x ∈ l, right t n x = true
  | [], _, _, h => by cases h
  | y :: r, h, x, hx => by
    unfold badE at h
    split at h
    · rename_i c
      rcases List.mem_cons.1 hx with rfl | hx
      · exact c
      · exact badE_ok h x hx
    · cases h
theorem badE_of {t n : Int} : ∀ {l : List Sym}, (∀ x ∈ l, right t n x = true) → badE t n l = 0
  | [], _ => rfl
  | y :: r, h => by unfold badE; rw [if_pos (h y (by simp))]; exact badE_of fun x hx => h x (by simp [hx])
def begE (g : Gram) (body : List Sym) : Int := if checkG g ≠ 0 then checkG g else if 60 < body.length then 1 else badE g.terms g.nons body
def begV (g : Gram) (body : List Sym) (behind : Nat) : Nat := if begE g body = 0 then beginF (ofS g.nons.toNat g.prods).E (ofF g.nons.toNat g.prods) body behind else 0
theorem wrong_cases {t n : Int} {x : Sym} (h : right t n x = false) : (x.1 ≠ 1 ∧ x.1 ≠ 2) ∨ (x.1 = 1 ∧ x.2 < 0) ∨ (x.1 = 1 ∧ 0 ≤ x.2 ∧ t ≤ x.2) ∨ (x.1 = 2 ∧ x.2 < 0) ∨ (x.1 = 2 ∧ 0 ≤ x.2 ∧ n ≤ x.2) := by
  unfold right at h
  split at h
  · simp at h; omega
  · split at h
    · simp at h; omega
    · omega
theorem right_cases {t n : Int} {x : Sym} (h : right t n x = true) : (x.1 = 1 ∧ 0 ≤ x.2 ∧ x.2 < t) ∨ (x.1 = 2 ∧ 0 ≤ x.2 ∧ x.2 < n) := by
  unfold right at h
  split at h
  · simp at h; omega
  · split at h
    · simp at h; omega
    · simp at h
theorem ofW_ok {g : Gram} {n : Nat} (hck : checkG g = 0) (hn : g.nons = n) : okR n (ofS n g.prods) ∧ okW n (ofF n g.prods) := by
  have hf := fine_of hck hn
  constructor
  · obtain ⟨s', h1, h2, h3⟩ := fix_end (fallsS hf) _ ⟨List.replicate n false, (List.replicate n false).set 0 true, List.replicate n false, false⟩ ⟨by simp, by simp, by simp⟩ (Nat.le_refl _)
    unfold ofS
    rw [h3]
    exact (fallsS hf).keep _ h1
  · obtain ⟨s', h1, h2, h3⟩ := fix_end (fallsF (E := (ofS n g.prods).E) (M := (ofS n g.prods).M) hf) _ (List.replicate n 0) ⟨by simp, fun x hx => by rw [List.eq_of_mem_replicate hx]; decide⟩ (Nat.le_refl _)
    unfold ofF setsF
    rw [h3]
    exact (fallsF hf).keep _ h1
set_option maxHeartbeats 4000000 in
theorem factsBegin_calls (v vb : Value) (g : Gram) (body : List Sym) (behind : Nat) (w : World) (h : GraR (fun k => k < w.heap.size) w v g) (hs : Sl w vb body.length (body.flatMap symC)) (hb : behind < 18446744073709551616) :
    Calls Try.prog 48 #[v, vb, bitV behind] w (Meets (ret (.tuple #[bitV (begV g body behind), .int .i64 (begE g body)])) w) := by
  by_cases c0 : checkG g = 0
  · obtain ⟨_, _, k1, k2, k3, k4⟩ := checkG_ok c0
    obtain ⟨n, hn⟩ : ∃ n : Nat, g.nons = n := ⟨g.nons.toNat, by omega⟩
    have hof := fun w' (hg : Gr w w') => of_calls v g w' (h.gr hg) c0 n hn
    obtain ⟨hS, hF⟩ := ofW_ok c0 hn
    obtain ⟨vp, rfl, h1, _⟩ := h
    obtain ⟨bp, cp, rfl, hcp, hmp, hrp⟩ := h1
    clear hrp
    have hs0 := hs
    obtain ⟨bb, cb, rfl, h4, h5, h6⟩ := hs
    unfold maxLen at h5
    obtain ⟨t, nn, prods⟩ := g
    dsimp only at *
    subst hn
    have hbg := fun (vE vF vL vR vM : Value) w' (hg : Gr w w') (hE : Sl w' vE n ((ofS n prods).E.map .bool)) (hF2 : Sl w' vF n ((ofF n prods).map bitV)) hok => begin_calls vE vF vL vR vM _ (ofS n prods).E (ofF n prods) body behind w' (by rw [hS.1]; exact hE) (by rw [hF.1]; exact hF2) (hs0.gr hg) (by rw [hS.1, hF.1]) hok hF.2 hb
    rw [hF.1] at hbg
    have hV : begV ⟨t, n, prods⟩ body behind = if begE ⟨t, n, prods⟩ body = 0 then beginF (ofS n prods).E (ofF n prods) body behind else 0 := rfl
    have hE : begE ⟨t, n, prods⟩ body = if 60 < body.length then 1 else badE t n body := by
      unfold begE
      rw [if_neg (by rw [c0]; simp)]
    generalize begV ⟨t, n, prods⟩ body behind = rV at *
    generalize begE ⟨t, n, prods⟩ body = rE at *
    refine enter (args := [graV t (n : Int) (.slice bp prods.length cp), .slice bb body.length cb, bitV behind]) (n := 71) Try.func48 rfl rfl rfl ?_
    refine T_seq (T_region (TL_box rfl rfl rfl fun g3 => ?_))
    repeat(first|refine QV QP ?_|refine QZ ?_|refine qcT rfl ?_|refine qcF rfl ?_|refine E_blockX ?_|refine E_blockO rfl ?_|refine qs rfl rfl rfl rfl rfl rfl ?_|((try refine qg rfl rfl rfl ?_);first|refine QV QP ?_|refine QV (rr_loadB (i := 0) TyC.ty rfl rfl rfl) ?_|refine QV QL ?_|refine QV QA ?_|refine QV QlT ?_|refine QV QlF ?_|refine QV QgT ?_|refine QV QgF ?_|refine QV QnT ?_|refine QV QnF ?_|refine QV QaA ?_|refine QV QhT ?_|refine QV QhF ?_|refine QV QeT ?_|refine QV QeF ?_))
    refine TL_call (he1 EntersC.en rfl rfl) (fun w' hm => (hof w' hm.below).mono fun e w2 h => meets_of h) rfl rfl rfl ?_
    intro x _
    conv=>arg 8;simp only[zA,zB,zC,zD,zE,zF,zG,zH,zI,rowS,ret,id_eq, Rows5.val]
    repeat(first|refine QV QP ?_|refine QZ ?_|refine qcT rfl ?_|refine qcF rfl ?_|refine E_blockX ?_|refine E_blockO rfl ?_|refine qs rfl rfl rfl rfl rfl rfl ?_|((try refine qg rfl rfl rfl ?_);first|refine QV QP ?_|refine QV QL ?_|refine QV QA ?_|refine QV QlT ?_|refine QV QlF ?_|refine QV QgT ?_|refine QV QgF ?_|refine QV QnT ?_|refine QV QnF ?_|refine QV QaA ?_|refine QV QhT ?_|refine QV QhF ?_|refine QV QeT ?_|refine QV QeF ?_))
    refine TL_new rfl fun g8 => ?_
    refine TL_storeB (i := 6) rfl rfl rfl rfl rfl rfl ?_
    conv=>arg 8;simp only[zA,zB,zC,zD,zE,zF,zG,zH,zI,rowS,ret,id_eq]
    by_cases c1 : 60 < body.length
    · rw [if_pos c1] at hE
      subst hE
      rw [if_neg (by decide)] at hV
      subst hV
      repeat(first|refine QV QP ?_|refine QZ ?_|refine qcT rfl ?_|refine qcF rfl ?_|refine E_blockX ?_|refine E_blockO rfl ?_|refine qs rfl rfl rfl rfl rfl rfl ?_|((try refine qg rfl rfl rfl ?_);first|refine QV QP ?_|refine QV QL ?_|refine QV QA ?_|refine QV QlT ?_|refine QV QlF ?_|refine QV QgT ?_|refine QV QgF ?_|refine QV QnT ?_|refine QV QnF ?_|refine QV QaA ?_|refine QV QhT ?_|refine QV QhF ?_|refine QV QeT ?_|refine QV QeF ?_))
      exact E_ret2 rfl rfl rfl fun w hm => hm.ret
    rw [if_neg c1] at hE
    repeat(first|refine QV QP ?_|refine QZ ?_|refine qcT rfl ?_|refine qcF rfl ?_|refine E_blockX ?_|refine E_blockO rfl ?_|refine qs rfl rfl rfl rfl rfl rfl ?_|((try refine qg rfl rfl rfl ?_);first|refine QV QP ?_|refine QV QL ?_|refine QV QA ?_|refine QV QlT ?_|refine QV QlF ?_|refine QV QgT ?_|refine QV QgF ?_|refine QV QnT ?_|refine QV QnF ?_|refine QV QaA ?_|refine QV QhT ?_|refine QV QhF ?_|refine QV QeT ?_|refine QV QeF ?_))
    refine T_loop (ι := Nat) (fun k => k ≤ body.length ∧ rE = badE t n (body.drop k)) (fun k => [(1, .slice bb body.length cb), (2, bitV behind), (3, .pointer (some ⟨g3, 0, none⟩)), (8, .pointer (some ⟨g8, 0, none⟩)), (23, .slice bb body.length cb), (24, .int .i64 body.length), (25, .int .i64 (k : Int))])
      (fun _ => [blkO g3 (graV t (n : Int) (.slice bp prods.length cp)).cells 24, rowBn n x.gE x.cE (ofS n prods).E, rowNn n x.gF x.cF (ofF n prods), rowNn n x.gW x.cW (ofW n prods), rowBn n x.gR x.cR (ofS n prods).R, rowBn n x.gM x.cM (ofS n prods).M, blkO g8 (facV (vRow n x.gE x.cE) (vRow n x.gF x.cF) (vRow n x.gW x.cW) (vRow n x.gR x.cR) (vRow n x.gM x.cM)).cells 41]) (fun k => body.length - k) 0 ⟨Nat.zero_le _, hE⟩ (by repeat' (first | exact True.intro | refine And.intro rfl ?_)) rfl ?_
    rintro k ⟨i1, i2⟩
    by_cases c6 : k < body.length
    · obtain ⟨b, off, rfl, hr⟩ := h6 (by omega)
      have hat := fun L => at_el (L := L) SymS_len hr c6
      rw [List.drop_eq_getElem_cons c6, badE] at i2
      clear h6 hr hs0 hbg
      generalize body[k] = y at *
      cases r : right t n y
      · rw [if_neg (by rw [r]; decide)] at i2
        clear hE
        subst i2
        rw [if_neg (by decide)] at hV
        subst hV
        have r' := wrong_cases r
        obtain ⟨q, m⟩ := y
        dsimp only at r'
        rcases r' with r' | r' | r' | r' | r'
        all_goals
          repeat(first|refine QV QP ?_|refine QZ ?_|refine qcT rfl ?_|refine qcF rfl ?_|refine E_blockX ?_|refine E_blockO rfl ?_|refine qs rfl rfl rfl rfl rfl rfl ?_|((try refine qg rfl rfl rfl ?_);first|refine QV QP ?_|refine QV (rr_idxc Und.eq TyC.ty rfl rfl c6) ?_|refine QV (rr_loadN TyC.ty rfl rfl (hat _)) ?_|refine QV QL ?_|refine QV QA ?_|refine QV QlT ?_|refine QV QlF ?_|refine QV QgT ?_|refine QV QgF ?_|refine QV QnT ?_|refine QV QnF ?_|refine QV QaA ?_|refine QV QhT ?_|refine QV QhF ?_|refine QV QeT ?_|refine QV QeF ?_))
          refine TL_new rfl fun g11 => ?_
          refine TL_storeB (i := 7) rfl rfl rfl rfl rfl rfl ?_
          conv=>arg 8;simp only[zA,zB,zC,zD,zE,zF,zG,zH,zI,rowS,ret,id_eq]
          repeat(first|refine QV QP ?_|refine QZ ?_|refine qcT rfl ?_|refine qcF rfl ?_|refine E_blockX ?_|refine E_blockO rfl ?_|refine qs rfl rfl rfl rfl rfl rfl ?_|((try refine qg rfl rfl rfl ?_);first|refine QV QP ?_|refine QV (rr_load1 TyC.ty rfl (at_blk (i := 7) rfl rfl)) ?_|refine QV (rr_load1 TyC.ty rfl (at_blk (i := 0) rfl rfl)) ?_|refine QV QL ?_|refine QV QA ?_|refine QV QlT ?_|refine QV QlF ?_|refine QV QgT ?_|refine QV QgF ?_|refine QV QnT ?_|refine QV QnF ?_|refine QV QaA ?_|refine QV QhT ?_|refine QV QhF ?_|refine QV QeT ?_|refine QV QeF ?_))
          exact E_ret2 rfl rfl rfl fun w hm => hm.ret
      · rw [if_pos r] at i2
        have r' := right_cases r
        obtain ⟨q, m⟩ := y
        dsimp only at r'
        rcases r' with r' | r'
        all_goals
          repeat(first|refine QV QP ?_|refine QZ ?_|refine qcT rfl ?_|refine qcF rfl ?_|refine E_blockX ?_|refine E_blockO rfl ?_|refine qs rfl rfl rfl rfl rfl rfl ?_|((try refine qg rfl rfl rfl ?_);first|refine QV QP ?_|refine QV (rr_idxc Und.eq TyC.ty rfl rfl c6) ?_|refine QV (rr_loadN TyC.ty rfl rfl (hat _)) ?_|refine QV QL ?_|refine QV QA ?_|refine QV QlT ?_|refine QV QlF ?_|refine QV QgT ?_|refine QV QgF ?_|refine QV QnT ?_|refine QV QnF ?_|refine QV QaA ?_|refine QV QhT ?_|refine QV QhF ?_|refine QV QeT ?_|refine QV QeF ?_))
          refine TL_new rfl fun g11 => ?_
          refine TL_storeB (i := 7) rfl rfl rfl rfl rfl rfl ?_
          conv=>arg 8;simp only[zA,zB,zC,zD,zE,zF,zG,zH,zI,rowS,ret,id_eq]
          repeat(first|refine QV QP ?_|refine QZ ?_|refine qcT rfl ?_|refine qcF rfl ?_|refine E_blockX ?_|refine E_blockO rfl ?_|refine qs rfl rfl rfl rfl rfl rfl ?_|((try refine qg rfl rfl rfl ?_);first|refine QV QP ?_|refine QV (rr_load1 TyC.ty rfl (at_blk (i := 7) rfl rfl)) ?_|refine QV (rr_load1 TyC.ty rfl (at_blk (i := 0) rfl rfl)) ?_|refine QV QL ?_|refine QV QA ?_|refine QV QlT ?_|refine QV QlF ?_|refine QV QgT ?_|refine QV QgF ?_|refine QV QnT ?_|refine QV QnF ?_|refine QV QaA ?_|refine QV QhT ?_|refine QV QhF ?_|refine QV QeT ?_|refine QV QeF ?_))
          refine E_pick [0, 1, 2, 3, 4, 5, 6] (by decide) rfl ?_
          exact E_round (k + 1) ⟨by omega, i2⟩ (by show body.length - (k + 1) < body.length - k; omega) (by repeat' (first | exact True.intro | refine And.intro rfl ?_)) rfl
    · rw [List.drop_of_length_le (by omega)] at i2
      have i2 : rE = 0 := by rw [i2]; rfl
      have hall : ∀ x ∈ body, right t n x = true := badE_ok (hE.symm.trans i2)
      clear hE
      rw [if_pos i2] at hV
      subst i2 hV
      repeat(first|refine QV QP ?_|refine QZ ?_|refine qcT rfl ?_|refine qcF rfl ?_|refine E_blockX ?_|refine E_blockO rfl ?_|refine qs rfl rfl rfl rfl rfl rfl ?_|((try refine qg rfl rfl rfl ?_);first|refine QV QP ?_|refine QV (rr_loadB (i := 6) TyC.ty rfl rfl rfl) ?_|refine QV QL ?_|refine QV QA ?_|refine QV QlT ?_|refine QV QlF ?_|refine QV QgT ?_|refine QV QgF ?_|refine QV QnT ?_|refine QV QnF ?_|refine QV QaA ?_|refine QV QhT ?_|refine QV QhF ?_|refine QV QeT ?_|refine QV QeF ?_))
      refine TL_call (he3 EntersC.en rfl rfl rfl rfl) (fun w hm => hbg _ _ _ _ _ w hm.below (sl_row (i := 1) rfl w hm) (sl_row (i := 2) rfl w hm) (fun x hx => by have := right_cases (hall x hx); omega)) rfl rfl rfl ?_
      intro _ _
      repeat(first|refine QV QP ?_|refine QZ ?_|refine qcT rfl ?_|refine qcF rfl ?_|refine E_blockX ?_|refine E_blockO rfl ?_|refine qs rfl rfl rfl rfl rfl rfl ?_|((try refine qg rfl rfl rfl ?_);first|refine QV QP ?_|refine QV QL ?_|refine QV QA ?_|refine QV QlT ?_|refine QV QlF ?_|refine QV QgT ?_|refine QV QgF ?_|refine QV QnT ?_|refine QV QnF ?_|refine QV QaA ?_|refine QV QhT ?_|refine QV QhF ?_|refine QV QeT ?_|refine QV QeF ?_))
      exact E_ret2 rfl rfl rfl fun w hm => hm.ret
  · have hof := fun w' (hg : Gr w w') => ofE_calls v g w' (h.gr hg) c0
    have hE : begE g body = checkG g := by unfold begE; rw [if_pos c0]
    have hV : begV g body behind = 0 := by unfold begV; rw [hE, if_neg c0]
    rw [hE, hV]
    obtain ⟨vp, rfl, h1, _⟩ := h
    obtain ⟨bb, cb, rfl, _⟩ := hs
    generalize checkG g = e at *
    obtain ⟨t, n, prods⟩ := g
    dsimp only at *
    refine enter (args := [graV t n vp, .slice bb body.length cb, bitV behind]) (n := 71) Try.func48 rfl rfl rfl ?_
    refine T_seq (T_region (TL_box rfl rfl rfl fun g3 => ?_))
    repeat(first|refine QV QP ?_|refine QZ ?_|refine qcT rfl ?_|refine qcF rfl ?_|refine E_blockX ?_|refine E_blockO rfl ?_|refine qs rfl rfl rfl rfl rfl rfl ?_|((try refine qg rfl rfl rfl ?_);first|refine QV QP ?_|refine QV (rr_loadB (i := 0) TyC.ty rfl rfl rfl) ?_|refine QV QL ?_|refine QV QA ?_|refine QV QlT ?_|refine QV QlF ?_|refine QV QgT ?_|refine QV QgF ?_|refine QV QnT ?_|refine QV QnF ?_|refine QV QaA ?_|refine QV QhT ?_|refine QV QhF ?_|refine QV QeT ?_|refine QV QeF ?_))
    refine TL_call (he1 EntersC.en rfl rfl) (fun w hm => hof _ hm.below) rfl rfl rfl ?_
    intro _ _
    repeat(first|refine QV QP ?_|refine QZ ?_|refine qcT rfl ?_|refine qcF rfl ?_|refine E_blockX ?_|refine E_blockO rfl ?_|refine qs rfl rfl rfl rfl rfl rfl ?_|((try refine qg rfl rfl rfl ?_);first|refine QV QP ?_|refine QV QL ?_|refine QV QA ?_|refine QV QlT ?_|refine QV QlF ?_|refine QV QgT ?_|refine QV QgF ?_|refine QV QnT ?_|refine QV QnF ?_|refine QV QaA ?_|refine QV QhT ?_|refine QV QhF ?_|refine QV QeT ?_|refine QV QeF ?_))
    refine TL_new rfl fun g8 => ?_
    refine TL_storeB (i := 1) rfl rfl rfl rfl rfl rfl ?_
    repeat(first|refine QV QP ?_|refine QZ ?_|refine qcT rfl ?_|refine qcF rfl ?_|refine E_blockX ?_|refine E_blockO rfl ?_|refine qs rfl rfl rfl rfl rfl rfl ?_|((try refine qg rfl rfl rfl ?_);first|refine QV QP ?_|refine QV QL ?_|refine QV QA ?_|refine QV QlT ?_|refine QV QlF ?_|refine QV QgT ?_|refine QV QgF ?_|refine QV QnT ?_|refine QV QnF ?_|refine QV QaA ?_|refine QV QhT ?_|refine QV QhF ?_|refine QV QeT ?_|refine QV QeF ?_))
    exact E_ret2 rfl rfl rfl fun w hm => hm.ret
end Go.Proofs.Ytlojfbnimmdehaa.eng

/- IntO -/
namespace Go.Proofs.Ytlojfbnimmdehaa.eng
open Go.RowKit kit mix
theorem one_int (l : List Int) : ∀ u ∈ l.flatMap kit.intC, u.oneCell' = true := by
  intro u hu
  obtain ⟨f, _, h⟩ := List.mem_flatMap.1 hu
  simp only [kit.intC, List.mem_cons, List.not_mem_nil, or_false] at h
  subst h; rfl
theorem flatI (l : List Int) : l.flatMap kit.intC = l.map (.int .i64) := kit.flat1 l
end Go.Proofs.Ytlojfbnimmdehaa.eng

/- IntK -/
namespace Go.Proofs.Ytlojfbnimmdehaa.eng
open Go.RowKit kit mix
theorem IntC_len (a : Int) : (kit.intC a).length = 1 := rfl
set_option maxHeartbeats 2000000 in
theorem cloneIntC_calls (v : Value) (l : List Int) (w : World) (hs : Sl w v l.length (l.flatMap kit.intC)) (hl : l.length * 8 ≤ 140737488355328) :
    Calls Try.prog 116 #[v] w (Meets (rowS 3 1 l.length (l.flatMap kit.intC) id) w) := by
  obtain ⟨base, cap, rfl, hcap, hmax, hrd⟩ := hs
  unfold maxLen at hmax
  refine enter (args := [.slice base l.length cap]) (n := 8) Try.func116 rfl rfl rfl ?_
  have hsl : ∀ w', Gr w w' → Sl w' (.slice base l.length cap) l.length (l.flatMap kit.intC) := fun w' hg => Sl.gr ⟨base, cap, rfl, hcap, hmax, hrd⟩ hg
  clear hrd
  cases base with
  | none =>
    repeat(first|refine QV QP ?_|refine QZ ?_|refine qcT rfl ?_|refine qcF rfl ?_|refine QV (rr_slnil Und.eq rfl rfl rfl) ?_)
    have h0 : l = [] := by
      cases l with
      | nil => rfl
      | cons x l => obtain ⟨_, _, h, _, _, h2⟩ := hsl w (Gr.refl w); simp only [Value.slice.injEq] at h; obtain ⟨rfl, _⟩ := h; obtain ⟨b, off, h, _⟩ := h2 (by simp); cases h
    subst h0
    refine E_nilrow 3 1 ?_
    exact E_ret1 rfl rfl fun w hm => hm.meets (S := rowS 3 1 0 [] id) _ trivial [0] (by decide) rfl
  | some p =>
    repeat(first|refine QV QP ?_|refine QZ ?_|refine qcT rfl ?_|refine qcF rfl ?_|refine QV (rr_slnil Und.eq rfl rfl rfl) ?_)
    refine TL_lit0 rfl fun g => ?_
    repeat(first|refine QV QP ?_|refine QZ ?_|refine qcT rfl ?_|refine qcF rfl ?_)
    refine TL_appSl (i := 0) rfl (fun w' hm => hsl w' hm.below) rfl rfl (len_el IntC_len l) (one_int l) (by omega) (by omega) rfl fun v' => ?_
    rw [List.nil_append]
    repeat(first|refine QV QP ?_|refine QZ ?_|refine qcT rfl ?_|refine qcF rfl ?_)
    refine E_ret1 rfl rfl fun w hm => ?_
    exact hm.meets (S := rowS 3 1 l.length (l.flatMap kit.intC) id) v' trivial [0] (by decide) (by simp [rowS])
end Go.Proofs.Ytlojfbnimmdehaa.eng

/- ItB -/
namespace Go.Proofs.Ytlojfbnimmdehaa.eng
open Go.RowKit kit mix gramL treeL factsL itemL
def itC (x : itemL.Item) : List Value := [.int .i64 x.1, .int .i64 x.2.1, .int .i64 x.2.2]
theorem itC_len (x : itemL.Item) : (itC x).length = 3 := rfl
/-- the body of the WHOLE, or nothing -/
def bodO (x : Option Nat) : Own := match x with
  | some g => blkO g #[.int .i64 2, .int .i64 0] 71
  | none => ⟨none, fun _ => False, fun _ => True, fun _ _ k h => by rcases h with h | h; cases h; exact h.elim, fun _ _ _ _ _ => trivial⟩
def bodV (vb : Nat → Value) (n : Nat) (x : Option Nat) : Value := match x with
  | some g => .slice (some ⟨g, 0, none⟩) 1 1
  | none => vb n
/-- bodies that came in -/
def BodR (F : Nat → Prop) (w : World) (vb : Nat → Value) (l : List gramL.Prod) : Prop := ∀ i, i < l.length → SlF symS F w (vb i) (prodAt l (i : Int)).2
def bodyS (vb : Nat → Value) (n P : Nat) : Spec (Option Nat) := ⟨fun x => x.isSome = decide (n = P), fun x => bodV vb n x, fun x => [bodO x]⟩
/-- productions with their bodies -/
theorem prods_vb {F : Nat → Prop} {w : World} {vp : Value} {l : List gramL.Prod} (h : SlF prodS F w vp l) : ∃ (vb : Nat → Value) (bp : Option Addr) (cp : Nat), vp = .slice bp l.length cp ∧ l.length ≤ cp ∧ cp ≤ maxLen ∧ BodR F w vb l ∧ (0 < l.length → ∃ b off, bp = some ⟨b, off, none⟩ ∧ F b ∧ ∀ i, i < l.length → Rd w b (off + i * 2) [.int .i64 (prodAt l (i : Int)).1, vb i] ∧ kit.okI64 (prodAt l (i : Int)).1) := by
  obtain ⟨bp, cp, rfl, h1, h2, h3⟩ := h
  by_cases h0 : 0 < l.length
  · obtain ⟨b, off, rfl, hF, hr⟩ := h3 h0
    have key : ∀ i : Nat, ∃ v : Value, i < l.length → SlF symS F w v (prodAt l (i : Int)).2 ∧ Rd w b (off + i * 2) [.int .i64 (prodAt l (i : Int)).1, v] ∧ kit.okI64 (prodAt l (i : Int)).1 := fun i => by
      by_cases hi : i < l.length
      · obtain ⟨base, cap, q1, q2, q3⟩ := prod_at hr hi
        have e : prodAt l (i : Int) = l[i] := by unfold prodAt; rw [Int.toNat_natCast, List.getD_eq_getElem?_getD, List.getElem?_eq_getElem hi]; rfl
        exact ⟨_, fun _ => by rw [e]; exact ⟨q3, q1, q2⟩⟩
      · exact ⟨undef, fun h => absurd h hi⟩
    refine ⟨fun i => Classical.choose (key i), some ⟨b, off, none⟩, cp, rfl, h1, h2, fun i hi => (Classical.choose_spec (key i) hi).1, fun _ => ⟨b, off, rfl, hF, fun i hi => (Classical.choose_spec (key i) hi).2⟩⟩
  · exact ⟨fun _ => undef, bp, cp, rfl, h1, h2, fun i hi => absurd hi (by omega), fun h => absurd h h0⟩
theorem E_none {n : Nat} {W : Base} {e : Exit} {Q : Exit → Act → World → Prop} {fr : Fr} {L : List Own} (h : E n W e Q fr (L ++ [bodO none])) : E n W e Q fr L := ⟨fun a w hr hm => h.go a w hr ⟨hm.low, OwnsP.both hm.owns (OwnsP.one trivial fun k hk => by rcases hk with hk | hk; cases hk; exact hk.elim) fun i j o o' _ hj k _ hk => by
  match j, hj with
  | 0, hj =>
    simp only [List.getElem?_cons_zero, Option.some.injEq] at hj; subst hj
    rcases hk with hk | hk
    · cases hk
    · exact hk.elim
  | j + 1, hj => simp at hj⟩⟩
theorem build_symW (w : World) : (Instr.build 71 #[(0, .int .i64 2), (1, .int .i64 0)]).run Try.prog w = .ok (.agg #[.int .i64 2, .int .i64 0]) w := by kernel_rfl
set_option maxHeartbeats 4000000 in
theorem itBody_calls (t n : Int) (bp : Option Addr) (cp : Nat) (l : List gramL.Prod) (vb : Nat → Value) (w0 w : World) (B : Base) (k : Nat) (hk : k ≤ l.length) (ho : Old w0 B) (hm : Mem B [] w) (hvb : ∀ i, i < l.length → ∃ bb m cc, vb i = .slice bb m cc)
    (hr : 0 < l.length → ∃ b off, bp = some ⟨b, off, none⟩ ∧ ∀ i, i < l.length → Rd w0 b (off + i * 2) [.int .i64 (prodAt l (i : Int)).1, vb i]) :
    Calls Try.prog 81 #[graV t n (.slice bp l.length cp), .int .i64 (k : Int)] w (Meets (bodyS vb k l.length) w) := by
  have hb := build_symW
  have hr : ∀ i, i < l.length → ∃ b off, bp = some ⟨b, off, none⟩ ∧ Rd w b (off + i * 2) [.int .i64 (prodAt l (i : Int)).1, vb i] := fun i hi => by
    obtain ⟨b, off, q1, q2⟩ := hr (by omega)
    exact ⟨b, off, q1, fun j u hj => ho.cell hm (q2 i hi j u hj)⟩
  clear hm ho
  refine enter (args := [graV t n (.slice bp l.length cp), .int .i64 (k : Int)]) (n := 18) Try.func81 rfl rfl rfl ?_
  refine T_seq (T_region (TL_box rfl rfl rfl fun g2 => ?_))
  conv=>arg 8;simp only[zA,zB,zC,zD,zE,zF,zG,zH,zI,rowS,ret,id_eq]
  by_cases c : k = l.length
  · subst c
    repeat(first|refine QV QP ?_|refine QZ ?_|refine qcT rfl ?_|refine qcF rfl ?_|refine QV (rr_load1 (v := .slice bp l.length cp) TyC.ty rfl (at_blk (i := 0) rfl rfl)) ?_|refine QV (rr_eql (b := true) rfl rfl (decide_eq_true rfl)) ?_|refine QV (rr_build rfl hb) ?_|refine QV QL ?_|refine QV QA ?_|refine QV QeT ?_|refine QV QeF ?_)
    refine TL_litN (cs := #[.int .i64 2, .int .i64 0]) [.agg #[.int .i64 2, .int .i64 0]] rfl rfl rfl (by intro v hv; simp at hv; subst hv; rfl) rfl rfl rfl fun g11 => ?_
    conv=>arg 8;simp only[zA,zB,zC,zD,zE,zF,zG,zH,zI,rowS,ret,id_eq]
    repeat(first|refine QV QP ?_|refine QZ ?_|refine qcT rfl ?_|refine qcF rfl ?_|refine QV QL ?_|refine QV QA ?_|refine QV QeT ?_|refine QV QeF ?_)
    exact E_ret1 rfl rfl fun w hm => hm.meets (S := bodyS vb l.length l.length) (some g11) (by show true = decide (l.length = l.length); rw [decide_eq_true rfl]) [1] (by decide) rfl
  · obtain ⟨b, off, rfl, hrd⟩ := hr k (by omega)
    obtain ⟨bb, m, cc, hv⟩ := hvb k (by omega)
    have hat : ∀ (L : List Own), At w L ⟨b, off + k * 2 + 1, none⟩ (vb k) := fun L => at_rd hrd (j := 1) rfl
    have hlt : k < l.length := by omega
    repeat(first|refine QV QP ?_|refine QZ ?_|refine qcT rfl ?_|refine qcF rfl ?_|refine QV (rr_load1 (v := .slice (some ⟨b, off, none⟩) l.length cp) TyC.ty rfl (at_blk (i := 0) rfl rfl)) ?_|refine QV (rr_eql (b := false) rfl rfl (decide_eq_false (by omega))) ?_|refine QV (rr_idxc (j := k) Und.eq TyC.ty rfl rfl hlt) ?_|refine QV (rr_load1 (v := vb k) TyC.ty rfl (hat _)) ?_|refine QV QL ?_|refine QV QA ?_|refine QV QeT ?_|refine QV QeF ?_)
    refine E_none ?_
    exact E_ret1 rfl rfl fun w hm => hm.meets (S := bodyS vb k l.length) none (by show false = decide (k = l.length); rw [decide_eq_false c]) [1] (by decide) rfl
end Go.Proofs.Ytlojfbnimmdehaa.eng

/- Map -/
namespace Go.Proofs.Ytlojfbnimmdehaa.eng
open Go.RowKit kit mix
open Go.WideMaps (KeyLaw)
def heldR (v : Value) : Option (DataW Value × List MemPlace) := some (.held v, [])
/-- keys of a map -/
structure KeyT (P : Program) (k : TypeId) (κ : Type) where
  kv : κ → Value
  ok : κ → Prop
  law : KeyLaw P k
  key : ∀ x, ok x → ∃ l, keyOf P k (kv x) = some l
  inj : ∀ x y, kv x = kv y → x = y
section
variable {P : Program} {k : TypeId} {κ : Type}
theorem KeyT.keyed (K : KeyT P k κ) : Maps.Keyed P k := Maps.Keyed.of_law K.law
variable (K : KeyT P k κ)
def MapIs (D : DataW Value) (m : κ → Option Value) (n : Nat) : Prop :=
  Maps.size D = n ∧ ∀ x l, K.ok x → keyOf P k (K.kv x) = some l → match m x with | some v => Maps.has D l = true ∧ (∀ z, D.atKey l z = .held v) | none => Maps.has D l = false
def mapO (g : Nat) (m : κ → Option Value) (n : Nat) : Own :=
  ⟨some g, fun _ => False, fun w => ∃ D, w.ownsMap P k heldR g n D ∧ MapIs K D m n, fun w ⟨D, h, _⟩ q hq => by simp only [Option.some.injEq, or_false] at hq; subst hq; exact h.lt,
    fun w w' ⟨D, ⟨es, clock, hb, h⟩, h2⟩ _ hk => ⟨D, ⟨es, clock, (hk g (.inl rfl)).trans hb, h⟩, h2⟩⟩
theorem map_tight {w : World} {R : Value → Option (DataW Value × List MemPlace)} {b n : Nat} {D : DataW Value} (h : w.ownsMap P k R b n D) : w.ownsMap P k R b (Maps.size D) D := by
  obtain ⟨es, clock, hb, F, hs, rfl⟩ := h
  exact ⟨es, clock, hb, F, by simp [Maps.size, length_sorted], rfl⟩
theorem mapIs_nil : MapIs K (.map []) (fun _ => none) 0 := ⟨rfl, fun _ _ _ _ => rfl⟩
theorem mapIs_put [DecidableEq κ] {w : World} {g n : Nat} {D : DataW Value} {m : κ → Option Value} (ho : w.ownsMap P k heldR g n D) (h : MapIs K D m n) {x : κ} {l : Lit} (hx : K.ok x) (hl : keyOf P k (K.kv x) = some l) (v : Value) :
    MapIs K (D.put l (.held v)) (fun y => if y = x then some v else m y) (if (m x).isSome then n else n + 1) := by
  have hk := K.keyed.key hl
  have ht := ho.tidy K.keyed
  refine ⟨?_, fun y l' hy hl' => ?_⟩
  · have h2 := h.2 x l hx hl
    rw [Maps.size_put ht]
    cases e : m x with
    | none => rw [e] at h2; rw [h2]; simp [h.1]
    | some u => rw [e] at h2; rw [h2.1]; simp [h.1]
  · by_cases e : y = x
    · subst e
      rw [hl] at hl'
      simp only [Option.some.injEq] at hl'; subst hl'
      simp only [if_true]
      exact ⟨Maps.has_put_same ht.isMap hk _, fun z => Maps.atKey_put_same ht.isMap hk _ _⟩
    · have hne : l' ≠ l := fun e' => e (K.inj _ _ (K.keyed.inj (by rw [← e']; exact hl') hl))
      simp only [if_neg e]
      have h2 := h.2 y l' hy hl'
      rw [Maps.has_put_other hne]
      cases e2 : m y with
      | none => rw [e2] at h2; exact h2
      | some u => rw [e2] at h2; exact ⟨h2.1, fun z => by rw [Maps.atKey_put_other hne]; exact h2.2 z⟩
theorem look_of {D : DataW Value} {m : κ → Option Value} {n : Nat} (h : MapIs K D m n) {x : κ} {l : Lit} (hx : K.ok x) (hl : keyOf P k (K.kv x) = some l) (z : Value) : D.atKey l (.held z) = .held ((m x).getD z) ∧ Maps.has D l = (m x).isSome := by
  have h2 := h.2 x l hx hl
  cases e : m x with
  | none => rw [e] at h2; exact ⟨Maps.atKey_of_not_has h2 _, h2⟩
  | some u => rw [e] at h2; exact ⟨h2.2 _, h2.1⟩
section
variable {W : Base} {fr : Fr} {L : List Own} {Q : Exit → Act → World → Prop} {ops : Array Oper} {rest : List Oper} {n d : Nat} {dst : Option Tmp} {ty : TypeId} {pos : String} {after : Array Edge} {guard : Option (Nat × Bool)} {i g c : Nat} {t e : TypeId} {m : κ → Option Value} {x : κ} {z : Value} {xm xk xv : Operand}
theorem rr_look (ht : P.underlying t = some (.map k e)) (hz : ∀ w, (zeroValue e).run P w = .ok z w) (hi : L[i]? = some (mapO K g m c)) (hm : ev fr xm = some (.map (some g))) (hk : ev fr xk = some (K.kv x)) (hx : K.ok x) : RR P n W ⟨dst, .lookup t xm xk false, ty, pos, after, guard⟩ fr L ((m x).getD z) := .mk fun a w hr hw => by
  obtain ⟨D, ho, h⟩ := hw.get hi
  obtain ⟨l, hl⟩ := K.key x hx
  obtain ⟨v, ps, hrun, hv⟩ := ho.lookup K.keyed ht (hz w) (zd := .held z) (zp := []) rfl hl
  have h2 := (look_of K h hx hl z).1
  simp only [heldR, Option.some.injEq, Prod.mk.injEq] at hv
  rw [h2] at hv
  have hv1 : v = (m x).getD z := by simpa using hv.1
  subst hv1
  simp [execOp, hr.ev hm, hr.ev hk, hrun, Result.andThen]
theorem rr_lookOk (ht : P.underlying t = some (.map k e)) (hz : ∀ w, (zeroValue e).run P w = .ok z w) (hi : L[i]? = some (mapO K g m c)) (hm : ev fr xm = some (.map (some g))) (hk : ev fr xk = some (K.kv x)) (hx : K.ok x) : RR P n W ⟨dst, .lookup t xm xk true, ty, pos, after, guard⟩ fr L (.tuple #[(m x).getD z, .bool (m x).isSome]) := .mk fun a w hr hw => by
  obtain ⟨D, ho, h⟩ := hw.get hi
  obtain ⟨l, hl⟩ := K.key x hx
  obtain ⟨v, ps, hrun, hv⟩ := ho.look_ok K.keyed ht (hz w) (zd := .held z) (zp := []) rfl hl
  have h2 := look_of K h hx hl z
  simp only [heldR, Option.some.injEq, Prod.mk.injEq] at hv
  rw [h2.1] at hv
  rw [h2.2] at hrun
  have hv1 : v = (m x).getD z := by simpa using hv.1
  subst hv1
  simp [execOp, hr.ev hm, hr.ev hk, hrun, Result.andThen]
theorem rr_maplen (ht : P.underlying t = some (.map k e)) (hi : L[i]? = some (mapO K g m c)) (hm : ev fr xm = some (.map (some g))) : RR P n W ⟨dst, .call { callee := .builtin .len, args := #[xm], argTypes := #[t] }, ty, pos, after, guard⟩ fr L (.int .i64 c) := .mk fun a w hr hw => by
  obtain ⟨D, ho, h⟩ := hw.get hi
  have hrun := ho.len ht ty
  rw [h.1] at hrun
  simp [BigFrame.execOp_builtin, BigFrame.builtin_len, hr.ev hm, hrun]
theorem TL_map (hn : Nat.blt d n = true) (h : ∀ g, TL P n W ops Q rest ((d, .map (some g)) :: fr) (L ++ [mapO K g (fun _ => none) 0])) :
    TL P n W ops Q (⟨some d, .makeMap t none, ty, pos, after, none⟩ :: rest) fr L := TL_any rfl fun a w hr hm KK hK => by
  have e1 : (execOp a.eval ⟨some d, .makeMap t none, ty, pos, after, none⟩).run P w = .ok (.value (.map (some w.heap.size))) (w.alloc (.map #[] 0)) := by
    simp [execOp, run_makeMap, Result.andThen]
  unfold Oper.wp; rw [e1]
  exact hK _ _ ((h w.heap.size).go _ _ (hr.put hn _) (hm.append (gr_alloc w _) (Owns.one ⟨.map [], World.ownsMap_made w P k heldR, mapIs_nil K⟩ fun q hq => by simp only [mapO, Option.some.injEq] at hq; omega)))
theorem map_put [DecidableEq κ] {w : World} (ht : P.underlying t = some (.map k e)) (h : (mapO K g m c).holds w) (hx : K.ok x) (hc : c ≤ 1152921504606846976) (v : Value) :
    ∃ w', (Instr.mapUpdate t (.map (some g)) (K.kv x) v).run P w = .ok () w' ∧ (mapO K g (fun y => if y = x then some v else m y) (if (m x).isSome then c else c + 1)).holds w' ∧ w.grownBy w' (some g) := by
  obtain ⟨D, ho, h⟩ := h
  obtain ⟨l, hl⟩ := K.key x hx
  obtain ⟨w', hrun, ho', hg⟩ := ho.update K.keyed ht (by unfold maxLen; omega) (val := v) (d := .held v) (ps := []) hl rfl
  have hp := mapIs_put K ho h hx hl v
  exact ⟨w', hrun, ⟨_, by have := map_tight ho'; rwa [hp.1] at this, hp⟩, hg⟩
theorem TL_mapSet [DecidableEq κ] {v : Value} (ht : P.underlying t = some (.map k e)) (hi : L[i]? = some (mapO K g m c)) (hm : ev fr xm = some (.map (some g))) (hk : ev fr xk = some (K.kv x)) (hv : ev fr xv = some v) (hx : K.ok x) (hc : c ≤ 1152921504606846976)
    (h : TL P n W ops Q rest fr (L.set i (mapO K g (fun y => if y = x then some v else m y) (if (m x).isSome then c else c + 1)))) :
    TL P n W ops Q (⟨none, .mapUpdate t xm xk xv, ty, pos, after, none⟩ :: rest) fr L := TL_any rfl fun a w hr hw KK hK => by
  obtain ⟨w', hrun, ho', hg⟩ := map_put K ht (hw.get hi) hx hc v
  have e1 : (execOp a.eval ⟨none, .mapUpdate t xm xk xv, ty, pos, after, none⟩).run P w = .ok .skip w' := by
    simp [execOp, hr.ev hm, hr.ev hk, hr.ev hv, hrun, Result.andThen]
  unfold Oper.wp; rw [e1]
  exact hK _ _ (h.go _ _ (hr.put_none undef) (hw.turn hi hg ho' fun q hq => .inl hq))
end
/-! maps with a value for every key: what is not there counts as zero; b bounds how many keys there are -/
def mapT (g : Nat) (z : Value) (f : κ → Value) (b : Nat) : Own :=
  ⟨some g, fun _ => False, fun w => ∃ m n, n ≤ b ∧ (mapO K g m n).holds w ∧ ∀ x, K.ok x → (m x).getD z = f x, fun w ⟨m, n, _, h, _⟩ q hq => (mapO K g m n).lt w h q hq,
    fun w w' ⟨m, n, h1, h, h2⟩ hs hk => ⟨m, n, h1, (mapO K g m n).stay w w' h hs hk, h2⟩⟩
section
variable {W : Base} {fr : Fr} {L : List Own} {Q : Exit → Act → World → Prop} {ops : Array Oper} {rest : List Oper} {n d : Nat} {dst : Option Tmp} {ty : TypeId} {pos : String} {after : Array Edge} {guard : Option (Nat × Bool)} {i g b : Nat} {t e : TypeId} {f f' : κ → Value} {x : κ} {z v : Value} {xm xk xv : Operand}
theorem run_lookT {w : World} (ht : P.underlying t = some (.map k e)) (hz : ∀ w, (zeroValue e).run P w = .ok z w) (h : (mapT K g z f b).holds w) (hx : K.ok x) : (Instr.lookup t (.map (some g)) (K.kv x) false).run P w = .ok (f x) w := by
  obtain ⟨m, n, _, ⟨D, ho, hi⟩, hf⟩ := h
  obtain ⟨l, hl⟩ := K.key x hx
  obtain ⟨v, ps, hrun, hv⟩ := ho.lookup K.keyed ht (hz w) (zd := .held z) (zp := []) rfl hl
  have h2 := (look_of K hi hx hl z).1
  simp only [heldR, Option.some.injEq, Prod.mk.injEq] at hv
  rw [h2, hf x hx] at hv
  have hv1 : v = f x := by simpa using hv.1
  rw [← hv1]; exact hrun
/-- a map that is known, whichever way -/
theorem rr_lookM (ht : P.underlying t = some (.map k e)) (hz : ∀ w, (zeroValue e).run P w = .ok z w) (hh : ∀ w, Mem W L w → (mapT K g z f b).holds w) (hm : ev fr xm = some (.map (some g))) (hk : ev fr xk = some (K.kv x)) (hx : K.ok x) (hv : f x = v) : RR P n W ⟨dst, .lookup t xm xk false, ty, pos, after, guard⟩ fr L v := .mk fun a w hr hw => by
  subst hv
  have hrun := run_lookT K ht hz (hh w hw) hx
  simp [execOp, hr.ev hm, hr.ev hk, hrun, Result.andThen]
theorem rr_lookT (ht : P.underlying t = some (.map k e)) (hz : ∀ w, (zeroValue e).run P w = .ok z w) (hi : L[i]? = some (mapT K g z f b)) (hm : ev fr xm = some (.map (some g))) (hk : ev fr xk = some (K.kv x)) (hx : K.ok x) (hv : f x = v) : RR P n W ⟨dst, .lookup t xm xk false, ty, pos, after, guard⟩ fr L v :=
  rr_lookM K ht hz (fun _ hw => hw.get hi) hm hk hx hv
theorem TL_mapT (hn : Nat.blt d n = true) (h : ∀ g, TL P n W ops Q rest ((d, .map (some g)) :: fr) (L ++ [mapT K g z (fun _ => z) 0])) :
    TL P n W ops Q (⟨some d, .makeMap t none, ty, pos, after, none⟩ :: rest) fr L := TL_any rfl fun a w hr hm KK hK => by
  have e1 : (execOp a.eval ⟨some d, .makeMap t none, ty, pos, after, none⟩).run P w = .ok (.value (.map (some w.heap.size))) (w.alloc (.map #[] 0)) := by
    simp [execOp, run_makeMap, Result.andThen]
  unfold Oper.wp; rw [e1]
  exact hK _ _ ((h w.heap.size).go _ _ (hr.put hn _) (hm.append (gr_alloc w _) (Owns.one ⟨fun _ => none, 0, Nat.le_refl _, ⟨.map [], World.ownsMap_made w P k heldR, mapIs_nil K⟩, fun _ _ => rfl⟩ fun q hq => by simp only [mapT, Option.some.injEq] at hq; omega)))
theorem mapT_put [DecidableEq κ] {w : World} (ht : P.underlying t = some (.map k e)) (h : (mapT K g z f b).holds w) (hx : K.ok x) (hc : b ≤ 1152921504606846976) (hf : ∀ y, K.ok y → f' y = if y = x then v else f y) :
    ∃ w', (Instr.mapUpdate t (.map (some g)) (K.kv x) v).run P w = .ok () w' ∧ (mapT K g z f' (b + 1)).holds w' ∧ w.grownBy w' (some g) := by
  obtain ⟨m, n, h1, h2, h3⟩ := h
  obtain ⟨w', hrun, ho, hg⟩ := map_put K ht h2 hx (by omega) v
  refine ⟨w', hrun, ⟨_, _, ?_, ho, fun y hy => ?_⟩, hg⟩
  · split <;> omega
  · rw [hf y hy]
    by_cases e : y = x
    · simp [e]
    · simp only [if_neg e]; exact h3 y hy
theorem TL_mapSetT [DecidableEq κ] (f' : κ → Value) (ht : P.underlying t = some (.map k e)) (hi : L[i]? = some (mapT K g z f b)) (hm : ev fr xm = some (.map (some g))) (hk : ev fr xk = some (K.kv x)) (hv : ev fr xv = some v) (hx : K.ok x) (hc : b ≤ 1152921504606846976) (hf : ∀ y, K.ok y → f' y = if y = x then v else f y)
    (h : TL P n W ops Q rest fr (L.set i (mapT K g z f' (b + 1)))) :
    TL P n W ops Q (⟨none, .mapUpdate t xm xk xv, ty, pos, after, none⟩ :: rest) fr L := TL_any rfl fun a w hr hw KK hK => by
  obtain ⟨w', hrun, ho', hg⟩ := mapT_put K ht (hw.get hi) hx hc hf
  have e1 : (execOp a.eval ⟨none, .mapUpdate t xm xk xv, ty, pos, after, none⟩).run P w = .ok .skip w' := by
    simp [execOp, hr.ev hm, hr.ev hk, hr.ev hv, hrun, Result.andThen]
  unfold Oper.wp; rw [e1]
  exact hK _ _ (h.go _ _ (hr.put_none undef) (hw.turn hi hg ho' fun q hq => .inl hq))
end
end
end Go.Proofs.Ytlojfbnimmdehaa.eng
namespace Go.Proofs.Ytlojfbnimmdehaa.eng
open Go.RowKit kit mix
theorem rr_nilc {P : Program} {n : Nat} {W : Base} {fr : Fr} {L : List Own} {dst : Option Tmp} {ty : TypeId} {pos : String} {after : Array Edge} {guard : Option (Nat × Bool)} {x : Operand} {a : Addr} (hx : ev fr x = some (.pointer (some a))) : RR P n W ⟨dst, .nilCheck x, ty, pos, after, guard⟩ fr L (.pointer (some a)) := .mk fun act w hr _ => by
  simp [execOp, hr.ev hx]
end Go.Proofs.Ytlojfbnimmdehaa.eng
namespace Go.Proofs.Ytlojfbnimmdehaa.eng
open Go.RowKit kit mix
section
variable {P : Program} {n : Nat} {W : Base} {fr : Fr} {L : List Own} {Q : Exit → Act → World → Prop} {ops : Array Oper} {rest : List Oper} {d : Nat} {ty : TypeId} {pos : String} {after : Array Edge}
/-- 'make([]T, m)', T of one cell: an own row -/
theorem TL_makeRow {t e : TypeId} {x y : Operand} {bytes m : Nat} {k k' : IntKind} {z : Value} [ElC P t e 1 bytes] [ZeroC P e #[z]] (hx : ev fr x = some (.int k (m : Int))) (hy : ev fr y = some (.int k' (m : Int))) (hb : bytes * m ≤ 281474976710656) (h63 : m ≤ 9223372036854775807) (hn : Nat.blt d n = true)
    (h : ∀ g, TL P n W ops Q rest ((d, .slice (some ⟨g, 0, none⟩) m m) :: fr) (L ++ [rowO e 1 (.slice (some ⟨g, 0, none⟩) m m) m (List.replicate m z)])) : TL P n W ops Q (⟨some d, .makeSlice t x y, ty, pos, after, none⟩ :: rest) fr L :=
  TL_makeB hx hy (Nat.le_refl _) hb h63 hn fun g => TL_toRowN (i := L.length) 1 (List.getElem?_concat_length ..) (by rw [size_madeCells]) (Nat.le_refl _) h63 (by
    have e1 : (madeCells #[z] (m * 1)).toList.take (m * 1) = List.replicate m z := by
      rw [made1, Nat.mul_one, List.take_of_length_le (by simp)]
    rw [e1, List.set_append_right _ _ (Nat.le_refl _), Nat.sub_self]
    exact h g)
end
end Go.Proofs.Ytlojfbnimmdehaa.eng
namespace Go.Proofs.Ytlojfbnimmdehaa.eng
open Go.RowKit kit mix
section
variable {P : Program} {n : Nat} {W : Base} {fr : Fr} {L : List Own} {Q : Exit → Act → World → Prop} {ops : Array Oper} {rest : List Oper}
/-- something owned, told otherwise -/
theorem Mem.weak {w : World} {i : Nat} {o : Own} (o' : Own) (h : Mem W L w) (hi : L[i]? = some o) (hh : ∀ w, o.holds w → o'.holds w) (hb : ∀ k, o'.blk = some k → o.blk = some k) (hmo : ∀ k, o'.more k → o.foot k := by intro k hk; exact False.elim hk) : Mem W (L.set i o') w :=
  h.turn hi ⟨rfl, rfl, rfl, Nat.le_refl _, fun _ _ _ => rfl⟩ (hh w (h.get hi)) (fun k hk => .inl (hb k hk)) hmo
theorem T_weak {c : Code} {i : Nat} {o : Own} (o' : Own) (hi : L[i]? = some o) (hh : ∀ w, o.holds w → o'.holds w) (hb : ∀ k, o'.blk = some k → o.blk = some k) (hmo : ∀ k, o'.more k → o.foot k) (h : T P n W c Q fr (L.set i o')) : T P n W c Q fr L := .mk fun a w hr hm => h.go a w hr (hm.weak o' hi hh hb hmo)
theorem TL_weak {i : Nat} {o : Own} (o' : Own) (hi : L[i]? = some o) (hh : ∀ w, o.holds w → o'.holds w) (hb : ∀ k, o'.blk = some k → o.blk = some k) (hmo : ∀ k, o'.more k → o.foot k) (h : TL P n W ops Q rest fr (L.set i o')) : TL P n W ops Q rest fr L := .mk fun a w hr hm => h.go a w hr (hm.weak o' hi hh hb hmo)
theorem E_weak {e : Exit} {i : Nat} {o : Own} (o' : Own) (hi : L[i]? = some o) (hh : ∀ w, o.holds w → o'.holds w) (hb : ∀ k, o'.blk = some k → o.blk = some k) (hmo : ∀ k, o'.more k → o.foot k) (h : E n W e Q fr (L.set i o')) : E n W e Q fr L := .mk fun a w hr hm => h.go a w hr (hm.weak o' hi hh hb hmo)
end
theorem mapT_weak {P : Program} {k : TypeId} {κ : Type} {K : KeyT P k κ} {g b b' : Nat} {z : Value} {f f' : κ → Value} (hb : b ≤ b') (hf : ∀ x, K.ok x → f' x = f x) (w : World) (h : (mapT K g z f b).holds w) : (mapT K g z f' b').holds w := by
  obtain ⟨m, n, h1, h2, h3⟩ := h
  exact ⟨m, n, by omega, h2, fun x hx => by rw [hf x hx]; exact h3 x hx⟩
end Go.Proofs.Ytlojfbnimmdehaa.eng
namespace Go.Proofs.Ytlojfbnimmdehaa.eng
open Go.RowKit kit mix
section
variable {P : Program} {n : Nat} {W : Base} {fr : Fr} {L : List Own} {Q : Exit → Act → World → Prop} {ops : Array Oper} {rest : List Oper}
/-- something owned, seen as something else in no more memory -/
theorem Mem.reown {w : World} {i : Nat} {o : Own} (o' : Own) (h : Mem W L w) (hi : L[i]? = some o) (hh : ∀ w, o.holds w → o'.holds w) (hf : ∀ k, o'.foot k → o.foot k) : Mem W (L.set i o') w := by
  have hlen : i < L.length := (List.getElem?_eq_some_iff.1 hi).1
  have hoi := h.owns.all i o hi
  refine ⟨h.low, fun j q hj => ?_, fun j j' q q' hij hj hj' k hk hk' => ?_⟩
  · by_cases e : i = j
    · subst e
      rw [List.getElem?_set_self hlen] at hj
      simp only [Option.some.injEq] at hj; subst hj
      exact ⟨hh w hoi.1, fun k hk => hoi.2 k (hf k hk)⟩
    · rw [List.getElem?_set_ne e] at hj
      exact h.owns.all j q hj
  · by_cases e : i = j
    · subst e
      rw [List.getElem?_set_self hlen] at hj
      rw [List.getElem?_set_ne hij] at hj'
      simp only [Option.some.injEq] at hj; subst hj
      exact h.owns.apart i j' o q' hij hi hj' k (hf k hk) hk'
    · rw [List.getElem?_set_ne e] at hj
      by_cases e' : i = j'
      · subst e'
        rw [List.getElem?_set_self hlen] at hj'
        simp only [Option.some.injEq] at hj'; subst hj'
        exact h.owns.apart j i q o hij hj hi k hk (hf k hk')
      · rw [List.getElem?_set_ne e'] at hj'
        exact h.owns.apart j j' q q' hij hj hj' k hk hk'
theorem T_reown {c : Code} {i : Nat} {o : Own} (o' : Own) (hi : L[i]? = some o) (hh : ∀ w, o.holds w → o'.holds w) (hf : ∀ k, o'.foot k → o.foot k) (h : T P n W c Q fr (L.set i o')) : T P n W c Q fr L := .mk fun a w hr hm => h.go a w hr (hm.reown o' hi hh hf)
theorem TL_reown {i : Nat} {o : Own} (o' : Own) (hi : L[i]? = some o) (hh : ∀ w, o.holds w → o'.holds w) (hf : ∀ k, o'.foot k → o.foot k) (h : TL P n W ops Q rest fr (L.set i o')) : TL P n W ops Q rest fr L := .mk fun a w hr hm => h.go a w hr (hm.reown o' hi hh hf)
theorem E_reown {e : Exit} {i : Nat} {o : Own} (o' : Own) (hi : L[i]? = some o) (hh : ∀ w, o.holds w → o'.holds w) (hf : ∀ k, o'.foot k → o.foot k) (h : E n W e Q fr (L.set i o')) : E n W e Q fr L := .mk fun a w hr hm => h.go a w hr (hm.reown o' hi hh hf)
end
end Go.Proofs.Ytlojfbnimmdehaa.eng

/- MapE -/
namespace Go.Proofs.Ytlojfbnimmdehaa.eng
open Go.RowKit kit mix
open Go.WideElems (Fit findIdx_arr findIdx_born modify_last)
open Go.ChangeMaps Go.MapKept Go.WideShapes
section
variable {P : Program} {k : TypeId} {κ : Type} (K : KeyT P k κ)
theorem modify_same {α : Type} (f : α → α) : ∀ (l : List α) (j : Nat) (a : α), l[j]? = some a → f a = a → l.modify j f = l
  | [], _, _, h, _ => by simp at h
  | b :: r, 0, a, h, hf => by simp at h; subst h; simp [hf]
  | b :: r, j + 1, a, h, hf => by simp at h; simp [List.modify_succ_cons, modify_same f r j a h hf]
theorem modify_eq {α : Type} (f f' : α → α) : ∀ (l : List α) (j : Nat) (a : α), l[j]? = some a → f a = f' a → l.modify j f = l.modify j f'
  | [], _, _, h, _ => by simp at h
  | b :: r, 0, a, h, hf => by simp at h; subst h; simp [hf]
  | b :: r, j + 1, a, h, hf => by simp at h; simp [List.modify_succ_cons, modify_eq f f' r j a h hf]
/-- an entry has been laid for x; what is not there counts as zero -/
def entO (g : Nat) (x : κ) (st : Nat) (z : Value) (f : κ → Value) (b : Nat) : Own :=
  ⟨some g, fun _ => False, fun w => (mapT K g z f b).holds w ∧ ∃ es clock e0, w.heap[g]? = some (.map es clock) ∧ e0 ∈ es.toList ∧ e0.key = K.kv x ∧ e0.born = st,
    fun w h q hq => (mapT K g z f b).lt w h.1 q hq,
    fun w w' ⟨h1, es, clock, e0, h2, h3⟩ hs hk => ⟨(mapT K g z f b).stay w w' h1 hs hk, es, clock, e0, (hk g (.inl rfl)).trans h2, h3⟩⟩
theorem set_self_block {w : World} {g : Nat} {es : Array MapEntry} {c : Nat} (h : w.heap[g]? = some (.map es c)) : setBlock w g (.map es c) = w := by
  have e : w.heap.setIfInBounds g (.map es c) = w.heap := by
    apply Array.ext_getElem?
    intro i
    by_cases hi : i = g
    · subst hi; exact (heap_setBlock_same h _).trans h.symm
    · exact heap_setBlock_other h _ hi
  unfold setBlock; rw [e]
variable [DecidableEq κ]
theorem entry_run {w : World} {t e : TypeId} {g b : Nat} {f : κ → Value} {x : κ} {z : Value} (ht : P.underlying t = some (.map k e)) (hz : ∀ u : World, (zeroValue e).run P u = .ok z u) (h : (mapT K g z f b).holds w) (hx : K.ok x) (hc : b ≤ 1152921504606846976) :
    ∃ st w1, (Instr.mapEntry t (.map (some g)) (K.kv x)).run P w = .ok (.tuple #[f x, goInt (st : Nat)]) w1 ∧ w.grownBy w1 (some g) ∧ (entO K g x st z f (b + 1)).holds w1 := by
  have hlook := run_lookT K (f := f) ht hz h hx
  obtain ⟨l, hkey⟩ := K.key x hx
  obtain ⟨m, n, h1, ⟨D, ⟨es, clock, hb, F, hs, hD⟩, hi⟩, h3⟩ := id h
  rcases K.law.find w hkey es.toList F.keys with ⟨k1, k2⟩ | ⟨j, e0, k1, k2, k3⟩
  · have hfx : f x = z := by
      have : (Instr.lookup t (.map (some g)) (K.kv x) false).run P w = .ok z w := by
        simp [Instr.lookup, run_underlying ht, MapKept.run_getObj_map hb, K.law.check w _ hkey, k1, hz, Result.andThen]
      rw [hlook] at this
      simpa using this
    obtain ⟨w', r1, r2, r3⟩ := mapT_put K (f' := f) (v := z) ht h hx hc (fun y _ => by by_cases e : y = x <;> simp [e, hfx])
    have r1' : (Instr.mapUpdate t (.map (some g)) (K.kv x) z).run P w = .ok () (setBlock w g (.map (es.push ⟨K.kv x, z, clock⟩) (clock + 1))) := by
      simp [Instr.mapUpdate, run_underlying ht, MapKept.run_getObj_map hb, K.law.check w false hkey, k1, MapKept.run_setObj_map _ hb, Result.andThen, setBlock]
    have ew : w' = setBlock w g (.map (es.push ⟨K.kv x, z, clock⟩) (clock + 1)) := by
      rw [r1] at r1'; simpa using r1'
    refine ⟨clock, w', ?_, r3, r2, es.push ⟨K.kv x, z, clock⟩, clock + 1, ⟨K.kv x, z, clock⟩, ?_, by simp, rfl, rfl⟩
    · rw [ew, hfx]
      simp [Instr.mapEntry, run_underlying ht, MapKept.run_getObj_map hb, K.law.check w false hkey, k1, hz, MapKept.run_setObj_map _ hb, Result.andThen, setBlock]
    · rw [ew]; exact heap_setBlock_same hb _
  · have hj : es[j]? = some e0 := by simpa using k2
    have hfx : f x = e0.val := by
      have : (Instr.lookup t (.map (some g)) (K.kv x) false).run P w = .ok e0.val w := by
        simp [Instr.lookup, run_underlying ht, MapKept.run_getObj_map hb, K.law.check w _ hkey, k1, hz, Result.andThen]
      rw [hlook] at this
      simpa using this
    have hsame : es.modify j (fun e => { e with key := K.kv x }) = es := by
      apply Array.ext'
      rw [Array.toList_modify]
      exact modify_same _ _ _ _ k2 (by rw [← k3])
    refine ⟨e0.born, w, ?_, ⟨rfl, rfl, rfl, Nat.le_refl _, fun _ _ _ => rfl⟩, mapT_weak (by omega) (fun _ _ => rfl) w h, es, clock, e0, hb, List.mem_of_getElem? k2, k3, rfl⟩
    rw [hfx]
    have := set_self_block hb
    simp [Instr.mapEntry, run_underlying ht, MapKept.run_getObj_map hb, K.law.check w false hkey, k1, hj, k3, K.law.stays w hkey, hsame, MapKept.run_setObj_map _ hb, Result.andThen]
    exact this
theorem entry_set {w : World} {t e : TypeId} {g b st : Nat} {f f' : κ → Value} {x : κ} {z v : Value} (ht : P.underlying t = some (.map k e)) (h : (entO K g x st z f b).holds w) (hx : K.ok x) (hc : b ≤ 1152921504606846976) (hf : ∀ y, K.ok y → f' y = if y = x then v else f y) :
    ∃ w', (Instr.entryStore t (.map (some g)) (goInt (st : Nat)) v).run P w = .ok () w' ∧ (mapT K g z f' (b + 1)).holds w' ∧ w.grownBy w' (some g) := by
  obtain ⟨h, es', clock', e1, hb', he1, hk1, hs1⟩ := h
  obtain ⟨w', r1, r2, r3⟩ := mapT_put K (f' := f') (v := v) ht h hx hc hf
  refine ⟨w', ?_, r2, r3⟩
  rw [← r1]
  obtain ⟨l, hkey⟩ := K.key x hx
  obtain ⟨m, n, h1, ⟨D, ⟨es, clock, hb, F, hs, hD⟩, hi⟩, h3⟩ := h
  rw [hb] at hb'
  simp only [Option.some.injEq, Obj.map.injEq] at hb'
  obtain ⟨rfl, rfl⟩ := hb'
  obtain ⟨s1, s2, s3⟩ := F.stamped
  rcases K.law.find w hkey es.toList F.keys with ⟨k1, k2⟩ | ⟨j, e0, k1, k2, k3⟩
  · exact absurd hk1 (k2 e1 he1)
  · have hj : es[j]? = some e0 := by simpa using k2
    obtain ⟨i, hi'⟩ := List.getElem?_of_mem he1
    have hij : i = j := by
      have hi2 := (List.getElem?_eq_some_iff.1 hi')
      have hj2 := (List.getElem?_eq_some_iff.1 k2)
      obtain ⟨li, ei⟩ := hi2
      obtain ⟨lj, ej⟩ := hj2
      refine (List.getElem_inj (h₀ := by simpa using li) (h₁ := by simpa using lj) s3).1 ?_
      simp only [List.getElem_map, ei, ej, hk1, k3]
    subst hij
    have e01 : e1 = e0 := by rw [hi'] at k2; simpa using k2
    subst e01
    subst hs1
    have hidx : es.findIdx? (fun e => ((e.born : Nat) : Int) == ((e1.born : Nat) : Int)) = some i := by
      rw [findIdx_arr]
      exact findIdx_born s2 k2
    have hmod : es.modify i (fun e => { e with val := v }) = es.modify i (fun e' => { e' with key := K.kv x, val := v }) := by
      apply Array.ext'
      rw [Array.toList_modify, Array.toList_modify]
      exact modify_eq _ _ _ _ _ k2 (by rw [← k3])
    simp [Instr.entryStore, Instr.mapUpdate, run_underlying ht, MapKept.run_getObj_map hb, asInt, asIntOf, goInt, hidx, hmod, K.law.check w false hkey, k1, hj, k3, K.law.stays w hkey, MapKept.run_setObj_map _ hb, Result.andThen]
section
variable {W : Base} {fr : Fr} {L : List Own} {Q : Exit → Act → World → Prop} {ops : Array Oper} {rest : List Oper} {n d : Nat} {dst : Option Tmp} {ty : TypeId} {pos : String} {after : Array Edge} {guard : Option (Nat × Bool)} {i g b : Nat} {t e : TypeId} {f : κ → Value} {x : κ} {z : Value} {xm xk xv xs : Operand}
theorem TL_entry (ht : P.underlying t = some (.map k e)) (hz : ∀ u : World, (zeroValue e).run P u = .ok z u) (hi : L[i]? = some (mapT K g z f b)) (hm : ev fr xm = some (.map (some g))) (hk : ev fr xk = some (K.kv x)) (hx : K.ok x) (hc : b ≤ 1152921504606846976) (hn : Nat.blt d n = true)
    (h : ∀ st : Nat, TL P n W ops Q rest ((d, .tuple #[f x, .int .i64 (st : Int)]) :: fr) (L.set i (entO K g x st z f (b + 1)))) :
    TL P n W ops Q (⟨some d, .mapEntry t xm xk, ty, pos, after, none⟩ :: rest) fr L := TL_any rfl fun a w hr hw KK hK => by
  obtain ⟨st, w1, h1, h2, h3⟩ := entry_run K ht hz (hw.get hi) hx hc
  have e1 : (execOp a.eval ⟨some d, .mapEntry t xm xk, ty, pos, after, none⟩).run P w = .ok (.value (.tuple #[f x, .int .i64 (st : Int)])) w1 := by
    simp [execOp, hr.ev hm, hr.ev hk, h1, goInt, Result.andThen]
  unfold Oper.wp; rw [e1]
  exact hK _ _ ((h st).go _ _ (hr.put hn _) (hw.turn hi h2 h3 fun q hq => .inl hq))
theorem TL_entSet {st : Nat} {v : Value} (f' : κ → Value) (ht : P.underlying t = some (.map k e)) (hi : L[i]? = some (entO K g x st z f b)) (hm : ev fr xm = some (.map (some g))) (hs : ev fr xs = some (.int .i64 (st : Int))) (hv : ev fr xv = some v) (hx : K.ok x) (hc : b ≤ 1152921504606846976) (hf : ∀ y, K.ok y → f' y = if y = x then v else f y)
    (h : TL P n W ops Q rest fr (L.set i (mapT K g z f' (b + 1)))) :
    TL P n W ops Q (⟨none, .entryStore t xm xs xv, ty, pos, after, none⟩ :: rest) fr L := TL_any rfl fun a w hr hw KK hK => by
  obtain ⟨w1, h1, h2, h3⟩ := entry_set K ht (hw.get hi) hx hc hf
  have e1 : (execOp a.eval ⟨none, .entryStore t xm xs xv, ty, pos, after, none⟩).run P w = .ok .skip w1 := by
    have h1' : (Instr.entryStore t (.map (some g)) (.int .i64 (st : Int)) v).run P w = .ok () w1 := h1
    simp [execOp, hr.ev hm, hr.ev hs, hr.ev hv, h1', Result.andThen]
  unfold Oper.wp; rw [e1]
  exact hK _ _ (h.go _ _ (hr.put_none undef) (hw.turn hi h3 h2 fun q hq => .inl hq))
omit [DecidableEq κ] in
/-- a lookup while an entry is under way -/
theorem rr_lookE {st : Nat} {v : Value} (ht : P.underlying t = some (.map k e)) (hz : ∀ w, (zeroValue e).run P w = .ok z w) (hi : L[i]? = some (entO K g x st z f b)) (hm : ev fr xm = some (.map (some g))) (hk : ev fr xk = some (K.kv x)) (hx : K.ok x) (hv : f x = v) : RR P n W ⟨dst, .lookup t xm xk false, ty, pos, after, guard⟩ fr L v :=
  rr_lookM K ht hz (fun _ hw => (hw.get hi).1) hm hk hx hv
end
end
end Go.Proofs.Ytlojfbnimmdehaa.eng

/- KeyG -/
namespace Go.Proofs.Ytlojfbnimmdehaa.eng
open Go.RowKit kit mix
theorem mapM_some {α β : Type} {f : α → Option β} : ∀ {l : List α}, (∀ x ∈ l, ∃ y, f x = some y) → ∃ ys, l.mapM f = some ys
  | [], _ => ⟨[], by simp⟩
  | a :: l, h => by
    obtain ⟨y, hy⟩ := h a (by simp)
    obtain ⟨ys, hys⟩ := mapM_some (l := l) fun x hx => h x (by simp [hx])
    exact ⟨y :: ys, by simp [List.mapM_cons, hy, hys]⟩
section
variable {P : Program}
def KL (P : Program) (d : Nat) (t : TypeId) (cs : List Value) : Prop := ∃ ls, P.keyLits d t cs = some ls
theorem kl_int {d : Nat} {t : TypeId} {q : IntKind} {n : Int} (ht : P.underlying t = some (.int q)) (h0 : q.min ≤ n) (h1 : n ≤ q.max) : KL P (d + 1) t [.int q n] := by
  refine ⟨[.int q n], ?_⟩
  have hw : (Lit.int q n).wf = true := by simp [Lit.wf, h0, h1]
  simp [Program.keyLits, ht, hw]
theorem kl_struct {d : Nat} {t : TypeId} {fs : Array Field} {cs : List Value} (ht : P.underlying t = some (.struct fs)) (hl : cs.length = P.cellsOf t) (hn : fs.all (·.name != "_") = true) (h : ∀ f ∈ fs.toList, KL P d f.type ((cs.drop f.offset).take (P.cellsOf f.type))) : KL P (d + 1) t cs := by
  obtain ⟨ys, hy⟩ := mapM_some (f := fun f : Field => P.keyLits d f.type ((cs.drop f.offset).take (P.cellsOf f.type))) (l := fs.toList) h
  refine ⟨ys.flatten, ?_⟩
  unfold Program.keyLits
  simp only [ht]
  rw [if_pos ⟨hl, hn⟩, hy]; rfl
theorem key_ex {t : TypeId} {cs : List Value} {m : Nat} (hw : (match P.underlying t with | some (.array _ _) | some (.struct _) => true | _ => false) = true) (hk : P.keyType t = true) (hl : cs.length = P.cellsOf t) (hm : ∃ d, P.types.size + 1 = d + m) (h : ∀ d, KL P (d + m) t cs) : ∃ l, keyOf P t (.agg cs.toArray) = some l := by
  obtain ⟨d, e⟩ := hm
  obtain ⟨ls, hls⟩ := h d
  refine ⟨.string (keyBytes ls), ?_⟩
  have hf : (Value.agg cs.toArray).formed P t = true := by
    unfold Value.formed
    split at hw <;> simp_all
  have hc : (Value.agg cs.toArray).cells.toList = cs := rfl
  have key : (if (P.keyType t && (Value.agg cs.toArray).formed P t) = true then (P.keyLits (P.types.size + 1) t (Value.agg cs.toArray).cells.toList).map (fun ls => Lit.string (keyBytes ls)) else none) = some (.string (keyBytes ls)) := by
    rw [hk, hf, hc, e, hls]; rfl
  unfold keyOf
  split at hw
  · rename_i h1; rw [h1]; exact key
  · rename_i h1; rw [h1]; exact key
  · cases hw
end
theorem tryLaid : laidOutB Try.prog = true := by kernel_rfl
theorem trySize (m : Nat) (h : Nat.ble m (Try.prog.types.size + 1) = true) : ∃ d, Try.prog.types.size + 1 = d + m := ⟨Try.prog.types.size + 1 - m, by have := Nat.le_of_ble_eq_true h; omega⟩
end Go.Proofs.Ytlojfbnimmdehaa.eng

