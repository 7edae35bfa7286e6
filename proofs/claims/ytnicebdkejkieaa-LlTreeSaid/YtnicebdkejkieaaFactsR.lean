/- Facts of a grammar, of trees: what each node begins with, what comes behind it; no program in sight. -/
import Derived.Test.YtnicebdkejkieaaFactsQ
namespace Go.Proofs.Ytnicebdkejkieaa.factsL
open gramL treeL countL
def bitAt (w : List Int) (a : Nat) : Nat := if a < w.length then (w.getD a 0).toNat else 63
theorem beginGo_out {E : List Bool} {F : List Nat} {behind z : Nat} : ∀ (b : List Sym) (out : Nat), out.testBit z = true → (beginGo E F behind b out).testBit z = true
  | [], out, h => by unfold beginGo; rw [Nat.testBit_or, h, Bool.true_or]
  | x :: r, out, h => by
    unfold beginGo
    split
    · rw [Nat.testBit_or, h, Bool.true_or]
    · split
      · exact beginGo_out r _ (by rw [Nat.testBit_or, h, Bool.true_or])
      · rw [Nat.testBit_or, h, Bool.true_or]
theorem right_x {l : List gramL.Prod} {p k : Int} {kids : List Tree} {x : Sym} {u : Nat} (h : Right l (.mk p k kids) x u) (hp : 0 ≤ p) : x.1 ≠ 1 ∧ p < (l.length : Int) ∧ (prodAt l p).1 = x.2 ∧ k = 0 ∧ Rights l kids (prodAt l p).2 u := by
  rw [Right] at h
  rcases h with ⟨_, e, _⟩ | ⟨a1, _, a3, a4, a5, a6⟩
  · omega
  · exact ⟨a1, a3, a4, a5, a6⟩
theorem right_kind {l : List gramL.Prod} {p k : Int} {kids : List Tree} {x : Sym} {u : Nat} (h : Right l (.mk p k kids) x u) : (x.1 = 1 ∧ p = -1 ∧ kids = []) ∨ (x.1 ≠ 1 ∧ 0 ≤ p) := by
  rw [Right] at h
  rcases h with ⟨a, b, _, c⟩ | ⟨a, b, _⟩
  · exact .inl ⟨a, b, c⟩
  · exact .inr ⟨a, b⟩
section
variable {l : List gramL.Prod} {n : Nat} {E R M : List Bool} {F W : List Nat} {w : List Int}
mutual
theorem empty_of (hC : ClosedF l E F W R M) : ∀ {t : Tree} {x : Sym} {u : Nat}, Right l t x u → 0 ≤ t.prod → leaves t = 0 → E.getD x.2.toNat false = true
  | .mk p k kids, x, u, h, hp, h0 => by
    have hp : 0 ≤ p := hp
    obtain ⟨a1, a2, a3, a4, a5⟩ := right_x h hp
    rw [leaves, if_neg (by omega)] at h0
    rw [← a3]
    exact hC.empty _ (prodAt_mem hp a2) (empties_of hC a5 h0)
theorem empties_of (hC : ClosedF l E F W R M) : ∀ {ks : List Tree} {b : List Sym} {u : Nat}, Rights l ks b u → leavess ks = 0 → allF E b false = true
  | [], [], _, _, _ => rfl
  | .mk p k kk :: r, y :: b, u, h, h0 => by
    rw [Rights] at h
    rw [leavess] at h0
    have ih := empties_of hC h.2 (by omega)
    unfold allF at ih ⊢
    rw [List.all_cons, ih, Bool.and_true]
    rcases right_kind h.1 with ⟨e1, e2, _⟩ | ⟨e1, e2⟩
    · rw [leaves, if_pos (by omega)] at h0; omega
    · rw [if_neg e1]
      split
      · exact empty_of hC h.1 e2 (by omega)
      · rfl
  | [], _ :: _, _, h, _ => by simp [Rights] at h
  | _ :: _, [], _, h, _ => by simp [Rights] at h
end
mutual
theorem makes_of (hC : ClosedF l E F W R M) : ∀ {t : Tree} {x : Sym} {u : Nat}, Right l t x u → 0 ≤ t.prod → M.getD x.2.toNat false = true
  | .mk p k kids, x, u, h, hp => by
    have hp : 0 ≤ p := hp
    obtain ⟨a1, a2, a3, a4, a5⟩ := right_x h hp
    rw [← a3]
    exact hC.makes _ (prodAt_mem hp a2) (makess_of hC a5)
theorem makess_of (hC : ClosedF l E F W R M) : ∀ {ks : List Tree} {b : List Sym} {u : Nat}, Rights l ks b u → allF M b true = true
  | [], [], _, _ => rfl
  | .mk p k kk :: r, y :: b, u, h => by
    rw [Rights] at h
    have ih := makess_of hC h.2
    unfold allF at ih ⊢
    rw [List.all_cons, ih, Bool.and_true]
    rcases right_kind h.1 with ⟨e1, e2, _⟩ | ⟨e1, e2⟩
    · rw [if_pos e1]
    · rw [if_neg e1]
      split
      · exact makes_of hC h.1 e2
      · rfl
  | [], _ :: _, _, h => by simp [Rights] at h
  | _ :: _, [], _, h => by simp [Rights] at h
end
theorem bit_first {a : Nat} {v : Int} {r : List Int} (h : w.drop a = v :: r) : bitAt w a = v.toNat := by
  have h1 : (w.drop a)[0]? = some v := by rw [h]; rfl
  rw [List.getElem?_drop] at h1
  have h2 := (List.getElem?_eq_some_iff.1 h1).1
  unfold bitAt
  rw [if_pos (by simpa using h2), List.getD_eq_getElem?_getD]
  rw [Nat.add_zero] at h1
  rw [h1]; rfl
mutual
theorem first_of (hC : ClosedF l E F W R M) : ∀ {t : Tree} {x : Sym} {u a : Nat}, Right l t x u → 0 ≤ t.prod → 0 < leaves t → (∃ r, w.drop a = yieldT l t ++ r) → (F.getD x.2.toNat 0).testBit (bitAt w a) = true
  | .mk p k kids, x, u, a, h, hp, h0, ⟨r, hr⟩ => by
    have hp : 0 ≤ p := hp
    obtain ⟨a1, a2, a3, a4, a5⟩ := right_x h hp
    rw [leaves, if_neg (by omega)] at h0
    rw [← a3]
    refine or_bit (hC.first _ (prodAt_mem hp a2) (makess_of hC a5)) ?_
    rw [yieldT_eq] at hr
    exact begin_has hC a5 ⟨r, hr⟩ 0 0 fun h => by omega
theorem begin_has (hC : ClosedF l E F W R M) : ∀ {ks : List Tree} {b : List Sym} {u a : Nat}, Rights l ks b u → (∃ r, w.drop a = yields l ks b ++ r) → ∀ (behind out : Nat), (leavess ks = 0 → behind.testBit (bitAt w a) = true) → (beginGo E F behind b out).testBit (bitAt w a) = true
  | [], [], u, a, _, _, behind, out, hb => by
    unfold beginGo
    rw [Nat.testBit_or, hb (by rw [leavess]), Bool.or_true]
  | .mk p k kk :: ks, y :: b, u, a, h, ⟨r, hr⟩, behind, out, hb => by
    rw [Rights] at h
    rw [yields_X, List.append_assoc] at hr
    unfold beginGo
    rcases right_kind h.1 with ⟨e1, e2, e3⟩ | ⟨e1, e2⟩
    · rw [if_pos e1]
      have hx : yieldX l (.mk p k kk) y = [y.2] := by unfold yieldX; rw [if_pos (by show p < 0; omega)]
      rw [hx] at hr
      rw [bit_first hr, Nat.testBit_or, Nat.testBit_two_pow_self, Bool.or_true]
    · rw [if_neg e1]
      have hx : yieldX l (.mk p k kk) y = yieldT l (.mk p k kk) := by unfold yieldX; rw [if_neg (by show ¬ p < 0; omega)]
      rw [hx] at hr
      have hlen := yield_len h.1 e2
      by_cases h0 : leaves (.mk p k kk) = 0
      · rw [if_pos (empty_of hC h.1 e2 h0)]
        have hy : yieldT l (.mk p k kk) = [] := List.eq_nil_of_length_eq_zero (by omega)
        rw [hy, List.nil_append] at hr
        exact begin_has hC h.2 ⟨r, hr⟩ behind _ fun h1 => hb (by rw [leavess]; omega)
      · have hf := first_of hC h.1 e2 (by omega) ⟨_, hr⟩
        split
        · exact beginGo_out _ _ (by rw [Nat.testBit_or, hf, Bool.or_true])
        · rw [Nat.testBit_or, hf, Bool.or_true]
  | [], _ :: _, _, _, h, _, _, _, _ => by simp [Rights] at h
  | _ :: _, [], _, _, h, _, _, _, _ => by simp [Rights] at h
end
end
section
variable (l : List gramL.Prod) (E : List Bool) (F W : List Nat) (R M : List Bool) (w : List Int)
mutual
/-- what is asked at each node -/
def LookT : Tree → Nat → Prop
  | .mk p _ kids, a => LookK kids a ∧ M.getD (prodAt l p).1.toNat false = true ∧ R.getD (prodAt l p).1.toNat false = true ∧ (W.getD (prodAt l p).1.toNat 0).testBit (bitAt w (a + leavess kids)) = true ∧ (if leavess kids = 0 then E.getD (prodAt l p).1.toNat false = true else (F.getD (prodAt l p).1.toNat 0).testBit (bitAt w a) = true)
def LookK : List Tree → Nat → Prop
  | [], _ => True
  | .mk p k kk :: r, a => (p < 0 ∨ LookT (.mk p k kk) a) ∧ LookK r (a + leaves (.mk p k kk))
end
end
section
variable {l : List gramL.Prod} {n : Nat} {E R M : List Bool} {F W : List Nat} {w : List Int}
mutual
theorem looks_right (hC : ClosedF l E F W R M) (hs : SymsOk n l) : ∀ {t : Tree} {x : Sym} {u a : Nat}, Right l t x u → 0 ≤ t.prod → R.getD x.2.toNat false = true → (W.getD x.2.toNat 0).testBit (bitAt w (a + leaves t)) = true → (∃ r, w.drop a = yieldT l t ++ r) → LookT l E F W R M w t a
  | .mk p k kids, x, u, a, h, hp, hR, hW, hr => by
    have hm := makes_of hC h hp
    have he := fun h0 => empty_of hC h hp h0
    have hf := fun h0 => first_of hC h hp h0 hr
    have hp : 0 ≤ p := hp
    obtain ⟨a1, a2, a3, a4, a5⟩ := right_x h hp
    rw [leaves, if_neg (by omega)] at hW he hf
    rw [yieldT_eq] at hr
    rw [← a3] at hm hR hW he hf
    rw [LookT]
    refine ⟨look_kids hC hs (prodAt_mem hp a2) [] (by simp) a5 hR hW hr, hm, hR, hW, ?_⟩
    split
    · rename_i h0; exact he h0
    · rename_i h0; exact hf (by omega)
theorem look_kids (hC : ClosedF l E F W R M) (hs : SymsOk n l) {q : gramL.Prod} (hq : q ∈ l) : ∀ {ks : List Tree} {b : List Sym} {u a : Nat} (pre : List Sym), q.2 = pre ++ b → Rights l ks b u → R.getD q.1.toNat false = true → (W.getD q.1.toNat 0).testBit (bitAt w (a + leavess ks)) = true → (∃ r, w.drop a = yields l ks b ++ r) → LookK l E F W R M w ks a
  | [], [], _, _, _, _, _, _, _, _ => by rw [LookK]; trivial
  | .mk p k kk :: ks, y :: b, u, a, pre, hb, h, hR, hW, ⟨r, hr⟩ => by
    rw [Rights] at h
    rw [yields_X, List.append_assoc] at hr
    rw [leavess] at hW
    have hlen := yieldX_len h.1
    have hr2 : w.drop (a + leaves (.mk p k kk)) = yields l ks b ++ r := by rw [← List.drop_drop, hr, ← hlen, List.drop_left]
    rw [LookK]
    refine ⟨?_, look_kids hC hs hq (pre ++ [y]) (by rw [hb]; simp) h.2 hR (by rw [Nat.add_assoc]; exact hW) ⟨r, hr2⟩⟩
    rcases right_kind h.1 with ⟨e1, e2, e3⟩ | ⟨e1, e2⟩
    · exact .inl (by omega)
    · right
      have hy2 : y.1 = 2 := by
        rcases (hs q hq).2.2 y (by rw [hb]; simp) with h | h
        · exact absurd h e1
        · exact h.1
      have hx : yieldX l (.mk p k kk) y = yieldT l (.mk p k kk) := by unfold yieldX; rw [if_neg (by show ¬ p < 0; omega)]
      rw [hx] at hr
      refine looks_right hC hs h.1 e2 (hC.reach q hq y (by rw [hb]; simp) hy2 hR) (or_bit (hC.follow q hq pre y b hb hy2) ?_) ⟨_, hr⟩
      exact begin_has hC h.2 ⟨r, hr2⟩ _ 0 fun h0 => by rw [h0, Nat.add_zero] at hW; exact hW
  | [], _ :: _, _, _, _, _, h, _, _, _ => by simp [Rights] at h
  | _ :: _, [], _, _, _, _, h, _, _, _ => by simp [Rights] at h
end
end
end Go.Proofs.Ytnicebdkejkieaa.factsL
