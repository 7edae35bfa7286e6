/- Tables for one who climbs down: what ll.Make computes, what no Clash means; no program in sight. -/
import Derived.Test.YtnicebdkejkieaaCountU
import Derived.Test.YtnicebdkejkieaaFactsR
namespace Go.Proofs.Ytnicebdkejkieaa.llL
open gramL treeL countL factsL derL
abbrev Cl := Int × Int × Int × Int
def bitC (T col : Nat) : Nat := if col = T then 9223372036854775808 else 2 ^ col
section
variable (l : List gramL.Prod) (may : Nat → Nat) (T : Nat)
def candL (n col i : Nat) : Bool := decide ((prodAt l (i : Int)).1 = (n : Int)) && !decide ((may i &&& bitC T col) = 0)
/-- the first one -/
def firstL (n col : Nat) : Nat → Int
  | 0 => -1
  | k + 1 => if firstL n col k < 0 then (if candL l may T n col k = true then (k : Int) else firstL n col k) else firstL n col k
def outL (n col : Nat) : Nat → List Cl → List Cl
  | 0, out => out
  | k + 1, out => if candL l may T n col k = true then (if firstL l may T n col k < 0 then outL n col k out else outL n col k out ++ [((n : Int), (col : Int), firstL l may T n col k, (k : Int))]) else outL n col k out
def colO (n : Nat) : Nat → List Cl → List Cl
  | 0, out => out
  | c + 1, out => outL l may T n c l.length (colO n c out)
def rowO' : Nat → List Cl
  | 0 => []
  | n + 1 => colO l may T n (T + 1) (rowO' n)
def rowAt (n col : Nat) : Int := firstL l may T n col l.length
end
section
variable {l : List gramL.Prod} {may : Nat → Nat} {T : Nat}
theorem first_ge (n col : Nat) : ∀ k, -1 ≤ firstL l may T n col k ∧ firstL l may T n col k < (k : Int)
  | 0 => ⟨by rw [firstL]; omega, by rw [firstL]; omega⟩
  | k + 1 => by
    have := first_ge n col k
    rw [firstL]
    split
    · split <;> omega
    · omega
theorem first_head (n col : Nat) : ∀ k, k ≤ l.length → 0 ≤ firstL l may T n col k → (prodAt l (firstL l may T n col k)).1 = (n : Int)
  | 0, _, h => by rw [firstL] at h; omega
  | k + 1, hk, h => by
    have ih := first_head n col k (by omega)
    rw [firstL] at h ⊢
    split at h
    · split at h
      · rename_i c1 c2
        rw [if_pos c1, if_pos c2]
        unfold candL at c2
        rw [Bool.and_eq_true, decide_eq_true_iff] at c2
        exact c2.1
      · omega
    · rename_i c1
      rw [if_neg c1]; exact ih h
theorem outL_none (n col : Nat) : ∀ (k : Nat) (out : List Cl), outL l may T n col k out = [] → out = [] ∧ ∀ i, i < k → candL l may T n col i = true → firstL l may T n col k = (i : Int)
  | 0, out, h => ⟨h, fun i h => by omega⟩
  | k + 1, out, h => by
    rw [outL] at h
    by_cases c : candL l may T n col k = true
    · rw [if_pos c] at h
      by_cases c2 : firstL l may T n col k < 0
      · rw [if_pos c2] at h
        obtain ⟨h1, h2⟩ := outL_none n col k out h
        refine ⟨h1, fun i hi hc => ?_⟩
        rw [firstL, if_pos c2, if_pos c]
        by_cases e : i = k
        · rw [e]
        · have := h2 i (by omega) hc; omega
      · rw [if_neg c2] at h
        simp at h
    · rw [if_neg c] at h
      obtain ⟨h1, h2⟩ := outL_none n col k out h
      refine ⟨h1, fun i hi hc => ?_⟩
      have hik : i < k := by
        by_cases e : i = k
        · subst e; exact absurd hc c
        · omega
      have := h2 i hik hc
      rw [firstL, if_neg (by omega)]; exact this
theorem colO_none (n : Nat) : ∀ (c : Nat) (out : List Cl), colO l may T n c out = [] → out = [] ∧ ∀ col, col < c → ∀ i, i < l.length → candL l may T n col i = true → rowAt l may T n col = (i : Int)
  | 0, out, h => ⟨h, fun i h => by omega⟩
  | c + 1, out, h => by
    rw [colO] at h
    obtain ⟨h1, h2⟩ := outL_none n c _ _ h
    obtain ⟨h3, h4⟩ := colO_none n c out h1
    refine ⟨h3, fun col hc i hi hcand => ?_⟩
    by_cases e : col = c
    · subst e; exact h2 i hi hcand
    · exact h4 col (by omega) i hi hcand
theorem rowO_none : ∀ (N : Nat), rowO' l may T N = [] → ∀ n, n < N → ∀ col, col < T + 1 → ∀ i, i < l.length → candL l may T n col i = true → rowAt l may T n col = (i : Int)
  | 0, _, n, h => by omega
  | N + 1, h, n, hn => by
    rw [rowO'] at h
    obtain ⟨h1, h2⟩ := colO_none N _ _ h
    by_cases e : n = N
    · subst e; exact h2
    · exact rowO_none N h1 n (by omega)
end
/-! ### trees that follow a table -/
def colAt (T : Nat) (w : List Int) (a : Nat) : Nat := if a < w.length then (w.getD a 0).toNat else T
section
variable (l : List gramL.Prod) (nx : Int → Nat → Int)
mutual
def DetT : Tree → Nat → Prop
  | .mk p _ kids, a => nx (prodAt l p).1 a = p ∧ DetK kids a
def DetK : List Tree → Nat → Prop
  | [], _ => True
  | .mk p k kk :: r, a => (p < 0 ∨ DetT (.mk p k kk) a) ∧ DetK r (a + leaves (.mk p k kk))
end
end
section
variable {l : List gramL.Prod} {nx : Int → Nat → Int}
mutual
theorem det_eq : ∀ {t t' : Tree} {x : Sym} {a : Nat}, Right l t x a → Right l t' x a → (0 ≤ t.prod → DetT l nx t a) → (0 ≤ t'.prod → DetT l nx t' a) → t = t'
  | .mk p k kids, .mk p' k' kids', x, a, h, h', hd, hd' => by
    rw [Right] at h h'
    rcases h with ⟨a1, a2, a3, a4⟩ | ⟨a1, a2, a3, a4, a5, a6⟩
    · rcases h' with ⟨b1, b2, b3, b4⟩ | ⟨b1, _⟩
      · rw [a2, a3, a4, b2, b3, b4]
      · exact absurd a1 b1
    · rcases h' with ⟨b1, _⟩ | ⟨b1, b2, b3, b4, b5, b6⟩
      · exact absurd b1 a1
      · have hd := hd a2
        have hd' := hd' b2
        rw [DetT] at hd hd'
        have hp : p = p' := by rw [← hd.1, ← hd'.1, a4, b4]
        subst hp
        rw [a5, b5, dets_eq a6 b6 hd.2 hd'.2]
theorem dets_eq : ∀ {ks ks' : List Tree} {b : List Sym} {a : Nat}, Rights l ks b a → Rights l ks' b a → DetK l nx ks a → DetK l nx ks' a → ks = ks'
  | [], [], [], _, _, _, _, _ => rfl
  | .mk p k kk :: r, .mk p' k' kk' :: r', y :: b, a, h, h', hd, hd' => by
    rw [Rights] at h h'
    rw [DetK] at hd hd'
    have e : Tree.mk p k kk = Tree.mk p' k' kk' := det_eq h.1 h'.1 (fun hp => hd.1.resolve_left (by have hp : 0 ≤ p := hp; omega)) (fun hp => hd'.1.resolve_left (by have hp : 0 ≤ p' := hp; omega))
    rw [← e] at h' hd'
    rw [← e, dets_eq h.2 h'.2 hd.2 hd'.2]
  | [], _ :: _, [], _, _, h, _, _ => by simp [Rights] at h
  | _ :: _, _, [], _, h, _, _, _ => by simp [Rights] at h
  | [], _, _ :: _, _, h, _, _, _ => by simp [Rights] at h
  | _ :: _, [], _ :: _, _, _, h, _, _ => by simp [Rights] at h
end
end
section
variable {l : List gramL.Prod} {n : Nat} {E R M : List Bool} {F W : List Nat} {w : List Int} {may : Nat → Nat} {T : Nat}
theorem bit_and {x b : Nat} (h : x.testBit b = true) : (x &&& 2 ^ b) ≠ 0 := fun e => by
  have := congrArg (fun y => Nat.testBit y b) e
  simp only [Nat.testBit_and, h, Nat.testBit_two_pow_self, Bool.and_self, Nat.zero_testBit] at this
  cases this
theorem bitC_at (hw : ∀ x ∈ w, 0 ≤ x ∧ x < (T : Int)) (a : Nat) : bitC T (colAt T w a) = 2 ^ bitAt w a := by
  unfold bitC colAt bitAt
  by_cases c : a < w.length
  · have := hw _ (List.getElem_mem c)
    have e : w.getD a 0 = w[a] := by rw [List.getD_eq_getElem?_getD, List.getElem?_eq_getElem c]; rfl
    rw [if_pos c, if_pos c, e, if_neg (by omega)]
  · rw [if_neg c, if_neg c, if_pos rfl]
mutual
theorem det_of (hC : ClosedF l E F W R M) (hs : SymsOk n l) (hT : T ≤ 30) (hw : ∀ x ∈ w, 0 ≤ x ∧ x < (T : Int)) (hm : ∀ i, i < l.length → may i = beginF E F (prodAt l (i : Int)).2 (W.getD (prodAt l (i : Int)).1.toNat 0)) (hn : ∀ q, q < n → ∀ col, col < T + 1 → ∀ i, i < l.length → candL l may T q col i = true → rowAt l may T q col = (i : Int)) :
    ∀ {t : Tree} {x : Sym} {u a : Nat}, Right l t x u → 0 ≤ t.prod → LookT l E F W R M w t a → (∃ r, w.drop a = yieldT l t ++ r) → DetT l (fun h a => rowAt l may T h.toNat (colAt T w a)) t a
  | .mk p k kids, x, u, a, h, hp, hl, ⟨r, hr⟩ => by
    have hp : 0 ≤ p := hp
    obtain ⟨a1, a2, a3, a4, a5⟩ := right_x h hp
    rw [LookT] at hl
    rw [yieldT_eq] at hr
    obtain ⟨hlk, _, _, hW, _⟩ := hl
    obtain ⟨pn, rfl⟩ : ∃ pn : Nat, p = pn := ⟨p.toNat, by omega⟩
    have hpl : pn < l.length := by omega
    obtain ⟨s1, s2, s3⟩ := hs _ (prodAt_mem hp a2)
    rw [DetT]
    refine ⟨hn _ (by omega) _ ?_ pn hpl ?_, dets_of hC hs hT hw hm hn a5 hlk ⟨r, hr⟩⟩
    · unfold colAt
      split
      · rename_i c
        have := hw _ (List.getElem_mem c)
        have e : w.getD a 0 = w[a] := by rw [List.getD_eq_getElem?_getD, List.getElem?_eq_getElem c]; rfl
        rw [e]; omega
      · omega
    · unfold candL
      rw [Bool.and_eq_true, decide_eq_true_iff]
      refine ⟨by omega, ?_⟩
      have hb := begin_has hC a5 ⟨r, hr⟩ (W.getD (prodAt l (pn : Int)).1.toNat 0) 0 fun h0 => by rw [h0, Nat.add_zero] at hW; exact hW
      rw [bitC_at hw, hm pn hpl]
      have := bit_and hb
      unfold beginF
      simpa using this
theorem dets_of (hC : ClosedF l E F W R M) (hs : SymsOk n l) (hT : T ≤ 30) (hw : ∀ x ∈ w, 0 ≤ x ∧ x < (T : Int)) (hm : ∀ i, i < l.length → may i = beginF E F (prodAt l (i : Int)).2 (W.getD (prodAt l (i : Int)).1.toNat 0)) (hn : ∀ q, q < n → ∀ col, col < T + 1 → ∀ i, i < l.length → candL l may T q col i = true → rowAt l may T q col = (i : Int)) :
    ∀ {ks : List Tree} {b : List Sym} {u a : Nat}, Rights l ks b u → LookK l E F W R M w ks a → (∃ r, w.drop a = yields l ks b ++ r) → DetK l (fun h a => rowAt l may T h.toNat (colAt T w a)) ks a
  | [], [], _, _, _, _, _ => by rw [DetK]; trivial
  | .mk p k kk :: ks, y :: b, u, a, h, hl, ⟨r, hr⟩ => by
    rw [Rights] at h
    rw [LookK] at hl
    rw [yields_X, List.append_assoc] at hr
    have hlen := yieldX_len h.1
    have hr2 : w.drop (a + leaves (.mk p k kk)) = yields l ks b ++ r := by rw [← List.drop_drop, hr, ← hlen, List.drop_left]
    rw [DetK]
    refine ⟨?_, dets_of hC hs hT hw hm hn h.2 hl.2 ⟨r, hr2⟩⟩
    by_cases c : p < 0
    · exact .inl c
    · have hx : yieldX l (.mk p k kk) y = yieldT l (.mk p k kk) := by unfold yieldX; rw [if_neg (show ¬ (Tree.mk p k kk).prod < 0 from c)]
      rw [hx] at hr
      exact .inr (det_of hC hs hT hw hm hn h.1 (by show 0 ≤ p; omega) (hl.1.resolve_left c) ⟨_, hr⟩)
  | [], _ :: _, _, _, h, _, _ => by simp [Rights] at h
  | _ :: _, [], _, _, h, _, _ => by simp [Rights] at h
end
end
end Go.Proofs.Ytnicebdkejkieaa.llL
