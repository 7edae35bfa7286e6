/- The only tree: what chart.tree computes; no program in sight. -/
import Derived.Test.YtnicebdkejkieaaTreeW
import Derived.Test.YtnicebdkejkieaaCountT
namespace Go.Proofs.Ytnicebdkejkieaa.countL
open gramL treeL
def candB (o : Sym → Nat → Nat → Nat) (l : List gramL.Prod) (x : Sym) (a b k : Nat) : Bool := decide ((prodAt l (k : Int)).1 = x.2) && decide (0 < rowF o (prodAt l (k : Int)).2 a b)
/-- the last production that may be it -/
def bestP (o : Sym → Nat → Nat → Nat) (l : List gramL.Prod) (x : Sym) (a b : Nat) : Nat → Nat
  | 0 => 0
  | k + 1 => if candB o l x a b k = true then k else bestP o l x a b k
/-- the first place, of k more -/
def midM (f : Nat → Bool) (a : Nat) : Nat → Nat
  | 0 => a
  | k + 1 => if f a = true then a else midM f (a + 1) k
def cutB (o : Sym → Nat → Nat → Nat) (y : Sym) (r : List Sym) (a b m : Nat) : Bool := decide (0 < o y a m) && decide (0 < rowF o r m b)
def kidsM (o : Sym → Nat → Nat → Nat) (rec : Sym → Nat → Nat → Nat → Tree × Int × Nat) (b : Nat) : List Sym → Nat → Nat → List Tree × Int × Nat
  | [], _, n => ([], 0, n)
  | y :: r, a, n =>
    if (rec y a (midM (cutB o y r a b) a (b - a)) n).2.1 ≠ 0 then ([], (rec y a (midM (cutB o y r a b) a (b - a)) n).2)
    else ((rec y a (midM (cutB o y r a b) a (b - a)) n).1 :: (kidsM o rec b r (midM (cutB o y r a b) a (b - a)) (rec y a (midM (cutB o y r a b) a (b - a)) n).2.2).1, (kidsM o rec b r (midM (cutB o y r a b) a (b - a)) (rec y a (midM (cutB o y r a b) a (b - a)) n).2.2).2)
def treeM (o : Sym → Nat → Nat → Nat) (l : List gramL.Prod) : Nat → Sym → Nat → Nat → Nat → Tree × Int × Nat
  | 0, _, _, _, n => (.mk 0 0 [], if 1000 < n + 1 then 2 else 7, n + 1)
  | f + 1, x, a, b, n =>
    if 1000 < n + 1 then (.mk 0 0 [], 2, n + 1)
    else if x.1 = 1 then (.mk (-1) (a : Int) [], 0, n + 1)
    else if (kidsM o (treeM o l f) b (prodAt l (bestP o l x a b l.length : Nat)).2 a (n + 1)).2.1 ≠ 0 then (.mk 0 0 [], (kidsM o (treeM o l f) b (prodAt l (bestP o l x a b l.length : Nat)).2 a (n + 1)).2)
    else (.mk (bestP o l x a b l.length : Nat) 0 (kidsM o (treeM o l f) b (prodAt l (bestP o l x a b l.length : Nat)).2 a (n + 1)).1, (kidsM o (treeM o l f) b (prodAt l (bestP o l x a b l.length : Nat)).2 a (n + 1)).2)
section
variable {o : Sym → Nat → Nat → Nat} {l : List gramL.Prod} {x : Sym} {a b : Nat}
theorem best_pos : ∀ {k k0 : Nat}, k0 < k → candB o l x a b k0 = true → candB o l x a b (bestP o l x a b k) = true ∧ bestP o l x a b k < k
  | k + 1, k0, h, hc => by
    rw [bestP]
    by_cases c : candB o l x a b k = true
    · rw [if_pos c]; exact ⟨c, by omega⟩
    · rw [if_neg c]
      have : k0 ≠ k := fun e => c (e ▸ hc)
      obtain ⟨h1, h2⟩ := best_pos (k := k) (k0 := k0) (by omega) hc
      exact ⟨h1, by omega⟩
theorem mid_pos {f : Nat → Bool} : ∀ {k a m : Nat}, a ≤ m → m ≤ a + k → f m = true → f (midM f a k) = true ∧ a ≤ midM f a k ∧ midM f a k ≤ a + k
  | 0, a, m, h1, h2, hf => by
    obtain rfl : m = a := by omega
    exact ⟨hf, Nat.le_refl _, Nat.le_refl _⟩
  | k + 1, a, m, h1, h2, hf => by
    rw [midM]
    by_cases c : f a = true
    · rw [if_pos c]; exact ⟨c, by omega, by omega⟩
    · rw [if_neg c]
      have : m ≠ a := fun e => c (e ▸ hf)
      obtain ⟨h3, h4, h5⟩ := mid_pos (f := f) (k := k) (a := a + 1) (m := m) (by omega) (by omega) hf
      exact ⟨h3, by omega, by omega⟩
theorem mid_step {f : Nat → Bool} {a k : Nat} (h : f a = false) : midM f a (k + 1) = midM f (a + 1) k := by rw [midM, if_neg (by simp [h])]
theorem mid_here {f : Nat → Bool} {a k : Nat} (h : f a = true) : midM f a k = a := by
  cases k with
  | zero => rfl
  | succ k => rw [midM, if_pos h]
theorem sumN_pos {f : Nat → Nat} : ∀ {k : Nat}, 0 < sumN f k → ∃ i, i < k ∧ 0 < f i
  | 0, h => by simp [sumN] at h
  | k + 1, h => by
    rw [sumN] at h
    by_cases c : 0 < f k
    · exact ⟨k, by omega, c⟩
    · obtain ⟨i, h1, h2⟩ := sumN_pos (f := f) (k := k) (by omega)
      exact ⟨i, by omega, h2⟩
theorem sumN_uno {f : Nat → Nat} : ∀ {k i : Nat}, sumN f k ≤ 1 → i < k → 1 ≤ f i → f i = 1 ∧ ∀ j, j < k → j ≠ i → f j = 0
  | k + 1, i, h, hi, h1 => by
    rw [sumN] at h
    by_cases c : i = k
    · subst c
      refine ⟨by omega, fun j hj hne => ?_⟩
      have := sumN_ge f (i := j) (k := i) (by omega)
      omega
    · have h3 := sumN_ge f (i := i) (k := k) (by omega)
      obtain ⟨h4, h5⟩ := sumN_uno (f := f) (k := k) (i := i) (by omega) (by omega) h1
      refine ⟨h4, fun j hj hne => ?_⟩
      by_cases c2 : j = k
      · subst c2; omega
      · exact h5 j (by omega) hne
theorem row_cut {y : Sym} {r : List Sym} (hab : a ≤ b) (h : 0 < rowF o (y :: r) a b) : ∃ m, a ≤ m ∧ m ≤ b ∧ cutB o y r a b m = true := by
  rw [rowF_E _ _ hab, rowE] at h
  obtain ⟨i, h1, h2⟩ := sumN_pos (f := fun i => o y a (a + i) * rowE o r (a + i) b) (k := b - a + 1) (by omega)
  have h2 : 0 < o y a (a + i) * rowE o r (a + i) b := h2
  refine ⟨a + i, by omega, by omega, ?_⟩
  unfold cutB
  rw [rowF_E _ _ (by omega : a + i ≤ b)]
  rw [Bool.and_eq_true, decide_eq_true_iff, decide_eq_true_iff]
  exact ⟨Nat.pos_of_mul_pos_right h2, by have := Nat.pos_of_mul_pos_left h2; omega⟩
theorem row_mid {y : Sym} {r : List Sym} (hab : a ≤ b) (h : 0 < rowF o (y :: r) a b) : a ≤ midM (cutB o y r a b) a (b - a) ∧ midM (cutB o y r a b) a (b - a) ≤ b ∧ 0 < o y a (midM (cutB o y r a b) a (b - a)) ∧ 0 < rowF o r (midM (cutB o y r a b) a (b - a)) b := by
  obtain ⟨m, h1, h2, h3⟩ := row_cut hab h
  obtain ⟨h4, h5, h6⟩ := mid_pos (k := b - a) h1 (by omega) h3
  unfold cutB at h4 h5 h6 ⊢
  rw [Bool.and_eq_true, decide_eq_true_iff, decide_eq_true_iff] at h4
  exact ⟨h5, by omega, h4.1, h4.2⟩
theorem sumP_append (n : Nat) : ∀ (l m : List gramL.Prod), sumP o a b n (l ++ m) = sumP o a b n l + sumP o a b n m
  | [], m => by simp [sumP]
  | p :: r, m => by rw [List.cons_append, sumP, sumP, sumP_append n r m]; omega
theorem sumP_pos {n : Nat} : ∀ {l : List gramL.Prod}, 0 < sumP o a b n l → ∃ k, k < l.length ∧ (prodAt l (k : Int)).1 = (n : Int) ∧ 0 < rowF o (prodAt l (k : Int)).2 a b
  | [], h => by simp [sumP] at h
  | p :: r, h => by
    rw [sumP] at h
    by_cases c : p.1 = (n : Int) ∧ 0 < rowF o p.2 a b
    · exact ⟨0, by simp, c.1, c.2⟩
    · have : 0 < sumP o a b n r := by
        by_cases c1 : p.1 = (n : Int)
        · rw [if_pos c1] at h
          have : ¬ 0 < rowF o p.2 a b := fun h => c ⟨c1, h⟩
          omega
        · rw [if_neg c1] at h; omega
      obtain ⟨k, h1, h2, h3⟩ := sumP_pos this
      exact ⟨k + 1, by simpa using h1, h2, h3⟩
theorem prodAt_get {k : Nat} (h : k < l.length) : prodAt l (k : Int) = l[k] := by
  unfold prodAt
  rw [Int.toNat_natCast, List.getD_eq_getElem?_getD, List.getElem?_eq_getElem h]; rfl
theorem sumP_two {n p q : Nat} (hpq : p < q) (hq : q < l.length) (h1 : (prodAt l (p : Int)).1 = (n : Int)) (h2 : 0 < rowF o (prodAt l (p : Int)).2 a b) (h3 : (prodAt l (q : Int)).1 = (n : Int)) (h4 : 0 < rowF o (prodAt l (q : Int)).2 a b) : 2 ≤ sumP o a b n l := by
  rw [← List.take_append_drop q l, sumP_append]
  have e1 : prodAt l (p : Int) ∈ l.take q := by
    rw [prodAt_get (by omega)]
    exact List.mem_take_iff_getElem.2 ⟨p, by omega, rfl⟩
  have e2 : prodAt l (q : Int) ∈ l.drop q := by
    rw [prodAt_get hq, List.drop_eq_getElem_cons hq]; exact List.mem_cons_self
  have := sumP_ge o a b n e1 h1
  have := sumP_ge o a b n e2 h3
  omega
end
section
variable {w : List Int} {l : List gramL.Prod} {n : Nat} {c : Chart}
theorem one_cand (hc : Lfp w l n c) {x : Sym} {a b : Nat} (h2 : x.1 = 2) (hx : 0 ≤ x.2 ∧ x.2 < (n : Int)) (hab : a ≤ b) (hb : b ≤ w.length) (h : 0 < oneF c w x a b) : candB (oneF c w) l x a b (bestP (oneF c w) l x a b l.length) = true ∧ bestP (oneF c w) l x a b l.length < l.length := by
  unfold oneF at h
  rw [if_pos h2] at h
  have e : x.2 = ((x.2.toNat : Nat) : Int) := by omega
  rw [e, hc.fixed a b hab hb x.2.toNat (by omega)] at h
  unfold nowF at h
  obtain ⟨k, h3, h4, h5⟩ := sumP_pos (l := l) (o := oneF c w) (a := a) (b := b) (n := x.2.toNat) (by omega)
  refine best_pos h3 ?_
  unfold candB
  rw [Bool.and_eq_true, decide_eq_true_iff, decide_eq_true_iff]
  exact ⟨by rw [h4]; exact e.symm, h5⟩
theorem cand_iff {o : Sym → Nat → Nat → Nat} {x : Sym} {a b k : Nat} : candB o l x a b k = true ↔ (prodAt l (k : Int)).1 = x.2 ∧ 0 < rowF o (prodAt l (k : Int)).2 a b := by
  unfold candB
  rw [Bool.and_eq_true, decide_eq_true_iff, decide_eq_true_iff]
/-- what is found is a tree -/
theorem kidsM_ok (hs : SymsOk n l) {rec : Sym → Nat → Nat → Nat → Tree × Int × Nat} {f : Nat}
    (hrec : ∀ (x : Sym) (a b k : Nat) (t : Tree) (k1 : Nat), (x.1 = 1 ∨ (x.1 = 2 ∧ 0 ≤ x.2 ∧ x.2 < (n : Int))) → a ≤ b → b ≤ w.length → 0 < oneF c w x a b → rec x a b k = (t, 0, k1) → Right l t x a ∧ k1 = k + size t ∧ k1 ≤ 1000 ∧ tall t ≤ f ∧ leaves t = b - a ∧ yieldX l t x = (w.drop a).take (b - a)) :
    ∀ (body : List Sym) (a b k : Nat) (ts : List Tree) (k1 : Nat), (∀ x ∈ body, x.1 = 1 ∨ (x.1 = 2 ∧ 0 ≤ x.2 ∧ x.2 < (n : Int))) → a ≤ b → b ≤ w.length → k ≤ 1000 → 0 < rowF (oneF c w) body a b → kidsM (oneF c w) rec b body a k = (ts, 0, k1) →
    Rights l ts body a ∧ k1 = k + sizes ts ∧ k1 ≤ 1000 ∧ talls ts ≤ f ∧ leavess ts = b - a ∧ yields l ts body = (w.drop a).take (b - a)
  | [], a, b, k, ts, k1, _, hab, hb, hk, h, e => by
    rw [rowF_E _ _ hab, rowE] at h
    have hE : a = b := by
      by_cases c : a = b
      · exact c
      · rw [if_neg c] at h; omega
    subst hE
    rw [kidsM] at e
    simp only [Prod.mk.injEq] at e
    obtain ⟨rfl, _, rfl⟩ := e
    simp [Rights, sizes, talls, leavess, yields, actss, hk]
  | y :: r, a, b, k, ts, k1, hx, hab, hb, hk, h, e => by
    obtain ⟨m1, m2, m3, m4⟩ := row_mid hab h
    rw [kidsM] at e
    generalize midM (cutB (oneF c w) y r a b) a (b - a) = m at *
    generalize hR : rec y a m k = R at e
    obtain ⟨t, er, k2⟩ := R
    dsimp only at e
    by_cases c0 : er = 0
    · subst c0
      rw [if_neg (by decide)] at e
      simp only [Prod.mk.injEq] at e
      obtain ⟨rfl, e1⟩ := e
      obtain ⟨g1, g2, g3, g4, g5, g6⟩ := hrec y a m k t k2 (hx y (by simp)) m1 (by omega) m3 hR
      have hR2 : kidsM (oneF c w) rec b r m k2 = ((kidsM (oneF c w) rec b r m k2).1, 0, k1) := by
        rw [← e1]
      obtain ⟨f1, f2, f3, f4, f5, f6⟩ := kidsM_ok hs hrec r m b k2 _ k1 (fun z hz => hx z (by simp [hz])) m2 hb g3 m4 hR2
      rw [Rights, sizes, talls, leavess, yields_X, g6, f6, g5, f5]
      refine ⟨⟨g1, by rw [show a + (m - a) = m by omega]; exact f1⟩, by omega, f3, by omega, by omega, ?_⟩
      have e3 : w.drop m = (w.drop a).drop (m - a) := by rw [List.drop_drop, show a + (m - a) = m by omega]
      rw [e3, show b - a = (m - a) + (b - m) by omega, List.take_add]
    · rw [if_pos c0] at e
      simp only [Prod.mk.injEq] at e
      exact absurd e.2.1 c0
theorem treeM_ok (hc : Lfp w l n c) (hs : SymsOk n l) : ∀ (f : Nat) (x : Sym) (a b k : Nat) (t : Tree) (k1 : Nat), (x.1 = 1 ∨ (x.1 = 2 ∧ 0 ≤ x.2 ∧ x.2 < (n : Int))) → a ≤ b → b ≤ w.length → 0 < oneF c w x a b → treeM (oneF c w) l f x a b k = (t, 0, k1) → Right l t x a ∧ k1 = k + size t ∧ k1 ≤ 1000 ∧ tall t ≤ f ∧ leaves t = b - a ∧ yieldX l t x = (w.drop a).take (b - a)
  | 0, x, a, b, k, t, k1, hx, hab, hb, h, e => by
    rw [treeM] at e
    simp only [Prod.mk.injEq] at e
    obtain ⟨_, e, _⟩ := e
    split at e <;> cases e
  | f + 1, x, a, b, k, t, k1, hx, hab, hb, h, e => by
    rw [treeM] at e
    split at e
    · simp only [Prod.mk.injEq] at e; exact absurd e.2.1 (by decide)
    rename_i hk
    split at e
    · rename_i h1
      simp only [Prod.mk.injEq] at e
      obtain ⟨rfl, _, rfl⟩ := e
      unfold oneF at h
      rw [if_neg (by omega)] at h
      split at h
      · rename_i h2
        obtain ⟨rfl, h2⟩ := h2
        rw [Right, size, sizes, tall, talls, leaves, if_pos (by omega)]
        refine ⟨.inl ⟨h1, rfl, rfl, rfl⟩, by omega, by omega, by omega, by omega, ?_⟩
        unfold yieldX
        rw [if_pos (by show (-1 : Int) < 0; decide), show a + 1 - a = 1 by omega]
        obtain ⟨h3, h4⟩ := List.getElem?_eq_some_iff.1 h2
        rw [List.drop_eq_getElem_cons h3, h4]; rfl
      · omega
    · rename_i h1
      have hx2 : x.1 = 2 ∧ 0 ≤ x.2 ∧ x.2 < (n : Int) := hx.resolve_left h1
      obtain ⟨q1, q2⟩ := one_cand hc hx2.1 hx2.2 hab hb h
      obtain ⟨q3, q4⟩ := cand_iff.1 q1
      generalize bestP (oneF c w) l x a b l.length = p at *
      have hm := prodAt_mem (l := l) (p := (p : Int)) (by omega) (by omega)
      generalize hR : kidsM (oneF c w) (treeM (oneF c w) l f) b (prodAt l (p : Int)).2 a (k + 1) = R at e
      obtain ⟨ts, er, k2⟩ := R
      dsimp only at e
      by_cases c0 : er = 0
      · subst c0
        rw [if_neg (by decide)] at e
        simp only [Prod.mk.injEq, true_and] at e
        obtain ⟨rfl, rfl⟩ := e
        obtain ⟨g1, g2, g3, g4, g5, g6⟩ := kidsM_ok hs (fun x a b k t k1 h1 h2 h3 h4 h5 => treeM_ok hc hs f x a b k t k1 h1 h2 h3 h4 h5) _ a b (k + 1) ts k2 (fun y hy => (hs _ hm).2.2 y hy) hab hb (by omega) q4 hR
        rw [Right, size, tall, leaves, if_neg (by omega)]
        refine ⟨.inr ⟨h1, by omega, by omega, q3, rfl, g1⟩, by omega, g3, by omega, g5, ?_⟩
        unfold yieldX
        rw [if_neg (by show ¬ (p : Int) < 0; omega), yieldT_eq, g6]
      · rw [if_pos c0] at e
        simp only [Prod.mk.injEq] at e
        exact absurd e.2.1 c0
/-- where one tree is counted, a tree that is there is found -/
theorem kidsM_of (hc : Lfp w l n c) (hs : SymsOk n l) {rec : Sym → Nat → Nat → Nat → Tree × Int × Nat} {f : Nat}
    (hrec : ∀ (t : Tree) (x : Sym) (a b k u : Nat), Right l t x u → (x.1 = 1 ∨ x.1 = 2) → a ≤ b → b ≤ w.length → oneF c w x a b ≤ 1 → yieldX l t x = (w.drop a).take (b - a) → k + size t ≤ 1000 → tall t ≤ f → u = a → rec x a b k = (t, 0, k + size t)) :
    ∀ (ts : List Tree) (body : List Sym) (a b k : Nat), Rights l ts body a → (∀ x ∈ body, x.1 = 1 ∨ x.1 = 2) → a ≤ b → b ≤ w.length → rowF (oneF c w) body a b ≤ 1 → yields l ts body = (w.drop a).take (b - a) → k + sizes ts ≤ 1000 → talls ts ≤ f →
    kidsM (oneF c w) rec b body a k = (ts, 0, k + sizes ts)
  | [], [], a, b, k, _, _, _, _, _, _, _, _ => by rw [kidsM, sizes]; rfl
  | t :: ts, y :: r, a, b, k, h, hx, hab, hb, h1, hy, hk, hf => by
    rw [Rights] at h
    rw [sizes] at hk ⊢
    rw [talls] at hf
    rw [yields_X] at hy
    have hlt := yieldX_len h.1
    have hls : (yields l ts r).length = b - a - leaves t := by
      have := congrArg List.length hy
      rw [List.length_append, List.length_take, List.length_drop] at this
      omega
    have hle : leaves t ≤ b - a := by
      have := congrArg List.length hy
      rw [List.length_append, List.length_take, List.length_drop] at this
      omega
    have hy1 : yieldX l t y = (w.drop a).take (leaves t) := by
      have := congrArg (List.take (leaves t)) hy
      rw [List.take_take, Nat.min_eq_left hle, ← hlt, List.take_left] at this
      rw [← hlt]; exact this
    have hy2 : yields l ts r = (w.drop (a + leaves t)).take (b - (a + leaves t)) := by
      have := congrArg (List.drop (leaves t)) hy
      rw [← hlt, List.drop_left, hlt, List.drop_take, List.drop_drop] at this
      rw [this]; congr 1; omega
    have p1 := one_pos hc hs h.1 (hx y (by simp)) (by omega : a ≤ w.length) ⟨(w.drop a).drop (leaves t), by rw [hy1, List.take_append_drop]⟩
    have p2 := row_pos hc hs h.2 (fun z hz => hx z (by simp [hz])) (by omega : a + leaves t ≤ w.length) ⟨(w.drop (a + leaves t)).drop (b - (a + leaves t)), by rw [hy2, List.take_append_drop]⟩
    have hlv : a + leaves t + leavess ts = b := by
      have hll : ∀ (ts : List Tree) (r : List Sym) (u : Nat), Rights l ts r u → (yields l ts r).length = leavess ts := fun ts r u h => yields_len h
      have := hll ts r _ h.2
      omega
    rw [hlv] at p2
    rw [rowF_E _ _ hab, rowE] at h1
    have h1' : sumN (fun i => oneF c w y a (a + i) * rowE (oneF c w) r (a + i) b) (b - a + 1) ≤ 1 := by omega
    obtain ⟨u1, u2⟩ := sumN_uno h1' (i := leaves t) (by omega) (by
      show 1 ≤ oneF c w y a (a + leaves t) * rowE (oneF c w) r (a + leaves t) b
      exact Nat.mul_pos p1 p2)
    have u1 : oneF c w y a (a + leaves t) * rowE (oneF c w) r (a + leaves t) b = 1 := u1
    obtain ⟨v1, v2⟩ : oneF c w y a (a + leaves t) = 1 ∧ rowE (oneF c w) r (a + leaves t) b = 1 := ⟨Nat.eq_one_of_mul_eq_one_right u1, Nat.eq_one_of_mul_eq_one_left u1⟩
    have hm : midM (cutB (oneF c w) y r a b) a (b - a) = a + leaves t := by
      have hcut : cutB (oneF c w) y r a b (a + leaves t) = true := by
        unfold cutB
        rw [Bool.and_eq_true, decide_eq_true_iff, decide_eq_true_iff, rowF_E _ _ (by omega : a + leaves t ≤ b)]
        exact ⟨by omega, by omega⟩
      obtain ⟨g1, g2, g3⟩ := mid_pos (k := b - a) (by omega : a ≤ a + leaves t) (by omega) hcut
      generalize midM (cutB (oneF c w) y r a b) a (b - a) = m at *
      unfold cutB at g1
      rw [Bool.and_eq_true, decide_eq_true_iff, decide_eq_true_iff, rowF_E _ _ (by omega : m ≤ b)] at g1
      by_cases e : m - a = leaves t
      · omega
      · have := u2 (m - a) (by omega) e
        rw [show a + (m - a) = m by omega] at this
        have : 0 < oneF c w y a m * rowE (oneF c w) r m b := Nat.mul_pos g1.1 (by omega)
        omega
    rw [kidsM, hm, hrec t y a (a + leaves t) k a h.1 (hx y (by simp)) (by omega) (by omega) (by omega) (by rw [hy1]; congr 1; omega) (by omega) (by omega) rfl]
    rw [if_neg (by simp), kidsM_of hc hs hrec ts r (a + leaves t) b (k + size t) h.2 (fun z hz => hx z (by simp [hz])) (by omega) hb (by rw [rowF_E _ _ (by omega)]; omega) hy2 (by omega) (by omega), Nat.add_assoc]
  | [], _ :: _, _, _, _, h, _, _, _, _, _, _, _ => by simp [Rights] at h
  | _ :: _, [], _, _, _, h, _, _, _, _, _, _, _ => by simp [Rights] at h
theorem treeM_of (hc : Lfp w l n c) (hs : SymsOk n l) : ∀ (f : Nat) (t : Tree) (x : Sym) (a b k u : Nat), Right l t x u → (x.1 = 1 ∨ x.1 = 2) → a ≤ b → b ≤ w.length → oneF c w x a b ≤ 1 → yieldX l t x = (w.drop a).take (b - a) → k + size t ≤ 1000 → tall t ≤ f → u = a → treeM (oneF c w) l f x a b k = (t, 0, k + size t)
  | 0, .mk p q kids, x, a, b, k, u, h, _, _, _, _, _, _, hf, _ => by rw [tall] at hf; omega
  | f + 1, .mk p q kids, x, a, b, k, u, h, hx, hab, hb, h1, hy, hk, hf, hu => by
    subst hu
    have hsz := size_pos (.mk p q kids)
    rw [treeM, if_neg (by omega)]
    rw [Right] at h
    rw [size] at hk ⊢
    rw [tall] at hf
    rcases h with ⟨a1, a2, a3, a4⟩ | ⟨a1, a2, a3, a4, a5, a6⟩
    · subst a2 a3 a4
      rw [if_pos a1, sizes]
    · subst a5
      have hx2 : x.1 = 2 := hx.resolve_left a1
      rw [if_neg a1]
      obtain ⟨pn, rfl⟩ : ∃ pn : Nat, p = pn := ⟨p.toNat, by omega⟩
      have hm := prodAt_mem (l := l) (p := (pn : Int)) (by omega) (by omega)
      obtain ⟨s1, s2, s3⟩ := hs _ hm
      have hy' : yields l kids (prodAt l (pn : Int)).2 = (w.drop u).take (b - u) := by
        unfold yieldX at hy
        rw [if_neg (by show ¬ (pn : Int) < 0; omega), yieldT_eq] at hy
        exact hy
      have hlv : u + leavess kids = b := by
        have := congrArg List.length hy'
        rw [yields_len a6, List.length_take, List.length_drop] at this
        omega
      have p2 := row_pos hc hs a6 (fun y hy => (s3 y hy).imp id fun h => h.1) (by omega : u ≤ w.length) ⟨(w.drop u).drop (b - u), by rw [hy', List.take_append_drop]⟩
      rw [hlv] at p2
      have hrow : 0 < rowF (oneF c w) (prodAt l (pn : Int)).2 u b := by rw [rowF_E _ _ hab]; omega
      have hcand : candB (oneF c w) l x u b pn = true := cand_iff.2 ⟨a4, hrow⟩
      obtain ⟨q1, q2⟩ := best_pos (k := l.length) (by omega : pn < l.length) hcand
      have hsum : sumP (oneF c w) u b x.2.toNat l ≤ 1 := by
        unfold oneF at h1
        rw [if_pos hx2] at h1
        have e : x.2 = ((x.2.toNat : Nat) : Int) := by omega
        rw [e, hc.fixed u b hab hb x.2.toNat (by omega)] at h1
        unfold nowF at h1
        omega
      have hbest : bestP (oneF c w) l x u b l.length = pn := by
        generalize bestP (oneF c w) l x u b l.length = r at *
        obtain ⟨r1, r2⟩ := cand_iff.1 q1
        have e : x.2 = ((x.2.toNat : Nat) : Int) := by omega
        by_cases c1 : r = pn
        · exact c1
        · rcases Nat.lt_or_gt_of_ne c1 with c2 | c2
          · have := sumP_two (o := oneF c w) (l := l) (a := u) (b := b) (n := x.2.toNat) c2 (by omega) (by rw [r1]; exact e) r2 (by rw [a4]; exact e) hrow; omega
          · have := sumP_two (o := oneF c w) (l := l) (a := u) (b := b) (n := x.2.toNat) c2 (by omega) (by rw [a4]; exact e) hrow (by rw [r1]; exact e) r2; omega
      rw [hbest]
      have hrow1 : rowF (oneF c w) (prodAt l (pn : Int)).2 u b ≤ 1 := by
        have := sumP_ge (oneF c w) u b x.2.toNat hm (by rw [a4]; omega)
        omega
      rw [kidsM_of hc hs (fun t x a b k u h1 h2 h3 h4 h5 h6 h7 h8 h9 => treeM_of hc hs f t x a b k u h1 h2 h3 h4 h5 h6 h7 h8 h9) kids _ u b (k + 1) a6 (fun y hy => (s3 y hy).imp id fun h => h.1) hab hb hrow1 hy' (by omega) (by omega)]
      rw [if_neg (by simp), show k + 1 + sizes kids = k + (sizes kids + 1) by omega]
end
end Go.Proofs.Ytnicebdkejkieaa.countL
