/- Rows of symbols, counted whole; turned round; no program in sight. -/
import Derived.Test.YtnicebdkejkieaaCountT
namespace Go.Proofs.Ytnicebdkejkieaa.countL
open gramL
theorem sumN_congr {f g : Nat → Nat} : ∀ k, (∀ j, j < k → f j = g j) → sumN f k = sumN g k
  | 0, _ => rfl
  | k + 1, h => by rw [sumN, sumN, sumN_congr k fun j hj => h j (by omega), h k (by omega)]
theorem sumN_add (f g : Nat → Nat) : ∀ k, sumN (fun j => f j + g j) k = sumN f k + sumN g k
  | 0 => rfl
  | k + 1 => by rw [sumN, sumN, sumN, sumN_add f g k]; omega
theorem sumN_mul (v : Nat) (f : Nat → Nat) : ∀ k, sumN (fun j => v * f j) k = v * sumN f k
  | 0 => rfl
  | k + 1 => by rw [sumN, sumN, sumN_mul v f k, Nat.mul_add]
theorem sumN_mulr (v : Nat) (f : Nat → Nat) : ∀ k, sumN (fun j => f j * v) k = sumN f k * v
  | 0 => by simp [sumN]
  | k + 1 => by rw [sumN, sumN, sumN_mulr v f k, Nat.add_mul]
theorem sumN_swap (f : Nat → Nat → Nat) (m : Nat) : ∀ k, sumN (fun i => sumN (fun j => f i j) m) k = sumN (fun j => sumN (fun i => f i j) k) m
  | 0 => by rw [sumN]; exact (sumN_zero _ m fun _ _ => rfl).symm
  | k + 1 => by rw [sumN, sumN_swap f m k, ← sumN_add]; rfl
theorem sumN_front (f : Nat → Nat) : ∀ k, sumN f (k + 1) = f 0 + sumN (fun j => f (j + 1)) k
  | 0 => by simp [sumN]
  | k + 1 => by rw [sumN, sumN_front f k, sumN]; omega
theorem sumN_split (f : Nat → Nat) (a : Nat) : ∀ k, sumN f (a + k) = sumN f a + sumN (fun j => f (a + j)) k
  | 0 => by simp [sumN]
  | k + 1 => by rw [← Nat.add_assoc, sumN, sumN_split f a k, sumN]; omega
theorem sumN_rev (f : Nat → Nat) : ∀ k, sumN f k = sumN (fun j => f (k - 1 - j)) k
  | 0 => rfl
  | k + 1 => by
    rw [sumN_front (fun j => f (k + 1 - 1 - j)), sumN, sumN_rev f k, Nat.add_comm]
    congr 1
    exact sumN_congr k fun j hj => by congr 1; omega
theorem sumN_one (f : Nat → Nat) {i k : Nat} (hi : i < k) (h : ∀ j, j < k → j ≠ i → f j = 0) : sumN f k = f i := by
  induction k with
  | zero => omega
  | succ k ih =>
    rw [sumN]
    by_cases e : i = k
    · subst e
      rw [sumN_zero f i fun j hj => h j (by omega) (by omega), Nat.zero_add]
    · rw [ih (by omega) fun j hj => h j (by omega), h k (by omega) (fun e' => e e'.symm), Nat.add_zero]
/-- a triangle, summed by rows and by columns -/
theorem sumN_tri (f : Nat → Nat → Nat) (d : Nat) : sumN (fun j => sumN (fun i => f i j) (j + 1)) (d + 1) = sumN (fun i => sumN (fun k => f i (i + k)) (d - i + 1)) (d + 1) := by
  have h1 : sumN (fun j => sumN (fun i => f i j) (j + 1)) (d + 1) = sumN (fun j => sumN (fun i => if i ≤ j then f i j else 0) (d + 1)) (d + 1) := by
    refine sumN_congr _ fun j hj => ?_
    rw [show d + 1 = (j + 1) + (d - j) by omega, sumN_split (fun i => if i ≤ j then f i j else 0)]
    rw [sumN_zero (fun q => if j + 1 + q ≤ j then f (j + 1 + q) j else 0) _ fun q _ => if_neg (by omega), Nat.add_zero]
    exact sumN_congr _ fun i hi => (if_pos (by omega)).symm
  rw [h1, sumN_swap]
  refine sumN_congr _ fun i hi => ?_
  rw [show d + 1 = i + (d - i + 1) by omega, sumN_split, sumN_zero _ i fun j hj => if_neg (by omega), Nat.zero_add]
  exact sumN_congr _ fun k _ => if_pos (by omega)
/-- all ways in which symbols make what lies between two places -/
def rowE (o : Sym → Nat → Nat → Nat) : List Sym → Nat → Nat → Nat
  | [], a, b => if a = b then 1 else 0
  | x :: r, a, b => sumN (fun i => o x a (a + i) * rowE o r (a + i) b) (b - a + 1)
theorem cap_sum (f g : Nat → Nat) : ∀ k, (∀ j, j < k → min 2 (f j) = min 2 (g j)) → min 2 (sumN f k) = min 2 (sumN g k)
  | 0, _ => rfl
  | k + 1, h => by
    have h1 := cap_sum f g k fun j hj => h j (by omega)
    have h2 := h k (by omega)
    rw [sumN, sumN]
    omega
theorem cap_mul (u v : Nat) : min 2 (min 2 u * v) = min 2 (u * v) := by
  by_cases h : u ≤ 2
  · have e : min 2 u = u := by omega
    rw [e]
  · have e : min 2 u = 2 := by omega
    rw [e]
    by_cases hv : v = 0
    · subst hv; simp
    · have : 2 ≤ 2 * v := by omega
      have h2 : 2 * v ≤ u * v := Nat.mul_le_mul_right v (by omega)
      omega
theorem waysF_E (o : Sym → Nat → Nat → Nat) (a : Nat) : ∀ (l : List Sym) (f : Nat → Nat) (d : Nat), (∀ j, f j ≤ 2) → waysF o a l f d = min 2 (sumN (fun i => f i * rowE o l (a + i) (a + d)) (d + 1))
  | [], f, d, h => by
    rw [waysF, sumN_one _ (show d < d + 1 by omega) fun j _ hj => by rw [rowE, if_neg (by omega), Nat.mul_zero], rowE, if_pos rfl, Nat.mul_one]
    have := h d; omega
  | x :: r, f, d, h => by
    rw [waysF, waysF_E o a r _ d (nextF_le _ _)]
    have h1 : min 2 (sumN (fun i => nextF (fun i j => o x (a + i) (a + j)) f i * rowE o r (a + i) (a + d)) (d + 1)) = min 2 (sumN (fun j => sumN (fun i => f i * o x (a + i) (a + j) * rowE o r (a + j) (a + d)) (j + 1)) (d + 1)) := cap_sum _ _ _ fun j _ => by
      rw [sumN_mulr]
      exact cap_mul _ _
    rw [h1, sumN_tri (fun i j => f i * o x (a + i) (a + j) * rowE o r (a + j) (a + d))]
    congr 1
    refine sumN_congr _ fun i hi => ?_
    rw [rowE, ← sumN_mul, show a + d - (a + i) = d - i by omega]
    refine sumN_congr _ fun k _ => ?_
    rw [Nat.mul_assoc, Nat.add_assoc]
theorem rowF_E (o : Sym → Nat → Nat → Nat) (l : List Sym) {a b : Nat} (h : a ≤ b) : rowF o l a b = min 2 (rowE o l a b) := by
  unfold rowF
  rw [waysF_E o a l ways0 _ ways0_le, sumN_front]
  rw [sumN_zero (fun j => ways0 (j + 1) * rowE o l (a + (j + 1)) (a + (b - a))) _ fun j _ => by simp [ways0]]
  rw [show a + (b - a) = b by omega]
  simp [ways0]
theorem rowE_snoc (o : Sym → Nat → Nat → Nat) (x : Sym) : ∀ (l : List Sym) (a b : Nat), a ≤ b → rowE o (l ++ [x]) a b = sumN (fun i => rowE o l a (a + i) * o x (a + i) b) (b - a + 1)
  | [], a, b, h => by
    rw [List.nil_append, rowE, sumN_one _ (show b - a < b - a + 1 by omega) fun j hj hne => by rw [rowE, if_neg (by omega), Nat.mul_zero], sumN_one (fun i => rowE o [] a (a + i) * o x (a + i) b) (show 0 < b - a + 1 by omega) fun j _ hne => by rw [rowE, if_neg (by omega), Nat.zero_mul]]
    rw [rowE, rowE, if_pos (by omega), if_pos (by omega), show a + (b - a) = b by omega]
    simp
  | y :: r, a, b, h => by
    obtain ⟨d, rfl⟩ : ∃ d, b = a + d := ⟨b - a, by omega⟩
    rw [List.cons_append, rowE, show a + d - a = d by omega]
    have h1 : sumN (fun i => o y a (a + i) * rowE o (r ++ [x]) (a + i) (a + d)) (d + 1) = sumN (fun i => sumN (fun k => o y a (a + i) * (rowE o r (a + i) (a + (i + k)) * o x (a + (i + k)) (a + d))) (d - i + 1)) (d + 1) := by
      refine sumN_congr _ fun i hi => ?_
      rw [rowE_snoc o x r (a + i) (a + d) (by omega), ← sumN_mul, show a + d - (a + i) = d - i by omega]
      exact sumN_congr _ fun k _ => by rw [Nat.add_assoc]
    rw [h1, ← sumN_tri (fun i j => o y a (a + i) * (rowE o r (a + i) (a + j) * o x (a + j) (a + d)))]
    refine sumN_congr _ fun j hj => ?_
    rw [rowE, ← sumN_mulr, show a + j - a = j by omega]
    exact sumN_congr _ fun i _ => by rw [Nat.mul_assoc]
theorem rowE_rev (o o' : Sym → Nat → Nat → Nat) (N : Nat) : ∀ (l : List Sym) (a b : Nat), a ≤ b → b ≤ N → (∀ x ∈ l, ∀ i j, i ≤ j → j ≤ N → o' x (N - j) (N - i) = o x i j) → rowE o' l.reverse (N - b) (N - a) = rowE o l a b
  | [], a, b, h1, h2, _ => by
    rw [List.reverse_nil, rowE, rowE]
    by_cases e : a = b
    · rw [if_pos e, if_pos (by omega)]
    · rw [if_neg e, if_neg (by omega)]
  | x :: r, a, b, h1, h2, h => by
    rw [List.reverse_cons, rowE_snoc o' x r.reverse (N - b) (N - a) (by omega), rowE, show N - a - (N - b) = b - a by omega, sumN_rev]
    refine sumN_congr _ fun j hj => ?_
    have e1 : N - b + (b - a + 1 - 1 - j) = N - (a + j) := by omega
    rw [e1, rowE_rev o o' N r (a + j) b (by omega) h2 fun y hy => h y (by simp [hy]), h x (by simp) a (a + j) (by omega) (by omega), Nat.mul_comm]
/-! ### turned round -/
theorem mir_one {c : Chart} {w : List Int} (x : Sym) {i j : Nat} (h1 : i ≤ j) (h2 : j ≤ w.length) : oneF (fun x => c (x.1, (w.length : Int) - x.2.2, (w.length : Int) - x.2.1)) w.reverse x (w.length - j) (w.length - i) = oneF c w x i j := by
  unfold oneF
  by_cases e : x.1 = 2
  · rw [if_pos e, if_pos e]
    dsimp only
    rw [show (w.length : Int) - ((w.length - i : Nat) : Int) = (i : Int) by omega, show (w.length : Int) - ((w.length - j : Nat) : Int) = (j : Int) by omega]
  · rw [if_neg e, if_neg e]
    by_cases e2 : j = i + 1
    · have h3 : w.reverse[w.length - j]? = w[i]? := by
        rw [List.getElem?_reverse (by omega)]
        congr 1; omega
      rw [h3]
      by_cases e3 : w[i]? = some x.2
      · rw [if_pos ⟨by omega, e3⟩, if_pos ⟨e2, e3⟩]
      · rw [if_neg (fun h => e3 h.2), if_neg (fun h => e3 h.2)]
    · rw [if_neg (fun h => e2 (by omega)), if_neg (fun h => e2 h.1)]
theorem mir_now {o o' : Sym → Nat → Nat → Nat} {N a b : Nat} (h1 : a ≤ b) (h2 : b ≤ N) (n : Nat) (l : List gramL.Prod) (h : ∀ x i j, i ≤ j → j ≤ N → o' x (N - j) (N - i) = o x i j) : nowF o' (l.map mirP) (N - b) (N - a) n = nowF o l a b n := by
  have key : ∀ l : List gramL.Prod, sumP o' (N - b) (N - a) n (l.map mirP) = 0 ∧ sumP o a b n l = 0 ∨ min 2 (sumP o' (N - b) (N - a) n (l.map mirP)) = min 2 (sumP o a b n l) := by
    intro l
    right
    induction l with
    | nil => rfl
    | cons p r ih =>
      rw [List.map_cons, sumP, sumP]
      have e : (mirP p).1 = p.1 := rfl
      have e2 : (mirP p).2 = p.2.reverse := rfl
      rw [e, e2, rowF_E o' _ (by omega), rowF_E o _ h1, rowE_rev o o' N p.2 a b h1 h2 fun x _ => h x]
      split <;> omega
  unfold nowF
  rcases key l with ⟨e1, e2⟩ | e
  · rw [e1, e2]
  · exact e
theorem mir_pre {w : List Int} {l : List gramL.Prod} {n : Nat} {S : Chart} (h : PreC w l n S) : PreC w.reverse (l.map mirP) n (fun x => S (x.1, (w.length : Int) - x.2.2, (w.length : Int) - x.2.1)) := fun k a b hk h1 h2 => by
  rw [List.length_reverse] at h2
  have := h k (w.length - b) (w.length - a) hk (by omega) (by omega)
  have hm := mir_now (o := oneF S w) (o' := oneF (fun x => S (x.1, (w.length : Int) - x.2.2, (w.length : Int) - x.2.1)) w.reverse) (N := w.length) (a := w.length - b) (b := w.length - a) (by omega) (by omega) k l fun x i j => mir_one x
  rw [show w.length - (w.length - a) = a by omega, show w.length - (w.length - b) = b by omega] at hm
  rw [hm]
  dsimp only
  rw [show (w.length : Int) - (b : Int) = ((w.length - b : Nat) : Int) by omega, show (w.length : Int) - (a : Int) = ((w.length - a : Nat) : Int) by omega]
  exact this
theorem chart_mir {w : List Int} {l : List gramL.Prod} {n : Nat} (hl : NonsIn n l) (hl' : NonsIn n (l.map mirP)) {k a b : Nat} (hk : k < n) (h1 : a ≤ b) (h2 : b ≤ w.length) : chartOf w.reverse (l.map mirP) n ((k : Int), ((w.length - b : Nat) : Int), ((w.length - a : Nat) : Int)) = chartOf w l n ((k : Int), (a : Int), (b : Int)) := by
  apply Nat.le_antisymm
  · have := chartOf_le (mir_pre (chartOf_pre (w := w) hl)) ((k : Int), ((w.length - b : Nat) : Int), ((w.length - a : Nat) : Int))
    dsimp only at this
    rw [show (w.length : Int) - ((w.length - a : Nat) : Int) = (a : Int) by omega, show (w.length : Int) - ((w.length - b : Nat) : Int) = (b : Int) by omega] at this
    exact this
  · have hp := mir_pre (chartOf_pre (w := w.reverse) hl')
    rw [List.reverse_reverse, List.map_map, show mirP ∘ mirP = id from by funext p; simp [mirP], List.map_id, List.length_reverse] at hp
    have := chartOf_le hp ((k : Int), (a : Int), (b : Int))
    dsimp only at this
    rw [show (w.length : Int) - (b : Int) = ((w.length - b : Nat) : Int) by omega, show (w.length : Int) - (a : Int) = ((w.length - a : Nat) : Int) by omega] at this
    exact this
theorem checkW_of {t : Int} : ∀ {w : List Int}, (∀ x ∈ w, 0 ≤ x ∧ x < t) → checkW t w = 0
  | [], _ => rfl
  | y :: r, h => by
    have := h y (by simp)
    unfold checkW
    rw [if_neg (by omega), if_neg (by omega)]
    exact checkW_of fun x hx => h x (by simp [hx])
theorem checkC_of {g : Gram} {w : List Int} (h1 : checkG g = 0) (h2 : w.length ≤ 20) (h3 : ∀ x ∈ w, 0 ≤ x ∧ x < g.terms) : checkC g w = 0 := by
  unfold checkC
  rw [if_neg (by rw [h1]; decide), if_neg (by omega)]
  exact checkW_of h3
theorem checkC_mir {g : Gram} {w : List Int} (h : checkC g w = 0) : checkC (mirror g) w.reverse = 0 := by
  obtain ⟨h1, h2, h3⟩ := checkC_ok h
  exact checkC_of (by rw [check_mirror]; exact h1) (by simpa using h2) fun x hx => h3 x (by simpa using hx)
theorem trees_mir {g : Gram} {w : List Int} (h : checkC g w = 0) : treesN (mirror g) w.reverse = treesN g w := by
  obtain ⟨h1, h2, h3⟩ := checkC_ok h
  obtain ⟨_, _, a3, _⟩ := checkG_ok h1
  unfold treesN
  rw [if_pos h, if_pos (checkC_mir h)]
  have hm := nonsIn_of (g := mirror g) (n := g.nons.toNat) (by rw [check_mirror]; exact h1) (show g.nons = _ by omega)
  have := chart_mir (w := w) (nonsIn_of h1 (by omega)) hm (k := 0) (a := 0) (b := w.length) (by omega) (Nat.zero_le _) (Nat.le_refl _)
  rw [Nat.sub_self, Nat.sub_zero] at this
  rw [List.length_reverse]
  exact this
/-! ### more productions -/
theorem sumP_app (o : Sym → Nat → Nat → Nat) (a b n : Nat) (l l' : List gramL.Prod) : sumP o a b n (l ++ l') = sumP o a b n l + sumP o a b n l' := by
  induction l with
  | nil => simp [sumP]
  | cons p r ih => rw [List.cons_append, sumP, sumP, ih]; omega
theorem chart_more {w : List Int} {l l' : List gramL.Prod} {n : Nat} (hl : NonsIn n l) (x : Span) : chartOf w l n x ≤ chartOf w (l ++ l') n x := by
  refine chartOf_glb fun S hS => chartOf_le (fun k a b hk h1 h2 => ?_) x
  refine Nat.le_trans ?_ (hS k a b hk h1 h2)
  unfold nowF
  rw [sumP_app]
  omega
theorem trees_more {g h : Gram} {w : List Int} {p : gramL.Prod} (ht : h.terms = g.terms) (hn : h.nons = g.nons) (hp : h.prods = g.prods ++ [p]) (c1 : checkC g w = 0) (c2 : checkC h w = 0) : treesN g w ≤ treesN h w := by
  unfold treesN
  rw [if_pos c1, if_pos c2, hn, hp]
  obtain ⟨h1, _⟩ := checkC_ok c1
  obtain ⟨_, _, a3, _⟩ := checkG_ok h1
  exact chart_more (nonsIn_of h1 (by omega)) _
end Go.Proofs.Ytnicebdkejkieaa.countL
