/- Counting trees: what the chart's functions compute; no program in sight. -/
import Derived.Test.YtnicebdkejkieaaGramL
namespace Go.Proofs.Ytnicebdkejkieaa.countL
open gramL
abbrev Span := Int × Int × Int
abbrev Chart := Span → Nat
def oneF (c : Chart) (w : List Int) (x : Sym) (a b : Nat) : Nat := if x.1 = 2 then c (x.2, (a : Int), (b : Int)) else if b = a + 1 ∧ w[a]? = some x.2 then 1 else 0
def sumN (f : Nat → Nat) : Nat → Nat
  | 0 => 0
  | k + 1 => sumN f k + f k
/-- from places to places, by one symbol more -/
def nextF (o : Nat → Nat → Nat) (f : Nat → Nat) (b : Nat) : Nat := min 2 (sumN (fun j => f j * o j b) (b + 1))
/-- the same, i places of the old ones being done -/
def partF (o : Nat → Nat → Nat) (f : Nat → Nat) (i b : Nat) : Nat := min 2 (sumN (fun j => f j * o j b) (min i (b + 1)))
def waysF (o : Sym → Nat → Nat → Nat) (a : Nat) : List Sym → (Nat → Nat) → Nat → Nat
  | [], f => f
  | x :: r, f => waysF o a r (nextF (fun i j => o x (a + i) (a + j)) f)
def ways0 (b : Nat) : Nat := if b = 0 then 1 else 0
def rowF (o : Sym → Nat → Nat → Nat) (l : List Sym) (a b : Nat) : Nat := waysF o a l ways0 (b - a)
/-- all productions of a nonterminal -/
def sumP (o : Sym → Nat → Nat → Nat) (a b : Nat) (n : Nat) : List gramL.Prod → Nat
  | [] => 0
  | p :: r => (if p.1 = (n : Int) then rowF o p.2 a b else 0) + sumP o a b n r
def nowF (o : Sym → Nat → Nat → Nat) (l : List gramL.Prod) (a b n : Nat) : Nat := min 2 (sumP o a b n l)
/-- a function as a list -/
def tab (len : Nat) (f : Nat → Nat) : List Nat := (List.range len).map f
theorem tab_len (len : Nat) (f : Nat → Nat) : (tab len f).length = len := by simp [tab]
theorem tab_get {len : Nat} (f : Nat → Nat) {k : Nat} (h : k < len) : (tab len f)[k]? = some (f k) := by simp [tab, h]
theorem tab_set {len : Nat} (f g : Nat → Nat) (k v : Nat) (h : ∀ i, i < len → g i = if i = k then v else f i) : (tab len f).set k v = tab len g := by
  apply List.ext_getElem?
  intro i
  rw [List.getElem?_set]
  by_cases hi : i < len
  · rw [tab_get g hi, h i hi]
    by_cases e : k = i
    · subst e; simp [tab_len, hi]
    · rw [if_neg e, if_neg (fun e' => e e'.symm), tab_get f hi]
  · have h1 : (tab len g)[i]? = none := List.getElem?_eq_none (by rw [tab_len]; omega)
    have h2 : (tab len f)[i]? = none := List.getElem?_eq_none (by rw [tab_len]; omega)
    rw [h1, h2]
    by_cases e : k = i
    · subst e; simp [tab_len, hi]
    · rw [if_neg e]
theorem tab_congr {len : Nat} {f g : Nat → Nat} (h : ∀ i, i < len → f i = g i) : tab len f = tab len g := by
  unfold tab
  apply List.map_congr_left
  intro i hi
  exact h i (by simpa using hi)
theorem sumN_zero (f : Nat → Nat) : ∀ k, (∀ j, j < k → f j = 0) → sumN f k = 0
  | 0, _ => rfl
  | k + 1, h => by rw [sumN, sumN_zero f k fun j hj => h j (by omega), h k (by omega)]
theorem nextF_le (o : Nat → Nat → Nat) (f : Nat → Nat) (b : Nat) : nextF o f b ≤ 2 := Nat.min_le_left ..
theorem partF_le (o : Nat → Nat → Nat) (f : Nat → Nat) (i b : Nat) : partF o f i b ≤ 2 := Nat.min_le_left ..
theorem partF_0 (o : Nat → Nat → Nat) (f : Nat → Nat) (b : Nat) : partF o f 0 b = 0 := by simp [partF, sumN]
theorem partF_end (o : Nat → Nat → Nat) (f : Nat → Nat) {i b : Nat} (h : b < i) : partF o f i b = nextF o f b := by
  unfold partF nextF
  have e : min i (b + 1) = b + 1 := by omega
  rw [e]
theorem partF_step (o : Nat → Nat → Nat) (f : Nat → Nat) {i b : Nat} (h : i ≤ b) : partF o f (i + 1) b = min (partF o f i b + f i * o i b) 2 := by
  unfold partF
  have e1 : min (i + 1) (b + 1) = i + 1 := by omega
  have e2 : min i (b + 1) = i := by omega
  rw [e1, e2, sumN]
  omega
theorem partF_skip (o : Nat → Nat → Nat) (f : Nat → Nat) {i b : Nat} (h : b < i) : partF o f (i + 1) b = partF o f i b := by
  rw [partF_end o f h, partF_end o f (by omega)]
theorem partF_none (o : Nat → Nat → Nat) (f : Nat → Nat) {i : Nat} (h : f i = 0) (b : Nat) : partF o f (i + 1) b = partF o f i b := by
  by_cases c : i ≤ b
  · rw [partF_step o f c, h, Nat.zero_mul]
    have := partF_le o f i b
    omega
  · exact partF_skip o f (by omega)
/-- i places are done, and the one behind them up to b -/
def mixF (o : Nat → Nat → Nat) (f : Nat → Nat) (i b : Nat) : Nat → Nat := fun j => if j < b then partF o f (i + 1) j else partF o f i j
theorem mixF_0 (o : Nat → Nat → Nat) (f : Nat → Nat) (i : Nat) : mixF o f i i = partF o f i := by
  funext j
  unfold mixF
  split
  · exact partF_skip o f (by assumption)
  · rfl
theorem mixF_none (o : Nat → Nat → Nat) (f : Nat → Nat) {i : Nat} (h : f i = 0) (b : Nat) : mixF o f i b = partF o f (i + 1) := by
  funext j
  unfold mixF
  rw [partF_none o f h, ite_self]
theorem mixF_at (o : Nat → Nat → Nat) (f : Nat → Nat) (i b : Nat) : mixF o f i b b = partF o f i b := by simp [mixF]
theorem mixF_step (o : Nat → Nat → Nat) (f : Nat → Nat) (i b j : Nat) : mixF o f i (b + 1) j = if j = b then partF o f (i + 1) b else mixF o f i b j := by
  unfold mixF
  by_cases c : j = b
  · subst c; rw [if_pos (by omega), if_pos rfl]
  · rw [if_neg c]
    by_cases c2 : j < b
    · rw [if_pos (by omega), if_pos c2]
    · rw [if_neg (by omega), if_neg c2]
theorem mixF_end (o : Nat → Nat → Nat) (f : Nat → Nat) {i b len : Nat} (h : len ≤ b) : tab len (mixF o f i b) = tab len (partF o f (i + 1)) := tab_congr fun j hj => by
  unfold mixF; rw [if_pos (by omega)]
theorem oneF_le {c : Chart} (hc : ∀ x, c x ≤ 2) (w : List Int) (x : Sym) (a b : Nat) : oneF c w x a b ≤ 2 := by
  unfold oneF
  split
  · exact hc _
  · split <;> omega
theorem ways0_le (b : Nat) : ways0 b ≤ 2 := by unfold ways0; split <;> omega
theorem waysF_le {o : Sym → Nat → Nat → Nat} {a : Nat} : ∀ (l : List Sym) (f : Nat → Nat), (∀ b, f b ≤ 2) → ∀ b, waysF o a l f b ≤ 2
  | [], f, h, b => h b
  | x :: r, f, h, b => waysF_le r _ (fun b => nextF_le _ _ b) b
theorem rowF_le (o : Sym → Nat → Nat → Nat) (l : List Sym) (a b : Nat) : rowF o l a b ≤ 2 := waysF_le l _ ways0_le _
theorem nowF_le (o : Sym → Nat → Nat → Nat) (l : List gramL.Prod) (a b n : Nat) : nowF o l a b n ≤ 2 := Nat.min_le_left ..
theorem sumP_snoc (o : Sym → Nat → Nat → Nat) (a b n : Nat) (p : gramL.Prod) : ∀ l, sumP o a b n (l ++ [p]) = sumP o a b n l + (if p.1 = (n : Int) then rowF o p.2 a b else 0)
  | [] => by simp [sumP]
  | q :: r => by rw [List.cons_append, sumP, sumP, sumP_snoc o a b n p r]; omega
theorem nowF_snoc (o : Sym → Nat → Nat → Nat) (a b : Nat) (p : gramL.Prod) (l : List gramL.Prod) {h : Nat} (hp : p.1 = (h : Int)) (n : Nat) : nowF o (l ++ [p]) a b n = if n = h then min (nowF o l a b h + rowF o p.2 a b) 2 else nowF o l a b n := by
  unfold nowF
  rw [sumP_snoc]
  by_cases c : n = h
  · subst c
    rw [if_pos hp, if_pos rfl]
    omega
  · rw [if_neg (by omega), if_neg c, Nat.add_zero]
/-- a round over a span: what the chart is behind it, and whether something is new -/
def roundC (c : Chart) (w : List Int) (l : List gramL.Prod) (nons a b : Nat) (k : Nat) : Chart := fun x => if x.2.1 = (a : Int) ∧ x.2.2 = (b : Int) ∧ 0 ≤ x.1 ∧ x.1 < (k : Int) ∧ x.1 < (nons : Int) then nowF (oneF c w) l a b x.1.toNat else c x
def newB (c : Chart) (w : List Int) (l : List gramL.Prod) (a b : Nat) : Nat → Bool
  | 0 => false
  | k + 1 => newB c w l a b k || !decide (c ((k : Int), (a : Int), (b : Int)) = nowF (oneF c w) l a b k)
theorem roundC_0 (c : Chart) (w : List Int) (l : List gramL.Prod) (n a b : Nat) : roundC c w l n a b 0 = c := by
  funext x
  unfold roundC
  rw [if_neg (by omega)]
theorem roundC_at (c : Chart) (w : List Int) (l : List gramL.Prod) (n a b k : Nat) : roundC c w l n a b k ((k : Int), (a : Int), (b : Int)) = c ((k : Int), (a : Int), (b : Int)) := by
  unfold roundC
  rw [if_neg (by dsimp only; omega)]
theorem roundC_step (c : Chart) (w : List Int) (l : List gramL.Prod) {n a b k : Nat} (hk : k < n) (y : Span) : roundC c w l n a b (k + 1) y = if y = ((k : Int), (a : Int), (b : Int)) then nowF (oneF c w) l a b k else roundC c w l n a b k y := by
  obtain ⟨q, y1, y2⟩ := y
  unfold roundC
  dsimp only
  by_cases e : (q, y1, y2) = ((k : Int), (a : Int), (b : Int))
  · rw [if_pos e]
    simp only [Prod.mk.injEq] at e
    obtain ⟨rfl, rfl, rfl⟩ := e
    rw [if_pos (by omega), Int.toNat_natCast]
  · rw [if_neg e]
    by_cases c1 : y1 = (a : Int) ∧ y2 = (b : Int) ∧ 0 ≤ q ∧ q < (k : Int) ∧ q < (n : Int)
    · rw [if_pos c1, if_pos (by omega)]
    · rw [if_neg c1, if_neg (fun h => ?_)]
      have : q = (k : Int) := by omega
      exact e (by rw [this, h.1, h.2.1])
def checkW (t : Int) : List Int → Int
  | [] => 0
  | x :: r => if x < 0 then 1 else if t ≤ x then 1 else checkW t r
def checkC (g : Gram) (w : List Int) : Int := if checkG g ≠ 0 then checkG g else if 20 < w.length then 2 else checkW g.terms w
theorem checkW_ok {t : Int} : ∀ {w : List Int}, checkW t w = 0 → ∀ x ∈ w, 0 ≤ x ∧ x < t
  | [], _, _, h => by cases h
  | y :: r, h, x, hx => by
    unfold checkW at h
    split at h; · cases h
    split at h; · cases h
    rcases List.mem_cons.1 hx with rfl | hx
    · omega
    · exact checkW_ok h x hx
theorem checkC_ok {g : Gram} {w : List Int} (h : checkC g w = 0) : checkG g = 0 ∧ w.length ≤ 20 ∧ ∀ x ∈ w, 0 ≤ x ∧ x < g.terms := by
  unfold checkC at h
  split at h; · contradiction
  split at h; · cases h
  rename_i a b
  exact ⟨by simpa using a, by omega, checkW_ok h⟩
end Go.Proofs.Ytnicebdkejkieaa.countL
