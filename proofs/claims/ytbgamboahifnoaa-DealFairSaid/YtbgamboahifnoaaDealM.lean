/- The plain law of dealing: no program in sight. -/
import Derived.Test.YtbgamboahifnoaaDealL
namespace Go.Proofs.Ytbgamboahifnoaa.dealL
def ready (l : List Int) : List Bool := l.map fun n => decide (0 < n)
/-- turns, till nothing is left: of each share who gets it and how much; who was last -/
def deals (slice : Int) : Nat → Int → List Int → Int → List (Nat × Int) × Int
  | 0, last, _, _ => ([], last)
  | f + 1, last, l, budget =>
    if budget ≤ 0 then ([], last) else
    if turnF (ready l) last < 0 then ([], last) else
    let k := (turnF (ready l) last).toNat
    let n := min (min (l.getD k 0) slice) budget
    let r := deals slice f (k : Int) (l.set k (l.getD k 0 - n)) (budget - n)
    ((k, n) :: r.1, r.2)
/-- how much one got -/
def got (out : List (Nat × Int)) (i : Nat) : Int := (out.map fun x => if x.1 = i then x.2 else 0).sum
def total (out : List (Nat × Int)) : Int := (out.map (·.2)).sum

theorem ready_length (l : List Int) : (ready l).length = l.length := by simp [ready]
theorem ready_get (l : List Int) (k : Nat) (h : k < l.length) : (ready l).getD k false = decide (0 < l.getD k 0) := by
  simp [ready, List.getD_eq_getElem?_getD, h]
/-- who is next: there, and has some to come -/
theorem turn_hit (l : List Int) (last : Int) (h : ¬ turnF (ready l) last < 0) : (turnF (ready l) last).toNat < l.length ∧ 0 < l.getD (turnF (ready l) last).toNat 0 ∧ turnF (ready l) last = ((turnF (ready l) last).toNat : Int) := by
  rcases turnF_cases (ready l) last with ⟨e, _⟩ | ⟨i, hi, hp, _, e⟩
  · rw [e] at h; omega
  · rw [e]
    simp only [Int.toNat_natCast]
    rw [ready_length] at hi
    have hm : (fromN (ready l).length last + 1 + i) % (ready l).length < l.length := by rw [ready_length]; exact Nat.mod_lt _ (by omega)
    refine ⟨hm, ?_, trivial⟩
    unfold turnAt at hp
    rw [ready_get _ _ hm] at hp
    simpa using hp
theorem turn_none (l : List Int) (last : Int) (h : turnF (ready l) last < 0) (k : Nat) (hk : k < l.length) : l.getD k 0 ≤ 0 := by
  rcases turnF_cases (ready l) last with ⟨_, hb⟩ | ⟨i, _, _, _, e⟩
  · obtain ⟨j, hj, hjk⟩ := turn_all (ready l).length (fromN (ready l).length last) k (by rw [ready_length]; exact from_lt _ _ (by omega)) (by rw [ready_length]; exact hk)
    have := hb j hj
    unfold turnAt at this
    rw [hjk, ready_get _ _ hk] at this
    simpa using this
  · rw [e] at h; omega
theorem getD_set (l : List Int) (k i : Nat) (x : Int) (hk : k < l.length) : (l.set k x).getD i 0 = if i = k then x else l.getD i 0 := by
  rw [List.getD_eq_getElem?_getD, List.getD_eq_getElem?_getD]
  by_cases h : i = k
  · subst h; rw [List.getElem?_set_self hk, if_pos rfl]; rfl
  · rw [List.getElem?_set_ne (fun e => h e.symm), if_neg h]
theorem sum_set (l : List Int) : ∀ (k : Nat) (x : Int), k < l.length → (l.set k x).sum = l.sum - l.getD k 0 + x := by
  induction l with
  | nil => intro k x h; simp at h
  | cons a l ih =>
    intro k x h
    cases k with
    | zero => simp; omega
    | succ k =>
      have := ih k x (by simpa using h)
      simp only [List.set_cons_succ, List.sum_cons, List.getD_cons_succ]
      omega
theorem sum_nonneg (l : List Int) (h : ∀ x ∈ l, 0 ≤ x) : 0 ≤ l.sum := by
  induction l with
  | nil => simp
  | cons a l ih => have := h a (by simp); have := ih fun x hx => h x (by simp [hx]); simp; omega
theorem mem_getD (l : List Int) (h : ∀ k, k < l.length → 0 ≤ l.getD k 0) : ∀ x ∈ l, 0 ≤ x := fun x hx => by
  obtain ⟨k, hk, rfl⟩ := List.mem_iff_getElem.1 hx
  have := h k hk
  rwa [List.getD_eq_getElem?_getD, List.getElem?_eq_getElem hk] at this
theorem sum_zero (l : List Int) (h : ∀ k, k < l.length → l.getD k 0 = 0) : l.sum = 0 := by
  induction l with
  | nil => rfl
  | cons a l ih =>
    have h0 := h 0 (by simp)
    have := ih fun k hk => by have := h (k + 1) (by simpa using hk); simpa using this
    simp at h0 ⊢; omega
theorem deals_stop (slice : Int) (f : Nat) (la : Int) (l : List Int) (b : Int) (h : b ≤ 0) : deals slice f la l b = ([], la) := by
  cases f with
  | zero => rfl
  | succ f => unfold deals; rw [if_pos h]
theorem deals_none (slice : Int) (f : Nat) (la : Int) (l : List Int) (b : Int) (h : turnF (ready l) la < 0) : deals slice f la l b = ([], la) := by
  cases f with
  | zero => rfl
  | succ f => unfold deals; rw [if_pos h]; split <;> rfl
theorem deals_step (slice : Int) (f k : Nat) (la : Int) (l : List Int) (b : Int) (h : 0 < b) (hk : turnF (ready l) la = (k : Int)) : deals slice (f + 1) la l b =
    ((k, min (min (l.getD k 0) slice) b) :: (deals slice f (k : Int) (l.set k (l.getD k 0 - min (min (l.getD k 0) slice) b)) (b - min (min (l.getD k 0) slice) b)).1,
      (deals slice f (k : Int) (l.set k (l.getD k 0 - min (min (l.getD k 0) slice) b)) (b - min (min (l.getD k 0) slice) b)).2) := by
  rw [deals, if_neg (by omega), if_neg (by rw [hk]; omega), hk]
  rfl
/-- all that holds of what is dealt -/
theorem deals_all (slice : Int) (hs : 1 ≤ slice) : ∀ (f : Nat) (last : Int) (l : List Int) (budget : Int), (∀ k, k < l.length → 0 ≤ l.getD k 0) → 0 ≤ budget → budget ≤ f →
    (∀ x ∈ (deals slice f last l budget).1, x.1 < l.length ∧ 1 ≤ x.2 ∧ x.2 ≤ slice) ∧ (∀ i, i < l.length → got (deals slice f last l budget).1 i ≤ l.getD i 0) ∧ (∀ i, 0 ≤ got (deals slice f last l budget).1 i) ∧
      total (deals slice f last l budget).1 = min l.sum budget ∧ (deals slice f last l budget).1.length ≤ f
  | 0, last, l, budget, hl, hb0, hb => by
    have := sum_nonneg l (mem_getD l hl)
    exact ⟨by simp [deals], by simpa [deals, got] using hl, by simp [deals, got], by simp [deals, total]; omega, by simp [deals]⟩
  | f + 1, last, l, budget, hl, hb0, hb => by
    have hsum := sum_nonneg l (mem_getD l hl)
    unfold deals
    by_cases c1 : budget ≤ 0
    · rw [if_pos c1]
      exact ⟨by simp, by simpa [got] using hl, by simp [got], by simp [total]; omega, by simp⟩
    · rw [if_neg c1]
      by_cases c2 : turnF (ready l) last < 0
      · rw [if_pos c2]
        have hz := sum_zero l fun k hk => by have := turn_none l last c2 k hk; have := hl k hk; omega
        exact ⟨by simp, by simpa [got] using hl, by simp [got], by simp [total]; omega, by simp⟩
      · rw [if_neg c2]
        obtain ⟨hk, hpos, hke⟩ := turn_hit l last c2
        generalize (turnF (ready l) last).toNat = k at *
        have hn1 : 1 ≤ min (min (l.getD k 0) slice) budget := by omega
        have hn2 : min (min (l.getD k 0) slice) budget ≤ slice ∧ min (min (l.getD k 0) slice) budget ≤ l.getD k 0 ∧ min (min (l.getD k 0) slice) budget ≤ budget := by omega
        simp only
        generalize min (min (l.getD k 0) slice) budget = n at *
        have hl2 : ∀ i, i < (l.set k (l.getD k 0 - n)).length → 0 ≤ (l.set k (l.getD k 0 - n)).getD i 0 := fun i hi => by
          rw [getD_set _ _ _ _ hk]
          split
          · omega
          · exact hl i (by simpa using hi)
        obtain ⟨h1, h2, h3, h4, h5⟩ := deals_all slice hs f (k : Int) (l.set k (l.getD k 0 - n)) (budget - n) hl2 (by omega) (by omega)
        rw [List.length_set] at h1 h2
        rw [sum_set _ _ _ hk] at h4
        refine ⟨?_, ?_, ?_, ?_, by simp; exact h5⟩
        · intro x hx
          rcases List.mem_cons.1 hx with rfl | hx
          · exact ⟨hk, hn1, hn2.1⟩
          · exact h1 x hx
        · intro i hi
          have h6 := h2 i hi
          rw [getD_set _ _ _ _ hk] at h6
          simp only [got, List.map_cons, List.sum_cons]
          unfold got at h6
          by_cases e : i = k
          · subst e; rw [if_pos rfl] at h6 ⊢; omega
          · rw [if_neg e] at h6; rw [if_neg (fun h => e h.symm)]; omega
        · intro i
          have h6 := h3 i
          simp only [got, List.map_cons, List.sum_cons]
          unfold got at h6
          split <;> omega
        · simp only [total, List.map_cons, List.sum_cons]
          unfold total at h4
          omega
end Go.Proofs.Ytbgamboahifnoaa.dealL
