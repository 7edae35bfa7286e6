/- The plain law of turns: no program in sight. -/
namespace Go.Proofs.Ytbgamboahifnoaa.dealL
def turnAt (l : List Bool) (from_ i : Nat) : Bool := l.getD ((from_ + 1 + i) % l.length) false
def fromN (n : Nat) (last : Int) : Nat := if last < 0 ∨ (n : Int) ≤ last then n - 1 else last.toNat
def first (l : List Bool) (from_ : Nat) : Option Nat := (List.range l.length).find? (turnAt l from_)
def turnF (l : List Bool) (last : Int) : Int :=
  match first l (fromN l.length last) with
  | some i => (((fromN l.length last + 1 + i) % l.length : Nat) : Int)
  | none => -1
theorem find_range {n i : Nat} {p : Nat → Bool} (hi : i < n) (hp : p i = true) (hb : ∀ j, j < i → p j = false) : (List.range n).find? p = some i := by
  have e : List.range n = List.range i ++ i :: (List.range (n - i - 1)).map (fun x => i + 1 + x) := by
    apply List.ext_getElem?
    intro k
    by_cases h1 : k < i
    · rw [List.getElem?_append_left (by simpa using h1), List.getElem?_range h1, List.getElem?_range (by omega)]
    · rw [List.getElem?_append_right (by simp; omega)]
      by_cases h2 : k = i
      · subst h2; simp [hi]
      · rw [List.length_range, show k - i = (k - i - 1) + 1 by omega, List.getElem?_cons_succ, List.getElem?_map]
        by_cases h3 : k < n
        · simp [h3, show k - i - 1 < n - i - 1 by omega]; omega
        · simp [show n ≤ k by omega, show n - i - 1 ≤ k - i - 1 by omega]
  rw [e, List.find?_append]
  have h0 : (List.range i).find? p = none := by
    rw [List.find?_eq_none]
    intro x hx
    simp [hb x (List.mem_range.1 hx)]
  rw [h0, List.find?_cons_of_pos hp]
  rfl
theorem find_range_none {n : Nat} {p : Nat → Bool} (hb : ∀ j, j < n → p j = false) : (List.range n).find? p = none := by
  rw [List.find?_eq_none]
  intro x hx
  simp [hb x (List.mem_range.1 hx)]
theorem turnF_hit (l : List Bool) (last : Int) (i : Nat) (hi : i < l.length) (hp : turnAt l (fromN l.length last) i = true) (hb : ∀ j, j < i → turnAt l (fromN l.length last) j = false) :
    turnF l last = (((fromN l.length last + 1 + i) % l.length : Nat) : Int) := by
  unfold turnF first; rw [find_range hi hp hb]
theorem turnF_miss (l : List Bool) (last : Int) (hb : ∀ j, j < l.length → turnAt l (fromN l.length last) j = false) : turnF l last = -1 := by
  unfold turnF first; rw [find_range_none hb]
/-- what a turn is -/
theorem turnF_cases (l : List Bool) (last : Int) : (turnF l last = -1 ∧ ∀ j, j < l.length → turnAt l (fromN l.length last) j = false) ∨
    ∃ i, i < l.length ∧ turnAt l (fromN l.length last) i = true ∧ (∀ j, j < i → turnAt l (fromN l.length last) j = false) ∧ turnF l last = (((fromN l.length last + 1 + i) % l.length : Nat) : Int) := by
  by_cases h : ∃ i, i < l.length ∧ turnAt l (fromN l.length last) i = true
  · right
    have : ∃ i, (i < l.length ∧ turnAt l (fromN l.length last) i = true) ∧ ∀ j, j < i → ¬ (j < l.length ∧ turnAt l (fromN l.length last) j = true) := by
      obtain ⟨i, hi⟩ := h
      induction i using Nat.strongRecOn with
      | _ i ih =>
        by_cases hj : ∃ j, j < i ∧ (j < l.length ∧ turnAt l (fromN l.length last) j = true)
        · obtain ⟨j, hj, hj2⟩ := hj; exact ih j hj hj2
        · exact ⟨i, hi, fun j hj2 hj3 => hj ⟨j, hj2, hj3⟩⟩
    obtain ⟨i, ⟨h1, h2⟩, h3⟩ := this
    have hb : ∀ j, j < i → turnAt l (fromN l.length last) j = false := fun j hj => by
      have := h3 j hj
      cases e : turnAt l (fromN l.length last) j
      · rfl
      · exact absurd ⟨by omega, e⟩ this
    exact ⟨i, h1, h2, hb, turnF_hit l last i h1 h2 hb⟩
  · left
    have hb : ∀ j, j < l.length → turnAt l (fromN l.length last) j = false := fun j hj => by
      cases e : turnAt l (fromN l.length last) j
      · rfl
      · exact absurd ⟨j, hj, e⟩ h
    exact ⟨turnF_miss l last hb, hb⟩
theorem from_lt (n : Nat) (last : Int) (h : 0 < n) : fromN n last < n := by
  unfold fromN; split <;> omega
theorem fromN_in (n : Nat) (a : Nat) (h : a < n) : fromN n (a : Int) = a := by
  unfold fromN; rw [if_neg (by omega)]; omega
/-- all of them are come to -/
theorem turn_all (n from_ k : Nat) (hf : from_ < n) (hk : k < n) : ∃ j, j < n ∧ (from_ + 1 + j) % n = k := by
  by_cases h : from_ < k
  · exact ⟨k - from_ - 1, by omega, by rw [show from_ + 1 + (k - from_ - 1) = k by omega, Nat.mod_eq_of_lt hk]⟩
  · exact ⟨n + k - from_ - 1, by omega, by rw [show from_ + 1 + (n + k - from_ - 1) = k + n by omega, Nat.add_mod_right, Nat.mod_eq_of_lt hk]⟩
theorem miss_all (l : List Bool) (from_ : Nat) (hf : from_ < l.length) (hb : ∀ j, j < l.length → turnAt l from_ j = false) : l.contains true = false := by
  cases e : l.contains true
  · rfl
  · rw [List.contains_iff_mem] at e
    obtain ⟨k, hk, hkt⟩ := List.mem_iff_getElem.1 e
    obtain ⟨j, hj, hjk⟩ := turn_all l.length from_ k hf hk
    have := hb j hj
    unfold turnAt at this
    rw [hjk, List.getD_eq_getElem?_getD, List.getElem?_eq_getElem hk] at this
    simp [hkt] at this
/-- who comes next lies before n, on the way round -/
theorem mod_step (n a b : Nat) (hn : 0 < n) (h1 : a < n) (h2 : b < n) (h : (a + 1) % n ≠ b) : (a + 1) % n < n := Nat.mod_lt _ hn
/-- how far from a to n, going up, at least one -/
def dist (len a n : Nat) : Nat := if a < n then n - a else len + n - a
theorem dist_pos (len a n : Nat) (ha : a < len) (hn : n < len) : 0 < dist len a n ∧ dist len a n ≤ len ∧ (a + dist len a n) % len = n := by
  unfold dist
  by_cases h : a < n
  · rw [if_pos h]; exact ⟨by omega, by omega, by rw [show a + (n - a) = n by omega, Nat.mod_eq_of_lt hn]⟩
  · rw [if_neg h]; exact ⟨by omega, by omega, by rw [show a + (len + n - a) = n + len by omega, Nat.add_mod_right, Nat.mod_eq_of_lt hn]⟩
theorem dist_step (len a n i : Nat) (ha : a < len) (hn : n < len) (hi : i + 1 < dist len a n) : dist len ((a + 1 + i) % len) n = dist len a n - (i + 1) := by
  unfold dist at *
  by_cases h : a < n
  · rw [if_pos h] at hi ⊢
    rw [Nat.mod_eq_of_lt (by omega), if_pos (by omega)]; omega
  · rw [if_neg h] at hi ⊢
    by_cases h2 : a + 1 + i < len
    · rw [Nat.mod_eq_of_lt h2, if_neg (by omega)]; omega
    · rw [show a + 1 + i = (a + 1 + i - len) + len by omega, Nat.add_mod_right, Nat.mod_eq_of_lt (by omega), if_pos (by omega)]; omega
/-- one turn from a place on the way round: it is n, or it is nearer -/
theorem turn_nearer (l : List Bool) (a n : Nat) (ha : a < l.length) (hn : n < l.length) (hl : l.getD n false = true) :
    turnF l a = (n : Int) ∨ ∃ b, b < l.length ∧ turnF l a = (b : Int) ∧ dist l.length b n < dist l.length a n := by
  obtain ⟨hd0, hd1, hd2⟩ := dist_pos l.length a n ha hn
  rcases turnF_cases l a with ⟨_, hb⟩ | ⟨i, hi, hp, hb, he⟩
  · rw [fromN_in _ _ ha] at hb
    have := hb (dist l.length a n - 1) (by omega)
    unfold turnAt at this
    rw [show a + 1 + (dist l.length a n - 1) = a + dist l.length a n by omega, hd2, hl] at this
    cases this
  · rw [fromN_in _ _ ha] at hp hb he
    have hle : i + 1 ≤ dist l.length a n := by
      rcases Nat.lt_or_ge (dist l.length a n) (i + 1) with h | h
      · have := hb (dist l.length a n - 1) (by omega)
        unfold turnAt at this
        rw [show a + 1 + (dist l.length a n - 1) = a + dist l.length a n by omega, hd2, hl] at this
        cases this
      · exact h
    by_cases e : i + 1 = dist l.length a n
    · left; rw [he, show a + 1 + i = a + dist l.length a n by omega, hd2]
    · right
      refine ⟨(a + 1 + i) % l.length, Nat.mod_lt _ (by omega), he, ?_⟩
      rw [dist_step _ _ _ _ ha hn (by omega)]; omega
theorem dist_self (len n : Nat) (h : n < len) : dist len n n = len := by unfold dist; rw [if_neg (by omega)]; omega
theorem mod_inj (n a i j : Nat) (hi : i < n) (hj : j < n) (h : (a + i) % n = (a + j) % n) : i = j := by
  have h1 := Nat.div_add_mod (a + i) n
  have h2 := Nat.div_add_mod (a + j) n
  rw [h] at h1
  generalize (a + j) % n = r at *
  generalize (a + i) / n = p at *
  generalize (a + j) / n = q at *
  rcases Nat.lt_trichotomy p q with hlt | rfl | hlt
  · have : n * p + n ≤ n * q := by rw [← Nat.mul_succ]; exact Nat.mul_le_mul_left n hlt
    omega
  · omega
  · have : n * q + n ≤ n * p := by rw [← Nat.mul_succ]; exact Nat.mul_le_mul_left n hlt
    omega
end Go.Proofs.Ytbgamboahifnoaa.dealL
