/- Regular expressions: what rex.Check computes, and what expressions mean; no program in sight. -/
import Derived.Test.YtbiacehgfmgfdaaDoorClassR
namespace Go.Proofs.YtbiacehgfmgfdaaDoor.rexL
open classL
inductive Rx where
  | mk (kind : Int) (c : C4) (kids : List Rx)
def Rx.kind : Rx → Int | .mk k _ _ => k
def Rx.cls : Rx → C4 | .mk _ c _ => c
def Rx.kids : Rx → List Rx | .mk _ _ l => l
def kidsN (k : Int) : Int := if k = 1 then 0 else if k = 2 then 0 else if k = 3 then 0 else if k = 6 then 1 else if k = 4 then 2 else if k = 5 then 2 else -1
mutual
/-- Check at a node: the error, how many nodes -/
def chk : Rx → Nat → Nat → Int × Nat
  | .mk k c l, deep, n => if 100 < n + 1 then (2, n + 1) else if 30 < deep then (7, n + 1) else if kidsN k ≠ (l.length : Int) then (1, n + 1) else if (decide (k = 3) != decide (c ≠ C4.zero)) = true then (1, n + 1) else chks l (deep + 1) (n + 1)
def chks : List Rx → Nat → Nat → Int × Nat
  | [], _, n => (0, n)
  | r :: l, deep, n => if (chk r deep n).1 ≠ 0 then chk r deep n else chks l deep (chk r deep n).2
end
mutual
def sizeX : Rx → Nat
  | .mk _ _ l => sizesX l + 1
def sizesX : List Rx → Nat
  | [] => 0
  | r :: l => sizeX r + sizesX l
end
theorem sizeX_pos (r : Rx) : 0 < sizeX r := by obtain ⟨k, c, l⟩ := r; rw [sizeX]; omega
theorem sizesX_mem : ∀ {l : List Rx} {r : Rx}, r ∈ l → sizeX r ≤ sizesX l
  | x :: l, r, h => by
    rw [sizesX]
    rcases List.mem_cons.1 h with rfl | h
    · omega
    · have := sizesX_mem h; omega
/-! ### expressions that are as they should be -/
inductive Re where
  | none
  | empty
  | byte (c : C4)
  | cat (a b : Re)
  | alt (a b : Re)
  | star (a : Re)
def Re.size : Re → Nat
  | .cat a b => a.size + b.size + 1
  | .alt a b => a.size + b.size + 1
  | .star a => a.size + 1
  | _ => 1
def Re.hgt : Re → Nat
  | .cat a b => max a.hgt b.hgt + 1
  | .alt a b => max a.hgt b.hgt + 1
  | .star a => a.hgt + 1
  | _ => 1
def Re.nz : Re → Prop
  | .byte c => c ≠ C4.zero
  | .cat a b => a.nz ∧ b.nz
  | .alt a b => a.nz ∧ b.nz
  | .star a => a.nz
  | _ => True
def Re.kind : Re → Int
  | .none => 1
  | .empty => 2
  | .byte _ => 3
  | .cat _ _ => 4
  | .alt _ _ => 5
  | .star _ => 6
def Re.cls : Re → C4
  | .byte c => c
  | _ => C4.zero
def Re.kids : Re → List Re
  | .cat a b => [a, b]
  | .alt a b => [a, b]
  | .star a => [a]
  | _ => []
def emb : Re → Rx
  | .none => .mk 1 C4.zero []
  | .empty => .mk 2 C4.zero []
  | .byte c => .mk 3 c []
  | .cat a b => .mk 4 C4.zero [emb a, emb b]
  | .alt a b => .mk 5 C4.zero [emb a, emb b]
  | .star a => .mk 6 C4.zero [emb a]
theorem emb_eq (r : Re) : emb r = .mk r.kind r.cls (r.kids.map emb) := by cases r <;> rfl
theorem Re.size_pos (r : Re) : 0 < r.size := by cases r <;> simp [Re.size]
theorem Re.hgt_pos (r : Re) : 0 < r.hgt := by cases r <;> simp [Re.hgt]
theorem len_two {α : Type} {l : List α} (h : l.length = 2) : ∃ a b, l = [a, b] :=
  match l, h with
  | [a, b], _ => ⟨a, b, rfl⟩
/-- what Check wants -/
structure Fit (r : Re) (deep n : Nat) : Prop where
  nz : r.nz
  sz : n + r.size ≤ 100
  dp : deep + r.hgt ≤ 31
theorem chk_pair {p : Int × Nat} {q : Nat} (h : p = (0, q)) : p.1 = 0 ∧ p.2 = q := by subst h; exact ⟨rfl, rfl⟩
theorem chk_fit : ∀ (N : Nat) (r : Rx) (deep n q : Nat), sizeX r ≤ N → chk r deep n = (0, q) → ∃ e : Re, r = emb e ∧ Fit e deep n ∧ q = n + e.size
  | 0, r, _, _, _, h, _ => by have := sizeX_pos r; omega
  | N + 1, .mk k c l, deep, n, q, hN, h => by
    have IH := chk_fit N
    rw [sizeX] at hN
    rw [chk] at h
    split at h
    · simp at h
    split at h
    · simp at h
    split at h
    · simp at h
    split at h
    · simp at h
    rename_i h1 h2 h3 h4
    have h3 : kidsN k = (l.length : Int) := by simpa using h3
    have h4 : decide (k = 3) = decide (c ≠ C4.zero) := by
      generalize decide (k = 3) = x at *
      generalize decide (c ≠ C4.zero) = y at *
      cases x <;> cases y <;> simp_all
    have leaf : ∀ e : Re, k = e.kind → c = e.cls → l = [] → e.kids = [] → e.size = 1 → e.hgt = 1 → e.nz → ∃ e : Re, Rx.mk k c l = emb e ∧ Fit e deep n ∧ q = n + e.size := fun e a1 a2 a3 a4 a5 a6 a7 => by
      subst a1 a2 a3
      rw [chks] at h
      refine ⟨e, by rw [emb_eq, a4]; rfl, ⟨a7, by omega, by omega⟩, ?_⟩
      simp at h; omega
    unfold kidsN at h3
    have hz : k ≠ 3 → c = C4.zero := fun hk => by
      rw [decide_eq_false hk] at h4
      exact Classical.byContradiction fun hc => by rw [decide_eq_true hc] at h4; cases h4
    by_cases k1 : k = 1
    · rw [if_pos k1] at h3
      exact leaf .none k1 (hz (by omega)) (List.eq_nil_of_length_eq_zero (by omega)) rfl rfl rfl trivial
    rw [if_neg k1] at h3
    by_cases k2 : k = 2
    · rw [if_pos k2] at h3
      exact leaf .empty k2 (hz (by omega)) (List.eq_nil_of_length_eq_zero (by omega)) rfl rfl rfl trivial
    rw [if_neg k2] at h3
    by_cases k3 : k = 3
    · rw [if_pos k3] at h3
      rw [decide_eq_true k3] at h4
      exact leaf (.byte c) k3 rfl (List.eq_nil_of_length_eq_zero (by omega)) rfl rfl rfl (by show c ≠ C4.zero; exact of_decide_eq_true h4.symm)
    rw [if_neg k3] at h3
    have hc := hz k3
    subst hc
    have two : ∀ (a b : Rx), l = [a, b] → ∃ x y : Re, a = emb x ∧ b = emb y ∧ Fit x (deep + 1) (n + 1) ∧ Fit y (deep + 1) (n + 1 + x.size) ∧ q = n + 1 + x.size + y.size := fun a b hl => by
      subst hl
      rw [sizesX, sizesX, sizesX] at hN
      rw [chks, chks, chks] at h
      by_cases e1 : (chk a (deep + 1) (n + 1)).1 = 0
      · rw [if_neg (by simpa using e1)] at h
        obtain ⟨x, rfl, f1, g1⟩ := IH a (deep + 1) (n + 1) (chk a (deep + 1) (n + 1)).2 (by omega) (Prod.ext e1 rfl)
        rw [g1] at h
        by_cases e2 : (chk b (deep + 1) (n + 1 + x.size)).1 = 0
        · rw [if_neg (by simpa using e2)] at h
          obtain ⟨y, rfl, f2, g2⟩ := IH b (deep + 1) (n + 1 + x.size) (chk b (deep + 1) (n + 1 + x.size)).2 (by omega) (Prod.ext e2 rfl)
          exact ⟨x, y, rfl, rfl, f1, f2, by rw [g2] at h; simp at h; omega⟩
        · rw [if_pos e2] at h
          exact absurd (chk_pair h).1 e2
      · rw [if_pos e1] at h
        exact absurd (chk_pair h).1 e1
    by_cases k6 : k = 6
    · rw [if_pos k6] at h3
      obtain ⟨a, rfl⟩ : ∃ a, l = [a] := List.length_eq_one_iff.1 (by omega)
      rw [sizesX, sizesX] at hN
      rw [chks, chks] at h
      by_cases e1 : (chk a (deep + 1) (n + 1)).1 = 0
      · rw [if_neg (by simpa using e1)] at h
        obtain ⟨x, rfl, f1, g1⟩ := IH a (deep + 1) (n + 1) (chk a (deep + 1) (n + 1)).2 (by omega) (Prod.ext e1 rfl)
        have := f1.sz
        have := f1.dp
        exact ⟨.star x, by rw [k6]; rfl, ⟨f1.nz, by simp only [Re.size]; omega, by simp only [Re.hgt]; omega⟩, by rw [g1] at h; simp at h; simp only [Re.size]; omega⟩
      · rw [if_pos e1] at h
        exact absurd (chk_pair h).1 e1
    rw [if_neg k6] at h3
    by_cases k4 : k = 4
    · rw [if_pos k4] at h3
      obtain ⟨a, b, rfl⟩ : ∃ a b, l = [a, b] := len_two (by omega)
      obtain ⟨x, y, rfl, rfl, f1, f2, g⟩ := two a b rfl
      have := f1.dp
      have := f2.dp
      have := f2.sz
      exact ⟨.cat x y, by rw [k4]; rfl, ⟨⟨f1.nz, f2.nz⟩, by simp only [Re.size]; omega, by simp only [Re.hgt]; omega⟩, by simp only [Re.size]; omega⟩
    rw [if_neg k4] at h3
    by_cases k5 : k = 5
    · rw [if_pos k5] at h3
      obtain ⟨a, b, rfl⟩ : ∃ a b, l = [a, b] := len_two (by omega)
      obtain ⟨x, y, rfl, rfl, f1, f2, g⟩ := two a b rfl
      have := f1.dp
      have := f2.dp
      have := f2.sz
      exact ⟨.alt x y, by rw [k5]; rfl, ⟨⟨f1.nz, f2.nz⟩, by simp only [Re.size]; omega, by simp only [Re.hgt]; omega⟩, by simp only [Re.size]; omega⟩
    rw [if_neg k5] at h3
    omega
theorem fit_chk : ∀ (e : Re) (deep n : Nat), Fit e deep n → chk (emb e) deep n = (0, n + e.size)
  | .none, deep, n, h => by
    have := h.sz; have := h.dp
    simp only [Re.size, Re.hgt] at *
    rw [emb, chk, if_neg (by omega), if_neg (by omega), if_neg (by decide), if_neg (by decide), chks]
  | .empty, deep, n, h => by
    have := h.sz; have := h.dp
    simp only [Re.size, Re.hgt] at *
    rw [emb, chk, if_neg (by omega), if_neg (by omega), if_neg (by decide), if_neg (by decide), chks]
  | .byte c, deep, n, h => by
    have h1 := h.sz; have h2 := h.dp
    have h3 : c ≠ C4.zero := h.nz
    simp only [Re.size, Re.hgt] at *
    rw [emb, chk, if_neg (by omega), if_neg (by omega), if_neg (by show ¬ ((0 : Int) ≠ 0); simp), if_neg (by rw [decide_eq_true h3]; decide), chks]
  | .star a, deep, n, h => by
    have h1 := h.sz; have h2 := h.dp
    simp only [Re.size, Re.hgt] at *
    have e := fit_chk a (deep + 1) (n + 1) ⟨h.nz, by omega, by omega⟩
    have := a.hgt_pos
    have := a.size_pos
    rw [emb, chk, if_neg (by omega), if_neg (by omega), if_neg (by show ¬ ((1 : Int) ≠ 1); simp), if_neg (by decide), chks, e, if_neg (by simp), chks]
    simp; omega
  | .cat a b, deep, n, h => by
    have h1 := h.sz; have h2 := h.dp
    simp only [Re.size, Re.hgt] at *
    have := a.hgt_pos
    have := a.size_pos
    have := b.size_pos
    have e := fit_chk a (deep + 1) (n + 1) ⟨h.nz.1, by omega, by omega⟩
    have e' := fit_chk b (deep + 1) (n + 1 + a.size) ⟨h.nz.2, by omega, by omega⟩
    rw [emb, chk, if_neg (by omega), if_neg (by omega), if_neg (by show ¬ ((2 : Int) ≠ 2); simp), if_neg (by decide), chks, e, if_neg (by simp), chks, e', if_neg (by simp), chks]
    simp; omega
  | .alt a b, deep, n, h => by
    have h1 := h.sz; have h2 := h.dp
    simp only [Re.size, Re.hgt] at *
    have := a.hgt_pos
    have := a.size_pos
    have := b.size_pos
    have e := fit_chk a (deep + 1) (n + 1) ⟨h.nz.1, by omega, by omega⟩
    have e' := fit_chk b (deep + 1) (n + 1 + a.size) ⟨h.nz.2, by omega, by omega⟩
    rw [emb, chk, if_neg (by omega), if_neg (by omega), if_neg (by show ¬ ((2 : Int) ≠ 2); simp), if_neg (by decide), chks, e, if_neg (by simp), chks, e', if_neg (by simp), chks]
    simp; omega
/-! ### what expressions mean -/
inductive Star (P : List UInt8 → Prop) : List UInt8 → Prop
  | nil : Star P []
  | cons {u v : List UInt8} : P u → Star P v → Star P (u ++ v)
def Lang : Re → List UInt8 → Prop
  | .none, _ => False
  | .empty, s => s = []
  | .byte c, s => ∃ b : UInt8, s = [b] ∧ c.mem b.toNat = true
  | .cat a b, s => ∃ u v, s = u ++ v ∧ Lang a u ∧ Lang b v
  | .alt a b, s => Lang a s ∨ Lang b s
  | .star a, s => Star (Lang a) s
theorem star_snoc {P : List UInt8 → Prop} {u v : List UInt8} (h : Star P u) (hv : P v) : Star P (u ++ v) := by
  induction h with
  | nil => have := Star.cons hv .nil; simpa using this
  | cons h1 _ ih => rw [List.append_assoc]; exact .cons h1 ih
theorem star_app {P : List UInt8 → Prop} {u v : List UInt8} (h : Star P u) (hv : Star P v) : Star P (u ++ v) := by
  induction h with
  | nil => simpa using hv
  | cons h1 _ ih => rw [List.append_assoc]; exact .cons h1 ih
def seg (s : List UInt8) (f j : Nat) : List UInt8 := (s.drop f).take (j - f)
theorem seg_len {s : List UInt8} {f j : Nat} (h : j ≤ s.length) : (seg s f j).length = j - f := by unfold seg; rw [List.length_take, List.length_drop]; omega
theorem seg_self (s : List UInt8) (f : Nat) : seg s f f = [] := by unfold seg; simp
theorem seg_app {s : List UInt8} {f i j : Nat} (h1 : f ≤ i) (h2 : i ≤ j) : seg s f j = seg s f i ++ seg s i j := by
  unfold seg
  rw [show j - f = (i - f) + (j - i) by omega, List.take_add, List.drop_drop, show f + (i - f) = i by omega]
theorem seg_cut {s u v : List UInt8} {f j : Nat} (hf : f ≤ j) (hj : j ≤ s.length) (h : seg s f j = u ++ v) : f + u.length ≤ j ∧ u = seg s f (f + u.length) ∧ v = seg s (f + u.length) j := by
  have hl := seg_len (s := s) (f := f) hj
  rw [h, List.length_append] at hl
  have h1 : f + u.length ≤ j := by omega
  have e := seg_app (s := s) (f := f) (i := f + u.length) (j := j) (by omega) h1
  rw [h] at e
  have hlu : u.length = (seg s f (f + u.length)).length := by rw [seg_len (by omega)]; omega
  have := List.append_inj e hlu
  exact ⟨h1, this.1, this.2⟩
theorem seg_all (s : List UInt8) : seg s 0 s.length = s := by unfold seg; simp
def EndP (r : Re) (s : List UInt8) (f j : Nat) : Prop := f ≤ j ∧ j ≤ s.length ∧ Lang r (seg s f j)
theorem end_cat {a b : Re} {s : List UInt8} {f j : Nat} : EndP (.cat a b) s f j ↔ ∃ i, EndP a s f i ∧ EndP b s i j := by
  constructor
  · rintro ⟨h1, h2, u, v, h3, h4, h5⟩
    obtain ⟨a1, a2, a3⟩ := seg_cut h1 h2 h3
    exact ⟨f + u.length, ⟨by omega, by omega, by rw [← a2]; exact h4⟩, a1, h2, by rw [← a3]; exact h5⟩
  · rintro ⟨i, ⟨h1, h2, h3⟩, h4, h5, h6⟩
    exact ⟨by omega, h5, _, _, seg_app h1 h4, h3, h6⟩
theorem end_alt {a b : Re} {s : List UInt8} {f j : Nat} : EndP (.alt a b) s f j ↔ EndP a s f j ∨ EndP b s f j := by
  constructor
  · rintro ⟨h1, h2, h | h⟩
    · exact .inl ⟨h1, h2, h⟩
    · exact .inr ⟨h1, h2, h⟩
  · rintro (⟨h1, h2, h⟩ | ⟨h1, h2, h⟩)
    · exact ⟨h1, h2, .inl h⟩
    · exact ⟨h1, h2, .inr h⟩
theorem end_empty {s : List UInt8} {f j : Nat} (hf : f ≤ s.length) : EndP .empty s f j ↔ j = f := by
  constructor
  · rintro ⟨h1, h2, h⟩
    have h : seg s f j = [] := h
    have := seg_len (s := s) (f := f) h2
    rw [h] at this
    simp at this; omega
  · rintro rfl
    exact ⟨Nat.le_refl _, hf, seg_self s j⟩
theorem end_byte {c : C4} {s : List UInt8} {f j : Nat} : EndP (.byte c) s f j ↔ ∃ h : f < s.length, j = f + 1 ∧ c.mem (s[f]).toNat = true := by
  constructor
  · rintro ⟨h1, h2, b, h3, h4⟩
    have hl := seg_len (s := s) (f := f) h2
    rw [h3] at hl
    have hj : j = f + 1 := by simp at hl; omega
    subst hj
    have hf : f < s.length := by omega
    refine ⟨hf, rfl, ?_⟩
    have e : seg s f (f + 1) = [s[f]] := by
      unfold seg
      rw [show f + 1 - f = 1 by omega, List.drop_eq_getElem_cons hf]; rfl
    rw [e] at h3
    have := List.head_eq_of_cons_eq h3
    rw [this]; exact h4
  · rintro ⟨hf, rfl, h⟩
    refine ⟨by omega, by omega, s[f], ?_, h⟩
    unfold seg
    rw [show f + 1 - f = 1 by omega, List.drop_eq_getElem_cons hf]; rfl
/-- step by step -/
inductive Rch (R : Nat → Nat → Prop) (f : Nat) : Nat → Prop
  | refl : Rch R f f
  | step {i j : Nat} : Rch R f i → R i j → Rch R f j
theorem Rch.cons {R : Nat → Nat → Prop} {f i j : Nat} (h : R f i) (h' : Rch R i j) : Rch R f j := by
  induction h' with
  | refl => exact .step .refl h
  | step _ h2 ih => exact .step ih h2
theorem end_star {a : Re} {s : List UInt8} {f j : Nat} (hf : f ≤ s.length) : EndP (.star a) s f j ↔ Rch (EndP a s) f j := by
  constructor
  · rintro ⟨h1, h2, h⟩
    have h : Star (Lang a) (seg s f j) := h
    have aux : ∀ w, Star (Lang a) w → ∀ f, f ≤ j → seg s f j = w → Rch (EndP a s) f j := by
      intro w hw
      induction hw with
      | nil =>
        intro f hf' e
        have := seg_len (s := s) (f := f) h2
        rw [e] at this
        have : f = j := by simp at this; omega
        subst this; exact .refl
      | cons hu _ ih =>
        intro f hf' e
        obtain ⟨a1, a2, a3⟩ := seg_cut hf' h2 e
        exact Rch.cons ⟨Nat.le_add_right _ _, by omega, by rw [← a2]; exact hu⟩ (ih _ a1 a3.symm)
    exact aux _ h f h1 rfl
  · intro h
    induction h with
    | refl => exact ⟨Nat.le_refl _, hf, by rw [seg_self]; exact Star.nil⟩
    | step _ h2 ih =>
      obtain ⟨a1, a2, a3⟩ := ih
      obtain ⟨b1, b2, b3⟩ := h2
      exact ⟨by omega, b2, by rw [seg_app a1 b1]; exact star_snoc a3 b3⟩
def EndC (s : List UInt8) (r : Re) (f : Nat) (c : C4) : Prop := ∀ j, j < 256 → (c.mem j = true ↔ EndP r s f j)
def EachC (s : List UInt8) (r : Re) (X c : C4) : Prop := ∀ j, j < 256 → (c.mem j = true ↔ ∃ f, f < 256 ∧ X.mem f = true ∧ EndP r s f j)
end Go.Proofs.YtbiacehgfmgfdaaDoor.rexL
