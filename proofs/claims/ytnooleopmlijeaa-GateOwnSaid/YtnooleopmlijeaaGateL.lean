/- Events and their texts: no program in sight. -/
import Derived.Test.YtnooleopmlijeaaPackL
namespace Go.Proofs.Ytnooleopmlijeaa.gateL
open packL
abbrev Ev := Int × Int
/-- is it no event? -/
def odd (x : Ev) : Bool := decide (x.1 < 1) || decide (4 < x.1) || decide (x.2 < 0) || decide (1099511627776 < x.2)
theorem odd_no {x : Ev} (h : odd x = false) : 1 ≤ x.1 ∧ x.1 ≤ 4 ∧ 0 ≤ x.2 ∧ x.2 ≤ 1099511627776 := by
  simp only [odd, Bool.or_eq_false_iff, decide_eq_false_iff_not] at h
  omega
def evL (x : Ev) : List UInt8 := UInt8.ofNat x.1.toNat :: numL x.2.toNat
def evsL (l : List Ev) : List UInt8 := l.flatMap evL
/-- gate.Pack -/
def packF (l : List Ev) : List UInt8 × Int := if l.any odd then ([], 1) else if 1024 < (evsL l).length then ([], 2) else (evsL l, 0)
/-- gate.Unpack, from a place on -/
def unGo : Nat → List UInt8 → List Ev → List Ev × Int
  | 0, _, _ => ([], 0)
  | f + 1, s, o => match s with
    | [] => (o, 0)
    | b :: r => if b.toNat < 1 ∨ 4 < b.toNat then ([], 1) else if (readF r).2.2 ≠ 0 then ([], (readF r).2.2) else if 1099511627776 < (readF r).1 then ([], 1)
      else unGo f (r.drop (readF r).2.1) (o ++ [((b.toNat : Int), ((readF r).1 : Int))])
def unL (s : List UInt8) (o : List Ev) := unGo (s.length + 1) s o
def unF (s : List UInt8) : List Ev × Int := if 1024 < s.length then ([], 2) else unL s []
theorem unGo_fuel : ∀ (f g : Nat) (s : List UInt8) (o : List Ev), s.length < f → s.length < g → unGo f s o = unGo g s o
  | 0, _, _, _, h, _ => by omega
  | _, 0, _, _, _, h => by omega
  | f + 1, g + 1, s, o, h1, h2 => by
    cases s with
    | nil => rfl
    | cons b r =>
      simp only [unGo]
      split
      · rfl
      · split
        · rfl
        · split
          · rfl
          · simp only [List.length_cons] at h1 h2
            exact unGo_fuel f g _ _ (by simp; omega) (by simp; omega)
theorem unL_nil (o : List Ev) : unL [] o = (o, 0) := rfl
theorem unL_next {b : UInt8} {r : List UInt8} {o : List Ev} (h0 : 1 ≤ b.toNat) (h1 : b.toNat ≤ 4) (h2 : (readF r).2.2 = 0) (h3 : (readF r).1 ≤ 1099511627776) : unL (b :: r) o = unL (r.drop (readF r).2.1) (o ++ [((b.toNat : Int), ((readF r).1 : Int))]) := by
  unfold unL
  rw [unGo, if_neg (by omega), if_neg (by simp [h2]), if_neg (by omega)]
  exact unGo_fuel _ _ _ _ (by simp; omega) (by simp)
theorem unL_bad {b : UInt8} {r : List UInt8} {o : List Ev} (h : b.toNat < 1 ∨ 4 < b.toNat) : unL (b :: r) o = ([], 1) := by
  unfold unL; rw [unGo, if_pos h]
theorem unL_err {b : UInt8} {r : List UInt8} {o : List Ev} (h0 : 1 ≤ b.toNat) (h1 : b.toNat ≤ 4) (h : (readF r).2.2 ≠ 0) : unL (b :: r) o = ([], (readF r).2.2) := by
  unfold unL; rw [unGo, if_neg (by omega), if_pos h]
theorem unL_far {b : UInt8} {r : List UInt8} {o : List Ev} (h0 : 1 ≤ b.toNat) (h1 : b.toNat ≤ 4) (h2 : (readF r).2.2 = 0) (h : 1099511627776 < (readF r).1) : unL (b :: r) o = ([], 1) := by
  unfold unL; rw [unGo, if_neg (by omega), if_neg (by simp [h2]), if_pos h]
/-- what is packed is unpacked -/
theorem un_pack : ∀ (l o : List Ev), l.any odd = false → unL (evsL l) o = (o ++ l, 0)
  | [], o, _ => by simp [evsL, unL_nil]
  | x :: l, o, h => by
    simp only [List.any_cons, Bool.or_eq_false_iff] at h
    obtain ⟨a, b, c, d⟩ := odd_no h.1
    have hb : (UInt8.ofNat x.1.toNat).toNat = x.1.toNat := by rw [ofNat_toNat (by omega)]
    have hr : readF (numL x.2.toNat ++ evsL l) = (x.2.toNat, (numL x.2.toNat).length, 0) := readF_num (by omega) _
    show unL (UInt8.ofNat x.1.toNat :: (numL x.2.toNat ++ evsL l)) o = _
    rw [unL_next (by omega) (by omega) (by rw [hr]) (by rw [hr]; simp only; omega), hr, hb]
    simp only [List.drop_left']
    rw [un_pack l _ h.2]
    have e : (((x.1.toNat : Nat) : Int), ((x.2.toNat : Nat) : Int)) = x := by
      obtain ⟨p, q⟩ := x
      simp only at a b c d ⊢
      rw [Int.toNat_of_nonneg (by omega), Int.toNat_of_nonneg c]
    rw [e]; simp
theorem evs_inj {l m : List Ev} (hl : l.any odd = false) (hm : m.any odd = false) (h : evsL l = evsL m) : l = m := by
  have h1 := un_pack l [] hl
  have h2 := un_pack m [] hm
  rw [h, h2] at h1
  simpa using (congrArg Prod.fst h1).symm
/-- what is unpacked is packed as it stood -/
theorem un_back : ∀ (n : Nat) (s : List UInt8) (o r : List Ev), s.length ≤ n → unL s o = (r, 0) → ∃ l, r = o ++ l ∧ l.any odd = false ∧ evsL l = s
  | n, [], o, r, _, h => by
    rw [unL_nil] at h
    simp only [Prod.mk.injEq, and_true] at h
    exact ⟨[], by simp [h], rfl, rfl⟩
  | 0, b :: s, _, _, hn, _ => by simp at hn
  | n + 1, b :: s, o, r, hn, h => by
    simp only [List.length_cons] at hn
    by_cases c1 : b.toNat < 1 ∨ 4 < b.toNat
    · rw [unL_bad c1] at h; simp at h
    by_cases c2 : (readF s).2.2 = 0
    · by_cases c3 : 1099511627776 < (readF s).1
      · rw [unL_far (by omega) (by omega) c2 c3] at h; simp at h
      rw [unL_next (by omega) (by omega) c2 (by omega)] at h
      obtain ⟨l, h1, h2, h3⟩ := un_back n _ _ r (by simp; omega) h
      obtain ⟨b1, b2, b3, b4⟩ := readF_back (s := s) (n := (readF s).1) (k := (readF s).2.1) (by rw [← c2])
      refine ⟨((b.toNat : Int), ((readF s).1 : Int)) :: l, by rw [h1]; simp, ?_, ?_⟩
      · rw [List.any_cons, h2, Bool.or_false]
        simp only [odd, Bool.or_eq_false_iff, decide_eq_false_iff_not]
        omega
      · show evL ((b.toNat : Int), ((readF s).1 : Int)) ++ evsL l = b :: s
        rw [h3]
        simp only [evL, Int.toNat_natCast, List.cons_append, b3, List.take_append_drop]
        congr 1
        apply UInt8.toNat_inj.1
        rw [ofNat_toNat (by have := b.toNat_lt; omega)]
    · rw [unL_err (by omega) (by omega) c2] at h
      simp only [Prod.mk.injEq] at h
      exact absurd h.2 c2
theorem unL_nil_err : ∀ (n : Nat) (s : List UInt8) (o : List Ev), s.length ≤ n → (unL s o).2 ≠ 0 → (unL s o).1 = []
  | n, [], o, _, h => by simp [unL_nil] at h
  | 0, b :: s, _, hn, _ => by simp at hn
  | n + 1, b :: s, o, hn, h => by
    simp only [List.length_cons] at hn
    by_cases c1 : b.toNat < 1 ∨ 4 < b.toNat
    · rw [unL_bad c1]
    by_cases c2 : (readF s).2.2 = 0
    · by_cases c3 : 1099511627776 < (readF s).1
      · rw [unL_far (by omega) (by omega) c2 c3]
      rw [unL_next (by omega) (by omega) c2 (by omega)] at h ⊢
      exact unL_nil_err n _ _ (by simp; omega) h
    · rw [unL_err (by omega) (by omega) c2]
theorem unF_err {s : List UInt8} (h : (unF s).2 ≠ 0) : (unF s).1 = [] := by
  unfold unF at h ⊢
  split
  · rfl
  · rename_i c; rw [if_neg c] at h; exact unL_nil_err _ _ _ (Nat.le_refl _) h
theorem unF_back {s : List UInt8} (h : (unF s).2 = 0) : packF (unF s).1 = (s, 0) := by
  unfold unF at h ⊢
  split at h
  · simp at h
  · rename_i c
    rw [if_neg c]
    obtain ⟨l, h1, h2, h3⟩ := un_back _ s [] (unL s []).1 (Nat.le_refl _) (by rw [← h])
    rw [h1, List.nil_append]
    unfold packF
    rw [if_neg (by simp [h2]), h3, if_neg c]
theorem packF_ok {l : List Ev} (h : (packF l).2 = 0) : l.any odd = false ∧ (evsL l).length ≤ 1024 ∧ (packF l).1 = evsL l := by
  unfold packF at h ⊢
  split at h
  · simp at h
  · rename_i c1
    split at h
    · simp at h
    · rename_i c2
      rw [if_neg c1, if_neg c2]
      exact ⟨by simpa using c1, by omega, rfl⟩
theorem packF_err {l : List Ev} (h : (packF l).2 ≠ 0) : (packF l).1 = [] := by
  unfold packF at h ⊢
  split
  · rfl
  · rename_i c; rw [if_neg c] at h; split
    · rfl
    · rename_i c2; rw [if_neg c2] at h; simp at h
theorem unF_pack {l : List Ev} (h : (packF l).2 = 0) : unF (packF l).1 = (l, 0) := by
  obtain ⟨h1, h2, h3⟩ := packF_ok h
  rw [h3]
  unfold unF
  rw [if_neg (by omega), un_pack l [] h1]; simp
theorem unL_len : ∀ (n : Nat) (s : List UInt8) (o : List Ev), s.length ≤ n → (unL s o).1.length ≤ o.length + s.length
  | n, [], o, _ => by simp [unL_nil]
  | 0, b :: s, _, hn => by simp at hn
  | n + 1, b :: s, o, hn => by
    simp only [List.length_cons] at hn
    by_cases c1 : b.toNat < 1 ∨ 4 < b.toNat
    · rw [unL_bad c1]; simp
    by_cases c2 : (readF s).2.2 = 0
    · by_cases c3 : 1099511627776 < (readF s).1
      · rw [unL_far (by omega) (by omega) c2 c3]; simp
      rw [unL_next (by omega) (by omega) c2 (by omega)]
      have := unL_len n (s.drop (readF s).2.1) (o ++ [((b.toNat : Int), ((readF s).1 : Int))]) (by simp; omega)
      simp at this ⊢; omega
    · rw [unL_err (by omega) (by omega) c2]; simp
end Go.Proofs.Ytnooleopmlijeaa.gateL
