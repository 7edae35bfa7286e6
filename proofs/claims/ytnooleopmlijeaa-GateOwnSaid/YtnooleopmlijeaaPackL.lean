/- Numbers and texts as bytes: no program in sight. -/
import Derived.Laws.Entries
import Derived.Laws.BitsAllLaws
import Derived.Laws.BitsLemmas
namespace Go.Proofs.Ytnooleopmlijeaa.packL
/-- pack.Num -/
def numL (n : Nat) : List UInt8 := if n < 128 then [UInt8.ofNat n] else UInt8.ofNat (n % 128 + 128) :: numL (n / 128)
termination_by n
decreasing_by omega
theorem numL_small {n : Nat} (h : n < 128) : numL n = [UInt8.ofNat n] := by rw [numL, if_pos h]
theorem numL_big {n : Nat} (h : ¬ n < 128) : numL n = UInt8.ofNat (n % 128 + 128) :: numL (n / 128) := by rw [numL, if_neg h]
theorem numL_pos (n : Nat) : 1 ≤ (numL n).length := by
  by_cases h : n < 128
  · rw [numL_small h]; simp
  · rw [numL_big h]; simp
theorem numL_le : ∀ (k n : Nat), n < 128 ^ (k + 1) → (numL n).length ≤ k + 1
  | 0, n, h => by rw [numL_small (by simpa using h)]; simp
  | k + 1, n, h => by
    by_cases c : n < 128
    · rw [numL_small c]; simp
    · rw [numL_big c, List.length_cons]
      have := numL_le k (n / 128) (by rw [Nat.pow_succ] at h; omega)
      omega
theorem numL_len {n : Nat} (h : n < 18446744073709551616) : (numL n).length ≤ 10 := numL_le 9 n (by omega)
/-- no fewer bytes for a greater one -/
theorem numL_mono : ∀ (a b : Nat), a ≤ b → (numL a).length ≤ (numL b).length := by
  intro a
  induction a using Nat.strongRecOn with
  | _ a ih =>
    intro b h
    by_cases c : a < 128
    · rw [numL_small c]; exact numL_pos b
    · rw [numL_big c, numL_big (by omega : ¬ b < 128)]
      have := ih (a / 128) (by omega) (b / 128) (by omega)
      simp; omega
/-- pack.ReadNum, from its byte number i on -/
def readGo : Nat → Nat → List UInt8 → Nat × Nat × Int
  | i, _, [] => if 10 ≤ i then (0, 0, 4) else (0, 0, 3)
  | i, a, b :: r => if 10 ≤ i then (0, 0, 4) else if 128 ≤ b.toNat then readGo (i + 1) ((a + b.toNat % 128 * 128 ^ i) % 18446744073709551616) r else
      if (b.toNat = 0 ∧ 0 < i) ∨ (i = 9 ∧ 1 < b.toNat) then (0, 0, 4) else ((a + b.toNat % 128 * 128 ^ i) % 18446744073709551616, i + 1, 0)
def readF (s : List UInt8) : Nat × Nat × Int := readGo 0 0 s
theorem ofNat_toNat {n : Nat} (h : n < 256) : (UInt8.ofNat n).toNat = n := by simp; omega
theorem pow_le9 {i : Nat} (h : i ≤ 9) : 128 ^ i ≤ 9223372036854775808 := by
  have : 128 ^ i ≤ 128 ^ 9 := Nat.pow_le_pow_right (by decide) h
  omega
theorem pow_pos128 (i : Nat) : 0 < 128 ^ i := Nat.pow_pos (by decide)
/-- what is written is read, whatever stands behind -/
theorem readGo_num : ∀ (x i a : Nat) (more : List UInt8), a + x * 128 ^ i < 18446744073709551616 → i + (numL x).length ≤ 10 → (0 < i → 0 < x) → readGo i a (numL x ++ more) = (a + x * 128 ^ i, i + (numL x).length, 0) := by
  intro x
  induction x using Nat.strongRecOn with
  | _ x ih =>
    intro i a more h1 h2 h3
    have hp := numL_pos x
    have h10 : ¬ 10 ≤ i := by omega
    by_cases c : x < 128
    · rw [numL_small c]
      simp only [List.cons_append, List.nil_append, readGo, if_neg h10]
      rw [ofNat_toNat (by omega), if_neg (by omega), if_neg, Nat.mod_eq_of_lt c, Nat.mod_eq_of_lt h1]
      · simp
      · rintro (⟨e1, e2⟩ | ⟨rfl, e2⟩)
        · have := h3 e2; omega
        · have : 2 * 128 ^ 9 ≤ x * 128 ^ 9 := Nat.mul_le_mul_right _ e2
          have e : (128 : Nat) ^ 9 = 9223372036854775808 := by decide
          omega
    · rw [numL_big c] at h2 ⊢
      simp only [List.cons_append, readGo, if_neg h10]
      rw [ofNat_toNat (by omega), if_pos (by omega)]
      have e : (x % 128 + 128) % 128 = x % 128 := by omega
      have e2 : a + x % 128 * 128 ^ i + x / 128 * 128 ^ (i + 1) = a + x * 128 ^ i := by
        rw [Nat.pow_succ, Nat.add_assoc, Nat.mul_comm (128 ^ i) 128, ← Nat.mul_assoc, ← Nat.add_mul]
        congr 2; omega
      have hlt : a + x % 128 * 128 ^ i < 18446744073709551616 := by omega
      rw [e, Nat.mod_eq_of_lt hlt]
      rw [ih (x / 128) (by omega) (i + 1) _ more (by omega) (by simp at h2; omega) (by omega)]
      simp; omega
theorem readF_num {x : Nat} (h : x < 18446744073709551616) (more : List UInt8) : readF (numL x ++ more) = (x, (numL x).length, 0) := by
  have := readGo_num x 0 0 more (by simpa using h) (by simpa using numL_len h) (by omega)
  simpa [readF] using this
/-- a beginning ends too early -/
theorem readGo_short : ∀ (l : List UInt8) (i a : Nat), (∀ b ∈ l, 128 ≤ b.toNat) → i + l.length < 10 → readGo i a l = (0, 0, 3)
  | [], i, a, _, h => by simp only [readGo]; rw [if_neg (by simp at h; omega)]
  | b :: r, i, a, hb, h => by
    simp only [List.length_cons] at h
    simp only [readGo]
    rw [if_neg (by omega), if_pos (hb b (by simp))]
    exact readGo_short r (i + 1) _ (fun c hc => hb c (by simp [hc])) (by omega)
theorem numL_take : ∀ (x r : Nat), r < (numL x).length → ∀ b ∈ (numL x).take r, 128 ≤ b.toNat := by
  intro x
  induction x using Nat.strongRecOn with
  | _ x ih =>
    intro r h b hb
    by_cases c : x < 128
    · rw [numL_small c] at h hb
      simp at h; subst h; simp at hb
    · rw [numL_big c] at h hb
      cases r with
      | zero => simp at hb
      | succ r =>
        simp only [List.take_succ_cons, List.mem_cons] at hb
        rcases hb with rfl | hb
        · rw [ofNat_toNat (by omega)]; omega
        · exact ih (x / 128) (by omega) r (by simpa using h) b hb
theorem readF_short {x r : Nat} (h : x < 18446744073709551616) (hr : r < (numL x).length) : readF ((numL x).take r) = (0, 0, 3) := by
  refine readGo_short _ 0 0 (numL_take x r hr) ?_
  have := numL_len h
  simp; omega
/-- what is read is written as just those bytes -/
theorem readGo_back : ∀ (l : List UInt8) (i a n k : Nat), (i ≤ 9 → a < 128 ^ i) → readGo i a l = (n, k, 0) → ∃ x, n = a + x * 128 ^ i ∧ n < 18446744073709551616 ∧ i < k ∧ k ≤ i + l.length ∧ numL x = l.take (k - i) ∧ (0 < i → 0 < x)
  | [], i, a, n, k, _, h => by simp only [readGo] at h; split at h <;> simp at h
  | b :: r, i, a, n, k, ha, h => by
    simp only [readGo] at h
    split at h
    · simp at h
    rename_i h10
    have ha := ha (by omega)
    have hp := pow_le9 (show i ≤ 9 by omega)
    have hb := b.toNat_lt
    split at h
    · rename_i c
      by_cases h9 : i = 9
      · subst h9
        cases r with
        | nil => simp [readGo] at h
        | cons d r => simp [readGo] at h
      have h8 : i + 1 ≤ 9 := by omega
      have hp' := pow_le9 h8
      have hlt : a + b.toNat % 128 * 128 ^ i < 128 ^ (i + 1) := by
        have : b.toNat % 128 * 128 ^ i ≤ 127 * 128 ^ i := Nat.mul_le_mul_right _ (by omega)
        rw [Nat.pow_succ]; omega
      rw [Nat.mod_eq_of_lt (by omega)] at h
      obtain ⟨x, e1, e2, e3, e4, e5, e6⟩ := readGo_back r (i + 1) _ n k (fun _ => hlt) h
      have hx := e6 (by omega)
      refine ⟨x * 128 + b.toNat % 128, ?_, e2, by omega, by simp; omega, ?_, by omega⟩
      · rw [e1, Nat.pow_succ, Nat.add_mul, Nat.mul_comm (128 ^ i) 128, ← Nat.mul_assoc]; omega
      · rw [numL_big (by omega), show k - i = (k - (i + 1)) + 1 by omega, List.take_succ_cons, ← e5]
        congr 1
        · apply UInt8.toNat_inj.1
          rw [ofNat_toNat (by omega)]; omega
        · congr 1; omega
    · rename_i c
      split at h
      · simp at h
      rename_i c2
      simp only [Prod.mk.injEq, and_true] at h
      obtain ⟨h1, rfl⟩ := h
      have hlt : a + b.toNat % 128 * 128 ^ i < 18446744073709551616 := by
        by_cases h9 : i = 9
        · subst h9
          have : b.toNat % 128 * 128 ^ 9 ≤ 1 * 128 ^ 9 := Nat.mul_le_mul_right _ (by omega)
          have e : (128 : Nat) ^ 9 = 9223372036854775808 := by decide
          omega
        · have h8 : i + 1 ≤ 9 := by omega
          have hp' := pow_le9 h8
          have : b.toNat % 128 * 128 ^ i ≤ 127 * 128 ^ i := Nat.mul_le_mul_right _ (by omega)
          rw [Nat.pow_succ] at hp'; omega
      rw [Nat.mod_eq_of_lt hlt] at h1
      refine ⟨b.toNat, ?_, by omega, by omega, by simp, ?_, fun h0 => ?_⟩
      · rw [← h1, Nat.mod_eq_of_lt (by omega)]
      · rw [numL_small (by omega), show i + 1 - i = 1 by omega]
        simp
      · omega
theorem readF_back {s : List UInt8} {n k : Nat} (h : readF s = (n, k, 0)) : n < 18446744073709551616 ∧ k ≤ s.length ∧ numL n = s.take k ∧ k = (numL n).length := by
  obtain ⟨x, e1, e2, e3, e4, e5, _⟩ := readGo_back s 0 0 n k (fun _ => by simp) h
  simp at e1 e4 e5
  subst e1
  exact ⟨e2, e4, e5, by rw [e5]; simp; omega⟩
theorem readGo_cases : ∀ (l : List UInt8) (i a : Nat), (∃ n k, n < 18446744073709551616 ∧ k ≤ i + l.length ∧ readGo i a l = (n, k, 0)) ∨ readGo i a l = (0, 0, 3) ∨ readGo i a l = (0, 0, 4)
  | [], i, a => by simp only [readGo]; split <;> simp
  | b :: r, i, a => by
    simp only [readGo]
    split
    · simp
    · split
      · have := readGo_cases r (i + 1) ((a + b.toNat % 128 * 128 ^ i) % 18446744073709551616)
        rcases this with ⟨n, k, h0, h1, h2⟩ | h | h
        · exact .inl ⟨n, k, h0, by simp; omega, h2⟩
        · exact .inr (.inl h)
        · exact .inr (.inr h)
      · split
        · simp
        · exact .inl ⟨_, _, Nat.mod_lt _ (by decide), by simp, rfl⟩
theorem readF_cases (s : List UInt8) : (∃ n k, n < 18446744073709551616 ∧ k ≤ s.length ∧ readF s = (n, k, 0)) ∨ readF s = (0, 0, 3) ∨ readF s = (0, 0, 4) := by
  have := readGo_cases s 0 0
  simpa [readF] using this
theorem numL_inj {a b : Nat} (ha : a < 18446744073709551616) (hb : b < 18446744073709551616) (h : numL a = numL b) : a = b := by
  have h1 := readF_num ha []
  have h2 := readF_num hb []
  rw [h, h2] at h1
  simpa using (congrArg Prod.fst h1).symm
theorem numL_cut {a b : Nat} {s t : List UInt8} (ha : a < 18446744073709551616) (hb : b < 18446744073709551616) (h : numL a ++ s = numL b ++ t) : a = b ∧ s = t := by
  have h1 := readF_num ha s
  have h2 := readF_num hb t
  rw [h, h2] at h1
  have e : a = b := by simpa using (congrArg Prod.fst h1).symm
  subst e
  exact ⟨rfl, List.append_cancel_left h⟩
/-- pack.Text -/
def textL (s : List UInt8) : List UInt8 := numL s.length ++ s
def textF (s : List UInt8) : List UInt8 × Int := if 4096 < s.length then ([], 2) else (textL s, 0)
/-- pack.ReadText -/
def readTextF (s : List UInt8) : List UInt8 × Nat × Int :=
  if (readF s).2.2 ≠ 0 then ([], 0, (readF s).2.2) else if 4096 < (readF s).1 then ([], 0, 2) else if s.length - (readF s).2.1 < (readF s).1 then ([], 0, 3) else
    ((s.drop (readF s).2.1).take (readF s).1, (readF s).2.1 + (readF s).1, 0)
theorem textL_cut {a b s t : List UInt8} (ha : a.length ≤ 4096) (hb : b.length ≤ 4096) (h : textL a ++ s = textL b ++ t) : a = b ∧ s = t := by
  unfold textL at h
  rw [List.append_assoc, List.append_assoc] at h
  obtain ⟨h1, h2⟩ := numL_cut (by omega) (by omega) h
  have := List.append_inj h2 h1
  exact this
theorem readText_text {s : List UInt8} (h : s.length ≤ 4096) (more : List UInt8) : readTextF (textL s ++ more) = (s, (textL s).length, 0) := by
  unfold textL readTextF
  rw [List.append_assoc, readF_num (by omega)]
  simp only [ne_eq, not_true_eq_false, if_false]
  rw [if_neg (by omega), if_neg (by simp)]
  simp
theorem readText_short {s : List UInt8} (h : s.length ≤ 4096) {r : Nat} (hr : r < (textL s).length) : (readTextF ((textL s).take r)).2.2 = 3 := by
  unfold readTextF
  by_cases c : r < (numL s.length).length
  · have e : (textL s).take r = (numL s.length).take r := by unfold textL; rw [List.take_append_of_le_length (by omega)]
    rw [e, readF_short (by omega) c]; simp
  · have e : (textL s).take r = numL s.length ++ s.take (r - (numL s.length).length) := by
      unfold textL; rw [List.take_append]
      rw [List.take_of_length_le (by omega)]
    rw [e, readF_num (by omega)]
    have hr' : r < (numL s.length).length + s.length := by simpa [textL] using hr
    simp only [ne_eq, not_true_eq_false, if_false]
    rw [if_neg (by omega), if_pos]
    simp; omega
/-- pack.List -/
def listL (l : List (List UInt8)) : List UInt8 := numL l.length ++ l.flatMap textL
def listF (l : List (List UInt8)) : List UInt8 × Int := if 100 < l.length then ([], 2) else if l.any (fun s => decide (4096 < s.length)) then ([], 2) else (listL l, 0)
theorem texts_cut : ∀ (l m : List (List UInt8)) (s t : List UInt8), (∀ x ∈ l, x.length ≤ 4096) → (∀ x ∈ m, x.length ≤ 4096) → l.length = m.length → l.flatMap textL ++ s = m.flatMap textL ++ t → l = m ∧ s = t
  | [], [], s, t, _, _, _, h => ⟨rfl, by simpa using h⟩
  | [], _ :: _, _, _, _, _, h, _ => by simp at h
  | _ :: _, [], _, _, _, _, h, _ => by simp at h
  | a :: l, b :: m, s, t, hl, hm, hlen, h => by
    simp only [List.flatMap_cons, List.append_assoc] at h
    obtain ⟨h1, h2⟩ := textL_cut (hl a (by simp)) (hm b (by simp)) h
    obtain ⟨h3, h4⟩ := texts_cut l m s t (fun x hx => hl x (by simp [hx])) (fun x hx => hm x (by simp [hx])) (by simpa using hlen) h2
    exact ⟨by rw [h1, h3], h4⟩
theorem listF_ok {l : List (List UInt8)} (h : (listF l).2 = 0) : l.length ≤ 100 ∧ (∀ x ∈ l, x.length ≤ 4096) ∧ (listF l).1 = listL l := by
  unfold listF at *
  split at h
  · simp at h
  · rename_i c1
    split at h
    · simp at h
    · rename_i c2
      rw [if_neg c1, if_neg c2]
      refine ⟨by omega, fun x hx => ?_, rfl⟩
      simp only [List.any_eq_true, decide_eq_true_eq, not_exists, not_and] at c2
      have := c2 x hx; omega
theorem listF_inj {l m : List (List UInt8)} (hl : (listF l).2 = 0) (hm : (listF m).2 = 0) : (listF l).1 = (listF m).1 ↔ l = m := by
  refine ⟨fun h => ?_, fun h => by rw [h]⟩
  obtain ⟨l1, l2, l3⟩ := listF_ok hl
  obtain ⟨m1, m2, m3⟩ := listF_ok hm
  rw [l3, m3] at h
  unfold listL at h
  obtain ⟨h1, h2⟩ := numL_cut (by omega) (by omega) h
  exact (texts_cut l m [] [] l2 m2 h1 (by simpa using h2)).1
/-- pack.ReadList, from its text number i on -/
def readTexts : Nat → List UInt8 → List (List UInt8) → List (List UInt8) × Int
  | 0, s, o => if s = [] then (o, 0) else ([], 4)
  | n + 1, s, o => if (readTextF s).2.2 ≠ 0 then ([], (readTextF s).2.2) else readTexts n (s.drop (readTextF s).2.1) (o ++ [(readTextF s).1])
def readListF (s : List UInt8) : List (List UInt8) × Int :=
  if (readF s).2.2 ≠ 0 then ([], (readF s).2.2) else if 100 < (readF s).1 then ([], 2) else readTexts (readF s).1 (s.drop (readF s).2.1) []
theorem readTexts_texts : ∀ (l o : List (List UInt8)), (∀ x ∈ l, x.length ≤ 4096) → readTexts l.length (l.flatMap textL) o = (o ++ l, 0)
  | [], o, _ => by simp [readTexts]
  | a :: l, o, h => by
    have h1 := readText_text (s := a) (h a (by simp)) (l.flatMap textL)
    simp only [List.length_cons, readTexts, List.flatMap_cons, h1, ne_eq, not_true_eq_false, if_false, List.drop_left']
    rw [readTexts_texts l _ fun x hx => h x (by simp [hx])]
    simp
theorem readList_list {l : List (List UInt8)} (h1 : l.length ≤ 100) (h2 : ∀ x ∈ l, x.length ≤ 4096) : readListF (listL l) = (l, 0) := by
  unfold readListF listL
  rw [readF_num (by omega)]
  simp only [ne_eq, not_true_eq_false, if_false, List.drop_left']
  rw [if_neg (by omega), readTexts_texts l [] h2]; simp
/-- a text that is read is written as just those bytes -/
theorem readText_back {s : List UInt8} (h : (readTextF s).2.2 = 0) : (readTextF s).1.length ≤ 4096 ∧ (readTextF s).2.1 ≤ s.length ∧ textL (readTextF s).1 = s.take (readTextF s).2.1 := by
  have hc := readF_cases s
  unfold readTextF at h ⊢
  rcases hc with ⟨n, k, h0, h1, h2⟩ | h2 | h2
  · have hb := readF_back h2
    rw [h2] at h ⊢
    simp only [ne_eq, not_true_eq_false, if_false] at h ⊢
    split at h
    · simp at h
    · rename_i c1
      rw [if_neg c1]
      split at h
      · simp at h
      · rename_i c2
        rw [if_neg c2]
        obtain ⟨_, b1, b2, b3⟩ := hb
        have hlen : ((s.drop k).take n).length = n := by simp; omega
        refine ⟨by rw [hlen]; omega, by simp only; omega, ?_⟩
        unfold textL
        rw [hlen, b2]
        simp only
        rw [List.take_add]
  · rw [h2] at h; simp at h
  · rw [h2] at h; simp at h
theorem readTexts_back : ∀ (n : Nat) (s : List UInt8) (o r : List (List UInt8)), readTexts n s o = (r, 0) → ∃ l, r = o ++ l ∧ l.length = n ∧ (∀ x ∈ l, x.length ≤ 4096) ∧ s = l.flatMap textL
  | 0, s, o, r, h => by
    simp only [readTexts] at h
    split at h
    · rename_i c
      simp only [Prod.mk.injEq, and_true] at h
      exact ⟨[], by simp [h], rfl, by simp, by simp [c]⟩
    · simp at h
  | n + 1, s, o, r, h => by
    simp only [readTexts] at h
    split at h
    · rename_i c
      simp only [Prod.mk.injEq] at h
      exact absurd h.2 c
    · rename_i c
      have c0 : (readTextF s).2.2 = 0 := by simpa using c
      obtain ⟨b1, b2, b3⟩ := readText_back c0
      obtain ⟨l, e1, e2, e3, e4⟩ := readTexts_back n _ _ _ h
      refine ⟨(readTextF s).1 :: l, by rw [e1]; simp, by simp [e2], fun x hx => ?_, ?_⟩
      · rcases List.mem_cons.1 hx with rfl | hx
        · exact b1
        · exact e3 x hx
      · rw [List.flatMap_cons, b3, ← e4, List.take_append_drop]
theorem readTexts_err : ∀ (n : Nat) (s : List UInt8) (o : List (List UInt8)), (readTexts n s o).2 ≠ 0 → (readTexts n s o).1 = []
  | 0, s, o, h => by simp only [readTexts] at h ⊢; split at h <;> simp_all
  | n + 1, s, o, h => by
    simp only [readTexts] at h ⊢
    split
    · rfl
    · rename_i c; rw [if_neg c] at h; exact readTexts_err n _ _ h
theorem readList_err {s : List UInt8} (h : (readListF s).2 ≠ 0) : (readListF s).1 = [] := by
  unfold readListF at h ⊢
  split
  · rfl
  · rename_i c; rw [if_neg c] at h
    split
    · rfl
    · rename_i c2; rw [if_neg c2] at h; exact readTexts_err _ _ _ h
theorem readList_back {s : List UInt8} (h : (readListF s).2 = 0) : listF (readListF s).1 = (s, 0) := by
  have hc := readF_cases s
  unfold readListF at h ⊢
  rcases hc with ⟨n, k, h0, h1, h2⟩ | h2 | h2
  · obtain ⟨_, b1, b2, b3⟩ := readF_back h2
    rw [h2] at h ⊢
    simp only [ne_eq, not_true_eq_false, if_false] at h ⊢
    split at h
    · simp at h
    · rename_i c1
      rw [if_neg c1]
      obtain ⟨l, e1, e2, e3, e4⟩ := readTexts_back n (s.drop k) [] (readTexts n (s.drop k) []).1 (Prod.ext rfl h)
      rw [e1, List.nil_append]
      unfold listF
      rw [if_neg (by omega), if_neg]
      · unfold listL
        rw [e2, b2, ← e4, List.take_append_drop]
      · simp only [List.any_eq_true, decide_eq_true_eq, not_exists, not_and]
        intro x hx; have := e3 x hx; omega
  · rw [h2] at h; simp at h
  · rw [h2] at h; simp at h
end Go.Proofs.Ytnooleopmlijeaa.packL
