/- Does what symbols make begin with the rest of a word?; no program in sight. -/
import Derived.Test.YtnicebdkejkieaaDer
namespace Go.Proofs.Ytnicebdkejkieaa.derL
open gramL treeL countL factsL
def partO (o : Sym → Nat → Nat → Nat) (x : Sym) (frm : Nat) (A : Nat → Bool) : Nat → Nat → Bool
  | 0, _ => false
  | k + 1, b => partO o x frm A k b || (A (frm + k) && decide (frm + k ≤ b) && decide (0 < o x (frm + k) b))
def anyO (p : Nat → Bool) (frm : Nat) : Nat → Bool
  | 0 => false
  | k + 1 => anyO p frm k || p (frm + k)
def opGo (o : Sym → Nat → Nat → Nat) (O : Nat → Nat → Bool) (n frm : Nat) : List Sym → (Nat → Bool) → Bool
  | [], A => A n
  | x :: r, A => if A n = true then true else if x.1 = 2 ∧ anyO (fun a => A a && O x.2.toNat a) frm (n + 1 - frm) = true then true else opGo o O n frm r (partO o x frm A (n + 1 - frm))
def opensF (o : Sym → Nat → Nat → Nat) (O : Nat → Nat → Bool) (M : List Bool) (n frm : Nat) (l : List Sym) : Bool := if allF M l true = true then opGo o O n frm l (fun b => decide (b = frm)) else false
def mixO (o : Sym → Nat → Nat → Nat) (x : Sym) (frm : Nat) (A : Nat → Bool) (k j b : Nat) : Bool := if b < j then partO o x frm A (k + 1) b else partO o x frm A k b
section
variable {o : Sym → Nat → Nat → Nat} {x : Sym} {frm : Nat} {A : Nat → Bool}
theorem partO_none {k : Nat} (h : A (frm + k) = false) : partO o x frm A (k + 1) = partO o x frm A k := by
  funext b; rw [partO, h]; simp
theorem mixO_0 (k : Nat) : mixO o x frm A k (frm + k) = partO o x frm A k := by
  funext b
  unfold mixO
  split
  · rw [partO, decide_eq_false (by omega : ¬ frm + k ≤ b)]; simp
  · rfl
theorem mixO_at (k j : Nat) : mixO o x frm A k j j = partO o x frm A k j := by simp [mixO]
theorem mixO_step {k j : Nat} (h : A (frm + k) = true) (hj : frm + k ≤ j) (b : Nat) : mixO o x frm A k (j + 1) b = if b = j then (partO o x frm A k j || decide (0 < o x (frm + k) j)) else mixO o x frm A k j b := by
  unfold mixO
  by_cases c : b = j
  · subst c; rw [if_pos (by omega), if_pos rfl, partO, h, decide_eq_true hj]; simp
  · rw [if_neg c]
    by_cases c2 : b < j
    · rw [if_pos (by omega), if_pos c2]
    · rw [if_neg (by omega), if_neg c2]
theorem mixO_end {k j b : Nat} (h : b < j) : mixO o x frm A k j b = partO o x frm A (k + 1) b := by unfold mixO; rw [if_pos h]
theorem partO_iff {b : Nat} : ∀ {k : Nat}, partO o x frm A k b = true ↔ ∃ i, i < k ∧ A (frm + i) = true ∧ frm + i ≤ b ∧ 0 < o x (frm + i) b
  | 0 => by simp [partO]
  | k + 1 => by
    rw [partO, Bool.or_eq_true, partO_iff, Bool.and_eq_true, Bool.and_eq_true, decide_eq_true_iff, decide_eq_true_iff]
    constructor
    · rintro (⟨i, h1, h2⟩ | ⟨⟨h1, h2⟩, h3⟩)
      · exact ⟨i, by omega, h2⟩
      · exact ⟨k, by omega, h1, h2, h3⟩
    · rintro ⟨i, h1, h2, h3, h4⟩
      by_cases e : i = k
      · subst e; exact .inr ⟨⟨h2, h3⟩, h4⟩
      · exact .inl ⟨i, by omega, h2, h3, h4⟩
theorem anyO_iff {p : Nat → Bool} : ∀ {k : Nat}, anyO p frm k = true ↔ ∃ i, i < k ∧ p (frm + i) = true
  | 0 => by simp [anyO]
  | k + 1 => by
    rw [anyO, Bool.or_eq_true, anyO_iff]
    constructor
    · rintro (⟨i, h1, h2⟩ | h1)
      · exact ⟨i, by omega, h2⟩
      · exact ⟨k, by omega, h1⟩
    · rintro ⟨i, h1, h2⟩
      by_cases e : i = k
      · subst e; exact .inr h2
      · exact .inl ⟨i, by omega, h2⟩
end
section
variable {w : List Int} {l : List gramL.Prod} {n : Nat} {c : Chart} {O : Nat → Nat → Bool}
theorem made_all : ∀ (b : List Sym), (∀ x ∈ b, ∃ ws, Der l x ws) → ∃ ws, Ders l b ws
  | [], _ => ⟨[], .nil⟩
  | x :: r, h => by
    obtain ⟨u, h1⟩ := h x (by simp)
    obtain ⟨s, h2⟩ := made_all r fun y hy => h y (by simp [hy])
    exact ⟨u ++ s, .cons h1 h2⟩
theorem cut_drop {a b : Nat} (h : a ≤ b) : cut w a b ++ w.drop b = w.drop a := by
  unfold cut
  have e3 : w.drop b = (w.drop a).drop (b - a) := by rw [List.drop_drop, show a + (b - a) = b by omega]
  rw [e3, List.take_append_drop]
theorem opGo_sound (hc : Lfp w l n c) (hs : SymsOk n l) (hO : ∀ (k : Nat) a, O k a = true → a ≤ w.length → ∃ v, Der l (2, (k : Int)) (w.drop a ++ v)) {frm : Nat} (hf : frm ≤ w.length) : ∀ (body : List Sym) (A : Nat → Bool) (pre : List Sym), (∀ x ∈ body, (x.1 = 1 ∨ (x.1 = 2 ∧ 0 ≤ x.2 ∧ x.2 < (n : Int))) ∧ ∃ ws, Der l x ws) → (∀ b, frm ≤ b → b ≤ w.length → A b = true → Ders l pre (cut w frm b)) → opGo (oneF c w) O w.length frm body A = true → ∃ v, Ders l (pre ++ body) (w.drop frm ++ v)
  | [], A, pre, _, hA, h => by
    have := hA w.length hf (Nat.le_refl _) h
    rw [cut_end rfl] at this
    exact ⟨[], by rw [List.append_nil, List.append_nil]; exact this⟩
  | x :: r, A, pre, hx, hA, h => by
    rw [opGo] at h
    split at h
    · rename_i h1
      have h2 := hA w.length hf (Nat.le_refl _) h1
      rw [cut_end rfl] at h2
      obtain ⟨ws, h3⟩ := made_all (x :: r) fun y hy => (hx y hy).2
      exact ⟨ws, h2.app h3⟩
    · split at h
      · rename_i h1
        obtain ⟨h1, h2⟩ := h1
        obtain ⟨i, h3, h4⟩ := anyO_iff.1 h2
        rw [Bool.and_eq_true] at h4
        have hk := ((hx x (by simp)).1.resolve_left (by omega)).2
        obtain ⟨v, h5⟩ := hO _ _ h4.2 (by omega)
        obtain ⟨x1, x2⟩ := x
        dsimp only at h1 hk h5
        subst h1
        rw [Int.toNat_of_nonneg hk.1] at h5
        obtain ⟨ws, h6⟩ := made_all r fun y hy => (hx y (by simp [hy])).2
        refine ⟨v ++ ws, ?_⟩
        have h7 := (hA (frm + i) (by omega) (by omega) h4.1).app (Ders.cons h5 h6)
        rw [List.append_assoc (w.drop (frm + i)), ← List.append_assoc (cut w frm (frm + i)), cut_drop (by omega)] at h7
        exact h7
      · obtain ⟨v, h1⟩ := opGo_sound hc hs hO hf r _ (pre ++ [x]) (fun y hy => hx y (by simp [hy])) (fun b hb1 hb2 hb => by
          obtain ⟨i, h3, h4, h5, h6⟩ := partO_iff.1 hb
          rw [← cut_app (by omega : frm ≤ frm + i) h5]
          exact (hA _ (by omega) (by omega) h4).app (ders_one (der_of_one hc hs (hx x (by simp)).1 h5 hb2 h6))) h
        exact ⟨v, by rw [List.append_assoc] at h1; exact h1⟩
theorem opensF_sound {M : List Bool} (hM : ∀ i : Nat, M.getD i false = true → ∃ ws, Der l (2, (i : Int)) ws) (hc : Lfp w l n c) (hs : SymsOk n l) (hO : ∀ (k : Nat) a, O k a = true → a ≤ w.length → ∃ v, Der l (2, (k : Int)) (w.drop a ++ v)) {frm : Nat} (hf : frm ≤ w.length) {body : List Sym} (hx : ∀ x ∈ body, x.1 = 1 ∨ (x.1 = 2 ∧ 0 ≤ x.2 ∧ x.2 < (n : Int))) (h : opensF (oneF c w) O M w.length frm body = true) : ∃ v, Ders l body (w.drop frm ++ v) := by
  unfold opensF at h
  split at h
  · rename_i hm
    refine opGo_sound hc hs hO hf body _ [] (fun x hb => ⟨hx x hb, ?_⟩) (fun b _ _ hb => ?_) h
    · unfold allF at hm
      have := List.all_eq_true.1 hm x hb
      rcases hx x hb with c1 | ⟨c1, c2, _⟩
      · exact ⟨_, .term c1⟩
      · rw [if_neg (by omega), if_pos c1] at this
        obtain ⟨ws, hw⟩ := hM _ this
        obtain ⟨x1, x2⟩ := x
        dsimp only at c1 c2 hw
        subst c1
        rw [Int.toNat_of_nonneg c2] at hw
        exact ⟨ws, hw⟩
    · have : b = frm := by simpa using hb
      subst this
      rw [cut_self]; exact .nil
  · cases h
mutual
theorem open_of_der {M : List Bool} {E R : List Bool} {F W : List Nat} (hC : ClosedF l E F W R M) (hc : Lfp w l n c) (hs : SymsOk n l) (hcl : ∀ p ∈ l, ∀ a, a ≤ w.length → opensF (oneF c w) O M w.length a p.2 = true → O p.1.toNat a = true) : ∀ {x : Sym} {ws : List Int}, Der l x ws → x.1 ≠ 1 → ∀ {a : Nat} {v : List Int}, a ≤ w.length → ws = w.drop a ++ v → O x.2.toNat a = true
  | _, _, .term h, h0, _, _, _, _ => absurd h h0
  | x, ws, .non (p := p) h1 hp hx hd, _, a, v, ha, hw => by
    rw [← hx]
    refine hcl p hp a ha ?_
    unfold opensF
    rw [if_pos (makes_ders hC hd)]
    exact go_of_ders hC hc hs hcl hd (fun y hy => ((hs p hp).2.2 y hy).imp id fun h => h.1) (Nat.le_refl _) ha (by simp) hw
theorem go_of_ders {M : List Bool} {E R : List Bool} {F W : List Nat} (hC : ClosedF l E F W R M) (hc : Lfp w l n c) (hs : SymsOk n l) (hcl : ∀ p ∈ l, ∀ a, a ≤ w.length → opensF (oneF c w) O M w.length a p.2 = true → O p.1.toNat a = true) : ∀ {b : List Sym} {ws : List Int}, Ders l b ws → (∀ y ∈ b, y.1 = 1 ∨ y.1 = 2) → ∀ {frm a : Nat} {v : List Int} {A : Nat → Bool}, frm ≤ a → a ≤ w.length → A a = true → ws = w.drop a ++ v → opGo (oneF c w) O w.length frm b A = true
  | [], _, .nil, _, frm, a, v, A, h1, h2, h3, h4 => by
    have := congrArg List.length h4
    rw [List.length_append, List.length_drop, List.length_nil] at this
    obtain rfl : a = w.length := by omega
    exact h3
  | y :: b, _, .cons (a := u) (b := s) k1 k2, hy, frm, a, v, A, h1, h2, h3, h4 => by
    rw [opGo]
    by_cases c1 : A w.length = true
    · rw [if_pos c1]
    · rw [if_neg c1]
      by_cases c2 : y.1 = 2 ∧ anyO (fun a => A a && O y.2.toNat a) frm (w.length + 1 - frm) = true
      · rw [if_pos c2]
      · rw [if_neg c2]
        by_cases c3 : u.length ≤ w.length - a
        · have e1 : w.drop a = u ++ (w.drop a).drop u.length := by
            have h5 : (w.drop a).take u.length = u := by
              have := congrArg (List.take u.length) h4
              rw [List.take_left, List.take_append_of_le_length (by rw [List.length_drop]; exact c3)] at this
              exact this.symm
            conv => lhs; rw [← List.take_append_drop u.length (w.drop a), h5]
          have e2 : s = w.drop (a + u.length) ++ v := by
            rw [e1, List.append_assoc] at h4
            rw [← List.drop_drop]
            exact List.append_cancel_left h4
          have h6 := one_of_der hc hs k1 (hy y (by simp)) h2 ⟨_, e1⟩
          refine go_of_ders hC hc hs hcl k2 (fun z hz => hy z (by simp [hz])) (by omega : frm ≤ a + u.length) (by omega) (partO_iff.2 ⟨a - frm, by omega, ?_, ?_, ?_⟩) e2
          · rw [show frm + (a - frm) = a by omega]; exact h3
          · omega
          · rw [show frm + (a - frm) = a by omega]; exact h6
        · exfalso
          by_cases c4 : y.1 = 1
          · have hu := der_term k1 c4
            have : u.length = 1 := by rw [hu]; rfl
            have : a = w.length := by omega
            subst this
            exact c1 h3
          · have e1 : u = w.drop a ++ u.drop (w.length - a) := by
              have h5 : u.take (w.length - a) = w.drop a := by
                have := congrArg (List.take (w.length - a)) h4
                rw [List.take_append_of_le_length (by omega), List.take_left' (by rw [List.length_drop])] at this
                exact this
              conv => lhs; rw [← List.take_append_drop (w.length - a) u, h5]
            have h5 := open_of_der hC hc hs hcl k1 c4 h2 e1
            refine c2 ⟨(hy y (by simp)).resolve_left c4, anyO_iff.2 ⟨a - frm, by omega, ?_⟩⟩
            rw [show frm + (a - frm) = a by omega, h3, h5]; rfl
end
end
end Go.Proofs.Ytnicebdkejkieaa.derL
