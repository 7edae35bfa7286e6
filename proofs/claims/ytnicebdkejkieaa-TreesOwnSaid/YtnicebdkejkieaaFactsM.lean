/- Facts of a grammar: fixed points; no program in sight. -/
import Derived.Test.YtnicebdkejkieaaFactsL
namespace Go.Proofs.Ytnicebdkejkieaa.factsL
open gramL
/-! ### steps till nothing is new -/
def fixN {σ : Type} (step : σ → σ × Bool) : Nat → σ → σ
  | 0, s => s
  | f + 1, s => if (step s).2 = true then fixN step f (step s).1 else (step s).1
structure Falls {σ : Type} (step : σ → σ × Bool) (ok : σ → Prop) (μ : σ → Nat) : Prop where
  keep : ∀ s, ok s → ok (step s).1
  dec : ∀ s, ok s → (step s).2 = true → μ (step s).1 < μ s
def fix {σ : Type} (step : σ → σ × Bool) (μ : σ → Nat) (s : σ) : σ := fixN step (μ s + 1) s
section
variable {σ : Type} {step : σ → σ × Bool} {ok : σ → Prop} {μ : σ → Nat}
theorem fixN_fuel (h : Falls step ok μ) : ∀ (f g : Nat) (s : σ), ok s → μ s < f → μ s < g → fixN step f s = fixN step g s
  | 0, _, _, _, h1, _ => by omega
  | _, 0, _, _, _, h2 => by omega
  | f + 1, g + 1, s, hs, h1, h2 => by
    unfold fixN
    by_cases c : (step s).2 = true
    · rw [if_pos c, if_pos c]
      have := h.dec s hs c
      exact fixN_fuel h f g _ (h.keep s hs) (by omega) (by omega)
    · rw [if_neg c, if_neg c]
theorem fix_go (h : Falls step ok μ) {s : σ} (hs : ok s) (c : (step s).2 = true) : fix step μ s = fix step μ (step s).1 := by
  have := h.dec s hs c
  unfold fix
  rw [fixN, if_pos c]
  exact fixN_fuel h _ _ _ (h.keep s hs) (by omega) (by omega)
theorem fix_stop {s : σ} (c : (step s).2 = false) : fix step μ s = (step s).1 := by
  unfold fix
  rw [fixN, if_neg (by rw [c]; decide)]
/-- what is come to is a fixed point: a step from some state there tells nothing new -/
theorem fix_end (h : Falls step ok μ) : ∀ (k : Nat) (s : σ), ok s → μ s ≤ k → ∃ s', ok s' ∧ (step s').2 = false ∧ fix step μ s = (step s').1
  | k, s, hs, hk => by
    by_cases c : (step s).2 = true
    · have hd := h.dec s hs c
      match k with
      | 0 => omega
      | k + 1 =>
        obtain ⟨s', h1, h2, h3⟩ := fix_end h k (step s).1 (h.keep s hs) (by omega)
        exact ⟨s', h1, h2, by rw [fix_go h hs c, h3]⟩
    · have c' : (step s).2 = false := by simpa using c
      exact ⟨s, hs, c', fix_stop c'⟩
end
/-! ### First -/
def stepF (E : List Bool) (M : List Bool) (p : gramL.Prod) (F : List Nat) (more : Bool) : List Nat × Bool :=
  if allF M p.2 true = true then ((addF F p.1.toNat (beginF E F p.2 0)).1, (addF F p.1.toNat (beginF E F p.2 0)).2 || more) else (F, more)
def passF (E M : List Bool) : List gramL.Prod → List Nat → Bool → List Nat × Bool
  | [], F, more => (F, more)
  | p :: r, F, more => passF E M r (stepF E M p F more).1 (stepF E M p F more).2
/-! ### Follow -/
def stepW (E : List Bool) (F : List Nat) (h : Nat) (x : Sym) (r : List Sym) (W : List Nat) (more : Bool) : List Nat × Bool :=
  if x.1 = 2 then ((addF W x.2.toNat (beginF E F r (W.getD h 0))).1, (addF W x.2.toNat (beginF E F r (W.getD h 0))).2 || more) else (W, more)
def passWb (E : List Bool) (F : List Nat) (h : Nat) : List Sym → List Nat → Bool → List Nat × Bool
  | [], W, more => (W, more)
  | x :: r, W, more => passWb E F h r (stepW E F h x r W more).1 (stepW E F h x r W more).2
def passW (E : List Bool) (F : List Nat) : List gramL.Prod → List Nat → Bool → List Nat × Bool
  | [], W, more => (W, more)
  | p :: r, W, more => passW E F r (passWb E F p.1.toNat p.2 W more).1 (passWb E F p.1.toNat p.2 W more).2
/-- how much is missing -/
def lack (l : List Nat) : Nat := (l.map fun x => 18446744073709551616 - x).sum
def okW (n : Nat) (l : List Nat) : Prop := l.length = n ∧ ∀ x ∈ l, x < 18446744073709551616
theorem getD_lt {n : Nat} {l : List Nat} (h : okW n l) (i : Nat) : l.getD i 0 < 18446744073709551616 := by
  rw [List.getD_eq_getElem?_getD]
  cases e : l[i]? with
  | none => decide
  | some y => exact h.2 y (List.mem_of_getElem? e)
theorem or_lt64 {x y : Nat} (hx : x < 18446744073709551616) (hy : y < 18446744073709551616) : x ||| y < 18446744073709551616 := Nat.or_lt_two_pow (n := 64) hx hy
theorem addF_ok {n : Nat} {l : List Nat} {i b : Nat} (h : okW n l) (hb : b < 18446744073709551616) : okW n (addF l i b).1 := by
  refine ⟨by rw [addF_len]; exact h.1, fun x hx => ?_⟩
  rcases List.mem_or_eq_of_mem_set hx with h1 | rfl
  · exact h.2 x h1
  · exact or_lt64 (getD_lt h i) hb
theorem sum_set : ∀ (l : List Nat) (i : Nat) (y : Nat) (h : i < l.length), ((l.set i y).map fun x => 18446744073709551616 - x).sum + (18446744073709551616 - l[i]) = (l.map fun x => 18446744073709551616 - x).sum + (18446744073709551616 - y)
  | a :: r, 0, y, h => by simp; omega
  | a :: r, i + 1, y, h => by
    have := sum_set r i y (by simpa using h)
    simp at this ⊢; omega
theorem addF_lack {n : Nat} {l : List Nat} {i b : Nat} (h : okW n l) (hi : i < n) (hb : b < 18446744073709551616) : lack (addF l i b).1 ≤ lack l ∧ ((addF l i b).2 = true → lack (addF l i b).1 < lack l) := by
  have hil : i < l.length := by rw [h.1]; exact hi
  have hs := sum_set l i (l.getD i 0 ||| b) hil
  have e : l.getD i 0 = l[i] := by rw [List.getD_eq_getElem?_getD, List.getElem?_eq_getElem hil]; rfl
  have h1 : l[i] ≤ l.getD i 0 ||| b := by rw [e]; exact Nat.left_le_or
  have h2 := or_lt64 (getD_lt h i) hb
  have h3 := h.2 _ (List.getElem_mem hil)
  unfold lack addF
  dsimp only
  refine ⟨by omega, fun hc => ?_⟩
  simp only [Bool.not_eq_true', decide_eq_false_iff_not] at hc
  omega
theorem beginF_lt {E : List Bool} {F : List Nat} {n : Nat} {body : List Sym} {behind : Nat} (hF : okW n F) (hb : behind < 18446744073709551616) (hx : ∀ x ∈ body, x.1 = 1 → x.2.toNat < 64) : beginF E F body behind < 18446744073709551616 := by
  have key : ∀ (body : List Sym) (out : Nat), out < 18446744073709551616 → (∀ x ∈ body, x.1 = 1 → x.2.toNat < 64) → beginGo E F behind body out < 18446744073709551616 := by
    intro body
    induction body with
    | nil => intro out h _; exact or_lt64 h hb
    | cons x r ih =>
      intro out h hx
      unfold beginGo
      split
      · rename_i c
        have hp : (2 : Nat) ^ x.2.toNat < 2 ^ 64 := Nat.pow_lt_pow_right (by decide) (hx x (by simp) c)
        exact or_lt64 h (by simpa using hp)
      · split
        · exact ih _ (or_lt64 h (getD_lt hF _)) fun y hy => hx y (by simp [hy])
        · exact or_lt64 h (getD_lt hF _)
  exact key body 0 (by decide) hx
/-- what a grammar's productions are like -/
structure Fine (n : Nat) (l : List gramL.Prod) : Prop where
  head : ∀ p ∈ l, 0 ≤ p.1 ∧ p.1.toNat < n
  term : ∀ p ∈ l, ∀ x ∈ p.2, x.1 = 1 → 0 ≤ x.2 ∧ x.2.toNat < 64
  non : ∀ p ∈ l, ∀ x ∈ p.2, x.1 ≠ 1 → x.1 = 2 ∧ 0 ≤ x.2 ∧ x.2.toNat < n
theorem fine_of {g : Gram} {n : Nat} (h : checkG g = 0) (hn : g.nons = n) : Fine n g.prods := by
  obtain ⟨a, b, c, d, e, f⟩ := checkG_ok h
  refine ⟨fun p hp => ?_, fun p hp x hx hx1 => ?_, fun p hp x hx hx1 => ?_⟩
  · have := f p hp; omega
  · have := (f p hp).2.2.2 x hx
    unfold right at this
    rw [if_pos hx1] at this
    simp at this; omega
  · have := (f p hp).2.2.2 x hx
    unfold right at this
    rw [if_neg hx1] at this
    split at this
    · rename_i h2
      simp at this
      exact ⟨h2, by omega, by omega⟩
    · simp at this
theorem Fine.tail {n : Nat} {p : gramL.Prod} {l : List gramL.Prod} (h : Fine n (p :: l)) : Fine n l :=
  ⟨fun q hq => h.head q (by simp [hq]), fun q hq => h.term q (by simp [hq]), fun q hq => h.non q (by simp [hq])⟩
theorem passF_ok {E M : List Bool} {n : Nat} : ∀ (l : List gramL.Prod) (F : List Nat) (more : Bool), Fine n l → okW n F → okW n (passF E M l F more).1 ∧ lack (passF E M l F more).1 ≤ lack F ∧ ((passF E M l F more).2 = true → more = true ∨ lack (passF E M l F more).1 < lack F)
  | [], F, more, _, h => ⟨h, Nat.le_refl _, fun c => .inl c⟩
  | p :: r, F, more, hf, h => by
    have hb : beginF E F p.2 0 < 18446744073709551616 := beginF_lt h (by decide) fun x hx hx1 => (hf.term p (by simp) x hx hx1).2
    have hh := hf.head p (by simp)
    rw [passF]
    unfold stepF
    split
    · have h1 := addF_ok (i := p.1.toNat) h hb
      have h2 := addF_lack h hh.2 hb
      obtain ⟨k1, k2, k3⟩ := passF_ok r (addF F p.1.toNat (beginF E F p.2 0)).1 ((addF F p.1.toNat (beginF E F p.2 0)).2 || more) hf.tail h1
      refine ⟨k1, Nat.le_trans k2 h2.1, fun c => ?_⟩
      rcases k3 c with c2 | c2
      · rw [Bool.or_eq_true] at c2
        rcases c2 with c2 | c2
        · exact .inr (Nat.lt_of_le_of_lt k2 (h2.2 c2))
        · exact .inl c2
      · exact .inr (Nat.lt_of_lt_of_le c2 h2.1)
    · exact passF_ok r F more hf.tail h
theorem passWb_ok {E : List Bool} {F : List Nat} {n h : Nat} (hF : okW n F) (hh : h < n) : ∀ (body : List Sym) (W : List Nat) (more : Bool), (∀ x ∈ body, x.1 = 1 → x.2.toNat < 64) → (∀ x ∈ body, x.1 = 2 → x.2.toNat < n) → okW n W → okW n (passWb E F h body W more).1 ∧ lack (passWb E F h body W more).1 ≤ lack W ∧ ((passWb E F h body W more).2 = true → more = true ∨ lack (passWb E F h body W more).1 < lack W)
  | [], W, more, _, _, hW => ⟨hW, Nat.le_refl _, fun c => .inl c⟩
  | x :: r, W, more, ht, hx, hW => by
    have hb : beginF E F r (W.getD h 0) < 18446744073709551616 := beginF_lt hF (getD_lt hW h) fun y hy => ht y (by simp [hy])
    have tl := fun W more => passWb_ok (E := E) hF hh r W more (fun y hy => ht y (by simp [hy])) (fun y hy => hx y (by simp [hy]))
    rw [passWb]
    unfold stepW
    split
    · rename_i c0
      have h1 := addF_ok (i := x.2.toNat) hW hb
      have h2 := addF_lack hW (hx x (by simp) c0) hb
      obtain ⟨k1, k2, k3⟩ := tl (addF W x.2.toNat (beginF E F r (W.getD h 0))).1 ((addF W x.2.toNat (beginF E F r (W.getD h 0))).2 || more) h1
      refine ⟨k1, Nat.le_trans k2 h2.1, fun c => ?_⟩
      rcases k3 c with c2 | c2
      · rw [Bool.or_eq_true] at c2
        rcases c2 with c2 | c2
        · exact .inr (Nat.lt_of_le_of_lt k2 (h2.2 c2))
        · exact .inl c2
      · exact .inr (Nat.lt_of_lt_of_le c2 h2.1)
    · exact tl W more hW
theorem passW_ok {E : List Bool} {F : List Nat} {n : Nat} (hF : okW n F) : ∀ (l : List gramL.Prod) (W : List Nat) (more : Bool), Fine n l → okW n W → okW n (passW E F l W more).1 ∧ lack (passW E F l W more).1 ≤ lack W ∧ ((passW E F l W more).2 = true → more = true ∨ lack (passW E F l W more).1 < lack W)
  | [], W, more, _, h => ⟨h, Nat.le_refl _, fun c => .inl c⟩
  | p :: r, W, more, hf, h => by
    rw [passW]
    obtain ⟨a1, a2, a3⟩ := passWb_ok (E := E) hF (hf.head p (by simp)).2 p.2 W more (fun x hx h1 => (hf.term p (by simp) x hx h1).2) (fun x hx h2 => (hf.non p (by simp) x hx (by omega)).2.2) h
    obtain ⟨k1, k2, k3⟩ := passW_ok hF r (passWb E F p.1.toNat p.2 W more).1 (passWb E F p.1.toNat p.2 W more).2 hf.tail a1
    refine ⟨k1, Nat.le_trans k2 a2, fun c => ?_⟩
    rcases k3 c with c2 | c2
    · rcases a3 c2 with c3 | c3
      · exact .inl c3
      · exact .inr (Nat.lt_of_le_of_lt k2 c3)
    · exact .inr (Nat.lt_of_lt_of_le c2 a2)
theorem fallsF {E M : List Bool} {n : Nat} {l : List gramL.Prod} (hf : Fine n l) : Falls (fun F => passF E M l F false) (okW n) lack :=
  ⟨fun s hs => (passF_ok l s false hf hs).1, fun s hs c => by
    rcases (passF_ok (E := E) (M := M) l s false hf hs).2.2 c with h | h
    · cases h
    · exact h⟩
theorem fallsW {E : List Bool} {F : List Nat} {n : Nat} {l : List gramL.Prod} (hF : okW n F) (hf : Fine n l) : Falls (fun W => passW E F l W false) (okW n) lack :=
  ⟨fun s hs => (passW_ok hF l s false hf hs).1, fun s hs c => by
    rcases (passW_ok (E := E) hF l s false hf hs).2.2 c with h | h
    · cases h
    · exact h⟩
end Go.Proofs.Ytnicebdkejkieaa.factsL
