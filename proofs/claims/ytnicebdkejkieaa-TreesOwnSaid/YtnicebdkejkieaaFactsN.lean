/- Facts of a grammar: the rounds' fixed point; no program in sight. -/
import Derived.Test.YtnicebdkejkieaaFactsM
namespace Go.Proofs.Ytnicebdkejkieaa.factsL
open gramL
def okR (n : Nat) (s : FS) : Prop := s.E.length = n ∧ s.R.length = n ∧ s.M.length = n
def had (s : FS) : Nat := trues s.E + trues s.R + trues s.M
/-- a step of rounds, begun with nothing new -/
def stepS (l : List gramL.Prod) (s : FS) : FS × Bool := (roundL l ⟨s.E, s.R, s.M, false⟩, (roundL l ⟨s.E, s.R, s.M, false⟩).more)
theorem trues_le (l : List Bool) : trues l ≤ l.length := List.countP_le_length
theorem markF_grow {l : List Bool} {i : Nat} {b : Bool} (hi : i < l.length) : trues l ≤ trues (markF l i b).1 ∧ ((markF l i b).2 = true → trues l < trues (markF l i b).1) := by
  have := markF_trues (b := b) hi
  refine ⟨by split at this <;> omega, fun h => ?_⟩
  rw [if_pos h] at this
  omega
theorem roundR_grow {h n : Nat} : ∀ (body : List Sym) (R : List Bool) (more : Bool), (∀ x ∈ body, x.1 = 2 → x.2.toNat < n) → R.length = n → trues R ≤ trues (roundR h body R more).1 ∧ ((roundR h body R more).2 = true → more = true ∨ trues R < trues (roundR h body R more).1)
  | [], R, more, _, _ => ⟨Nat.le_refl _, fun c => .inl c⟩
  | x :: r, R, more, hx, hR => by
    rw [roundR]
    have ih := fun R more => roundR_grow (h := h) r R more fun y hy => hx y (by simp [hy])
    unfold stepR
    split
    · rename_i c0
      have hg := markF_grow (b := R.getD h false) (show x.2.toNat < R.length by rw [hR]; exact hx x (by simp) c0)
      have hl := markF_len R x.2.toNat (R.getD h false)
      generalize markF R x.2.toNat (R.getD h false) = a at *
      obtain ⟨R2, m2⟩ := a
      dsimp only at *
      obtain ⟨k1, k2⟩ := ih R2 (m2 || more) (by omega)
      refine ⟨by omega, fun c => ?_⟩
      rcases k2 c with c2 | c2
      · rw [Bool.or_eq_true] at c2
        rcases c2 with c2 | c2
        · have := hg.2 c2
          exact .inr (by omega)
        · exact .inl c2
      · exact .inr (by omega)
    · exact ih R more hR
theorem roundP_grow {n : Nat} {p : gramL.Prod} {s : FS} (hp : p.1.toNat < n) (hx : ∀ x ∈ p.2, x.1 = 2 → x.2.toNat < n) (h : okR n s) : okR n (roundP p s) ∧ had s ≤ had (roundP p s) ∧ ((roundP p s).more = true → s.more = true ∨ had s < had (roundP p s)) := by
  obtain ⟨E, R, M, more⟩ := s
  obtain ⟨h1, h2, h3⟩ := h
  unfold roundP okR had
  dsimp only at *
  have e1 := markF_grow (b := allF E p.2 false) (show p.1.toNat < E.length by omega)
  have e2 := markF_len E p.1.toNat (allF E p.2 false)
  have m1 := markF_grow (b := allF M p.2 true) (show p.1.toNat < M.length by omega)
  have m2 := markF_len M p.1.toNat (allF M p.2 true)
  generalize markF E p.1.toNat (allF E p.2 false) = a at *
  generalize markF M p.1.toNat (allF M p.2 true) = b at *
  obtain ⟨E2, ce⟩ := a
  obtain ⟨M2, cm⟩ := b
  dsimp only at *
  have r1 := roundR_grow (h := p.1.toNat) p.2 R (cm || (ce || more)) hx h2
  have r2 := roundR_len p.1.toNat p.2 R (cm || (ce || more))
  generalize roundR p.1.toNat p.2 R (cm || (ce || more)) = c at *
  obtain ⟨R2, cr⟩ := c
  dsimp only at *
  refine ⟨⟨by omega, by omega, by omega⟩, by omega, fun hc => ?_⟩
  rcases r1.2 hc with h4 | h4
  · rw [Bool.or_eq_true, Bool.or_eq_true] at h4
    rcases h4 with h4 | h4 | h4
    · have := m1.2 h4
      exact .inr (by omega)
    · have := e1.2 h4
      exact .inr (by omega)
    · exact .inl h4
  · exact .inr (by omega)
theorem roundL_grow {n : Nat} : ∀ (l : List gramL.Prod) (s : FS), Fine n l → okR n s → okR n (roundL l s) ∧ had s ≤ had (roundL l s) ∧ ((roundL l s).more = true → s.more = true ∨ had s < had (roundL l s))
  | [], s, _, h => ⟨h, Nat.le_refl _, fun c => .inl c⟩
  | p :: r, s, hf, h => by
    rw [roundL]
    obtain ⟨a1, a2, a3⟩ := roundP_grow (s := s) (hf.head p (by simp)).2 (fun x hx h2 => (hf.non p (by simp) x hx (by omega)).2.2) h
    obtain ⟨k1, k2, k3⟩ := roundL_grow r (roundP p s) hf.tail a1
    refine ⟨k1, by omega, fun c => ?_⟩
    rcases k3 c with c2 | c2
    · rcases a3 c2 with c3 | c3
      · exact .inl c3
      · exact .inr (by omega)
    · exact .inr (by omega)
theorem had_le {n : Nat} {s : FS} (h : okR n s) : had s ≤ 3 * n := by
  have a := trues_le s.E
  have b := trues_le s.R
  have c := trues_le s.M
  obtain ⟨h1, h2, h3⟩ := h
  unfold had; omega
/-- what is still missing after rounds -/
def lackS (n : Nat) (s : FS) : Nat := 3 * n - had s
theorem fallsS {n : Nat} {l : List gramL.Prod} (hf : Fine n l) : Falls (stepS l) (okR n) (lackS n) :=
  ⟨fun s hs => (roundL_grow l ⟨s.E, s.R, s.M, false⟩ hf hs).1, fun s hs c => by
    have h := roundL_grow l ⟨s.E, s.R, s.M, false⟩ hf hs
    have h2 := had_le h.1
    rcases h.2.2 c with h3 | h3
    · cases h3
    · have e : had ⟨s.E, s.R, s.M, false⟩ = had s := rfl
      show 3 * n - had (roundL l ⟨s.E, s.R, s.M, false⟩) < 3 * n - had s
      omega⟩
end Go.Proofs.Ytnicebdkejkieaa.factsL
