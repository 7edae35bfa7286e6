/- NAGLE: who needs some from beginning to end gets at most a slice more than another one who does. -/
import Derived.Test.YtbgamboahifnoaaDealM
namespace Go.Proofs.Ytbgamboahifnoaa.dealL
theorem dist_inj (len a i k : Nat) (ha : a < len) (hi : i < len) (hk : k < len) (h : dist len a i = dist len a k) : i = k := by
  unfold dist at h; split at h <;> split at h <;> omega
theorem dist_lt (len i k : Nat) (hi : i < len) (hk : k < len) (h : i ≠ k) : dist len i k < dist len i i := by
  unfold dist; rw [if_neg (Nat.lt_irrefl i)]; split <;> omega
/-- who is next lies no farther than one who is ready -/
theorem next_near (l : List Int) (last : Int) (w i : Nat) (hw : turnF (ready l) last = (w : Int)) (hi : i < l.length) (hp : 0 < l.getD i 0) :
    (w = i ∧ dist l.length (fromN l.length last) w = dist l.length (fromN l.length last) i) ∨ (w ≠ i ∧ dist l.length w i = dist l.length (fromN l.length last) i - dist l.length (fromN l.length last) w ∧ dist l.length (fromN l.length last) w < dist l.length (fromN l.length last) i) := by
  have hf := from_lt l.length last (by omega)
  rcases turnF_cases (ready l) last with ⟨e, _⟩ | ⟨t, ht, hpt, hb, e⟩
  · rw [e] at hw; omega
  · rw [ready_length] at ht hpt hb e
    generalize fromN l.length last = a at *
    have hwe : w = (a + 1 + t) % l.length := by rw [e] at hw; omega
    have hwl : w < l.length := by rw [hwe]; exact Nat.mod_lt _ (by omega)
    obtain ⟨d0, d1, d2⟩ := dist_pos l.length a i hf hi
    obtain ⟨c0, c1, c2⟩ := dist_pos l.length a w hf hwl
    have hcw : dist l.length a w = t + 1 := by
      have := mod_inj l.length (a + 1) (dist l.length a w - 1) t (by omega) ht (by rw [show a + 1 + (dist l.length a w - 1) = a + dist l.length a w by omega, c2, hwe])
      omega
    have hle : t + 1 ≤ dist l.length a i := by
      rcases Nat.lt_or_ge (dist l.length a i) (t + 1) with h | h
      · have := hb (dist l.length a i - 1) (by omega)
        unfold turnAt at this
        rw [ready_length, show a + 1 + (dist l.length a i - 1) = a + dist l.length a i by omega, d2, ready_get _ _ hi] at this
        exact absurd (of_decide_eq_false this) (by omega)
      · exact h
    by_cases hwi : w = i
    · left; exact ⟨hwi, by rw [hwi]⟩
    · right
      have hne : t + 1 ≠ dist l.length a i := fun h => hwi (dist_inj l.length a w i hf hwl hi (by rw [hcw, h]))
      have h3 := dist_step l.length a i t hf hi (by omega)
      rw [← hwe] at h3
      exact ⟨hwi, by rw [h3, hcw], by omega⟩
def Nag (slice : Int) (len from_ i k : Nat) (D : Int) : Prop := (dist len from_ i < dist len from_ k → -slice ≤ D ∧ D ≤ 0) ∧ (dist len from_ k < dist len from_ i → 0 ≤ D ∧ D ≤ slice)
theorem deals_fair (slice : Int) (hs : 1 ≤ slice) (i k : Nat) (hik : i ≠ k) : ∀ (f : Nat) (last : Int) (l : List Int) (budget D : Int), (∀ k, k < l.length → 0 ≤ l.getD k 0) → 0 ≤ budget → i < l.length → k < l.length →
    0 < l.getD i 0 - got (deals slice f last l budget).1 i → 0 < l.getD k 0 - got (deals slice f last l budget).1 k → -slice ≤ D → D ≤ slice → (0 < budget → Nag slice l.length (fromN l.length last) i k D) → budget ≤ f →
    D + got (deals slice f last l budget).1 i - got (deals slice f last l budget).1 k ≤ slice
  | 0, last, l, budget, D, _, _, _, _, _, _, _, h, _, _ => by simp [deals, got]; exact h
  | f + 1, last, l, budget, D, hl, hb, hi, hk, hLi, hLk, hD1, hD2, hN, hf => by
    unfold deals at hLi hLk ⊢
    by_cases c1 : budget ≤ 0
    · rw [if_pos c1]; simp [got]; exact hD2
    · rw [if_neg c1] at hLi hLk ⊢
      by_cases c2 : turnF (ready l) last < 0
      · rw [if_pos c2]; simp [got]; exact hD2
      · rw [if_neg c2] at hLi hLk ⊢
        obtain ⟨hw, hpos, hwe⟩ := turn_hit l last c2
        generalize (turnF (ready l) last).toNat = w at *
        have hn : min (min (l.getD w 0) slice) budget ≤ l.getD w 0 ∧ min (min (l.getD w 0) slice) budget ≤ budget ∧ min (min (l.getD w 0) slice) budget ≤ slice ∧ 1 ≤ min (min (l.getD w 0) slice) budget ∧
          (min (min (l.getD w 0) slice) budget < l.getD w 0 → min (min (l.getD w 0) slice) budget = slice ∨ min (min (l.getD w 0) slice) budget = budget) := by omega
        simp only at hLi hLk ⊢
        generalize min (min (l.getD w 0) slice) budget = n at *
        obtain ⟨hn1, hn2, hn3, hn4, hn5⟩ := hn
        have hl2 : ∀ i, i < (l.set w (l.getD w 0 - n)).length → 0 ≤ (l.set w (l.getD w 0 - n)).getD i 0 := fun i hi => by
          rw [getD_set _ _ _ _ hw]
          split
          · omega
          · exact hl i (by simpa using hi)
        rw [List.length_set] at hl2
        have gc : ∀ (r : List (Nat × Int)) (j : Nat), got ((w, n) :: r) j = (if w = j then n else 0) + got r j := fun r j => by simp [got]
        have hall := deals_all slice hs f (w : Int) (l.set w (l.getD w 0 - n)) (budget - n) (by rw [List.length_set]; exact hl2) (by omega) (by omega)
        have g0 := hall.2.2.1
        clear hall
        have ih := deals_fair slice hs i k hik f (w : Int) (l.set w (l.getD w 0 - n)) (budget - n)
        rw [List.length_set] at ih
        rw [fromN_in _ _ hw, getD_set _ _ _ _ hw, getD_set _ _ _ _ hw] at ih
        rw [gc] at hLi hLk
        rw [gc, gc]
        generalize (deals slice f (w : Int) (l.set w (l.getD w 0 - n)) (budget - n)).1 = out at *
        have gi := g0 i
        have gk := g0 k
        obtain ⟨N1, N2⟩ := hN (by omega)
        have ni := next_near l last w i hwe hi (by split at hLi <;> omega)
        have nk := next_near l last w k hwe hk (by split at hLk <;> omega)
        by_cases ei : w = i
        · subst ei
          have ek : w ≠ k := hik
          rw [if_pos rfl] at hLi
          rw [if_neg ek] at hLk
          rw [if_pos rfl, if_neg (Ne.symm ek)] at ih
          rw [if_pos rfl, if_neg ek]
          obtain ⟨_, hlt⟩ : True ∧ dist l.length (fromN l.length last) w < dist l.length (fromN l.length last) k := by
            rcases nk with ⟨h, _⟩ | ⟨_, _, h⟩
            · exact absurd h ek
            · exact ⟨trivial, h⟩
          have hN1 := N1 hlt
          have h5 := hn5 (by omega)
          have := ih (D + n) hl2 (by omega) hi hk (by omega) (by omega) (by omega) (by omega) (fun hb2 => ⟨fun h => by have := dist_lt l.length w k hw hk ek; omega, fun _ => by omega⟩) (by omega)
          omega
        · by_cases ek : w = k
          · subst ek
            rw [if_pos rfl] at hLk
            rw [if_neg ei] at hLi
            rw [if_pos rfl, if_neg (fun h => ei h.symm)] at ih
            rw [if_pos rfl, if_neg ei]
            obtain ⟨_, hlt⟩ : True ∧ dist l.length (fromN l.length last) w < dist l.length (fromN l.length last) i := by
              rcases ni with ⟨h, _⟩ | ⟨_, _, h⟩
              · exact absurd h ei
              · exact ⟨trivial, h⟩
            have hN2 := N2 hlt
            have h5 := hn5 (by omega)
            have := ih (D - n) hl2 (by omega) hi hk (by omega) (by omega) (by omega) (by omega) (fun hb2 => ⟨fun _ => by omega, fun h => by have := dist_lt l.length w i hw hi ei; omega⟩) (by omega)
            omega
          · rw [if_neg ei] at hLi
            rw [if_neg ek] at hLk
            rw [if_neg (fun h => ei h.symm), if_neg (fun h => ek h.symm)] at ih
            rw [if_neg ei, if_neg ek]
            have hi2 : dist l.length w i = dist l.length (fromN l.length last) i - dist l.length (fromN l.length last) w ∧ dist l.length (fromN l.length last) w < dist l.length (fromN l.length last) i := by
              rcases ni with ⟨h, _⟩ | ⟨_, h⟩
              · exact absurd h ei
              · exact h
            have hk2 : dist l.length w k = dist l.length (fromN l.length last) k - dist l.length (fromN l.length last) w ∧ dist l.length (fromN l.length last) w < dist l.length (fromN l.length last) k := by
              rcases nk with ⟨h, _⟩ | ⟨_, h⟩
              · exact absurd h ek
              · exact h
            have := ih D hl2 (by omega) hi hk (by omega) (by omega) hD1 hD2 (fun hb2 => ⟨fun h => N1 (by omega), fun h => N2 (by omega)⟩) (by omega)
            omega
end Go.Proofs.Ytbgamboahifnoaa.dealL
