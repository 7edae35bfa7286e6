/- Expressions turned round: plain; cells of expressions. -/
import Derived.Test.YtbiacehgfmgfdaaDoorRexV
namespace Go.Proofs.YtbiacehgfmgfdaaDoor.rexL
open classL
def turn : Re → Re
  | .cat a b => .cat (turn b) (turn a)
  | .alt a b => .alt (turn a) (turn b)
  | .star a => .star (turn a)
  | r => r
theorem turn_size (r : Re) : (turn r).size = r.size := by induction r <;> simp [turn, Re.size, *]; omega
theorem turn_hgt (r : Re) : (turn r).hgt = r.hgt := by induction r <;> simp [turn, Re.hgt, *]; omega
theorem turn_nz (r : Re) : (turn r).nz ↔ r.nz := by induction r <;> simp [turn, Re.nz, *]; exact and_comm
theorem turn_kind (r : Re) : (turn r).kind = r.kind := by cases r <;> rfl
theorem turn_cls (r : Re) : (turn r).cls = r.cls := by cases r <;> rfl
theorem turn_fit {r : Re} {d n : Nat} (h : Fit r d n) : Fit (turn r) d n := ⟨(turn_nz r).2 h.nz, by rw [turn_size]; exact h.sz, by rw [turn_hgt]; exact h.dp⟩
theorem star_rev {P Q : List UInt8 → Prop} (h : ∀ u, P u → Q u.reverse) {s : List UInt8} (hs : Star P s) : Star Q s.reverse := by
  induction hs with
  | nil => exact .nil
  | cons hu _ ih => rw [List.reverse_append]; exact star_snoc ih (h _ hu)
theorem turn_lang1 : ∀ (r : Re) (s : List UInt8), Lang r s → Lang (turn r) s.reverse
  | .none, _, h => h
  | .empty, s, h => by rw [show s = [] from h]; rfl
  | .byte c, s, ⟨b, h1, h2⟩ => by subst h1; exact ⟨b, rfl, h2⟩
  | .cat a b, s, ⟨u, v, h1, h2, h3⟩ => by
    subst h1
    exact ⟨v.reverse, u.reverse, by rw [List.reverse_append], turn_lang1 b v h3, turn_lang1 a u h2⟩
  | .alt a b, s, h => by
    rcases h with h | h
    · exact .inl (turn_lang1 a s h)
    · exact .inr (turn_lang1 b s h)
  | .star a, s, h => star_rev (fun u hu => turn_lang1 a u hu) h
theorem turn_turn (r : Re) : turn (turn r) = r := by induction r <;> simp [turn, *]
theorem turn_lang (r : Re) (s : List UInt8) : Lang (turn r) s.reverse ↔ Lang r s := by
  refine ⟨fun h => ?_, turn_lang1 r s⟩
  have := turn_lang1 _ _ h
  rw [turn_turn, List.reverse_reverse] at this
  exact this
end Go.Proofs.YtbiacehgfmgfdaaDoor.rexL
namespace Go.Proofs.YtbiacehgfmgfdaaDoor.eng
open Go.RowKit kit mix classL rexL classSets
theorem turned_law {e : Re} (h : Fit e 1 0) (s : List UInt8) : (isF (emb (turn e)) s.reverse).1 = (isF (emb e) s).1 := by
  by_cases c : s.length ≤ 200
  · obtain ⟨b, h1, h2⟩ := isOk h s c
    rw [h1]
    rw [is_fit (turn_fit h) (by rw [List.length_reverse]; exact c) (b := b) (by rw [h2, turn_lang])]
  · have e1 : isF (emb e) s = (false, true) := by
      unfold isF; rw [mat_bad2 (fit_chkX h) (by omega)]; rfl
    have e2 : isF (emb (turn e)) s.reverse = (false, true) := by
      unfold isF; rw [mat_bad2 (fit_chkX (turn_fit h)) (by rw [List.length_reverse]; omega)]; rfl
    rw [e1, e2]
/-- cells of an expression whose kids lie somewhere -/
abbrev RC := Int × C4 × Option Addr × Nat × Nat
def rcC (x : RC) : List Value := rexC x.1 x.2.1 (.slice x.2.2.1 x.2.2.2.1 x.2.2.2.2)
theorem rc_one (l : List RC) : ∀ u ∈ l.flatMap rcC, u.oneCell' = true := by
  intro u hu
  obtain ⟨x, _, h⟩ := List.mem_flatMap.1 hu
  simp only [rcC, rexC, clsL, List.mem_cons, List.mem_append, List.not_mem_nil, or_false] at h
  rcases h with rfl | (rfl | rfl | rfl | rfl) | rfl <;> rfl
end Go.Proofs.YtbiacehgfmgfdaaDoor.eng
