/- Laws of what matches: cuts of a text, stars. -/
import Derived.Test.YtbiacehgfmgfdaaDoorRexW
namespace Go.Proofs.YtbiacehgfmgfdaaDoor.eng
open Go.RowKit kit mix classL rexL classSets
theorem cat_cut {x y : Re} {s : List UInt8} : Lang (.cat x y) s ↔ ∃ j, j ≤ s.length ∧ Lang x (s.take j) ∧ Lang y (s.drop j) := by
  constructor
  · rintro ⟨u, v, rfl, a, b⟩
    exact ⟨u.length, by simp, by simpa using a, by simpa using b⟩
  · rintro ⟨j, _, a, b⟩
    exact ⟨_, _, (List.take_append_drop j s).symm, a, b⟩
theorem star_cut {x : Re} {s : List UInt8} : Lang (.star x) s ↔ s = [] ∨ ∃ j, 1 ≤ j ∧ j ≤ s.length ∧ Lang x (s.take j) ∧ Lang (.star x) (s.drop j) := by
  constructor
  · intro h
    replace h : Star (Lang x) s := h
    induction h with
    | nil => exact .inl rfl
    | cons hu hv ih =>
      rename_i u v
      by_cases c : u = []
      · subst c; simpa using ih
      · have : 0 < u.length := List.length_pos_iff.2 c
        exact .inr ⟨u.length, this, by simp, by simpa using hu, by rw [List.drop_left]; exact hv⟩
  · rintro (rfl | ⟨j, _, _, a, b⟩)
    · exact Star.nil
    · have := Star.cons a b
      rw [List.take_append_drop] at this
      exact this
theorem star_star {x : Re} {s : List UInt8} : Lang (.star (.star x)) s ↔ Lang (.star x) s := by
  constructor
  · intro h
    replace h : Star (Lang (.star x)) s := h
    induction h with
    | nil => exact Star.nil
    | cons hu _ ih => exact star_app hu ih
  · intro h
    have := Star.cons (P := Lang (.star x)) h .nil
    rw [List.append_nil] at this
    exact this
theorem ab_law : isF (.mk 4 C4.zero [.mk 3 (rangeF 97 97) [], .mk 3 (rangeF 98 98) []]) [97, 98] = (true, false) := by
  refine is_fit (e := .cat (.byte (rangeF 97 97)) (.byte (rangeF 98 98))) ⟨⟨byte_nz (b := 97) (by decide), byte_nz (b := 98) (by decide)⟩, by decide, by decide⟩ (by decide) ⟨fun _ => ?_, fun _ => rfl⟩
  exact ⟨[97], [98], rfl, byte_lang (b := 97), byte_lang (b := 98)⟩
theorem nil_law : isF (.mk 6 C4.zero [.mk 3 (rangeF 97 97) []]) [] = (true, false) := by
  refine is_fit (e := .star (.byte (rangeF 97 97))) ⟨byte_nz (b := 97) (by decide), by decide, by decide⟩ (by decide) ⟨fun _ => ?_, fun _ => rfl⟩
  exact Star.nil
/-- what is said of an expression that is as it should be -/
def IsOk (r : Rx) (x : Re) : Prop := ∀ u : List UInt8, u.length ≤ 200 → ∃ b, isF r u = (b, false) ∧ (b = true ↔ Lang x u)
open Classical in
theorem isOk {e : Re} (h : Fit e 1 0) : IsOk (emb e) e := fun u hu => ⟨decide (Lang e u), is_fit h hu (by simp), by simp⟩
theorem cat_ok {r q : Rx} {s : List UInt8} (h : (isF (.mk 4 C4.zero [r, q]) s).2 = false) : ∃ x y, IsOk r x ∧ IsOk q y ∧ ((isF (.mk 4 C4.zero [r, q]) s).1 = true ↔ Lang (.cat x y) s) := by
  obtain ⟨e, h1, h2, _, h4⟩ := is_bad h
  obtain ⟨x, y, rfl, rfl, ⟨rfl, _⟩ | ⟨_, h6⟩⟩ := fit_kids h1.symm
  · have := h2.sz
    have := h2.dp
    simp only [Re.size, Re.hgt] at *
    have := x.size_pos
    have := y.size_pos
    exact ⟨x, y, isOk ⟨h2.nz.1, by omega, by omega⟩, isOk ⟨h2.nz.2, by omega, by omega⟩, h4⟩
  · cases h6
theorem star_ok {r : Rx} {s : List UInt8} (h : (isF (.mk 6 C4.zero [r]) s).2 = false) : ∃ x, IsOk r x ∧ IsOk (.mk 6 C4.zero [r]) (.star x) ∧ ((isF (.mk 6 C4.zero [r]) s).1 = true ↔ Lang (.star x) s) ∧ r = emb x := by
  obtain ⟨e, h1, h2, _, h4⟩ := is_bad h
  cases e with
  | star x =>
    simp only [emb, Rx.mk.injEq, List.cons.injEq, and_true, true_and] at h1
    have := h2.sz
    have := h2.dp
    simp only [Re.size, Re.hgt] at *
    subst h1
    exact ⟨x, isOk ⟨h2.nz, by omega, by omega⟩, isOk h2, h4, rfl⟩
  | _ => simp [emb] at h1
theorem star2_ok {r : Rx} {s : List UInt8} {x : Re} (hx : r = emb x) (h : (isF (.mk 6 C4.zero [.mk 6 C4.zero [r]]) s).2 = false) : ((isF (.mk 6 C4.zero [.mk 6 C4.zero [r]]) s).1 = true ↔ Lang (.star x) s) := by
  obtain ⟨e, h1, h2, _, h4⟩ := is_bad h
  subst hx
  obtain rfl : Re.star (.star x) = e := emb_inj h1
  rw [h4, star_star]
/-- on the way through a text's cuts, from k on -/
def Cut (x y : Re) (s : List UInt8) (k i : Nat) (want : Bool) : Prop := want = true ↔ ∃ j, k ≤ j ∧ j < i ∧ j ≤ s.length ∧ Lang x (s.take j) ∧ Lang y (s.drop j)
theorem cut0 (x y : Re) (s : List UInt8) (k : Nat) : Cut x y s k k false := ⟨fun h => (by cases h), fun ⟨j, h1, h2, _⟩ => (by omega)⟩
theorem cut_next {x y : Re} {s : List UInt8} {k i : Nat} {b b' : Bool} (h : Cut x y s k i false) (hk : k ≤ i) (hi : i ≤ s.length) (h1 : b = true ↔ Lang x (s.take i)) (h2 : b' = true ↔ Lang y (s.drop i)) : Cut x y s k (i + 1) (b && b') := by
  unfold Cut at *
  rw [Bool.and_eq_true, h1, h2]
  constructor
  · rintro ⟨a, c⟩; exact ⟨i, hk, by omega, hi, a, c⟩
  · rintro ⟨j, a, c, d, e, f⟩
    by_cases q : j = i
    · subst q; exact ⟨e, f⟩
    · exact absurd (h.2 ⟨j, a, by omega, d, e, f⟩) (by decide)
theorem cut_end {x y : Re} {s : List UInt8} {k i : Nat} {want : Bool} (h : Cut x y s k i want) (hi : want = true ∨ s.length < i) : want = true ↔ ∃ j, k ≤ j ∧ j ≤ s.length ∧ Lang x (s.take j) ∧ Lang y (s.drop j) := by
  constructor
  · intro hw
    obtain ⟨j, a, _, b⟩ := h.1 hw
    exact ⟨j, a, b⟩
  · rintro ⟨j, a, b, c⟩
    rcases hi with hi | hi
    · exact hi
    · exact h.2 ⟨j, a, by omega, b, c⟩
def cut60 (s : List UInt8) : List UInt8 := if 60 < s.length then s.take 60 else s
theorem cut60_len (s : List UInt8) : (cut60 s).length ≤ 60 := by
  unfold cut60
  split
  · rw [List.length_take]; omega
  · omega
end Go.Proofs.YtbiacehgfmgfdaaDoor.eng
