/- What small.Apart says: as the laws have it; automata that are written out. -/
import Derived.Test.YtbiacehgfmgfdaaSmA
namespace Go.Proofs.Ytbiacehgfmgfdaa.eng
open Go.RowKit kit mix dfaL smallL
theorem ap_len {A B : Aut} (hA : A.Ok) (hB : B.Ok) {s : List UInt8} (h : apF A B = some s) : s.length ≤ 40402 := by
  have he := ap_ends hA hB
  unfold apF at h
  generalize apGo A B fuelA 0 [noStep] = r at *
  obtain ⟨m, todo⟩ := r
  cases m with
  | none => cases h
  | some n =>
    simp only [Option.some.injEq] at h
    subst h
    have h1 := (he.one n rfl).1
    have h2 := tok_len hA hB he.ok
    have h3 := back_len todo (n + 1) n
    rw [List.length_reverse]
    unfold wayB
    dsimp only at h1 h2
    omega
theorem apart_err {R R' : List Row} {tags tags' : List Int} (h : chk R tags ≠ 0 ∨ chk R' tags' ≠ 0) : ∃ e, e ≠ 0 ∧ apartF R tags R' tags' = ([], false, e) := by
  unfold apartF
  by_cases c : chk R tags ≠ 0
  · exact ⟨_, c, if_pos c⟩
  · have c' := h.resolve_left c
    exact ⟨_, c', by rw [if_neg c, if_pos c']⟩
theorem apart_swp {R R' : List Row} {tags tags' : List Int} (h : chk R tags = 0) (h' : chk R' tags' = 0) : apartF R' tags' R tags = apartF R tags R' tags' := by
  unfold apartF
  rw [if_neg (by simpa using h'), if_neg (by simpa using h), if_neg (by simpa using h), if_neg (by simpa using h'), ap_swp]
/-- both read: nothing is found, or a text that tells them apart, and none of its beginnings does -/
theorem apart_law {R R' : List Row} {tags tags' : List Int} (h : chk R tags = 0) (h' : chk R' tags' = 0) :
    (apartF R tags R' tags' = ([], false, 0) ∧ ∀ s, tagF R tags s = tagF R' tags' s) ∨ ∃ s, apartF R tags R' tags' = (s, true, 0) ∧ s.length ≤ 40402 ∧ (tagF R tags s).1 ≠ (tagF R' tags' s).1 ∧ ∀ n, n < s.length → (tagF R tags (s.take n)).1 = (tagF R' tags' (s.take n)).1 := by
  have hA := (chk_ok h).1
  have hB := (chk_ok h').1
  cases e : apF (aut R tags) (aut R' tags') with
  | none => exact .inl ⟨apart_none h h' e, fun s => by rw [tagF_ok h, tagF_ok h', ap_none hA hB e s]⟩
  | some s =>
    have := ap_some hA hB e
    refine .inr ⟨s, apart_some h h' e, ap_len hA hB e, ?_, fun n hn => ?_⟩
    · rw [tagF_ok h, tagF_ok h']; exact this.1
    · rw [tagF_ok h, tagF_ok h']; exact this.2 n hn
theorem apart_law2 {R R' : List Row} {tags tags' : List Int} (h : chk R tags = 0) (h' : chk R' tags' = 0) :
    ∃ s is, apartF R tags R' tags' = (s, is, 0) ∧ s.length ≤ 40402 ∧ (is = false → decide (s ≠ []) = false) ∧ ∀ i, i ≤ s.length → decide ((tagF R tags (s.take i)).1 ≠ (tagF R' tags' (s.take i)).1) = (is && decide ((i : Int) = (s.length : Int))) := by
  rcases apart_law h h' with ⟨e, hl⟩ | ⟨s, e, h1, h2, h3⟩
  · refine ⟨[], false, e, by decide, fun _ => by decide, fun i _ => ?_⟩
    rw [hl]; simp
  · refine ⟨s, true, e, h1, fun h => (by cases h), fun i hi => ?_⟩
    by_cases c : i = s.length
    · subst c
      rw [List.take_length, decide_eq_true h2, decide_eq_true rfl]; rfl
    · rw [h3 i (by omega), decide_eq_false (fun h => h rfl), decide_eq_false (by omega)]; rfl
/-! ### one state -/
theorem build_row0 (w : World) : (Instr.build 31 #[]).run Try.prog w = .ok (rowV row0) w := by kernel_rfl
theorem build_dfaS (g h : Nat) (w : World) : (Instr.build 25 #[(0, .slice (some ⟨g, 0, none⟩) 1 1), (1, .slice (some ⟨h, 0, none⟩) 1 1)]).run Try.prog w = .ok (dfaV (.slice (some ⟨g, 0, none⟩) 1 1) (.slice (some ⟨h, 0, none⟩) 1 1)) w := by kernel_rfl
theorem chk_one0 : chk [row0] [0] = 0 := by kernel_rfl
theorem chk_one1 : chk [row0] [1] = 0 := by kernel_rfl
theorem chk_oneN : chk [row0] [-1] = 0 := by kernel_rfl
theorem apart_one : apartF [row0] [0] [row0] [1] = ([], true, 0) := by
  refine apart_some chk_one0 chk_one1 ?_
  unfold apF
  rw [show fuelA = 40401 + 1 from rfl, apGo_succ, if_pos (by decide), if_pos (by decide)]
  rfl
theorem row0_flat : (rowC row0).toArray.toList = [row0].flatMap rowC := by simp
theorem row0_size : (rowC row0).toArray.size = 256 := by rw [List.size_toArray, rowC_len]
end Go.Proofs.Ytbiacehgfmgfdaa.eng
