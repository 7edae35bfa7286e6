/- A stream that is cut: no program in sight. -/
import Derived.Test.YtnooleopmlijeaaFrameT
import Derived.Test.YtnooleopmlijeaaFrameE
namespace Go.Proofs.Ytnooleopmlijeaa.frameL
open sumL eng
theorem nn_app {a t : List UInt8} (h : 4 ≤ a.length) : nn (a ++ t) = nn a := by rw [nn, nn, bi_app (by omega), bi_app (by omega)]
theorem le4_app {a t : List UInt8} (h : 4 ≤ a.length) : le4 (a ++ t) = le4 a := by rw [le4, le4, bi_app (by omega), bi_app (by omega), bi_app (by omega), bi_app (by omega)]
theorem front_app (a t : List UInt8) (h : (frontF a).2.2 ≠ 0 ∨ (frontF a).2.1 ≠ 0) : frontF (a ++ t) = frontF a := by
  by_cases c0 : 0 < a.length ∧ (bi a 0 < 1 ∨ 9 < bi a 0)
  · have e : bi (a ++ t) 0 = bi a 0 := bi_app c0.1
    rw [frontF, frontF, if_pos c0, e, if_pos ⟨by simp; omega, c0.2⟩]
  by_cases c1 : a.length < 4
  · exfalso
    rw [frontF, if_neg c0, if_pos c1] at h
    simp at h
  have c0' : ¬ (0 < (a ++ t).length ∧ (bi (a ++ t) 0 < 1 ∨ 9 < bi (a ++ t) 0)) := by
    rw [bi_app (by omega)]
    intro hh; exact c0 ⟨by omega, hh.2⟩
  by_cases c2 : 1024 < nn a
  · rw [frontF, frontF, if_neg c0, if_neg c0', if_neg c1, if_neg (by simp; omega), nn_app (by omega), if_pos c2, if_pos c2]
  by_cases c3 : a.length < nn a + 8
  · exfalso
    rw [frontF, if_neg c0, if_neg c1, if_neg c2, if_pos c3] at h
    simp at h
  have et : (a ++ t).take (nn a + 4) = a.take (nn a + 4) := List.take_append_of_le_length (by omega)
  have ed : (a ++ t).drop (nn a + 4) = a.drop (nn a + 4) ++ t := List.drop_append_of_le_length (by omega)
  have e4 : ((a ++ t).drop 4).take (nn a) = (a.drop 4).take (nn a) := by
    rw [List.drop_append_of_le_length (by omega), List.take_append_of_le_length (by simp; omega)]
  rw [frontF, frontF, if_neg c0, if_neg c0', if_neg c1, if_neg (by simp; omega), nn_app (by omega), if_neg c2, if_neg c2, if_neg c3, if_neg (by simp; omega), et, ed, le4_app (by simp; omega), e4, bi_app (by omega), bi_app (by omega)]
/-- told ahead -/
theorem feedGo_out : ∀ (f : Nat) (s : List UInt8) (out : List Fm), feedGo f s out = ((feedGo f s []).1, out ++ (feedGo f s []).2.1, (feedGo f s []).2.2)
  | 0, s, out => by simp [feedGo]
  | f + 1, s, out => by
    unfold feedGo
    split
    · simp
    · split
      · simp
      · rw [feedGo_out f _ (out ++ _), feedGo_out f _ ([] ++ _)]
        simp
theorem feedL_out (s : List UInt8) (out : List Fm) : feedL s out = ((feedL s []).1, out ++ (feedL s []).2.1, (feedL s []).2.2) := feedGo_out _ s out
theorem feedGo_rest : ∀ (f : Nat) (s : List UInt8) (out : List Fm), (feedGo f s out).1.1.length ≤ s.length
  | 0, s, out => by simp [feedGo]
  | f + 1, s, out => by
    unfold feedGo
    split
    · simp
    · split
      · simp
      · exact Nat.le_trans (feedGo_rest f _ _) (by simp)
theorem feedL_app : ∀ (n : Nat) (a t : List UInt8) (out : List Fm), a.length ≤ n →
    ((feedL a out).2.2 ≠ 0 → feedL (a ++ t) out = feedL a out) ∧ ((feedL a out).2.2 = 0 → feedL (a ++ t) out = feedL ((feedL a out).1.1 ++ t) (feedL a out).2.1 ∧ (feedL a out).1.2 = 0 ∧ (frontF (feedL a out).1.1).2.2 = 0 ∧ (frontF (feedL a out).1.1).2.1 = 0) := fun n => by
  induction n with
  | zero =>
    intro a t out h
    obtain rfl : a = [] := List.eq_nil_of_length_eq_zero (by omega)
    rw [feedL_wait (s := []) (by decide) (by decide)]
    exact ⟨fun h => absurd rfl h, fun _ => ⟨rfl, rfl, show (frontF []).2.2 = 0 by decide, show (frontF []).2.1 = 0 by decide⟩⟩
  | succ n ih =>
    intro a t out h
    have hc := front_cases a
    by_cases c1 : (frontF a).2.2 = 0
    · by_cases c2 : (frontF a).2.1 = 0
      · rw [feedL_wait c1 c2]
        exact ⟨fun h => absurd rfl h, fun _ => ⟨rfl, rfl, c1, c2⟩⟩
      · have hfa := front_app a t (.inr c2)
        have hk : (frontF a).2.1 ≤ a.length ∧ 8 ≤ (frontF a).2.1 := by rcases hc with h | h | h <;> first | exact absurd h.2 c2 | exact ⟨h.2.2.1, h.2.1⟩
        rw [feedL_next c1 c2, feedL_next (s := a ++ t) (by rw [hfa]; exact c1) (by rw [hfa]; exact c2), hfa, List.drop_append_of_le_length hk.1]
        exact ih _ t _ (by simp; omega)
    · have hfa := front_app a t (.inl c1)
      rw [feedL_err c1, feedL_err (s := a ++ t) (by rw [hfa]; exact c1), hfa]
      exact ⟨fun _ => rfl, fun h => absurd h c1⟩
end Go.Proofs.Ytnooleopmlijeaa.frameL
