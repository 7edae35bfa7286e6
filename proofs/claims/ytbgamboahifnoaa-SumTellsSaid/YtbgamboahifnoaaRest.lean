/- What pushref.Rest computes. -/
import Derived.Test.YtbgamboahifnoaaKit
import Derived.Test.YtbgamboahifnoaaRows
namespace Go.Proofs.Ytbgamboahifnoaa
open Go.RowKit
set_option maxHeartbeats 400000 in
/-- pushref.Rest -/
theorem rest_calls (n m : Int) (w : World) (hn0 : -9223372036854775808 ≤ n) (hn1 : n ≤ 9223372036854775807) (hm0 : 0 < m) (hm1 : m ≤ 9223372036854775807) :
    Calls Try.prog 17 #[.int .i64 n, .int .i64 m] w fun e w' => e = .returned (.int .i64 (n % m)) ∧ w = w' := by
  have hm : (m == 0) = false := by simp; omega
  have hr1 := Int.emod_nonneg n (show m ≠ 0 by omega)
  have hr2 := Int.emod_lt_of_pos n hm0
  by_cases h : n.tmod m < 0
  · have e : n.tmod m + m = n % m := by
      rw [Int.tmod_eq_emod] at h ⊢
      split at h
      · omega
      · rename_i hd
        rw [if_neg hd]
        have : (m.natAbs : Int) = m := by omega
        omega
    have h2 : 0 ≤ n.tmod m + m := by omega
    have h3 : n.tmod m + m < m := by omega
    go_enter Try.func17, Try.ntmps17
    go_wp2
    go_ret
    exact ⟨rfl, rfl⟩
  · have e : n.tmod m = n % m := by
      rw [Int.tmod_eq_emod] at h ⊢
      split at h
      · rename_i hd
        rw [if_pos hd]; omega
      · rename_i hd
        rw [if_neg hd]
        have : (m.natAbs : Int) = m := by omega
        omega
    have h2 : ¬ n % m < 0 := by omega
    clear h
    go_enter Try.func17, Try.ntmps17
    go_wp2
    go_ret
    exact ⟨rfl, rfl⟩
end Go.Proofs.Ytbgamboahifnoaa
