/- What pushref.Rest computes, in the new way's words. -/
import Derived.Test.YtbiacehgfmgfdaaMgA
namespace Go.Proofs.Ytbiacehgfmgfdaa.eng
open Go.RowKit kit mix
theorem restE (n m : Int) (w : World) (hn0 : -9223372036854775808 ≤ n) (hn1 : n ≤ 9223372036854775807) (hm0 : 0 < m) (hm1 : m ≤ 9223372036854775807) :
    Calls Try.prog 13 #[.int .i64 n, .int .i64 m] w (Meets (ret (.int .i64 (n % m))) w) := by
  have hm : ¬ m = 0 := by omega
  have hr1 := Int.emod_nonneg n hm
  have hr2 := Int.emod_lt_of_pos n hm0
  refine enter (args := [.int .i64 n, .int .i64 m]) (n := 15) Try.func13 rfl rfl rfl ?_
  have hrem : ∀ w, (binOp .rem 2 (.int .i64 n) (.int .i64 m)).run Try.prog w = .ok (.int .i64 (n.tmod m)) w := fun w => by simp [binOp, Op.intDiv, hm]
  by_cases h : n.tmod m < 0
  · have e : n.tmod m + m = n % m := by
      rw [Int.tmod_eq_emod] at h ⊢
      split at h
      · omega
      · rename_i hd
        rw [if_neg hd]
        have : (m.natAbs : Int) = m := by omega
        omega
    repeat (first
      | refine TL_val (rr_move rfl) rfl rfl rfl ?_
      | refine TL_val (rr_assign rfl) rfl rfl rfl ?_
      | refine TL_nil ?_
      | refine T_seq ?_
      | refine T_region ?_
      | refine T_condT rfl ?_
      | refine T_condF rfl ?_
      | refine T_skip ?_
      | refine T_ret ?_
      | refine E_then ?_
      | refine E_thenR ?_
      | refine TL_val (rr_int rfl rfl hrem) rfl rfl rfl ?_
      | refine TL_val (rr_lss rfl rfl (decide_eq_true (by omega))) rfl rfl rfl ?_
      | refine TL_val (rr_lss rfl rfl (decide_eq_false (by omega))) rfl rfl rfl ?_
      | refine TL_val (rr_add64 rfl rfl (by omega) (by omega) rfl) rfl rfl rfl ?_)
    rw [e]
    exact E_ret1 rfl rfl fun w hm => hm.ret
  · have e : n.tmod m = n % m := by
      rw [Int.tmod_eq_emod] at h ⊢
      split at h
      · rename_i hd
        rw [if_pos hd]; omega
      · rename_i hd
        rw [if_neg hd]
        have : (m.natAbs : Int) = m := by omega
        omega
    repeat (first
      | refine TL_val (rr_move rfl) rfl rfl rfl ?_
      | refine TL_val (rr_assign rfl) rfl rfl rfl ?_
      | refine TL_nil ?_
      | refine T_seq ?_
      | refine T_region ?_
      | refine T_condT rfl ?_
      | refine T_condF rfl ?_
      | refine T_skip ?_
      | refine T_ret ?_
      | refine E_then ?_
      | refine E_thenR ?_
      | refine TL_val (rr_int rfl rfl hrem) rfl rfl rfl ?_
      | refine TL_val (rr_lss rfl rfl (decide_eq_true (by omega))) rfl rfl rfl ?_
      | refine TL_val (rr_lss rfl rfl (decide_eq_false (by omega))) rfl rfl rfl ?_
      | refine TL_val (rr_add64 rfl rfl (by omega) (by omega) rfl) rfl rfl rfl ?_)
    rw [e]
    exact E_ret1 rfl rfl fun w hm => hm.ret
end Go.Proofs.Ytbiacehgfmgfdaa.eng
