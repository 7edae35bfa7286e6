/- What pack.ReadList computes. -/
import Derived.Test.YtnooleopmlijeaaPackT
import Derived.Test.YtnooleopmlijeaaMixV
namespace Go.Proofs.Ytnooleopmlijeaa.eng
open Go.RowKit kit mix packL
def listS (r : List (List UInt8) × Int) : Spec Value := rowS 9 1 r.1.length (r.1.map str) fun v => .tuple #[v, .int .i64 r.2]
set_option maxHeartbeats 2000000 in
theorem readList_calls (s : List UInt8) (w : World) (hs : s.length ≤ 9223372036854775807) :
    Calls Try.prog 19 #[str s] w (Meets (listS (readListF s)) w) := by
  refine enter (args := [str s]) (n := 48) Try.func19 rfl rfl rfl ?_
  unfold readListF
  have hc := readF_cases s
  have hcall := readNum_calls s
  unfold triV at hcall
  rcases hc with ⟨x, k, h0, h1, h2⟩ | h2 | h2
  · rw [h2] at hcall ⊢
    simp only [ne_eq, not_true_eq_false, if_false] at hcall ⊢
    by_cases c1 : 100 < x
    · rw [if_pos c1]
      repeat (first
        | refine TL_val (rr_move rfl) rfl rfl rfl ?_
        | refine TL_val (rr_assign rfl) rfl rfl rfl ?_
        | refine TL_nil ?_
        | refine T_seq ?_
        | refine T_region ?_
        | refine T_condT rfl ?_
        | refine T_condF rfl ?_
        | refine T_skip ?_
        | refine T_exit ?_
        | refine T_ret ?_
        | refine T_block ?_
        | refine E_then ?_
        | refine E_thenX ?_
        | refine E_thenR ?_
        | refine E_blockN ?_
        | refine E_blockR ?_
        | refine E_blockX ?_
        | refine E_blockO rfl ?_
        | refine TL_val (rr_extract rfl rfl) rfl rfl rfl ?_
        | refine TL_val (rr_lss rfl rfl (decide_eq_true (by omega))) rfl rfl rfl ?_
        | refine TL_val (rr_lss rfl rfl (decide_eq_false (by omega))) rfl rfl rfl ?_
        | refine TL_val (rr_gtr rfl rfl (decide_eq_true (by omega))) rfl rfl rfl ?_
        | refine TL_val (rr_gtr rfl rfl (decide_eq_false (by omega))) rfl rfl rfl ?_
        | refine TL_val (rr_neq rfl rfl (decide_eq_true (by omega))) rfl rfl rfl ?_
        | refine TL_val (rr_neq rfl rfl (decide_eq_false (by omega))) rfl rfl rfl ?_)
      refine TL_call (he1 EntersC.en rfl rfl) (fun w hm => hcall w (by omega)) rfl rfl rfl ?_
      intro _ _
      repeat (first
        | refine TL_val (rr_move rfl) rfl rfl rfl ?_
        | refine TL_val (rr_assign rfl) rfl rfl rfl ?_
        | refine TL_nil ?_
        | refine T_seq ?_
        | refine T_region ?_
        | refine T_condT rfl ?_
        | refine T_condF rfl ?_
        | refine T_skip ?_
        | refine T_exit ?_
        | refine T_ret ?_
        | refine T_block ?_
        | refine E_then ?_
        | refine E_thenX ?_
        | refine E_thenR ?_
        | refine E_blockN ?_
        | refine E_blockR ?_
        | refine E_blockX ?_
        | refine E_blockO rfl ?_
        | refine TL_val (rr_extract rfl rfl) rfl rfl rfl ?_
        | refine TL_val (rr_lss rfl rfl (decide_eq_true (by omega))) rfl rfl rfl ?_
        | refine TL_val (rr_lss rfl rfl (decide_eq_false (by omega))) rfl rfl rfl ?_
        | refine TL_val (rr_gtr rfl rfl (decide_eq_true (by omega))) rfl rfl rfl ?_
        | refine TL_val (rr_gtr rfl rfl (decide_eq_false (by omega))) rfl rfl rfl ?_
        | refine TL_val (rr_neq rfl rfl (decide_eq_true (by omega))) rfl rfl rfl ?_
        | refine TL_val (rr_neq rfl rfl (decide_eq_false (by omega))) rfl rfl rfl ?_)
      refine E_nilrow 9 1 ?_
      exact E_ret2 rfl rfl rfl fun w hm => hm.meets (S := listS ([], 2)) (.slice none 0 0) trivial [0] (by decide) rfl
    · rw [if_neg c1]
      repeat (first
        | refine TL_val (rr_move rfl) rfl rfl rfl ?_
        | refine TL_val (rr_assign rfl) rfl rfl rfl ?_
        | refine TL_nil ?_
        | refine T_seq ?_
        | refine T_region ?_
        | refine T_condT rfl ?_
        | refine T_condF rfl ?_
        | refine T_skip ?_
        | refine T_exit ?_
        | refine T_ret ?_
        | refine T_block ?_
        | refine E_then ?_
        | refine E_thenX ?_
        | refine E_thenR ?_
        | refine E_blockN ?_
        | refine E_blockR ?_
        | refine E_blockX ?_
        | refine E_blockO rfl ?_
        | refine TL_val (rr_extract rfl rfl) rfl rfl rfl ?_
        | refine TL_val (rr_lss rfl rfl (decide_eq_true (by omega))) rfl rfl rfl ?_
        | refine TL_val (rr_lss rfl rfl (decide_eq_false (by omega))) rfl rfl rfl ?_
        | refine TL_val (rr_gtr rfl rfl (decide_eq_true (by omega))) rfl rfl rfl ?_
        | refine TL_val (rr_gtr rfl rfl (decide_eq_false (by omega))) rfl rfl rfl ?_
        | refine TL_val (rr_neq rfl rfl (decide_eq_true (by omega))) rfl rfl rfl ?_
        | refine TL_val (rr_neq rfl rfl (decide_eq_false (by omega))) rfl rfl rfl ?_)
      refine TL_call (he1 EntersC.en rfl rfl) (fun w hm => hcall w (by omega)) rfl rfl rfl ?_
      intro _ _
      repeat (first
        | refine TL_val (rr_move rfl) rfl rfl rfl ?_
        | refine TL_val (rr_assign rfl) rfl rfl rfl ?_
        | refine TL_nil ?_
        | refine T_seq ?_
        | refine T_region ?_
        | refine T_condT rfl ?_
        | refine T_condF rfl ?_
        | refine T_skip ?_
        | refine T_exit ?_
        | refine T_ret ?_
        | refine T_block ?_
        | refine E_then ?_
        | refine E_thenX ?_
        | refine E_thenR ?_
        | refine E_blockN ?_
        | refine E_blockR ?_
        | refine E_blockX ?_
        | refine E_blockO rfl ?_
        | refine TL_val (rr_strfrom Und.eq rfl rfl (by omega)) rfl rfl rfl ?_
        | refine TL_val (rr_extract rfl rfl) rfl rfl rfl ?_
        | refine TL_val (rr_lss rfl rfl (decide_eq_true (by omega))) rfl rfl rfl ?_
        | refine TL_val (rr_lss rfl rfl (decide_eq_false (by omega))) rfl rfl rfl ?_
        | refine TL_val (rr_gtr rfl rfl (decide_eq_true (by omega))) rfl rfl rfl ?_
        | refine TL_val (rr_gtr rfl rfl (decide_eq_false (by omega))) rfl rfl rfl ?_
        | refine TL_val (rr_neq rfl rfl (decide_eq_true (by omega))) rfl rfl rfl ?_
        | refine TL_val (rr_neq rfl rfl (decide_eq_false (by omega))) rfl rfl rfl ?_)
      refine T_nil 9 1 ?_
      refine T_loop (ι := Nat × List UInt8 × List (List UInt8) × Value) (fun (i, r, o, _) => readTexts x (s.drop k) [] = readTexts (x - i) r o ∧ i ≤ x ∧ r.length ≤ s.length ∧ o.length = i) (fun (i, r, _, v) => [(0, str r), (7, v), (25, .int .u64 (x : Int)), (26, .int .u64 (i : Int))]) (fun (_, _, o, v) => [rowO 9 1 v o.length (o.map str)]) (fun (i, _, _, _) => x - i) (0, s.drop k, [], .slice none 0 0) ⟨rfl, by omega, by simp, rfl⟩ ⟨rfl, rfl, rfl, rfl, trivial⟩ rfl ?_
      rintro ⟨i, r, o, v⟩ ⟨h3, h4, h5, h6⟩
      by_cases c2 : i < x
      · rw [show x - i = (x - (i + 1)) + 1 by omega] at h3
        simp only [readTexts] at h3
        have htc := readText_calls r
        unfold tripV at htc
        by_cases c3 : (readTextF r).2.2 = 0
        · have hrb := readText_back c3
          rw [if_neg (by simpa using c3)] at h3
          rw [c3] at htc
          generalize readTextF r = q at *
          obtain ⟨t, k', e'⟩ := q
          dsimp only at *
          repeat (first
            | refine TL_val (rr_move rfl) rfl rfl rfl ?_
            | refine TL_val (rr_assign rfl) rfl rfl rfl ?_
            | refine TL_nil ?_
            | refine T_seq ?_
            | refine T_region ?_
            | refine T_condT rfl ?_
            | refine T_condF rfl ?_
            | refine T_skip ?_
            | refine T_exit ?_
            | refine T_ret ?_
            | refine T_block ?_
            | refine E_then ?_
            | refine E_thenX ?_
            | refine E_thenR ?_
            | refine E_blockN ?_
            | refine E_blockR ?_
            | refine E_blockX ?_
            | refine E_blockO rfl ?_
            | refine TL_val (rr_extract rfl rfl) rfl rfl rfl ?_
            | refine TL_val (rr_lss rfl rfl (decide_eq_true (by omega))) rfl rfl rfl ?_
            | refine TL_val (rr_lss rfl rfl (decide_eq_false (by omega))) rfl rfl rfl ?_
            | refine TL_val (rr_gtr rfl rfl (decide_eq_true (by omega))) rfl rfl rfl ?_
            | refine TL_val (rr_gtr rfl rfl (decide_eq_false (by omega))) rfl rfl rfl ?_
            | refine TL_val (rr_neq rfl rfl (decide_eq_true (by omega))) rfl rfl rfl ?_
            | refine TL_val (rr_neq rfl rfl (decide_eq_false (by omega))) rfl rfl rfl ?_)
          refine TL_call (he1 EntersC.en rfl rfl) (fun w hm => htc w (by omega)) rfl rfl rfl ?_
          intro _ _
          repeat (first
            | refine TL_val (rr_move rfl) rfl rfl rfl ?_
            | refine TL_val (rr_assign rfl) rfl rfl rfl ?_
            | refine TL_nil ?_
            | refine T_seq ?_
            | refine T_region ?_
            | refine T_condT rfl ?_
            | refine T_condF rfl ?_
            | refine T_skip ?_
            | refine T_exit ?_
            | refine T_ret ?_
            | refine T_block ?_
            | refine E_then ?_
            | refine E_thenX ?_
            | refine E_thenR ?_
            | refine E_blockN ?_
            | refine E_blockR ?_
            | refine E_blockX ?_
            | refine E_blockO rfl ?_
            | refine TL_val (rr_extract rfl rfl) rfl rfl rfl ?_
            | refine TL_val (rr_lss rfl rfl (decide_eq_true (by omega))) rfl rfl rfl ?_
            | refine TL_val (rr_lss rfl rfl (decide_eq_false (by omega))) rfl rfl rfl ?_
            | refine TL_val (rr_gtr rfl rfl (decide_eq_true (by omega))) rfl rfl rfl ?_
            | refine TL_val (rr_gtr rfl rfl (decide_eq_false (by omega))) rfl rfl rfl ?_
            | refine TL_val (rr_neq rfl rfl (decide_eq_true (by omega))) rfl rfl rfl ?_
            | refine TL_val (rr_neq rfl rfl (decide_eq_false (by omega))) rfl rfl rfl ?_)
          refine T_order ([]) [(4, true), (5, true), (6, true), (0, true), (1, true), (2, false), (3, false), (7, true), (8, true)] (sub_nil) (by kernel_rfl) (by kernel_rfl) (by intro c a d v w h; cases d <;> exact h) ?_
          repeat (first
            | refine TV_val (rr_move rfl) rfl rfl rfl ?_
            | refine TV_val (rr_assign rfl) rfl rfl rfl ?_
            | refine TV_val (rr_strfrom Und.eq rfl rfl (by omega)) rfl rfl rfl ?_
            | refine TV_val (rr_extract rfl rfl) rfl rfl rfl ?_
            | refine TV_val (rr_lss rfl rfl (decide_eq_true (by omega))) rfl rfl rfl ?_
            | refine TV_val (rr_lss rfl rfl (decide_eq_false (by omega))) rfl rfl rfl ?_
            | refine TV_val (rr_gtr rfl rfl (decide_eq_true (by omega))) rfl rfl rfl ?_
            | refine TV_val (rr_gtr rfl rfl (decide_eq_false (by omega))) rfl rfl rfl ?_
            | refine TV_val (rr_neq rfl rfl (decide_eq_true (by omega))) rfl rfl rfl ?_
            | refine TV_val (rr_neq rfl rfl (decide_eq_false (by omega))) rfl rfl rfl ?_
            | refine TV_nil ?_)
          refine TV_do (TL_one rfl rfl rfl rfl rfl fun g => TV_on sub_nil ?_)
          refine TV_do (TL_app11 (i := 0) (q := 1) rfl rfl rfl rfl rfl rfl (by omega) (by omega) rfl fun v' => TV_on sub_nil ?_)
          repeat (first
            | refine TV_val (rr_move rfl) rfl rfl rfl ?_
            | refine TV_val (rr_assign rfl) rfl rfl rfl ?_
            | refine TV_val (rr_extract rfl rfl) rfl rfl rfl ?_
            | refine TV_val (rr_lss rfl rfl (decide_eq_true (by omega))) rfl rfl rfl ?_
            | refine TV_val (rr_lss rfl rfl (decide_eq_false (by omega))) rfl rfl rfl ?_
            | refine TV_val (rr_gtr rfl rfl (decide_eq_true (by omega))) rfl rfl rfl ?_
            | refine TV_val (rr_gtr rfl rfl (decide_eq_false (by omega))) rfl rfl rfl ?_
            | refine TV_val (rr_neq rfl rfl (decide_eq_true (by omega))) rfl rfl rfl ?_
            | refine TV_val (rr_neq rfl rfl (decide_eq_false (by omega))) rfl rfl rfl ?_
            | refine TV_nil ?_)
          repeat (first
            | refine TL_val (rr_move rfl) rfl rfl rfl ?_
            | refine TL_val (rr_assign rfl) rfl rfl rfl ?_
            | refine TL_nil ?_
            | refine T_seq ?_
            | refine T_region ?_
            | refine T_condT rfl ?_
            | refine T_condF rfl ?_
            | refine T_skip ?_
            | refine T_exit ?_
            | refine T_ret ?_
            | refine T_block ?_
            | refine E_then ?_
            | refine E_thenX ?_
            | refine E_thenR ?_
            | refine E_blockN ?_
            | refine E_blockR ?_
            | refine E_blockX ?_
            | refine E_blockO rfl ?_
            | refine TL_val (rr_addw rfl rfl (show IntKind.u64.wrap ((i : Int) + 1) = ((i + 1 : Nat) : Int) by rw [IntKind.wrap_u64]; omega)) rfl rfl rfl ?_
            | refine TL_val (rr_extract rfl rfl) rfl rfl rfl ?_
            | refine TL_val (rr_lss rfl rfl (decide_eq_true (by omega))) rfl rfl rfl ?_
            | refine TL_val (rr_lss rfl rfl (decide_eq_false (by omega))) rfl rfl rfl ?_
            | refine TL_val (rr_gtr rfl rfl (decide_eq_true (by omega))) rfl rfl rfl ?_
            | refine TL_val (rr_gtr rfl rfl (decide_eq_false (by omega))) rfl rfl rfl ?_
            | refine TL_val (rr_neq rfl rfl (decide_eq_true (by omega))) rfl rfl rfl ?_
            | refine TL_val (rr_neq rfl rfl (decide_eq_false (by omega))) rfl rfl rfl ?_)
          refine E_pick [0] (by decide) rfl ?_
          exact E_round (i + 1, r.drop k', o ++ [t], v') ⟨h3, by omega, by simp; omega, by simp [h6]⟩ (by show x - (i + 1) < x - i; omega) ⟨rfl, rfl, rfl, rfl, trivial⟩ (by simp)
        · rw [if_pos (by simpa using c3)] at h3
          rw [h3]
          generalize (readTextF r).2.2 = e' at *
          repeat (first
            | refine TL_val (rr_move rfl) rfl rfl rfl ?_
            | refine TL_val (rr_assign rfl) rfl rfl rfl ?_
            | refine TL_nil ?_
            | refine T_seq ?_
            | refine T_region ?_
            | refine T_condT rfl ?_
            | refine T_condF rfl ?_
            | refine T_skip ?_
            | refine T_exit ?_
            | refine T_ret ?_
            | refine T_block ?_
            | refine E_then ?_
            | refine E_thenX ?_
            | refine E_thenR ?_
            | refine E_blockN ?_
            | refine E_blockR ?_
            | refine E_blockX ?_
            | refine E_blockO rfl ?_
            | refine TL_val (rr_extract rfl rfl) rfl rfl rfl ?_
            | refine TL_val (rr_lss rfl rfl (decide_eq_true (by omega))) rfl rfl rfl ?_
            | refine TL_val (rr_lss rfl rfl (decide_eq_false (by omega))) rfl rfl rfl ?_
            | refine TL_val (rr_gtr rfl rfl (decide_eq_true (by omega))) rfl rfl rfl ?_
            | refine TL_val (rr_gtr rfl rfl (decide_eq_false (by omega))) rfl rfl rfl ?_
            | refine TL_val (rr_neq rfl rfl (decide_eq_true (by omega))) rfl rfl rfl ?_
            | refine TL_val (rr_neq rfl rfl (decide_eq_false (by omega))) rfl rfl rfl ?_)
          refine TL_call (he1 EntersC.en rfl rfl) (fun w hm => htc w (by omega)) rfl rfl rfl ?_
          intro _ _
          repeat (first
            | refine TL_val (rr_move rfl) rfl rfl rfl ?_
            | refine TL_val (rr_assign rfl) rfl rfl rfl ?_
            | refine TL_nil ?_
            | refine T_seq ?_
            | refine T_region ?_
            | refine T_condT rfl ?_
            | refine T_condF rfl ?_
            | refine T_skip ?_
            | refine T_exit ?_
            | refine T_ret ?_
            | refine T_block ?_
            | refine E_then ?_
            | refine E_thenX ?_
            | refine E_thenR ?_
            | refine E_blockN ?_
            | refine E_blockR ?_
            | refine E_blockX ?_
            | refine E_blockO rfl ?_
            | refine TL_val (rr_extract rfl rfl) rfl rfl rfl ?_
            | refine TL_val (rr_lss rfl rfl (decide_eq_true (by omega))) rfl rfl rfl ?_
            | refine TL_val (rr_lss rfl rfl (decide_eq_false (by omega))) rfl rfl rfl ?_
            | refine TL_val (rr_gtr rfl rfl (decide_eq_true (by omega))) rfl rfl rfl ?_
            | refine TL_val (rr_gtr rfl rfl (decide_eq_false (by omega))) rfl rfl rfl ?_
            | refine TL_val (rr_neq rfl rfl (decide_eq_true (by omega))) rfl rfl rfl ?_
            | refine TL_val (rr_neq rfl rfl (decide_eq_false (by omega))) rfl rfl rfl ?_)
          refine E_nilrow 9 1 ?_
          exact E_ret2 rfl rfl rfl fun w hm => hm.meets (S := listS ([], e')) (.slice none 0 0) trivial [1] (by decide) rfl
      · rw [show x - i = 0 by omega] at h3
        simp only [readTexts] at h3
        by_cases c3 : r = []
        · rw [if_pos c3] at h3
          rw [h3]
          repeat (first
            | refine TL_val (rr_move rfl) rfl rfl rfl ?_
            | refine TL_val (rr_assign rfl) rfl rfl rfl ?_
            | refine TL_nil ?_
            | refine T_seq ?_
            | refine T_region ?_
            | refine T_condT rfl ?_
            | refine T_condF rfl ?_
            | refine T_skip ?_
            | refine T_exit ?_
            | refine T_ret ?_
            | refine T_block ?_
            | refine E_then ?_
            | refine E_thenX ?_
            | refine E_thenR ?_
            | refine E_blockN ?_
            | refine E_blockR ?_
            | refine E_blockX ?_
            | refine E_blockO rfl ?_
            | refine TL_val (rr_strne rfl rfl (decide_eq_false (by simp [c3]))) rfl rfl rfl ?_
            | refine TL_val (rr_extract rfl rfl) rfl rfl rfl ?_
            | refine TL_val (rr_lss rfl rfl (decide_eq_true (by omega))) rfl rfl rfl ?_
            | refine TL_val (rr_lss rfl rfl (decide_eq_false (by omega))) rfl rfl rfl ?_
            | refine TL_val (rr_gtr rfl rfl (decide_eq_true (by omega))) rfl rfl rfl ?_
            | refine TL_val (rr_gtr rfl rfl (decide_eq_false (by omega))) rfl rfl rfl ?_
            | refine TL_val (rr_neq rfl rfl (decide_eq_true (by omega))) rfl rfl rfl ?_
            | refine TL_val (rr_neq rfl rfl (decide_eq_false (by omega))) rfl rfl rfl ?_)
          exact E_ret2 rfl rfl rfl fun w hm => hm.meets (S := listS (o, 0)) v trivial [0] (by decide) rfl
        · rw [if_neg c3] at h3
          rw [h3]
          repeat (first
            | refine TL_val (rr_move rfl) rfl rfl rfl ?_
            | refine TL_val (rr_assign rfl) rfl rfl rfl ?_
            | refine TL_nil ?_
            | refine T_seq ?_
            | refine T_region ?_
            | refine T_condT rfl ?_
            | refine T_condF rfl ?_
            | refine T_skip ?_
            | refine T_exit ?_
            | refine T_ret ?_
            | refine T_block ?_
            | refine E_then ?_
            | refine E_thenX ?_
            | refine E_thenR ?_
            | refine E_blockN ?_
            | refine E_blockR ?_
            | refine E_blockX ?_
            | refine E_blockO rfl ?_
            | refine TL_val (rr_strne rfl rfl (decide_eq_true c3)) rfl rfl rfl ?_
            | refine TL_val (rr_extract rfl rfl) rfl rfl rfl ?_
            | refine TL_val (rr_lss rfl rfl (decide_eq_true (by omega))) rfl rfl rfl ?_
            | refine TL_val (rr_lss rfl rfl (decide_eq_false (by omega))) rfl rfl rfl ?_
            | refine TL_val (rr_gtr rfl rfl (decide_eq_true (by omega))) rfl rfl rfl ?_
            | refine TL_val (rr_gtr rfl rfl (decide_eq_false (by omega))) rfl rfl rfl ?_
            | refine TL_val (rr_neq rfl rfl (decide_eq_true (by omega))) rfl rfl rfl ?_
            | refine TL_val (rr_neq rfl rfl (decide_eq_false (by omega))) rfl rfl rfl ?_)
          refine E_nilrow 9 1 ?_
          exact E_ret2 rfl rfl rfl fun w hm => hm.meets (S := listS ([], 4)) (.slice none 0 0) trivial [1] (by decide) rfl
  all_goals
    rw [h2] at hcall ⊢
    simp only [ne_eq, if_true] at hcall ⊢
    repeat (first
      | refine TL_val (rr_move rfl) rfl rfl rfl ?_
      | refine TL_val (rr_assign rfl) rfl rfl rfl ?_
      | refine TL_nil ?_
      | refine T_seq ?_
      | refine T_region ?_
      | refine T_condT rfl ?_
      | refine T_condF rfl ?_
      | refine T_skip ?_
      | refine T_exit ?_
      | refine T_ret ?_
      | refine T_block ?_
      | refine E_then ?_
      | refine E_thenX ?_
      | refine E_thenR ?_
      | refine E_blockN ?_
      | refine E_blockR ?_
      | refine E_blockX ?_
      | refine E_blockO rfl ?_
      | refine TL_val (rr_extract rfl rfl) rfl rfl rfl ?_
      | refine TL_val (rr_lss rfl rfl (decide_eq_true (by omega))) rfl rfl rfl ?_
      | refine TL_val (rr_lss rfl rfl (decide_eq_false (by omega))) rfl rfl rfl ?_
      | refine TL_val (rr_gtr rfl rfl (decide_eq_true (by omega))) rfl rfl rfl ?_
      | refine TL_val (rr_gtr rfl rfl (decide_eq_false (by omega))) rfl rfl rfl ?_
      | refine TL_val (rr_neq rfl rfl (decide_eq_true (by omega))) rfl rfl rfl ?_
      | refine TL_val (rr_neq rfl rfl (decide_eq_false (by omega))) rfl rfl rfl ?_)
    refine TL_call (he1 EntersC.en rfl rfl) (fun w hm => hcall w (by omega)) rfl rfl rfl ?_
    intro _ _
    repeat (first
      | refine TL_val (rr_move rfl) rfl rfl rfl ?_
      | refine TL_val (rr_assign rfl) rfl rfl rfl ?_
      | refine TL_nil ?_
      | refine T_seq ?_
      | refine T_region ?_
      | refine T_condT rfl ?_
      | refine T_condF rfl ?_
      | refine T_skip ?_
      | refine T_exit ?_
      | refine T_ret ?_
      | refine T_block ?_
      | refine E_then ?_
      | refine E_thenX ?_
      | refine E_thenR ?_
      | refine E_blockN ?_
      | refine E_blockR ?_
      | refine E_blockX ?_
      | refine E_blockO rfl ?_
      | refine TL_val (rr_extract rfl rfl) rfl rfl rfl ?_
      | refine TL_val (rr_lss rfl rfl (decide_eq_true (by omega))) rfl rfl rfl ?_
      | refine TL_val (rr_lss rfl rfl (decide_eq_false (by omega))) rfl rfl rfl ?_
      | refine TL_val (rr_gtr rfl rfl (decide_eq_true (by omega))) rfl rfl rfl ?_
      | refine TL_val (rr_gtr rfl rfl (decide_eq_false (by omega))) rfl rfl rfl ?_
      | refine TL_val (rr_neq rfl rfl (decide_eq_true (by omega))) rfl rfl rfl ?_
      | refine TL_val (rr_neq rfl rfl (decide_eq_false (by omega))) rfl rfl rfl ?_)
    refine E_nilrow 9 1 ?_
    exact E_ret2 rfl rfl rfl fun w hm => hm.meets (S := listS ([], _)) (.slice none 0 0) trivial [0] (by decide) rfl
end Go.Proofs.Ytnooleopmlijeaa.eng
