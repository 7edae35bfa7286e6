/- What pack.Text, pack.ReadText compute. -/
import Derived.Test.YtnooleopmlijeaaPackR
namespace Go.Proofs.Ytnooleopmlijeaa.eng
open Go.RowKit kit mix packL
/-- how (s, e) is handed back -/
def pairV (r : List UInt8 × Int) : Value := .tuple #[str r.1, .int .i64 r.2]
theorem text_calls (s : List UInt8) (w : World) (hs : s.length ≤ 9223372036854775807) :
    Calls Try.prog 18 #[str s] w (Meets (ret (pairV (textF s))) w) := by
  refine enter (args := [str s]) (n := 13) Try.func18 rfl rfl rfl ?_
  unfold textF
  by_cases h : 4096 < s.length
  · rw [if_pos h]
    repeat (first
      | refine TL_val (rr_move rfl) rfl rfl rfl ?_
      | refine TL_val (rr_assign rfl) rfl rfl rfl ?_
      | refine TL_nil ?_
      | refine T_seq ?_
      | refine T_region ?_
      | refine T_condT rfl ?_
      | refine T_condF rfl ?_
      | refine T_skip ?_
      | refine T_ret ?_
      | refine E_then ?_
      | refine E_thenR ?_
      | refine TL_val (rr_strlen Und.eq rfl) rfl rfl rfl ?_
      | refine TL_val (rr_gtr rfl rfl (decide_eq_true (by omega))) rfl rfl rfl ?_
      | refine TL_val (rr_gtr rfl rfl (decide_eq_false (by omega))) rfl rfl rfl ?_)
    exact E_ret2 rfl rfl rfl fun w hm => hm.ret
  · rw [if_neg h]
    have hw := wrap_u64_nat (x := s.length) (by omega)
    have hl := numL_len (n := s.length) (by omega)
    repeat (first
      | refine TL_val (rr_move rfl) rfl rfl rfl ?_
      | refine TL_val (rr_assign rfl) rfl rfl rfl ?_
      | refine TL_nil ?_
      | refine T_seq ?_
      | refine T_region ?_
      | refine T_condT rfl ?_
      | refine T_condF rfl ?_
      | refine T_skip ?_
      | refine T_ret ?_
      | refine E_then ?_
      | refine E_thenR ?_
      | refine TL_val (rr_conv Und.eq Und.eq rfl hw) rfl rfl rfl ?_
      | refine TL_val (rr_strlen Und.eq rfl) rfl rfl rfl ?_
      | refine TL_val (rr_gtr rfl rfl (decide_eq_true (by omega))) rfl rfl rfl ?_
      | refine TL_val (rr_gtr rfl rfl (decide_eq_false (by omega))) rfl rfl rfl ?_)
    refine TL_call (he1 EntersC.en rfl rfl) (fun w hm => num_calls s.length w (by omega)) rfl rfl rfl ?_
    intro _ _
    repeat (first
      | refine TL_val (rr_move rfl) rfl rfl rfl ?_
      | refine TL_val (rr_assign rfl) rfl rfl rfl ?_
      | refine TL_nil ?_
      | refine T_seq ?_
      | refine T_region ?_
      | refine T_condT rfl ?_
      | refine T_condF rfl ?_
      | refine T_skip ?_
      | refine T_ret ?_
      | refine E_then ?_
      | refine E_thenR ?_
      | refine TL_val (rr_stradd rfl rfl (by omega)) rfl rfl rfl ?_
      | refine TL_val (rr_strlen Und.eq rfl) rfl rfl rfl ?_
      | refine TL_val (rr_gtr rfl rfl (decide_eq_true (by omega))) rfl rfl rfl ?_
      | refine TL_val (rr_gtr rfl rfl (decide_eq_false (by omega))) rfl rfl rfl ?_)
    exact E_ret2 rfl rfl rfl fun w hm => hm.ret
/-- how (s, k, e) is handed back -/
def tripV (r : List UInt8 × Nat × Int) : Value := .tuple #[str r.1, .int .i64 (r.2.1 : Int), .int .i64 r.2.2]
set_option maxHeartbeats 1000000 in
theorem readText_calls (s : List UInt8) (w : World) (hs : s.length ≤ 9223372036854775807) :
    Calls Try.prog 17 #[str s] w (Meets (ret (tripV (readTextF s))) w) := by
  refine enter (args := [str s]) (n := 40) Try.func17 rfl rfl rfl ?_
  unfold readTextF
  have hc := readF_cases s
  have hcall := readNum_calls s
  unfold triV at hcall
  rcases hc with ⟨x, k, h0, h1, h2⟩ | h2 | h2
  · rw [h2] at hcall ⊢
    simp only [ne_eq, not_true_eq_false, if_false] at hcall ⊢
    by_cases c1 : 4096 < x
    · rw [if_pos c1]
      repeat (first
        | refine TL_val (rr_move rfl) rfl rfl rfl ?_
        | refine TL_val (rr_assign rfl) rfl rfl rfl ?_
        | refine TL_nil ?_
        | refine T_seq ?_
        | refine T_region ?_
        | refine T_condT rfl ?_
        | refine T_condF rfl ?_
        | refine T_skip ?_
        | refine T_ret ?_
        | refine T_block ?_
        | refine E_then ?_
        | refine E_thenR ?_
        | refine E_blockN ?_
        | refine E_blockR ?_
        | refine TL_val (rr_extract rfl rfl) rfl rfl rfl ?_
        | refine TL_val (rr_strlen Und.eq rfl) rfl rfl rfl ?_
        | refine TL_val (rr_lss rfl rfl (decide_eq_true (by omega))) rfl rfl rfl ?_
        | refine TL_val (rr_lss rfl rfl (decide_eq_false (by omega))) rfl rfl rfl ?_
        | refine TL_val (rr_gtr rfl rfl (decide_eq_true (by omega))) rfl rfl rfl ?_
        | refine TL_val (rr_gtr rfl rfl (decide_eq_false (by omega))) rfl rfl rfl ?_
        | refine TL_val (rr_neq rfl rfl (decide_eq_true (by omega))) rfl rfl rfl ?_
        | refine TL_val (rr_neq rfl rfl (decide_eq_false (by omega))) rfl rfl rfl ?_
        | refine TL_val (rr_add64 rfl rfl (by omega) (by omega) rfl) rfl rfl rfl ?_
        | refine TL_val (rr_sub64 rfl rfl (by omega) (by omega) rfl) rfl rfl rfl ?_)
      refine TL_call (he1 EntersC.en rfl rfl) (fun w hm => hcall w (by omega)) rfl rfl rfl ?_
      intro _ _
      repeat (first
        | refine TL_val (rr_move rfl) rfl rfl rfl ?_
        | refine TL_val (rr_assign rfl) rfl rfl rfl ?_
        | refine TL_nil ?_
        | refine T_seq ?_
        | refine T_region ?_
        | refine T_condT rfl ?_
        | refine T_condF rfl ?_
        | refine T_skip ?_
        | refine T_ret ?_
        | refine T_block ?_
        | refine E_then ?_
        | refine E_thenR ?_
        | refine E_blockN ?_
        | refine E_blockR ?_
        | refine TL_val (rr_extract rfl rfl) rfl rfl rfl ?_
        | refine TL_val (rr_strlen Und.eq rfl) rfl rfl rfl ?_
        | refine TL_val (rr_lss rfl rfl (decide_eq_true (by omega))) rfl rfl rfl ?_
        | refine TL_val (rr_lss rfl rfl (decide_eq_false (by omega))) rfl rfl rfl ?_
        | refine TL_val (rr_gtr rfl rfl (decide_eq_true (by omega))) rfl rfl rfl ?_
        | refine TL_val (rr_gtr rfl rfl (decide_eq_false (by omega))) rfl rfl rfl ?_
        | refine TL_val (rr_neq rfl rfl (decide_eq_true (by omega))) rfl rfl rfl ?_
        | refine TL_val (rr_neq rfl rfl (decide_eq_false (by omega))) rfl rfl rfl ?_
        | refine TL_val (rr_add64 rfl rfl (by omega) (by omega) rfl) rfl rfl rfl ?_
        | refine TL_val (rr_sub64 rfl rfl (by omega) (by omega) rfl) rfl rfl rfl ?_)
      exact E_ret3 rfl rfl rfl rfl fun w hm => hm.ret
    · rw [if_neg c1]
      have hw : IntKind.u64.wrap ((s.length : Int) - (k : Int)) = ((s.length - k : Nat) : Int) := by rw [IntKind.wrap_u64]; omega
      have hw2 := wrap_i64_nat (x := x) (by omega)
      by_cases c2 : s.length - k < x
      · rw [if_pos c2]
        repeat (first
          | refine TL_val (rr_move rfl) rfl rfl rfl ?_
          | refine TL_val (rr_assign rfl) rfl rfl rfl ?_
          | refine TL_nil ?_
          | refine T_seq ?_
          | refine T_region ?_
          | refine T_condT rfl ?_
          | refine T_condF rfl ?_
          | refine T_skip ?_
          | refine T_ret ?_
          | refine T_block ?_
          | refine E_then ?_
          | refine E_thenR ?_
          | refine E_blockN ?_
          | refine E_blockR ?_
          | refine TL_val (rr_extract rfl rfl) rfl rfl rfl ?_
          | refine TL_val (rr_strlen Und.eq rfl) rfl rfl rfl ?_
          | refine TL_val (rr_lss rfl rfl (decide_eq_true (by omega))) rfl rfl rfl ?_
          | refine TL_val (rr_lss rfl rfl (decide_eq_false (by omega))) rfl rfl rfl ?_
          | refine TL_val (rr_gtr rfl rfl (decide_eq_true (by omega))) rfl rfl rfl ?_
          | refine TL_val (rr_gtr rfl rfl (decide_eq_false (by omega))) rfl rfl rfl ?_
          | refine TL_val (rr_neq rfl rfl (decide_eq_true (by omega))) rfl rfl rfl ?_
          | refine TL_val (rr_neq rfl rfl (decide_eq_false (by omega))) rfl rfl rfl ?_
          | refine TL_val (rr_add64 rfl rfl (by omega) (by omega) rfl) rfl rfl rfl ?_
          | refine TL_val (rr_sub64 rfl rfl (by omega) (by omega) rfl) rfl rfl rfl ?_)
        refine TL_call (he1 EntersC.en rfl rfl) (fun w hm => hcall w (by omega)) rfl rfl rfl ?_
        intro _ _
        repeat (first
          | refine TL_val (rr_move rfl) rfl rfl rfl ?_
          | refine TL_val (rr_assign rfl) rfl rfl rfl ?_
          | refine TL_nil ?_
          | refine T_seq ?_
          | refine T_region ?_
          | refine T_condT rfl ?_
          | refine T_condF rfl ?_
          | refine T_skip ?_
          | refine T_ret ?_
          | refine T_block ?_
          | refine E_then ?_
          | refine E_thenR ?_
          | refine E_blockN ?_
          | refine E_blockR ?_
          | refine TL_val (rr_conv Und.eq Und.eq rfl hw) rfl rfl rfl ?_
          | refine TL_val (rr_extract rfl rfl) rfl rfl rfl ?_
          | refine TL_val (rr_strlen Und.eq rfl) rfl rfl rfl ?_
          | refine TL_val (rr_lss rfl rfl (decide_eq_true (by omega))) rfl rfl rfl ?_
          | refine TL_val (rr_lss rfl rfl (decide_eq_false (by omega))) rfl rfl rfl ?_
          | refine TL_val (rr_gtr rfl rfl (decide_eq_true (by omega))) rfl rfl rfl ?_
          | refine TL_val (rr_gtr rfl rfl (decide_eq_false (by omega))) rfl rfl rfl ?_
          | refine TL_val (rr_neq rfl rfl (decide_eq_true (by omega))) rfl rfl rfl ?_
          | refine TL_val (rr_neq rfl rfl (decide_eq_false (by omega))) rfl rfl rfl ?_
          | refine TL_val (rr_add64 rfl rfl (by omega) (by omega) rfl) rfl rfl rfl ?_
          | refine TL_val (rr_sub64 rfl rfl (by omega) (by omega) rfl) rfl rfl rfl ?_)
        exact E_ret3 rfl rfl rfl rfl fun w hm => hm.ret
      · rw [if_neg c2]
        have e : (s.take ((k : Int) + (x : Int)).toNat).drop (k : Int).toNat = (s.drop k).take x := by
          rw [show ((k : Int) + (x : Int)).toNat = k + x by omega, Int.toNat_natCast, List.drop_take, Nat.add_sub_cancel_left]
        repeat (first
          | refine TL_val (rr_move rfl) rfl rfl rfl ?_
          | refine TL_val (rr_assign rfl) rfl rfl rfl ?_
          | refine TL_nil ?_
          | refine T_seq ?_
          | refine T_region ?_
          | refine T_condT rfl ?_
          | refine T_condF rfl ?_
          | refine T_skip ?_
          | refine T_ret ?_
          | refine T_block ?_
          | refine E_then ?_
          | refine E_thenR ?_
          | refine E_blockN ?_
          | refine E_blockR ?_
          | refine TL_val (rr_extract rfl rfl) rfl rfl rfl ?_
          | refine TL_val (rr_strlen Und.eq rfl) rfl rfl rfl ?_
          | refine TL_val (rr_lss rfl rfl (decide_eq_true (by omega))) rfl rfl rfl ?_
          | refine TL_val (rr_lss rfl rfl (decide_eq_false (by omega))) rfl rfl rfl ?_
          | refine TL_val (rr_gtr rfl rfl (decide_eq_true (by omega))) rfl rfl rfl ?_
          | refine TL_val (rr_gtr rfl rfl (decide_eq_false (by omega))) rfl rfl rfl ?_
          | refine TL_val (rr_neq rfl rfl (decide_eq_true (by omega))) rfl rfl rfl ?_
          | refine TL_val (rr_neq rfl rfl (decide_eq_false (by omega))) rfl rfl rfl ?_
          | refine TL_val (rr_add64 rfl rfl (by omega) (by omega) rfl) rfl rfl rfl ?_
          | refine TL_val (rr_sub64 rfl rfl (by omega) (by omega) rfl) rfl rfl rfl ?_)
        refine TL_call (he1 EntersC.en rfl rfl) (fun w hm => hcall w (by omega)) rfl rfl rfl ?_
        intro _ _
        repeat (first
          | refine TL_val (rr_move rfl) rfl rfl rfl ?_
          | refine TL_val (rr_assign rfl) rfl rfl rfl ?_
          | refine TL_nil ?_
          | refine T_seq ?_
          | refine T_region ?_
          | refine T_condT rfl ?_
          | refine T_condF rfl ?_
          | refine T_skip ?_
          | refine T_ret ?_
          | refine T_block ?_
          | refine E_then ?_
          | refine E_thenR ?_
          | refine E_blockN ?_
          | refine E_blockR ?_
          | refine TL_val (rr_conv Und.eq Und.eq rfl hw) rfl rfl rfl ?_
          | refine TL_val (rr_conv Und.eq Und.eq rfl hw2) rfl rfl rfl ?_
          | refine TL_val (rr_strslice Und.eq rfl ⟨_, rfl⟩ ⟨_, rfl⟩ (by omega) (by omega) (by omega)) rfl rfl rfl ?_
          | refine TL_val (rr_extract rfl rfl) rfl rfl rfl ?_
          | refine TL_val (rr_strlen Und.eq rfl) rfl rfl rfl ?_
          | refine TL_val (rr_lss rfl rfl (decide_eq_true (by omega))) rfl rfl rfl ?_
          | refine TL_val (rr_lss rfl rfl (decide_eq_false (by omega))) rfl rfl rfl ?_
          | refine TL_val (rr_gtr rfl rfl (decide_eq_true (by omega))) rfl rfl rfl ?_
          | refine TL_val (rr_gtr rfl rfl (decide_eq_false (by omega))) rfl rfl rfl ?_
          | refine TL_val (rr_neq rfl rfl (decide_eq_true (by omega))) rfl rfl rfl ?_
          | refine TL_val (rr_neq rfl rfl (decide_eq_false (by omega))) rfl rfl rfl ?_
          | refine TL_val (rr_add64 rfl rfl (by omega) (by omega) rfl) rfl rfl rfl ?_
          | refine TL_val (rr_sub64 rfl rfl (by omega) (by omega) rfl) rfl rfl rfl ?_)
        rw [e]
        exact E_ret3 rfl rfl rfl rfl fun w hm => hm.ret
  all_goals
    rw [h2] at hcall ⊢
    simp only [ne_eq, if_true] at hcall ⊢
    repeat (first
      | refine TL_val (rr_move rfl) rfl rfl rfl ?_
      | refine TL_val (rr_assign rfl) rfl rfl rfl ?_
      | refine TL_nil ?_
      | refine T_seq ?_
      | refine T_region ?_
      | refine T_condT rfl ?_
      | refine T_condF rfl ?_
      | refine T_skip ?_
      | refine T_ret ?_
      | refine T_block ?_
      | refine E_then ?_
      | refine E_thenR ?_
      | refine E_blockN ?_
      | refine E_blockR ?_
      | refine TL_val (rr_extract rfl rfl) rfl rfl rfl ?_
      | refine TL_val (rr_strlen Und.eq rfl) rfl rfl rfl ?_
      | refine TL_val (rr_lss rfl rfl (decide_eq_true (by omega))) rfl rfl rfl ?_
      | refine TL_val (rr_lss rfl rfl (decide_eq_false (by omega))) rfl rfl rfl ?_
      | refine TL_val (rr_gtr rfl rfl (decide_eq_true (by omega))) rfl rfl rfl ?_
      | refine TL_val (rr_gtr rfl rfl (decide_eq_false (by omega))) rfl rfl rfl ?_
      | refine TL_val (rr_neq rfl rfl (decide_eq_true (by omega))) rfl rfl rfl ?_
      | refine TL_val (rr_neq rfl rfl (decide_eq_false (by omega))) rfl rfl rfl ?_
      | refine TL_val (rr_add64 rfl rfl (by omega) (by omega) rfl) rfl rfl rfl ?_
      | refine TL_val (rr_sub64 rfl rfl (by omega) (by omega) rfl) rfl rfl rfl ?_)
    refine TL_call (he1 EntersC.en rfl rfl) (fun w hm => hcall w (by omega)) rfl rfl rfl ?_
    intro _ _
    repeat (first
      | refine TL_val (rr_move rfl) rfl rfl rfl ?_
      | refine TL_val (rr_assign rfl) rfl rfl rfl ?_
      | refine TL_nil ?_
      | refine T_seq ?_
      | refine T_region ?_
      | refine T_condT rfl ?_
      | refine T_condF rfl ?_
      | refine T_skip ?_
      | refine T_ret ?_
      | refine T_block ?_
      | refine E_then ?_
      | refine E_thenR ?_
      | refine E_blockN ?_
      | refine E_blockR ?_
      | refine TL_val (rr_extract rfl rfl) rfl rfl rfl ?_
      | refine TL_val (rr_strlen Und.eq rfl) rfl rfl rfl ?_
      | refine TL_val (rr_lss rfl rfl (decide_eq_true (by omega))) rfl rfl rfl ?_
      | refine TL_val (rr_lss rfl rfl (decide_eq_false (by omega))) rfl rfl rfl ?_
      | refine TL_val (rr_gtr rfl rfl (decide_eq_true (by omega))) rfl rfl rfl ?_
      | refine TL_val (rr_gtr rfl rfl (decide_eq_false (by omega))) rfl rfl rfl ?_
      | refine TL_val (rr_neq rfl rfl (decide_eq_true (by omega))) rfl rfl rfl ?_
      | refine TL_val (rr_neq rfl rfl (decide_eq_false (by omega))) rfl rfl rfl ?_
      | refine TL_val (rr_add64 rfl rfl (by omega) (by omega) rfl) rfl rfl rfl ?_
      | refine TL_val (rr_sub64 rfl rfl (by omega) (by omega) rfl) rfl rfl rfl ?_)
    exact E_ret3 rfl rfl rfl rfl fun w hm => hm.ret
end Go.Proofs.Ytnooleopmlijeaa.eng
