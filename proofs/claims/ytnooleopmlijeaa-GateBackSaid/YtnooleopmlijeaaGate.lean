/- What gate.Unpack and gate.Pack compute. -/
import Derived.Test.YtnooleopmlijeaaEvS
import Derived.Test.YtnooleopmlijeaaPackR
namespace Go.Proofs.Ytnooleopmlijeaa.eng
open Go.RowKit kit mix packL gateL
def evsS (r : List Ev × Int) : Spec Value := rowS 56 2 r.1.length (r.1.flatMap evC) fun v => .tuple #[v, .int .i64 r.2]
set_option maxHeartbeats 2000000 in
theorem unpack_calls (s : List UInt8) (w : World) (hs : s.length ≤ 9223372036854775807) :
    Calls Try.prog 13 #[str s] w (Meets (evsS (unF s)) w) := by
  refine enter (args := [str s]) (n := 47) Try.func13 rfl rfl rfl ?_
  unfold unF
  by_cases c1 : 1024 < s.length
  · rw [if_pos c1]
    repeat (first
      | refine TL_val (rr_move rfl) rfl rfl rfl ?_
      | refine TL_val (rr_assign rfl) rfl rfl rfl ?_
      | refine TL_nil ?_
      | refine T_seq ?_
      | refine T_region ?_
      | refine T_condT rfl ?_
      | refine T_condF rfl ?_
      | refine T_skip ?_
      | refine T_exit ?_
      | refine T_ret ?_
      | refine T_block ?_
      | refine E_then ?_
      | refine E_thenX ?_
      | refine E_thenR ?_
      | refine E_blockN ?_
      | refine E_blockR ?_
      | refine E_blockX ?_
      | refine E_blockO rfl ?_
      | refine TL_val (rr_extract rfl rfl) rfl rfl rfl ?_
      | refine TL_val (rr_pickT rfl rfl) rfl rfl rfl ?_
      | refine TL_val (rr_pickF rfl rfl) rfl rfl rfl ?_
      | refine TL_val (rr_strlen Und.eq rfl) rfl rfl rfl ?_
      | refine TL_val (rr_lss rfl rfl (decide_eq_true (by omega))) rfl rfl rfl ?_
      | refine TL_val (rr_lss rfl rfl (decide_eq_false (by omega))) rfl rfl rfl ?_
      | refine TL_val (rr_gtr rfl rfl (decide_eq_true (by omega))) rfl rfl rfl ?_
      | refine TL_val (rr_gtr rfl rfl (decide_eq_false (by omega))) rfl rfl rfl ?_
      | refine TL_val (rr_neq rfl rfl (decide_eq_true (by omega))) rfl rfl rfl ?_
      | refine TL_val (rr_neq rfl rfl (decide_eq_false (by omega))) rfl rfl rfl ?_
      | refine TL_val (rr_add64 rfl rfl (by omega) (by omega) rfl) rfl rfl rfl ?_
      | refine TL_skip rfl rfl rfl rfl rfl rfl ?_
      | refine TL_gval (rr_move rfl) rfl rfl rfl rfl rfl ?_
      | refine TL_gval (rr_gtr rfl rfl (decide_eq_true (by omega))) rfl rfl rfl rfl rfl ?_
      | refine TL_gval (rr_gtr rfl rfl (decide_eq_false (by omega))) rfl rfl rfl rfl rfl ?_)
    refine E_nilrow 56 2 ?_
    exact E_ret2 rfl rfl rfl fun w hm => hm.meets (S := evsS ([], 2)) (.slice none 0 0) trivial [0] (by decide) rfl
  · rw [if_neg c1]
    repeat (first
      | refine TL_val (rr_move rfl) rfl rfl rfl ?_
      | refine TL_val (rr_assign rfl) rfl rfl rfl ?_
      | refine TL_nil ?_
      | refine T_seq ?_
      | refine T_region ?_
      | refine T_condT rfl ?_
      | refine T_condF rfl ?_
      | refine T_skip ?_
      | refine T_exit ?_
      | refine T_ret ?_
      | refine T_block ?_
      | refine E_then ?_
      | refine E_thenX ?_
      | refine E_thenR ?_
      | refine E_blockN ?_
      | refine E_blockR ?_
      | refine E_blockX ?_
      | refine E_blockO rfl ?_
      | refine TL_val (rr_extract rfl rfl) rfl rfl rfl ?_
      | refine TL_val (rr_pickT rfl rfl) rfl rfl rfl ?_
      | refine TL_val (rr_pickF rfl rfl) rfl rfl rfl ?_
      | refine TL_val (rr_strlen Und.eq rfl) rfl rfl rfl ?_
      | refine TL_val (rr_lss rfl rfl (decide_eq_true (by omega))) rfl rfl rfl ?_
      | refine TL_val (rr_lss rfl rfl (decide_eq_false (by omega))) rfl rfl rfl ?_
      | refine TL_val (rr_gtr rfl rfl (decide_eq_true (by omega))) rfl rfl rfl ?_
      | refine TL_val (rr_gtr rfl rfl (decide_eq_false (by omega))) rfl rfl rfl ?_
      | refine TL_val (rr_neq rfl rfl (decide_eq_true (by omega))) rfl rfl rfl ?_
      | refine TL_val (rr_neq rfl rfl (decide_eq_false (by omega))) rfl rfl rfl ?_
      | refine TL_val (rr_add64 rfl rfl (by omega) (by omega) rfl) rfl rfl rfl ?_
      | refine TL_skip rfl rfl rfl rfl rfl rfl ?_
      | refine TL_gval (rr_move rfl) rfl rfl rfl rfl rfl ?_
      | refine TL_gval (rr_gtr rfl rfl (decide_eq_true (by omega))) rfl rfl rfl rfl rfl ?_
      | refine TL_gval (rr_gtr rfl rfl (decide_eq_false (by omega))) rfl rfl rfl rfl rfl ?_)
    refine T_nil 56 2 ?_
    generalize hR : unL s [] = R
    refine T_loop (ι := List UInt8 × List Ev × Value) (fun (r, o, _) => unL r o = R ∧ r.length ≤ 1024 ∧ o.length + r.length ≤ 1024) (fun (r, _, v) => [(0, str r), (4, v)]) (fun (_, o, v) => [rowO 56 2 v o.length (o.flatMap evC)]) (fun (r, _, _) => r.length) (s, [], .slice none 0 0) ⟨hR, by omega, by simp; omega⟩ (by repeat' (first | exact True.intro | refine And.intro rfl ?_)) rfl ?_
    rintro ⟨r, o, v⟩ ⟨h1, h2, h3⟩
    dsimp only at h1 h2 h3 ⊢
    clear hR
    cases r with
    | nil =>
      rw [unL_nil] at h1
      subst h1
      repeat (first
        | refine TL_val (rr_move rfl) rfl rfl rfl ?_
        | refine TL_val (rr_assign rfl) rfl rfl rfl ?_
        | refine TL_nil ?_
        | refine T_seq ?_
        | refine T_region ?_
        | refine T_condT rfl ?_
        | refine T_condF rfl ?_
        | refine T_skip ?_
        | refine T_exit ?_
        | refine T_ret ?_
        | refine T_block ?_
        | refine E_then ?_
        | refine E_thenX ?_
        | refine E_thenR ?_
        | refine E_blockN ?_
        | refine E_blockR ?_
        | refine E_blockX ?_
        | refine E_blockO rfl ?_
        | refine TL_val (rr_strne (b := false) rfl rfl (by simp)) rfl rfl rfl ?_
        | refine TL_val (rr_extract rfl rfl) rfl rfl rfl ?_
        | refine TL_val (rr_pickT rfl rfl) rfl rfl rfl ?_
        | refine TL_val (rr_pickF rfl rfl) rfl rfl rfl ?_
        | refine TL_val (rr_strlen Und.eq rfl) rfl rfl rfl ?_
        | refine TL_val (rr_lss rfl rfl (decide_eq_true (by omega))) rfl rfl rfl ?_
        | refine TL_val (rr_lss rfl rfl (decide_eq_false (by omega))) rfl rfl rfl ?_
        | refine TL_val (rr_gtr rfl rfl (decide_eq_true (by omega))) rfl rfl rfl ?_
        | refine TL_val (rr_gtr rfl rfl (decide_eq_false (by omega))) rfl rfl rfl ?_
        | refine TL_val (rr_neq rfl rfl (decide_eq_true (by omega))) rfl rfl rfl ?_
        | refine TL_val (rr_neq rfl rfl (decide_eq_false (by omega))) rfl rfl rfl ?_
        | refine TL_val (rr_add64 rfl rfl (by omega) (by omega) rfl) rfl rfl rfl ?_
        | refine TL_skip rfl rfl rfl rfl rfl rfl ?_
        | refine TL_gval (rr_move rfl) rfl rfl rfl rfl rfl ?_
        | refine TL_gval (rr_gtr rfl rfl (decide_eq_true (by omega))) rfl rfl rfl rfl rfl ?_
        | refine TL_gval (rr_gtr rfl rfl (decide_eq_false (by omega))) rfl rfl rfl rfl rfl ?_)
      exact E_ret2 rfl rfl rfl fun w hm => hm.meets (S := evsS (o, 0)) v trivial [0] (by decide) rfl
    | cons b r =>
      have hb := b.toNat_lt
      simp only [List.length_cons] at h2 h3
      have hb0 : (b :: r)[(0 : Int).toNat]? = some b := rfl
      by_cases c2 : b.toNat < 1 ∨ 4 < b.toNat
      · rw [unL_bad c2] at h1
        subst h1
        repeat' (first
          | refine TL_val (rr_move rfl) rfl rfl rfl ?_
          | refine TL_val (rr_assign rfl) rfl rfl rfl ?_
          | refine TL_nil ?_
          | refine T_seq ?_
          | refine T_region ?_
          | refine T_condT rfl ?_
          | refine T_condF rfl ?_
          | refine T_skip ?_
          | refine T_exit ?_
          | refine T_ret ?_
          | refine T_block ?_
          | refine E_then ?_
          | refine E_thenX ?_
          | refine E_thenR ?_
          | refine E_blockN ?_
          | refine E_blockR ?_
          | refine E_blockX ?_
          | refine E_blockO rfl ?_
          | refine TL_val (rr_strne (b := true) rfl rfl (by simp)) rfl rfl rfl ?_
          | refine TL_val (rr_stridx Und.eq rfl rfl (by omega) hb0) rfl rfl rfl ?_
          | refine TL_val (rr_extract rfl rfl) rfl rfl rfl ?_
          | refine TL_val (rr_pickT rfl rfl) rfl rfl rfl ?_
          | refine TL_val (rr_pickF rfl rfl) rfl rfl rfl ?_
          | refine TL_val (rr_strlen Und.eq rfl) rfl rfl rfl ?_
          | refine TL_val (rr_lss rfl rfl (decide_eq_true (by omega))) rfl rfl rfl ?_
          | refine TL_val (rr_lss rfl rfl (decide_eq_false (by omega))) rfl rfl rfl ?_
          | refine TL_val (rr_gtr rfl rfl (decide_eq_true (by omega))) rfl rfl rfl ?_
          | refine TL_val (rr_gtr rfl rfl (decide_eq_false (by omega))) rfl rfl rfl ?_
          | refine TL_val (rr_neq rfl rfl (decide_eq_true (by omega))) rfl rfl rfl ?_
          | refine TL_val (rr_neq rfl rfl (decide_eq_false (by omega))) rfl rfl rfl ?_
          | refine TL_val (rr_add64 rfl rfl (by omega) (by omega) rfl) rfl rfl rfl ?_
          | refine TL_skip rfl rfl rfl rfl rfl rfl ?_
          | refine TL_gval (rr_stridx Und.eq rfl rfl (by omega) hb0) rfl rfl rfl rfl rfl ?_
          | refine TL_gval (rr_move rfl) rfl rfl rfl rfl rfl ?_
          | refine TL_gval (rr_gtr rfl rfl (decide_eq_true (by omega))) rfl rfl rfl rfl rfl ?_
          | refine TL_gval (rr_gtr rfl rfl (decide_eq_false (by omega))) rfl rfl rfl rfl rfl ?_
          | refine TL_split (rr_lss rfl rfl rfl) rfl rfl rfl (fun h => ?_) (fun h => ?_)
          | refine TL_split (rr_gtr rfl rfl rfl) rfl rfl rfl (fun h => ?_) (fun h => ?_)
          | refine TL_gsplitv (rr_gtr rfl rfl rfl) rfl rfl rfl rfl rfl (fun h => ?_) (fun h => ?_)
          | refine TL_split (rr_neq rfl rfl rfl) rfl rfl rfl (fun h => ?_) (fun h => ?_)
          | refine TL_split (rr_strne rfl rfl rfl) rfl rfl rfl (fun h => ?_) (fun h => ?_)
          | ((fail_if_success (refine T_condT rfl ?_)); (fail_if_success (refine T_condF rfl ?_)); refine T_condS rfl (fun h => ?_) (fun h => ?_))
          | ((fail_if_success (refine TL_isT rfl rfl rfl ?_)); (fail_if_success (refine TL_isF rfl rfl rfl ?_)); refine TL_gsplit rfl rfl rfl (fun h => ?_) (fun h => ?_)))
        all_goals (refine E_nilrow 56 2 ?_)
        all_goals exact E_ret2 rfl rfl rfl fun w hm => hm.meets (S := evsS ([], 1)) (.slice none 0 0) trivial [1] (by decide) rfl
      · have hcall := readNum_calls r
        have hc := readF_cases r
        unfold triV at hcall
        by_cases c3 : (readF r).2.2 = 0
        · by_cases c4 : 1099511627776 < (readF r).1
          · rw [unL_far (by omega) (by omega) c3 c4] at h1
            subst h1
            rw [c3] at hcall
            generalize (readF r).1 = x at *
            generalize (readF r).2.1 = k at *
            clear hc c3
            repeat (first
              | refine TL_val (rr_move rfl) rfl rfl rfl ?_
              | refine TL_val (rr_assign rfl) rfl rfl rfl ?_
              | refine TL_nil ?_
              | refine T_seq ?_
              | refine T_region ?_
              | refine T_condT rfl ?_
              | refine T_condF rfl ?_
              | refine T_skip ?_
              | refine T_exit ?_
              | refine T_ret ?_
              | refine T_block ?_
              | refine E_then ?_
              | refine E_thenX ?_
              | refine E_thenR ?_
              | refine E_blockN ?_
              | refine E_blockR ?_
              | refine E_blockX ?_
              | refine E_blockO rfl ?_
              | refine TL_val (rr_strne (b := true) rfl rfl (by simp)) rfl rfl rfl ?_
              | refine TL_val (rr_stridx Und.eq rfl rfl (by omega) hb0) rfl rfl rfl ?_
              | refine TL_val (rr_strfrom (i := 1) Und.eq rfl rfl (by simp)) rfl rfl rfl ?_
              | refine TL_val (rr_extract rfl rfl) rfl rfl rfl ?_
              | refine TL_val (rr_pickT rfl rfl) rfl rfl rfl ?_
              | refine TL_val (rr_pickF rfl rfl) rfl rfl rfl ?_
              | refine TL_val (rr_strlen Und.eq rfl) rfl rfl rfl ?_
              | refine TL_val (rr_lss rfl rfl (decide_eq_true (by omega))) rfl rfl rfl ?_
              | refine TL_val (rr_lss rfl rfl (decide_eq_false (by omega))) rfl rfl rfl ?_
              | refine TL_val (rr_gtr rfl rfl (decide_eq_true (by omega))) rfl rfl rfl ?_
              | refine TL_val (rr_gtr rfl rfl (decide_eq_false (by omega))) rfl rfl rfl ?_
              | refine TL_val (rr_neq rfl rfl (decide_eq_true (by omega))) rfl rfl rfl ?_
              | refine TL_val (rr_neq rfl rfl (decide_eq_false (by omega))) rfl rfl rfl ?_
              | refine TL_val (rr_add64 rfl rfl (by omega) (by omega) rfl) rfl rfl rfl ?_
              | refine TL_skip rfl rfl rfl rfl rfl rfl ?_
              | refine TL_gval (rr_stridx Und.eq rfl rfl (by omega) hb0) rfl rfl rfl rfl rfl ?_
              | refine TL_gval (rr_move rfl) rfl rfl rfl rfl rfl ?_
              | refine TL_gval (rr_gtr rfl rfl (decide_eq_true (by omega))) rfl rfl rfl rfl rfl ?_
              | refine TL_gval (rr_gtr rfl rfl (decide_eq_false (by omega))) rfl rfl rfl rfl rfl ?_)
            refine TL_call (he1 EntersC.en rfl rfl) (fun w hm => hcall w (by omega)) rfl rfl rfl ?_
            intro _ _
            repeat (first
              | refine TL_val (rr_move rfl) rfl rfl rfl ?_
              | refine TL_val (rr_assign rfl) rfl rfl rfl ?_
              | refine TL_nil ?_
              | refine T_seq ?_
              | refine T_region ?_
              | refine T_condT rfl ?_
              | refine T_condF rfl ?_
              | refine T_skip ?_
              | refine T_exit ?_
              | refine T_ret ?_
              | refine T_block ?_
              | refine E_then ?_
              | refine E_thenX ?_
              | refine E_thenR ?_
              | refine E_blockN ?_
              | refine E_blockR ?_
              | refine E_blockX ?_
              | refine E_blockO rfl ?_
              | refine TL_val (rr_extract rfl rfl) rfl rfl rfl ?_
              | refine TL_val (rr_pickT rfl rfl) rfl rfl rfl ?_
              | refine TL_val (rr_pickF rfl rfl) rfl rfl rfl ?_
              | refine TL_val (rr_strlen Und.eq rfl) rfl rfl rfl ?_
              | refine TL_val (rr_lss rfl rfl (decide_eq_true (by omega))) rfl rfl rfl ?_
              | refine TL_val (rr_lss rfl rfl (decide_eq_false (by omega))) rfl rfl rfl ?_
              | refine TL_val (rr_gtr rfl rfl (decide_eq_true (by omega))) rfl rfl rfl ?_
              | refine TL_val (rr_gtr rfl rfl (decide_eq_false (by omega))) rfl rfl rfl ?_
              | refine TL_val (rr_neq rfl rfl (decide_eq_true (by omega))) rfl rfl rfl ?_
              | refine TL_val (rr_neq rfl rfl (decide_eq_false (by omega))) rfl rfl rfl ?_
              | refine TL_val (rr_add64 rfl rfl (by omega) (by omega) rfl) rfl rfl rfl ?_
              | refine TL_skip rfl rfl rfl rfl rfl rfl ?_
              | refine TL_gval (rr_move rfl) rfl rfl rfl rfl rfl ?_
              | refine TL_gval (rr_gtr rfl rfl (decide_eq_true (by omega))) rfl rfl rfl rfl rfl ?_
              | refine TL_gval (rr_gtr rfl rfl (decide_eq_false (by omega))) rfl rfl rfl rfl rfl ?_)
            refine E_nilrow 56 2 ?_
            exact E_ret2 rfl rfl rfl fun w hm => hm.meets (S := evsS ([], 1)) (.slice none 0 0) trivial [1] (by decide) rfl
          · rw [unL_next (by omega) (by omega) c3 (by omega)] at h1
            rw [c3] at hcall
            have hk : (readF r).2.1 ≤ r.length := by rcases hc with ⟨n, k, q1, q2, q3⟩ | q | q <;> first | (rw [q3]; exact q2) | (rw [q] at c3; simp at c3)
            generalize (readF r).1 = x at *
            generalize (readF r).2.1 = k at *
            clear hc c3
            repeat (first
              | refine TL_val (rr_move rfl) rfl rfl rfl ?_
              | refine TL_val (rr_assign rfl) rfl rfl rfl ?_
              | refine TL_nil ?_
              | refine T_seq ?_
              | refine T_region ?_
              | refine T_condT rfl ?_
              | refine T_condF rfl ?_
              | refine T_skip ?_
              | refine T_exit ?_
              | refine T_ret ?_
              | refine T_block ?_
              | refine E_then ?_
              | refine E_thenX ?_
              | refine E_thenR ?_
              | refine E_blockN ?_
              | refine E_blockR ?_
              | refine E_blockX ?_
              | refine E_blockO rfl ?_
              | refine TL_val (rr_strne (b := true) rfl rfl (by simp)) rfl rfl rfl ?_
              | refine TL_val (rr_stridx Und.eq rfl rfl (by omega) hb0) rfl rfl rfl ?_
              | refine TL_val (rr_strfrom (i := 1) Und.eq rfl rfl (by simp)) rfl rfl rfl ?_
              | refine TL_val (rr_extract rfl rfl) rfl rfl rfl ?_
              | refine TL_val (rr_pickT rfl rfl) rfl rfl rfl ?_
              | refine TL_val (rr_pickF rfl rfl) rfl rfl rfl ?_
              | refine TL_val (rr_strlen Und.eq rfl) rfl rfl rfl ?_
              | refine TL_val (rr_lss rfl rfl (decide_eq_true (by omega))) rfl rfl rfl ?_
              | refine TL_val (rr_lss rfl rfl (decide_eq_false (by omega))) rfl rfl rfl ?_
              | refine TL_val (rr_gtr rfl rfl (decide_eq_true (by omega))) rfl rfl rfl ?_
              | refine TL_val (rr_gtr rfl rfl (decide_eq_false (by omega))) rfl rfl rfl ?_
              | refine TL_val (rr_neq rfl rfl (decide_eq_true (by omega))) rfl rfl rfl ?_
              | refine TL_val (rr_neq rfl rfl (decide_eq_false (by omega))) rfl rfl rfl ?_
              | refine TL_val (rr_add64 rfl rfl (by omega) (by omega) rfl) rfl rfl rfl ?_
              | refine TL_skip rfl rfl rfl rfl rfl rfl ?_
              | refine TL_gval (rr_stridx Und.eq rfl rfl (by omega) hb0) rfl rfl rfl rfl rfl ?_
              | refine TL_gval (rr_move rfl) rfl rfl rfl rfl rfl ?_
              | refine TL_gval (rr_gtr rfl rfl (decide_eq_true (by omega))) rfl rfl rfl rfl rfl ?_
              | refine TL_gval (rr_gtr rfl rfl (decide_eq_false (by omega))) rfl rfl rfl rfl rfl ?_)
            refine TL_call (he1 EntersC.en rfl rfl) (fun w hm => hcall w (by omega)) rfl rfl rfl ?_
            intro _ _
            clear hcall
            repeat (first
              | refine TL_val (rr_move rfl) rfl rfl rfl ?_
              | refine TL_val (rr_assign rfl) rfl rfl rfl ?_
              | refine TL_nil ?_
              | refine T_seq ?_
              | refine T_region ?_
              | refine T_condT rfl ?_
              | refine T_condF rfl ?_
              | refine T_skip ?_
              | refine T_exit ?_
              | refine T_ret ?_
              | refine T_block ?_
              | refine E_then ?_
              | refine E_thenX ?_
              | refine E_thenR ?_
              | refine E_blockN ?_
              | refine E_blockR ?_
              | refine E_blockX ?_
              | refine E_blockO rfl ?_
              | refine TL_val (rr_stridx Und.eq rfl rfl (by omega) hb0) rfl rfl rfl ?_
              | refine TL_val (rr_conv Und.eq Und.eq rfl (wrap_in (by omega) (by omega))) rfl rfl rfl ?_
              | refine TL_val (rr_build rfl (build_ev _ _)) rfl rfl rfl ?_
              | refine TL_val (rr_extract rfl rfl) rfl rfl rfl ?_
              | refine TL_val (rr_pickT rfl rfl) rfl rfl rfl ?_
              | refine TL_val (rr_pickF rfl rfl) rfl rfl rfl ?_
              | refine TL_val (rr_strlen Und.eq rfl) rfl rfl rfl ?_
              | refine TL_val (rr_lss rfl rfl (decide_eq_true (by omega))) rfl rfl rfl ?_
              | refine TL_val (rr_lss rfl rfl (decide_eq_false (by omega))) rfl rfl rfl ?_
              | refine TL_val (rr_gtr rfl rfl (decide_eq_true (by omega))) rfl rfl rfl ?_
              | refine TL_val (rr_gtr rfl rfl (decide_eq_false (by omega))) rfl rfl rfl ?_
              | refine TL_val (rr_neq rfl rfl (decide_eq_true (by omega))) rfl rfl rfl ?_
              | refine TL_val (rr_neq rfl rfl (decide_eq_false (by omega))) rfl rfl rfl ?_
              | refine TL_val (rr_add64 rfl rfl (by omega) (by omega) rfl) rfl rfl rfl ?_
              | refine TL_skip rfl rfl rfl rfl rfl rfl ?_
              | refine TL_gval (rr_stridx Und.eq rfl rfl (by omega) hb0) rfl rfl rfl rfl rfl ?_
              | refine TL_gval (rr_move rfl) rfl rfl rfl rfl rfl ?_
              | refine TL_gval (rr_gtr rfl rfl (decide_eq_true (by omega))) rfl rfl rfl rfl rfl ?_
              | refine TL_gval (rr_gtr rfl rfl (decide_eq_false (by omega))) rfl rfl rfl rfl rfl ?_)
            refine TL_pushN (i := 0) rfl rfl rfl rfl rfl rfl rfl (fun z h => by cases h; rfl) (by omega) (by omega) rfl fun z v' => ?_
            repeat (first
              | refine TL_val (rr_move rfl) rfl rfl rfl ?_
              | refine TL_val (rr_assign rfl) rfl rfl rfl ?_
              | refine TL_nil ?_
              | refine T_seq ?_
              | refine T_region ?_
              | refine T_condT rfl ?_
              | refine T_condF rfl ?_
              | refine T_skip ?_
              | refine T_exit ?_
              | refine T_ret ?_
              | refine T_block ?_
              | refine E_then ?_
              | refine E_thenX ?_
              | refine E_thenR ?_
              | refine E_blockN ?_
              | refine E_blockR ?_
              | refine E_blockX ?_
              | refine E_blockO rfl ?_
              | refine TL_val (rr_strfrom (i := k + 1) Und.eq rfl rfl (by simp; omega)) rfl rfl rfl ?_
              | refine TL_val (rr_extract rfl rfl) rfl rfl rfl ?_
              | refine TL_val (rr_pickT rfl rfl) rfl rfl rfl ?_
              | refine TL_val (rr_pickF rfl rfl) rfl rfl rfl ?_
              | refine TL_val (rr_strlen Und.eq rfl) rfl rfl rfl ?_
              | refine TL_val (rr_lss rfl rfl (decide_eq_true (by omega))) rfl rfl rfl ?_
              | refine TL_val (rr_lss rfl rfl (decide_eq_false (by omega))) rfl rfl rfl ?_
              | refine TL_val (rr_gtr rfl rfl (decide_eq_true (by omega))) rfl rfl rfl ?_
              | refine TL_val (rr_gtr rfl rfl (decide_eq_false (by omega))) rfl rfl rfl ?_
              | refine TL_val (rr_neq rfl rfl (decide_eq_true (by omega))) rfl rfl rfl ?_
              | refine TL_val (rr_neq rfl rfl (decide_eq_false (by omega))) rfl rfl rfl ?_
              | refine TL_val (rr_add64 rfl rfl (by omega) (by omega) rfl) rfl rfl rfl ?_
              | refine TL_skip rfl rfl rfl rfl rfl rfl ?_
              | refine TL_gval (rr_move rfl) rfl rfl rfl rfl rfl ?_
              | refine TL_gval (rr_gtr rfl rfl (decide_eq_true (by omega))) rfl rfl rfl rfl rfl ?_
              | refine TL_gval (rr_gtr rfl rfl (decide_eq_false (by omega))) rfl rfl rfl rfl rfl ?_)
            exact E_round (r.drop k, o ++ [((b.toNat : Int), (x : Int))], v') ⟨h1, by simp; omega, by simp; omega⟩ (by show (r.drop k).length < (b :: r).length; simp; omega) (by repeat' (first | exact True.intro | refine And.intro rfl ?_)) (by simp [evC, ret])
        · rw [unL_err (by omega) (by omega) c3] at h1
          subst h1
          generalize (readF r).2.2 = e at *
          clear hc
          repeat (first
            | refine TL_val (rr_move rfl) rfl rfl rfl ?_
            | refine TL_val (rr_assign rfl) rfl rfl rfl ?_
            | refine TL_nil ?_
            | refine T_seq ?_
            | refine T_region ?_
            | refine T_condT rfl ?_
            | refine T_condF rfl ?_
            | refine T_skip ?_
            | refine T_exit ?_
            | refine T_ret ?_
            | refine T_block ?_
            | refine E_then ?_
            | refine E_thenX ?_
            | refine E_thenR ?_
            | refine E_blockN ?_
            | refine E_blockR ?_
            | refine E_blockX ?_
            | refine E_blockO rfl ?_
            | refine TL_val (rr_strne (b := true) rfl rfl (by simp)) rfl rfl rfl ?_
            | refine TL_val (rr_stridx Und.eq rfl rfl (by omega) hb0) rfl rfl rfl ?_
            | refine TL_val (rr_strfrom (i := 1) Und.eq rfl rfl (by simp)) rfl rfl rfl ?_
            | refine TL_val (rr_extract rfl rfl) rfl rfl rfl ?_
            | refine TL_val (rr_pickT rfl rfl) rfl rfl rfl ?_
            | refine TL_val (rr_pickF rfl rfl) rfl rfl rfl ?_
            | refine TL_val (rr_strlen Und.eq rfl) rfl rfl rfl ?_
            | refine TL_val (rr_lss rfl rfl (decide_eq_true (by omega))) rfl rfl rfl ?_
            | refine TL_val (rr_lss rfl rfl (decide_eq_false (by omega))) rfl rfl rfl ?_
            | refine TL_val (rr_gtr rfl rfl (decide_eq_true (by omega))) rfl rfl rfl ?_
            | refine TL_val (rr_gtr rfl rfl (decide_eq_false (by omega))) rfl rfl rfl ?_
            | refine TL_val (rr_neq rfl rfl (decide_eq_true (by omega))) rfl rfl rfl ?_
            | refine TL_val (rr_neq rfl rfl (decide_eq_false (by omega))) rfl rfl rfl ?_
            | refine TL_val (rr_add64 rfl rfl (by omega) (by omega) rfl) rfl rfl rfl ?_
            | refine TL_skip rfl rfl rfl rfl rfl rfl ?_
            | refine TL_gval (rr_stridx Und.eq rfl rfl (by omega) hb0) rfl rfl rfl rfl rfl ?_
            | refine TL_gval (rr_move rfl) rfl rfl rfl rfl rfl ?_
            | refine TL_gval (rr_gtr rfl rfl (decide_eq_true (by omega))) rfl rfl rfl rfl rfl ?_
            | refine TL_gval (rr_gtr rfl rfl (decide_eq_false (by omega))) rfl rfl rfl rfl rfl ?_)
          refine TL_call (he1 EntersC.en rfl rfl) (fun w hm => hcall w (by omega)) rfl rfl rfl ?_
          intro _ _
          repeat (first
            | refine TL_val (rr_move rfl) rfl rfl rfl ?_
            | refine TL_val (rr_assign rfl) rfl rfl rfl ?_
            | refine TL_nil ?_
            | refine T_seq ?_
            | refine T_region ?_
            | refine T_condT rfl ?_
            | refine T_condF rfl ?_
            | refine T_skip ?_
            | refine T_exit ?_
            | refine T_ret ?_
            | refine T_block ?_
            | refine E_then ?_
            | refine E_thenX ?_
            | refine E_thenR ?_
            | refine E_blockN ?_
            | refine E_blockR ?_
            | refine E_blockX ?_
            | refine E_blockO rfl ?_
            | refine TL_val (rr_extract rfl rfl) rfl rfl rfl ?_
            | refine TL_val (rr_pickT rfl rfl) rfl rfl rfl ?_
            | refine TL_val (rr_pickF rfl rfl) rfl rfl rfl ?_
            | refine TL_val (rr_strlen Und.eq rfl) rfl rfl rfl ?_
            | refine TL_val (rr_lss rfl rfl (decide_eq_true (by omega))) rfl rfl rfl ?_
            | refine TL_val (rr_lss rfl rfl (decide_eq_false (by omega))) rfl rfl rfl ?_
            | refine TL_val (rr_gtr rfl rfl (decide_eq_true (by omega))) rfl rfl rfl ?_
            | refine TL_val (rr_gtr rfl rfl (decide_eq_false (by omega))) rfl rfl rfl ?_
            | refine TL_val (rr_neq rfl rfl (decide_eq_true (by omega))) rfl rfl rfl ?_
            | refine TL_val (rr_neq rfl rfl (decide_eq_false (by omega))) rfl rfl rfl ?_
            | refine TL_val (rr_add64 rfl rfl (by omega) (by omega) rfl) rfl rfl rfl ?_
            | refine TL_skip rfl rfl rfl rfl rfl rfl ?_
            | refine TL_gval (rr_move rfl) rfl rfl rfl rfl rfl ?_
            | refine TL_gval (rr_gtr rfl rfl (decide_eq_true (by omega))) rfl rfl rfl rfl rfl ?_
            | refine TL_gval (rr_gtr rfl rfl (decide_eq_false (by omega))) rfl rfl rfl rfl rfl ?_)
          refine E_nilrow 56 2 ?_
          exact E_ret2 rfl rfl rfl fun w hm => hm.meets (S := evsS ([], e)) (.slice none 0 0) trivial [1] (by decide) rfl
theorem wrap8 {k : Int} (h0 : 1 ≤ k) (h1 : k ≤ 4) : IntKind.u8.wrap k = ((UInt8.ofNat k.toNat).toNat : Int) := by
  rw [IntKind.wrap_u8, packL.ofNat_toNat (by omega)]; omega
theorem wrap64 {q : Int} (h0 : 0 ≤ q) (h1 : q ≤ 1099511627776) : IntKind.u64.wrap q = (q.toNat : Int) := by
  rw [IntKind.wrap_u64]; omega
theorem evs_take (l : List Ev) {k : Nat} (h : k < l.length) : evsL (l.take (k + 1)) = evsL (l.take k) ++ (UInt8.ofNat l[k].1.toNat :: numL l[k].2.toNat) := by
  rw [List.take_succ_eq_append_getElem h, evsL, List.flatMap_append]
  simp [evsL, evL]
theorem evs_pre (l : List Ev) (k : Nat) : (evsL (l.take k)).length ≤ (evsL l).length := by
  have h : evsL l = evsL (l.take k) ++ evsL (l.drop k) := by
    unfold evsL
    rw [← List.flatMap_append, List.take_append_drop]
  rw [h]; simp
theorem numL_le (x : Nat) (h : x < 18446744073709551616) : (numL x).length ≤ 10 := numL_len h
set_option maxHeartbeats 2000000 in
theorem packEv_calls (v : Value) (l : List Ev) (w : World) (hs : Sl w v l.length (l.flatMap evC)) :
    Calls Try.prog 14 #[v] w (Meets (ret (.tuple #[str (packF l).1, .int .i64 (packF l).2])) w) := by
  have hco := fun w' (hg : Gr w w') => containsFuncEvS_calls v l w' (hs.gr hg) 46 #[] #[] odd EntersC.en (fun a _ w'' _ => odd_calls a w'')
  obtain ⟨base, cap, rfl, hcap, hmax, hrd⟩ := hs
  unfold maxLen at hmax
  refine enter (args := [.slice base l.length cap]) (n := 32) Try.func14 rfl rfl rfl ?_
  unfold packF
  by_cases c1 : l.any odd = true
  · rw [if_pos c1]
    rw [c1] at hco
    repeat (first
      | refine TL_val (rr_move rfl) rfl rfl rfl ?_
      | refine TL_val (rr_assign rfl) rfl rfl rfl ?_
      | refine TL_nil ?_
      | refine T_seq ?_
      | refine T_region ?_
      | refine T_condT rfl ?_
      | refine T_condF rfl ?_
      | refine T_skip ?_
      | refine T_exit ?_
      | refine T_ret ?_
      | refine T_block ?_
      | refine E_then ?_
      | refine E_thenX ?_
      | refine E_thenR ?_
      | refine E_blockN ?_
      | refine E_blockR ?_
      | refine E_blockX ?_
      | refine E_blockO rfl ?_
      | refine TL_val (rr_len Und.eq rfl) rfl rfl rfl ?_
      | refine TL_val (rr_field FldC.fld rfl rfl) rfl rfl rfl ?_
      | refine TL_val (rr_lss rfl rfl (decide_eq_true (by omega))) rfl rfl rfl ?_
      | refine TL_val (rr_lss rfl rfl (decide_eq_false (by omega))) rfl rfl rfl ?_
      | refine TL_val (rr_gtr rfl rfl (decide_eq_true (by omega))) rfl rfl rfl ?_
      | refine TL_val (rr_gtr rfl rfl (decide_eq_false (by omega))) rfl rfl rfl ?_
      | refine TL_val (rr_add64 rfl rfl (by omega) (by omega) rfl) rfl rfl rfl ?_)
    refine TL_call (he2 EntersC.en rfl rfl rfl) (fun w hm => hco _ hm.below) rfl rfl rfl ?_
    intro _ _
    repeat (first
      | refine TL_val (rr_move rfl) rfl rfl rfl ?_
      | refine TL_val (rr_assign rfl) rfl rfl rfl ?_
      | refine TL_nil ?_
      | refine T_seq ?_
      | refine T_region ?_
      | refine T_condT rfl ?_
      | refine T_condF rfl ?_
      | refine T_skip ?_
      | refine T_exit ?_
      | refine T_ret ?_
      | refine T_block ?_
      | refine E_then ?_
      | refine E_thenX ?_
      | refine E_thenR ?_
      | refine E_blockN ?_
      | refine E_blockR ?_
      | refine E_blockX ?_
      | refine E_blockO rfl ?_
      | refine TL_val (rr_len Und.eq rfl) rfl rfl rfl ?_
      | refine TL_val (rr_field FldC.fld rfl rfl) rfl rfl rfl ?_
      | refine TL_val (rr_lss rfl rfl (decide_eq_true (by omega))) rfl rfl rfl ?_
      | refine TL_val (rr_lss rfl rfl (decide_eq_false (by omega))) rfl rfl rfl ?_
      | refine TL_val (rr_gtr rfl rfl (decide_eq_true (by omega))) rfl rfl rfl ?_
      | refine TL_val (rr_gtr rfl rfl (decide_eq_false (by omega))) rfl rfl rfl ?_
      | refine TL_val (rr_add64 rfl rfl (by omega) (by omega) rfl) rfl rfl rfl ?_)
    exact E_ret2 rfl rfl rfl fun w hm => hm.ret
  · have c1' : l.any odd = false := by simpa using c1
    rw [if_neg c1]
    rw [c1'] at hco
    repeat (first
      | refine TL_val (rr_move rfl) rfl rfl rfl ?_
      | refine TL_val (rr_assign rfl) rfl rfl rfl ?_
      | refine TL_nil ?_
      | refine T_seq ?_
      | refine T_region ?_
      | refine T_condT rfl ?_
      | refine T_condF rfl ?_
      | refine T_skip ?_
      | refine T_exit ?_
      | refine T_ret ?_
      | refine T_block ?_
      | refine E_then ?_
      | refine E_thenX ?_
      | refine E_thenR ?_
      | refine E_blockN ?_
      | refine E_blockR ?_
      | refine E_blockX ?_
      | refine E_blockO rfl ?_
      | refine TL_val (rr_len Und.eq rfl) rfl rfl rfl ?_
      | refine TL_val (rr_field FldC.fld rfl rfl) rfl rfl rfl ?_
      | refine TL_val (rr_lss rfl rfl (decide_eq_true (by omega))) rfl rfl rfl ?_
      | refine TL_val (rr_lss rfl rfl (decide_eq_false (by omega))) rfl rfl rfl ?_
      | refine TL_val (rr_gtr rfl rfl (decide_eq_true (by omega))) rfl rfl rfl ?_
      | refine TL_val (rr_gtr rfl rfl (decide_eq_false (by omega))) rfl rfl rfl ?_
      | refine TL_val (rr_add64 rfl rfl (by omega) (by omega) rfl) rfl rfl rfl ?_)
    refine TL_call (he2 EntersC.en rfl rfl rfl) (fun w hm => hco _ hm.below) rfl rfl rfl ?_
    intro _ _
    clear hco
    repeat (first
      | refine TL_val (rr_move rfl) rfl rfl rfl ?_
      | refine TL_val (rr_assign rfl) rfl rfl rfl ?_
      | refine TL_nil ?_
      | refine T_seq ?_
      | refine T_region ?_
      | refine T_condT rfl ?_
      | refine T_condF rfl ?_
      | refine T_skip ?_
      | refine T_exit ?_
      | refine T_ret ?_
      | refine T_block ?_
      | refine E_then ?_
      | refine E_thenX ?_
      | refine E_thenR ?_
      | refine E_blockN ?_
      | refine E_blockR ?_
      | refine E_blockX ?_
      | refine E_blockO rfl ?_
      | refine TL_val (rr_len Und.eq rfl) rfl rfl rfl ?_
      | refine TL_val (rr_field FldC.fld rfl rfl) rfl rfl rfl ?_
      | refine TL_val (rr_lss rfl rfl (decide_eq_true (by omega))) rfl rfl rfl ?_
      | refine TL_val (rr_lss rfl rfl (decide_eq_false (by omega))) rfl rfl rfl ?_
      | refine TL_val (rr_gtr rfl rfl (decide_eq_true (by omega))) rfl rfl rfl ?_
      | refine TL_val (rr_gtr rfl rfl (decide_eq_false (by omega))) rfl rfl rfl ?_
      | refine TL_val (rr_add64 rfl rfl (by omega) (by omega) rfl) rfl rfl rfl ?_)
    refine T_nil 5 1 ?_
    refine T_loop (ι := Nat × Value) (fun (k, _) => k ≤ l.length ∧ (evsL (l.take k)).length ≤ 1024) (fun (k, v) => [(4, v), (9, .slice base l.length cap), (10, .int .i64 l.length), (11, .int .i64 (k : Int))]) (fun (k, v) => [rowO 5 1 v (evsL (l.take k)).length ((evsL (l.take k)).map u8v)]) (fun (k, _) => l.length - k) (0, .slice none 0 0) ⟨by omega, by simp [evsL]⟩ (by repeat' (first | exact True.intro | refine And.intro rfl ?_)) rfl ?_
    rintro ⟨k, v⟩ ⟨h1, h2⟩
    dsimp only at h1 h2 ⊢
    by_cases c2 : k < l.length
    · obtain ⟨b, off, rfl, hr⟩ := hrd (by omega)
      have hat := at_el (L := [rowO 5 1 v (evsL (l.take k)).length ((evsL (l.take k)).map u8v)]) EvS_len hr c2
      have htk := evs_take l c2
      have hpre := evs_pre l (k + 1)
      have hno : odd l[k] = false := by
        rw [List.any_eq_false] at c1'
        simpa using c1' l[k] (List.getElem_mem c2)
      obtain ⟨a1, a2, a3, a4⟩ := odd_no hno
      clear c1 c1' hno hrd
      generalize l[k] = x at *
      obtain ⟨p, q⟩ := x
      dsimp only at a1 a2 a3 a4 htk
      generalize evsL (l.take k) = E0 at *
      rw [htk] at hpre
      have hnl := numL_le q.toNat (by omega)
      repeat (first
        | refine TL_val (rr_move rfl) rfl rfl rfl ?_
        | refine TL_val (rr_assign rfl) rfl rfl rfl ?_
        | refine TL_nil ?_
        | refine T_seq ?_
        | refine T_region ?_
        | refine T_condT rfl ?_
        | refine T_condF rfl ?_
        | refine T_skip ?_
        | refine T_exit ?_
        | refine T_ret ?_
        | refine T_block ?_
        | refine E_then ?_
        | refine E_thenX ?_
        | refine E_thenR ?_
        | refine E_blockN ?_
        | refine E_blockR ?_
        | refine E_blockX ?_
        | refine E_blockO rfl ?_
        | refine TL_val (rr_idxc Und.eq TyC.ty rfl rfl c2) rfl rfl rfl ?_
        | refine TL_val (rr_loadN TyC.ty rfl rfl hat) rfl rfl rfl ?_
        | refine TL_val (rr_len Und.eq rfl) rfl rfl rfl ?_
        | refine TL_val (rr_field FldC.fld rfl rfl) rfl rfl rfl ?_
        | refine TL_val (rr_lss rfl rfl (decide_eq_true (by omega))) rfl rfl rfl ?_
        | refine TL_val (rr_lss rfl rfl (decide_eq_false (by omega))) rfl rfl rfl ?_
        | refine TL_val (rr_gtr rfl rfl (decide_eq_true (by omega))) rfl rfl rfl ?_
        | refine TL_val (rr_gtr rfl rfl (decide_eq_false (by omega))) rfl rfl rfl ?_
        | refine TL_val (rr_add64 rfl rfl (by omega) (by omega) rfl) rfl rfl rfl ?_)
      clear hat
      refine TL_new rfl fun g => ?_
      refine TL_storeB (i := 1) rfl rfl rfl rfl rfl rfl ?_
      repeat (first
        | refine TL_val (rr_move rfl) rfl rfl rfl ?_
        | refine TL_val (rr_assign rfl) rfl rfl rfl ?_
        | refine TL_nil ?_
        | refine T_seq ?_
        | refine T_region ?_
        | refine T_condT rfl ?_
        | refine T_condF rfl ?_
        | refine T_skip ?_
        | refine T_exit ?_
        | refine T_ret ?_
        | refine T_block ?_
        | refine E_then ?_
        | refine E_thenX ?_
        | refine E_thenR ?_
        | refine E_blockN ?_
        | refine E_blockR ?_
        | refine E_blockX ?_
        | refine E_blockO rfl ?_
        | refine TL_val (rr_len Und.eq rfl) rfl rfl rfl ?_
        | refine TL_val (rr_field FldC.fld rfl rfl) rfl rfl rfl ?_
        | refine TL_val (rr_lss rfl rfl (decide_eq_true (by omega))) rfl rfl rfl ?_
        | refine TL_val (rr_lss rfl rfl (decide_eq_false (by omega))) rfl rfl rfl ?_
        | refine TL_val (rr_gtr rfl rfl (decide_eq_true (by omega))) rfl rfl rfl ?_
        | refine TL_val (rr_gtr rfl rfl (decide_eq_false (by omega))) rfl rfl rfl ?_
        | refine TL_val (rr_add64 rfl rfl (by omega) (by omega) rfl) rfl rfl rfl ?_)
      refine T_order ([blkO g (evC (p, q)).toArray 56]) [(1, true), (2, true), (3, true), (6, true), (7, true), (8, true), (0, true), (4, false), (5, false), (9, true), (10, false), (11, true)] (sub_pick [1] (by decide) rfl) (by kernel_rfl) (by kernel_rfl) (by intro c a d v w h; cases d <;> exact h) ?_
      repeat (first
        | refine TV_val (rr_move rfl) rfl rfl rfl ?_
        | refine TV_val (rr_assign rfl) rfl rfl rfl ?_
        | refine TV_val (rr_load1 TyC.ty rfl (at_blk (i := 0) rfl rfl)) rfl rfl rfl ?_
        | refine TV_val (rr_conv Und.eq Und.eq rfl (wrap8 a1 a2)) rfl rfl rfl ?_
        | refine TV_val (rr_conv Und.eq Und.eq rfl (wrap64 a3 a4)) rfl rfl rfl ?_
        | refine TV_val (rr_len Und.eq rfl) rfl rfl rfl ?_
        | refine TV_val (rr_field FldC.fld rfl rfl) rfl rfl rfl ?_
        | refine TV_val (rr_lss rfl rfl (decide_eq_true (by omega))) rfl rfl rfl ?_
        | refine TV_val (rr_lss rfl rfl (decide_eq_false (by omega))) rfl rfl rfl ?_
        | refine TV_val (rr_gtr rfl rfl (decide_eq_true (by omega))) rfl rfl rfl ?_
        | refine TV_val (rr_gtr rfl rfl (decide_eq_false (by omega))) rfl rfl rfl ?_
        | refine TV_val (rr_add64 rfl rfl (by omega) (by omega) rfl) rfl rfl rfl ?_
        | refine TV_nil ?_)
      refine TV_do (TL_one rfl rfl rfl rfl rfl fun g4 => TV_on (sub_pick [1] (by decide) rfl) ?_)
      refine TV_do (TL_app11 (i := 0) (q := 2) rfl rfl rfl rfl rfl rfl (by omega) (by omega) rfl fun v' => TV_on (sub_pick [1] (by decide) rfl) ?_)
      refine TV_call (he1 EntersC.en rfl rfl) (fun w hm => num_calls q.toNat w (by omega)) rfl rfl rfl ?_
      refine TV_do (TL_appstr (i := 0) rfl rfl rfl (by omega) rfl fun v2 => TV_on (sub_pick [1] (by decide) rfl) ?_)
      repeat (first
        | refine TV_val (rr_move rfl) rfl rfl rfl ?_
        | refine TV_val (rr_assign rfl) rfl rfl rfl ?_
        | refine TV_val (rr_len Und.eq rfl) rfl rfl rfl ?_
        | refine TV_val (rr_field FldC.fld rfl rfl) rfl rfl rfl ?_
        | refine TV_val (rr_lss rfl rfl (decide_eq_true (by omega))) rfl rfl rfl ?_
        | refine TV_val (rr_lss rfl rfl (decide_eq_false (by omega))) rfl rfl rfl ?_
        | refine TV_val (rr_gtr rfl rfl (decide_eq_true (by omega))) rfl rfl rfl ?_
        | refine TV_val (rr_gtr rfl rfl (decide_eq_false (by omega))) rfl rfl rfl ?_
        | refine TV_val (rr_add64 rfl rfl (by omega) (by omega) rfl) rfl rfl rfl ?_
        | refine TV_nil ?_)
      simp only [List.length_append, List.length_cons] at hpre
      by_cases c3 : 1024 < E0.length + 1 + (numL q.toNat).length
      · rw [if_pos (by omega)]
        repeat (first
          | refine TL_val (rr_move rfl) rfl rfl rfl ?_
          | refine TL_val (rr_assign rfl) rfl rfl rfl ?_
          | refine TL_nil ?_
          | refine T_seq ?_
          | refine T_region ?_
          | refine T_condT rfl ?_
          | refine T_condF rfl ?_
          | refine T_skip ?_
          | refine T_exit ?_
          | refine T_ret ?_
          | refine T_block ?_
          | refine E_then ?_
          | refine E_thenX ?_
          | refine E_thenR ?_
          | refine E_blockN ?_
          | refine E_blockR ?_
          | refine E_blockX ?_
          | refine E_blockO rfl ?_
          | refine TL_val (rr_rowlen (i := 0) Und.eq rfl rfl) rfl rfl rfl ?_
          | refine TL_val (rr_len Und.eq rfl) rfl rfl rfl ?_
          | refine TL_val (rr_field FldC.fld rfl rfl) rfl rfl rfl ?_
          | refine TL_val (rr_lss rfl rfl (decide_eq_true (by omega))) rfl rfl rfl ?_
          | refine TL_val (rr_lss rfl rfl (decide_eq_false (by omega))) rfl rfl rfl ?_
          | refine TL_val (rr_gtr rfl rfl (decide_eq_true (by omega))) rfl rfl rfl ?_
          | refine TL_val (rr_gtr rfl rfl (decide_eq_false (by omega))) rfl rfl rfl ?_
          | refine TL_val (rr_add64 rfl rfl (by omega) (by omega) rfl) rfl rfl rfl ?_)
        exact E_ret2 rfl rfl rfl fun w hm => hm.ret
      · repeat (first
          | refine TL_val (rr_move rfl) rfl rfl rfl ?_
          | refine TL_val (rr_assign rfl) rfl rfl rfl ?_
          | refine TL_nil ?_
          | refine T_seq ?_
          | refine T_region ?_
          | refine T_condT rfl ?_
          | refine T_condF rfl ?_
          | refine T_skip ?_
          | refine T_exit ?_
          | refine T_ret ?_
          | refine T_block ?_
          | refine E_then ?_
          | refine E_thenX ?_
          | refine E_thenR ?_
          | refine E_blockN ?_
          | refine E_blockR ?_
          | refine E_blockX ?_
          | refine E_blockO rfl ?_
          | refine TL_val (rr_rowlen (i := 0) Und.eq rfl rfl) rfl rfl rfl ?_
          | refine TL_val (rr_len Und.eq rfl) rfl rfl rfl ?_
          | refine TL_val (rr_field FldC.fld rfl rfl) rfl rfl rfl ?_
          | refine TL_val (rr_lss rfl rfl (decide_eq_true (by omega))) rfl rfl rfl ?_
          | refine TL_val (rr_lss rfl rfl (decide_eq_false (by omega))) rfl rfl rfl ?_
          | refine TL_val (rr_gtr rfl rfl (decide_eq_true (by omega))) rfl rfl rfl ?_
          | refine TL_val (rr_gtr rfl rfl (decide_eq_false (by omega))) rfl rfl rfl ?_
          | refine TL_val (rr_add64 rfl rfl (by omega) (by omega) rfl) rfl rfl rfl ?_)
        refine E_pick [0] (by decide) rfl ?_
        exact E_round (k + 1, v2) ⟨by omega, by rw [htk]; simp; omega⟩ (by show l.length - (k + 1) < l.length - k; omega) (by repeat' (first | exact True.intro | refine And.intro rfl ?_)) (by simp only [htk, List.length_append, List.length_cons, List.map_append, List.map_cons, List.append_assoc]; rw [show E0.length + 1 + (numL q.toNat).length = E0.length + ((numL q.toNat).length + 1) by omega]; rfl)
    · have hk : l.take k = l := List.take_of_length_le (by omega)
      rw [hk] at h2 ⊢
      rw [if_neg (by omega)]
      generalize evsL l = E0 at *
      repeat (first
        | refine TL_val (rr_move rfl) rfl rfl rfl ?_
        | refine TL_val (rr_assign rfl) rfl rfl rfl ?_
        | refine TL_nil ?_
        | refine T_seq ?_
        | refine T_region ?_
        | refine T_condT rfl ?_
        | refine T_condF rfl ?_
        | refine T_skip ?_
        | refine T_exit ?_
        | refine T_ret ?_
        | refine T_block ?_
        | refine E_then ?_
        | refine E_thenX ?_
        | refine E_thenR ?_
        | refine E_blockN ?_
        | refine E_blockR ?_
        | refine E_blockX ?_
        | refine E_blockO rfl ?_
        | refine TL_val (rr_string Und.eq Und.eq Und.eq rfl rfl (sl_row (i := 0) rfl)) rfl rfl rfl ?_
        | refine TL_val (rr_len Und.eq rfl) rfl rfl rfl ?_
        | refine TL_val (rr_field FldC.fld rfl rfl) rfl rfl rfl ?_
        | refine TL_val (rr_lss rfl rfl (decide_eq_true (by omega))) rfl rfl rfl ?_
        | refine TL_val (rr_lss rfl rfl (decide_eq_false (by omega))) rfl rfl rfl ?_
        | refine TL_val (rr_gtr rfl rfl (decide_eq_true (by omega))) rfl rfl rfl ?_
        | refine TL_val (rr_gtr rfl rfl (decide_eq_false (by omega))) rfl rfl rfl ?_
        | refine TL_val (rr_add64 rfl rfl (by omega) (by omega) rfl) rfl rfl rfl ?_)
      exact E_ret2 rfl rfl rfl fun w hm => hm.ret
end Go.Proofs.Ytnooleopmlijeaa.eng
