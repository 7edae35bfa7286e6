/- What gate.Grant, Take compute. -/
import Derived.Test.YtnooleopmlijeaaGateC
import Derived.Test.YtnooleopmlijeaaMixW
namespace Go.Proofs.Ytnooleopmlijeaa.eng
open Go.RowKit kit mix gateL
set_option maxHeartbeats 2000000 in
theorem ggrant_calls (v : Value) (wait : List Ev) (c g n : Int) (w : World) (hs : Sl w v wait.length (wait.flatMap evC)) (hl : wait.length * 16 ≤ 140737488355328) :
    Calls Try.prog 29 #[gaV v c g, .int .i64 n] w (Meets (gaS wait (grantC wait c g n) g (grantE wait c g n)) w) := by
  have hck := fun w' (hg : Gr w w') => gcheck_calls v wait c g w' (hs.gr hg)
  have hsm := fun w' (hg : Gr w w') => gsame_calls v wait c g w' (hs.gr hg) hl
  have hok := grantE_ok (wait := wait) (c := c) (g := g) (n := n)
  have hc2 := checkG_ok (wait := wait) (c := c) (g := g)
  obtain ⟨base, cap, rfl, hcap, hmax, _⟩ := hs
  unfold maxLen at hmax
  refine enter (args := [gaV (.slice base wait.length cap) c g, .int .i64 n]) (n := 32) Try.func29 rfl rfl rfl ?_
  refine T_seq (T_region (TL_box rfl rfl rfl fun g0 => TL_new rfl fun g4 => ?_))
  repeat (first
    | refine TL_val (rr_move rfl) rfl rfl rfl ?_
    | refine TL_val (rr_assign rfl) rfl rfl rfl ?_
    | refine TL_nil ?_
    | refine E_then ?_
    | refine TL_val (rr_pickT rfl rfl) rfl rfl rfl ?_
    | refine TL_val (rr_pickF rfl rfl) rfl rfl rfl ?_
    | refine TL_val (rr_field FldC.fld rfl rfl) rfl rfl rfl ?_
    | refine TL_val (rr_min rfl rfl (by omega)) rfl rfl rfl ?_
    | refine TL_val (rr_eql rfl rfl (decide_eq_true (by omega))) rfl rfl rfl ?_
    | refine TL_val (rr_eql rfl rfl (decide_eq_false (by omega))) rfl rfl rfl ?_
    | refine TL_val (rr_add64 rfl rfl (by omega) (by omega) rfl) rfl rfl rfl ?_
    | refine TL_skip rfl rfl rfl rfl rfl rfl ?_
    | refine TL_gval (rr_move rfl) rfl rfl rfl rfl rfl ?_
    | refine TL_gval (rr_pickT rfl rfl) rfl rfl rfl rfl rfl ?_
    | refine TL_gval (rr_pickF rfl rfl) rfl rfl rfl rfl rfl ?_
    | refine TL_gval (rr_lss rfl rfl (decide_eq_true (by omega))) rfl rfl rfl rfl rfl ?_
    | refine TL_gval (rr_lss rfl rfl (decide_eq_false (by omega))) rfl rfl rfl rfl rfl ?_
    | refine TL_gval (rr_gtr rfl rfl (decide_eq_true (by omega))) rfl rfl rfl rfl rfl ?_
    | refine TL_gval (rr_gtr rfl rfl (decide_eq_false (by omega))) rfl rfl rfl rfl rfl ?_)
  refine T_mid (ι := Value × Nat) (fun (v2, _) => v2.oneCell' = true) (fun (v2, g6) => [(1, .int .i64 n), (4, .pointer (some ⟨g4, 0, none⟩)), (6, .pointer (some ⟨g6, 0, none⟩)), (7, .int .i64 (checkG wait c g))]) (fun (v2, g6) => [blkO g4 #[.slice none 0 0, .int .i64 0, .int .i64 0] 59, rowO 56 2 v2 wait.length (wait.flatMap evC), blkO g6 (gaV v2 c g).cells 59]) ?_ ?_
  · refine T_ord ([blkO g0 (gaV (.slice base wait.length cap) c g).cells 59]) (.calm 0 (.calm 2 (.two 1 (.calm 3 (.one 4 (.one 5 (.calm 6 (.done))))) 4 (.one 1 (.calm 3 (.one 5 (.calm 6 (.done)))))))) (sub_pick [0] (by decide) rfl) (by kernel_rfl) (by kernel_rfl) (by intro c a d v w h; cases d <;> exact h) ?_
    repeat (first
      | refine TW_val rfl (rr_move rfl) rfl rfl rfl ?_
      | refine TW_val rfl (rr_assign rfl) rfl rfl rfl ?_
      | refine TW_val rfl (rr_loadB (i := 0) TyC.ty rfl rfl rfl) rfl rfl rfl ?_
      | refine TW_val rfl (rr_pickT rfl rfl) rfl rfl rfl ?_
      | refine TW_val rfl (rr_pickF rfl rfl) rfl rfl rfl ?_
      | refine TW_val rfl (rr_field FldC.fld rfl rfl) rfl rfl rfl ?_
      | refine TW_val rfl (rr_min rfl rfl (by omega)) rfl rfl rfl ?_
      | refine TW_val rfl (rr_eql rfl rfl (decide_eq_true (by omega))) rfl rfl rfl ?_
      | refine TW_val rfl (rr_eql rfl rfl (decide_eq_false (by omega))) rfl rfl rfl ?_
      | refine TW_val rfl (rr_add64 rfl rfl (by omega) (by omega) rfl) rfl rfl rfl ?_
      | refine TW_skip rfl rfl rfl rfl rfl rfl rfl ?_
      | refine TW_gval rfl (rr_move rfl) rfl rfl rfl rfl rfl ?_
      | refine TW_gval rfl (rr_pickT rfl rfl) rfl rfl rfl rfl rfl ?_
      | refine TW_gval rfl (rr_pickF rfl rfl) rfl rfl rfl rfl rfl ?_
      | refine TW_gval rfl (rr_lss rfl rfl (decide_eq_true (by omega))) rfl rfl rfl rfl rfl ?_
      | refine TW_gval rfl (rr_lss rfl rfl (decide_eq_false (by omega))) rfl rfl rfl rfl rfl ?_
      | refine TW_gval rfl (rr_gtr rfl rfl (decide_eq_true (by omega))) rfl rfl rfl rfl rfl ?_
      | refine TW_gval rfl (rr_gtr rfl rfl (decide_eq_false (by omega))) rfl rfl rfl rfl rfl ?_
      | refine TW_done ?_)
    refine TW_two rfl rfl ?_ ?_
    · refine TL_call (he1 EntersC.en rfl rfl) (fun w hm => hsm _ hm.below) rfl rfl rfl ?_
      intro v2 _
      refine TW_on (sub_pick [0] (by decide) rfl) ?_
      refine TW_call rfl (he1 EntersC.en rfl rfl) (fun w hm => hck _ hm.below) rfl rfl rfl ?_
      refine TW_one rfl (TL_new rfl fun g6 => TW_on (sub_pick [0] (by decide) rfl) ?_)
      refine TW_one rfl ?_
      refine TL_slv (i := 2) rfl fun hc1 ho1 => ?_
      refine TL_storeB (i := 3) rfl rfl rfl rfl (gaV_one ho1) rfl ?_
      refine TW_on (sub_pick [0] (by decide) rfl) ?_
      repeat (first
        | refine TW_val rfl (rr_move rfl) rfl rfl rfl ?_
        | refine TW_val rfl (rr_assign rfl) rfl rfl rfl ?_
        | refine TW_val rfl (rr_pickT rfl rfl) rfl rfl rfl ?_
        | refine TW_val rfl (rr_pickF rfl rfl) rfl rfl rfl ?_
        | refine TW_val rfl (rr_field FldC.fld rfl rfl) rfl rfl rfl ?_
        | refine TW_val rfl (rr_min rfl rfl (by omega)) rfl rfl rfl ?_
        | refine TW_val rfl (rr_eql rfl rfl (decide_eq_true (by omega))) rfl rfl rfl ?_
        | refine TW_val rfl (rr_eql rfl rfl (decide_eq_false (by omega))) rfl rfl rfl ?_
        | refine TW_val rfl (rr_add64 rfl rfl (by omega) (by omega) rfl) rfl rfl rfl ?_
        | refine TW_skip rfl rfl rfl rfl rfl rfl rfl ?_
        | refine TW_gval rfl (rr_move rfl) rfl rfl rfl rfl rfl ?_
        | refine TW_gval rfl (rr_pickT rfl rfl) rfl rfl rfl rfl rfl ?_
        | refine TW_gval rfl (rr_pickF rfl rfl) rfl rfl rfl rfl rfl ?_
        | refine TW_gval rfl (rr_lss rfl rfl (decide_eq_true (by omega))) rfl rfl rfl rfl rfl ?_
        | refine TW_gval rfl (rr_lss rfl rfl (decide_eq_false (by omega))) rfl rfl rfl rfl rfl ?_
        | refine TW_gval rfl (rr_gtr rfl rfl (decide_eq_true (by omega))) rfl rfl rfl rfl rfl ?_
        | refine TW_gval rfl (rr_gtr rfl rfl (decide_eq_false (by omega))) rfl rfl rfl rfl rfl ?_
        | refine TW_done ?_)
      refine E_pick [1, 2, 3] (by decide) rfl ?_
      exact E_mid (v2, g6) ho1 (by repeat' (first | exact True.intro | refine And.intro rfl ?_)) rfl
    · refine TL_new rfl fun g6 => ?_
      refine TW_on (sub_pick [0] (by decide) rfl) ?_
      refine TW_one rfl ?_
      refine TL_call (he1 EntersC.en rfl rfl) (fun w hm => hsm _ hm.below) rfl rfl rfl ?_
      intro v2 _
      refine TW_on (sub_pick [0] (by decide) rfl) ?_
      refine TW_call rfl (he1 EntersC.en rfl rfl) (fun w hm => hck _ hm.below) rfl rfl rfl ?_
      refine TW_one rfl ?_
      refine TL_slv (i := 3) rfl fun hc1 ho1 => ?_
      refine TL_storeB (i := 2) rfl rfl rfl rfl (gaV_one ho1) rfl ?_
      refine TW_on (sub_pick [0] (by decide) rfl) ?_
      repeat (first
        | refine TW_val rfl (rr_move rfl) rfl rfl rfl ?_
        | refine TW_val rfl (rr_assign rfl) rfl rfl rfl ?_
        | refine TW_val rfl (rr_pickT rfl rfl) rfl rfl rfl ?_
        | refine TW_val rfl (rr_pickF rfl rfl) rfl rfl rfl ?_
        | refine TW_val rfl (rr_field FldC.fld rfl rfl) rfl rfl rfl ?_
        | refine TW_val rfl (rr_min rfl rfl (by omega)) rfl rfl rfl ?_
        | refine TW_val rfl (rr_eql rfl rfl (decide_eq_true (by omega))) rfl rfl rfl ?_
        | refine TW_val rfl (rr_eql rfl rfl (decide_eq_false (by omega))) rfl rfl rfl ?_
        | refine TW_val rfl (rr_add64 rfl rfl (by omega) (by omega) rfl) rfl rfl rfl ?_
        | refine TW_skip rfl rfl rfl rfl rfl rfl rfl ?_
        | refine TW_gval rfl (rr_move rfl) rfl rfl rfl rfl rfl ?_
        | refine TW_gval rfl (rr_pickT rfl rfl) rfl rfl rfl rfl rfl ?_
        | refine TW_gval rfl (rr_pickF rfl rfl) rfl rfl rfl rfl rfl ?_
        | refine TW_gval rfl (rr_lss rfl rfl (decide_eq_true (by omega))) rfl rfl rfl rfl rfl ?_
        | refine TW_gval rfl (rr_lss rfl rfl (decide_eq_false (by omega))) rfl rfl rfl rfl rfl ?_
        | refine TW_gval rfl (rr_gtr rfl rfl (decide_eq_true (by omega))) rfl rfl rfl rfl rfl ?_
        | refine TW_gval rfl (rr_gtr rfl rfl (decide_eq_false (by omega))) rfl rfl rfl rfl rfl ?_
        | refine TW_done ?_)
      refine E_pick [1, 3, 2] (by decide) rfl ?_
      exact E_mid (v2, g6) ho1 (by repeat' (first | exact True.intro | refine And.intro rfl ?_)) rfl
  rintro ⟨v2, g6⟩ ho1
  dsimp only at ho1 ⊢
  unfold grantC grantE at *
  by_cases c1 : checkG wait c g = 0
  · obtain ⟨_, b1, b2, _⟩ := hc2 c1
    rw [c1]
    simp only [ne_eq, not_true_eq_false, if_false]
    by_cases c2 : n < 1
    · rw [if_pos c2]
      repeat (first
        | refine TL_val (rr_move rfl) rfl rfl rfl ?_
        | refine TL_val (rr_assign rfl) rfl rfl rfl ?_
        | refine TL_nil ?_
        | refine T_seq ?_
        | refine T_region ?_
        | refine T_condT rfl ?_
        | refine T_condF rfl ?_
        | refine T_skip ?_
        | refine T_ret ?_
        | refine E_then ?_
        | refine E_thenR ?_
        | refine TL_val (rr_loadB (i := 2) TyC.ty rfl rfl rfl) rfl rfl rfl ?_
        | refine TL_val (rr_pickT rfl rfl) rfl rfl rfl ?_
        | refine TL_val (rr_pickF rfl rfl) rfl rfl rfl ?_
        | refine TL_val (rr_field FldC.fld rfl rfl) rfl rfl rfl ?_
        | refine TL_val (rr_min rfl rfl (by omega)) rfl rfl rfl ?_
        | refine TL_val (rr_eql rfl rfl (decide_eq_true (by omega))) rfl rfl rfl ?_
        | refine TL_val (rr_eql rfl rfl (decide_eq_false (by omega))) rfl rfl rfl ?_
        | refine TL_val (rr_add64 rfl rfl (by omega) (by omega) rfl) rfl rfl rfl ?_
        | refine TL_skip rfl rfl rfl rfl rfl rfl ?_
        | refine TL_gval (rr_move rfl) rfl rfl rfl rfl rfl ?_
        | refine TL_gval (rr_pickT rfl rfl) rfl rfl rfl rfl rfl ?_
        | refine TL_gval (rr_pickF rfl rfl) rfl rfl rfl rfl rfl ?_
        | refine TL_gval (rr_lss rfl rfl (decide_eq_true (by omega))) rfl rfl rfl rfl rfl ?_
        | refine TL_gval (rr_lss rfl rfl (decide_eq_false (by omega))) rfl rfl rfl rfl rfl ?_
        | refine TL_gval (rr_gtr rfl rfl (decide_eq_true (by omega))) rfl rfl rfl rfl rfl ?_
        | refine TL_gval (rr_gtr rfl rfl (decide_eq_false (by omega))) rfl rfl rfl rfl rfl ?_)
      refine TL_storeB (i := 0) rfl rfl rfl rfl (gaV_one ho1) rfl ?_
      repeat (first
        | refine TL_val (rr_move rfl) rfl rfl rfl ?_
        | refine TL_val (rr_assign rfl) rfl rfl rfl ?_
        | refine TL_nil ?_
        | refine T_seq ?_
        | refine T_region ?_
        | refine T_condT rfl ?_
        | refine T_condF rfl ?_
        | refine T_skip ?_
        | refine T_ret ?_
        | refine E_then ?_
        | refine E_thenR ?_
        | refine TL_val (rr_pickT rfl rfl) rfl rfl rfl ?_
        | refine TL_val (rr_pickF rfl rfl) rfl rfl rfl ?_
        | refine TL_val (rr_field FldC.fld rfl rfl) rfl rfl rfl ?_
        | refine TL_val (rr_min rfl rfl (by omega)) rfl rfl rfl ?_
        | refine TL_val (rr_eql rfl rfl (decide_eq_true (by omega))) rfl rfl rfl ?_
        | refine TL_val (rr_eql rfl rfl (decide_eq_false (by omega))) rfl rfl rfl ?_
        | refine TL_val (rr_add64 rfl rfl (by omega) (by omega) rfl) rfl rfl rfl ?_
        | refine TL_skip rfl rfl rfl rfl rfl rfl ?_
        | refine TL_gval (rr_move rfl) rfl rfl rfl rfl rfl ?_
        | refine TL_gval (rr_pickT rfl rfl) rfl rfl rfl rfl rfl ?_
        | refine TL_gval (rr_pickF rfl rfl) rfl rfl rfl rfl rfl ?_
        | refine TL_gval (rr_lss rfl rfl (decide_eq_true (by omega))) rfl rfl rfl rfl rfl ?_
        | refine TL_gval (rr_lss rfl rfl (decide_eq_false (by omega))) rfl rfl rfl rfl rfl ?_
        | refine TL_gval (rr_gtr rfl rfl (decide_eq_true (by omega))) rfl rfl rfl rfl rfl ?_
        | refine TL_gval (rr_gtr rfl rfl (decide_eq_false (by omega))) rfl rfl rfl rfl rfl ?_)
      exact E_retc2 (i := 0) rfl rfl rfl rfl rfl fun w hm => hm.meets (S := gaS wait c g 1) v2 trivial [1] (by decide) rfl
    · rw [if_neg c2]
      by_cases c3 : 1073741824 < n
      · rw [if_pos c3]
        repeat (first
          | refine TL_val (rr_move rfl) rfl rfl rfl ?_
          | refine TL_val (rr_assign rfl) rfl rfl rfl ?_
          | refine TL_nil ?_
          | refine T_seq ?_
          | refine T_region ?_
          | refine T_condT rfl ?_
          | refine T_condF rfl ?_
          | refine T_skip ?_
          | refine T_ret ?_
          | refine E_then ?_
          | refine E_thenR ?_
          | refine TL_val (rr_loadB (i := 2) TyC.ty rfl rfl rfl) rfl rfl rfl ?_
          | refine TL_val (rr_pickT rfl rfl) rfl rfl rfl ?_
          | refine TL_val (rr_pickF rfl rfl) rfl rfl rfl ?_
          | refine TL_val (rr_field FldC.fld rfl rfl) rfl rfl rfl ?_
          | refine TL_val (rr_min rfl rfl (by omega)) rfl rfl rfl ?_
          | refine TL_val (rr_eql rfl rfl (decide_eq_true (by omega))) rfl rfl rfl ?_
          | refine TL_val (rr_eql rfl rfl (decide_eq_false (by omega))) rfl rfl rfl ?_
          | refine TL_val (rr_add64 rfl rfl (by omega) (by omega) rfl) rfl rfl rfl ?_
          | refine TL_skip rfl rfl rfl rfl rfl rfl ?_
          | refine TL_gval (rr_move rfl) rfl rfl rfl rfl rfl ?_
          | refine TL_gval (rr_pickT rfl rfl) rfl rfl rfl rfl rfl ?_
          | refine TL_gval (rr_pickF rfl rfl) rfl rfl rfl rfl rfl ?_
          | refine TL_gval (rr_lss rfl rfl (decide_eq_true (by omega))) rfl rfl rfl rfl rfl ?_
          | refine TL_gval (rr_lss rfl rfl (decide_eq_false (by omega))) rfl rfl rfl rfl rfl ?_
          | refine TL_gval (rr_gtr rfl rfl (decide_eq_true (by omega))) rfl rfl rfl rfl rfl ?_
          | refine TL_gval (rr_gtr rfl rfl (decide_eq_false (by omega))) rfl rfl rfl rfl rfl ?_)
        refine TL_storeB (i := 0) rfl rfl rfl rfl (gaV_one ho1) rfl ?_
        repeat (first
          | refine TL_val (rr_move rfl) rfl rfl rfl ?_
          | refine TL_val (rr_assign rfl) rfl rfl rfl ?_
          | refine TL_nil ?_
          | refine T_seq ?_
          | refine T_region ?_
          | refine T_condT rfl ?_
          | refine T_condF rfl ?_
          | refine T_skip ?_
          | refine T_ret ?_
          | refine E_then ?_
          | refine E_thenR ?_
          | refine TL_val (rr_pickT rfl rfl) rfl rfl rfl ?_
          | refine TL_val (rr_pickF rfl rfl) rfl rfl rfl ?_
          | refine TL_val (rr_field FldC.fld rfl rfl) rfl rfl rfl ?_
          | refine TL_val (rr_min rfl rfl (by omega)) rfl rfl rfl ?_
          | refine TL_val (rr_eql rfl rfl (decide_eq_true (by omega))) rfl rfl rfl ?_
          | refine TL_val (rr_eql rfl rfl (decide_eq_false (by omega))) rfl rfl rfl ?_
          | refine TL_val (rr_add64 rfl rfl (by omega) (by omega) rfl) rfl rfl rfl ?_
          | refine TL_skip rfl rfl rfl rfl rfl rfl ?_
          | refine TL_gval (rr_move rfl) rfl rfl rfl rfl rfl ?_
          | refine TL_gval (rr_pickT rfl rfl) rfl rfl rfl rfl rfl ?_
          | refine TL_gval (rr_pickF rfl rfl) rfl rfl rfl rfl rfl ?_
          | refine TL_gval (rr_lss rfl rfl (decide_eq_true (by omega))) rfl rfl rfl rfl rfl ?_
          | refine TL_gval (rr_lss rfl rfl (decide_eq_false (by omega))) rfl rfl rfl rfl rfl ?_
          | refine TL_gval (rr_gtr rfl rfl (decide_eq_true (by omega))) rfl rfl rfl rfl rfl ?_
          | refine TL_gval (rr_gtr rfl rfl (decide_eq_false (by omega))) rfl rfl rfl rfl rfl ?_)
        exact E_retc2 (i := 0) rfl rfl rfl rfl rfl fun w hm => hm.meets (S := gaS wait c g 1) v2 trivial [1] (by decide) rfl
      · rw [if_neg c3]
        repeat (first
          | refine TL_val (rr_move rfl) rfl rfl rfl ?_
          | refine TL_val (rr_assign rfl) rfl rfl rfl ?_
          | refine TL_nil ?_
          | refine T_seq ?_
          | refine T_region ?_
          | refine T_condT rfl ?_
          | refine T_condF rfl ?_
          | refine T_skip ?_
          | refine T_ret ?_
          | refine E_then ?_
          | refine E_thenR ?_
          | refine TL_val (rr_load1 TyC.ty rfl (at_blk (i := 2) rfl rfl)) rfl rfl rfl ?_
          | refine TL_val (rr_min rfl rfl rfl) rfl rfl rfl ?_
          | refine TL_val (rr_pickT rfl rfl) rfl rfl rfl ?_
          | refine TL_val (rr_pickF rfl rfl) rfl rfl rfl ?_
          | refine TL_val (rr_field FldC.fld rfl rfl) rfl rfl rfl ?_
          | refine TL_val (rr_min rfl rfl (by omega)) rfl rfl rfl ?_
          | refine TL_val (rr_eql rfl rfl (decide_eq_true (by omega))) rfl rfl rfl ?_
          | refine TL_val (rr_eql rfl rfl (decide_eq_false (by omega))) rfl rfl rfl ?_
          | refine TL_val (rr_add64 rfl rfl (by omega) (by omega) rfl) rfl rfl rfl ?_
          | refine TL_skip rfl rfl rfl rfl rfl rfl ?_
          | refine TL_gval (rr_move rfl) rfl rfl rfl rfl rfl ?_
          | refine TL_gval (rr_pickT rfl rfl) rfl rfl rfl rfl rfl ?_
          | refine TL_gval (rr_pickF rfl rfl) rfl rfl rfl rfl rfl ?_
          | refine TL_gval (rr_lss rfl rfl (decide_eq_true (by omega))) rfl rfl rfl rfl rfl ?_
          | refine TL_gval (rr_lss rfl rfl (decide_eq_false (by omega))) rfl rfl rfl rfl rfl ?_
          | refine TL_gval (rr_gtr rfl rfl (decide_eq_true (by omega))) rfl rfl rfl rfl rfl ?_
          | refine TL_gval (rr_gtr rfl rfl (decide_eq_false (by omega))) rfl rfl rfl rfl rfl ?_)
        refine TL_store1 (i := 2) rfl rfl rfl rfl rfl rfl ?_
        repeat (first
          | refine TL_val (rr_move rfl) rfl rfl rfl ?_
          | refine TL_val (rr_assign rfl) rfl rfl rfl ?_
          | refine TL_nil ?_
          | refine T_seq ?_
          | refine T_region ?_
          | refine T_condT rfl ?_
          | refine T_condF rfl ?_
          | refine T_skip ?_
          | refine T_ret ?_
          | refine E_then ?_
          | refine E_thenR ?_
          | refine TL_val (rr_loadB (i := 2) TyC.ty rfl rfl rfl) rfl rfl rfl ?_
          | refine TL_val (rr_pickT rfl rfl) rfl rfl rfl ?_
          | refine TL_val (rr_pickF rfl rfl) rfl rfl rfl ?_
          | refine TL_val (rr_field FldC.fld rfl rfl) rfl rfl rfl ?_
          | refine TL_val (rr_min rfl rfl (by omega)) rfl rfl rfl ?_
          | refine TL_val (rr_eql rfl rfl (decide_eq_true (by omega))) rfl rfl rfl ?_
          | refine TL_val (rr_eql rfl rfl (decide_eq_false (by omega))) rfl rfl rfl ?_
          | refine TL_val (rr_add64 rfl rfl (by omega) (by omega) rfl) rfl rfl rfl ?_
          | refine TL_skip rfl rfl rfl rfl rfl rfl ?_
          | refine TL_gval (rr_move rfl) rfl rfl rfl rfl rfl ?_
          | refine TL_gval (rr_pickT rfl rfl) rfl rfl rfl rfl rfl ?_
          | refine TL_gval (rr_pickF rfl rfl) rfl rfl rfl rfl rfl ?_
          | refine TL_gval (rr_lss rfl rfl (decide_eq_true (by omega))) rfl rfl rfl rfl rfl ?_
          | refine TL_gval (rr_lss rfl rfl (decide_eq_false (by omega))) rfl rfl rfl rfl rfl ?_
          | refine TL_gval (rr_gtr rfl rfl (decide_eq_true (by omega))) rfl rfl rfl rfl rfl ?_
          | refine TL_gval (rr_gtr rfl rfl (decide_eq_false (by omega))) rfl rfl rfl rfl rfl ?_)
        refine TL_storeB (i := 0) rfl rfl rfl rfl (gaV_one ho1) rfl ?_
        repeat (first
          | refine TL_val (rr_move rfl) rfl rfl rfl ?_
          | refine TL_val (rr_assign rfl) rfl rfl rfl ?_
          | refine TL_nil ?_
          | refine T_seq ?_
          | refine T_region ?_
          | refine T_condT rfl ?_
          | refine T_condF rfl ?_
          | refine T_skip ?_
          | refine T_ret ?_
          | refine E_then ?_
          | refine E_thenR ?_
          | refine TL_val (rr_pickT rfl rfl) rfl rfl rfl ?_
          | refine TL_val (rr_pickF rfl rfl) rfl rfl rfl ?_
          | refine TL_val (rr_field FldC.fld rfl rfl) rfl rfl rfl ?_
          | refine TL_val (rr_min rfl rfl (by omega)) rfl rfl rfl ?_
          | refine TL_val (rr_eql rfl rfl (decide_eq_true (by omega))) rfl rfl rfl ?_
          | refine TL_val (rr_eql rfl rfl (decide_eq_false (by omega))) rfl rfl rfl ?_
          | refine TL_val (rr_add64 rfl rfl (by omega) (by omega) rfl) rfl rfl rfl ?_
          | refine TL_skip rfl rfl rfl rfl rfl rfl ?_
          | refine TL_gval (rr_move rfl) rfl rfl rfl rfl rfl ?_
          | refine TL_gval (rr_pickT rfl rfl) rfl rfl rfl rfl rfl ?_
          | refine TL_gval (rr_pickF rfl rfl) rfl rfl rfl rfl rfl ?_
          | refine TL_gval (rr_lss rfl rfl (decide_eq_true (by omega))) rfl rfl rfl rfl rfl ?_
          | refine TL_gval (rr_lss rfl rfl (decide_eq_false (by omega))) rfl rfl rfl rfl rfl ?_
          | refine TL_gval (rr_gtr rfl rfl (decide_eq_true (by omega))) rfl rfl rfl rfl rfl ?_
          | refine TL_gval (rr_gtr rfl rfl (decide_eq_false (by omega))) rfl rfl rfl rfl rfl ?_)
        exact E_retc2 (i := 0) rfl rfl rfl rfl rfl fun w hm => hm.meets (S := gaS wait (min (c + n) 1073741824) g 0) v2 trivial [1] (by decide) rfl
  · rw [if_pos c1, if_neg c1]
    repeat (first
      | refine TL_val (rr_move rfl) rfl rfl rfl ?_
      | refine TL_val (rr_assign rfl) rfl rfl rfl ?_
      | refine TL_nil ?_
      | refine T_seq ?_
      | refine T_region ?_
      | refine T_condT rfl ?_
      | refine T_condF rfl ?_
      | refine T_skip ?_
      | refine T_ret ?_
      | refine E_then ?_
      | refine E_thenR ?_
      | refine TL_val (rr_loadB (i := 2) TyC.ty rfl rfl rfl) rfl rfl rfl ?_
      | refine TL_val (rr_pickT rfl rfl) rfl rfl rfl ?_
      | refine TL_val (rr_pickF rfl rfl) rfl rfl rfl ?_
      | refine TL_val (rr_field FldC.fld rfl rfl) rfl rfl rfl ?_
      | refine TL_val (rr_min rfl rfl (by omega)) rfl rfl rfl ?_
      | refine TL_val (rr_eql rfl rfl (decide_eq_true (by omega))) rfl rfl rfl ?_
      | refine TL_val (rr_eql rfl rfl (decide_eq_false (by omega))) rfl rfl rfl ?_
      | refine TL_val (rr_add64 rfl rfl (by omega) (by omega) rfl) rfl rfl rfl ?_
      | refine TL_skip rfl rfl rfl rfl rfl rfl ?_
      | refine TL_gval (rr_move rfl) rfl rfl rfl rfl rfl ?_
      | refine TL_gval (rr_pickT rfl rfl) rfl rfl rfl rfl rfl ?_
      | refine TL_gval (rr_pickF rfl rfl) rfl rfl rfl rfl rfl ?_
      | refine TL_gval (rr_lss rfl rfl (decide_eq_true (by omega))) rfl rfl rfl rfl rfl ?_
      | refine TL_gval (rr_lss rfl rfl (decide_eq_false (by omega))) rfl rfl rfl rfl rfl ?_
      | refine TL_gval (rr_gtr rfl rfl (decide_eq_true (by omega))) rfl rfl rfl rfl rfl ?_
      | refine TL_gval (rr_gtr rfl rfl (decide_eq_false (by omega))) rfl rfl rfl rfl rfl ?_)
    refine TL_storeB (i := 0) rfl rfl rfl rfl (gaV_one ho1) rfl ?_
    repeat (first
      | refine TL_val (rr_move rfl) rfl rfl rfl ?_
      | refine TL_val (rr_assign rfl) rfl rfl rfl ?_
      | refine TL_nil ?_
      | refine T_seq ?_
      | refine T_region ?_
      | refine T_condT rfl ?_
      | refine T_condF rfl ?_
      | refine T_skip ?_
      | refine T_ret ?_
      | refine E_then ?_
      | refine E_thenR ?_
      | refine TL_val (rr_pickT rfl rfl) rfl rfl rfl ?_
      | refine TL_val (rr_pickF rfl rfl) rfl rfl rfl ?_
      | refine TL_val (rr_field FldC.fld rfl rfl) rfl rfl rfl ?_
      | refine TL_val (rr_min rfl rfl (by omega)) rfl rfl rfl ?_
      | refine TL_val (rr_eql rfl rfl (decide_eq_true (by omega))) rfl rfl rfl ?_
      | refine TL_val (rr_eql rfl rfl (decide_eq_false (by omega))) rfl rfl rfl ?_
      | refine TL_val (rr_add64 rfl rfl (by omega) (by omega) rfl) rfl rfl rfl ?_
      | refine TL_skip rfl rfl rfl rfl rfl rfl ?_
      | refine TL_gval (rr_move rfl) rfl rfl rfl rfl rfl ?_
      | refine TL_gval (rr_pickT rfl rfl) rfl rfl rfl rfl rfl ?_
      | refine TL_gval (rr_pickF rfl rfl) rfl rfl rfl rfl rfl ?_
      | refine TL_gval (rr_lss rfl rfl (decide_eq_true (by omega))) rfl rfl rfl rfl rfl ?_
      | refine TL_gval (rr_lss rfl rfl (decide_eq_false (by omega))) rfl rfl rfl rfl rfl ?_
      | refine TL_gval (rr_gtr rfl rfl (decide_eq_true (by omega))) rfl rfl rfl rfl rfl ?_
      | refine TL_gval (rr_gtr rfl rfl (decide_eq_false (by omega))) rfl rfl rfl rfl rfl ?_)
    exact E_retc2 (i := 0) rfl rfl rfl rfl rfl fun w hm => hm.meets (S := gaS wait c g (checkG wait c g)) v2 trivial [1] (by decide) rfl
/-- what Take hands back: the gate, what goes -/
def taS (wait : List Ev) (c g n : Int) : Spec (Value × Value) :=
  if takeE wait c g n = 0 then
    ⟨fun _ => True, fun x => .tuple #[gaV x.1 (c - takeN wait c n) (g + takeN wait c n), x.2, .int .i64 0], fun x => [rowO 56 2 x.1 (wait.length - takeN wait c n) ((wait.drop (takeN wait c n)).flatMap evC), rowO 56 2 x.2 (takeN wait c n) ((wait.take (takeN wait c n)).flatMap evC)]⟩
  else ⟨fun _ => True, fun x => .tuple #[gaV x.1 c g, x.2, .int .i64 (takeE wait c g n)], fun x => [rowO 56 2 x.1 wait.length (wait.flatMap evC), rowO 56 2 x.2 0 []]⟩
set_option maxHeartbeats 2000000 in
theorem gtake_calls (v : Value) (wait : List Ev) (c g n : Int) (w : World) (hs : Sl w v wait.length (wait.flatMap evC)) (hl : wait.length * 16 ≤ 140737488355328) :
    Calls Try.prog 30 #[gaV v c g, .int .i64 n] w (Meets (taS wait c g n) w) := by
  have hck := fun w' (hg : Gr w w') => gcheck_calls v wait c g w' (hs.gr hg)
  have hsm := fun w' (hg : Gr w w') => gsame_calls v wait c g w' (hs.gr hg) hl
  have hc2 := checkG_ok (wait := wait) (c := c) (g := g)
  obtain ⟨base, cap, rfl, hcap, hmax, _⟩ := hs
  unfold maxLen at hmax
  refine enter (args := [gaV (.slice base wait.length cap) c g, .int .i64 n]) (n := 55) Try.func30 rfl rfl rfl ?_
  refine T_seq (T_region (TL_box rfl rfl rfl fun g0 => TL_new rfl fun g4 => ?_))
  repeat (first
    | refine TL_val (rr_move rfl) rfl rfl rfl ?_
    | refine TL_val (rr_assign rfl) rfl rfl rfl ?_
    | refine TL_nil ?_
    | refine E_then ?_
    | refine TL_val (rr_pickT rfl rfl) rfl rfl rfl ?_
    | refine TL_val (rr_pickF rfl rfl) rfl rfl rfl ?_
    | refine TL_val (rr_len Und.eq rfl) rfl rfl rfl ?_
    | refine TL_val (rr_field FldC.fld rfl rfl) rfl rfl rfl ?_
    | refine TL_val (rr_min rfl rfl (by omega)) rfl rfl rfl ?_
    | refine TL_val (rr_eql rfl rfl (decide_eq_true (by omega))) rfl rfl rfl ?_
    | refine TL_val (rr_eql rfl rfl (decide_eq_false (by omega))) rfl rfl rfl ?_
    | refine TL_val (rr_neq rfl rfl (decide_eq_true (by omega))) rfl rfl rfl ?_
    | refine TL_val (rr_neq rfl rfl (decide_eq_false (by omega))) rfl rfl rfl ?_
    | refine TL_val (rr_add64 rfl rfl (by omega) (by omega) rfl) rfl rfl rfl ?_
    | refine TL_val (rr_sub64 rfl rfl (by omega) (by omega) rfl) rfl rfl rfl ?_
    | refine TL_skip rfl rfl rfl rfl rfl rfl ?_
    | refine TL_gval (rr_move rfl) rfl rfl rfl rfl rfl ?_
    | refine TL_gval (rr_lss rfl rfl (decide_eq_true (by omega))) rfl rfl rfl rfl rfl ?_
    | refine TL_gval (rr_lss rfl rfl (decide_eq_false (by omega))) rfl rfl rfl rfl rfl ?_)
  refine T_mid (ι := Value × Nat) (fun (v2, _) => v2.oneCell' = true) (fun (v2, g6) => [(1, .int .i64 n), (4, .pointer (some ⟨g4, 0, none⟩)), (7, .pointer (some ⟨g6, 0, none⟩)), (8, .int .i64 (checkG wait c g))]) (fun (v2, g6) => [blkO g4 #[.slice none 0 0, .int .i64 0, .int .i64 0] 59, rowO 56 2 v2 wait.length (wait.flatMap evC), blkO g6 (gaV v2 c g).cells 59]) ?_ ?_
  · refine T_ord ([blkO g0 (gaV (.slice base wait.length cap) c g).cells 59]) (.calm 0 (.calm 2 (.two 1 (.calm 3 (.one 4 (.one 5 (.calm 6 (.done))))) 4 (.one 1 (.calm 3 (.one 5 (.calm 6 (.done)))))))) (sub_pick [0] (by decide) rfl) (by kernel_rfl) (by kernel_rfl) (by intro c a d v w h; cases d <;> exact h) ?_
    repeat (first
      | refine TW_val rfl (rr_move rfl) rfl rfl rfl ?_
      | refine TW_val rfl (rr_assign rfl) rfl rfl rfl ?_
      | refine TW_val rfl (rr_loadB (i := 0) TyC.ty rfl rfl rfl) rfl rfl rfl ?_
      | refine TW_val rfl (rr_pickT rfl rfl) rfl rfl rfl ?_
      | refine TW_val rfl (rr_pickF rfl rfl) rfl rfl rfl ?_
      | refine TW_val rfl (rr_len Und.eq rfl) rfl rfl rfl ?_
      | refine TW_val rfl (rr_field FldC.fld rfl rfl) rfl rfl rfl ?_
      | refine TW_val rfl (rr_min rfl rfl (by omega)) rfl rfl rfl ?_
      | refine TW_val rfl (rr_eql rfl rfl (decide_eq_true (by omega))) rfl rfl rfl ?_
      | refine TW_val rfl (rr_eql rfl rfl (decide_eq_false (by omega))) rfl rfl rfl ?_
      | refine TW_val rfl (rr_neq rfl rfl (decide_eq_true (by omega))) rfl rfl rfl ?_
      | refine TW_val rfl (rr_neq rfl rfl (decide_eq_false (by omega))) rfl rfl rfl ?_
      | refine TW_val rfl (rr_add64 rfl rfl (by omega) (by omega) rfl) rfl rfl rfl ?_
      | refine TW_val rfl (rr_sub64 rfl rfl (by omega) (by omega) rfl) rfl rfl rfl ?_
      | refine TW_skip rfl rfl rfl rfl rfl rfl rfl ?_
      | refine TW_gval rfl (rr_move rfl) rfl rfl rfl rfl rfl ?_
      | refine TW_gval rfl (rr_lss rfl rfl (decide_eq_true (by omega))) rfl rfl rfl rfl rfl ?_
      | refine TW_gval rfl (rr_lss rfl rfl (decide_eq_false (by omega))) rfl rfl rfl rfl rfl ?_
      | refine TW_done ?_)
    refine TW_two rfl rfl ?_ ?_
    · refine TL_call (he1 EntersC.en rfl rfl) (fun w hm => hsm _ hm.below) rfl rfl rfl ?_
      intro v2 _
      refine TW_on (sub_pick [0] (by decide) rfl) ?_
      refine TW_call rfl (he1 EntersC.en rfl rfl) (fun w hm => hck _ hm.below) rfl rfl rfl ?_
      refine TW_one rfl (TL_new rfl fun g6 => TW_on (sub_pick [0] (by decide) rfl) ?_)
      refine TW_one rfl ?_
      refine TL_slv (i := 2) rfl fun hc1 ho1 => ?_
      refine TL_storeB (i := 3) rfl rfl rfl rfl (gaV_one ho1) rfl ?_
      refine TW_on (sub_pick [0] (by decide) rfl) ?_
      repeat (first
        | refine TW_val rfl (rr_move rfl) rfl rfl rfl ?_
        | refine TW_val rfl (rr_assign rfl) rfl rfl rfl ?_
        | refine TW_val rfl (rr_pickT rfl rfl) rfl rfl rfl ?_
        | refine TW_val rfl (rr_pickF rfl rfl) rfl rfl rfl ?_
        | refine TW_val rfl (rr_len Und.eq rfl) rfl rfl rfl ?_
        | refine TW_val rfl (rr_field FldC.fld rfl rfl) rfl rfl rfl ?_
        | refine TW_val rfl (rr_min rfl rfl (by omega)) rfl rfl rfl ?_
        | refine TW_val rfl (rr_eql rfl rfl (decide_eq_true (by omega))) rfl rfl rfl ?_
        | refine TW_val rfl (rr_eql rfl rfl (decide_eq_false (by omega))) rfl rfl rfl ?_
        | refine TW_val rfl (rr_neq rfl rfl (decide_eq_true (by omega))) rfl rfl rfl ?_
        | refine TW_val rfl (rr_neq rfl rfl (decide_eq_false (by omega))) rfl rfl rfl ?_
        | refine TW_val rfl (rr_add64 rfl rfl (by omega) (by omega) rfl) rfl rfl rfl ?_
        | refine TW_val rfl (rr_sub64 rfl rfl (by omega) (by omega) rfl) rfl rfl rfl ?_
        | refine TW_skip rfl rfl rfl rfl rfl rfl rfl ?_
        | refine TW_gval rfl (rr_move rfl) rfl rfl rfl rfl rfl ?_
        | refine TW_gval rfl (rr_lss rfl rfl (decide_eq_true (by omega))) rfl rfl rfl rfl rfl ?_
        | refine TW_gval rfl (rr_lss rfl rfl (decide_eq_false (by omega))) rfl rfl rfl rfl rfl ?_
        | refine TW_done ?_)
      refine E_pick [1, 2, 3] (by decide) rfl ?_
      exact E_mid (v2, g6) ho1 (by repeat' (first | exact True.intro | refine And.intro rfl ?_)) rfl
    · refine TL_new rfl fun g6 => ?_
      refine TW_on (sub_pick [0] (by decide) rfl) ?_
      refine TW_one rfl ?_
      refine TL_call (he1 EntersC.en rfl rfl) (fun w hm => hsm _ hm.below) rfl rfl rfl ?_
      intro v2 _
      refine TW_on (sub_pick [0] (by decide) rfl) ?_
      refine TW_call rfl (he1 EntersC.en rfl rfl) (fun w hm => hck _ hm.below) rfl rfl rfl ?_
      refine TW_one rfl ?_
      refine TL_slv (i := 3) rfl fun hc1 ho1 => ?_
      refine TL_storeB (i := 2) rfl rfl rfl rfl (gaV_one ho1) rfl ?_
      refine TW_on (sub_pick [0] (by decide) rfl) ?_
      repeat (first
        | refine TW_val rfl (rr_move rfl) rfl rfl rfl ?_
        | refine TW_val rfl (rr_assign rfl) rfl rfl rfl ?_
        | refine TW_val rfl (rr_pickT rfl rfl) rfl rfl rfl ?_
        | refine TW_val rfl (rr_pickF rfl rfl) rfl rfl rfl ?_
        | refine TW_val rfl (rr_len Und.eq rfl) rfl rfl rfl ?_
        | refine TW_val rfl (rr_field FldC.fld rfl rfl) rfl rfl rfl ?_
        | refine TW_val rfl (rr_min rfl rfl (by omega)) rfl rfl rfl ?_
        | refine TW_val rfl (rr_eql rfl rfl (decide_eq_true (by omega))) rfl rfl rfl ?_
        | refine TW_val rfl (rr_eql rfl rfl (decide_eq_false (by omega))) rfl rfl rfl ?_
        | refine TW_val rfl (rr_neq rfl rfl (decide_eq_true (by omega))) rfl rfl rfl ?_
        | refine TW_val rfl (rr_neq rfl rfl (decide_eq_false (by omega))) rfl rfl rfl ?_
        | refine TW_val rfl (rr_add64 rfl rfl (by omega) (by omega) rfl) rfl rfl rfl ?_
        | refine TW_val rfl (rr_sub64 rfl rfl (by omega) (by omega) rfl) rfl rfl rfl ?_
        | refine TW_skip rfl rfl rfl rfl rfl rfl rfl ?_
        | refine TW_gval rfl (rr_move rfl) rfl rfl rfl rfl rfl ?_
        | refine TW_gval rfl (rr_lss rfl rfl (decide_eq_true (by omega))) rfl rfl rfl rfl rfl ?_
        | refine TW_gval rfl (rr_lss rfl rfl (decide_eq_false (by omega))) rfl rfl rfl rfl rfl ?_
        | refine TW_done ?_)
      refine E_pick [1, 3, 2] (by decide) rfl ?_
      exact E_mid (v2, g6) ho1 (by repeat' (first | exact True.intro | refine And.intro rfl ?_)) rfl
  rintro ⟨v2, g6⟩ ho1
  dsimp only at ho1 ⊢
  unfold taS takeE
  by_cases c1 : checkG wait c g = 0
  · obtain ⟨b0, b1, b2, b3, b4, _⟩ := hc2 c1
    rw [c1]
    simp only [ne_eq, not_true_eq_false, if_false]
    by_cases c2 : n < 0
    · rw [if_pos c2, if_neg (by decide)]
      repeat (first
        | refine TL_val (rr_move rfl) rfl rfl rfl ?_
        | refine TL_val (rr_assign rfl) rfl rfl rfl ?_
        | refine TL_nil ?_
        | refine T_seq ?_
        | refine T_region ?_
        | refine T_condT rfl ?_
        | refine T_condF rfl ?_
        | refine T_skip ?_
        | refine T_ret ?_
        | refine E_then ?_
        | refine E_thenR ?_
        | refine TL_val (rr_loadB (i := 2) TyC.ty rfl rfl rfl) rfl rfl rfl ?_
        | refine TL_val (rr_pickT rfl rfl) rfl rfl rfl ?_
        | refine TL_val (rr_pickF rfl rfl) rfl rfl rfl ?_
        | refine TL_val (rr_len Und.eq rfl) rfl rfl rfl ?_
        | refine TL_val (rr_field FldC.fld rfl rfl) rfl rfl rfl ?_
        | refine TL_val (rr_min rfl rfl (by omega)) rfl rfl rfl ?_
        | refine TL_val (rr_eql rfl rfl (decide_eq_true (by omega))) rfl rfl rfl ?_
        | refine TL_val (rr_eql rfl rfl (decide_eq_false (by omega))) rfl rfl rfl ?_
        | refine TL_val (rr_neq rfl rfl (decide_eq_true (by omega))) rfl rfl rfl ?_
        | refine TL_val (rr_neq rfl rfl (decide_eq_false (by omega))) rfl rfl rfl ?_
        | refine TL_val (rr_add64 rfl rfl (by omega) (by omega) rfl) rfl rfl rfl ?_
        | refine TL_val (rr_sub64 rfl rfl (by omega) (by omega) rfl) rfl rfl rfl ?_
        | refine TL_skip rfl rfl rfl rfl rfl rfl ?_
        | refine TL_gval (rr_move rfl) rfl rfl rfl rfl rfl ?_
        | refine TL_gval (rr_lss rfl rfl (decide_eq_true (by omega))) rfl rfl rfl rfl rfl ?_
        | refine TL_gval (rr_lss rfl rfl (decide_eq_false (by omega))) rfl rfl rfl rfl rfl ?_)
      refine TL_storeB (i := 0) rfl rfl rfl rfl (gaV_one ho1) rfl ?_
      repeat (first
        | refine TL_val (rr_move rfl) rfl rfl rfl ?_
        | refine TL_val (rr_assign rfl) rfl rfl rfl ?_
        | refine TL_nil ?_
        | refine T_seq ?_
        | refine T_region ?_
        | refine T_condT rfl ?_
        | refine T_condF rfl ?_
        | refine T_skip ?_
        | refine T_ret ?_
        | refine E_then ?_
        | refine E_thenR ?_
        | refine TL_val (rr_pickT rfl rfl) rfl rfl rfl ?_
        | refine TL_val (rr_pickF rfl rfl) rfl rfl rfl ?_
        | refine TL_val (rr_len Und.eq rfl) rfl rfl rfl ?_
        | refine TL_val (rr_field FldC.fld rfl rfl) rfl rfl rfl ?_
        | refine TL_val (rr_min rfl rfl (by omega)) rfl rfl rfl ?_
        | refine TL_val (rr_eql rfl rfl (decide_eq_true (by omega))) rfl rfl rfl ?_
        | refine TL_val (rr_eql rfl rfl (decide_eq_false (by omega))) rfl rfl rfl ?_
        | refine TL_val (rr_neq rfl rfl (decide_eq_true (by omega))) rfl rfl rfl ?_
        | refine TL_val (rr_neq rfl rfl (decide_eq_false (by omega))) rfl rfl rfl ?_
        | refine TL_val (rr_add64 rfl rfl (by omega) (by omega) rfl) rfl rfl rfl ?_
        | refine TL_val (rr_sub64 rfl rfl (by omega) (by omega) rfl) rfl rfl rfl ?_
        | refine TL_skip rfl rfl rfl rfl rfl rfl ?_
        | refine TL_gval (rr_move rfl) rfl rfl rfl rfl rfl ?_
        | refine TL_gval (rr_lss rfl rfl (decide_eq_true (by omega))) rfl rfl rfl rfl rfl ?_
        | refine TL_gval (rr_lss rfl rfl (decide_eq_false (by omega))) rfl rfl rfl rfl rfl ?_)
      refine E_nilrow 56 2 ?_
      exact E_retc3 (i := 0) rfl rfl rfl rfl rfl rfl fun w hm => hm.meets (S := ⟨fun _ => True, fun (x : Value × Value) => .tuple #[gaV x.1 c g, x.2, .int .i64 1], fun x => [rowO 56 2 x.1 wait.length (wait.flatMap evC), rowO 56 2 x.2 0 []]⟩) (v2, .slice none 0 0) trivial [1, 3] (by decide) rfl
    · rw [if_neg c2, if_pos rfl]
      have hN : (takeN wait c n : Int) = min n (min c wait.length) := by unfold takeN; omega
      have hN2 : takeN wait c n ≤ wait.length := by omega
      generalize takeN wait c n = N at *
      have hcl1 := fun v' w' (hx : Sl w' v' ((wait.drop 0).take (N - 0)).length (((wait.drop 0).take (N - 0)).flatMap evC)) => cloneEvS_calls v' ((wait.drop 0).take (N - 0)) w' hx (by simp; omega)
      have hcl2 := fun v' w' (hx : Sl w' v' ((wait.drop N).take (wait.length - N)).length (((wait.drop N).take (wait.length - N)).flatMap evC)) => cloneEvS_calls v' ((wait.drop N).take (wait.length - N)) w' hx (by simp; omega)
      refine T_rowv (i := 1) rfl fun b2 cap2 hv2 q1 q2 => ?_
      subst hv2
      repeat (first
        | refine TL_val (rr_move rfl) rfl rfl rfl ?_
        | refine TL_val (rr_assign rfl) rfl rfl rfl ?_
        | refine TL_nil ?_
        | refine T_seq ?_
        | refine T_region ?_
        | refine T_condT rfl ?_
        | refine T_condF rfl ?_
        | refine T_skip ?_
        | refine T_ret ?_
        | refine E_then ?_
        | refine E_thenR ?_
        | refine TL_val (rr_load1 TyC.ty rfl (at_blk (i := 2) rfl rfl)) rfl rfl rfl ?_
        | refine TL_val (rr_min3 rfl rfl rfl hN.symm) rfl rfl rfl ?_
        | refine TL_val (rr_slupto Und.eq TyC.ty rfl rfl (by omega)) rfl rfl rfl ?_
        | refine TL_val (rr_pickT rfl rfl) rfl rfl rfl ?_
        | refine TL_val (rr_pickF rfl rfl) rfl rfl rfl ?_
        | refine TL_val (rr_len Und.eq rfl) rfl rfl rfl ?_
        | refine TL_val (rr_field FldC.fld rfl rfl) rfl rfl rfl ?_
        | refine TL_val (rr_min rfl rfl (by omega)) rfl rfl rfl ?_
        | refine TL_val (rr_eql rfl rfl (decide_eq_true (by omega))) rfl rfl rfl ?_
        | refine TL_val (rr_eql rfl rfl (decide_eq_false (by omega))) rfl rfl rfl ?_
        | refine TL_val (rr_neq rfl rfl (decide_eq_true (by omega))) rfl rfl rfl ?_
        | refine TL_val (rr_neq rfl rfl (decide_eq_false (by omega))) rfl rfl rfl ?_
        | refine TL_val (rr_add64 rfl rfl (by omega) (by omega) rfl) rfl rfl rfl ?_
        | refine TL_val (rr_sub64 rfl rfl (by omega) (by omega) rfl) rfl rfl rfl ?_
        | refine TL_skip rfl rfl rfl rfl rfl rfl ?_
        | refine TL_gval (rr_slupto Und.eq TyC.ty rfl rfl (by omega)) rfl rfl rfl rfl rfl ?_
        | refine TL_gval (rr_move rfl) rfl rfl rfl rfl rfl ?_
        | refine TL_gval (rr_lss rfl rfl (decide_eq_true (by omega))) rfl rfl rfl rfl rfl ?_
        | refine TL_gval (rr_lss rfl rfl (decide_eq_false (by omega))) rfl rfl rfl rfl rfl ?_)
      refine TL_call (he1 EntersC.en rfl rfl) (fun w hm => hcl1 _ _ (sl_sub EvS_len (sl_row (i := 1) rfl w hm) (by omega) hN2)) rfl rfl rfl ?_
      intro vg _
      repeat (first
        | refine TL_val (rr_move rfl) rfl rfl rfl ?_
        | refine TL_val (rr_assign rfl) rfl rfl rfl ?_
        | refine TL_nil ?_
        | refine T_seq ?_
        | refine T_region ?_
        | refine T_condT rfl ?_
        | refine T_condF rfl ?_
        | refine T_skip ?_
        | refine T_ret ?_
        | refine E_then ?_
        | refine E_thenR ?_
        | refine TL_val (rr_load1 TyC.ty rfl (at_blk (i := 2) rfl rfl)) rfl rfl rfl ?_
        | refine TL_val (rr_slfrom Und.eq TyC.ty rfl rfl hN2 q1) rfl rfl rfl ?_
        | refine TL_val (rr_pickT rfl rfl) rfl rfl rfl ?_
        | refine TL_val (rr_pickF rfl rfl) rfl rfl rfl ?_
        | refine TL_val (rr_len Und.eq rfl) rfl rfl rfl ?_
        | refine TL_val (rr_field FldC.fld rfl rfl) rfl rfl rfl ?_
        | refine TL_val (rr_min rfl rfl (by omega)) rfl rfl rfl ?_
        | refine TL_val (rr_eql rfl rfl (decide_eq_true (by omega))) rfl rfl rfl ?_
        | refine TL_val (rr_eql rfl rfl (decide_eq_false (by omega))) rfl rfl rfl ?_
        | refine TL_val (rr_neq rfl rfl (decide_eq_true (by omega))) rfl rfl rfl ?_
        | refine TL_val (rr_neq rfl rfl (decide_eq_false (by omega))) rfl rfl rfl ?_
        | refine TL_val (rr_add64 rfl rfl (by omega) (by omega) rfl) rfl rfl rfl ?_
        | refine TL_val (rr_sub64 rfl rfl (by omega) (by omega) rfl) rfl rfl rfl ?_
        | refine TL_skip rfl rfl rfl rfl rfl rfl ?_
        | refine TL_gval (rr_slfrom Und.eq TyC.ty rfl rfl hN2 q1) rfl rfl rfl rfl rfl ?_
        | refine TL_gval (rr_move rfl) rfl rfl rfl rfl rfl ?_
        | refine TL_gval (rr_lss rfl rfl (decide_eq_true (by omega))) rfl rfl rfl rfl rfl ?_
        | refine TL_gval (rr_lss rfl rfl (decide_eq_false (by omega))) rfl rfl rfl rfl rfl ?_)
      refine TL_call (he1 EntersC.en rfl rfl) (fun w hm => hcl2 _ _ (sl_sub EvS_len (sl_row (i := 1) rfl w hm) hN2 (by omega))) rfl rfl rfl ?_
      intro vw _
      repeat (first
        | refine TL_val (rr_move rfl) rfl rfl rfl ?_
        | refine TL_val (rr_assign rfl) rfl rfl rfl ?_
        | refine TL_nil ?_
        | refine T_seq ?_
        | refine T_region ?_
        | refine T_condT rfl ?_
        | refine T_condF rfl ?_
        | refine T_skip ?_
        | refine T_ret ?_
        | refine E_then ?_
        | refine E_thenR ?_
        | refine TL_val (rr_pickT rfl rfl) rfl rfl rfl ?_
        | refine TL_val (rr_pickF rfl rfl) rfl rfl rfl ?_
        | refine TL_val (rr_len Und.eq rfl) rfl rfl rfl ?_
        | refine TL_val (rr_field FldC.fld rfl rfl) rfl rfl rfl ?_
        | refine TL_val (rr_min rfl rfl (by omega)) rfl rfl rfl ?_
        | refine TL_val (rr_eql rfl rfl (decide_eq_true (by omega))) rfl rfl rfl ?_
        | refine TL_val (rr_eql rfl rfl (decide_eq_false (by omega))) rfl rfl rfl ?_
        | refine TL_val (rr_neq rfl rfl (decide_eq_true (by omega))) rfl rfl rfl ?_
        | refine TL_val (rr_neq rfl rfl (decide_eq_false (by omega))) rfl rfl rfl ?_
        | refine TL_val (rr_add64 rfl rfl (by omega) (by omega) rfl) rfl rfl rfl ?_
        | refine TL_val (rr_sub64 rfl rfl (by omega) (by omega) rfl) rfl rfl rfl ?_
        | refine TL_skip rfl rfl rfl rfl rfl rfl ?_
        | refine TL_gval (rr_move rfl) rfl rfl rfl rfl rfl ?_
        | refine TL_gval (rr_lss rfl rfl (decide_eq_true (by omega))) rfl rfl rfl rfl rfl ?_
        | refine TL_gval (rr_lss rfl rfl (decide_eq_false (by omega))) rfl rfl rfl rfl rfl ?_)
      refine TL_slv (i := 4) rfl fun hc3 ho3 => ?_
      refine TL_store1 (i := 2) rfl rfl rfl hc3 ho3 rfl ?_
      repeat (first
        | refine TL_val (rr_move rfl) rfl rfl rfl ?_
        | refine TL_val (rr_assign rfl) rfl rfl rfl ?_
        | refine TL_nil ?_
        | refine T_seq ?_
        | refine T_region ?_
        | refine T_condT rfl ?_
        | refine T_condF rfl ?_
        | refine T_skip ?_
        | refine T_ret ?_
        | refine E_then ?_
        | refine E_thenR ?_
        | refine TL_val (rr_load1 TyC.ty rfl (at_blk (i := 2) rfl rfl)) rfl rfl rfl ?_
        | refine TL_val (rr_pickT rfl rfl) rfl rfl rfl ?_
        | refine TL_val (rr_pickF rfl rfl) rfl rfl rfl ?_
        | refine TL_val (rr_len Und.eq rfl) rfl rfl rfl ?_
        | refine TL_val (rr_field FldC.fld rfl rfl) rfl rfl rfl ?_
        | refine TL_val (rr_min rfl rfl (by omega)) rfl rfl rfl ?_
        | refine TL_val (rr_eql rfl rfl (decide_eq_true (by omega))) rfl rfl rfl ?_
        | refine TL_val (rr_eql rfl rfl (decide_eq_false (by omega))) rfl rfl rfl ?_
        | refine TL_val (rr_neq rfl rfl (decide_eq_true (by omega))) rfl rfl rfl ?_
        | refine TL_val (rr_neq rfl rfl (decide_eq_false (by omega))) rfl rfl rfl ?_
        | refine TL_val (rr_add64 rfl rfl (by omega) (by omega) rfl) rfl rfl rfl ?_
        | refine TL_val (rr_sub64 rfl rfl (by omega) (by omega) rfl) rfl rfl rfl ?_
        | refine TL_skip rfl rfl rfl rfl rfl rfl ?_
        | refine TL_gval (rr_move rfl) rfl rfl rfl rfl rfl ?_
        | refine TL_gval (rr_lss rfl rfl (decide_eq_true (by omega))) rfl rfl rfl rfl rfl ?_
        | refine TL_gval (rr_lss rfl rfl (decide_eq_false (by omega))) rfl rfl rfl rfl rfl ?_)
      refine TL_store1 (i := 2) rfl rfl rfl rfl rfl rfl ?_
      repeat (first
        | refine TL_val (rr_move rfl) rfl rfl rfl ?_
        | refine TL_val (rr_assign rfl) rfl rfl rfl ?_
        | refine TL_nil ?_
        | refine T_seq ?_
        | refine T_region ?_
        | refine T_condT rfl ?_
        | refine T_condF rfl ?_
        | refine T_skip ?_
        | refine T_ret ?_
        | refine E_then ?_
        | refine E_thenR ?_
        | refine TL_val (rr_load1 TyC.ty rfl (at_blk (i := 2) rfl rfl)) rfl rfl rfl ?_
        | refine TL_val (rr_pickT rfl rfl) rfl rfl rfl ?_
        | refine TL_val (rr_pickF rfl rfl) rfl rfl rfl ?_
        | refine TL_val (rr_len Und.eq rfl) rfl rfl rfl ?_
        | refine TL_val (rr_field FldC.fld rfl rfl) rfl rfl rfl ?_
        | refine TL_val (rr_min rfl rfl (by omega)) rfl rfl rfl ?_
        | refine TL_val (rr_eql rfl rfl (decide_eq_true (by omega))) rfl rfl rfl ?_
        | refine TL_val (rr_eql rfl rfl (decide_eq_false (by omega))) rfl rfl rfl ?_
        | refine TL_val (rr_neq rfl rfl (decide_eq_true (by omega))) rfl rfl rfl ?_
        | refine TL_val (rr_neq rfl rfl (decide_eq_false (by omega))) rfl rfl rfl ?_
        | refine TL_val (rr_add64 rfl rfl (by omega) (by omega) rfl) rfl rfl rfl ?_
        | refine TL_val (rr_sub64 rfl rfl (by omega) (by omega) rfl) rfl rfl rfl ?_
        | refine TL_skip rfl rfl rfl rfl rfl rfl ?_
        | refine TL_gval (rr_move rfl) rfl rfl rfl rfl rfl ?_
        | refine TL_gval (rr_lss rfl rfl (decide_eq_true (by omega))) rfl rfl rfl rfl rfl ?_
        | refine TL_gval (rr_lss rfl rfl (decide_eq_false (by omega))) rfl rfl rfl rfl rfl ?_)
      refine TL_store1 (i := 2) rfl rfl rfl rfl rfl rfl ?_
      repeat (first
        | refine TL_val (rr_move rfl) rfl rfl rfl ?_
        | refine TL_val (rr_assign rfl) rfl rfl rfl ?_
        | refine TL_nil ?_
        | refine T_seq ?_
        | refine T_region ?_
        | refine T_condT rfl ?_
        | refine T_condF rfl ?_
        | refine T_skip ?_
        | refine T_ret ?_
        | refine E_then ?_
        | refine E_thenR ?_
        | refine TL_val (rr_loadB (i := 2) TyC.ty rfl rfl rfl) rfl rfl rfl ?_
        | refine TL_val (rr_pickT rfl rfl) rfl rfl rfl ?_
        | refine TL_val (rr_pickF rfl rfl) rfl rfl rfl ?_
        | refine TL_val (rr_len Und.eq rfl) rfl rfl rfl ?_
        | refine TL_val (rr_field FldC.fld rfl rfl) rfl rfl rfl ?_
        | refine TL_val (rr_min rfl rfl (by omega)) rfl rfl rfl ?_
        | refine TL_val (rr_eql rfl rfl (decide_eq_true (by omega))) rfl rfl rfl ?_
        | refine TL_val (rr_eql rfl rfl (decide_eq_false (by omega))) rfl rfl rfl ?_
        | refine TL_val (rr_neq rfl rfl (decide_eq_true (by omega))) rfl rfl rfl ?_
        | refine TL_val (rr_neq rfl rfl (decide_eq_false (by omega))) rfl rfl rfl ?_
        | refine TL_val (rr_add64 rfl rfl (by omega) (by omega) rfl) rfl rfl rfl ?_
        | refine TL_val (rr_sub64 rfl rfl (by omega) (by omega) rfl) rfl rfl rfl ?_
        | refine TL_skip rfl rfl rfl rfl rfl rfl ?_
        | refine TL_gval (rr_move rfl) rfl rfl rfl rfl rfl ?_
        | refine TL_gval (rr_lss rfl rfl (decide_eq_true (by omega))) rfl rfl rfl rfl rfl ?_
        | refine TL_gval (rr_lss rfl rfl (decide_eq_false (by omega))) rfl rfl rfl rfl rfl ?_)
      refine TL_storeB (i := 0) rfl rfl rfl rfl (gaV_one ho3) rfl ?_
      repeat (first
        | refine TL_val (rr_move rfl) rfl rfl rfl ?_
        | refine TL_val (rr_assign rfl) rfl rfl rfl ?_
        | refine TL_nil ?_
        | refine T_seq ?_
        | refine T_region ?_
        | refine T_condT rfl ?_
        | refine T_condF rfl ?_
        | refine T_skip ?_
        | refine T_ret ?_
        | refine E_then ?_
        | refine E_thenR ?_
        | refine TL_val (rr_pickT rfl rfl) rfl rfl rfl ?_
        | refine TL_val (rr_pickF rfl rfl) rfl rfl rfl ?_
        | refine TL_val (rr_len Und.eq rfl) rfl rfl rfl ?_
        | refine TL_val (rr_field FldC.fld rfl rfl) rfl rfl rfl ?_
        | refine TL_val (rr_min rfl rfl (by omega)) rfl rfl rfl ?_
        | refine TL_val (rr_eql rfl rfl (decide_eq_true (by omega))) rfl rfl rfl ?_
        | refine TL_val (rr_eql rfl rfl (decide_eq_false (by omega))) rfl rfl rfl ?_
        | refine TL_val (rr_neq rfl rfl (decide_eq_true (by omega))) rfl rfl rfl ?_
        | refine TL_val (rr_neq rfl rfl (decide_eq_false (by omega))) rfl rfl rfl ?_
        | refine TL_val (rr_add64 rfl rfl (by omega) (by omega) rfl) rfl rfl rfl ?_
        | refine TL_val (rr_sub64 rfl rfl (by omega) (by omega) rfl) rfl rfl rfl ?_
        | refine TL_skip rfl rfl rfl rfl rfl rfl ?_
        | refine TL_gval (rr_move rfl) rfl rfl rfl rfl rfl ?_
        | refine TL_gval (rr_lss rfl rfl (decide_eq_true (by omega))) rfl rfl rfl rfl rfl ?_
        | refine TL_gval (rr_lss rfl rfl (decide_eq_false (by omega))) rfl rfl rfl rfl rfl ?_)
      have e1 : (wait.drop 0).take (N - 0) = wait.take N := by simp
      have e2 : (wait.drop N).take (wait.length - N) = wait.drop N := List.take_of_length_le (by simp)
      have e3 : (wait.take N).length = N := by simp; omega
      have e4 : (wait.drop N).length = wait.length - N := by simp
      refine E_retc3 (i := 0) rfl rfl rfl rfl rfl rfl fun w hm => hm.meets (S := ⟨fun _ => True, fun (x : Value × Value) => .tuple #[gaV x.1 (c - N) (g + N), x.2, .int .i64 0], fun x => [rowO 56 2 x.1 (wait.length - N) ((wait.drop N).flatMap evC), rowO 56 2 x.2 N ((wait.take N).flatMap evC)]⟩) (vw, vg) trivial [4, 3] (by decide) ?_
      show _ = [rowO 56 2 vw ((wait.drop N).take (wait.length - N)).length (((wait.drop N).take (wait.length - N)).flatMap evC), rowO 56 2 vg ((wait.drop 0).take (N - 0)).length (((wait.drop 0).take (N - 0)).flatMap evC)]
      rw [e1, e2, e3, e4]
  · rw [if_pos c1, if_neg (by simpa using c1)]
    repeat (first
      | refine TL_val (rr_move rfl) rfl rfl rfl ?_
      | refine TL_val (rr_assign rfl) rfl rfl rfl ?_
      | refine TL_nil ?_
      | refine T_seq ?_
      | refine T_region ?_
      | refine T_condT rfl ?_
      | refine T_condF rfl ?_
      | refine T_skip ?_
      | refine T_ret ?_
      | refine E_then ?_
      | refine E_thenR ?_
      | refine TL_val (rr_loadB (i := 2) TyC.ty rfl rfl rfl) rfl rfl rfl ?_
      | refine TL_val (rr_pickT rfl rfl) rfl rfl rfl ?_
      | refine TL_val (rr_pickF rfl rfl) rfl rfl rfl ?_
      | refine TL_val (rr_len Und.eq rfl) rfl rfl rfl ?_
      | refine TL_val (rr_field FldC.fld rfl rfl) rfl rfl rfl ?_
      | refine TL_val (rr_min rfl rfl (by omega)) rfl rfl rfl ?_
      | refine TL_val (rr_eql rfl rfl (decide_eq_true (by omega))) rfl rfl rfl ?_
      | refine TL_val (rr_eql rfl rfl (decide_eq_false (by omega))) rfl rfl rfl ?_
      | refine TL_val (rr_neq rfl rfl (decide_eq_true (by omega))) rfl rfl rfl ?_
      | refine TL_val (rr_neq rfl rfl (decide_eq_false (by omega))) rfl rfl rfl ?_
      | refine TL_val (rr_add64 rfl rfl (by omega) (by omega) rfl) rfl rfl rfl ?_
      | refine TL_val (rr_sub64 rfl rfl (by omega) (by omega) rfl) rfl rfl rfl ?_
      | refine TL_skip rfl rfl rfl rfl rfl rfl ?_
      | refine TL_gval (rr_move rfl) rfl rfl rfl rfl rfl ?_
      | refine TL_gval (rr_lss rfl rfl (decide_eq_true (by omega))) rfl rfl rfl rfl rfl ?_
      | refine TL_gval (rr_lss rfl rfl (decide_eq_false (by omega))) rfl rfl rfl rfl rfl ?_)
    refine TL_storeB (i := 0) rfl rfl rfl rfl (gaV_one ho1) rfl ?_
    repeat (first
      | refine TL_val (rr_move rfl) rfl rfl rfl ?_
      | refine TL_val (rr_assign rfl) rfl rfl rfl ?_
      | refine TL_nil ?_
      | refine T_seq ?_
      | refine T_region ?_
      | refine T_condT rfl ?_
      | refine T_condF rfl ?_
      | refine T_skip ?_
      | refine T_ret ?_
      | refine E_then ?_
      | refine E_thenR ?_
      | refine TL_val (rr_pickT rfl rfl) rfl rfl rfl ?_
      | refine TL_val (rr_pickF rfl rfl) rfl rfl rfl ?_
      | refine TL_val (rr_len Und.eq rfl) rfl rfl rfl ?_
      | refine TL_val (rr_field FldC.fld rfl rfl) rfl rfl rfl ?_
      | refine TL_val (rr_min rfl rfl (by omega)) rfl rfl rfl ?_
      | refine TL_val (rr_eql rfl rfl (decide_eq_true (by omega))) rfl rfl rfl ?_
      | refine TL_val (rr_eql rfl rfl (decide_eq_false (by omega))) rfl rfl rfl ?_
      | refine TL_val (rr_neq rfl rfl (decide_eq_true (by omega))) rfl rfl rfl ?_
      | refine TL_val (rr_neq rfl rfl (decide_eq_false (by omega))) rfl rfl rfl ?_
      | refine TL_val (rr_add64 rfl rfl (by omega) (by omega) rfl) rfl rfl rfl ?_
      | refine TL_val (rr_sub64 rfl rfl (by omega) (by omega) rfl) rfl rfl rfl ?_
      | refine TL_skip rfl rfl rfl rfl rfl rfl ?_
      | refine TL_gval (rr_move rfl) rfl rfl rfl rfl rfl ?_
      | refine TL_gval (rr_lss rfl rfl (decide_eq_true (by omega))) rfl rfl rfl rfl rfl ?_
      | refine TL_gval (rr_lss rfl rfl (decide_eq_false (by omega))) rfl rfl rfl rfl rfl ?_)
    refine E_nilrow 56 2 ?_
    exact E_retc3 (i := 0) rfl rfl rfl rfl rfl rfl fun w hm => hm.meets (S := ⟨fun _ => True, fun (x : Value × Value) => .tuple #[gaV x.1 c g, x.2, .int .i64 (checkG wait c g)], fun x => [rowO 56 2 x.1 wait.length (wait.flatMap evC), rowO 56 2 x.2 0 []]⟩) (v2, .slice none 0 0) trivial [1, 3] (by decide) rfl
end Go.Proofs.Ytnooleopmlijeaa.eng
