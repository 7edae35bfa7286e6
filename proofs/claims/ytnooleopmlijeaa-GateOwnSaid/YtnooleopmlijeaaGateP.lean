/- roomy, filled, spoil at events; SameGate. -/
import Derived.Test.YtnooleopmlijeaaEvS
import Derived.Test.YtnooleopmlijeaaGateC
import Derived.Test.YtnooleopmlijeaaMixW
namespace Go.Proofs.Ytnooleopmlijeaa.eng
open Go.RowKit kit mix gateL
set_option maxHeartbeats 2000000 in
theorem sameGate_calls (v : Value) (l : List Ev) (c g : Int) (v' : Value) (l' : List Ev) (c' g' : Int) (w : World) (hs : Sl w v l.length (l.flatMap evC)) (hs' : Sl w v' l'.length (l'.flatMap evC)) :
    Calls Try.prog 33 #[gaV v c g, gaV v' c' g'] w (Meets (ret (.bool (decide (l = l') && (decide (c = c') && decide (g = g'))))) w) := by
  have heq := fun w' (hg : Gr w w') => equalEvS_calls v v' l l' w' (hs.gr hg) (hs'.gr hg)
  refine enter (args := [gaV v c g, gaV v' c' g']) (n := 24) Try.func33 rfl rfl rfl ?_
  refine T_seq (T_region (TL_box rfl rfl rfl fun g0 => TL_box rfl rfl rfl fun g1 => ?_))
  generalize decide (l = l') = b at *
  cases b
  · repeat (first
      | refine TL_val (rr_move rfl) rfl rfl rfl ?_
      | refine TL_val (rr_assign rfl) rfl rfl rfl ?_
      | refine TL_nil ?_
      | refine T_seq ?_
      | refine T_region ?_
      | refine T_ret ?_
      | refine E_then ?_
      | refine E_thenR ?_
      | refine TL_val (rr_load1 TyC.ty rfl (at_blk (i := 0) rfl rfl)) rfl rfl rfl ?_
      | refine TL_val (rr_load1 TyC.ty rfl (at_blk (i := 1) rfl rfl)) rfl rfl rfl ?_
      | refine TL_val (rr_pickT rfl rfl) rfl rfl rfl ?_
      | refine TL_val (rr_pickF rfl rfl) rfl rfl rfl ?_
      | refine TL_val (rr_field FldC.fld rfl rfl) rfl rfl rfl ?_
      | refine TL_skip rfl rfl rfl rfl rfl rfl ?_
      | refine TL_gval (rr_load1 TyC.ty rfl (at_blk (i := 0) rfl rfl)) rfl rfl rfl rfl rfl ?_
      | refine TL_gval (rr_load1 TyC.ty rfl (at_blk (i := 1) rfl rfl)) rfl rfl rfl rfl rfl ?_
      | refine TL_gval (rr_field FldC.fld rfl rfl) rfl rfl rfl rfl rfl ?_
      | refine TL_gval (rr_eql rfl rfl (decide_eq_true (by omega))) rfl rfl rfl rfl rfl ?_
      | refine TL_gval (rr_eql rfl rfl (decide_eq_false (by omega))) rfl rfl rfl rfl rfl ?_)
    refine TL_call (he2 EntersC.en rfl rfl rfl) (fun w hm => heq _ hm.below) rfl rfl rfl ?_
    intro _ _
    repeat (first
      | refine TL_val (rr_move rfl) rfl rfl rfl ?_
      | refine TL_val (rr_assign rfl) rfl rfl rfl ?_
      | refine TL_nil ?_
      | refine T_seq ?_
      | refine T_region ?_
      | refine T_ret ?_
      | refine E_then ?_
      | refine E_thenR ?_
      | refine TL_val (rr_pickT rfl rfl) rfl rfl rfl ?_
      | refine TL_val (rr_pickF rfl rfl) rfl rfl rfl ?_
      | refine TL_val (rr_field FldC.fld rfl rfl) rfl rfl rfl ?_
      | refine TL_skip rfl rfl rfl rfl rfl rfl ?_
      | refine TL_gval (rr_field FldC.fld rfl rfl) rfl rfl rfl rfl rfl ?_
      | refine TL_gval (rr_eql rfl rfl (decide_eq_true (by omega))) rfl rfl rfl rfl rfl ?_
      | refine TL_gval (rr_eql rfl rfl (decide_eq_false (by omega))) rfl rfl rfl rfl rfl ?_)
    exact E_ret1 rfl rfl fun w hm => hm.ret
  · repeat (first
      | refine TL_val (rr_move rfl) rfl rfl rfl ?_
      | refine TL_val (rr_assign rfl) rfl rfl rfl ?_
      | refine TL_nil ?_
      | refine T_seq ?_
      | refine T_region ?_
      | refine T_ret ?_
      | refine E_then ?_
      | refine E_thenR ?_
      | refine TL_val (rr_load1 TyC.ty rfl (at_blk (i := 0) rfl rfl)) rfl rfl rfl ?_
      | refine TL_val (rr_load1 TyC.ty rfl (at_blk (i := 1) rfl rfl)) rfl rfl rfl ?_
      | refine TL_val (rr_pickT rfl rfl) rfl rfl rfl ?_
      | refine TL_val (rr_pickF rfl rfl) rfl rfl rfl ?_
      | refine TL_val (rr_field FldC.fld rfl rfl) rfl rfl rfl ?_
      | refine TL_skip rfl rfl rfl rfl rfl rfl ?_
      | refine TL_gval (rr_load1 TyC.ty rfl (at_blk (i := 0) rfl rfl)) rfl rfl rfl rfl rfl ?_
      | refine TL_gval (rr_load1 TyC.ty rfl (at_blk (i := 1) rfl rfl)) rfl rfl rfl rfl rfl ?_
      | refine TL_gval (rr_field FldC.fld rfl rfl) rfl rfl rfl rfl rfl ?_
      | refine TL_gval (rr_eql rfl rfl (decide_eq_true (by omega))) rfl rfl rfl rfl rfl ?_
      | refine TL_gval (rr_eql rfl rfl (decide_eq_false (by omega))) rfl rfl rfl rfl rfl ?_)
    refine TL_call (he2 EntersC.en rfl rfl rfl) (fun w hm => heq _ hm.below) rfl rfl rfl ?_
    intro _ _
    by_cases c1 : c = c'
    · by_cases c2 : g = g'
      · rw [decide_eq_true c1, decide_eq_true c2]
        repeat (first
          | refine TL_val (rr_move rfl) rfl rfl rfl ?_
          | refine TL_val (rr_assign rfl) rfl rfl rfl ?_
          | refine TL_nil ?_
          | refine T_seq ?_
          | refine T_region ?_
          | refine T_ret ?_
          | refine E_then ?_
          | refine E_thenR ?_
          | refine TL_val (rr_load1 TyC.ty rfl (at_blk (i := 0) rfl rfl)) rfl rfl rfl ?_
          | refine TL_val (rr_load1 TyC.ty rfl (at_blk (i := 1) rfl rfl)) rfl rfl rfl ?_
          | refine TL_val (rr_pickT rfl rfl) rfl rfl rfl ?_
          | refine TL_val (rr_pickF rfl rfl) rfl rfl rfl ?_
          | refine TL_val (rr_field FldC.fld rfl rfl) rfl rfl rfl ?_
          | refine TL_skip rfl rfl rfl rfl rfl rfl ?_
          | refine TL_gval (rr_load1 TyC.ty rfl (at_blk (i := 0) rfl rfl)) rfl rfl rfl rfl rfl ?_
          | refine TL_gval (rr_load1 TyC.ty rfl (at_blk (i := 1) rfl rfl)) rfl rfl rfl rfl rfl ?_
          | refine TL_gval (rr_field FldC.fld rfl rfl) rfl rfl rfl rfl rfl ?_
          | refine TL_gval (rr_eql rfl rfl (decide_eq_true (by omega))) rfl rfl rfl rfl rfl ?_
          | refine TL_gval (rr_eql rfl rfl (decide_eq_false (by omega))) rfl rfl rfl rfl rfl ?_)
        exact E_ret1 rfl rfl fun w hm => hm.ret
      · rw [decide_eq_true c1, decide_eq_false c2]
        repeat (first
          | refine TL_val (rr_move rfl) rfl rfl rfl ?_
          | refine TL_val (rr_assign rfl) rfl rfl rfl ?_
          | refine TL_nil ?_
          | refine T_seq ?_
          | refine T_region ?_
          | refine T_ret ?_
          | refine E_then ?_
          | refine E_thenR ?_
          | refine TL_val (rr_load1 TyC.ty rfl (at_blk (i := 0) rfl rfl)) rfl rfl rfl ?_
          | refine TL_val (rr_load1 TyC.ty rfl (at_blk (i := 1) rfl rfl)) rfl rfl rfl ?_
          | refine TL_val (rr_pickT rfl rfl) rfl rfl rfl ?_
          | refine TL_val (rr_pickF rfl rfl) rfl rfl rfl ?_
          | refine TL_val (rr_field FldC.fld rfl rfl) rfl rfl rfl ?_
          | refine TL_skip rfl rfl rfl rfl rfl rfl ?_
          | refine TL_gval (rr_load1 TyC.ty rfl (at_blk (i := 0) rfl rfl)) rfl rfl rfl rfl rfl ?_
          | refine TL_gval (rr_load1 TyC.ty rfl (at_blk (i := 1) rfl rfl)) rfl rfl rfl rfl rfl ?_
          | refine TL_gval (rr_field FldC.fld rfl rfl) rfl rfl rfl rfl rfl ?_
          | refine TL_gval (rr_eql rfl rfl (decide_eq_true (by omega))) rfl rfl rfl rfl rfl ?_
          | refine TL_gval (rr_eql rfl rfl (decide_eq_false (by omega))) rfl rfl rfl rfl rfl ?_)
        exact E_ret1 rfl rfl fun w hm => hm.ret
    · rw [decide_eq_false c1]
      repeat (first
        | refine TL_val (rr_move rfl) rfl rfl rfl ?_
        | refine TL_val (rr_assign rfl) rfl rfl rfl ?_
        | refine TL_nil ?_
        | refine T_seq ?_
        | refine T_region ?_
        | refine T_ret ?_
        | refine E_then ?_
        | refine E_thenR ?_
        | refine TL_val (rr_load1 TyC.ty rfl (at_blk (i := 0) rfl rfl)) rfl rfl rfl ?_
        | refine TL_val (rr_load1 TyC.ty rfl (at_blk (i := 1) rfl rfl)) rfl rfl rfl ?_
        | refine TL_val (rr_pickT rfl rfl) rfl rfl rfl ?_
        | refine TL_val (rr_pickF rfl rfl) rfl rfl rfl ?_
        | refine TL_val (rr_field FldC.fld rfl rfl) rfl rfl rfl ?_
        | refine TL_skip rfl rfl rfl rfl rfl rfl ?_
        | refine TL_gval (rr_load1 TyC.ty rfl (at_blk (i := 0) rfl rfl)) rfl rfl rfl rfl rfl ?_
        | refine TL_gval (rr_load1 TyC.ty rfl (at_blk (i := 1) rfl rfl)) rfl rfl rfl rfl rfl ?_
        | refine TL_gval (rr_field FldC.fld rfl rfl) rfl rfl rfl rfl rfl ?_
        | refine TL_gval (rr_eql rfl rfl (decide_eq_true (by omega))) rfl rfl rfl rfl rfl ?_
        | refine TL_gval (rr_eql rfl rfl (decide_eq_false (by omega))) rfl rfl rfl rfl rfl ?_)
      exact E_ret1 rfl rfl fun w hm => hm.ret
end Go.Proofs.Ytnooleopmlijeaa.eng
