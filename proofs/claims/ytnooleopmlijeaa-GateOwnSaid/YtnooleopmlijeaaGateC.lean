/- What gate.Check, same, Put, Grant, Take compute. -/
import Derived.Test.YtnooleopmlijeaaEvS
import Derived.Test.YtnooleopmlijeaaGateM
namespace Go.Proofs.Ytnooleopmlijeaa.eng
open Go.RowKit kit mix gateL
theorem gaV_one {v : Value} {c g : Int} (h : v.oneCell' = true) : (#[v, .int .i64 c, .int .i64 g] : Array Value).toList.all Value.oneCell' = true := by
  simp only [List.all_cons, List.all_nil, h]; rfl
def gaV (v : Value) (c g : Int) : Value := .agg #[v, .int .i64 c, .int .i64 g]
set_option maxHeartbeats 2000000 in
theorem gcheck_calls (v : Value) (wait : List Ev) (c g : Int) (w : World) (hs : Sl w v wait.length (wait.flatMap evC)) :
    Calls Try.prog 49 #[gaV v c g] w (Meets (ret (.int .i64 (checkG wait c g))) w) := by
  have hco := fun w' (hg : Gr w w') => containsFuncEvS_calls v wait w' (hs.gr hg) 46 #[] #[] odd EntersC.en (fun a _ w'' _ => odd_calls a w'')
  obtain ⟨base, cap, rfl, hcap, hmax, hrd⟩ := hs
  unfold maxLen at hmax
  clear hrd
  refine enter (args := [gaV (.slice base wait.length cap) c g]) (n := 32) Try.func49 rfl rfl rfl ?_
  refine T_seq (T_region (TL_box rfl rfl rfl fun gb => ?_))
  repeat' (first
    | refine TL_val (rr_move rfl) rfl rfl rfl ?_
    | refine TL_val (rr_assign rfl) rfl rfl rfl ?_
    | refine TL_nil ?_
    | refine T_seq ?_
    | refine T_region ?_
    | refine T_condT rfl ?_
    | refine T_condF rfl ?_
    | refine T_skip ?_
    | refine T_ret ?_
    | refine T_block ?_
    | refine E_then ?_
    | refine E_thenR ?_
    | refine E_blockN ?_
    | refine E_blockR ?_
    | refine TL_val (rr_load1 TyC.ty rfl (at_blk (i := 0) rfl rfl)) rfl rfl rfl ?_
    | refine TL_val (rr_pickT rfl rfl) rfl rfl rfl ?_
    | refine TL_val (rr_pickF rfl rfl) rfl rfl rfl ?_
    | refine TL_val (rr_len Und.eq rfl) rfl rfl rfl ?_
    | refine TL_val (rr_field FldC.fld rfl rfl) rfl rfl rfl ?_
    | refine TL_val (rr_lss rfl rfl (decide_eq_true (by omega))) rfl rfl rfl ?_
    | refine TL_val (rr_lss rfl rfl (decide_eq_false (by omega))) rfl rfl rfl ?_
    | refine TL_val (rr_gtr rfl rfl (decide_eq_true (by omega))) rfl rfl rfl ?_
    | refine TL_val (rr_gtr rfl rfl (decide_eq_false (by omega))) rfl rfl rfl ?_
    | refine TL_skip rfl rfl rfl rfl rfl rfl ?_
    | refine TL_gval (rr_load1 TyC.ty rfl (at_blk (i := 0) rfl rfl)) rfl rfl rfl rfl rfl ?_
    | refine TL_gval (rr_field FldC.fld rfl rfl) rfl rfl rfl rfl rfl ?_
    | refine TL_gval (rr_lss rfl rfl (decide_eq_true (by omega))) rfl rfl rfl rfl rfl ?_
    | refine TL_gval (rr_lss rfl rfl (decide_eq_false (by omega))) rfl rfl rfl rfl rfl ?_
    | refine TL_gval (rr_gtr rfl rfl (decide_eq_true (by omega))) rfl rfl rfl rfl rfl ?_
    | refine TL_gval (rr_gtr rfl rfl (decide_eq_false (by omega))) rfl rfl rfl rfl rfl ?_
    | refine TL_split (rr_lss rfl rfl rfl) rfl rfl rfl (fun h => ?_) (fun h => ?_)
    | refine TL_gsplitv (rr_lss rfl rfl rfl) rfl rfl rfl rfl rfl (fun h => ?_) (fun h => ?_)
    | refine TL_split (rr_gtr rfl rfl rfl) rfl rfl rfl (fun h => ?_) (fun h => ?_)
    | refine TL_gsplitv (rr_gtr rfl rfl rfl) rfl rfl rfl rfl rfl (fun h => ?_) (fun h => ?_)
    | refine TL_gcall (he2 EntersC.en rfl rfl rfl) (fun w hm => hco _ hm.below) rfl rfl rfl rfl rfl (fun _ _ => ?_)
    | ((fail_if_success (refine T_condT rfl ?_)); (fail_if_success (refine T_condF rfl ?_)); refine T_condS rfl (fun h => ?_) (fun h => ?_))
    | ((fail_if_success (refine TL_isT rfl rfl rfl ?_)); (fail_if_success (refine TL_isF rfl rfl rfl ?_)); refine TL_gsplit rfl rfl rfl (fun h => ?_) (fun h => ?_)))
  all_goals (refine E_ret1e rfl rfl ?_; unfold checkG; repeat (first | rfl | rw [if_pos (by first | omega | assumption)] | rw [if_neg (by first | omega | assumption | simp only [*, Bool.false_eq_true, not_false_eq_true])]))
set_option maxHeartbeats 2000000 in
theorem gsame_calls (v : Value) (wait : List Ev) (c g : Int) (w : World) (hs : Sl w v wait.length (wait.flatMap evC)) (hl : wait.length * 16 ≤ 140737488355328) :
    Calls Try.prog 50 #[gaV v c g] w (Meets (rowS 56 2 wait.length (wait.flatMap evC) fun v => gaV v c g) w) := by
  have hcl := fun w' (hg : Gr w w') => cloneEvS_calls v wait w' (hs.gr hg) hl
  refine enter (args := [gaV v c g]) (n := 8) Try.func50 rfl rfl rfl ?_
  refine T_seq (T_region (TL_box rfl rfl rfl fun gb => TL_new rfl fun g2 => ?_))
  repeat (first
    | refine TL_nil ?_
    | refine T_seq ?_
    | refine T_region ?_
    | refine T_ret ?_
    | refine E_then ?_
    | refine E_thenR ?_
    | refine TL_val (rr_load1 TyC.ty rfl (at_blk (i := 0) rfl rfl)) rfl rfl rfl ?_
    | refine TL_val (rr_field FldC.fld rfl rfl) rfl rfl rfl ?_)
  refine TL_call (he1 EntersC.en rfl rfl) (fun w hm => hcl _ hm.below) rfl rfl rfl ?_
  intro v2 _
  repeat (first
    | refine TL_nil ?_
    | refine T_seq ?_
    | refine T_region ?_
    | refine T_ret ?_
    | refine E_then ?_
    | refine E_thenR ?_
    | refine TL_val (rr_field FldC.fld rfl rfl) rfl rfl rfl ?_)
  refine TL_slv (i := 2) rfl fun hc1 ho1 => ?_
  refine TL_store1 (i := 0) rfl rfl rfl hc1 ho1 rfl ?_
  repeat (first
    | refine TL_nil ?_
    | refine T_seq ?_
    | refine T_region ?_
    | refine T_ret ?_
    | refine E_then ?_
    | refine E_thenR ?_
    | refine TL_val (rr_loadB (i := 0) TyC.ty rfl rfl rfl) rfl rfl rfl ?_
    | refine TL_val (rr_field FldC.fld rfl rfl) rfl rfl rfl ?_)
  refine TL_storeB (i := 1) rfl rfl rfl rfl (gaV_one ho1) rfl ?_
  repeat (first
    | refine TL_nil ?_
    | refine T_seq ?_
    | refine T_region ?_
    | refine T_ret ?_
    | refine E_then ?_
    | refine E_thenR ?_
    | refine TL_val (rr_field FldC.fld rfl rfl) rfl rfl rfl ?_)
  exact E_retc1 (i := 1) rfl rfl rfl rfl fun w hm => hm.meets (S := rowS 56 2 wait.length (wait.flatMap evC) fun v => gaV v c g) v2 trivial [2] (by decide) rfl
def gaS (m : List Ev) (c g e : Int) : Spec Value := rowS 56 2 m.length (m.flatMap evC) fun v => .tuple #[gaV v c g, .int .i64 e]
set_option maxHeartbeats 2000000 in
theorem gput_calls (v : Value) (wait : List Ev) (c g : Int) (vl : Value) (l : List Ev) (w : World) (hs : Sl w v wait.length (wait.flatMap evC)) (hl : wait.length * 16 ≤ 140737488355328) (hs2 : Sl w vl l.length (l.flatMap evC)) :
    Calls Try.prog 28 #[gaV v c g, vl] w (Meets (gaS (putW wait c g l) c g (putE wait c g l)) w) := by
  have hck := fun w' (hg : Gr w w') => gcheck_calls v wait c g w' (hs.gr hg)
  have hsm := fun w' (hg : Gr w w') => gsame_calls v wait c g w' (hs.gr hg) hl
  have hco := fun w' (hg : Gr w w') => containsFuncEvS_calls vl l w' (hs2.gr hg) 46 #[] #[] odd EntersC.en (fun a _ w'' _ => odd_calls a w'')
  have hsl : ∀ L, SlL w L vl l.length (l.flatMap evC) := fun L w' hm => hs2.gr hm.below
  obtain ⟨base, cap, rfl, hcap, hmax, _⟩ := hs
  obtain ⟨base2, cap2, rfl, hcap2, hmax2, _⟩ := hs2
  unfold maxLen at hmax hmax2
  refine enter (args := [gaV (.slice base wait.length cap) c g, .slice base2 l.length cap2]) (n := 35) Try.func28 rfl rfl rfl ?_
  refine T_seq (T_region (TL_box rfl rfl rfl fun g0 => TL_new rfl fun g4 => ?_))
  have hok := putE_ok (wait := wait) (c := c) (g := g) (l := l)
  generalize hE : putE wait c g l = E at *
  repeat (first
    | refine TL_val (rr_move rfl) rfl rfl rfl ?_
    | refine TL_val (rr_assign rfl) rfl rfl rfl ?_
    | refine TL_nil ?_
    | refine T_seq ?_
    | refine T_region ?_
    | refine T_condT rfl ?_
    | refine T_condF rfl ?_
    | refine T_skip ?_
    | refine T_ret ?_
    | refine T_block ?_
    | refine E_then ?_
    | refine E_thenR ?_
    | refine E_blockN ?_
    | refine E_blockR ?_
    | refine TL_val (rr_loadB (i := 0) TyC.ty rfl rfl rfl) rfl rfl rfl ?_
    | refine TL_val (rr_len Und.eq rfl) rfl rfl rfl ?_
    | refine TL_val (rr_field FldC.fld rfl rfl) rfl rfl rfl ?_
    | refine TL_val (rr_gtr rfl rfl (decide_eq_true (by omega))) rfl rfl rfl ?_
    | refine TL_val (rr_gtr rfl rfl (decide_eq_false (by omega))) rfl rfl rfl ?_
    | refine TL_val (rr_eql rfl rfl (decide_eq_true (by omega))) rfl rfl rfl ?_
    | refine TL_val (rr_eql rfl rfl (decide_eq_false (by omega))) rfl rfl rfl ?_
    | refine TL_val (rr_neq rfl rfl (decide_eq_true (by omega))) rfl rfl rfl ?_
    | refine TL_val (rr_neq rfl rfl (decide_eq_false (by omega))) rfl rfl rfl ?_
    | refine TL_val (rr_sub64 rfl rfl (by omega) (by omega) rfl) rfl rfl rfl ?_)
  refine TL_call (he1 EntersC.en rfl rfl) (fun w hm => hck _ hm.below) rfl rfl rfl ?_
  intro _ _
  repeat (first
    | refine TL_val (rr_move rfl) rfl rfl rfl ?_
    | refine TL_val (rr_assign rfl) rfl rfl rfl ?_
    | refine TL_nil ?_
    | refine E_then ?_
    | refine TL_val (rr_len Und.eq rfl) rfl rfl rfl ?_
    | refine TL_val (rr_field FldC.fld rfl rfl) rfl rfl rfl ?_
    | refine TL_val (rr_gtr rfl rfl (decide_eq_true (by omega))) rfl rfl rfl ?_
    | refine TL_val (rr_gtr rfl rfl (decide_eq_false (by omega))) rfl rfl rfl ?_
    | refine TL_val (rr_eql rfl rfl (decide_eq_true (by omega))) rfl rfl rfl ?_
    | refine TL_val (rr_eql rfl rfl (decide_eq_false (by omega))) rfl rfl rfl ?_
    | refine TL_val (rr_neq rfl rfl (decide_eq_true (by omega))) rfl rfl rfl ?_
    | refine TL_val (rr_neq rfl rfl (decide_eq_false (by omega))) rfl rfl rfl ?_
    | refine TL_val (rr_sub64 rfl rfl (by omega) (by omega) rfl) rfl rfl rfl ?_)
  refine T_mid (ι := Unit) (fun _ => True) (fun _ => [(1, .slice base2 l.length cap2), (2, .pointer (some ⟨g0, 0, none⟩)), (4, .pointer (some ⟨g4, 0, none⟩)), (6, .int .i64 E)]) (fun _ => [blkO g0 (gaV (.slice base wait.length cap) c g).cells 59, blkO g4 #[.slice none 0 0, .int .i64 0, .int .i64 0] 59]) ?_ ?_
  · unfold putE at hE
    by_cases c1 : checkG wait c g = 0
    · rw [if_neg (by simpa using c1)] at hE
      by_cases c2 : l.any odd = true
      · rw [if_pos c2] at hE
        subst hE
        rw [c2] at hco
        rw [c1]
        repeat (first
          | refine TL_val (rr_move rfl) rfl rfl rfl ?_
          | refine TL_val (rr_assign rfl) rfl rfl rfl ?_
          | refine TL_nil ?_
          | refine T_seq ?_
          | refine T_region ?_
          | refine T_condT rfl ?_
          | refine T_condF rfl ?_
          | refine T_skip ?_
          | refine T_ret ?_
          | refine T_block ?_
          | refine E_then ?_
          | refine E_thenR ?_
          | refine E_blockN ?_
          | refine E_blockR ?_
          | refine TL_val (rr_len Und.eq rfl) rfl rfl rfl ?_
          | refine TL_val (rr_field FldC.fld rfl rfl) rfl rfl rfl ?_
          | refine TL_val (rr_gtr rfl rfl (decide_eq_true (by omega))) rfl rfl rfl ?_
          | refine TL_val (rr_gtr rfl rfl (decide_eq_false (by omega))) rfl rfl rfl ?_
          | refine TL_val (rr_eql rfl rfl (decide_eq_true (by omega))) rfl rfl rfl ?_
          | refine TL_val (rr_eql rfl rfl (decide_eq_false (by omega))) rfl rfl rfl ?_
          | refine TL_val (rr_neq rfl rfl (decide_eq_true (by omega))) rfl rfl rfl ?_
          | refine TL_val (rr_neq rfl rfl (decide_eq_false (by omega))) rfl rfl rfl ?_
          | refine TL_val (rr_sub64 rfl rfl (by omega) (by omega) rfl) rfl rfl rfl ?_)
        refine TL_call (he2 EntersC.en rfl rfl rfl) (fun w hm => hco _ hm.below) rfl rfl rfl ?_
        intro _ _
        repeat (first
          | refine TL_val (rr_move rfl) rfl rfl rfl ?_
          | refine TL_val (rr_assign rfl) rfl rfl rfl ?_
          | refine TL_nil ?_
          | refine T_seq ?_
          | refine T_region ?_
          | refine T_condT rfl ?_
          | refine T_condF rfl ?_
          | refine T_skip ?_
          | refine T_ret ?_
          | refine T_block ?_
          | refine E_then ?_
          | refine E_thenR ?_
          | refine E_blockN ?_
          | refine E_blockR ?_
          | refine TL_val (rr_len Und.eq rfl) rfl rfl rfl ?_
          | refine TL_val (rr_field FldC.fld rfl rfl) rfl rfl rfl ?_
          | refine TL_val (rr_gtr rfl rfl (decide_eq_true (by omega))) rfl rfl rfl ?_
          | refine TL_val (rr_gtr rfl rfl (decide_eq_false (by omega))) rfl rfl rfl ?_
          | refine TL_val (rr_eql rfl rfl (decide_eq_true (by omega))) rfl rfl rfl ?_
          | refine TL_val (rr_eql rfl rfl (decide_eq_false (by omega))) rfl rfl rfl ?_
          | refine TL_val (rr_neq rfl rfl (decide_eq_true (by omega))) rfl rfl rfl ?_
          | refine TL_val (rr_neq rfl rfl (decide_eq_false (by omega))) rfl rfl rfl ?_
          | refine TL_val (rr_sub64 rfl rfl (by omega) (by omega) rfl) rfl rfl rfl ?_)
        exact E_mid () trivial (by repeat' (first | exact True.intro | refine And.intro rfl ?_)) rfl
      · rw [if_neg c2] at hE
        have c2' : l.any odd = false := by simpa using c2
        rw [c2'] at hco
        rw [c1]
        by_cases c3 : 4200 < wait.length + l.length
        · rw [if_pos c3] at hE
          subst hE
          repeat (first
            | refine TL_val (rr_move rfl) rfl rfl rfl ?_
            | refine TL_val (rr_assign rfl) rfl rfl rfl ?_
            | refine TL_nil ?_
            | refine T_seq ?_
            | refine T_region ?_
            | refine T_condT rfl ?_
            | refine T_condF rfl ?_
            | refine T_skip ?_
            | refine T_ret ?_
            | refine T_block ?_
            | refine E_then ?_
            | refine E_thenR ?_
            | refine E_blockN ?_
            | refine E_blockR ?_
            | refine TL_val (rr_len Und.eq rfl) rfl rfl rfl ?_
            | refine TL_val (rr_field FldC.fld rfl rfl) rfl rfl rfl ?_
            | refine TL_val (rr_gtr rfl rfl (decide_eq_true (by omega))) rfl rfl rfl ?_
            | refine TL_val (rr_gtr rfl rfl (decide_eq_false (by omega))) rfl rfl rfl ?_
            | refine TL_val (rr_eql rfl rfl (decide_eq_true (by omega))) rfl rfl rfl ?_
            | refine TL_val (rr_eql rfl rfl (decide_eq_false (by omega))) rfl rfl rfl ?_
            | refine TL_val (rr_neq rfl rfl (decide_eq_true (by omega))) rfl rfl rfl ?_
            | refine TL_val (rr_neq rfl rfl (decide_eq_false (by omega))) rfl rfl rfl ?_
            | refine TL_val (rr_sub64 rfl rfl (by omega) (by omega) rfl) rfl rfl rfl ?_)
          refine TL_call (he2 EntersC.en rfl rfl rfl) (fun w hm => hco _ hm.below) rfl rfl rfl ?_
          intro _ _
          repeat (first
            | refine TL_val (rr_move rfl) rfl rfl rfl ?_
            | refine TL_val (rr_assign rfl) rfl rfl rfl ?_
            | refine TL_nil ?_
            | refine T_seq ?_
            | refine T_region ?_
            | refine T_condT rfl ?_
            | refine T_condF rfl ?_
            | refine T_skip ?_
            | refine T_ret ?_
            | refine T_block ?_
            | refine E_then ?_
            | refine E_thenR ?_
            | refine E_blockN ?_
            | refine E_blockR ?_
            | refine TL_val (rr_load1 TyC.ty rfl (at_blk (i := 0) rfl rfl)) rfl rfl rfl ?_
            | refine TL_val (rr_len Und.eq rfl) rfl rfl rfl ?_
            | refine TL_val (rr_field FldC.fld rfl rfl) rfl rfl rfl ?_
            | refine TL_val (rr_gtr rfl rfl (decide_eq_true (by omega))) rfl rfl rfl ?_
            | refine TL_val (rr_gtr rfl rfl (decide_eq_false (by omega))) rfl rfl rfl ?_
            | refine TL_val (rr_eql rfl rfl (decide_eq_true (by omega))) rfl rfl rfl ?_
            | refine TL_val (rr_eql rfl rfl (decide_eq_false (by omega))) rfl rfl rfl ?_
            | refine TL_val (rr_neq rfl rfl (decide_eq_true (by omega))) rfl rfl rfl ?_
            | refine TL_val (rr_neq rfl rfl (decide_eq_false (by omega))) rfl rfl rfl ?_
            | refine TL_val (rr_sub64 rfl rfl (by omega) (by omega) rfl) rfl rfl rfl ?_)
          exact E_mid () trivial (by repeat' (first | exact True.intro | refine And.intro rfl ?_)) rfl
        · rw [if_neg c3] at hE
          subst hE
          repeat (first
            | refine TL_val (rr_move rfl) rfl rfl rfl ?_
            | refine TL_val (rr_assign rfl) rfl rfl rfl ?_
            | refine TL_nil ?_
            | refine T_seq ?_
            | refine T_region ?_
            | refine T_condT rfl ?_
            | refine T_condF rfl ?_
            | refine T_skip ?_
            | refine T_ret ?_
            | refine T_block ?_
            | refine E_then ?_
            | refine E_thenR ?_
            | refine E_blockN ?_
            | refine E_blockR ?_
            | refine TL_val (rr_len Und.eq rfl) rfl rfl rfl ?_
            | refine TL_val (rr_field FldC.fld rfl rfl) rfl rfl rfl ?_
            | refine TL_val (rr_gtr rfl rfl (decide_eq_true (by omega))) rfl rfl rfl ?_
            | refine TL_val (rr_gtr rfl rfl (decide_eq_false (by omega))) rfl rfl rfl ?_
            | refine TL_val (rr_eql rfl rfl (decide_eq_true (by omega))) rfl rfl rfl ?_
            | refine TL_val (rr_eql rfl rfl (decide_eq_false (by omega))) rfl rfl rfl ?_
            | refine TL_val (rr_neq rfl rfl (decide_eq_true (by omega))) rfl rfl rfl ?_
            | refine TL_val (rr_neq rfl rfl (decide_eq_false (by omega))) rfl rfl rfl ?_
            | refine TL_val (rr_sub64 rfl rfl (by omega) (by omega) rfl) rfl rfl rfl ?_)
          refine TL_call (he2 EntersC.en rfl rfl rfl) (fun w hm => hco _ hm.below) rfl rfl rfl ?_
          intro _ _
          repeat (first
            | refine TL_val (rr_move rfl) rfl rfl rfl ?_
            | refine TL_val (rr_assign rfl) rfl rfl rfl ?_
            | refine TL_nil ?_
            | refine T_seq ?_
            | refine T_region ?_
            | refine T_condT rfl ?_
            | refine T_condF rfl ?_
            | refine T_skip ?_
            | refine T_ret ?_
            | refine T_block ?_
            | refine E_then ?_
            | refine E_thenR ?_
            | refine E_blockN ?_
            | refine E_blockR ?_
            | refine TL_val (rr_load1 TyC.ty rfl (at_blk (i := 0) rfl rfl)) rfl rfl rfl ?_
            | refine TL_val (rr_len Und.eq rfl) rfl rfl rfl ?_
            | refine TL_val (rr_field FldC.fld rfl rfl) rfl rfl rfl ?_
            | refine TL_val (rr_gtr rfl rfl (decide_eq_true (by omega))) rfl rfl rfl ?_
            | refine TL_val (rr_gtr rfl rfl (decide_eq_false (by omega))) rfl rfl rfl ?_
            | refine TL_val (rr_eql rfl rfl (decide_eq_true (by omega))) rfl rfl rfl ?_
            | refine TL_val (rr_eql rfl rfl (decide_eq_false (by omega))) rfl rfl rfl ?_
            | refine TL_val (rr_neq rfl rfl (decide_eq_true (by omega))) rfl rfl rfl ?_
            | refine TL_val (rr_neq rfl rfl (decide_eq_false (by omega))) rfl rfl rfl ?_
            | refine TL_val (rr_sub64 rfl rfl (by omega) (by omega) rfl) rfl rfl rfl ?_)
          exact E_mid () trivial (by repeat' (first | exact True.intro | refine And.intro rfl ?_)) rfl
    · rw [if_pos c1] at hE
      subst hE
      repeat (first
        | refine TL_val (rr_move rfl) rfl rfl rfl ?_
        | refine TL_val (rr_assign rfl) rfl rfl rfl ?_
        | refine TL_nil ?_
        | refine T_seq ?_
        | refine T_region ?_
        | refine T_condT rfl ?_
        | refine T_condF rfl ?_
        | refine T_skip ?_
        | refine T_ret ?_
        | refine T_block ?_
        | refine E_then ?_
        | refine E_thenR ?_
        | refine E_blockN ?_
        | refine E_blockR ?_
        | refine TL_val (rr_len Und.eq rfl) rfl rfl rfl ?_
        | refine TL_val (rr_field FldC.fld rfl rfl) rfl rfl rfl ?_
        | refine TL_val (rr_gtr rfl rfl (decide_eq_true (by omega))) rfl rfl rfl ?_
        | refine TL_val (rr_gtr rfl rfl (decide_eq_false (by omega))) rfl rfl rfl ?_
        | refine TL_val (rr_eql rfl rfl (decide_eq_true (by omega))) rfl rfl rfl ?_
        | refine TL_val (rr_eql rfl rfl (decide_eq_false (by omega))) rfl rfl rfl ?_
        | refine TL_val (rr_neq rfl rfl (decide_eq_true (by omega))) rfl rfl rfl ?_
        | refine TL_val (rr_neq rfl rfl (decide_eq_false (by omega))) rfl rfl rfl ?_
        | refine TL_val (rr_sub64 rfl rfl (by omega) (by omega) rfl) rfl rfl rfl ?_)
      exact E_mid () trivial (by repeat' (first | exact True.intro | refine And.intro rfl ?_)) rfl
  · intro _ _
    repeat (first
      | refine TL_val (rr_move rfl) rfl rfl rfl ?_
      | refine TL_val (rr_assign rfl) rfl rfl rfl ?_
      | refine TL_nil ?_
      | refine T_seq ?_
      | refine T_region ?_
      | refine T_condT rfl ?_
      | refine T_condF rfl ?_
      | refine T_skip ?_
      | refine T_ret ?_
      | refine T_block ?_
      | refine E_then ?_
      | refine E_thenR ?_
      | refine E_blockN ?_
      | refine E_blockR ?_
      | refine TL_val (rr_loadB (i := 0) TyC.ty rfl rfl rfl) rfl rfl rfl ?_
      | refine TL_val (rr_len Und.eq rfl) rfl rfl rfl ?_
      | refine TL_val (rr_field FldC.fld rfl rfl) rfl rfl rfl ?_
      | refine TL_val (rr_gtr rfl rfl (decide_eq_true (by omega))) rfl rfl rfl ?_
      | refine TL_val (rr_gtr rfl rfl (decide_eq_false (by omega))) rfl rfl rfl ?_
      | refine TL_val (rr_eql rfl rfl (decide_eq_true (by omega))) rfl rfl rfl ?_
      | refine TL_val (rr_eql rfl rfl (decide_eq_false (by omega))) rfl rfl rfl ?_
      | refine TL_val (rr_neq rfl rfl (decide_eq_true (by omega))) rfl rfl rfl ?_
      | refine TL_val (rr_neq rfl rfl (decide_eq_false (by omega))) rfl rfl rfl ?_
      | refine TL_val (rr_sub64 rfl rfl (by omega) (by omega) rfl) rfl rfl rfl ?_)
    refine TL_call (he1 EntersC.en rfl rfl) (fun w hm => hsm _ hm.below) rfl rfl rfl ?_
    intro v2 _
    refine TL_slv (i := 2) rfl fun hc1 ho1 => ?_
    refine TL_new rfl fun g7 => ?_
    refine TL_storeB (i := 3) rfl rfl rfl rfl (gaV_one ho1) rfl ?_
    by_cases c1 : E = 0
    · have hw : putW wait c g l = wait ++ l := by unfold putW; rw [hE, if_pos c1]
      subst c1
      obtain ⟨_, _, k3⟩ := hok rfl
      rw [hw]
      repeat (first
        | refine TL_val (rr_move rfl) rfl rfl rfl ?_
        | refine TL_val (rr_assign rfl) rfl rfl rfl ?_
        | refine TL_nil ?_
        | refine T_seq ?_
        | refine T_region ?_
        | refine T_condT rfl ?_
        | refine T_condF rfl ?_
        | refine T_skip ?_
        | refine T_ret ?_
        | refine T_block ?_
        | refine E_then ?_
        | refine E_thenR ?_
        | refine E_blockN ?_
        | refine E_blockR ?_
        | refine TL_val (rr_load1 TyC.ty rfl (at_blk (i := 3) rfl rfl)) rfl rfl rfl ?_
        | refine TL_val (rr_len Und.eq rfl) rfl rfl rfl ?_
        | refine TL_val (rr_field FldC.fld rfl rfl) rfl rfl rfl ?_
        | refine TL_val (rr_gtr rfl rfl (decide_eq_true (by omega))) rfl rfl rfl ?_
        | refine TL_val (rr_gtr rfl rfl (decide_eq_false (by omega))) rfl rfl rfl ?_
        | refine TL_val (rr_eql rfl rfl (decide_eq_true (by omega))) rfl rfl rfl ?_
        | refine TL_val (rr_eql rfl rfl (decide_eq_false (by omega))) rfl rfl rfl ?_
        | refine TL_val (rr_neq rfl rfl (decide_eq_true (by omega))) rfl rfl rfl ?_
        | refine TL_val (rr_neq rfl rfl (decide_eq_false (by omega))) rfl rfl rfl ?_
        | refine TL_val (rr_sub64 rfl rfl (by omega) (by omega) rfl) rfl rfl rfl ?_)
      refine TL_appSl (i := 2) rfl (hsl _) rfl rfl (len_el EvS_len l) (one_ev l) (by omega) (by omega) rfl fun v' => ?_
      repeat (first
        | refine TL_val (rr_move rfl) rfl rfl rfl ?_
        | refine TL_val (rr_assign rfl) rfl rfl rfl ?_
        | refine TL_nil ?_
        | refine T_seq ?_
        | refine T_region ?_
        | refine T_condT rfl ?_
        | refine T_condF rfl ?_
        | refine T_skip ?_
        | refine T_ret ?_
        | refine T_block ?_
        | refine E_then ?_
        | refine E_thenR ?_
        | refine E_blockN ?_
        | refine E_blockR ?_
        | refine TL_val (rr_len Und.eq rfl) rfl rfl rfl ?_
        | refine TL_val (rr_field FldC.fld rfl rfl) rfl rfl rfl ?_
        | refine TL_val (rr_gtr rfl rfl (decide_eq_true (by omega))) rfl rfl rfl ?_
        | refine TL_val (rr_gtr rfl rfl (decide_eq_false (by omega))) rfl rfl rfl ?_
        | refine TL_val (rr_eql rfl rfl (decide_eq_true (by omega))) rfl rfl rfl ?_
        | refine TL_val (rr_eql rfl rfl (decide_eq_false (by omega))) rfl rfl rfl ?_
        | refine TL_val (rr_neq rfl rfl (decide_eq_true (by omega))) rfl rfl rfl ?_
        | refine TL_val (rr_neq rfl rfl (decide_eq_false (by omega))) rfl rfl rfl ?_
        | refine TL_val (rr_sub64 rfl rfl (by omega) (by omega) rfl) rfl rfl rfl ?_)
      refine TL_slv (i := 2) rfl fun hc2 ho2 => ?_
      refine TL_store1 (i := 3) rfl rfl rfl hc2 ho2 rfl ?_
      repeat (first
        | refine TL_val (rr_move rfl) rfl rfl rfl ?_
        | refine TL_val (rr_assign rfl) rfl rfl rfl ?_
        | refine TL_nil ?_
        | refine T_seq ?_
        | refine T_region ?_
        | refine T_condT rfl ?_
        | refine T_condF rfl ?_
        | refine T_skip ?_
        | refine T_ret ?_
        | refine T_block ?_
        | refine E_then ?_
        | refine E_thenR ?_
        | refine E_blockN ?_
        | refine E_blockR ?_
        | refine TL_val (rr_loadB (i := 3) TyC.ty rfl rfl rfl) rfl rfl rfl ?_
        | refine TL_val (rr_len Und.eq rfl) rfl rfl rfl ?_
        | refine TL_val (rr_field FldC.fld rfl rfl) rfl rfl rfl ?_
        | refine TL_val (rr_gtr rfl rfl (decide_eq_true (by omega))) rfl rfl rfl ?_
        | refine TL_val (rr_gtr rfl rfl (decide_eq_false (by omega))) rfl rfl rfl ?_
        | refine TL_val (rr_eql rfl rfl (decide_eq_true (by omega))) rfl rfl rfl ?_
        | refine TL_val (rr_eql rfl rfl (decide_eq_false (by omega))) rfl rfl rfl ?_
        | refine TL_val (rr_neq rfl rfl (decide_eq_true (by omega))) rfl rfl rfl ?_
        | refine TL_val (rr_neq rfl rfl (decide_eq_false (by omega))) rfl rfl rfl ?_
        | refine TL_val (rr_sub64 rfl rfl (by omega) (by omega) rfl) rfl rfl rfl ?_)
      refine TL_storeB (i := 1) rfl rfl rfl rfl (gaV_one ho2) rfl ?_
      repeat (first
        | refine TL_val (rr_move rfl) rfl rfl rfl ?_
        | refine TL_val (rr_assign rfl) rfl rfl rfl ?_
        | refine TL_nil ?_
        | refine T_seq ?_
        | refine T_region ?_
        | refine T_condT rfl ?_
        | refine T_condF rfl ?_
        | refine T_skip ?_
        | refine T_ret ?_
        | refine T_block ?_
        | refine E_then ?_
        | refine E_thenR ?_
        | refine E_blockN ?_
        | refine E_blockR ?_
        | refine TL_val (rr_len Und.eq rfl) rfl rfl rfl ?_
        | refine TL_val (rr_field FldC.fld rfl rfl) rfl rfl rfl ?_
        | refine TL_val (rr_gtr rfl rfl (decide_eq_true (by omega))) rfl rfl rfl ?_
        | refine TL_val (rr_gtr rfl rfl (decide_eq_false (by omega))) rfl rfl rfl ?_
        | refine TL_val (rr_eql rfl rfl (decide_eq_true (by omega))) rfl rfl rfl ?_
        | refine TL_val (rr_eql rfl rfl (decide_eq_false (by omega))) rfl rfl rfl ?_
        | refine TL_val (rr_neq rfl rfl (decide_eq_true (by omega))) rfl rfl rfl ?_
        | refine TL_val (rr_neq rfl rfl (decide_eq_false (by omega))) rfl rfl rfl ?_
        | refine TL_val (rr_sub64 rfl rfl (by omega) (by omega) rfl) rfl rfl rfl ?_)
      exact E_retc2 (i := 1) rfl rfl rfl rfl rfl fun w hm => hm.meets (S := gaS (wait ++ l) c g 0) v' trivial [2] (by decide) (by simp [gaS, rowS])
    · have hw : putW wait c g l = wait := by unfold putW; rw [hE, if_neg c1]
      rw [hw]
      repeat (first
        | refine TL_val (rr_move rfl) rfl rfl rfl ?_
        | refine TL_val (rr_assign rfl) rfl rfl rfl ?_
        | refine TL_nil ?_
        | refine T_seq ?_
        | refine T_region ?_
        | refine T_condT rfl ?_
        | refine T_condF rfl ?_
        | refine T_skip ?_
        | refine T_ret ?_
        | refine T_block ?_
        | refine E_then ?_
        | refine E_thenR ?_
        | refine E_blockN ?_
        | refine E_blockR ?_
        | refine TL_val (rr_loadB (i := 3) TyC.ty rfl rfl rfl) rfl rfl rfl ?_
        | refine TL_val (rr_len Und.eq rfl) rfl rfl rfl ?_
        | refine TL_val (rr_field FldC.fld rfl rfl) rfl rfl rfl ?_
        | refine TL_val (rr_gtr rfl rfl (decide_eq_true (by omega))) rfl rfl rfl ?_
        | refine TL_val (rr_gtr rfl rfl (decide_eq_false (by omega))) rfl rfl rfl ?_
        | refine TL_val (rr_eql rfl rfl (decide_eq_true (by omega))) rfl rfl rfl ?_
        | refine TL_val (rr_eql rfl rfl (decide_eq_false (by omega))) rfl rfl rfl ?_
        | refine TL_val (rr_neq rfl rfl (decide_eq_true (by omega))) rfl rfl rfl ?_
        | refine TL_val (rr_neq rfl rfl (decide_eq_false (by omega))) rfl rfl rfl ?_
        | refine TL_val (rr_sub64 rfl rfl (by omega) (by omega) rfl) rfl rfl rfl ?_)
      refine TL_storeB (i := 1) rfl rfl rfl rfl (gaV_one ho1) rfl ?_
      repeat (first
        | refine TL_val (rr_move rfl) rfl rfl rfl ?_
        | refine TL_val (rr_assign rfl) rfl rfl rfl ?_
        | refine TL_nil ?_
        | refine T_seq ?_
        | refine T_region ?_
        | refine T_condT rfl ?_
        | refine T_condF rfl ?_
        | refine T_skip ?_
        | refine T_ret ?_
        | refine T_block ?_
        | refine E_then ?_
        | refine E_thenR ?_
        | refine E_blockN ?_
        | refine E_blockR ?_
        | refine TL_val (rr_len Und.eq rfl) rfl rfl rfl ?_
        | refine TL_val (rr_field FldC.fld rfl rfl) rfl rfl rfl ?_
        | refine TL_val (rr_gtr rfl rfl (decide_eq_true (by omega))) rfl rfl rfl ?_
        | refine TL_val (rr_gtr rfl rfl (decide_eq_false (by omega))) rfl rfl rfl ?_
        | refine TL_val (rr_eql rfl rfl (decide_eq_true (by omega))) rfl rfl rfl ?_
        | refine TL_val (rr_eql rfl rfl (decide_eq_false (by omega))) rfl rfl rfl ?_
        | refine TL_val (rr_neq rfl rfl (decide_eq_true (by omega))) rfl rfl rfl ?_
        | refine TL_val (rr_neq rfl rfl (decide_eq_false (by omega))) rfl rfl rfl ?_
        | refine TL_val (rr_sub64 rfl rfl (by omega) (by omega) rfl) rfl rfl rfl ?_)
      exact E_retc2 (i := 1) rfl rfl rfl rfl rfl fun w hm => hm.meets (S := gaS wait c g E) v2 trivial [2] (by decide) rfl
end Go.Proofs.Ytnooleopmlijeaa.eng
