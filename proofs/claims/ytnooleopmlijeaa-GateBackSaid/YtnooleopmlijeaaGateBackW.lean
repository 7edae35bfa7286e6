/- The walk of GateBack. -/
import Derived.Test.YtnooleopmlijeaaGate
import Derived.Test.YtnooleopmlijeaaEvO
namespace Go.Proofs.Ytnooleopmlijeaa.gateBack
open Go.RowKit kit mix packL gateL eng
theorem sl_one (w : World) (g : Nat) (x : Ev) (h : w.heap[g]? = some (.cells (evC x).toArray 56 (0, 0))) : Sl w (.slice (some ⟨g, 0, none⟩) 1 1) [x].length ([x].flatMap evC) :=
  ⟨_, 1, rfl, Nat.le_refl _, by decide, fun _ => ⟨g, 0, rfl, fun j u hj => by
    rw [cell_of_row w g (0 + j) (evC x).toArray _ _ h, Nat.zero_add]
    simpa using hj⟩⟩
set_option maxHeartbeats 2000000 in
theorem walk (w : World) (v0 : Value) (l : List Ev) (hs : Sl w v0 l.length (l.flatMap evC)) (_ : ∀ f ∈ l, okEv f) (_ : l.length * 16 ≤ 140737488351232) (v1 : Value) (m : List Ev) (hs1 : Sl w v1 m.length (m.flatMap evC)) (_ : ∀ f ∈ m, okEv f) (_ : m.length * 16 ≤ 140737488351232) : Calls Try.prog 7 #[v0, v1] w (Meets (ret (.bool true)) w) := by
  have hp0 := fun w' v (hx : Sl w' v [((2 : Int), (5 : Int))].length ([((2 : Int), (5 : Int))].flatMap evC)) => packEv_calls v [(2, 5)] w' hx
  rw [show packF [(2, 5)] = ([2, 5], 0) from by unfold packF; rw [show evsL [(2, 5)] = [2, 5] from by simp only [evsL, evL, List.flatMap_cons, List.flatMap_nil, List.append_nil]; rw [numL_small (by decide)]; rfl]; rfl] at hp0
  have hp1 := fun w' (hg : Gr w w') => packEv_calls v0 l w' (hs.gr hg)
  have hp2 := fun w' (hg : Gr w w') => packEv_calls v1 m w' (hs1.gr hg)
  have hun := fun (h : (packF l).1.length ≤ 9223372036854775807) w' => unpack_calls (packF l).1 w' h
  have hq1 := unF_pack (l := l)
  have hok := packF_ok (l := l)
  have hok2 := packF_ok (l := m)
  have herr := packF_err (l := l)
  have hinj := evs_inj (l := l) (m := m)
  generalize packF l = R at *
  generalize packF m = R2 at *
  obtain ⟨s, e⟩ := R
  obtain ⟨t, f⟩ := R2
  dsimp only at *
  refine enter (args := [v0, v1]) (n := 64) Try.func7 rfl rfl rfl ?_
  repeat (first
    | refine TL_val (rr_move rfl) rfl rfl rfl ?_
    | refine TL_val (rr_assign rfl) rfl rfl rfl ?_
    | refine TL_nil ?_
    | refine T_seq ?_
    | refine T_region ?_
    | refine T_condT rfl ?_
    | refine T_condF rfl ?_
    | refine T_skip ?_
    | refine T_ret ?_
    | refine E_then ?_
    | refine E_thenR ?_
    | refine TL_val (rr_build rfl (build_ev _ _)) rfl rfl rfl ?_
    | refine TL_val (rr_extract rfl rfl) rfl rfl rfl ?_
    | refine TL_val (rr_pickT rfl rfl) rfl rfl rfl ?_
    | refine TL_val (rr_pickF rfl rfl) rfl rfl rfl ?_
    | refine TL_val (rr_eql rfl rfl (decide_eq_true (by omega))) rfl rfl rfl ?_
    | refine TL_val (rr_eql rfl rfl (decide_eq_false (by omega))) rfl rfl rfl ?_
    | refine TL_val (rr_neq rfl rfl (decide_eq_true (by omega))) rfl rfl rfl ?_
    | refine TL_val (rr_neq rfl rfl (decide_eq_false (by omega))) rfl rfl rfl ?_
    | refine TL_skip rfl rfl rfl rfl rfl rfl ?_
    | refine TL_gval (rr_move rfl) rfl rfl rfl rfl rfl ?_
    | refine TL_gval (rr_pickT rfl rfl) rfl rfl rfl rfl rfl ?_
    | refine TL_gval (rr_pickF rfl rfl) rfl rfl rfl rfl rfl ?_
    | refine TL_gval (rr_neq rfl rfl (decide_eq_true (by omega))) rfl rfl rfl rfl rfl ?_
    | refine TL_gval (rr_neq rfl rfl (decide_eq_false (by omega))) rfl rfl rfl rfl rfl ?_)
  refine TL_one rfl rfl rfl rfl rfl fun g => ?_
  repeat (first
    | refine TL_val (rr_move rfl) rfl rfl rfl ?_
    | refine TL_val (rr_assign rfl) rfl rfl rfl ?_
    | refine TL_nil ?_
    | refine T_seq ?_
    | refine T_region ?_
    | refine T_condT rfl ?_
    | refine T_condF rfl ?_
    | refine T_skip ?_
    | refine T_ret ?_
    | refine E_then ?_
    | refine E_thenR ?_
    | refine TL_val (rr_extract rfl rfl) rfl rfl rfl ?_
    | refine TL_val (rr_pickT rfl rfl) rfl rfl rfl ?_
    | refine TL_val (rr_pickF rfl rfl) rfl rfl rfl ?_
    | refine TL_val (rr_eql rfl rfl (decide_eq_true (by omega))) rfl rfl rfl ?_
    | refine TL_val (rr_eql rfl rfl (decide_eq_false (by omega))) rfl rfl rfl ?_
    | refine TL_val (rr_neq rfl rfl (decide_eq_true (by omega))) rfl rfl rfl ?_
    | refine TL_val (rr_neq rfl rfl (decide_eq_false (by omega))) rfl rfl rfl ?_
    | refine TL_skip rfl rfl rfl rfl rfl rfl ?_
    | refine TL_gval (rr_move rfl) rfl rfl rfl rfl rfl ?_
    | refine TL_gval (rr_pickT rfl rfl) rfl rfl rfl rfl rfl ?_
    | refine TL_gval (rr_pickF rfl rfl) rfl rfl rfl rfl rfl ?_
    | refine TL_gval (rr_neq rfl rfl (decide_eq_true (by omega))) rfl rfl rfl rfl rfl ?_
    | refine TL_gval (rr_neq rfl rfl (decide_eq_false (by omega))) rfl rfl rfl rfl rfl ?_)
  refine TL_call (he1 EntersC.en rfl rfl) (fun w hm => hp0 _ _ (sl_one w g _ (hm.get (i := 0) rfl))) rfl rfl rfl ?_
  intro _ _
  repeat (first
    | refine TL_val (rr_move rfl) rfl rfl rfl ?_
    | refine TL_val (rr_assign rfl) rfl rfl rfl ?_
    | refine TL_nil ?_
    | refine T_seq ?_
    | refine T_region ?_
    | refine T_condT rfl ?_
    | refine T_condF rfl ?_
    | refine T_skip ?_
    | refine T_ret ?_
    | refine E_then ?_
    | refine E_thenR ?_
    | refine TL_val (rr_extract rfl rfl) rfl rfl rfl ?_
    | refine TL_val (rr_pickT rfl rfl) rfl rfl rfl ?_
    | refine TL_val (rr_pickF rfl rfl) rfl rfl rfl ?_
    | refine TL_val (rr_eql rfl rfl (decide_eq_true (by omega))) rfl rfl rfl ?_
    | refine TL_val (rr_eql rfl rfl (decide_eq_false (by omega))) rfl rfl rfl ?_
    | refine TL_val (rr_neq rfl rfl (decide_eq_true (by omega))) rfl rfl rfl ?_
    | refine TL_val (rr_neq rfl rfl (decide_eq_false (by omega))) rfl rfl rfl ?_
    | refine TL_skip rfl rfl rfl rfl rfl rfl ?_
    | refine TL_gval (rr_strne (b := false) rfl rfl (by simp)) rfl rfl rfl rfl rfl ?_
    | refine TL_gval (rr_move rfl) rfl rfl rfl rfl rfl ?_
    | refine TL_gval (rr_pickT rfl rfl) rfl rfl rfl rfl rfl ?_
    | refine TL_gval (rr_pickF rfl rfl) rfl rfl rfl rfl rfl ?_
    | refine TL_gval (rr_neq rfl rfl (decide_eq_true (by omega))) rfl rfl rfl rfl rfl ?_
    | refine TL_gval (rr_neq rfl rfl (decide_eq_false (by omega))) rfl rfl rfl rfl rfl ?_)
  refine TL_call (he1 EntersC.en rfl rfl) (fun w hm => hp1 _ hm.below) rfl rfl rfl ?_
  intro _ _
  repeat (first
    | refine TL_val (rr_move rfl) rfl rfl rfl ?_
    | refine TL_val (rr_assign rfl) rfl rfl rfl ?_
    | refine TL_nil ?_
    | refine T_seq ?_
    | refine T_region ?_
    | refine T_condT rfl ?_
    | refine T_condF rfl ?_
    | refine T_skip ?_
    | refine T_ret ?_
    | refine E_then ?_
    | refine E_thenR ?_
    | refine TL_val (rr_extract rfl rfl) rfl rfl rfl ?_
    | refine TL_val (rr_pickT rfl rfl) rfl rfl rfl ?_
    | refine TL_val (rr_pickF rfl rfl) rfl rfl rfl ?_
    | refine TL_val (rr_eql rfl rfl (decide_eq_true (by omega))) rfl rfl rfl ?_
    | refine TL_val (rr_eql rfl rfl (decide_eq_false (by omega))) rfl rfl rfl ?_
    | refine TL_val (rr_neq rfl rfl (decide_eq_true (by omega))) rfl rfl rfl ?_
    | refine TL_val (rr_neq rfl rfl (decide_eq_false (by omega))) rfl rfl rfl ?_
    | refine TL_skip rfl rfl rfl rfl rfl rfl ?_
    | refine TL_gval (rr_move rfl) rfl rfl rfl rfl rfl ?_
    | refine TL_gval (rr_pickT rfl rfl) rfl rfl rfl rfl rfl ?_
    | refine TL_gval (rr_pickF rfl rfl) rfl rfl rfl rfl rfl ?_
    | refine TL_gval (rr_neq rfl rfl (decide_eq_true (by omega))) rfl rfl rfl rfl rfl ?_
    | refine TL_gval (rr_neq rfl rfl (decide_eq_false (by omega))) rfl rfl rfl rfl rfl ?_)
  refine TL_call (he1 EntersC.en rfl rfl) (fun w hm => hp2 _ hm.below) rfl rfl rfl ?_
  intro _ _
  by_cases c : e = 0
  · subst c
    obtain ⟨o1, o2, o3⟩ := hok rfl
    subst o3
    have hun' := hun (by omega)
    rw [hq1 rfl] at hun'
    repeat (first
      | refine TL_val (rr_move rfl) rfl rfl rfl ?_
      | refine TL_val (rr_assign rfl) rfl rfl rfl ?_
      | refine TL_nil ?_
      | refine T_seq ?_
      | refine T_region ?_
      | refine T_condT rfl ?_
      | refine T_condF rfl ?_
      | refine T_skip ?_
      | refine T_ret ?_
      | refine E_then ?_
      | refine E_thenR ?_
      | refine TL_val (rr_extract rfl rfl) rfl rfl rfl ?_
      | refine TL_val (rr_pickT rfl rfl) rfl rfl rfl ?_
      | refine TL_val (rr_pickF rfl rfl) rfl rfl rfl ?_
      | refine TL_val (rr_eql rfl rfl (decide_eq_true (by omega))) rfl rfl rfl ?_
      | refine TL_val (rr_eql rfl rfl (decide_eq_false (by omega))) rfl rfl rfl ?_
      | refine TL_val (rr_neq rfl rfl (decide_eq_true (by omega))) rfl rfl rfl ?_
      | refine TL_val (rr_neq rfl rfl (decide_eq_false (by omega))) rfl rfl rfl ?_
      | refine TL_skip rfl rfl rfl rfl rfl rfl ?_
      | refine TL_gval (rr_move rfl) rfl rfl rfl rfl rfl ?_
      | refine TL_gval (rr_pickT rfl rfl) rfl rfl rfl rfl rfl ?_
      | refine TL_gval (rr_pickF rfl rfl) rfl rfl rfl rfl rfl ?_
      | refine TL_gval (rr_neq rfl rfl (decide_eq_true (by omega))) rfl rfl rfl rfl rfl ?_
      | refine TL_gval (rr_neq rfl rfl (decide_eq_false (by omega))) rfl rfl rfl rfl rfl ?_)
    refine TL_call (he1 EntersC.en rfl rfl) (fun w hm => hun' _) rfl rfl rfl ?_
    intro v2 _
    have heq := fun w' (hg : Gr w w') (hx : Sl w' v2 l.length (l.flatMap evC)) => equalEvS_calls v2 v0 l l w' hx (hs.gr hg)
    rw [decide_eq_true rfl] at heq
    have heq2 := fun w' (hg : Gr w w') => equalEvS_calls v0 v1 l m w' (hs.gr hg) (hs1.gr hg)
    repeat (first
      | refine TL_val (rr_move rfl) rfl rfl rfl ?_
      | refine TL_val (rr_assign rfl) rfl rfl rfl ?_
      | refine TL_nil ?_
      | refine T_seq ?_
      | refine T_region ?_
      | refine T_condT rfl ?_
      | refine T_condF rfl ?_
      | refine T_skip ?_
      | refine T_ret ?_
      | refine E_then ?_
      | refine E_thenR ?_
      | refine TL_val (rr_extract rfl rfl) rfl rfl rfl ?_
      | refine TL_val (rr_pickT rfl rfl) rfl rfl rfl ?_
      | refine TL_val (rr_pickF rfl rfl) rfl rfl rfl ?_
      | refine TL_val (rr_eql rfl rfl (decide_eq_true (by omega))) rfl rfl rfl ?_
      | refine TL_val (rr_eql rfl rfl (decide_eq_false (by omega))) rfl rfl rfl ?_
      | refine TL_val (rr_neq rfl rfl (decide_eq_true (by omega))) rfl rfl rfl ?_
      | refine TL_val (rr_neq rfl rfl (decide_eq_false (by omega))) rfl rfl rfl ?_
      | refine TL_skip rfl rfl rfl rfl rfl rfl ?_
      | refine TL_gval (rr_move rfl) rfl rfl rfl rfl rfl ?_
      | refine TL_gval (rr_pickT rfl rfl) rfl rfl rfl rfl rfl ?_
      | refine TL_gval (rr_pickF rfl rfl) rfl rfl rfl rfl rfl ?_
      | refine TL_gval (rr_neq rfl rfl (decide_eq_true (by omega))) rfl rfl rfl rfl rfl ?_
      | refine TL_gval (rr_neq rfl rfl (decide_eq_false (by omega))) rfl rfl rfl rfl rfl ?_)
    refine TL_gcall (he2 EntersC.en rfl rfl rfl) (fun w hm => heq _ hm.below (sl_row (i := 1) rfl w hm)) rfl rfl rfl rfl rfl ?_
    intro _ _
    by_cases c2 : f = 0
    · subst c2
      obtain ⟨q1, q2, q3⟩ := hok2 rfl
      subst q3
      have hiff : decide (evsL l = evsL m) = decide (l = m) := by
        by_cases h : l = m
        · subst h; simp
        · rw [decide_eq_false h, decide_eq_false fun h2 => h (hinj o1 q1 h2)]
      repeat (first
        | refine TL_val (rr_move rfl) rfl rfl rfl ?_
        | refine TL_val (rr_assign rfl) rfl rfl rfl ?_
        | refine TL_nil ?_
        | refine T_seq ?_
        | refine T_region ?_
        | refine T_condT rfl ?_
        | refine T_condF rfl ?_
        | refine T_skip ?_
        | refine T_ret ?_
        | refine E_then ?_
        | refine E_thenR ?_
        | refine TL_val (rr_streq rfl rfl rfl) rfl rfl rfl ?_
        | refine TL_val (rr_extract rfl rfl) rfl rfl rfl ?_
        | refine TL_val (rr_pickT rfl rfl) rfl rfl rfl ?_
        | refine TL_val (rr_pickF rfl rfl) rfl rfl rfl ?_
        | refine TL_val (rr_eql rfl rfl (decide_eq_true (by omega))) rfl rfl rfl ?_
        | refine TL_val (rr_eql rfl rfl (decide_eq_false (by omega))) rfl rfl rfl ?_
        | refine TL_val (rr_neq rfl rfl (decide_eq_true (by omega))) rfl rfl rfl ?_
        | refine TL_val (rr_neq rfl rfl (decide_eq_false (by omega))) rfl rfl rfl ?_
        | refine TL_skip rfl rfl rfl rfl rfl rfl ?_
        | refine TL_gval (rr_streq rfl rfl rfl) rfl rfl rfl rfl rfl ?_
        | refine TL_gval (rr_move rfl) rfl rfl rfl rfl rfl ?_
        | refine TL_gval (rr_pickT rfl rfl) rfl rfl rfl rfl rfl ?_
        | refine TL_gval (rr_pickF rfl rfl) rfl rfl rfl rfl rfl ?_
        | refine TL_gval (rr_neq rfl rfl (decide_eq_true (by omega))) rfl rfl rfl rfl rfl ?_
        | refine TL_gval (rr_neq rfl rfl (decide_eq_false (by omega))) rfl rfl rfl rfl rfl ?_)
      refine TL_gcall (he2 EntersC.en rfl rfl rfl) (fun w hm => heq2 _ hm.below) rfl rfl rfl rfl rfl ?_
      intro _ _
      repeat (first
        | refine TL_val (rr_move rfl) rfl rfl rfl ?_
        | refine TL_val (rr_assign rfl) rfl rfl rfl ?_
        | refine TL_nil ?_
        | refine T_seq ?_
        | refine T_region ?_
        | refine T_condT rfl ?_
        | refine T_condF rfl ?_
        | refine T_skip ?_
        | refine T_ret ?_
        | refine E_then ?_
        | refine E_thenR ?_
        | refine TL_val (rr_extract rfl rfl) rfl rfl rfl ?_
        | refine TL_val (rr_pickT rfl rfl) rfl rfl rfl ?_
        | refine TL_val (rr_pickF rfl rfl) rfl rfl rfl ?_
        | refine TL_val (rr_eql rfl rfl (decide_eq_true (by omega))) rfl rfl rfl ?_
        | refine TL_val (rr_eql rfl rfl (decide_eq_false (by omega))) rfl rfl rfl ?_
        | refine TL_val (rr_neq rfl rfl (decide_eq_true (by omega))) rfl rfl rfl ?_
        | refine TL_val (rr_neq rfl rfl (decide_eq_false (by omega))) rfl rfl rfl ?_
        | refine TL_skip rfl rfl rfl rfl rfl rfl ?_
        | refine TL_gval (rr_booleq (c := true) Und.eq rfl rfl (by rw [hiff]; simp)) rfl rfl rfl rfl rfl ?_
        | refine TL_gval (rr_move rfl) rfl rfl rfl rfl rfl ?_
        | refine TL_gval (rr_pickT rfl rfl) rfl rfl rfl rfl rfl ?_
        | refine TL_gval (rr_pickF rfl rfl) rfl rfl rfl rfl rfl ?_
        | refine TL_gval (rr_neq rfl rfl (decide_eq_true (by omega))) rfl rfl rfl rfl rfl ?_
        | refine TL_gval (rr_neq rfl rfl (decide_eq_false (by omega))) rfl rfl rfl rfl rfl ?_)
      exact E_ret1 rfl rfl fun w hm => hm.ret
    · repeat (first
        | refine TL_val (rr_move rfl) rfl rfl rfl ?_
        | refine TL_val (rr_assign rfl) rfl rfl rfl ?_
        | refine TL_nil ?_
        | refine T_seq ?_
        | refine T_region ?_
        | refine T_condT rfl ?_
        | refine T_condF rfl ?_
        | refine T_skip ?_
        | refine T_ret ?_
        | refine E_then ?_
        | refine E_thenR ?_
        | refine TL_val (rr_extract rfl rfl) rfl rfl rfl ?_
        | refine TL_val (rr_pickT rfl rfl) rfl rfl rfl ?_
        | refine TL_val (rr_pickF rfl rfl) rfl rfl rfl ?_
        | refine TL_val (rr_eql rfl rfl (decide_eq_true (by omega))) rfl rfl rfl ?_
        | refine TL_val (rr_eql rfl rfl (decide_eq_false (by omega))) rfl rfl rfl ?_
        | refine TL_val (rr_neq rfl rfl (decide_eq_true (by omega))) rfl rfl rfl ?_
        | refine TL_val (rr_neq rfl rfl (decide_eq_false (by omega))) rfl rfl rfl ?_
        | refine TL_skip rfl rfl rfl rfl rfl rfl ?_
        | refine TL_gval (rr_move rfl) rfl rfl rfl rfl rfl ?_
        | refine TL_gval (rr_pickT rfl rfl) rfl rfl rfl rfl rfl ?_
        | refine TL_gval (rr_pickF rfl rfl) rfl rfl rfl rfl rfl ?_
        | refine TL_gval (rr_neq rfl rfl (decide_eq_true (by omega))) rfl rfl rfl rfl rfl ?_
        | refine TL_gval (rr_neq rfl rfl (decide_eq_false (by omega))) rfl rfl rfl rfl rfl ?_)
      exact E_ret1 rfl rfl fun w hm => hm.ret
  · have h0 := herr c
    subst h0
    repeat (first
      | refine TL_val (rr_move rfl) rfl rfl rfl ?_
      | refine TL_val (rr_assign rfl) rfl rfl rfl ?_
      | refine TL_nil ?_
      | refine T_seq ?_
      | refine T_region ?_
      | refine T_condT rfl ?_
      | refine T_condF rfl ?_
      | refine T_skip ?_
      | refine T_ret ?_
      | refine E_then ?_
      | refine E_thenR ?_
      | refine TL_val (rr_streq (b := true) rfl rfl (by simp)) rfl rfl rfl ?_
      | refine TL_val (rr_extract rfl rfl) rfl rfl rfl ?_
      | refine TL_val (rr_pickT rfl rfl) rfl rfl rfl ?_
      | refine TL_val (rr_pickF rfl rfl) rfl rfl rfl ?_
      | refine TL_val (rr_eql rfl rfl (decide_eq_true (by omega))) rfl rfl rfl ?_
      | refine TL_val (rr_eql rfl rfl (decide_eq_false (by omega))) rfl rfl rfl ?_
      | refine TL_val (rr_neq rfl rfl (decide_eq_true (by omega))) rfl rfl rfl ?_
      | refine TL_val (rr_neq rfl rfl (decide_eq_false (by omega))) rfl rfl rfl ?_
      | refine TL_skip rfl rfl rfl rfl rfl rfl ?_
      | refine TL_gval (rr_streq (b := true) rfl rfl (by simp)) rfl rfl rfl rfl rfl ?_
      | refine TL_gval (rr_move rfl) rfl rfl rfl rfl rfl ?_
      | refine TL_gval (rr_pickT rfl rfl) rfl rfl rfl rfl rfl ?_
      | refine TL_gval (rr_pickF rfl rfl) rfl rfl rfl rfl rfl ?_
      | refine TL_gval (rr_neq rfl rfl (decide_eq_true (by omega))) rfl rfl rfl rfl rfl ?_
      | refine TL_gval (rr_neq rfl rfl (decide_eq_false (by omega))) rfl rfl rfl rfl rfl ?_)
    exact E_ret1 rfl rfl fun w hm => hm.ret
end Go.Proofs.Ytnooleopmlijeaa.gateBack
