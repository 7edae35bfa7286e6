/- The walk of GateOrder. -/
import Derived.Test.YtnooleopmlijeaaGateD
import Derived.Test.YtnooleopmlijeaaEvO
namespace Go.Proofs.Ytnooleopmlijeaa.gateOrder
open Go.RowKit kit mix gateL eng
structure St where
  G : List Ev
  P : List Ev
  wait : List Ev
  credit : Int
  granted : Int
  v9 : Value
  v10 : Value
  vw : Value
def Inv (ip ig : Nat) (s : St) : Prop := s.G ++ s.wait = s.P ∧ 0 ≤ s.credit ∧ s.credit ≤ 1073741824 ∧ s.credit + s.G.length ≤ s.granted ∧ s.P.length ≤ ip ∧ s.granted ≤ 1073741824 * (ig : Int) ∧ s.vw.oneCell' = true
theorem build_ga0 (w : World) : (Instr.build 59 (#[] : Array (Nat × Value))).run Try.prog w = .ok (.agg #[.slice none 0 0, .int .i64 0, .int .i64 0]) w := by
  go_simp
theorem build_ev1 (k : Int) (w : World) : (Instr.build 56 #[(0, .int .i64 k)]).run Try.prog w = .ok (.agg #[.int .i64 k, .int .i64 0]) w := by
  go_simp
theorem drop_one (l : List Ev) {i : Nat} (h : i < l.length) : (l.drop i).take (i + 1 - i) = [l[i]] := by
  rw [List.drop_eq_getElem_cons h, show i + 1 - i = 1 by omega]; rfl
theorem sl_one (w : World) (g : Nat) (x : Ev) (h : w.heap[g]? = some (.cells (evC x).toArray 56 (0, 0))) : Sl w (.slice (some ⟨g, 0, none⟩) 1 1) [x].length ([x].flatMap evC) :=
  ⟨_, 1, rfl, Nat.le_refl _, by decide, fun _ => ⟨g, 0, rfl, fun j u hj => by
    rw [cell_of_row w g (0 + j) (evC x).toArray _ _ h, Nat.zero_add]
    simpa using hj⟩⟩
theorem gtake2 (v : Value) (wait : List Ev) (c g n : Int) (hl : wait.length * 16 ≤ 140737488355328) : ∃ (wait' gone' : List Ev) (c' g' e : Int), (e = 0 → 0 ≤ c' ∧ c' ≤ c ∧ c ≤ 1073741824 ∧ g' + c' = g + c ∧ g' = g + gone'.length ∧ gone' ++ wait' = wait) ∧
    ∀ w, Sl w v wait.length (wait.flatMap evC) → Calls Try.prog 30 #[gaV v c g, .int .i64 n] w (Meets ⟨fun _ => True, fun (x : Value × Value) => .tuple #[gaV x.1 c' g', x.2, .int .i64 e], fun x => [rowO 56 2 x.1 wait'.length (wait'.flatMap evC), rowO 56 2 x.2 gone'.length (gone'.flatMap evC)]⟩ w) := by
  by_cases h : takeE wait c g n = 0
  · obtain ⟨h1, h2⟩ := takeE_ok h
    obtain ⟨a1, a2, a3, a4, a5, _⟩ := checkG_ok h1
    have hN : (takeN wait c n : Int) = min n (min c wait.length) := by unfold takeN; omega
    have e1 : (wait.drop (takeN wait c n)).length = wait.length - takeN wait c n := by simp
    have e2 : (wait.take (takeN wait c n)).length = takeN wait c n := by simp; omega
    refine ⟨wait.drop (takeN wait c n), wait.take (takeN wait c n), c - takeN wait c n, g + takeN wait c n, 0, fun _ => ⟨by omega, by omega, by omega, by omega, by rw [e2], List.take_append_drop _ _⟩, fun w hs => ?_⟩
    have := gtake_calls v wait c g n w hs hl
    unfold taS at this
    rw [if_pos h] at this
    rw [e1, e2]; exact this
  · refine ⟨wait, [], c, g, takeE wait c g n, fun h' => absurd h' h, fun w hs => ?_⟩
    have := gtake_calls v wait c g n w hs hl
    unfold taS at this
    rw [if_neg h] at this
    exact this
theorem ggrant2 (v : Value) (wait : List Ev) (c g n : Int) (hl : wait.length * 16 ≤ 140737488355328) : ∃ (c' e : Int), (e = 0 → 0 ≤ c' ∧ c' ≤ 1073741824 ∧ c' ≤ c + n ∧ 1 ≤ n ∧ n ≤ 1073741824) ∧
    ∀ w, Sl w v wait.length (wait.flatMap evC) → Calls Try.prog 29 #[gaV v c g, .int .i64 n] w (Meets (gaS wait c' g e) w) := by
  refine ⟨grantC wait c g n, grantE wait c g n, fun h => ?_, fun w hs => ggrant_calls v wait c g n w hs hl⟩
  obtain ⟨h1, h2, h3⟩ := grantE_ok h
  obtain ⟨a1, a2, a3, a4, a5, _⟩ := checkG_ok h1
  unfold grantC
  rw [if_pos h]
  omega
def Sm (g7 : Nat) (s : St) : List Own := [blkO g7 (gaV s.vw s.credit s.G.length).cells 59, rowO 56 2 s.vw s.wait.length (s.wait.flatMap evC), rowO 56 2 s.v10 s.P.length (s.P.flatMap evC), rowO 56 2 s.v9 s.G.length (s.G.flatMap evC)]
def Sf (vl vg vt : Value) (g7 i : Nat) (s : St) : Fr := [(0, vl), (1, vg), (2, vt), (7, .pointer (some ⟨g7, 0, none⟩)), (9, s.v9), (10, s.v10), (11, .int .i64 s.granted), (12, .int .i64 (i : Int))]

section
variable {w : World} {Q : Exit → Act → World → Prop}
attribute [local irreducible] Instr.build in
set_option maxHeartbeats 4000000 in
theorem walkS (w : World) (vl : Value) (l : List Ev) (hs : Sl w vl l.length (l.flatMap evC)) (hl : l.length ≤ 1048576) (vg : Value) (gs : List Int) (hsg : Sl w vg gs.length (gs.map (.int .i64))) (hg1 : ∀ c ∈ gs, kit.okI64 c) (hg : gs.length ≤ 1048576)
    (vt : Value) (ts : List Int) (hst : Sl w vt ts.length (ts.map (.int .i64))) (ht1 : ∀ c ∈ ts, kit.okI64 c) (ht : ts.length ≤ 1048576) :
    Calls Try.prog 8 #[vl, vg, vt] w (Meets (ret (.bool true)) w) := by
  have hp0 := fun v w' (hx : Sl w' v [((1 : Int), (0 : Int))].length ([((1 : Int), (0 : Int))].flatMap evC)) => gput_calls (.slice none 0 0) [] 0 0 v [(1, 0)] w' ⟨none, 0, rfl, Nat.le_refl _, by decide, fun h => by simp at h⟩ (by decide) hx
  rw [show putE [] 0 0 [(1, 0)] = 0 from by simp [putE, checkG, odd], show putW [] 0 0 [(1, 0)] = [(1, 0)] from by simp [putW, putE, checkG, odd]] at hp0
  obtain ⟨bl, cl, rfl, hcl, hml, hrl⟩ := hs
  obtain ⟨bg, cg, rfl, hcg, hmg, hrg⟩ := hsg
  obtain ⟨bt, ct, rfl, hct, hmt, hrt⟩ := hst
  unfold maxLen at hml hmg hmt
  refine enter (args := [.slice bl l.length cl, .slice bg gs.length cg, .slice bt ts.length ct]) (n := 134) Try.func8 rfl rfl rfl ?_
  repeat (first
    | refine TL_val (rr_move rfl) rfl rfl rfl ?_
    | refine TL_val (rr_assign rfl) rfl rfl rfl ?_
    | refine TL_nil ?_
    | refine T_seq ?_
    | refine T_region ?_
    | refine T_condT rfl ?_
    | refine T_condF rfl ?_
    | refine T_skip ?_
    | refine T_exit ?_
    | refine T_ret ?_
    | refine T_block ?_
    | refine E_then ?_
    | refine E_thenX ?_
    | refine E_thenR ?_
    | refine E_blockN ?_
    | refine E_blockR ?_
    | refine E_blockX ?_
    | refine E_blockO rfl ?_
    | refine TL_val (rr_build rfl build_ga0) rfl rfl rfl ?_
    | refine TL_val (rr_build rfl (build_ev1 _)) rfl rfl rfl ?_
    | refine TL_val (rr_extract rfl rfl) rfl rfl rfl ?_
    | refine TL_val (rr_pickT rfl rfl) rfl rfl rfl ?_
    | refine TL_val (rr_pickF rfl rfl) rfl rfl rfl ?_
    | refine TL_val (rr_len Und.eq rfl) rfl rfl rfl ?_
    | refine TL_val (rr_max rfl rfl (by omega)) rfl rfl rfl ?_
    | refine TL_val (rr_lss rfl rfl (decide_eq_true (by omega))) rfl rfl rfl ?_
    | refine TL_val (rr_lss rfl rfl (decide_eq_false (by omega))) rfl rfl rfl ?_
    | refine TL_val (rr_gtr rfl rfl (decide_eq_true (by omega))) rfl rfl rfl ?_
    | refine TL_val (rr_gtr rfl rfl (decide_eq_false (by omega))) rfl rfl rfl ?_
    | refine TL_val (rr_eql rfl rfl (decide_eq_true (by omega))) rfl rfl rfl ?_
    | refine TL_val (rr_eql rfl rfl (decide_eq_false (by omega))) rfl rfl rfl ?_
    | refine TL_val (rr_neq rfl rfl (decide_eq_true (by omega))) rfl rfl rfl ?_
    | refine TL_val (rr_neq rfl rfl (decide_eq_false (by omega))) rfl rfl rfl ?_
    | refine TL_val (rr_add64 rfl rfl (by omega) (by omega) rfl) rfl rfl rfl ?_
    | refine TL_skip rfl rfl rfl rfl rfl rfl ?_
    | refine TL_gval (rr_move rfl) rfl rfl rfl rfl rfl ?_
    | refine TL_gval (rr_len Und.eq rfl) rfl rfl rfl rfl rfl ?_
    | refine TL_gval (rr_field FldC.fld rfl rfl) rfl rfl rfl rfl rfl ?_
    | refine TL_gval (rr_not rfl rfl) rfl rfl rfl rfl rfl ?_
    | refine TL_gval (rr_neq rfl rfl (decide_eq_true (by omega))) rfl rfl rfl rfl rfl ?_
    | refine TL_gval (rr_neq rfl rfl (decide_eq_false (by omega))) rfl rfl rfl rfl rfl ?_)
  refine TL_one rfl rfl rfl rfl rfl fun g => ?_
  repeat (first
    | refine TL_val (rr_move rfl) rfl rfl rfl ?_
    | refine TL_val (rr_assign rfl) rfl rfl rfl ?_
    | refine TL_nil ?_
    | refine T_seq ?_
    | refine T_region ?_
    | refine T_condT rfl ?_
    | refine T_condF rfl ?_
    | refine T_skip ?_
    | refine T_exit ?_
    | refine T_ret ?_
    | refine T_block ?_
    | refine E_then ?_
    | refine E_thenX ?_
    | refine E_thenR ?_
    | refine E_blockN ?_
    | refine E_blockR ?_
    | refine E_blockX ?_
    | refine E_blockO rfl ?_
    | refine TL_val (rr_extract rfl rfl) rfl rfl rfl ?_
    | refine TL_val (rr_pickT rfl rfl) rfl rfl rfl ?_
    | refine TL_val (rr_pickF rfl rfl) rfl rfl rfl ?_
    | refine TL_val (rr_len Und.eq rfl) rfl rfl rfl ?_
    | refine TL_val (rr_max rfl rfl (by omega)) rfl rfl rfl ?_
    | refine TL_val (rr_lss rfl rfl (decide_eq_true (by omega))) rfl rfl rfl ?_
    | refine TL_val (rr_lss rfl rfl (decide_eq_false (by omega))) rfl rfl rfl ?_
    | refine TL_val (rr_gtr rfl rfl (decide_eq_true (by omega))) rfl rfl rfl ?_
    | refine TL_val (rr_gtr rfl rfl (decide_eq_false (by omega))) rfl rfl rfl ?_
    | refine TL_val (rr_eql rfl rfl (decide_eq_true (by omega))) rfl rfl rfl ?_
    | refine TL_val (rr_eql rfl rfl (decide_eq_false (by omega))) rfl rfl rfl ?_
    | refine TL_val (rr_neq rfl rfl (decide_eq_true (by omega))) rfl rfl rfl ?_
    | refine TL_val (rr_neq rfl rfl (decide_eq_false (by omega))) rfl rfl rfl ?_
    | refine TL_val (rr_add64 rfl rfl (by omega) (by omega) rfl) rfl rfl rfl ?_
    | refine TL_skip rfl rfl rfl rfl rfl rfl ?_
    | refine TL_gval (rr_move rfl) rfl rfl rfl rfl rfl ?_
    | refine TL_gval (rr_len Und.eq rfl) rfl rfl rfl rfl rfl ?_
    | refine TL_gval (rr_field FldC.fld rfl rfl) rfl rfl rfl rfl rfl ?_
    | refine TL_gval (rr_not rfl rfl) rfl rfl rfl rfl rfl ?_
    | refine TL_gval (rr_neq rfl rfl (decide_eq_true (by omega))) rfl rfl rfl rfl rfl ?_
    | refine TL_gval (rr_neq rfl rfl (decide_eq_false (by omega))) rfl rfl rfl rfl rfl ?_)
  refine TL_call (he2 EntersC.en rfl rfl rfl) (fun w hm => hp0 _ _ (sl_one w g (1, 0) (hm.get (i := 0) rfl))) rfl rfl rfl ?_
  intro v1 _
  repeat (first
    | refine TL_val (rr_move rfl) rfl rfl rfl ?_
    | refine TL_val (rr_assign rfl) rfl rfl rfl ?_
    | refine TL_nil ?_
    | refine T_seq ?_
    | refine T_region ?_
    | refine T_condT rfl ?_
    | refine T_condF rfl ?_
    | refine T_skip ?_
    | refine T_exit ?_
    | refine T_ret ?_
    | refine T_block ?_
    | refine E_then ?_
    | refine E_thenX ?_
    | refine E_thenR ?_
    | refine E_blockN ?_
    | refine E_blockR ?_
    | refine E_blockX ?_
    | refine E_blockO rfl ?_
    | refine TL_val (rr_extract rfl rfl) rfl rfl rfl ?_
    | refine TL_val (rr_pickT rfl rfl) rfl rfl rfl ?_
    | refine TL_val (rr_pickF rfl rfl) rfl rfl rfl ?_
    | refine TL_val (rr_len Und.eq rfl) rfl rfl rfl ?_
    | refine TL_val (rr_max rfl rfl (by omega)) rfl rfl rfl ?_
    | refine TL_val (rr_lss rfl rfl (decide_eq_true (by omega))) rfl rfl rfl ?_
    | refine TL_val (rr_lss rfl rfl (decide_eq_false (by omega))) rfl rfl rfl ?_
    | refine TL_val (rr_gtr rfl rfl (decide_eq_true (by omega))) rfl rfl rfl ?_
    | refine TL_val (rr_gtr rfl rfl (decide_eq_false (by omega))) rfl rfl rfl ?_
    | refine TL_val (rr_eql rfl rfl (decide_eq_true (by omega))) rfl rfl rfl ?_
    | refine TL_val (rr_eql rfl rfl (decide_eq_false (by omega))) rfl rfl rfl ?_
    | refine TL_val (rr_neq rfl rfl (decide_eq_true (by omega))) rfl rfl rfl ?_
    | refine TL_val (rr_neq rfl rfl (decide_eq_false (by omega))) rfl rfl rfl ?_
    | refine TL_val (rr_add64 rfl rfl (by omega) (by omega) rfl) rfl rfl rfl ?_
    | refine TL_skip rfl rfl rfl rfl rfl rfl ?_
    | refine TL_gval (rr_move rfl) rfl rfl rfl rfl rfl ?_
    | refine TL_gval (rr_len Und.eq rfl) rfl rfl rfl rfl rfl ?_
    | refine TL_gval (rr_field FldC.fld rfl rfl) rfl rfl rfl rfl rfl ?_
    | refine TL_gval (rr_not rfl rfl) rfl rfl rfl rfl rfl ?_
    | refine TL_gval (rr_neq rfl rfl (decide_eq_true (by omega))) rfl rfl rfl rfl rfl ?_
    | refine TL_gval (rr_neq rfl rfl (decide_eq_false (by omega))) rfl rfl rfl rfl rfl ?_)
  refine TL_new rfl fun g7 => ?_
  refine TL_slv (i := 1) rfl fun hc1 ho1 => ?_
  refine TL_storeB (i := 2) rfl rfl rfl rfl (gaV_one ho1) rfl ?_
  repeat (first
    | refine TL_val (rr_move rfl) rfl rfl rfl ?_
    | refine TL_val (rr_assign rfl) rfl rfl rfl ?_
    | refine TL_nil ?_
    | refine T_seq ?_
    | refine T_region ?_
    | refine T_condT rfl ?_
    | refine T_condF rfl ?_
    | refine T_skip ?_
    | refine T_exit ?_
    | refine T_ret ?_
    | refine T_block ?_
    | refine E_then ?_
    | refine E_thenX ?_
    | refine E_thenR ?_
    | refine E_blockN ?_
    | refine E_blockR ?_
    | refine E_blockX ?_
    | refine E_blockO rfl ?_
    | refine TL_val (rr_load1 TyC.ty rfl (at_blk (i := 2) rfl rfl)) rfl rfl rfl ?_
    | refine TL_val (rr_rowlen (i := 1) Und.eq rfl rfl) rfl rfl rfl ?_
    | refine TL_val (rr_neq (b := false) rfl rfl (by decide)) rfl rfl rfl ?_
    | refine TL_val (rr_build rfl build_ga0) rfl rfl rfl ?_
    | refine TL_val (rr_extract rfl rfl) rfl rfl rfl ?_
    | refine TL_val (rr_pickT rfl rfl) rfl rfl rfl ?_
    | refine TL_val (rr_pickF rfl rfl) rfl rfl rfl ?_
    | refine TL_val (rr_len Und.eq rfl) rfl rfl rfl ?_
    | refine TL_val (rr_max rfl rfl (by omega)) rfl rfl rfl ?_
    | refine TL_val (rr_lss rfl rfl (decide_eq_true (by omega))) rfl rfl rfl ?_
    | refine TL_val (rr_lss rfl rfl (decide_eq_false (by omega))) rfl rfl rfl ?_
    | refine TL_val (rr_gtr rfl rfl (decide_eq_true (by omega))) rfl rfl rfl ?_
    | refine TL_val (rr_gtr rfl rfl (decide_eq_false (by omega))) rfl rfl rfl ?_
    | refine TL_val (rr_eql rfl rfl (decide_eq_true (by omega))) rfl rfl rfl ?_
    | refine TL_val (rr_eql rfl rfl (decide_eq_false (by omega))) rfl rfl rfl ?_
    | refine TL_val (rr_neq rfl rfl (decide_eq_true (by omega))) rfl rfl rfl ?_
    | refine TL_val (rr_neq rfl rfl (decide_eq_false (by omega))) rfl rfl rfl ?_
    | refine TL_val (rr_add64 rfl rfl (by omega) (by omega) rfl) rfl rfl rfl ?_
    | refine TL_skip rfl rfl rfl rfl rfl rfl ?_
    | refine TL_gval (rr_load1 TyC.ty rfl (at_blk (i := 2) rfl rfl)) rfl rfl rfl rfl rfl ?_
    | refine TL_gval (rr_rowlen (i := 1) Und.eq rfl rfl) rfl rfl rfl rfl rfl ?_
    | refine TL_gval (rr_neq (b := false) rfl rfl (by decide)) rfl rfl rfl rfl rfl ?_
    | refine TL_gval (rr_move rfl) rfl rfl rfl rfl rfl ?_
    | refine TL_gval (rr_len Und.eq rfl) rfl rfl rfl rfl rfl ?_
    | refine TL_gval (rr_field FldC.fld rfl rfl) rfl rfl rfl rfl rfl ?_
    | refine TL_gval (rr_not rfl rfl) rfl rfl rfl rfl rfl ?_
    | refine TL_gval (rr_neq rfl rfl (decide_eq_true (by omega))) rfl rfl rfl rfl rfl ?_
    | refine TL_gval (rr_neq rfl rfl (decide_eq_false (by omega))) rfl rfl rfl rfl rfl ?_)
  refine TL_storeB (i := 2) rfl rfl rfl rfl rfl rfl ?_
  refine TL_pick [2] (by decide) rfl ?_
  repeat (first
    | refine TL_val (rr_move rfl) rfl rfl rfl ?_
    | refine TL_val (rr_assign rfl) rfl rfl rfl ?_
    | refine TL_nil ?_
    | refine T_seq ?_
    | refine T_region ?_
    | refine T_condT rfl ?_
    | refine T_condF rfl ?_
    | refine T_skip ?_
    | refine T_exit ?_
    | refine T_ret ?_
    | refine T_block ?_
    | refine E_then ?_
    | refine E_thenX ?_
    | refine E_thenR ?_
    | refine E_blockN ?_
    | refine E_blockR ?_
    | refine E_blockX ?_
    | refine E_blockO rfl ?_
    | refine TL_val (rr_extract rfl rfl) rfl rfl rfl ?_
    | refine TL_val (rr_pickT rfl rfl) rfl rfl rfl ?_
    | refine TL_val (rr_pickF rfl rfl) rfl rfl rfl ?_
    | refine TL_val (rr_len Und.eq rfl) rfl rfl rfl ?_
    | refine TL_val (rr_max rfl rfl (by omega)) rfl rfl rfl ?_
    | refine TL_val (rr_lss rfl rfl (decide_eq_true (by omega))) rfl rfl rfl ?_
    | refine TL_val (rr_lss rfl rfl (decide_eq_false (by omega))) rfl rfl rfl ?_
    | refine TL_val (rr_gtr rfl rfl (decide_eq_true (by omega))) rfl rfl rfl ?_
    | refine TL_val (rr_gtr rfl rfl (decide_eq_false (by omega))) rfl rfl rfl ?_
    | refine TL_val (rr_eql rfl rfl (decide_eq_true (by omega))) rfl rfl rfl ?_
    | refine TL_val (rr_eql rfl rfl (decide_eq_false (by omega))) rfl rfl rfl ?_
    | refine TL_val (rr_neq rfl rfl (decide_eq_true (by omega))) rfl rfl rfl ?_
    | refine TL_val (rr_neq rfl rfl (decide_eq_false (by omega))) rfl rfl rfl ?_
    | refine TL_val (rr_add64 rfl rfl (by omega) (by omega) rfl) rfl rfl rfl ?_
    | refine TL_skip rfl rfl rfl rfl rfl rfl ?_
    | refine TL_gval (rr_move rfl) rfl rfl rfl rfl rfl ?_
    | refine TL_gval (rr_len Und.eq rfl) rfl rfl rfl rfl rfl ?_
    | refine TL_gval (rr_field FldC.fld rfl rfl) rfl rfl rfl rfl rfl ?_
    | refine TL_gval (rr_not rfl rfl) rfl rfl rfl rfl rfl ?_
    | refine TL_gval (rr_neq rfl rfl (decide_eq_true (by omega))) rfl rfl rfl rfl rfl ?_
    | refine TL_gval (rr_neq rfl rfl (decide_eq_false (by omega))) rfl rfl rfl rfl rfl ?_)
  refine T_nil 56 2 (T_nil 56 2 (T_nil 56 2 ?_))
  clear hp0
  refine T_loop (ι := Nat × St) (fun (i, s) => Inv i i s ∧ i ≤ 1048576) (fun (i, s) => Sf (.slice bl l.length cl) (.slice bg gs.length cg) (.slice bt ts.length ct) g7 i s) (fun (_, s) => Sm g7 s) (fun (i, _) => max l.length (max gs.length ts.length) - i) (0, ⟨[], [], [], 0, 0, .slice none 0 0, .slice none 0 0, .slice none 0 0⟩) ⟨⟨rfl, by decide, by decide, by decide, by decide, by decide, rfl⟩, by decide⟩ (by repeat' (first | exact True.intro | refine And.intro rfl ?_)) rfl ?_
  rintro ⟨i, s⟩ ⟨hI, hi⟩
  dsimp only at hI hi ⊢
  by_cases c0 : i < max l.length (max gs.length ts.length)
  · (repeat refine T_seq ?_)
    refine T_region ?_
    repeat (first
      | refine TL_val (rr_move rfl) rfl rfl rfl ?_
      | refine TL_val (rr_assign rfl) rfl rfl rfl ?_
      | refine TL_nil ?_
      | refine E_then ?_
      | refine TL_val (rr_max3 rfl rfl rfl rfl) rfl rfl rfl ?_
      | refine TL_val (rr_extract rfl rfl) rfl rfl rfl ?_
      | refine TL_val (rr_pickT rfl rfl) rfl rfl rfl ?_
      | refine TL_val (rr_pickF rfl rfl) rfl rfl rfl ?_
      | refine TL_val (rr_len Und.eq rfl) rfl rfl rfl ?_
      | refine TL_val (rr_max rfl rfl (by omega)) rfl rfl rfl ?_
      | refine TL_val (rr_lss rfl rfl (decide_eq_true (by omega))) rfl rfl rfl ?_
      | refine TL_val (rr_lss rfl rfl (decide_eq_false (by omega))) rfl rfl rfl ?_
      | refine TL_val (rr_gtr rfl rfl (decide_eq_true (by omega))) rfl rfl rfl ?_
      | refine TL_val (rr_gtr rfl rfl (decide_eq_false (by omega))) rfl rfl rfl ?_
      | refine TL_val (rr_eql rfl rfl (decide_eq_true (by omega))) rfl rfl rfl ?_
      | refine TL_val (rr_eql rfl rfl (decide_eq_false (by omega))) rfl rfl rfl ?_
      | refine TL_val (rr_neq rfl rfl (decide_eq_true (by omega))) rfl rfl rfl ?_
      | refine TL_val (rr_neq rfl rfl (decide_eq_false (by omega))) rfl rfl rfl ?_
      | refine TL_val (rr_add64 rfl rfl (by omega) (by omega) rfl) rfl rfl rfl ?_
      | refine TL_skip rfl rfl rfl rfl rfl rfl ?_
      | refine TL_gval (rr_move rfl) rfl rfl rfl rfl rfl ?_
      | refine TL_gval (rr_len Und.eq rfl) rfl rfl rfl rfl rfl ?_
      | refine TL_gval (rr_field FldC.fld rfl rfl) rfl rfl rfl rfl rfl ?_
      | refine TL_gval (rr_not rfl rfl) rfl rfl rfl rfl rfl ?_
      | refine TL_gval (rr_neq rfl rfl (decide_eq_true (by omega))) rfl rfl rfl rfl rfl ?_
      | refine TL_gval (rr_neq rfl rfl (decide_eq_false (by omega))) rfl rfl rfl rfl rfl ?_)
    refine T_condT rfl (T_skip (E_then ?_))
    (repeat refine T_seq ?_)
    refine T_block ?_
    (repeat refine T_seq ?_)
    refine T_region ?_
    repeat (first
      | refine TL_val (rr_move rfl) rfl rfl rfl ?_
      | refine TL_val (rr_assign rfl) rfl rfl rfl ?_
      | refine TL_nil ?_
      | refine E_then ?_
      | refine TL_val (rr_lss rfl rfl rfl) rfl rfl rfl ?_
      | refine TL_val (rr_extract rfl rfl) rfl rfl rfl ?_
      | refine TL_val (rr_pickT rfl rfl) rfl rfl rfl ?_
      | refine TL_val (rr_pickF rfl rfl) rfl rfl rfl ?_
      | refine TL_val (rr_len Und.eq rfl) rfl rfl rfl ?_
      | refine TL_val (rr_max rfl rfl (by omega)) rfl rfl rfl ?_
      | refine TL_val (rr_lss rfl rfl (decide_eq_true (by omega))) rfl rfl rfl ?_
      | refine TL_val (rr_lss rfl rfl (decide_eq_false (by omega))) rfl rfl rfl ?_
      | refine TL_val (rr_gtr rfl rfl (decide_eq_true (by omega))) rfl rfl rfl ?_
      | refine TL_val (rr_gtr rfl rfl (decide_eq_false (by omega))) rfl rfl rfl ?_
      | refine TL_val (rr_eql rfl rfl (decide_eq_true (by omega))) rfl rfl rfl ?_
      | refine TL_val (rr_eql rfl rfl (decide_eq_false (by omega))) rfl rfl rfl ?_
      | refine TL_val (rr_neq rfl rfl (decide_eq_true (by omega))) rfl rfl rfl ?_
      | refine TL_val (rr_neq rfl rfl (decide_eq_false (by omega))) rfl rfl rfl ?_
      | refine TL_val (rr_add64 rfl rfl (by omega) (by omega) rfl) rfl rfl rfl ?_
      | refine TL_skip rfl rfl rfl rfl rfl rfl ?_
      | refine TL_gval (rr_move rfl) rfl rfl rfl rfl rfl ?_
      | refine TL_gval (rr_len Und.eq rfl) rfl rfl rfl rfl rfl ?_
      | refine TL_gval (rr_field FldC.fld rfl rfl) rfl rfl rfl rfl rfl ?_
      | refine TL_gval (rr_not rfl rfl) rfl rfl rfl rfl rfl ?_
      | refine TL_gval (rr_neq rfl rfl (decide_eq_true (by omega))) rfl rfl rfl rfl rfl ?_
      | refine TL_gval (rr_neq rfl rfl (decide_eq_false (by omega))) rfl rfl rfl rfl rfl ?_)
    refine T_midq (ι := St) (fun s => Inv (i + 1) i s) (fun s => Sf (.slice bl l.length cl) (.slice bg gs.length cg) (.slice bt ts.length ct) g7 i s) (fun s => Sm g7 s) ?_ ?_
    · refine T_condD rfl (fun c1 => ?_) (fun c1 => ?_)
      · have c1 : i < l.length := by omega
        obtain ⟨k1, k2, k3, k4, k5, k6, k7⟩ := hI
        have hput := fun w' hx hg => gput_calls s.vw s.wait s.credit s.G.length (subV bl cl 2 i (i + 1)) ((l.drop i).take (i + 1 - i)) w' hx (by have := congrArg List.length k1; simp at this; omega) (sl_sub EvS_len (Sl.gr ⟨bl, cl, rfl, hcl, hml, hrl⟩ hg) (by omega) (by omega))
        rw [drop_one l c1] at hput
        have hok := putE_ok (wait := s.wait) (c := s.credit) (g := s.G.length) (l := [l[i]])
        have hpw : putE s.wait s.credit s.G.length [l[i]] = 0 → putW s.wait s.credit s.G.length [l[i]] = s.wait ++ [l[i]] := fun h => by unfold putW; rw [if_pos h]
        generalize putE s.wait s.credit s.G.length [l[i]] = e at *
        generalize putW s.wait s.credit s.G.length [l[i]] = wait2 at *
        refine T_mid (ι := Value × Nat) (fun (v2, _) => v2.oneCell' = true) (fun (_, g13) => Sf (.slice bl l.length cl) (.slice bg gs.length cg) (.slice bt ts.length ct) g7 i s ++ [(13, .pointer (some ⟨g13, 0, none⟩)), (14, .int .i64 e)]) (fun (v2, g13) => Sm g7 s ++ [rowO 56 2 v2 wait2.length (wait2.flatMap evC), blkO g13 (gaV v2 s.credit s.G.length).cells 59]) ?_ ?_
        · refine T_ord ([blkO g7 (gaV s.vw s.credit s.G.length).cells 59]) (.calm 0 (.calm 1 (.calm 2 (.calm 3 (.calm 4 (.calm 5 (.two 6 (.calm 7 (.calm 8 (.calm 9 (.one 10 (.one 11 (.calm 12 (.done))))))) 10 (.one 6 (.calm 7 (.calm 8 (.calm 9 (.one 11 (.calm 12 (.done)))))))))))))) (sub_pick [0] (by decide) rfl) (by kernel_rfl) (by kernel_rfl) (by intro c a d v w h; cases d <;> exact h) ?_
          repeat (first
            | refine TW_val rfl (rr_move rfl) rfl rfl rfl ?_
            | refine TW_val rfl (rr_assign rfl) rfl rfl rfl ?_
            | refine TW_val rfl (rr_loadB (i := 0) TyC.ty rfl rfl rfl) rfl rfl rfl ?_
            | refine TW_val rfl (rr_slsub (i := i) (j := i + 1) Und.eq TyC.ty rfl rfl rfl (by omega) (by omega)) rfl rfl rfl ?_
            | refine TW_val rfl (rr_extract rfl rfl) rfl rfl rfl ?_
            | refine TW_val rfl (rr_pickT rfl rfl) rfl rfl rfl ?_
            | refine TW_val rfl (rr_pickF rfl rfl) rfl rfl rfl ?_
            | refine TW_val rfl (rr_len Und.eq rfl) rfl rfl rfl ?_
            | refine TW_val rfl (rr_max rfl rfl (by omega)) rfl rfl rfl ?_
            | refine TW_val rfl (rr_lss rfl rfl (decide_eq_true (by omega))) rfl rfl rfl ?_
            | refine TW_val rfl (rr_lss rfl rfl (decide_eq_false (by omega))) rfl rfl rfl ?_
            | refine TW_val rfl (rr_gtr rfl rfl (decide_eq_true (by omega))) rfl rfl rfl ?_
            | refine TW_val rfl (rr_gtr rfl rfl (decide_eq_false (by omega))) rfl rfl rfl ?_
            | refine TW_val rfl (rr_eql rfl rfl (decide_eq_true (by omega))) rfl rfl rfl ?_
            | refine TW_val rfl (rr_eql rfl rfl (decide_eq_false (by omega))) rfl rfl rfl ?_
            | refine TW_val rfl (rr_neq rfl rfl (decide_eq_true (by omega))) rfl rfl rfl ?_
            | refine TW_val rfl (rr_neq rfl rfl (decide_eq_false (by omega))) rfl rfl rfl ?_
            | refine TW_val rfl (rr_add64 rfl rfl (by omega) (by omega) rfl) rfl rfl rfl ?_
            | refine TW_skip rfl rfl rfl rfl rfl rfl rfl ?_
            | refine TW_gval rfl (rr_loadB (i := 0) TyC.ty rfl rfl rfl) rfl rfl rfl rfl rfl ?_
            | refine TW_gval rfl (rr_slsub (i := i) (j := i + 1) Und.eq TyC.ty rfl rfl rfl (by omega) (by omega)) rfl rfl rfl rfl rfl ?_
            | refine TW_gval rfl (rr_move rfl) rfl rfl rfl rfl rfl ?_
            | refine TW_gval rfl (rr_len Und.eq rfl) rfl rfl rfl rfl rfl ?_
            | refine TW_gval rfl (rr_field FldC.fld rfl rfl) rfl rfl rfl rfl rfl ?_
            | refine TW_gval rfl (rr_not rfl rfl) rfl rfl rfl rfl rfl ?_
            | refine TW_gval rfl (rr_neq rfl rfl (decide_eq_true (by omega))) rfl rfl rfl rfl rfl ?_
            | refine TW_gval rfl (rr_neq rfl rfl (decide_eq_false (by omega))) rfl rfl rfl rfl rfl ?_
            | refine TW_done ?_)
          refine TW_two rfl rfl ?_ ?_
          · refine TL_call (he2 EntersC.en rfl rfl rfl) (fun w hm => hput _ (sl_row (i := 1) rfl w hm) hm.below) rfl rfl rfl ?_
            intro v2 _
            refine TW_on (sub_pick [0] (by decide) rfl) ?_
            repeat (first
              | refine TW_val rfl (rr_move rfl) rfl rfl rfl ?_
              | refine TW_val rfl (rr_assign rfl) rfl rfl rfl ?_
              | refine TW_val rfl (rr_extract rfl rfl) rfl rfl rfl ?_
              | refine TW_val rfl (rr_pickT rfl rfl) rfl rfl rfl ?_
              | refine TW_val rfl (rr_pickF rfl rfl) rfl rfl rfl ?_
              | refine TW_val rfl (rr_len Und.eq rfl) rfl rfl rfl ?_
              | refine TW_val rfl (rr_max rfl rfl (by omega)) rfl rfl rfl ?_
              | refine TW_val rfl (rr_lss rfl rfl (decide_eq_true (by omega))) rfl rfl rfl ?_
              | refine TW_val rfl (rr_lss rfl rfl (decide_eq_false (by omega))) rfl rfl rfl ?_
              | refine TW_val rfl (rr_gtr rfl rfl (decide_eq_true (by omega))) rfl rfl rfl ?_
              | refine TW_val rfl (rr_gtr rfl rfl (decide_eq_false (by omega))) rfl rfl rfl ?_
              | refine TW_val rfl (rr_eql rfl rfl (decide_eq_true (by omega))) rfl rfl rfl ?_
              | refine TW_val rfl (rr_eql rfl rfl (decide_eq_false (by omega))) rfl rfl rfl ?_
              | refine TW_val rfl (rr_neq rfl rfl (decide_eq_true (by omega))) rfl rfl rfl ?_
              | refine TW_val rfl (rr_neq rfl rfl (decide_eq_false (by omega))) rfl rfl rfl ?_
              | refine TW_val rfl (rr_add64 rfl rfl (by omega) (by omega) rfl) rfl rfl rfl ?_
              | refine TW_skip rfl rfl rfl rfl rfl rfl rfl ?_
              | refine TW_gval rfl (rr_move rfl) rfl rfl rfl rfl rfl ?_
              | refine TW_gval rfl (rr_len Und.eq rfl) rfl rfl rfl rfl rfl ?_
              | refine TW_gval rfl (rr_field FldC.fld rfl rfl) rfl rfl rfl rfl rfl ?_
              | refine TW_gval rfl (rr_not rfl rfl) rfl rfl rfl rfl rfl ?_
              | refine TW_gval rfl (rr_neq rfl rfl (decide_eq_true (by omega))) rfl rfl rfl rfl rfl ?_
              | refine TW_gval rfl (rr_neq rfl rfl (decide_eq_false (by omega))) rfl rfl rfl rfl rfl ?_
              | refine TW_done ?_)
            refine TW_one rfl (TL_new rfl fun g13 => TW_on (sub_pick [0] (by decide) rfl) ?_)
            refine TW_one rfl ?_
            refine TL_slv (i := 4) rfl fun hc1 ho1 => ?_
            refine TL_storeB (i := 5) rfl rfl rfl rfl (gaV_one ho1) rfl ?_
            refine TW_on (sub_pick [0] (by decide) rfl) ?_
            repeat (first
              | refine TW_val rfl (rr_move rfl) rfl rfl rfl ?_
              | refine TW_val rfl (rr_assign rfl) rfl rfl rfl ?_
              | refine TW_val rfl (rr_extract rfl rfl) rfl rfl rfl ?_
              | refine TW_val rfl (rr_pickT rfl rfl) rfl rfl rfl ?_
              | refine TW_val rfl (rr_pickF rfl rfl) rfl rfl rfl ?_
              | refine TW_val rfl (rr_len Und.eq rfl) rfl rfl rfl ?_
              | refine TW_val rfl (rr_max rfl rfl (by omega)) rfl rfl rfl ?_
              | refine TW_val rfl (rr_lss rfl rfl (decide_eq_true (by omega))) rfl rfl rfl ?_
              | refine TW_val rfl (rr_lss rfl rfl (decide_eq_false (by omega))) rfl rfl rfl ?_
              | refine TW_val rfl (rr_gtr rfl rfl (decide_eq_true (by omega))) rfl rfl rfl ?_
              | refine TW_val rfl (rr_gtr rfl rfl (decide_eq_false (by omega))) rfl rfl rfl ?_
              | refine TW_val rfl (rr_eql rfl rfl (decide_eq_true (by omega))) rfl rfl rfl ?_
              | refine TW_val rfl (rr_eql rfl rfl (decide_eq_false (by omega))) rfl rfl rfl ?_
              | refine TW_val rfl (rr_neq rfl rfl (decide_eq_true (by omega))) rfl rfl rfl ?_
              | refine TW_val rfl (rr_neq rfl rfl (decide_eq_false (by omega))) rfl rfl rfl ?_
              | refine TW_val rfl (rr_add64 rfl rfl (by omega) (by omega) rfl) rfl rfl rfl ?_
              | refine TW_skip rfl rfl rfl rfl rfl rfl rfl ?_
              | refine TW_gval rfl (rr_move rfl) rfl rfl rfl rfl rfl ?_
              | refine TW_gval rfl (rr_len Und.eq rfl) rfl rfl rfl rfl rfl ?_
              | refine TW_gval rfl (rr_field FldC.fld rfl rfl) rfl rfl rfl rfl rfl ?_
              | refine TW_gval rfl (rr_not rfl rfl) rfl rfl rfl rfl rfl ?_
              | refine TW_gval rfl (rr_neq rfl rfl (decide_eq_true (by omega))) rfl rfl rfl rfl rfl ?_
              | refine TW_gval rfl (rr_neq rfl rfl (decide_eq_false (by omega))) rfl rfl rfl rfl rfl ?_
              | refine TW_done ?_)
            exact E_mid (v2, g13) ho1 (by repeat' (first | exact True.intro | refine And.intro rfl ?_)) rfl
          · refine TL_new rfl fun g13 => ?_
            refine TW_on (sub_pick [0] (by decide) rfl) ?_
            refine TW_one rfl ?_
            refine TL_call (he2 EntersC.en rfl rfl rfl) (fun w hm => hput _ (sl_row (i := 1) rfl w hm) hm.below) rfl rfl rfl ?_
            intro v2 _
            refine TW_on (sub_pick [0] (by decide) rfl) ?_
            repeat (first
              | refine TW_val rfl (rr_move rfl) rfl rfl rfl ?_
              | refine TW_val rfl (rr_assign rfl) rfl rfl rfl ?_
              | refine TW_val rfl (rr_extract rfl rfl) rfl rfl rfl ?_
              | refine TW_val rfl (rr_pickT rfl rfl) rfl rfl rfl ?_
              | refine TW_val rfl (rr_pickF rfl rfl) rfl rfl rfl ?_
              | refine TW_val rfl (rr_len Und.eq rfl) rfl rfl rfl ?_
              | refine TW_val rfl (rr_max rfl rfl (by omega)) rfl rfl rfl ?_
              | refine TW_val rfl (rr_lss rfl rfl (decide_eq_true (by omega))) rfl rfl rfl ?_
              | refine TW_val rfl (rr_lss rfl rfl (decide_eq_false (by omega))) rfl rfl rfl ?_
              | refine TW_val rfl (rr_gtr rfl rfl (decide_eq_true (by omega))) rfl rfl rfl ?_
              | refine TW_val rfl (rr_gtr rfl rfl (decide_eq_false (by omega))) rfl rfl rfl ?_
              | refine TW_val rfl (rr_eql rfl rfl (decide_eq_true (by omega))) rfl rfl rfl ?_
              | refine TW_val rfl (rr_eql rfl rfl (decide_eq_false (by omega))) rfl rfl rfl ?_
              | refine TW_val rfl (rr_neq rfl rfl (decide_eq_true (by omega))) rfl rfl rfl ?_
              | refine TW_val rfl (rr_neq rfl rfl (decide_eq_false (by omega))) rfl rfl rfl ?_
              | refine TW_val rfl (rr_add64 rfl rfl (by omega) (by omega) rfl) rfl rfl rfl ?_
              | refine TW_skip rfl rfl rfl rfl rfl rfl rfl ?_
              | refine TW_gval rfl (rr_move rfl) rfl rfl rfl rfl rfl ?_
              | refine TW_gval rfl (rr_len Und.eq rfl) rfl rfl rfl rfl rfl ?_
              | refine TW_gval rfl (rr_field FldC.fld rfl rfl) rfl rfl rfl rfl rfl ?_
              | refine TW_gval rfl (rr_not rfl rfl) rfl rfl rfl rfl rfl ?_
              | refine TW_gval rfl (rr_neq rfl rfl (decide_eq_true (by omega))) rfl rfl rfl rfl rfl ?_
              | refine TW_gval rfl (rr_neq rfl rfl (decide_eq_false (by omega))) rfl rfl rfl rfl rfl ?_
              | refine TW_done ?_)
            refine TW_one rfl ?_
            refine TL_slv (i := 5) rfl fun hc1 ho1 => ?_
            refine TL_storeB (i := 4) rfl rfl rfl rfl (gaV_one ho1) rfl ?_
            refine TW_on (sub_pick [0] (by decide) rfl) ?_
            repeat (first
              | refine TW_val rfl (rr_move rfl) rfl rfl rfl ?_
              | refine TW_val rfl (rr_assign rfl) rfl rfl rfl ?_
              | refine TW_val rfl (rr_extract rfl rfl) rfl rfl rfl ?_
              | refine TW_val rfl (rr_pickT rfl rfl) rfl rfl rfl ?_
              | refine TW_val rfl (rr_pickF rfl rfl) rfl rfl rfl ?_
              | refine TW_val rfl (rr_len Und.eq rfl) rfl rfl rfl ?_
              | refine TW_val rfl (rr_max rfl rfl (by omega)) rfl rfl rfl ?_
              | refine TW_val rfl (rr_lss rfl rfl (decide_eq_true (by omega))) rfl rfl rfl ?_
              | refine TW_val rfl (rr_lss rfl rfl (decide_eq_false (by omega))) rfl rfl rfl ?_
              | refine TW_val rfl (rr_gtr rfl rfl (decide_eq_true (by omega))) rfl rfl rfl ?_
              | refine TW_val rfl (rr_gtr rfl rfl (decide_eq_false (by omega))) rfl rfl rfl ?_
              | refine TW_val rfl (rr_eql rfl rfl (decide_eq_true (by omega))) rfl rfl rfl ?_
              | refine TW_val rfl (rr_eql rfl rfl (decide_eq_false (by omega))) rfl rfl rfl ?_
              | refine TW_val rfl (rr_neq rfl rfl (decide_eq_true (by omega))) rfl rfl rfl ?_
              | refine TW_val rfl (rr_neq rfl rfl (decide_eq_false (by omega))) rfl rfl rfl ?_
              | refine TW_val rfl (rr_add64 rfl rfl (by omega) (by omega) rfl) rfl rfl rfl ?_
              | refine TW_skip rfl rfl rfl rfl rfl rfl rfl ?_
              | refine TW_gval rfl (rr_move rfl) rfl rfl rfl rfl rfl ?_
              | refine TW_gval rfl (rr_len Und.eq rfl) rfl rfl rfl rfl rfl ?_
              | refine TW_gval rfl (rr_field FldC.fld rfl rfl) rfl rfl rfl rfl rfl ?_
              | refine TW_gval rfl (rr_not rfl rfl) rfl rfl rfl rfl rfl ?_
              | refine TW_gval rfl (rr_neq rfl rfl (decide_eq_true (by omega))) rfl rfl rfl rfl rfl ?_
              | refine TW_gval rfl (rr_neq rfl rfl (decide_eq_false (by omega))) rfl rfl rfl rfl rfl ?_
              | refine TW_done ?_)
            refine E_pick [0, 1, 2, 3, 5, 4] (by decide) rfl ?_
            exact E_mid (v2, g13) ho1 (by repeat' (first | exact True.intro | refine And.intro rfl ?_)) rfl
        · rintro ⟨v2, g13⟩ ho1
          dsimp only at ho1 ⊢
          by_cases c2 : e = 0
          · obtain ⟨bb, off, rfl, hr⟩ := hrl (by omega)
            have hat := at_el (L := [blkO g13 (gaV v2 s.credit s.G.length).cells 59]) EvS_len hr c1
            subst c2
            have hw2 := hpw rfl
            subst hw2
            clear hput hok hpw
            repeat (first
              | refine TL_val (rr_move rfl) rfl rfl rfl ?_
              | refine TL_val (rr_assign rfl) rfl rfl rfl ?_
              | refine TL_nil ?_
              | refine T_seq ?_
              | refine T_region ?_
              | refine T_condT rfl ?_
              | refine T_condF rfl ?_
              | refine T_skip ?_
              | refine T_exit ?_
              | refine T_ret ?_
              | refine T_block ?_
              | refine E_then ?_
              | refine E_thenX ?_
              | refine E_thenR ?_
              | refine E_blockN ?_
              | refine E_blockR ?_
              | refine E_blockX ?_
              | refine E_blockO rfl ?_
              | refine TL_val (rr_extract rfl rfl) rfl rfl rfl ?_
              | refine TL_val (rr_pickT rfl rfl) rfl rfl rfl ?_
              | refine TL_val (rr_pickF rfl rfl) rfl rfl rfl ?_
              | refine TL_val (rr_len Und.eq rfl) rfl rfl rfl ?_
              | refine TL_val (rr_max rfl rfl (by omega)) rfl rfl rfl ?_
              | refine TL_val (rr_lss rfl rfl (decide_eq_true (by omega))) rfl rfl rfl ?_
              | refine TL_val (rr_lss rfl rfl (decide_eq_false (by omega))) rfl rfl rfl ?_
              | refine TL_val (rr_gtr rfl rfl (decide_eq_true (by omega))) rfl rfl rfl ?_
              | refine TL_val (rr_gtr rfl rfl (decide_eq_false (by omega))) rfl rfl rfl ?_
              | refine TL_val (rr_eql rfl rfl (decide_eq_true (by omega))) rfl rfl rfl ?_
              | refine TL_val (rr_eql rfl rfl (decide_eq_false (by omega))) rfl rfl rfl ?_
              | refine TL_val (rr_neq rfl rfl (decide_eq_true (by omega))) rfl rfl rfl ?_
              | refine TL_val (rr_neq rfl rfl (decide_eq_false (by omega))) rfl rfl rfl ?_
              | refine TL_val (rr_add64 rfl rfl (by omega) (by omega) rfl) rfl rfl rfl ?_
              | refine TL_skip rfl rfl rfl rfl rfl rfl ?_
              | refine TL_gval (rr_move rfl) rfl rfl rfl rfl rfl ?_
              | refine TL_gval (rr_len Und.eq rfl) rfl rfl rfl rfl rfl ?_
              | refine TL_gval (rr_field FldC.fld rfl rfl) rfl rfl rfl rfl rfl ?_
              | refine TL_gval (rr_not rfl rfl) rfl rfl rfl rfl rfl ?_
              | refine TL_gval (rr_neq rfl rfl (decide_eq_true (by omega))) rfl rfl rfl rfl rfl ?_
              | refine TL_gval (rr_neq rfl rfl (decide_eq_false (by omega))) rfl rfl rfl rfl rfl ?_)
            refine T_ord ([blkO g13 (gaV v2 s.credit s.G.length).cells 59]) (.calm 0 (.calm 1 (.calm 2 (.calm 3 (.calm 4 (.calm 5 (.one 6 (.one 7 (.one 8 (.calm 9 (.done))))))))))) (sub_pick [5] (by decide) rfl) (by kernel_rfl) (by kernel_rfl) (by intro c a d v w h; cases d <;> exact h) ?_
            repeat (first
              | refine TW_val rfl (rr_move rfl) rfl rfl rfl ?_
              | refine TW_val rfl (rr_assign rfl) rfl rfl rfl ?_
              | refine TW_val rfl (rr_loadB (i := 0) TyC.ty rfl rfl rfl) rfl rfl rfl ?_
              | refine TW_val rfl (rr_idxc Und.eq TyC.ty rfl rfl c1) rfl rfl rfl ?_
              | refine TW_val rfl (rr_loadN TyC.ty rfl rfl hat) rfl rfl rfl ?_
              | refine TW_val rfl (rr_extract rfl rfl) rfl rfl rfl ?_
              | refine TW_val rfl (rr_pickT rfl rfl) rfl rfl rfl ?_
              | refine TW_val rfl (rr_pickF rfl rfl) rfl rfl rfl ?_
              | refine TW_val rfl (rr_len Und.eq rfl) rfl rfl rfl ?_
              | refine TW_val rfl (rr_max rfl rfl (by omega)) rfl rfl rfl ?_
              | refine TW_val rfl (rr_lss rfl rfl (decide_eq_true (by omega))) rfl rfl rfl ?_
              | refine TW_val rfl (rr_lss rfl rfl (decide_eq_false (by omega))) rfl rfl rfl ?_
              | refine TW_val rfl (rr_gtr rfl rfl (decide_eq_true (by omega))) rfl rfl rfl ?_
              | refine TW_val rfl (rr_gtr rfl rfl (decide_eq_false (by omega))) rfl rfl rfl ?_
              | refine TW_val rfl (rr_eql rfl rfl (decide_eq_true (by omega))) rfl rfl rfl ?_
              | refine TW_val rfl (rr_eql rfl rfl (decide_eq_false (by omega))) rfl rfl rfl ?_
              | refine TW_val rfl (rr_neq rfl rfl (decide_eq_true (by omega))) rfl rfl rfl ?_
              | refine TW_val rfl (rr_neq rfl rfl (decide_eq_false (by omega))) rfl rfl rfl ?_
              | refine TW_val rfl (rr_add64 rfl rfl (by omega) (by omega) rfl) rfl rfl rfl ?_
              | refine TW_skip rfl rfl rfl rfl rfl rfl rfl ?_
              | refine TW_gval rfl (rr_loadB (i := 0) TyC.ty rfl rfl rfl) rfl rfl rfl rfl rfl ?_
              | refine TW_gval rfl (rr_loadN TyC.ty rfl rfl hat) rfl rfl rfl rfl rfl ?_
              | refine TW_gval rfl (rr_move rfl) rfl rfl rfl rfl rfl ?_
              | refine TW_gval rfl (rr_len Und.eq rfl) rfl rfl rfl rfl rfl ?_
              | refine TW_gval rfl (rr_field FldC.fld rfl rfl) rfl rfl rfl rfl rfl ?_
              | refine TW_gval rfl (rr_not rfl rfl) rfl rfl rfl rfl rfl ?_
              | refine TW_gval rfl (rr_neq rfl rfl (decide_eq_true (by omega))) rfl rfl rfl rfl rfl ?_
              | refine TW_gval rfl (rr_neq rfl rfl (decide_eq_false (by omega))) rfl rfl rfl rfl rfl ?_
              | refine TW_done ?_)
            refine TW_one rfl (TL_one rfl rfl rfl rfl rfl fun gq => TW_on (sub_pick [5] (by decide) rfl) ?_)
            refine TW_one rfl (TL_app1 (i := 2) (q := 6) rfl rfl rfl rfl rfl rfl (by omega) (by omega) rfl fun v10' => TW_on (sub_pick [5] (by decide) rfl) ?_)
            refine TW_one rfl (TL_storeB (i := 0) rfl rfl rfl rfl (gaV_one ho1) rfl (TW_on (sub_pick [5] (by decide) rfl) ?_))
            repeat (first
              | refine TW_val rfl (rr_move rfl) rfl rfl rfl ?_
              | refine TW_val rfl (rr_assign rfl) rfl rfl rfl ?_
              | refine TW_val rfl (rr_extract rfl rfl) rfl rfl rfl ?_
              | refine TW_val rfl (rr_pickT rfl rfl) rfl rfl rfl ?_
              | refine TW_val rfl (rr_pickF rfl rfl) rfl rfl rfl ?_
              | refine TW_val rfl (rr_len Und.eq rfl) rfl rfl rfl ?_
              | refine TW_val rfl (rr_max rfl rfl (by omega)) rfl rfl rfl ?_
              | refine TW_val rfl (rr_lss rfl rfl (decide_eq_true (by omega))) rfl rfl rfl ?_
              | refine TW_val rfl (rr_lss rfl rfl (decide_eq_false (by omega))) rfl rfl rfl ?_
              | refine TW_val rfl (rr_gtr rfl rfl (decide_eq_true (by omega))) rfl rfl rfl ?_
              | refine TW_val rfl (rr_gtr rfl rfl (decide_eq_false (by omega))) rfl rfl rfl ?_
              | refine TW_val rfl (rr_eql rfl rfl (decide_eq_true (by omega))) rfl rfl rfl ?_
              | refine TW_val rfl (rr_eql rfl rfl (decide_eq_false (by omega))) rfl rfl rfl ?_
              | refine TW_val rfl (rr_neq rfl rfl (decide_eq_true (by omega))) rfl rfl rfl ?_
              | refine TW_val rfl (rr_neq rfl rfl (decide_eq_false (by omega))) rfl rfl rfl ?_
              | refine TW_val rfl (rr_add64 rfl rfl (by omega) (by omega) rfl) rfl rfl rfl ?_
              | refine TW_skip rfl rfl rfl rfl rfl rfl rfl ?_
              | refine TW_gval rfl (rr_move rfl) rfl rfl rfl rfl rfl ?_
              | refine TW_gval rfl (rr_len Und.eq rfl) rfl rfl rfl rfl rfl ?_
              | refine TW_gval rfl (rr_field FldC.fld rfl rfl) rfl rfl rfl rfl rfl ?_
              | refine TW_gval rfl (rr_not rfl rfl) rfl rfl rfl rfl rfl ?_
              | refine TW_gval rfl (rr_neq rfl rfl (decide_eq_true (by omega))) rfl rfl rfl rfl rfl ?_
              | refine TW_gval rfl (rr_neq rfl rfl (decide_eq_false (by omega))) rfl rfl rfl rfl rfl ?_
              | refine TW_done ?_)
            refine E_pick [0, 4, 2, 3] (by decide) rfl ?_
            exact E_mid { s with P := s.P ++ [l[i]], wait := s.wait ++ [l[i]], v10 := v10', vw := v2 } ⟨by rw [← List.append_assoc, k1], k2, k3, k4, by simp; omega, k6, ho1⟩ (by repeat' (first | exact True.intro | refine And.intro rfl ?_)) (by simp [Sm, evC]; rfl)
          · clear hput hok hpw
            repeat (first
              | refine TL_val (rr_move rfl) rfl rfl rfl ?_
              | refine TL_val (rr_assign rfl) rfl rfl rfl ?_
              | refine TL_nil ?_
              | refine T_seq ?_
              | refine T_region ?_
              | refine T_condT rfl ?_
              | refine T_condF rfl ?_
              | refine T_skip ?_
              | refine T_exit ?_
              | refine T_ret ?_
              | refine T_block ?_
              | refine E_then ?_
              | refine E_thenX ?_
              | refine E_thenR ?_
              | refine E_blockN ?_
              | refine E_blockR ?_
              | refine E_blockX ?_
              | refine E_blockO rfl ?_
              | refine TL_val (rr_extract rfl rfl) rfl rfl rfl ?_
              | refine TL_val (rr_pickT rfl rfl) rfl rfl rfl ?_
              | refine TL_val (rr_pickF rfl rfl) rfl rfl rfl ?_
              | refine TL_val (rr_len Und.eq rfl) rfl rfl rfl ?_
              | refine TL_val (rr_max rfl rfl (by omega)) rfl rfl rfl ?_
              | refine TL_val (rr_lss rfl rfl (decide_eq_true (by omega))) rfl rfl rfl ?_
              | refine TL_val (rr_lss rfl rfl (decide_eq_false (by omega))) rfl rfl rfl ?_
              | refine TL_val (rr_gtr rfl rfl (decide_eq_true (by omega))) rfl rfl rfl ?_
              | refine TL_val (rr_gtr rfl rfl (decide_eq_false (by omega))) rfl rfl rfl ?_
              | refine TL_val (rr_eql rfl rfl (decide_eq_true (by omega))) rfl rfl rfl ?_
              | refine TL_val (rr_eql rfl rfl (decide_eq_false (by omega))) rfl rfl rfl ?_
              | refine TL_val (rr_neq rfl rfl (decide_eq_true (by omega))) rfl rfl rfl ?_
              | refine TL_val (rr_neq rfl rfl (decide_eq_false (by omega))) rfl rfl rfl ?_
              | refine TL_val (rr_add64 rfl rfl (by omega) (by omega) rfl) rfl rfl rfl ?_
              | refine TL_skip rfl rfl rfl rfl rfl rfl ?_
              | refine TL_gval (rr_move rfl) rfl rfl rfl rfl rfl ?_
              | refine TL_gval (rr_len Und.eq rfl) rfl rfl rfl rfl rfl ?_
              | refine TL_gval (rr_field FldC.fld rfl rfl) rfl rfl rfl rfl rfl ?_
              | refine TL_gval (rr_not rfl rfl) rfl rfl rfl rfl rfl ?_
              | refine TL_gval (rr_neq rfl rfl (decide_eq_true (by omega))) rfl rfl rfl rfl rfl ?_
              | refine TL_gval (rr_neq rfl rfl (decide_eq_false (by omega))) rfl rfl rfl rfl rfl ?_)
            refine E_pick [0, 1, 2, 3] (by decide) rfl ?_
            exact E_mid s ⟨k1, k2, k3, k4, by omega, k6, k7⟩ (by repeat' (first | exact True.intro | refine And.intro rfl ?_)) rfl
      · repeat (first
          | refine TL_val (rr_move rfl) rfl rfl rfl ?_
          | refine TL_val (rr_assign rfl) rfl rfl rfl ?_
          | refine TL_nil ?_
          | refine T_seq ?_
          | refine T_region ?_
          | refine T_condT rfl ?_
          | refine T_condF rfl ?_
          | refine T_skip ?_
          | refine T_exit ?_
          | refine T_ret ?_
          | refine T_block ?_
          | refine E_then ?_
          | refine E_thenX ?_
          | refine E_thenR ?_
          | refine E_blockN ?_
          | refine E_blockR ?_
          | refine E_blockX ?_
          | refine E_blockO rfl ?_
          | refine TL_val (rr_extract rfl rfl) rfl rfl rfl ?_
          | refine TL_val (rr_pickT rfl rfl) rfl rfl rfl ?_
          | refine TL_val (rr_pickF rfl rfl) rfl rfl rfl ?_
          | refine TL_val (rr_len Und.eq rfl) rfl rfl rfl ?_
          | refine TL_val (rr_max rfl rfl (by omega)) rfl rfl rfl ?_
          | refine TL_val (rr_lss rfl rfl (decide_eq_true (by omega))) rfl rfl rfl ?_
          | refine TL_val (rr_lss rfl rfl (decide_eq_false (by omega))) rfl rfl rfl ?_
          | refine TL_val (rr_gtr rfl rfl (decide_eq_true (by omega))) rfl rfl rfl ?_
          | refine TL_val (rr_gtr rfl rfl (decide_eq_false (by omega))) rfl rfl rfl ?_
          | refine TL_val (rr_eql rfl rfl (decide_eq_true (by omega))) rfl rfl rfl ?_
          | refine TL_val (rr_eql rfl rfl (decide_eq_false (by omega))) rfl rfl rfl ?_
          | refine TL_val (rr_neq rfl rfl (decide_eq_true (by omega))) rfl rfl rfl ?_
          | refine TL_val (rr_neq rfl rfl (decide_eq_false (by omega))) rfl rfl rfl ?_
          | refine TL_val (rr_add64 rfl rfl (by omega) (by omega) rfl) rfl rfl rfl ?_
          | refine TL_skip rfl rfl rfl rfl rfl rfl ?_
          | refine TL_gval (rr_move rfl) rfl rfl rfl rfl rfl ?_
          | refine TL_gval (rr_len Und.eq rfl) rfl rfl rfl rfl rfl ?_
          | refine TL_gval (rr_field FldC.fld rfl rfl) rfl rfl rfl rfl rfl ?_
          | refine TL_gval (rr_not rfl rfl) rfl rfl rfl rfl rfl ?_
          | refine TL_gval (rr_neq rfl rfl (decide_eq_true (by omega))) rfl rfl rfl rfl rfl ?_
          | refine TL_gval (rr_neq rfl rfl (decide_eq_false (by omega))) rfl rfl rfl rfl rfl ?_)
        obtain ⟨k1, k2, k3, k4, k5, k6, k7⟩ := hI
        exact E_mid s ⟨k1, k2, k3, k4, by omega, k6, k7⟩ (by repeat' (first | exact True.intro | refine And.intro rfl ?_)) rfl
    · clear hI
      intro s1 hI
      (repeat refine T_seq ?_)
      refine T_region ?_
      repeat (first
        | refine TL_val (rr_move rfl) rfl rfl rfl ?_
        | refine TL_val (rr_assign rfl) rfl rfl rfl ?_
        | refine TL_nil ?_
        | refine E_then ?_
        | refine TL_val (rr_lss rfl rfl rfl) rfl rfl rfl ?_
        | refine TL_val (rr_extract rfl rfl) rfl rfl rfl ?_
        | refine TL_val (rr_pickT rfl rfl) rfl rfl rfl ?_
        | refine TL_val (rr_pickF rfl rfl) rfl rfl rfl ?_
        | refine TL_val (rr_len Und.eq rfl) rfl rfl rfl ?_
        | refine TL_val (rr_max rfl rfl (by omega)) rfl rfl rfl ?_
        | refine TL_val (rr_lss rfl rfl (decide_eq_true (by omega))) rfl rfl rfl ?_
        | refine TL_val (rr_lss rfl rfl (decide_eq_false (by omega))) rfl rfl rfl ?_
        | refine TL_val (rr_gtr rfl rfl (decide_eq_true (by omega))) rfl rfl rfl ?_
        | refine TL_val (rr_gtr rfl rfl (decide_eq_false (by omega))) rfl rfl rfl ?_
        | refine TL_val (rr_eql rfl rfl (decide_eq_true (by omega))) rfl rfl rfl ?_
        | refine TL_val (rr_eql rfl rfl (decide_eq_false (by omega))) rfl rfl rfl ?_
        | refine TL_val (rr_neq rfl rfl (decide_eq_true (by omega))) rfl rfl rfl ?_
        | refine TL_val (rr_neq rfl rfl (decide_eq_false (by omega))) rfl rfl rfl ?_
        | refine TL_val (rr_add64 rfl rfl (by omega) (by omega) rfl) rfl rfl rfl ?_
        | refine TL_skip rfl rfl rfl rfl rfl rfl ?_
        | refine TL_gval (rr_move rfl) rfl rfl rfl rfl rfl ?_
        | refine TL_gval (rr_len Und.eq rfl) rfl rfl rfl rfl rfl ?_
        | refine TL_gval (rr_field FldC.fld rfl rfl) rfl rfl rfl rfl rfl ?_
        | refine TL_gval (rr_not rfl rfl) rfl rfl rfl rfl rfl ?_
        | refine TL_gval (rr_neq rfl rfl (decide_eq_true (by omega))) rfl rfl rfl rfl rfl ?_
        | refine TL_gval (rr_neq rfl rfl (decide_eq_false (by omega))) rfl rfl rfl rfl rfl ?_)
      refine T_midq (ι := St) (fun s => Inv (i + 1) (i + 1) s) (fun s => Sf (.slice bl l.length cl) (.slice bg gs.length cg) (.slice bt ts.length ct) g7 i s) (fun s => Sm g7 s) ?_ ?_
      · refine T_condD rfl (fun c1 => ?_) (fun c1 => ?_)
        · have c1 : i < gs.length := by omega
          obtain ⟨k1, k2, k3, k4, k5, k6, k7⟩ := hI
          have hlen := congrArg List.length k1
          rw [List.length_append] at hlen
          obtain ⟨bb, off, rfl, hr⟩ := hrg (by omega)
          have hat := at_rdm (L := [blkO g7 (gaV s1.vw s1.credit s1.G.length).cells 59]) hr c1
          obtain ⟨c2, e, hok, hgr⟩ := ggrant2 s1.vw s1.wait s1.credit s1.G.length gs[i] (by omega)
          have hx : ∃ x, gs[i] = x := ⟨_, rfl⟩
          obtain ⟨x, hx⟩ := hx
          rw [hx] at hat hgr hok
          (repeat refine T_seq ?_)
          refine T_midq (ι := Value × Nat) (fun (v2, _) => v2.oneCell' = true) (fun (_, g15) => Sf (.slice bl l.length cl) (.slice (some ⟨bb, off, none⟩) gs.length cg) (.slice bt ts.length ct) g7 i s1 ++ [(15, .pointer (some ⟨g15, 0, none⟩)), (16, .int .i64 e)]) (fun (v2, g15) => Sm g7 s1 ++ [rowO 56 2 v2 s1.wait.length (s1.wait.flatMap evC), blkO g15 (gaV v2 c2 s1.G.length).cells 59]) ?_ ?_
          · refine T_ord ([blkO g7 (gaV s1.vw s1.credit s1.G.length).cells 59]) (.calm 0 (.calm 1 (.calm 2 (.calm 3 (.calm 4 (.two 5 (.calm 6 (.calm 7 (.calm 8 (.one 9 (.one 10 (.calm 11 (.done))))))) 9 (.one 5 (.calm 6 (.calm 7 (.calm 8 (.one 10 (.calm 11 (.done))))))))))))) (sub_pick [0] (by decide) rfl) (by kernel_rfl) (by kernel_rfl) (by intro c a d v w h; cases d <;> exact h) ?_
            repeat (first
              | refine TW_val rfl (rr_move rfl) rfl rfl rfl ?_
              | refine TW_val rfl (rr_assign rfl) rfl rfl rfl ?_
              | refine TW_val rfl (rr_loadB (i := 0) TyC.ty rfl rfl rfl) rfl rfl rfl ?_
              | refine TW_val rfl (rr_idx1 Und.eq TyC.ty rfl rfl c1) rfl rfl rfl ?_
              | refine TW_val rfl (rr_load1 TyC.ty rfl hat) rfl rfl rfl ?_
              | refine TW_val rfl (rr_extract rfl rfl) rfl rfl rfl ?_
              | refine TW_val rfl (rr_pickT rfl rfl) rfl rfl rfl ?_
              | refine TW_val rfl (rr_pickF rfl rfl) rfl rfl rfl ?_
              | refine TW_val rfl (rr_len Und.eq rfl) rfl rfl rfl ?_
              | refine TW_val rfl (rr_max rfl rfl (by omega)) rfl rfl rfl ?_
              | refine TW_val rfl (rr_lss rfl rfl (decide_eq_true (by omega))) rfl rfl rfl ?_
              | refine TW_val rfl (rr_lss rfl rfl (decide_eq_false (by omega))) rfl rfl rfl ?_
              | refine TW_val rfl (rr_gtr rfl rfl (decide_eq_true (by omega))) rfl rfl rfl ?_
              | refine TW_val rfl (rr_gtr rfl rfl (decide_eq_false (by omega))) rfl rfl rfl ?_
              | refine TW_val rfl (rr_eql rfl rfl (decide_eq_true (by omega))) rfl rfl rfl ?_
              | refine TW_val rfl (rr_eql rfl rfl (decide_eq_false (by omega))) rfl rfl rfl ?_
              | refine TW_val rfl (rr_neq rfl rfl (decide_eq_true (by omega))) rfl rfl rfl ?_
              | refine TW_val rfl (rr_neq rfl rfl (decide_eq_false (by omega))) rfl rfl rfl ?_
              | refine TW_val rfl (rr_add64 rfl rfl (by omega) (by omega) rfl) rfl rfl rfl ?_
              | refine TW_skip rfl rfl rfl rfl rfl rfl rfl ?_
              | refine TW_gval rfl (rr_loadB (i := 0) TyC.ty rfl rfl rfl) rfl rfl rfl rfl rfl ?_
              | refine TW_gval rfl (rr_load1 TyC.ty rfl hat) rfl rfl rfl rfl rfl ?_
              | refine TW_gval rfl (rr_move rfl) rfl rfl rfl rfl rfl ?_
              | refine TW_gval rfl (rr_len Und.eq rfl) rfl rfl rfl rfl rfl ?_
              | refine TW_gval rfl (rr_field FldC.fld rfl rfl) rfl rfl rfl rfl rfl ?_
              | refine TW_gval rfl (rr_not rfl rfl) rfl rfl rfl rfl rfl ?_
              | refine TW_gval rfl (rr_neq rfl rfl (decide_eq_true (by omega))) rfl rfl rfl rfl rfl ?_
              | refine TW_gval rfl (rr_neq rfl rfl (decide_eq_false (by omega))) rfl rfl rfl rfl rfl ?_
              | refine TW_done ?_)
            refine TW_two rfl rfl ?_ ?_
            · refine TL_call (he2 EntersC.en rfl rfl rfl) (fun w hm => hgr _ (sl_row (i := 1) rfl w hm)) rfl rfl rfl ?_
              intro v2 _
              refine TW_on (sub_pick [0] (by decide) rfl) ?_
              repeat (first
                | refine TW_val rfl (rr_move rfl) rfl rfl rfl ?_
                | refine TW_val rfl (rr_assign rfl) rfl rfl rfl ?_
                | refine TW_val rfl (rr_extract rfl rfl) rfl rfl rfl ?_
                | refine TW_val rfl (rr_pickT rfl rfl) rfl rfl rfl ?_
                | refine TW_val rfl (rr_pickF rfl rfl) rfl rfl rfl ?_
                | refine TW_val rfl (rr_len Und.eq rfl) rfl rfl rfl ?_
                | refine TW_val rfl (rr_max rfl rfl (by omega)) rfl rfl rfl ?_
                | refine TW_val rfl (rr_lss rfl rfl (decide_eq_true (by omega))) rfl rfl rfl ?_
                | refine TW_val rfl (rr_lss rfl rfl (decide_eq_false (by omega))) rfl rfl rfl ?_
                | refine TW_val rfl (rr_gtr rfl rfl (decide_eq_true (by omega))) rfl rfl rfl ?_
                | refine TW_val rfl (rr_gtr rfl rfl (decide_eq_false (by omega))) rfl rfl rfl ?_
                | refine TW_val rfl (rr_eql rfl rfl (decide_eq_true (by omega))) rfl rfl rfl ?_
                | refine TW_val rfl (rr_eql rfl rfl (decide_eq_false (by omega))) rfl rfl rfl ?_
                | refine TW_val rfl (rr_neq rfl rfl (decide_eq_true (by omega))) rfl rfl rfl ?_
                | refine TW_val rfl (rr_neq rfl rfl (decide_eq_false (by omega))) rfl rfl rfl ?_
                | refine TW_val rfl (rr_add64 rfl rfl (by omega) (by omega) rfl) rfl rfl rfl ?_
                | refine TW_skip rfl rfl rfl rfl rfl rfl rfl ?_
                | refine TW_gval rfl (rr_move rfl) rfl rfl rfl rfl rfl ?_
                | refine TW_gval rfl (rr_len Und.eq rfl) rfl rfl rfl rfl rfl ?_
                | refine TW_gval rfl (rr_field FldC.fld rfl rfl) rfl rfl rfl rfl rfl ?_
                | refine TW_gval rfl (rr_not rfl rfl) rfl rfl rfl rfl rfl ?_
                | refine TW_gval rfl (rr_neq rfl rfl (decide_eq_true (by omega))) rfl rfl rfl rfl rfl ?_
                | refine TW_gval rfl (rr_neq rfl rfl (decide_eq_false (by omega))) rfl rfl rfl rfl rfl ?_
                | refine TW_done ?_)
              refine TW_one rfl (TL_new rfl fun g13 => TW_on (sub_pick [0] (by decide) rfl) ?_)
              refine TW_one rfl ?_
              refine TL_slv (i := 4) rfl fun hc1 ho1 => ?_
              refine TL_storeB (i := 5) rfl rfl rfl rfl (gaV_one ho1) rfl ?_
              refine TW_on (sub_pick [0] (by decide) rfl) ?_
              repeat (first
                | refine TW_val rfl (rr_move rfl) rfl rfl rfl ?_
                | refine TW_val rfl (rr_assign rfl) rfl rfl rfl ?_
                | refine TW_val rfl (rr_extract rfl rfl) rfl rfl rfl ?_
                | refine TW_val rfl (rr_pickT rfl rfl) rfl rfl rfl ?_
                | refine TW_val rfl (rr_pickF rfl rfl) rfl rfl rfl ?_
                | refine TW_val rfl (rr_len Und.eq rfl) rfl rfl rfl ?_
                | refine TW_val rfl (rr_max rfl rfl (by omega)) rfl rfl rfl ?_
                | refine TW_val rfl (rr_lss rfl rfl (decide_eq_true (by omega))) rfl rfl rfl ?_
                | refine TW_val rfl (rr_lss rfl rfl (decide_eq_false (by omega))) rfl rfl rfl ?_
                | refine TW_val rfl (rr_gtr rfl rfl (decide_eq_true (by omega))) rfl rfl rfl ?_
                | refine TW_val rfl (rr_gtr rfl rfl (decide_eq_false (by omega))) rfl rfl rfl ?_
                | refine TW_val rfl (rr_eql rfl rfl (decide_eq_true (by omega))) rfl rfl rfl ?_
                | refine TW_val rfl (rr_eql rfl rfl (decide_eq_false (by omega))) rfl rfl rfl ?_
                | refine TW_val rfl (rr_neq rfl rfl (decide_eq_true (by omega))) rfl rfl rfl ?_
                | refine TW_val rfl (rr_neq rfl rfl (decide_eq_false (by omega))) rfl rfl rfl ?_
                | refine TW_val rfl (rr_add64 rfl rfl (by omega) (by omega) rfl) rfl rfl rfl ?_
                | refine TW_skip rfl rfl rfl rfl rfl rfl rfl ?_
                | refine TW_gval rfl (rr_move rfl) rfl rfl rfl rfl rfl ?_
                | refine TW_gval rfl (rr_len Und.eq rfl) rfl rfl rfl rfl rfl ?_
                | refine TW_gval rfl (rr_field FldC.fld rfl rfl) rfl rfl rfl rfl rfl ?_
                | refine TW_gval rfl (rr_not rfl rfl) rfl rfl rfl rfl rfl ?_
                | refine TW_gval rfl (rr_neq rfl rfl (decide_eq_true (by omega))) rfl rfl rfl rfl rfl ?_
                | refine TW_gval rfl (rr_neq rfl rfl (decide_eq_false (by omega))) rfl rfl rfl rfl rfl ?_
                | refine TW_done ?_)
              exact E_mid (v2, g13) ho1 (by repeat' (first | exact True.intro | refine And.intro rfl ?_)) rfl
            · refine TL_new rfl fun g13 => ?_
              refine TW_on (sub_pick [0] (by decide) rfl) ?_
              refine TW_one rfl ?_
              refine TL_call (he2 EntersC.en rfl rfl rfl) (fun w hm => hgr _ (sl_row (i := 1) rfl w hm)) rfl rfl rfl ?_
              intro v2 _
              refine TW_on (sub_pick [0] (by decide) rfl) ?_
              repeat (first
                | refine TW_val rfl (rr_move rfl) rfl rfl rfl ?_
                | refine TW_val rfl (rr_assign rfl) rfl rfl rfl ?_
                | refine TW_val rfl (rr_extract rfl rfl) rfl rfl rfl ?_
                | refine TW_val rfl (rr_pickT rfl rfl) rfl rfl rfl ?_
                | refine TW_val rfl (rr_pickF rfl rfl) rfl rfl rfl ?_
                | refine TW_val rfl (rr_len Und.eq rfl) rfl rfl rfl ?_
                | refine TW_val rfl (rr_max rfl rfl (by omega)) rfl rfl rfl ?_
                | refine TW_val rfl (rr_lss rfl rfl (decide_eq_true (by omega))) rfl rfl rfl ?_
                | refine TW_val rfl (rr_lss rfl rfl (decide_eq_false (by omega))) rfl rfl rfl ?_
                | refine TW_val rfl (rr_gtr rfl rfl (decide_eq_true (by omega))) rfl rfl rfl ?_
                | refine TW_val rfl (rr_gtr rfl rfl (decide_eq_false (by omega))) rfl rfl rfl ?_
                | refine TW_val rfl (rr_eql rfl rfl (decide_eq_true (by omega))) rfl rfl rfl ?_
                | refine TW_val rfl (rr_eql rfl rfl (decide_eq_false (by omega))) rfl rfl rfl ?_
                | refine TW_val rfl (rr_neq rfl rfl (decide_eq_true (by omega))) rfl rfl rfl ?_
                | refine TW_val rfl (rr_neq rfl rfl (decide_eq_false (by omega))) rfl rfl rfl ?_
                | refine TW_val rfl (rr_add64 rfl rfl (by omega) (by omega) rfl) rfl rfl rfl ?_
                | refine TW_skip rfl rfl rfl rfl rfl rfl rfl ?_
                | refine TW_gval rfl (rr_move rfl) rfl rfl rfl rfl rfl ?_
                | refine TW_gval rfl (rr_len Und.eq rfl) rfl rfl rfl rfl rfl ?_
                | refine TW_gval rfl (rr_field FldC.fld rfl rfl) rfl rfl rfl rfl rfl ?_
                | refine TW_gval rfl (rr_not rfl rfl) rfl rfl rfl rfl rfl ?_
                | refine TW_gval rfl (rr_neq rfl rfl (decide_eq_true (by omega))) rfl rfl rfl rfl rfl ?_
                | refine TW_gval rfl (rr_neq rfl rfl (decide_eq_false (by omega))) rfl rfl rfl rfl rfl ?_
                | refine TW_done ?_)
              refine TW_one rfl ?_
              refine TL_slv (i := 5) rfl fun hc1 ho1 => ?_
              refine TL_storeB (i := 4) rfl rfl rfl rfl (gaV_one ho1) rfl ?_
              refine TW_on (sub_pick [0] (by decide) rfl) ?_
              repeat (first
                | refine TW_val rfl (rr_move rfl) rfl rfl rfl ?_
                | refine TW_val rfl (rr_assign rfl) rfl rfl rfl ?_
                | refine TW_val rfl (rr_extract rfl rfl) rfl rfl rfl ?_
                | refine TW_val rfl (rr_pickT rfl rfl) rfl rfl rfl ?_
                | refine TW_val rfl (rr_pickF rfl rfl) rfl rfl rfl ?_
                | refine TW_val rfl (rr_len Und.eq rfl) rfl rfl rfl ?_
                | refine TW_val rfl (rr_max rfl rfl (by omega)) rfl rfl rfl ?_
                | refine TW_val rfl (rr_lss rfl rfl (decide_eq_true (by omega))) rfl rfl rfl ?_
                | refine TW_val rfl (rr_lss rfl rfl (decide_eq_false (by omega))) rfl rfl rfl ?_
                | refine TW_val rfl (rr_gtr rfl rfl (decide_eq_true (by omega))) rfl rfl rfl ?_
                | refine TW_val rfl (rr_gtr rfl rfl (decide_eq_false (by omega))) rfl rfl rfl ?_
                | refine TW_val rfl (rr_eql rfl rfl (decide_eq_true (by omega))) rfl rfl rfl ?_
                | refine TW_val rfl (rr_eql rfl rfl (decide_eq_false (by omega))) rfl rfl rfl ?_
                | refine TW_val rfl (rr_neq rfl rfl (decide_eq_true (by omega))) rfl rfl rfl ?_
                | refine TW_val rfl (rr_neq rfl rfl (decide_eq_false (by omega))) rfl rfl rfl ?_
                | refine TW_val rfl (rr_add64 rfl rfl (by omega) (by omega) rfl) rfl rfl rfl ?_
                | refine TW_skip rfl rfl rfl rfl rfl rfl rfl ?_
                | refine TW_gval rfl (rr_move rfl) rfl rfl rfl rfl rfl ?_
                | refine TW_gval rfl (rr_len Und.eq rfl) rfl rfl rfl rfl rfl ?_
                | refine TW_gval rfl (rr_field FldC.fld rfl rfl) rfl rfl rfl rfl rfl ?_
                | refine TW_gval rfl (rr_not rfl rfl) rfl rfl rfl rfl rfl ?_
                | refine TW_gval rfl (rr_neq rfl rfl (decide_eq_true (by omega))) rfl rfl rfl rfl rfl ?_
                | refine TW_gval rfl (rr_neq rfl rfl (decide_eq_false (by omega))) rfl rfl rfl rfl rfl ?_
                | refine TW_done ?_)
              refine E_pick [0, 1, 2, 3, 5, 4] (by decide) rfl ?_
              exact E_mid (v2, g13) ho1 (by repeat' (first | exact True.intro | refine And.intro rfl ?_)) rfl
          · rintro ⟨v2, g15⟩ ho1
            dsimp only at ho1 ⊢
            clear hat hgr
            by_cases c2' : e = 0
            · obtain ⟨r1, r2, r3, r4, r5⟩ := hok c2'
              subst c2'
              repeat (first
                | refine TL_val (rr_move rfl) rfl rfl rfl ?_
                | refine TL_val (rr_assign rfl) rfl rfl rfl ?_
                | refine TL_nil ?_
                | refine T_seq ?_
                | refine T_region ?_
                | refine T_condT rfl ?_
                | refine T_condF rfl ?_
                | refine T_skip ?_
                | refine T_exit ?_
                | refine T_ret ?_
                | refine T_block ?_
                | refine E_then ?_
                | refine E_thenX ?_
                | refine E_thenR ?_
                | refine E_blockN ?_
                | refine E_blockR ?_
                | refine E_blockX ?_
                | refine E_blockO rfl ?_
                | refine TL_val (rr_loadB (i := 5) TyC.ty rfl rfl rfl) rfl rfl rfl ?_
                | refine TL_val (rr_extract rfl rfl) rfl rfl rfl ?_
                | refine TL_val (rr_pickT rfl rfl) rfl rfl rfl ?_
                | refine TL_val (rr_pickF rfl rfl) rfl rfl rfl ?_
                | refine TL_val (rr_len Und.eq rfl) rfl rfl rfl ?_
                | refine TL_val (rr_max rfl rfl (by omega)) rfl rfl rfl ?_
                | refine TL_val (rr_lss rfl rfl (decide_eq_true (by omega))) rfl rfl rfl ?_
                | refine TL_val (rr_lss rfl rfl (decide_eq_false (by omega))) rfl rfl rfl ?_
                | refine TL_val (rr_gtr rfl rfl (decide_eq_true (by omega))) rfl rfl rfl ?_
                | refine TL_val (rr_gtr rfl rfl (decide_eq_false (by omega))) rfl rfl rfl ?_
                | refine TL_val (rr_eql rfl rfl (decide_eq_true (by omega))) rfl rfl rfl ?_
                | refine TL_val (rr_eql rfl rfl (decide_eq_false (by omega))) rfl rfl rfl ?_
                | refine TL_val (rr_neq rfl rfl (decide_eq_true (by omega))) rfl rfl rfl ?_
                | refine TL_val (rr_neq rfl rfl (decide_eq_false (by omega))) rfl rfl rfl ?_
                | refine TL_val (rr_add64 rfl rfl (by omega) (by omega) rfl) rfl rfl rfl ?_
                | refine TL_skip rfl rfl rfl rfl rfl rfl ?_
                | refine TL_gval (rr_loadB (i := 5) TyC.ty rfl rfl rfl) rfl rfl rfl rfl rfl ?_
                | refine TL_gval (rr_move rfl) rfl rfl rfl rfl rfl ?_
                | refine TL_gval (rr_len Und.eq rfl) rfl rfl rfl rfl rfl ?_
                | refine TL_gval (rr_field FldC.fld rfl rfl) rfl rfl rfl rfl rfl ?_
                | refine TL_gval (rr_not rfl rfl) rfl rfl rfl rfl rfl ?_
                | refine TL_gval (rr_neq rfl rfl (decide_eq_true (by omega))) rfl rfl rfl rfl rfl ?_
                | refine TL_gval (rr_neq rfl rfl (decide_eq_false (by omega))) rfl rfl rfl rfl rfl ?_)
              refine TL_storeB (i := 0) rfl rfl rfl rfl (gaV_one ho1) rfl ?_
              refine TL_pick [0, 4, 2, 3] (by decide) rfl ?_
              have hat3 := at_rdm (L := [blkO g7 (gaV v2 c2 s1.G.length).cells 59, rowO 56 2 v2 s1.wait.length (s1.wait.flatMap evC), rowO 56 2 s1.v10 s1.P.length (s1.P.flatMap evC), rowO 56 2 s1.v9 s1.G.length (s1.G.flatMap evC)]) hr c1
              rw [hx] at hat3
              repeat (first
                | refine TL_val (rr_move rfl) rfl rfl rfl ?_
                | refine TL_val (rr_assign rfl) rfl rfl rfl ?_
                | refine TL_nil ?_
                | refine T_seq ?_
                | refine T_region ?_
                | refine T_condT rfl ?_
                | refine T_condF rfl ?_
                | refine T_skip ?_
                | refine T_exit ?_
                | refine T_ret ?_
                | refine T_block ?_
                | refine E_then ?_
                | refine E_thenX ?_
                | refine E_thenR ?_
                | refine E_blockN ?_
                | refine E_blockR ?_
                | refine E_blockX ?_
                | refine E_blockO rfl ?_
                | refine TL_val (rr_idx1 Und.eq TyC.ty rfl rfl c1) rfl rfl rfl ?_
                | refine TL_val (rr_load1 TyC.ty rfl hat3) rfl rfl rfl ?_
                | refine TL_val (rr_extract rfl rfl) rfl rfl rfl ?_
                | refine TL_val (rr_pickT rfl rfl) rfl rfl rfl ?_
                | refine TL_val (rr_pickF rfl rfl) rfl rfl rfl ?_
                | refine TL_val (rr_len Und.eq rfl) rfl rfl rfl ?_
                | refine TL_val (rr_max rfl rfl (by omega)) rfl rfl rfl ?_
                | refine TL_val (rr_lss rfl rfl (decide_eq_true (by omega))) rfl rfl rfl ?_
                | refine TL_val (rr_lss rfl rfl (decide_eq_false (by omega))) rfl rfl rfl ?_
                | refine TL_val (rr_gtr rfl rfl (decide_eq_true (by omega))) rfl rfl rfl ?_
                | refine TL_val (rr_gtr rfl rfl (decide_eq_false (by omega))) rfl rfl rfl ?_
                | refine TL_val (rr_eql rfl rfl (decide_eq_true (by omega))) rfl rfl rfl ?_
                | refine TL_val (rr_eql rfl rfl (decide_eq_false (by omega))) rfl rfl rfl ?_
                | refine TL_val (rr_neq rfl rfl (decide_eq_true (by omega))) rfl rfl rfl ?_
                | refine TL_val (rr_neq rfl rfl (decide_eq_false (by omega))) rfl rfl rfl ?_
                | refine TL_val (rr_add64 rfl rfl (by omega) (by omega) rfl) rfl rfl rfl ?_
                | refine TL_skip rfl rfl rfl rfl rfl rfl ?_
                | refine TL_gval (rr_load1 TyC.ty rfl hat3) rfl rfl rfl rfl rfl ?_
                | refine TL_gval (rr_move rfl) rfl rfl rfl rfl rfl ?_
                | refine TL_gval (rr_len Und.eq rfl) rfl rfl rfl rfl rfl ?_
                | refine TL_gval (rr_field FldC.fld rfl rfl) rfl rfl rfl rfl rfl ?_
                | refine TL_gval (rr_not rfl rfl) rfl rfl rfl rfl rfl ?_
                | refine TL_gval (rr_neq rfl rfl (decide_eq_true (by omega))) rfl rfl rfl rfl rfl ?_
                | refine TL_gval (rr_neq rfl rfl (decide_eq_false (by omega))) rfl rfl rfl rfl rfl ?_)
              exact E_mid { s1 with credit := c2, vw := v2, granted := s1.granted + x } ⟨k1, r1, r2, by show c2 + (s1.G.length : Int) ≤ s1.granted + x; omega, k5, by show s1.granted + x ≤ 1073741824 * ((i + 1 : Nat) : Int); omega, ho1⟩ (by repeat' (first | exact True.intro | refine And.intro rfl ?_)) rfl
            · clear hok
              repeat (first
                | refine TL_val (rr_move rfl) rfl rfl rfl ?_
                | refine TL_val (rr_assign rfl) rfl rfl rfl ?_
                | refine TL_nil ?_
                | refine T_seq ?_
                | refine T_region ?_
                | refine T_condT rfl ?_
                | refine T_condF rfl ?_
                | refine T_skip ?_
                | refine T_exit ?_
                | refine T_ret ?_
                | refine T_block ?_
                | refine E_then ?_
                | refine E_thenX ?_
                | refine E_thenR ?_
                | refine E_blockN ?_
                | refine E_blockR ?_
                | refine E_blockX ?_
                | refine E_blockO rfl ?_
                | refine TL_val (rr_extract rfl rfl) rfl rfl rfl ?_
                | refine TL_val (rr_pickT rfl rfl) rfl rfl rfl ?_
                | refine TL_val (rr_pickF rfl rfl) rfl rfl rfl ?_
                | refine TL_val (rr_len Und.eq rfl) rfl rfl rfl ?_
                | refine TL_val (rr_max rfl rfl (by omega)) rfl rfl rfl ?_
                | refine TL_val (rr_lss rfl rfl (decide_eq_true (by omega))) rfl rfl rfl ?_
                | refine TL_val (rr_lss rfl rfl (decide_eq_false (by omega))) rfl rfl rfl ?_
                | refine TL_val (rr_gtr rfl rfl (decide_eq_true (by omega))) rfl rfl rfl ?_
                | refine TL_val (rr_gtr rfl rfl (decide_eq_false (by omega))) rfl rfl rfl ?_
                | refine TL_val (rr_eql rfl rfl (decide_eq_true (by omega))) rfl rfl rfl ?_
                | refine TL_val (rr_eql rfl rfl (decide_eq_false (by omega))) rfl rfl rfl ?_
                | refine TL_val (rr_neq rfl rfl (decide_eq_true (by omega))) rfl rfl rfl ?_
                | refine TL_val (rr_neq rfl rfl (decide_eq_false (by omega))) rfl rfl rfl ?_
                | refine TL_val (rr_add64 rfl rfl (by omega) (by omega) rfl) rfl rfl rfl ?_
                | refine TL_skip rfl rfl rfl rfl rfl rfl ?_
                | refine TL_gval (rr_move rfl) rfl rfl rfl rfl rfl ?_
                | refine TL_gval (rr_len Und.eq rfl) rfl rfl rfl rfl rfl ?_
                | refine TL_gval (rr_field FldC.fld rfl rfl) rfl rfl rfl rfl rfl ?_
                | refine TL_gval (rr_not rfl rfl) rfl rfl rfl rfl rfl ?_
                | refine TL_gval (rr_neq rfl rfl (decide_eq_true (by omega))) rfl rfl rfl rfl rfl ?_
                | refine TL_gval (rr_neq rfl rfl (decide_eq_false (by omega))) rfl rfl rfl rfl rfl ?_)
              refine E_pick [0, 1, 2, 3] (by decide) rfl ?_
              exact E_mid s1 ⟨k1, k2, k3, k4, k5, by omega, k7⟩ (by repeat' (first | exact True.intro | refine And.intro rfl ?_)) rfl
        · repeat (first
            | refine TL_val (rr_move rfl) rfl rfl rfl ?_
            | refine TL_val (rr_assign rfl) rfl rfl rfl ?_
            | refine TL_nil ?_
            | refine T_seq ?_
            | refine T_region ?_
            | refine T_condT rfl ?_
            | refine T_condF rfl ?_
            | refine T_skip ?_
            | refine T_exit ?_
            | refine T_ret ?_
            | refine T_block ?_
            | refine E_then ?_
            | refine E_thenX ?_
            | refine E_thenR ?_
            | refine E_blockN ?_
            | refine E_blockR ?_
            | refine E_blockX ?_
            | refine E_blockO rfl ?_
            | refine TL_val (rr_extract rfl rfl) rfl rfl rfl ?_
            | refine TL_val (rr_pickT rfl rfl) rfl rfl rfl ?_
            | refine TL_val (rr_pickF rfl rfl) rfl rfl rfl ?_
            | refine TL_val (rr_len Und.eq rfl) rfl rfl rfl ?_
            | refine TL_val (rr_max rfl rfl (by omega)) rfl rfl rfl ?_
            | refine TL_val (rr_lss rfl rfl (decide_eq_true (by omega))) rfl rfl rfl ?_
            | refine TL_val (rr_lss rfl rfl (decide_eq_false (by omega))) rfl rfl rfl ?_
            | refine TL_val (rr_gtr rfl rfl (decide_eq_true (by omega))) rfl rfl rfl ?_
            | refine TL_val (rr_gtr rfl rfl (decide_eq_false (by omega))) rfl rfl rfl ?_
            | refine TL_val (rr_eql rfl rfl (decide_eq_true (by omega))) rfl rfl rfl ?_
            | refine TL_val (rr_eql rfl rfl (decide_eq_false (by omega))) rfl rfl rfl ?_
            | refine TL_val (rr_neq rfl rfl (decide_eq_true (by omega))) rfl rfl rfl ?_
            | refine TL_val (rr_neq rfl rfl (decide_eq_false (by omega))) rfl rfl rfl ?_
            | refine TL_val (rr_add64 rfl rfl (by omega) (by omega) rfl) rfl rfl rfl ?_
            | refine TL_skip rfl rfl rfl rfl rfl rfl ?_
            | refine TL_gval (rr_move rfl) rfl rfl rfl rfl rfl ?_
            | refine TL_gval (rr_len Und.eq rfl) rfl rfl rfl rfl rfl ?_
            | refine TL_gval (rr_field FldC.fld rfl rfl) rfl rfl rfl rfl rfl ?_
            | refine TL_gval (rr_not rfl rfl) rfl rfl rfl rfl rfl ?_
            | refine TL_gval (rr_neq rfl rfl (decide_eq_true (by omega))) rfl rfl rfl rfl rfl ?_
            | refine TL_gval (rr_neq rfl rfl (decide_eq_false (by omega))) rfl rfl rfl rfl rfl ?_)
          obtain ⟨k1, k2, k3, k4, k5, k6, k7⟩ := hI
          exact E_mid s1 ⟨k1, k2, k3, k4, k5, by omega, k7⟩ (by repeat' (first | exact True.intro | refine And.intro rfl ?_)) rfl
      · clear hI
        intro s2 hI
        (repeat refine T_seq ?_)
        refine T_region ?_
        repeat (first
          | refine TL_val (rr_move rfl) rfl rfl rfl ?_
          | refine TL_val (rr_assign rfl) rfl rfl rfl ?_
          | refine TL_nil ?_
          | refine E_then ?_
          | refine TL_val (rr_lss rfl rfl rfl) rfl rfl rfl ?_
          | refine TL_val (rr_extract rfl rfl) rfl rfl rfl ?_
          | refine TL_val (rr_pickT rfl rfl) rfl rfl rfl ?_
          | refine TL_val (rr_pickF rfl rfl) rfl rfl rfl ?_
          | refine TL_val (rr_len Und.eq rfl) rfl rfl rfl ?_
          | refine TL_val (rr_max rfl rfl (by omega)) rfl rfl rfl ?_
          | refine TL_val (rr_lss rfl rfl (decide_eq_true (by omega))) rfl rfl rfl ?_
          | refine TL_val (rr_lss rfl rfl (decide_eq_false (by omega))) rfl rfl rfl ?_
          | refine TL_val (rr_gtr rfl rfl (decide_eq_true (by omega))) rfl rfl rfl ?_
          | refine TL_val (rr_gtr rfl rfl (decide_eq_false (by omega))) rfl rfl rfl ?_
          | refine TL_val (rr_eql rfl rfl (decide_eq_true (by omega))) rfl rfl rfl ?_
          | refine TL_val (rr_eql rfl rfl (decide_eq_false (by omega))) rfl rfl rfl ?_
          | refine TL_val (rr_neq rfl rfl (decide_eq_true (by omega))) rfl rfl rfl ?_
          | refine TL_val (rr_neq rfl rfl (decide_eq_false (by omega))) rfl rfl rfl ?_
          | refine TL_val (rr_add64 rfl rfl (by omega) (by omega) rfl) rfl rfl rfl ?_
          | refine TL_skip rfl rfl rfl rfl rfl rfl ?_
          | refine TL_gval (rr_move rfl) rfl rfl rfl rfl rfl ?_
          | refine TL_gval (rr_len Und.eq rfl) rfl rfl rfl rfl rfl ?_
          | refine TL_gval (rr_field FldC.fld rfl rfl) rfl rfl rfl rfl rfl ?_
          | refine TL_gval (rr_not rfl rfl) rfl rfl rfl rfl rfl ?_
          | refine TL_gval (rr_neq rfl rfl (decide_eq_true (by omega))) rfl rfl rfl rfl rfl ?_
          | refine TL_gval (rr_neq rfl rfl (decide_eq_false (by omega))) rfl rfl rfl rfl rfl ?_)
        refine T_midq (ι := St) (fun s => Inv (i + 1) (i + 1) s) (fun s => Sf (.slice bl l.length cl) (.slice bg gs.length cg) (.slice bt ts.length ct) g7 i s) (fun s => Sm g7 s) ?_ ?_
        · refine T_condD rfl (fun c1 => ?_) (fun c1 => ?_)
          · have c1 : i < ts.length := by omega
            obtain ⟨k1, k2, k3, k4, k5, k6, k7⟩ := hI
            have hlen := congrArg List.length k1
            rw [List.length_append] at hlen
            obtain ⟨bb, off, rfl, hr⟩ := hrt (by omega)
            have hat := at_rdm (L := [blkO g7 (gaV s2.vw s2.credit s2.G.length).cells 59]) hr c1
            obtain ⟨wait', gone', c', g', e, hok, htk⟩ := gtake2 s2.vw s2.wait s2.credit s2.G.length ts[i] (by omega)
            generalize ts[i] = x at *
            (repeat refine T_seq ?_)
            refine T_midq (ι := Value × Value × Nat) (fun (v2, _, _) => v2.oneCell' = true) (fun (_, vg2, g17) => Sf (.slice bl l.length cl) (.slice bg gs.length cg) (.slice (some ⟨bb, off, none⟩) ts.length ct) g7 i s2 ++ [(17, .pointer (some ⟨g17, 0, none⟩)), (18, vg2), (19, .int .i64 e)]) (fun (v2, vg2, g17) => Sm g7 s2 ++ [rowO 56 2 v2 wait'.length (wait'.flatMap evC), rowO 56 2 vg2 gone'.length (gone'.flatMap evC), blkO g17 (gaV v2 c' g').cells 59]) ?_ ?_
            · refine T_ord ([blkO g7 (gaV s2.vw s2.credit s2.G.length).cells 59]) (.calm 0 (.calm 1 (.calm 2 (.calm 3 (.calm 4 (.two 5 (.calm 6 (.calm 7 (.calm 8 (.calm 9 (.one 10 (.one 11 (.calm 12 (.calm 13 (.done))))))))) 10 (.one 5 (.calm 6 (.calm 7 (.calm 8 (.calm 9 (.one 11 (.calm 12 (.calm 13 (.done))))))))))))))) (sub_pick [0] (by decide) rfl) (by kernel_rfl) (by kernel_rfl) (by intro c a d v w h; cases d <;> exact h) ?_
              repeat (first
                | refine TW_val rfl (rr_move rfl) rfl rfl rfl ?_
                | refine TW_val rfl (rr_assign rfl) rfl rfl rfl ?_
                | refine TW_val rfl (rr_loadB (i := 0) TyC.ty rfl rfl rfl) rfl rfl rfl ?_
                | refine TW_val rfl (rr_idx1 Und.eq TyC.ty rfl rfl c1) rfl rfl rfl ?_
                | refine TW_val rfl (rr_load1 TyC.ty rfl hat) rfl rfl rfl ?_
                | refine TW_val rfl (rr_extract rfl rfl) rfl rfl rfl ?_
                | refine TW_val rfl (rr_pickT rfl rfl) rfl rfl rfl ?_
                | refine TW_val rfl (rr_pickF rfl rfl) rfl rfl rfl ?_
                | refine TW_val rfl (rr_len Und.eq rfl) rfl rfl rfl ?_
                | refine TW_val rfl (rr_max rfl rfl (by omega)) rfl rfl rfl ?_
                | refine TW_val rfl (rr_lss rfl rfl (decide_eq_true (by omega))) rfl rfl rfl ?_
                | refine TW_val rfl (rr_lss rfl rfl (decide_eq_false (by omega))) rfl rfl rfl ?_
                | refine TW_val rfl (rr_gtr rfl rfl (decide_eq_true (by omega))) rfl rfl rfl ?_
                | refine TW_val rfl (rr_gtr rfl rfl (decide_eq_false (by omega))) rfl rfl rfl ?_
                | refine TW_val rfl (rr_eql rfl rfl (decide_eq_true (by omega))) rfl rfl rfl ?_
                | refine TW_val rfl (rr_eql rfl rfl (decide_eq_false (by omega))) rfl rfl rfl ?_
                | refine TW_val rfl (rr_neq rfl rfl (decide_eq_true (by omega))) rfl rfl rfl ?_
                | refine TW_val rfl (rr_neq rfl rfl (decide_eq_false (by omega))) rfl rfl rfl ?_
                | refine TW_val rfl (rr_add64 rfl rfl (by omega) (by omega) rfl) rfl rfl rfl ?_
                | refine TW_skip rfl rfl rfl rfl rfl rfl rfl ?_
                | refine TW_gval rfl (rr_loadB (i := 0) TyC.ty rfl rfl rfl) rfl rfl rfl rfl rfl ?_
                | refine TW_gval rfl (rr_load1 TyC.ty rfl hat) rfl rfl rfl rfl rfl ?_
                | refine TW_gval rfl (rr_move rfl) rfl rfl rfl rfl rfl ?_
                | refine TW_gval rfl (rr_len Und.eq rfl) rfl rfl rfl rfl rfl ?_
                | refine TW_gval rfl (rr_field FldC.fld rfl rfl) rfl rfl rfl rfl rfl ?_
                | refine TW_gval rfl (rr_not rfl rfl) rfl rfl rfl rfl rfl ?_
                | refine TW_gval rfl (rr_neq rfl rfl (decide_eq_true (by omega))) rfl rfl rfl rfl rfl ?_
                | refine TW_gval rfl (rr_neq rfl rfl (decide_eq_false (by omega))) rfl rfl rfl rfl rfl ?_
                | refine TW_done ?_)
              refine TW_two rfl rfl ?_ ?_
              · refine TL_call (he2 EntersC.en rfl rfl rfl) (fun w hm => htk _ (sl_row (i := 1) rfl w hm)) rfl rfl rfl ?_
                rintro ⟨v2, vg2⟩ _
                refine TW_on (sub_pick [0] (by decide) rfl) ?_
                repeat (first
                  | refine TW_val rfl (rr_move rfl) rfl rfl rfl ?_
                  | refine TW_val rfl (rr_assign rfl) rfl rfl rfl ?_
                  | refine TW_val rfl (rr_extract rfl rfl) rfl rfl rfl ?_
                  | refine TW_val rfl (rr_pickT rfl rfl) rfl rfl rfl ?_
                  | refine TW_val rfl (rr_pickF rfl rfl) rfl rfl rfl ?_
                  | refine TW_val rfl (rr_len Und.eq rfl) rfl rfl rfl ?_
                  | refine TW_val rfl (rr_max rfl rfl (by omega)) rfl rfl rfl ?_
                  | refine TW_val rfl (rr_lss rfl rfl (decide_eq_true (by omega))) rfl rfl rfl ?_
                  | refine TW_val rfl (rr_lss rfl rfl (decide_eq_false (by omega))) rfl rfl rfl ?_
                  | refine TW_val rfl (rr_gtr rfl rfl (decide_eq_true (by omega))) rfl rfl rfl ?_
                  | refine TW_val rfl (rr_gtr rfl rfl (decide_eq_false (by omega))) rfl rfl rfl ?_
                  | refine TW_val rfl (rr_eql rfl rfl (decide_eq_true (by omega))) rfl rfl rfl ?_
                  | refine TW_val rfl (rr_eql rfl rfl (decide_eq_false (by omega))) rfl rfl rfl ?_
                  | refine TW_val rfl (rr_neq rfl rfl (decide_eq_true (by omega))) rfl rfl rfl ?_
                  | refine TW_val rfl (rr_neq rfl rfl (decide_eq_false (by omega))) rfl rfl rfl ?_
                  | refine TW_val rfl (rr_add64 rfl rfl (by omega) (by omega) rfl) rfl rfl rfl ?_
                  | refine TW_skip rfl rfl rfl rfl rfl rfl rfl ?_
                  | refine TW_gval rfl (rr_move rfl) rfl rfl rfl rfl rfl ?_
                  | refine TW_gval rfl (rr_len Und.eq rfl) rfl rfl rfl rfl rfl ?_
                  | refine TW_gval rfl (rr_field FldC.fld rfl rfl) rfl rfl rfl rfl rfl ?_
                  | refine TW_gval rfl (rr_not rfl rfl) rfl rfl rfl rfl rfl ?_
                  | refine TW_gval rfl (rr_neq rfl rfl (decide_eq_true (by omega))) rfl rfl rfl rfl rfl ?_
                  | refine TW_gval rfl (rr_neq rfl rfl (decide_eq_false (by omega))) rfl rfl rfl rfl rfl ?_
                  | refine TW_done ?_)
                refine TW_one rfl (TL_new rfl fun g13 => TW_on (sub_pick [0] (by decide) rfl) ?_)
                refine TW_one rfl ?_
                refine TL_slv (i := 4) rfl fun hc1 ho1 => ?_
                refine TL_storeB (i := 6) rfl rfl rfl rfl (gaV_one ho1) rfl ?_
                refine TW_on (sub_pick [0] (by decide) rfl) ?_
                repeat (first
                  | refine TW_val rfl (rr_move rfl) rfl rfl rfl ?_
                  | refine TW_val rfl (rr_assign rfl) rfl rfl rfl ?_
                  | refine TW_val rfl (rr_extract rfl rfl) rfl rfl rfl ?_
                  | refine TW_val rfl (rr_pickT rfl rfl) rfl rfl rfl ?_
                  | refine TW_val rfl (rr_pickF rfl rfl) rfl rfl rfl ?_
                  | refine TW_val rfl (rr_len Und.eq rfl) rfl rfl rfl ?_
                  | refine TW_val rfl (rr_max rfl rfl (by omega)) rfl rfl rfl ?_
                  | refine TW_val rfl (rr_lss rfl rfl (decide_eq_true (by omega))) rfl rfl rfl ?_
                  | refine TW_val rfl (rr_lss rfl rfl (decide_eq_false (by omega))) rfl rfl rfl ?_
                  | refine TW_val rfl (rr_gtr rfl rfl (decide_eq_true (by omega))) rfl rfl rfl ?_
                  | refine TW_val rfl (rr_gtr rfl rfl (decide_eq_false (by omega))) rfl rfl rfl ?_
                  | refine TW_val rfl (rr_eql rfl rfl (decide_eq_true (by omega))) rfl rfl rfl ?_
                  | refine TW_val rfl (rr_eql rfl rfl (decide_eq_false (by omega))) rfl rfl rfl ?_
                  | refine TW_val rfl (rr_neq rfl rfl (decide_eq_true (by omega))) rfl rfl rfl ?_
                  | refine TW_val rfl (rr_neq rfl rfl (decide_eq_false (by omega))) rfl rfl rfl ?_
                  | refine TW_val rfl (rr_add64 rfl rfl (by omega) (by omega) rfl) rfl rfl rfl ?_
                  | refine TW_skip rfl rfl rfl rfl rfl rfl rfl ?_
                  | refine TW_gval rfl (rr_move rfl) rfl rfl rfl rfl rfl ?_
                  | refine TW_gval rfl (rr_len Und.eq rfl) rfl rfl rfl rfl rfl ?_
                  | refine TW_gval rfl (rr_field FldC.fld rfl rfl) rfl rfl rfl rfl rfl ?_
                  | refine TW_gval rfl (rr_not rfl rfl) rfl rfl rfl rfl rfl ?_
                  | refine TW_gval rfl (rr_neq rfl rfl (decide_eq_true (by omega))) rfl rfl rfl rfl rfl ?_
                  | refine TW_gval rfl (rr_neq rfl rfl (decide_eq_false (by omega))) rfl rfl rfl rfl rfl ?_
                  | refine TW_done ?_)
                exact E_mid (v2, vg2, g13) ho1 (by repeat' (first | exact True.intro | refine And.intro rfl ?_)) rfl
              · refine TL_new rfl fun g13 => ?_
                refine TW_on (sub_pick [0] (by decide) rfl) ?_
                refine TW_one rfl ?_
                refine TL_call (he2 EntersC.en rfl rfl rfl) (fun w hm => htk _ (sl_row (i := 1) rfl w hm)) rfl rfl rfl ?_
                rintro ⟨v2, vg2⟩ _
                refine TW_on (sub_pick [0] (by decide) rfl) ?_
                repeat (first
                  | refine TW_val rfl (rr_move rfl) rfl rfl rfl ?_
                  | refine TW_val rfl (rr_assign rfl) rfl rfl rfl ?_
                  | refine TW_val rfl (rr_extract rfl rfl) rfl rfl rfl ?_
                  | refine TW_val rfl (rr_pickT rfl rfl) rfl rfl rfl ?_
                  | refine TW_val rfl (rr_pickF rfl rfl) rfl rfl rfl ?_
                  | refine TW_val rfl (rr_len Und.eq rfl) rfl rfl rfl ?_
                  | refine TW_val rfl (rr_max rfl rfl (by omega)) rfl rfl rfl ?_
                  | refine TW_val rfl (rr_lss rfl rfl (decide_eq_true (by omega))) rfl rfl rfl ?_
                  | refine TW_val rfl (rr_lss rfl rfl (decide_eq_false (by omega))) rfl rfl rfl ?_
                  | refine TW_val rfl (rr_gtr rfl rfl (decide_eq_true (by omega))) rfl rfl rfl ?_
                  | refine TW_val rfl (rr_gtr rfl rfl (decide_eq_false (by omega))) rfl rfl rfl ?_
                  | refine TW_val rfl (rr_eql rfl rfl (decide_eq_true (by omega))) rfl rfl rfl ?_
                  | refine TW_val rfl (rr_eql rfl rfl (decide_eq_false (by omega))) rfl rfl rfl ?_
                  | refine TW_val rfl (rr_neq rfl rfl (decide_eq_true (by omega))) rfl rfl rfl ?_
                  | refine TW_val rfl (rr_neq rfl rfl (decide_eq_false (by omega))) rfl rfl rfl ?_
                  | refine TW_val rfl (rr_add64 rfl rfl (by omega) (by omega) rfl) rfl rfl rfl ?_
                  | refine TW_skip rfl rfl rfl rfl rfl rfl rfl ?_
                  | refine TW_gval rfl (rr_move rfl) rfl rfl rfl rfl rfl ?_
                  | refine TW_gval rfl (rr_len Und.eq rfl) rfl rfl rfl rfl rfl ?_
                  | refine TW_gval rfl (rr_field FldC.fld rfl rfl) rfl rfl rfl rfl rfl ?_
                  | refine TW_gval rfl (rr_not rfl rfl) rfl rfl rfl rfl rfl ?_
                  | refine TW_gval rfl (rr_neq rfl rfl (decide_eq_true (by omega))) rfl rfl rfl rfl rfl ?_
                  | refine TW_gval rfl (rr_neq rfl rfl (decide_eq_false (by omega))) rfl rfl rfl rfl rfl ?_
                  | refine TW_done ?_)
                refine TW_one rfl ?_
                refine TL_slv (i := 5) rfl fun hc1 ho1 => ?_
                refine TL_storeB (i := 4) rfl rfl rfl rfl (gaV_one ho1) rfl ?_
                refine TW_on (sub_pick [0] (by decide) rfl) ?_
                repeat (first
                  | refine TW_val rfl (rr_move rfl) rfl rfl rfl ?_
                  | refine TW_val rfl (rr_assign rfl) rfl rfl rfl ?_
                  | refine TW_val rfl (rr_extract rfl rfl) rfl rfl rfl ?_
                  | refine TW_val rfl (rr_pickT rfl rfl) rfl rfl rfl ?_
                  | refine TW_val rfl (rr_pickF rfl rfl) rfl rfl rfl ?_
                  | refine TW_val rfl (rr_len Und.eq rfl) rfl rfl rfl ?_
                  | refine TW_val rfl (rr_max rfl rfl (by omega)) rfl rfl rfl ?_
                  | refine TW_val rfl (rr_lss rfl rfl (decide_eq_true (by omega))) rfl rfl rfl ?_
                  | refine TW_val rfl (rr_lss rfl rfl (decide_eq_false (by omega))) rfl rfl rfl ?_
                  | refine TW_val rfl (rr_gtr rfl rfl (decide_eq_true (by omega))) rfl rfl rfl ?_
                  | refine TW_val rfl (rr_gtr rfl rfl (decide_eq_false (by omega))) rfl rfl rfl ?_
                  | refine TW_val rfl (rr_eql rfl rfl (decide_eq_true (by omega))) rfl rfl rfl ?_
                  | refine TW_val rfl (rr_eql rfl rfl (decide_eq_false (by omega))) rfl rfl rfl ?_
                  | refine TW_val rfl (rr_neq rfl rfl (decide_eq_true (by omega))) rfl rfl rfl ?_
                  | refine TW_val rfl (rr_neq rfl rfl (decide_eq_false (by omega))) rfl rfl rfl ?_
                  | refine TW_val rfl (rr_add64 rfl rfl (by omega) (by omega) rfl) rfl rfl rfl ?_
                  | refine TW_skip rfl rfl rfl rfl rfl rfl rfl ?_
                  | refine TW_gval rfl (rr_move rfl) rfl rfl rfl rfl rfl ?_
                  | refine TW_gval rfl (rr_len Und.eq rfl) rfl rfl rfl rfl rfl ?_
                  | refine TW_gval rfl (rr_field FldC.fld rfl rfl) rfl rfl rfl rfl rfl ?_
                  | refine TW_gval rfl (rr_not rfl rfl) rfl rfl rfl rfl rfl ?_
                  | refine TW_gval rfl (rr_neq rfl rfl (decide_eq_true (by omega))) rfl rfl rfl rfl rfl ?_
                  | refine TW_gval rfl (rr_neq rfl rfl (decide_eq_false (by omega))) rfl rfl rfl rfl rfl ?_
                  | refine TW_done ?_)
                refine E_pick [0, 1, 2, 3, 5, 6, 4] (by decide) rfl ?_
                exact E_mid (v2, vg2, g13) ho1 (by repeat' (first | exact True.intro | refine And.intro rfl ?_)) rfl
            · rintro ⟨v2, vg2, g17⟩ ho1
              dsimp only at ho1 ⊢
              clear hat htk
              by_cases c2' : e = 0
              · obtain ⟨r1, r2, r3, r4, r5, r6⟩ := hok c2'
                have hl2 := congrArg List.length r6
                rw [List.length_append] at hl2
                subst c2'
                repeat (first
                  | refine TL_val (rr_move rfl) rfl rfl rfl ?_
                  | refine TL_val (rr_assign rfl) rfl rfl rfl ?_
                  | refine TL_nil ?_
                  | refine T_seq ?_
                  | refine T_region ?_
                  | refine T_condT rfl ?_
                  | refine T_condF rfl ?_
                  | refine T_skip ?_
                  | refine T_exit ?_
                  | refine T_ret ?_
                  | refine T_block ?_
                  | refine E_then ?_
                  | refine E_thenX ?_
                  | refine E_thenR ?_
                  | refine E_blockN ?_
                  | refine E_blockR ?_
                  | refine E_blockX ?_
                  | refine E_blockO rfl ?_
                  | refine TL_val (rr_extract rfl rfl) rfl rfl rfl ?_
                  | refine TL_val (rr_pickT rfl rfl) rfl rfl rfl ?_
                  | refine TL_val (rr_pickF rfl rfl) rfl rfl rfl ?_
                  | refine TL_val (rr_len Und.eq rfl) rfl rfl rfl ?_
                  | refine TL_val (rr_max rfl rfl (by omega)) rfl rfl rfl ?_
                  | refine TL_val (rr_lss rfl rfl (decide_eq_true (by omega))) rfl rfl rfl ?_
                  | refine TL_val (rr_lss rfl rfl (decide_eq_false (by omega))) rfl rfl rfl ?_
                  | refine TL_val (rr_gtr rfl rfl (decide_eq_true (by omega))) rfl rfl rfl ?_
                  | refine TL_val (rr_gtr rfl rfl (decide_eq_false (by omega))) rfl rfl rfl ?_
                  | refine TL_val (rr_eql rfl rfl (decide_eq_true (by omega))) rfl rfl rfl ?_
                  | refine TL_val (rr_eql rfl rfl (decide_eq_false (by omega))) rfl rfl rfl ?_
                  | refine TL_val (rr_neq rfl rfl (decide_eq_true (by omega))) rfl rfl rfl ?_
                  | refine TL_val (rr_neq rfl rfl (decide_eq_false (by omega))) rfl rfl rfl ?_
                  | refine TL_val (rr_add64 rfl rfl (by omega) (by omega) rfl) rfl rfl rfl ?_
                  | refine TL_skip rfl rfl rfl rfl rfl rfl ?_
                  | refine TL_gval (rr_move rfl) rfl rfl rfl rfl rfl ?_
                  | refine TL_gval (rr_len Und.eq rfl) rfl rfl rfl rfl rfl ?_
                  | refine TL_gval (rr_field FldC.fld rfl rfl) rfl rfl rfl rfl rfl ?_
                  | refine TL_gval (rr_not rfl rfl) rfl rfl rfl rfl rfl ?_
                  | refine TL_gval (rr_neq rfl rfl (decide_eq_true (by omega))) rfl rfl rfl rfl rfl ?_
                  | refine TL_gval (rr_neq rfl rfl (decide_eq_false (by omega))) rfl rfl rfl rfl rfl ?_)
                refine T_ord ([blkO g17 (gaV v2 c' g').cells 59]) (.calm 0 (.calm 1 (.calm 2 (.one 3 (.one 4 (.calm 5 (.done))))))) (sub_pick [6] (by decide) rfl) (by kernel_rfl) (by kernel_rfl) (by intro c a d v w h; cases d <;> exact h) ?_
                repeat (first
                  | refine TW_val rfl (rr_move rfl) rfl rfl rfl ?_
                  | refine TW_val rfl (rr_assign rfl) rfl rfl rfl ?_
                  | refine TW_val rfl (rr_loadB (i := 0) TyC.ty rfl rfl rfl) rfl rfl rfl ?_
                  | refine TW_val rfl (rr_extract rfl rfl) rfl rfl rfl ?_
                  | refine TW_val rfl (rr_pickT rfl rfl) rfl rfl rfl ?_
                  | refine TW_val rfl (rr_pickF rfl rfl) rfl rfl rfl ?_
                  | refine TW_val rfl (rr_len Und.eq rfl) rfl rfl rfl ?_
                  | refine TW_val rfl (rr_max rfl rfl (by omega)) rfl rfl rfl ?_
                  | refine TW_val rfl (rr_lss rfl rfl (decide_eq_true (by omega))) rfl rfl rfl ?_
                  | refine TW_val rfl (rr_lss rfl rfl (decide_eq_false (by omega))) rfl rfl rfl ?_
                  | refine TW_val rfl (rr_gtr rfl rfl (decide_eq_true (by omega))) rfl rfl rfl ?_
                  | refine TW_val rfl (rr_gtr rfl rfl (decide_eq_false (by omega))) rfl rfl rfl ?_
                  | refine TW_val rfl (rr_eql rfl rfl (decide_eq_true (by omega))) rfl rfl rfl ?_
                  | refine TW_val rfl (rr_eql rfl rfl (decide_eq_false (by omega))) rfl rfl rfl ?_
                  | refine TW_val rfl (rr_neq rfl rfl (decide_eq_true (by omega))) rfl rfl rfl ?_
                  | refine TW_val rfl (rr_neq rfl rfl (decide_eq_false (by omega))) rfl rfl rfl ?_
                  | refine TW_val rfl (rr_add64 rfl rfl (by omega) (by omega) rfl) rfl rfl rfl ?_
                  | refine TW_skip rfl rfl rfl rfl rfl rfl rfl ?_
                  | refine TW_gval rfl (rr_loadB (i := 0) TyC.ty rfl rfl rfl) rfl rfl rfl rfl rfl ?_
                  | refine TW_gval rfl (rr_move rfl) rfl rfl rfl rfl rfl ?_
                  | refine TW_gval rfl (rr_len Und.eq rfl) rfl rfl rfl rfl rfl ?_
                  | refine TW_gval rfl (rr_field FldC.fld rfl rfl) rfl rfl rfl rfl rfl ?_
                  | refine TW_gval rfl (rr_not rfl rfl) rfl rfl rfl rfl rfl ?_
                  | refine TW_gval rfl (rr_neq rfl rfl (decide_eq_true (by omega))) rfl rfl rfl rfl rfl ?_
                  | refine TW_gval rfl (rr_neq rfl rfl (decide_eq_false (by omega))) rfl rfl rfl rfl rfl ?_
                  | refine TW_done ?_)
                refine TW_one rfl (TL_appSl (i := 3) rfl (sl_row (i := 5) rfl) rfl rfl (len_el EvS_len gone') (one_ev gone') (by omega) (by omega) rfl fun v9' => TW_on (sub_pick [6] (by decide) rfl) ?_)
                refine TW_one rfl (TL_storeB (i := 0) rfl rfl rfl rfl (gaV_one ho1) rfl (TW_on (sub_pick [6] (by decide) rfl) ?_))
                repeat (first
                  | refine TW_val rfl (rr_move rfl) rfl rfl rfl ?_
                  | refine TW_val rfl (rr_assign rfl) rfl rfl rfl ?_
                  | refine TW_val rfl (rr_extract rfl rfl) rfl rfl rfl ?_
                  | refine TW_val rfl (rr_pickT rfl rfl) rfl rfl rfl ?_
                  | refine TW_val rfl (rr_pickF rfl rfl) rfl rfl rfl ?_
                  | refine TW_val rfl (rr_len Und.eq rfl) rfl rfl rfl ?_
                  | refine TW_val rfl (rr_max rfl rfl (by omega)) rfl rfl rfl ?_
                  | refine TW_val rfl (rr_lss rfl rfl (decide_eq_true (by omega))) rfl rfl rfl ?_
                  | refine TW_val rfl (rr_lss rfl rfl (decide_eq_false (by omega))) rfl rfl rfl ?_
                  | refine TW_val rfl (rr_gtr rfl rfl (decide_eq_true (by omega))) rfl rfl rfl ?_
                  | refine TW_val rfl (rr_gtr rfl rfl (decide_eq_false (by omega))) rfl rfl rfl ?_
                  | refine TW_val rfl (rr_eql rfl rfl (decide_eq_true (by omega))) rfl rfl rfl ?_
                  | refine TW_val rfl (rr_eql rfl rfl (decide_eq_false (by omega))) rfl rfl rfl ?_
                  | refine TW_val rfl (rr_neq rfl rfl (decide_eq_true (by omega))) rfl rfl rfl ?_
                  | refine TW_val rfl (rr_neq rfl rfl (decide_eq_false (by omega))) rfl rfl rfl ?_
                  | refine TW_val rfl (rr_add64 rfl rfl (by omega) (by omega) rfl) rfl rfl rfl ?_
                  | refine TW_skip rfl rfl rfl rfl rfl rfl rfl ?_
                  | refine TW_gval rfl (rr_move rfl) rfl rfl rfl rfl rfl ?_
                  | refine TW_gval rfl (rr_len Und.eq rfl) rfl rfl rfl rfl rfl ?_
                  | refine TW_gval rfl (rr_field FldC.fld rfl rfl) rfl rfl rfl rfl rfl ?_
                  | refine TW_gval rfl (rr_not rfl rfl) rfl rfl rfl rfl rfl ?_
                  | refine TW_gval rfl (rr_neq rfl rfl (decide_eq_true (by omega))) rfl rfl rfl rfl rfl ?_
                  | refine TW_gval rfl (rr_neq rfl rfl (decide_eq_false (by omega))) rfl rfl rfl rfl rfl ?_
                  | refine TW_done ?_)
                refine E_pick [0, 4, 2, 3] (by decide) rfl ?_
                exact E_mid { s2 with G := s2.G ++ gone', wait := wait', credit := c', v9 := v9', vw := v2 } ⟨by rw [List.append_assoc, r6]; exact k1, r1, by show c' ≤ 1073741824; omega, by show c' + ((s2.G ++ gone').length : Int) ≤ s2.granted; rw [List.length_append]; omega, k5, k6, ho1⟩ (by repeat' (first | exact True.intro | refine And.intro rfl ?_)) (by simp [Sm, r5])
              · clear hok
                repeat (first
                  | refine TL_val (rr_move rfl) rfl rfl rfl ?_
                  | refine TL_val (rr_assign rfl) rfl rfl rfl ?_
                  | refine TL_nil ?_
                  | refine T_seq ?_
                  | refine T_region ?_
                  | refine T_condT rfl ?_
                  | refine T_condF rfl ?_
                  | refine T_skip ?_
                  | refine T_exit ?_
                  | refine T_ret ?_
                  | refine T_block ?_
                  | refine E_then ?_
                  | refine E_thenX ?_
                  | refine E_thenR ?_
                  | refine E_blockN ?_
                  | refine E_blockR ?_
                  | refine E_blockX ?_
                  | refine E_blockO rfl ?_
                  | refine TL_val (rr_extract rfl rfl) rfl rfl rfl ?_
                  | refine TL_val (rr_pickT rfl rfl) rfl rfl rfl ?_
                  | refine TL_val (rr_pickF rfl rfl) rfl rfl rfl ?_
                  | refine TL_val (rr_len Und.eq rfl) rfl rfl rfl ?_
                  | refine TL_val (rr_max rfl rfl (by omega)) rfl rfl rfl ?_
                  | refine TL_val (rr_lss rfl rfl (decide_eq_true (by omega))) rfl rfl rfl ?_
                  | refine TL_val (rr_lss rfl rfl (decide_eq_false (by omega))) rfl rfl rfl ?_
                  | refine TL_val (rr_gtr rfl rfl (decide_eq_true (by omega))) rfl rfl rfl ?_
                  | refine TL_val (rr_gtr rfl rfl (decide_eq_false (by omega))) rfl rfl rfl ?_
                  | refine TL_val (rr_eql rfl rfl (decide_eq_true (by omega))) rfl rfl rfl ?_
                  | refine TL_val (rr_eql rfl rfl (decide_eq_false (by omega))) rfl rfl rfl ?_
                  | refine TL_val (rr_neq rfl rfl (decide_eq_true (by omega))) rfl rfl rfl ?_
                  | refine TL_val (rr_neq rfl rfl (decide_eq_false (by omega))) rfl rfl rfl ?_
                  | refine TL_val (rr_add64 rfl rfl (by omega) (by omega) rfl) rfl rfl rfl ?_
                  | refine TL_skip rfl rfl rfl rfl rfl rfl ?_
                  | refine TL_gval (rr_move rfl) rfl rfl rfl rfl rfl ?_
                  | refine TL_gval (rr_len Und.eq rfl) rfl rfl rfl rfl rfl ?_
                  | refine TL_gval (rr_field FldC.fld rfl rfl) rfl rfl rfl rfl rfl ?_
                  | refine TL_gval (rr_not rfl rfl) rfl rfl rfl rfl rfl ?_
                  | refine TL_gval (rr_neq rfl rfl (decide_eq_true (by omega))) rfl rfl rfl rfl rfl ?_
                  | refine TL_gval (rr_neq rfl rfl (decide_eq_false (by omega))) rfl rfl rfl rfl rfl ?_)
                refine E_pick [0, 1, 2, 3] (by decide) rfl ?_
                exact E_mid s2 ⟨k1, k2, k3, k4, k5, k6, k7⟩ (by repeat' (first | exact True.intro | refine And.intro rfl ?_)) rfl
          · repeat (first
              | refine TL_val (rr_move rfl) rfl rfl rfl ?_
              | refine TL_val (rr_assign rfl) rfl rfl rfl ?_
              | refine TL_nil ?_
              | refine T_seq ?_
              | refine T_region ?_
              | refine T_condT rfl ?_
              | refine T_condF rfl ?_
              | refine T_skip ?_
              | refine T_exit ?_
              | refine T_ret ?_
              | refine T_block ?_
              | refine E_then ?_
              | refine E_thenX ?_
              | refine E_thenR ?_
              | refine E_blockN ?_
              | refine E_blockR ?_
              | refine E_blockX ?_
              | refine E_blockO rfl ?_
              | refine TL_val (rr_extract rfl rfl) rfl rfl rfl ?_
              | refine TL_val (rr_pickT rfl rfl) rfl rfl rfl ?_
              | refine TL_val (rr_pickF rfl rfl) rfl rfl rfl ?_
              | refine TL_val (rr_len Und.eq rfl) rfl rfl rfl ?_
              | refine TL_val (rr_max rfl rfl (by omega)) rfl rfl rfl ?_
              | refine TL_val (rr_lss rfl rfl (decide_eq_true (by omega))) rfl rfl rfl ?_
              | refine TL_val (rr_lss rfl rfl (decide_eq_false (by omega))) rfl rfl rfl ?_
              | refine TL_val (rr_gtr rfl rfl (decide_eq_true (by omega))) rfl rfl rfl ?_
              | refine TL_val (rr_gtr rfl rfl (decide_eq_false (by omega))) rfl rfl rfl ?_
              | refine TL_val (rr_eql rfl rfl (decide_eq_true (by omega))) rfl rfl rfl ?_
              | refine TL_val (rr_eql rfl rfl (decide_eq_false (by omega))) rfl rfl rfl ?_
              | refine TL_val (rr_neq rfl rfl (decide_eq_true (by omega))) rfl rfl rfl ?_
              | refine TL_val (rr_neq rfl rfl (decide_eq_false (by omega))) rfl rfl rfl ?_
              | refine TL_val (rr_add64 rfl rfl (by omega) (by omega) rfl) rfl rfl rfl ?_
              | refine TL_skip rfl rfl rfl rfl rfl rfl ?_
              | refine TL_gval (rr_move rfl) rfl rfl rfl rfl rfl ?_
              | refine TL_gval (rr_len Und.eq rfl) rfl rfl rfl rfl rfl ?_
              | refine TL_gval (rr_field FldC.fld rfl rfl) rfl rfl rfl rfl rfl ?_
              | refine TL_gval (rr_not rfl rfl) rfl rfl rfl rfl rfl ?_
              | refine TL_gval (rr_neq rfl rfl (decide_eq_true (by omega))) rfl rfl rfl rfl rfl ?_
              | refine TL_gval (rr_neq rfl rfl (decide_eq_false (by omega))) rfl rfl rfl rfl rfl ?_)
            exact E_mid s2 hI (by repeat' (first | exact True.intro | refine And.intro rfl ?_)) rfl
        · clear hI
          intro s3 hI
          obtain ⟨k1, k2, k3, k4, k5, k6, k7⟩ := hI
          have hlen := congrArg List.length k1
          rw [List.length_append] at hlen
          have hcl := fun w' hx => cloneEvS_calls s3.v9 s3.G w' hx (by omega)
          have heq := fun v' w' (hx : Sl w' v' (s3.G ++ s3.wait).length ((s3.G ++ s3.wait).flatMap evC)) hy => equalEvS_calls v' s3.v10 (s3.G ++ s3.wait) s3.P w' hx hy
          rw [decide_eq_true k1, List.length_append, List.flatMap_append] at heq
          (repeat refine T_seq ?_)
          refine T_ord (Sm g7 s3) (.calm 0 (.calm 1 (.calm 2 (.calm 3 (.calm 4 (.calm 5 (.calm 6 (.calm 7 (.calm 8 (.calm 9 (.calm 10 (.calm 11 (.calm 12 (.calm 14 (.calm 15 (.calm 17 (.one 13 (.one 16 (.one 18 (.calm 19 (.calm 20 (.done)))))))))))))))))))))) (fun _ h => h) (by kernel_rfl) (by kernel_rfl) (by intro c a d v w h; cases d <;> exact h) ?_
          repeat (first
            | refine TW_val rfl (rr_move rfl) rfl rfl rfl ?_
            | refine TW_val rfl (rr_assign rfl) rfl rfl rfl ?_
            | refine TW_val rfl (rr_rowlen (i := 3) Und.eq rfl rfl) rfl rfl rfl ?_
            | refine TW_val rfl (rr_load1 TyC.ty rfl (at_blk (i := 0) rfl rfl)) rfl rfl rfl ?_
            | refine TW_val rfl (rr_extract rfl rfl) rfl rfl rfl ?_
            | refine TW_val rfl (rr_pickT rfl rfl) rfl rfl rfl ?_
            | refine TW_val rfl (rr_pickF rfl rfl) rfl rfl rfl ?_
            | refine TW_val rfl (rr_len Und.eq rfl) rfl rfl rfl ?_
            | refine TW_val rfl (rr_max rfl rfl (by omega)) rfl rfl rfl ?_
            | refine TW_val rfl (rr_lss rfl rfl (decide_eq_true (by omega))) rfl rfl rfl ?_
            | refine TW_val rfl (rr_lss rfl rfl (decide_eq_false (by omega))) rfl rfl rfl ?_
            | refine TW_val rfl (rr_gtr rfl rfl (decide_eq_true (by omega))) rfl rfl rfl ?_
            | refine TW_val rfl (rr_gtr rfl rfl (decide_eq_false (by omega))) rfl rfl rfl ?_
            | refine TW_val rfl (rr_eql rfl rfl (decide_eq_true (by omega))) rfl rfl rfl ?_
            | refine TW_val rfl (rr_eql rfl rfl (decide_eq_false (by omega))) rfl rfl rfl ?_
            | refine TW_val rfl (rr_neq rfl rfl (decide_eq_true (by omega))) rfl rfl rfl ?_
            | refine TW_val rfl (rr_neq rfl rfl (decide_eq_false (by omega))) rfl rfl rfl ?_
            | refine TW_val rfl (rr_add64 rfl rfl (by omega) (by omega) rfl) rfl rfl rfl ?_
            | refine TW_skip rfl rfl rfl rfl rfl rfl rfl ?_
            | refine TW_gval rfl (rr_rowlen (i := 3) Und.eq rfl rfl) rfl rfl rfl rfl rfl ?_
            | refine TW_gval rfl (rr_load1 TyC.ty rfl (at_blk (i := 0) rfl rfl)) rfl rfl rfl rfl rfl ?_
            | refine TW_gval rfl (rr_move rfl) rfl rfl rfl rfl rfl ?_
            | refine TW_gval rfl (rr_len Und.eq rfl) rfl rfl rfl rfl rfl ?_
            | refine TW_gval rfl (rr_field FldC.fld rfl rfl) rfl rfl rfl rfl rfl ?_
            | refine TW_gval rfl (rr_not rfl rfl) rfl rfl rfl rfl rfl ?_
            | refine TW_gval rfl (rr_neq rfl rfl (decide_eq_true (by omega))) rfl rfl rfl rfl rfl ?_
            | refine TW_gval rfl (rr_neq rfl rfl (decide_eq_false (by omega))) rfl rfl rfl rfl rfl ?_
            | refine TW_done ?_)
          refine TW_one rfl ?_
          refine TL_gcall (he1 EntersC.en rfl rfl) (fun w hm => hcl _ (sl_row (i := 3) rfl w hm)) rfl rfl rfl rfl rfl ?_
          intro vc _
          refine TW_on (sub_pick [0, 1, 2, 3] (by decide) rfl) ?_
          refine TW_one rfl ?_
          refine TL_met rfl rfl rfl ?_
          refine TL_appSl (i := 4) rfl (sl_row (i := 1) rfl) rfl rfl (len_el EvS_len _) (one_ev _) (by omega) (by omega) rfl fun va => ?_
          refine TW_on (sub_pick [0, 1, 2, 3] (by decide) rfl) ?_
          refine TW_one rfl ?_
          refine TL_gcall (he2 EntersC.en rfl rfl rfl) (fun w hm => heq _ _ (sl_row (i := 4) rfl w hm) (sl_row (i := 2) rfl w hm)) rfl rfl rfl rfl rfl ?_
          intro _ _
          refine TW_on (sub_pick [0, 1, 2, 3] (by decide) rfl) ?_
          repeat (first
            | refine TW_val rfl (rr_move rfl) rfl rfl rfl ?_
            | refine TW_val rfl (rr_assign rfl) rfl rfl rfl ?_
            | refine TW_val rfl (rr_extract rfl rfl) rfl rfl rfl ?_
            | refine TW_val rfl (rr_pickT rfl rfl) rfl rfl rfl ?_
            | refine TW_val rfl (rr_pickF rfl rfl) rfl rfl rfl ?_
            | refine TW_val rfl (rr_len Und.eq rfl) rfl rfl rfl ?_
            | refine TW_val rfl (rr_max rfl rfl (by omega)) rfl rfl rfl ?_
            | refine TW_val rfl (rr_lss rfl rfl (decide_eq_true (by omega))) rfl rfl rfl ?_
            | refine TW_val rfl (rr_lss rfl rfl (decide_eq_false (by omega))) rfl rfl rfl ?_
            | refine TW_val rfl (rr_gtr rfl rfl (decide_eq_true (by omega))) rfl rfl rfl ?_
            | refine TW_val rfl (rr_gtr rfl rfl (decide_eq_false (by omega))) rfl rfl rfl ?_
            | refine TW_val rfl (rr_eql rfl rfl (decide_eq_true (by omega))) rfl rfl rfl ?_
            | refine TW_val rfl (rr_eql rfl rfl (decide_eq_false (by omega))) rfl rfl rfl ?_
            | refine TW_val rfl (rr_neq rfl rfl (decide_eq_true (by omega))) rfl rfl rfl ?_
            | refine TW_val rfl (rr_neq rfl rfl (decide_eq_false (by omega))) rfl rfl rfl ?_
            | refine TW_val rfl (rr_add64 rfl rfl (by omega) (by omega) rfl) rfl rfl rfl ?_
            | refine TW_skip rfl rfl rfl rfl rfl rfl rfl ?_
            | refine TW_gval rfl (rr_move rfl) rfl rfl rfl rfl rfl ?_
            | refine TW_gval rfl (rr_len Und.eq rfl) rfl rfl rfl rfl rfl ?_
            | refine TW_gval rfl (rr_field FldC.fld rfl rfl) rfl rfl rfl rfl rfl ?_
            | refine TW_gval rfl (rr_not rfl rfl) rfl rfl rfl rfl rfl ?_
            | refine TW_gval rfl (rr_neq rfl rfl (decide_eq_true (by omega))) rfl rfl rfl rfl rfl ?_
            | refine TW_gval rfl (rr_neq rfl rfl (decide_eq_false (by omega))) rfl rfl rfl rfl rfl ?_
            | refine TW_done ?_)
          repeat (first
            | refine TL_val (rr_move rfl) rfl rfl rfl ?_
            | refine TL_val (rr_assign rfl) rfl rfl rfl ?_
            | refine TL_nil ?_
            | refine T_seq ?_
            | refine T_region ?_
            | refine T_condT rfl ?_
            | refine T_condF rfl ?_
            | refine T_skip ?_
            | refine T_exit ?_
            | refine T_ret ?_
            | refine T_block ?_
            | refine E_then ?_
            | refine E_thenX ?_
            | refine E_thenR ?_
            | refine E_blockN ?_
            | refine E_blockR ?_
            | refine E_blockX ?_
            | refine E_blockO rfl ?_
            | refine TL_val (rr_extract rfl rfl) rfl rfl rfl ?_
            | refine TL_val (rr_pickT rfl rfl) rfl rfl rfl ?_
            | refine TL_val (rr_pickF rfl rfl) rfl rfl rfl ?_
            | refine TL_val (rr_len Und.eq rfl) rfl rfl rfl ?_
            | refine TL_val (rr_max rfl rfl (by omega)) rfl rfl rfl ?_
            | refine TL_val (rr_lss rfl rfl (decide_eq_true (by omega))) rfl rfl rfl ?_
            | refine TL_val (rr_lss rfl rfl (decide_eq_false (by omega))) rfl rfl rfl ?_
            | refine TL_val (rr_gtr rfl rfl (decide_eq_true (by omega))) rfl rfl rfl ?_
            | refine TL_val (rr_gtr rfl rfl (decide_eq_false (by omega))) rfl rfl rfl ?_
            | refine TL_val (rr_eql rfl rfl (decide_eq_true (by omega))) rfl rfl rfl ?_
            | refine TL_val (rr_eql rfl rfl (decide_eq_false (by omega))) rfl rfl rfl ?_
            | refine TL_val (rr_neq rfl rfl (decide_eq_true (by omega))) rfl rfl rfl ?_
            | refine TL_val (rr_neq rfl rfl (decide_eq_false (by omega))) rfl rfl rfl ?_
            | refine TL_val (rr_add64 rfl rfl (by omega) (by omega) rfl) rfl rfl rfl ?_
            | refine TL_skip rfl rfl rfl rfl rfl rfl ?_
            | refine TL_gval (rr_move rfl) rfl rfl rfl rfl rfl ?_
            | refine TL_gval (rr_len Und.eq rfl) rfl rfl rfl rfl rfl ?_
            | refine TL_gval (rr_field FldC.fld rfl rfl) rfl rfl rfl rfl rfl ?_
            | refine TL_gval (rr_not rfl rfl) rfl rfl rfl rfl rfl ?_
            | refine TL_gval (rr_neq rfl rfl (decide_eq_true (by omega))) rfl rfl rfl rfl rfl ?_
            | refine TL_gval (rr_neq rfl rfl (decide_eq_false (by omega))) rfl rfl rfl rfl rfl ?_)
          refine E_pick [0, 1, 2, 3] (by decide) rfl ?_
          exact E_round (i + 1, s3) ⟨⟨k1, k2, k3, k4, k5, k6, k7⟩, by omega⟩ (by show max l.length (max gs.length ts.length) - (i + 1) < max l.length (max gs.length ts.length) - i; omega) (by repeat' (first | exact True.intro | refine And.intro rfl ?_)) rfl
  · repeat (first
      | refine TL_val (rr_move rfl) rfl rfl rfl ?_
      | refine TL_val (rr_assign rfl) rfl rfl rfl ?_
      | refine TL_nil ?_
      | refine T_seq ?_
      | refine T_region ?_
      | refine T_condT rfl ?_
      | refine T_condF rfl ?_
      | refine T_skip ?_
      | refine T_exit ?_
      | refine T_ret ?_
      | refine T_block ?_
      | refine E_then ?_
      | refine E_thenX ?_
      | refine E_thenR ?_
      | refine E_blockN ?_
      | refine E_blockR ?_
      | refine E_blockX ?_
      | refine E_blockO rfl ?_
      | refine TL_val (rr_max3 rfl rfl rfl rfl) rfl rfl rfl ?_
      | refine TL_val (rr_extract rfl rfl) rfl rfl rfl ?_
      | refine TL_val (rr_pickT rfl rfl) rfl rfl rfl ?_
      | refine TL_val (rr_pickF rfl rfl) rfl rfl rfl ?_
      | refine TL_val (rr_len Und.eq rfl) rfl rfl rfl ?_
      | refine TL_val (rr_max rfl rfl (by omega)) rfl rfl rfl ?_
      | refine TL_val (rr_lss rfl rfl (decide_eq_true (by omega))) rfl rfl rfl ?_
      | refine TL_val (rr_lss rfl rfl (decide_eq_false (by omega))) rfl rfl rfl ?_
      | refine TL_val (rr_gtr rfl rfl (decide_eq_true (by omega))) rfl rfl rfl ?_
      | refine TL_val (rr_gtr rfl rfl (decide_eq_false (by omega))) rfl rfl rfl ?_
      | refine TL_val (rr_eql rfl rfl (decide_eq_true (by omega))) rfl rfl rfl ?_
      | refine TL_val (rr_eql rfl rfl (decide_eq_false (by omega))) rfl rfl rfl ?_
      | refine TL_val (rr_neq rfl rfl (decide_eq_true (by omega))) rfl rfl rfl ?_
      | refine TL_val (rr_neq rfl rfl (decide_eq_false (by omega))) rfl rfl rfl ?_
      | refine TL_val (rr_add64 rfl rfl (by omega) (by omega) rfl) rfl rfl rfl ?_
      | refine TL_skip rfl rfl rfl rfl rfl rfl ?_
      | refine TL_gval (rr_move rfl) rfl rfl rfl rfl rfl ?_
      | refine TL_gval (rr_len Und.eq rfl) rfl rfl rfl rfl rfl ?_
      | refine TL_gval (rr_field FldC.fld rfl rfl) rfl rfl rfl rfl rfl ?_
      | refine TL_gval (rr_not rfl rfl) rfl rfl rfl rfl rfl ?_
      | refine TL_gval (rr_neq rfl rfl (decide_eq_true (by omega))) rfl rfl rfl rfl rfl ?_
      | refine TL_gval (rr_neq rfl rfl (decide_eq_false (by omega))) rfl rfl rfl rfl rfl ?_)
    exact E_ret1 rfl rfl fun w hm => hm.ret
end
end Go.Proofs.Ytnooleopmlijeaa.gateOrder
