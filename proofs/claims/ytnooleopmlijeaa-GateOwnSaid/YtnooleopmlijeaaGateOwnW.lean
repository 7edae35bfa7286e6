/- The walk of GateOwn. -/
import Derived.Test.YtnooleopmlijeaaGateP
import Derived.Test.YtnooleopmlijeaaEvR
import Derived.Test.YtnooleopmlijeaaGateOrderW
namespace Go.Proofs.Ytnooleopmlijeaa.gateOwn
open Go.RowKit kit mix gateL eng
open gateOrder (build_ga0 build_ev1 gtake2 ggrant2 sl_one)
theorem gtake3 (v : Value) (wait : List Ev) (c g n : Int) (hl : wait.length * 16 ≤ 140737488355328) : ∃ (wait' gone' : List Ev) (c' g' e : Int), (wait'.length ≤ wait.length ∧ gone'.length ≤ wait.length) ∧
    ∀ w, Sl w v wait.length (wait.flatMap evC) → Calls Try.prog 30 #[gaV v c g, .int .i64 n] w (Meets ⟨fun _ => True, fun (x : Value × Value) => .tuple #[gaV x.1 c' g', x.2, .int .i64 e], fun x => [rowO 56 2 x.1 wait'.length (wait'.flatMap evC), rowO 56 2 x.2 gone'.length (gone'.flatMap evC)]⟩ w) := by
  by_cases h : takeE wait c g n = 0
  · obtain ⟨h1, h2⟩ := takeE_ok h
    obtain ⟨a1, a2, a3, a4, a5, _⟩ := checkG_ok h1
    have hN : (takeN wait c n : Int) = min n (min c wait.length) := by unfold takeN; omega
    have e1 : (wait.drop (takeN wait c n)).length = wait.length - takeN wait c n := by simp
    have e2 : (wait.take (takeN wait c n)).length = takeN wait c n := by simp; omega
    refine ⟨wait.drop (takeN wait c n), wait.take (takeN wait c n), c - takeN wait c n, g + takeN wait c n, 0, ⟨by rw [e1]; omega, by rw [e2]; omega⟩, fun w hs => ?_⟩
    have := gtake_calls v wait c g n w hs hl
    unfold taS at this
    rw [if_pos h] at this
    rw [e1, e2]; exact this
  · refine ⟨wait, [], c, g, takeE wait c g n, ⟨Nat.le_refl _, Nat.zero_le _⟩, fun w hs => ?_⟩
    have := gtake_calls v wait c g n w hs hl
    unfold taS at this
    rw [if_neg h] at this
    exact this
def ev9 : Ev := (9, 0)
def rmC (l : List Ev) : Array Value := (l.flatMap evC ++ (evC ev9 ++ evC ev9) ++ [Value.int .i64 0, Value.int .i64 0]).toArray
theorem rmC_get (l : List Ev) (j : Nat) (u : Value) (h : (l.flatMap evC)[j]? = some u) : (rmC l)[j]? = some u := by
  unfold rmC
  rw [List.getElem?_toArray, List.getElem?_append_left, List.getElem?_append_left (List.getElem?_eq_some_iff.1 h).1]
  · exact h
  · have := (List.getElem?_eq_some_iff.1 h).1
    rw [List.length_append]; omega
theorem rmC_get2 (l : List Ev) (j : Nat) (u : Value) (h : (l.flatMap evC ++ (evC ev9 ++ evC ev9))[j]? = some u) : (rmC l)[j]? = some u := by
  unfold rmC
  rw [List.getElem?_toArray, List.getElem?_append_left (List.getElem?_eq_some_iff.1 h).1]
  exact h
theorem rmC_size (l : List Ev) : (rmC l).size = (l.length + 3) * 2 := by
  unfold rmC
  have := len_el EvS_len l
  simp only [List.size_toArray, List.length_append, this]
  simp [evC]; omega
theorem build_gat (b : Option Addr) (n cp : Nat) (c g : Int) (w : World) : (Instr.build 59 #[(0, .slice b n cp), (1, .int .i64 c), (2, .int .i64 g)]).run Try.prog w = .ok (.agg #[.slice b n cp, .int .i64 c, .int .i64 g]) w := by
  go_simp
theorem build_ev0 (w : World) : (Instr.build 56 (#[] : Array (Nat × Value))).run Try.prog w = .ok (.agg (evC (0, 0)).toArray) w := by
  unfold evC; go_simp
theorem putW_len (wait : List Ev) (c g : Int) (l : List Ev) : (putW wait c g l).length ≤ wait.length ∨ (putW wait c g l).length ≤ 4200 := by
  unfold putW
  split
  · rename_i h
    have := putE_ok h
    right; simp; omega
  · left; exact Nat.le_refl _
attribute [local irreducible] Instr.build in
set_option maxHeartbeats 4000000 in
theorem walkS (w : World) (vw : Value) (wait : List Ev) (c g : Int) (hs : Sl w vw wait.length (wait.flatMap evC)) (hl : wait.length * 16 ≤ 140737488351232) (vl : Value) (l : List Ev) (hs2 : Sl w vl l.length (l.flatMap evC)) (hl2 : l.length * 16 ≤ 140737488351232) :
    Calls Try.prog 9 #[gaV vw c g, vl] w (Meets (ret (.bool true)) w) := by
  have h9 : ∀ u ∈ evC ev9, u.oneCell' = true := by
    intro u hu
    simp only [evC, ev9, List.mem_cons, List.not_mem_nil, or_false] at hu
    rcases hu with rfl | rfl <;> rfl
  have hr1 := fun w' (hg : Gr w w') => roomyEvR_calls vw wait ev9 w' (hs.gr hg) (by omega) h9
  have hr2 := fun w' (hg : Gr w w') => roomyEvR_calls vl l ev9 w' (hs2.gr hg) (by omega) h9
  have hb9 : ∀ w', (Instr.build 56 #[(0, .int .i64 9)]).run Try.prog w' = .ok (.agg (evC ev9).toArray) w' := fun w' => build_ev1 9 w'
  obtain ⟨base, cap, rfl, hcap, hmax, hrd⟩ := hs
  obtain ⟨base2, cap2, rfl, hcap2, hmax2, hrd2⟩ := hs2
  have hs : Sl w (.slice base wait.length cap) wait.length (wait.flatMap evC) := ⟨base, cap, rfl, hcap, hmax, hrd⟩
  have hs2 : Sl w (.slice base2 l.length cap2) l.length (l.flatMap evC) := ⟨base2, cap2, rfl, hcap2, hmax2, hrd2⟩
  clear hrd hrd2
  unfold maxLen at hmax hmax2
  refine enter (args := [gaV (.slice base wait.length cap) c g, .slice base2 l.length cap2]) (n := 135) Try.func9 rfl rfl rfl ?_
  refine T_seq (T_region (TL_box rfl rfl rfl fun g2 => ?_))
  repeat (first
    | refine TL_val (rr_move rfl) rfl rfl rfl ?_
    | refine TL_val (rr_assign rfl) rfl rfl rfl ?_
    | refine TL_nil ?_
    | refine E_then ?_
    | refine TL_val (rr_extract rfl rfl) rfl rfl rfl ?_
    | refine TL_val (rr_pickT rfl rfl) rfl rfl rfl ?_
    | refine TL_val (rr_pickF rfl rfl) rfl rfl rfl ?_
    | refine TL_val (rr_field FldC.fld rfl rfl) rfl rfl rfl ?_
    | refine TL_val (rr_not rfl rfl) rfl rfl rfl ?_
    | refine TL_skip rfl rfl rfl rfl rfl rfl ?_
    | refine TL_gval (rr_move rfl) rfl rfl rfl rfl rfl ?_
    | refine TL_gval (rr_len Und.eq rfl) rfl rfl rfl rfl rfl ?_
    | refine TL_gval (rr_field FldC.fld rfl rfl) rfl rfl rfl rfl rfl ?_
    | refine TL_gval (rr_not rfl rfl) rfl rfl rfl rfl rfl ?_
    | refine TL_gval (rr_eql rfl rfl (decide_eq_true (by omega))) rfl rfl rfl rfl rfl ?_
    | refine TL_gval (rr_eql rfl rfl (decide_eq_false (by omega))) rfl rfl rfl rfl rfl ?_)
  (repeat refine T_seq ?_)
  refine T_midq (ι := Nat × Nat) (fun _ => True) (fun (gr, g5) => [(1, .slice base2 l.length cap2), (2, .pointer (some ⟨g2, 0, none⟩)), (5, .pointer (some ⟨g5, 0, none⟩))]) (fun (gr, g5) => [blkO g2 (gaV (.slice base wait.length cap) c g).cells 59, blkO gr (rmC wait) 56, blkO g5 (gaV (.slice (some ⟨gr, 0, none⟩) wait.length (wait.length + 3)) c g).cells 59]) ?_ ?_
  · refine T_ord ([blkO g2 (gaV (.slice base wait.length cap) c g).cells 59]) (.calm 0 (.calm 1 (.calm 2 (.calm 4 (.calm 5 (.calm 6 (.calm 7 (.two 3 (.calm 8 (.one 9 (.one 10 (.done)))) 9 (.one 3 (.calm 8 (.one 10 (.done)))))))))))) (fun _ h => h) (by kernel_rfl) (by kernel_rfl) (by intro c a d v w h; cases d <;> exact h) ?_
    repeat (first
      | refine TW_val rfl (rr_move rfl) rfl rfl rfl ?_
      | refine TW_val rfl (rr_assign rfl) rfl rfl rfl ?_
      | refine TW_val rfl (rr_load1 TyC.ty rfl (at_blk (i := 0) rfl rfl)) rfl rfl rfl ?_
      | refine TW_val rfl (rr_build rfl hb9) rfl rfl rfl ?_
      | refine TW_val rfl (rr_extract rfl rfl) rfl rfl rfl ?_
      | refine TW_val rfl (rr_pickT rfl rfl) rfl rfl rfl ?_
      | refine TW_val rfl (rr_pickF rfl rfl) rfl rfl rfl ?_
      | refine TW_val rfl (rr_field FldC.fld rfl rfl) rfl rfl rfl ?_
      | refine TW_val rfl (rr_not rfl rfl) rfl rfl rfl ?_
      | refine TW_skip rfl rfl rfl rfl rfl rfl rfl ?_
      | refine TW_gval rfl (rr_load1 TyC.ty rfl (at_blk (i := 0) rfl rfl)) rfl rfl rfl rfl rfl ?_
      | refine TW_gval rfl (rr_build rfl hb9) rfl rfl rfl rfl rfl ?_
      | refine TW_gval rfl (rr_move rfl) rfl rfl rfl rfl rfl ?_
      | refine TW_gval rfl (rr_len Und.eq rfl) rfl rfl rfl rfl rfl ?_
      | refine TW_gval rfl (rr_field FldC.fld rfl rfl) rfl rfl rfl rfl rfl ?_
      | refine TW_gval rfl (rr_not rfl rfl) rfl rfl rfl rfl rfl ?_
      | refine TW_gval rfl (rr_eql rfl rfl (decide_eq_true (by omega))) rfl rfl rfl rfl rfl ?_
      | refine TW_gval rfl (rr_eql rfl rfl (decide_eq_false (by omega))) rfl rfl rfl rfl rfl ?_
      | refine TW_done ?_)
    refine TW_two rfl rfl ?_ ?_
    · refine TL_call (he2 EntersC.en rfl rfl rfl) (fun w hm => hr1 _ hm.below) rfl rfl rfl ?_
      intro gr _
      refine TW_on (sub_pick [0] (by decide) rfl) ?_
      repeat (first
        | refine TW_val rfl (rr_move rfl) rfl rfl rfl ?_
        | refine TW_val rfl (rr_assign rfl) rfl rfl rfl ?_
        | refine TW_val rfl (rr_build rfl (build_gat _ _ _ _ _)) rfl rfl rfl ?_
        | refine TW_val rfl (rr_extract rfl rfl) rfl rfl rfl ?_
        | refine TW_val rfl (rr_pickT rfl rfl) rfl rfl rfl ?_
        | refine TW_val rfl (rr_pickF rfl rfl) rfl rfl rfl ?_
        | refine TW_val rfl (rr_field FldC.fld rfl rfl) rfl rfl rfl ?_
        | refine TW_val rfl (rr_not rfl rfl) rfl rfl rfl ?_
        | refine TW_skip rfl rfl rfl rfl rfl rfl rfl ?_
        | refine TW_gval rfl (rr_build rfl (build_gat _ _ _ _ _)) rfl rfl rfl rfl rfl ?_
        | refine TW_gval rfl (rr_move rfl) rfl rfl rfl rfl rfl ?_
        | refine TW_gval rfl (rr_len Und.eq rfl) rfl rfl rfl rfl rfl ?_
        | refine TW_gval rfl (rr_field FldC.fld rfl rfl) rfl rfl rfl rfl rfl ?_
        | refine TW_gval rfl (rr_not rfl rfl) rfl rfl rfl rfl rfl ?_
        | refine TW_gval rfl (rr_eql rfl rfl (decide_eq_true (by omega))) rfl rfl rfl rfl rfl ?_
        | refine TW_gval rfl (rr_eql rfl rfl (decide_eq_false (by omega))) rfl rfl rfl rfl rfl ?_
        | refine TW_done ?_)
      refine TW_one rfl (TL_new rfl fun g5 => TW_on (sub_pick [0] (by decide) rfl) ?_)
      refine TW_one rfl (TL_storeB (i := 2) rfl rfl rfl rfl (gaV_one rfl) rfl (TW_on (sub_pick [0] (by decide) rfl) ?_))
      repeat (first
        | refine TW_val rfl (rr_move rfl) rfl rfl rfl ?_
        | refine TW_val rfl (rr_assign rfl) rfl rfl rfl ?_
        | refine TW_val rfl (rr_extract rfl rfl) rfl rfl rfl ?_
        | refine TW_val rfl (rr_pickT rfl rfl) rfl rfl rfl ?_
        | refine TW_val rfl (rr_pickF rfl rfl) rfl rfl rfl ?_
        | refine TW_val rfl (rr_field FldC.fld rfl rfl) rfl rfl rfl ?_
        | refine TW_val rfl (rr_not rfl rfl) rfl rfl rfl ?_
        | refine TW_skip rfl rfl rfl rfl rfl rfl rfl ?_
        | refine TW_gval rfl (rr_move rfl) rfl rfl rfl rfl rfl ?_
        | refine TW_gval rfl (rr_len Und.eq rfl) rfl rfl rfl rfl rfl ?_
        | refine TW_gval rfl (rr_field FldC.fld rfl rfl) rfl rfl rfl rfl rfl ?_
        | refine TW_gval rfl (rr_not rfl rfl) rfl rfl rfl rfl rfl ?_
        | refine TW_gval rfl (rr_eql rfl rfl (decide_eq_true (by omega))) rfl rfl rfl rfl rfl ?_
        | refine TW_gval rfl (rr_eql rfl rfl (decide_eq_false (by omega))) rfl rfl rfl rfl rfl ?_
        | refine TW_done ?_)
      exact E_mid (gr, g5) trivial (by repeat' (first | exact True.intro | refine And.intro rfl ?_)) rfl
    · refine TL_new rfl fun g5 => TW_on (sub_pick [0] (by decide) rfl) ?_
      refine TW_one rfl ?_
      refine TL_call (he2 EntersC.en rfl rfl rfl) (fun w hm => hr1 _ hm.below) rfl rfl rfl ?_
      intro gr _
      refine TW_on (sub_pick [0] (by decide) rfl) ?_
      repeat (first
        | refine TW_val rfl (rr_move rfl) rfl rfl rfl ?_
        | refine TW_val rfl (rr_assign rfl) rfl rfl rfl ?_
        | refine TW_val rfl (rr_build rfl (build_gat _ _ _ _ _)) rfl rfl rfl ?_
        | refine TW_val rfl (rr_extract rfl rfl) rfl rfl rfl ?_
        | refine TW_val rfl (rr_pickT rfl rfl) rfl rfl rfl ?_
        | refine TW_val rfl (rr_pickF rfl rfl) rfl rfl rfl ?_
        | refine TW_val rfl (rr_field FldC.fld rfl rfl) rfl rfl rfl ?_
        | refine TW_val rfl (rr_not rfl rfl) rfl rfl rfl ?_
        | refine TW_skip rfl rfl rfl rfl rfl rfl rfl ?_
        | refine TW_gval rfl (rr_build rfl (build_gat _ _ _ _ _)) rfl rfl rfl rfl rfl ?_
        | refine TW_gval rfl (rr_move rfl) rfl rfl rfl rfl rfl ?_
        | refine TW_gval rfl (rr_len Und.eq rfl) rfl rfl rfl rfl rfl ?_
        | refine TW_gval rfl (rr_field FldC.fld rfl rfl) rfl rfl rfl rfl rfl ?_
        | refine TW_gval rfl (rr_not rfl rfl) rfl rfl rfl rfl rfl ?_
        | refine TW_gval rfl (rr_eql rfl rfl (decide_eq_true (by omega))) rfl rfl rfl rfl rfl ?_
        | refine TW_gval rfl (rr_eql rfl rfl (decide_eq_false (by omega))) rfl rfl rfl rfl rfl ?_
        | refine TW_done ?_)
      refine TW_one rfl (TL_storeB (i := 1) rfl rfl rfl rfl (gaV_one rfl) rfl (TW_on (sub_pick [0] (by decide) rfl) ?_))
      repeat (first
        | refine TW_val rfl (rr_move rfl) rfl rfl rfl ?_
        | refine TW_val rfl (rr_assign rfl) rfl rfl rfl ?_
        | refine TW_val rfl (rr_extract rfl rfl) rfl rfl rfl ?_
        | refine TW_val rfl (rr_pickT rfl rfl) rfl rfl rfl ?_
        | refine TW_val rfl (rr_pickF rfl rfl) rfl rfl rfl ?_
        | refine TW_val rfl (rr_field FldC.fld rfl rfl) rfl rfl rfl ?_
        | refine TW_val rfl (rr_not rfl rfl) rfl rfl rfl ?_
        | refine TW_skip rfl rfl rfl rfl rfl rfl rfl ?_
        | refine TW_gval rfl (rr_move rfl) rfl rfl rfl rfl rfl ?_
        | refine TW_gval rfl (rr_len Und.eq rfl) rfl rfl rfl rfl rfl ?_
        | refine TW_gval rfl (rr_field FldC.fld rfl rfl) rfl rfl rfl rfl rfl ?_
        | refine TW_gval rfl (rr_not rfl rfl) rfl rfl rfl rfl rfl ?_
        | refine TW_gval rfl (rr_eql rfl rfl (decide_eq_true (by omega))) rfl rfl rfl rfl rfl ?_
        | refine TW_gval rfl (rr_eql rfl rfl (decide_eq_false (by omega))) rfl rfl rfl rfl rfl ?_
        | refine TW_done ?_)
      refine E_pick [0, 2, 1] (by decide) rfl ?_
      exact E_mid (gr, g5) trivial (by repeat' (first | exact True.intro | refine And.intro rfl ?_)) rfl
  rintro ⟨gr, g5⟩ _
  dsimp only
  have hrw : ∀ (L : List Own), L[1]? = some (blkO gr (rmC wait) 56) → SlL w L (.slice (some ⟨gr, 0, none⟩) wait.length (wait.length + 3)) wait.length (wait.flatMap evC) := fun L h => sl_blk h (rmC_get wait) (by omega) (by omega)
  have hput := fun gm w' hx hy => gput_calls (.slice (some ⟨gr, 0, none⟩) wait.length (wait.length + 3)) wait c g (.slice (some ⟨gm, 0, none⟩) l.length (l.length + 3)) l w' hx (by omega) hy
  obtain ⟨wb, gone, cb, gb, eb, ⟨hwb, hgone⟩, htake⟩ := gtake3 (.slice (some ⟨gr, 0, none⟩) wait.length (wait.length + 3)) wait c g 1048576 (by omega)
  obtain ⟨cc, ec, _, hgrant⟩ := ggrant2 (.slice (some ⟨gr, 0, none⟩) wait.length (wait.length + 3)) wait c g 1 (by omega)
  have hsame := fun w' hx hg => sameGate_calls (.slice (some ⟨gr, 0, none⟩) wait.length (wait.length + 3)) wait c g (.slice base wait.length cap) wait c g w' hx (hs.gr hg)
  rw [decide_eq_true rfl, decide_eq_true rfl, decide_eq_true rfl] at hsame
  have heq := fun gm w' hx hg => equalEvS_calls (.slice (some ⟨gm, 0, none⟩) l.length (l.length + 3)) (.slice base2 l.length cap2) l l w' hx (hs2.gr hg)
  rw [decide_eq_true rfl] at heq
  have hpw := putW_len wait c g l
  generalize putW wait c g l = wa at *
  generalize putE wait c g l = ea at *
  repeat (first
    | refine TL_val (rr_move rfl) rfl rfl rfl ?_
    | refine TL_val (rr_assign rfl) rfl rfl rfl ?_
    | refine TL_nil ?_
    | refine T_seq ?_
    | refine T_region ?_
    | refine T_condT rfl ?_
    | refine T_condF rfl ?_
    | refine T_skip ?_
    | refine T_ret ?_
    | refine E_then ?_
    | refine E_thenR ?_
    | refine TL_val (rr_build rfl hb9) rfl rfl rfl ?_
    | refine TL_val (rr_extract rfl rfl) rfl rfl rfl ?_
    | refine TL_val (rr_pickT rfl rfl) rfl rfl rfl ?_
    | refine TL_val (rr_pickF rfl rfl) rfl rfl rfl ?_
    | refine TL_val (rr_field FldC.fld rfl rfl) rfl rfl rfl ?_
    | refine TL_val (rr_not rfl rfl) rfl rfl rfl ?_
    | refine TL_skip rfl rfl rfl rfl rfl rfl ?_
    | refine TL_gval (rr_build rfl hb9) rfl rfl rfl rfl rfl ?_
    | refine TL_gval (rr_move rfl) rfl rfl rfl rfl rfl ?_
    | refine TL_gval (rr_len Und.eq rfl) rfl rfl rfl rfl rfl ?_
    | refine TL_gval (rr_field FldC.fld rfl rfl) rfl rfl rfl rfl rfl ?_
    | refine TL_gval (rr_not rfl rfl) rfl rfl rfl rfl rfl ?_
    | refine TL_gval (rr_eql rfl rfl (decide_eq_true (by omega))) rfl rfl rfl rfl rfl ?_
    | refine TL_gval (rr_eql rfl rfl (decide_eq_false (by omega))) rfl rfl rfl rfl rfl ?_)
  refine TL_call (he2 EntersC.en rfl rfl rfl) (fun w hm => hr2 _ hm.below) rfl rfl rfl ?_
  intro gm _
  have hrl : ∀ (L : List Own), L[3]? = some (blkO gm (rmC l) 56) → SlL w L (.slice (some ⟨gm, 0, none⟩) l.length (l.length + 3)) l.length (l.flatMap evC) := fun L h => sl_blk h (rmC_get l) (by omega) (by omega)
  repeat (first
    | refine TL_val (rr_move rfl) rfl rfl rfl ?_
    | refine TL_val (rr_assign rfl) rfl rfl rfl ?_
    | refine TL_nil ?_
    | refine T_seq ?_
    | refine T_region ?_
    | refine T_condT rfl ?_
    | refine T_condF rfl ?_
    | refine T_skip ?_
    | refine T_ret ?_
    | refine E_then ?_
    | refine E_thenR ?_
    | refine TL_val (rr_loadB (i := 2) TyC.ty rfl rfl rfl) rfl rfl rfl ?_
    | refine TL_val (rr_extract rfl rfl) rfl rfl rfl ?_
    | refine TL_val (rr_pickT rfl rfl) rfl rfl rfl ?_
    | refine TL_val (rr_pickF rfl rfl) rfl rfl rfl ?_
    | refine TL_val (rr_field FldC.fld rfl rfl) rfl rfl rfl ?_
    | refine TL_val (rr_not rfl rfl) rfl rfl rfl ?_
    | refine TL_skip rfl rfl rfl rfl rfl rfl ?_
    | refine TL_gval (rr_loadB (i := 2) TyC.ty rfl rfl rfl) rfl rfl rfl rfl rfl ?_
    | refine TL_gval (rr_move rfl) rfl rfl rfl rfl rfl ?_
    | refine TL_gval (rr_len Und.eq rfl) rfl rfl rfl rfl rfl ?_
    | refine TL_gval (rr_field FldC.fld rfl rfl) rfl rfl rfl rfl rfl ?_
    | refine TL_gval (rr_not rfl rfl) rfl rfl rfl rfl rfl ?_
    | refine TL_gval (rr_eql rfl rfl (decide_eq_true (by omega))) rfl rfl rfl rfl rfl ?_
    | refine TL_gval (rr_eql rfl rfl (decide_eq_false (by omega))) rfl rfl rfl rfl rfl ?_)
  refine TL_call (he2 EntersC.en rfl rfl rfl) (fun w hm => hput gm _ (hrw _ rfl w hm) (hrl _ rfl w hm)) rfl rfl rfl ?_
  intro va _
  repeat (first
    | refine TL_val (rr_move rfl) rfl rfl rfl ?_
    | refine TL_val (rr_assign rfl) rfl rfl rfl ?_
    | refine TL_nil ?_
    | refine T_seq ?_
    | refine T_region ?_
    | refine T_condT rfl ?_
    | refine T_condF rfl ?_
    | refine T_skip ?_
    | refine T_ret ?_
    | refine E_then ?_
    | refine E_thenR ?_
    | refine TL_val (rr_extract rfl rfl) rfl rfl rfl ?_
    | refine TL_val (rr_pickT rfl rfl) rfl rfl rfl ?_
    | refine TL_val (rr_pickF rfl rfl) rfl rfl rfl ?_
    | refine TL_val (rr_field FldC.fld rfl rfl) rfl rfl rfl ?_
    | refine TL_val (rr_not rfl rfl) rfl rfl rfl ?_
    | refine TL_skip rfl rfl rfl rfl rfl rfl ?_
    | refine TL_gval (rr_move rfl) rfl rfl rfl rfl rfl ?_
    | refine TL_gval (rr_len Und.eq rfl) rfl rfl rfl rfl rfl ?_
    | refine TL_gval (rr_field FldC.fld rfl rfl) rfl rfl rfl rfl rfl ?_
    | refine TL_gval (rr_not rfl rfl) rfl rfl rfl rfl rfl ?_
    | refine TL_gval (rr_eql rfl rfl (decide_eq_true (by omega))) rfl rfl rfl rfl rfl ?_
    | refine TL_gval (rr_eql rfl rfl (decide_eq_false (by omega))) rfl rfl rfl rfl rfl ?_)
  refine TL_new rfl fun g7 => ?_
  refine TL_slv (i := 4) rfl fun hc1 ho1 => ?_
  refine TL_storeB (i := 5) rfl rfl rfl rfl (gaV_one ho1) rfl ?_
  conv => arg 8; simp only [List.cons_append, List.nil_append, List.append_nil, List.filterMap_cons, List.filterMap_nil, List.getElem?_cons_succ, List.getElem?_cons_zero, List.set_cons_zero, List.set_cons_succ, gaS, rowS, ret, id_eq]
  repeat (first
    | refine TL_val (rr_move rfl) rfl rfl rfl ?_
    | refine TL_val (rr_assign rfl) rfl rfl rfl ?_
    | refine TL_nil ?_
    | refine T_seq ?_
    | refine T_region ?_
    | refine T_condT rfl ?_
    | refine T_condF rfl ?_
    | refine T_skip ?_
    | refine T_ret ?_
    | refine E_then ?_
    | refine E_thenR ?_
    | refine TL_val (rr_loadB (i := 2) TyC.ty rfl rfl rfl) rfl rfl rfl ?_
    | refine TL_val (rr_extract rfl rfl) rfl rfl rfl ?_
    | refine TL_val (rr_pickT rfl rfl) rfl rfl rfl ?_
    | refine TL_val (rr_pickF rfl rfl) rfl rfl rfl ?_
    | refine TL_val (rr_field FldC.fld rfl rfl) rfl rfl rfl ?_
    | refine TL_val (rr_not rfl rfl) rfl rfl rfl ?_
    | refine TL_skip rfl rfl rfl rfl rfl rfl ?_
    | refine TL_gval (rr_loadB (i := 2) TyC.ty rfl rfl rfl) rfl rfl rfl rfl rfl ?_
    | refine TL_gval (rr_move rfl) rfl rfl rfl rfl rfl ?_
    | refine TL_gval (rr_len Und.eq rfl) rfl rfl rfl rfl rfl ?_
    | refine TL_gval (rr_field FldC.fld rfl rfl) rfl rfl rfl rfl rfl ?_
    | refine TL_gval (rr_not rfl rfl) rfl rfl rfl rfl rfl ?_
    | refine TL_gval (rr_eql rfl rfl (decide_eq_true (by omega))) rfl rfl rfl rfl rfl ?_
    | refine TL_gval (rr_eql rfl rfl (decide_eq_false (by omega))) rfl rfl rfl rfl rfl ?_)
  refine TL_call (he2 EntersC.en rfl rfl rfl) (fun w hm => htake _ (hrw _ rfl w hm)) rfl rfl rfl ?_
  rintro ⟨vb, vg⟩ _
  repeat (first
    | refine TL_val (rr_move rfl) rfl rfl rfl ?_
    | refine TL_val (rr_assign rfl) rfl rfl rfl ?_
    | refine TL_nil ?_
    | refine T_seq ?_
    | refine T_region ?_
    | refine T_condT rfl ?_
    | refine T_condF rfl ?_
    | refine T_skip ?_
    | refine T_ret ?_
    | refine E_then ?_
    | refine E_thenR ?_
    | refine TL_val (rr_extract rfl rfl) rfl rfl rfl ?_
    | refine TL_val (rr_pickT rfl rfl) rfl rfl rfl ?_
    | refine TL_val (rr_pickF rfl rfl) rfl rfl rfl ?_
    | refine TL_val (rr_field FldC.fld rfl rfl) rfl rfl rfl ?_
    | refine TL_val (rr_not rfl rfl) rfl rfl rfl ?_
    | refine TL_skip rfl rfl rfl rfl rfl rfl ?_
    | refine TL_gval (rr_move rfl) rfl rfl rfl rfl rfl ?_
    | refine TL_gval (rr_len Und.eq rfl) rfl rfl rfl rfl rfl ?_
    | refine TL_gval (rr_field FldC.fld rfl rfl) rfl rfl rfl rfl rfl ?_
    | refine TL_gval (rr_not rfl rfl) rfl rfl rfl rfl rfl ?_
    | refine TL_gval (rr_eql rfl rfl (decide_eq_true (by omega))) rfl rfl rfl rfl rfl ?_
    | refine TL_gval (rr_eql rfl rfl (decide_eq_false (by omega))) rfl rfl rfl rfl rfl ?_)
  refine TL_new rfl fun g9 => ?_
  refine TL_slv (i := 6) rfl fun hc2 ho2 => ?_
  refine TL_storeB (i := 8) rfl rfl rfl rfl (gaV_one ho2) rfl ?_
  conv => arg 8; simp only [List.cons_append, List.nil_append, List.append_nil, List.filterMap_cons, List.filterMap_nil, List.getElem?_cons_succ, List.getElem?_cons_zero, List.set_cons_zero, List.set_cons_succ, gaS, rowS, ret, id_eq]
  repeat (first
    | refine TL_val (rr_move rfl) rfl rfl rfl ?_
    | refine TL_val (rr_assign rfl) rfl rfl rfl ?_
    | refine TL_nil ?_
    | refine T_seq ?_
    | refine T_region ?_
    | refine T_condT rfl ?_
    | refine T_condF rfl ?_
    | refine T_skip ?_
    | refine T_ret ?_
    | refine E_then ?_
    | refine E_thenR ?_
    | refine TL_val (rr_loadB (i := 2) TyC.ty rfl rfl rfl) rfl rfl rfl ?_
    | refine TL_val (rr_extract rfl rfl) rfl rfl rfl ?_
    | refine TL_val (rr_pickT rfl rfl) rfl rfl rfl ?_
    | refine TL_val (rr_pickF rfl rfl) rfl rfl rfl ?_
    | refine TL_val (rr_field FldC.fld rfl rfl) rfl rfl rfl ?_
    | refine TL_val (rr_not rfl rfl) rfl rfl rfl ?_
    | refine TL_skip rfl rfl rfl rfl rfl rfl ?_
    | refine TL_gval (rr_loadB (i := 2) TyC.ty rfl rfl rfl) rfl rfl rfl rfl rfl ?_
    | refine TL_gval (rr_move rfl) rfl rfl rfl rfl rfl ?_
    | refine TL_gval (rr_len Und.eq rfl) rfl rfl rfl rfl rfl ?_
    | refine TL_gval (rr_field FldC.fld rfl rfl) rfl rfl rfl rfl rfl ?_
    | refine TL_gval (rr_not rfl rfl) rfl rfl rfl rfl rfl ?_
    | refine TL_gval (rr_eql rfl rfl (decide_eq_true (by omega))) rfl rfl rfl rfl rfl ?_
    | refine TL_gval (rr_eql rfl rfl (decide_eq_false (by omega))) rfl rfl rfl rfl rfl ?_)
  refine TL_call (he2 EntersC.en rfl rfl rfl) (fun w hm => hgrant _ (hrw _ rfl w hm)) rfl rfl rfl ?_
  intro vc _
  repeat (first
    | refine TL_val (rr_move rfl) rfl rfl rfl ?_
    | refine TL_val (rr_assign rfl) rfl rfl rfl ?_
    | refine TL_nil ?_
    | refine T_seq ?_
    | refine T_region ?_
    | refine T_condT rfl ?_
    | refine T_condF rfl ?_
    | refine T_skip ?_
    | refine T_ret ?_
    | refine E_then ?_
    | refine E_thenR ?_
    | refine TL_val (rr_extract rfl rfl) rfl rfl rfl ?_
    | refine TL_val (rr_pickT rfl rfl) rfl rfl rfl ?_
    | refine TL_val (rr_pickF rfl rfl) rfl rfl rfl ?_
    | refine TL_val (rr_field FldC.fld rfl rfl) rfl rfl rfl ?_
    | refine TL_val (rr_not rfl rfl) rfl rfl rfl ?_
    | refine TL_skip rfl rfl rfl rfl rfl rfl ?_
    | refine TL_gval (rr_move rfl) rfl rfl rfl rfl rfl ?_
    | refine TL_gval (rr_len Und.eq rfl) rfl rfl rfl rfl rfl ?_
    | refine TL_gval (rr_field FldC.fld rfl rfl) rfl rfl rfl rfl rfl ?_
    | refine TL_gval (rr_not rfl rfl) rfl rfl rfl rfl rfl ?_
    | refine TL_gval (rr_eql rfl rfl (decide_eq_true (by omega))) rfl rfl rfl rfl rfl ?_
    | refine TL_gval (rr_eql rfl rfl (decide_eq_false (by omega))) rfl rfl rfl rfl rfl ?_)
  refine TL_new rfl fun g12 => ?_
  refine TL_slv (i := 9) rfl fun hc3 ho3 => ?_
  refine TL_storeB (i := 10) rfl rfl rfl rfl (gaV_one ho3) rfl ?_
  conv => arg 8; simp only [List.cons_append, List.nil_append, List.append_nil, List.filterMap_cons, List.filterMap_nil, List.getElem?_cons_succ, List.getElem?_cons_zero, List.set_cons_zero, List.set_cons_succ, gaS, rowS, ret, id_eq]
  repeat (first
    | refine TL_val (rr_move rfl) rfl rfl rfl ?_
    | refine TL_val (rr_assign rfl) rfl rfl rfl ?_
    | refine TL_nil ?_
    | refine T_seq ?_
    | refine T_region ?_
    | refine T_condT rfl ?_
    | refine T_condF rfl ?_
    | refine T_skip ?_
    | refine T_ret ?_
    | refine E_then ?_
    | refine E_thenR ?_
    | refine TL_val (rr_loadB (i := 2) TyC.ty rfl rfl rfl) rfl rfl rfl ?_
    | refine TL_val (rr_loadB (i := 0) TyC.ty rfl rfl rfl) rfl rfl rfl ?_
    | refine TL_val (rr_extract rfl rfl) rfl rfl rfl ?_
    | refine TL_val (rr_pickT rfl rfl) rfl rfl rfl ?_
    | refine TL_val (rr_pickF rfl rfl) rfl rfl rfl ?_
    | refine TL_val (rr_field FldC.fld rfl rfl) rfl rfl rfl ?_
    | refine TL_val (rr_not rfl rfl) rfl rfl rfl ?_
    | refine TL_skip rfl rfl rfl rfl rfl rfl ?_
    | refine TL_gval (rr_loadB (i := 2) TyC.ty rfl rfl rfl) rfl rfl rfl rfl rfl ?_
    | refine TL_gval (rr_loadB (i := 0) TyC.ty rfl rfl rfl) rfl rfl rfl rfl rfl ?_
    | refine TL_gval (rr_move rfl) rfl rfl rfl rfl rfl ?_
    | refine TL_gval (rr_len Und.eq rfl) rfl rfl rfl rfl rfl ?_
    | refine TL_gval (rr_field FldC.fld rfl rfl) rfl rfl rfl rfl rfl ?_
    | refine TL_gval (rr_not rfl rfl) rfl rfl rfl rfl rfl ?_
    | refine TL_gval (rr_eql rfl rfl (decide_eq_true (by omega))) rfl rfl rfl rfl rfl ?_
    | refine TL_gval (rr_eql rfl rfl (decide_eq_false (by omega))) rfl rfl rfl rfl rfl ?_)
  refine TL_call (he2 EntersC.en rfl rfl rfl) (fun w hm => hsame _ (hrw _ rfl w hm) hm.below) rfl rfl rfl ?_
  intro _ _
  repeat (first
    | refine TL_val (rr_move rfl) rfl rfl rfl ?_
    | refine TL_val (rr_assign rfl) rfl rfl rfl ?_
    | refine TL_nil ?_
    | refine T_seq ?_
    | refine T_region ?_
    | refine T_condT rfl ?_
    | refine T_condF rfl ?_
    | refine T_skip ?_
    | refine T_ret ?_
    | refine E_then ?_
    | refine E_thenR ?_
    | refine TL_val (rr_extract rfl rfl) rfl rfl rfl ?_
    | refine TL_val (rr_pickT rfl rfl) rfl rfl rfl ?_
    | refine TL_val (rr_pickF rfl rfl) rfl rfl rfl ?_
    | refine TL_val (rr_field FldC.fld rfl rfl) rfl rfl rfl ?_
    | refine TL_val (rr_not rfl rfl) rfl rfl rfl ?_
    | refine TL_skip rfl rfl rfl rfl rfl rfl ?_
    | refine TL_gval (rr_move rfl) rfl rfl rfl rfl rfl ?_
    | refine TL_gval (rr_len Und.eq rfl) rfl rfl rfl rfl rfl ?_
    | refine TL_gval (rr_field FldC.fld rfl rfl) rfl rfl rfl rfl rfl ?_
    | refine TL_gval (rr_not rfl rfl) rfl rfl rfl rfl rfl ?_
    | refine TL_gval (rr_eql rfl rfl (decide_eq_true (by omega))) rfl rfl rfl rfl rfl ?_
    | refine TL_gval (rr_eql rfl rfl (decide_eq_false (by omega))) rfl rfl rfl rfl rfl ?_)
  refine TL_gcall (he2 EntersC.en rfl rfl rfl) (fun w hm => heq gm _ (hrl _ rfl w hm) hm.below) rfl rfl rfl rfl rfl ?_
  intro _ _
  repeat (first
    | refine TL_val (rr_move rfl) rfl rfl rfl ?_
    | refine TL_val (rr_assign rfl) rfl rfl rfl ?_
    | refine TL_nil ?_
    | refine T_seq ?_
    | refine T_region ?_
    | refine T_condT rfl ?_
    | refine T_condF rfl ?_
    | refine T_skip ?_
    | refine T_ret ?_
    | refine E_then ?_
    | refine E_thenR ?_
    | refine TL_val (rr_load1 TyC.ty rfl (at_blk (i := 2) rfl rfl)) rfl rfl rfl ?_
    | refine TL_val (rr_build rfl hb9) rfl rfl rfl ?_
    | refine TL_val (rr_extract rfl rfl) rfl rfl rfl ?_
    | refine TL_val (rr_pickT rfl rfl) rfl rfl rfl ?_
    | refine TL_val (rr_pickF rfl rfl) rfl rfl rfl ?_
    | refine TL_val (rr_field FldC.fld rfl rfl) rfl rfl rfl ?_
    | refine TL_val (rr_not rfl rfl) rfl rfl rfl ?_
    | refine TL_skip rfl rfl rfl rfl rfl rfl ?_
    | refine TL_gval (rr_load1 TyC.ty rfl (at_blk (i := 2) rfl rfl)) rfl rfl rfl rfl rfl ?_
    | refine TL_gval (rr_build rfl hb9) rfl rfl rfl rfl rfl ?_
    | refine TL_gval (rr_move rfl) rfl rfl rfl rfl rfl ?_
    | refine TL_gval (rr_len Und.eq rfl) rfl rfl rfl rfl rfl ?_
    | refine TL_gval (rr_field FldC.fld rfl rfl) rfl rfl rfl rfl rfl ?_
    | refine TL_gval (rr_not rfl rfl) rfl rfl rfl rfl rfl ?_
    | refine TL_gval (rr_eql rfl rfl (decide_eq_true (by omega))) rfl rfl rfl rfl rfl ?_
    | refine TL_gval (rr_eql rfl rfl (decide_eq_false (by omega))) rfl rfl rfl rfl rfl ?_)
  refine TL_gcall (he2 EntersC.en rfl rfl rfl) (fun w hm => filledEvR_calls gr (wait.length + 3) wait ev9 w (by omega) (by omega) (fun j u hj => at_blk (i := 1) rfl (rmC_get2 wait j u hj) w hm)) rfl rfl rfl rfl rfl ?_
  intro _ _
  repeat (first
    | refine TL_val (rr_move rfl) rfl rfl rfl ?_
    | refine TL_val (rr_assign rfl) rfl rfl rfl ?_
    | refine TL_nil ?_
    | refine T_seq ?_
    | refine T_region ?_
    | refine T_condT rfl ?_
    | refine T_condF rfl ?_
    | refine T_skip ?_
    | refine T_ret ?_
    | refine E_then ?_
    | refine E_thenR ?_
    | refine TL_val (rr_build rfl hb9) rfl rfl rfl ?_
    | refine TL_val (rr_extract rfl rfl) rfl rfl rfl ?_
    | refine TL_val (rr_pickT rfl rfl) rfl rfl rfl ?_
    | refine TL_val (rr_pickF rfl rfl) rfl rfl rfl ?_
    | refine TL_val (rr_field FldC.fld rfl rfl) rfl rfl rfl ?_
    | refine TL_val (rr_not rfl rfl) rfl rfl rfl ?_
    | refine TL_skip rfl rfl rfl rfl rfl rfl ?_
    | refine TL_gval (rr_build rfl hb9) rfl rfl rfl rfl rfl ?_
    | refine TL_gval (rr_move rfl) rfl rfl rfl rfl rfl ?_
    | refine TL_gval (rr_len Und.eq rfl) rfl rfl rfl rfl rfl ?_
    | refine TL_gval (rr_field FldC.fld rfl rfl) rfl rfl rfl rfl rfl ?_
    | refine TL_gval (rr_not rfl rfl) rfl rfl rfl rfl rfl ?_
    | refine TL_gval (rr_eql rfl rfl (decide_eq_true (by omega))) rfl rfl rfl rfl rfl ?_
    | refine TL_gval (rr_eql rfl rfl (decide_eq_false (by omega))) rfl rfl rfl rfl rfl ?_)
  refine TL_gcall (he2 EntersC.en rfl rfl rfl) (fun w hm => filledEvR_calls gm (l.length + 3) l ev9 w (by omega) (by omega) (fun j u hj => at_blk (i := 3) rfl (rmC_get2 l j u hj) w hm)) rfl rfl rfl rfl rfl ?_
  intro _ _
  clear hput htake hgrant hsame heq hrw hrl
  repeat (first
    | refine TL_val (rr_move rfl) rfl rfl rfl ?_
    | refine TL_val (rr_assign rfl) rfl rfl rfl ?_
    | refine TL_nil ?_
    | refine T_seq ?_
    | refine T_region ?_
    | refine T_condT rfl ?_
    | refine T_condF rfl ?_
    | refine T_skip ?_
    | refine T_ret ?_
    | refine E_then ?_
    | refine E_thenR ?_
    | refine TL_val (rr_extract rfl rfl) rfl rfl rfl ?_
    | refine TL_val (rr_pickT rfl rfl) rfl rfl rfl ?_
    | refine TL_val (rr_pickF rfl rfl) rfl rfl rfl ?_
    | refine TL_val (rr_field FldC.fld rfl rfl) rfl rfl rfl ?_
    | refine TL_val (rr_not rfl rfl) rfl rfl rfl ?_
    | refine TL_skip rfl rfl rfl rfl rfl rfl ?_
    | refine TL_gval (rr_move rfl) rfl rfl rfl rfl rfl ?_
    | refine TL_gval (rr_len Und.eq rfl) rfl rfl rfl rfl rfl ?_
    | refine TL_gval (rr_field FldC.fld rfl rfl) rfl rfl rfl rfl rfl ?_
    | refine TL_gval (rr_not rfl rfl) rfl rfl rfl rfl rfl ?_
    | refine TL_gval (rr_eql rfl rfl (decide_eq_true (by omega))) rfl rfl rfl rfl rfl ?_
    | refine TL_gval (rr_eql rfl rfl (decide_eq_false (by omega))) rfl rfl rfl rfl rfl ?_)
  conv => arg 7; simp only [List.cons_append, List.nil_append, List.append_nil, List.filterMap_cons, List.filterMap_nil, List.getElem?_cons_succ, List.getElem?_cons_zero, List.set_cons_zero, List.set_cons_succ, gaS, rowS, ret, id_eq]
  refine T_ord ([blkO g7 (gaV va c g).cells 59, blkO g9 (gaV vb cb gb).cells 59, blkO g12 (gaV vc cc g).cells 59]) (.calm 0 (.calm 1 (.calm 3 (.calm 4 (.calm 6 (.calm 7 (.calm 9 (.one 2 (.one 5 (.one 8 (.one 10 (.calm 11 (.calm 12 (.calm 13 (.calm 14 (.done)))))))))))))))) (sub_pick [5, 8, 10] (by decide) rfl) (by kernel_rfl) (by kernel_rfl) (by intro c a d v w h; cases d <;> exact h) ?_
  repeat (first
    | refine TW_val rfl (rr_move rfl) rfl rfl rfl ?_
    | refine TW_val rfl (rr_assign rfl) rfl rfl rfl ?_
    | refine TW_val rfl (rr_load1 TyC.ty rfl (at_blk (i := 0) rfl rfl)) rfl rfl rfl ?_
    | refine TW_val rfl (rr_load1 TyC.ty rfl (at_blk (i := 1) rfl rfl)) rfl rfl rfl ?_
    | refine TW_val rfl (rr_load1 TyC.ty rfl (at_blk (i := 2) rfl rfl)) rfl rfl rfl ?_
    | refine TW_val rfl (rr_extract rfl rfl) rfl rfl rfl ?_
    | refine TW_val rfl (rr_pickT rfl rfl) rfl rfl rfl ?_
    | refine TW_val rfl (rr_pickF rfl rfl) rfl rfl rfl ?_
    | refine TW_val rfl (rr_field FldC.fld rfl rfl) rfl rfl rfl ?_
    | refine TW_val rfl (rr_not rfl rfl) rfl rfl rfl ?_
    | refine TW_skip rfl rfl rfl rfl rfl rfl rfl ?_
    | refine TW_gval rfl (rr_load1 TyC.ty rfl (at_blk (i := 0) rfl rfl)) rfl rfl rfl rfl rfl ?_
    | refine TW_gval rfl (rr_load1 TyC.ty rfl (at_blk (i := 1) rfl rfl)) rfl rfl rfl rfl rfl ?_
    | refine TW_gval rfl (rr_load1 TyC.ty rfl (at_blk (i := 2) rfl rfl)) rfl rfl rfl rfl rfl ?_
    | refine TW_gval rfl (rr_move rfl) rfl rfl rfl rfl rfl ?_
    | refine TW_gval rfl (rr_len Und.eq rfl) rfl rfl rfl rfl rfl ?_
    | refine TW_gval rfl (rr_field FldC.fld rfl rfl) rfl rfl rfl rfl rfl ?_
    | refine TW_gval rfl (rr_not rfl rfl) rfl rfl rfl rfl rfl ?_
    | refine TW_gval rfl (rr_eql rfl rfl (decide_eq_true (by omega))) rfl rfl rfl rfl rfl ?_
    | refine TW_gval rfl (rr_eql rfl rfl (decide_eq_false (by omega))) rfl rfl rfl rfl rfl ?_
    | refine TW_done ?_)
  refine TW_one rfl ?_
  refine TL_call (he1 EntersC.en rfl rfl) (fun w hm => cloneEvS_calls va wa w (sl_row (i := 4) rfl w hm) (by omega)) rfl rfl rfl ?_
  intro vx _
  conv => arg 8; simp only [List.cons_append, List.nil_append, List.append_nil, List.filterMap_cons, List.filterMap_nil, List.getElem?_cons_succ, List.getElem?_cons_zero, List.set_cons_zero, List.set_cons_succ, gaS, rowS, ret, id_eq]
  refine TW_on (sub_pick [5, 8, 10] (by decide) rfl) ?_
  refine TW_one rfl ?_
  refine TL_call (he1 EntersC.en rfl rfl) (fun w hm => cloneEvS_calls vb wb w (sl_row (i := 6) rfl w hm) (by omega)) rfl rfl rfl ?_
  intro vy _
  conv => arg 8; simp only [List.cons_append, List.nil_append, List.append_nil, List.filterMap_cons, List.filterMap_nil, List.getElem?_cons_succ, List.getElem?_cons_zero, List.set_cons_zero, List.set_cons_succ, gaS, rowS, ret, id_eq]
  refine TW_on (sub_pick [5, 8, 10] (by decide) rfl) ?_
  refine TW_one rfl ?_
  refine TL_call (he1 EntersC.en rfl rfl) (fun w hm => cloneEvS_calls vc wait w (sl_row (i := 9) rfl w hm) (by omega)) rfl rfl rfl ?_
  intro vz _
  conv => arg 8; simp only [List.cons_append, List.nil_append, List.append_nil, List.filterMap_cons, List.filterMap_nil, List.getElem?_cons_succ, List.getElem?_cons_zero, List.set_cons_zero, List.set_cons_succ, gaS, rowS, ret, id_eq]
  refine TW_on (sub_pick [5, 8, 10] (by decide) rfl) ?_
  refine TW_one rfl ?_
  refine TL_call (he1 EntersC.en rfl rfl) (fun w hm => cloneEvS_calls vg gone w (sl_row (i := 7) rfl w hm) (by omega)) rfl rfl rfl ?_
  intro vu _
  conv => arg 8; simp only [List.cons_append, List.nil_append, List.append_nil, List.filterMap_cons, List.filterMap_nil, List.getElem?_cons_succ, List.getElem?_cons_zero, List.set_cons_zero, List.set_cons_succ, gaS, rowS, ret, id_eq]
  refine TW_on (sub_pick [5, 8, 10] (by decide) rfl) ?_
  repeat (first
    | refine TW_val rfl (rr_move rfl) rfl rfl rfl ?_
    | refine TW_val rfl (rr_assign rfl) rfl rfl rfl ?_
    | refine TW_val rfl (rr_extract rfl rfl) rfl rfl rfl ?_
    | refine TW_val rfl (rr_pickT rfl rfl) rfl rfl rfl ?_
    | refine TW_val rfl (rr_pickF rfl rfl) rfl rfl rfl ?_
    | refine TW_val rfl (rr_field FldC.fld rfl rfl) rfl rfl rfl ?_
    | refine TW_val rfl (rr_not rfl rfl) rfl rfl rfl ?_
    | refine TW_skip rfl rfl rfl rfl rfl rfl rfl ?_
    | refine TW_gval rfl (rr_move rfl) rfl rfl rfl rfl rfl ?_
    | refine TW_gval rfl (rr_len Und.eq rfl) rfl rfl rfl rfl rfl ?_
    | refine TW_gval rfl (rr_field FldC.fld rfl rfl) rfl rfl rfl rfl rfl ?_
    | refine TW_gval rfl (rr_not rfl rfl) rfl rfl rfl rfl rfl ?_
    | refine TW_gval rfl (rr_eql rfl rfl (decide_eq_true (by omega))) rfl rfl rfl rfl rfl ?_
    | refine TW_gval rfl (rr_eql rfl rfl (decide_eq_false (by omega))) rfl rfl rfl rfl rfl ?_
    | refine TW_done ?_)
  have hb0 : ∀ w', (Instr.build 56 (#[] : Array (Nat × Value))).run Try.prog w' = .ok (.agg (evC (0, 0)).toArray) w' := build_ev0
  repeat (first
    | refine TL_val (rr_move rfl) rfl rfl rfl ?_
    | refine TL_val (rr_assign rfl) rfl rfl rfl ?_
    | refine TL_nil ?_
    | refine T_seq ?_
    | refine T_region ?_
    | refine T_condT rfl ?_
    | refine T_condF rfl ?_
    | refine T_skip ?_
    | refine T_ret ?_
    | refine E_then ?_
    | refine E_thenR ?_
    | refine TL_val (rr_load1 TyC.ty rfl (at_blk (i := 2) rfl rfl)) rfl rfl rfl ?_
    | refine TL_val (rr_build rfl hb0) rfl rfl rfl ?_
    | refine TL_val (rr_extract rfl rfl) rfl rfl rfl ?_
    | refine TL_val (rr_pickT rfl rfl) rfl rfl rfl ?_
    | refine TL_val (rr_pickF rfl rfl) rfl rfl rfl ?_
    | refine TL_val (rr_field FldC.fld rfl rfl) rfl rfl rfl ?_
    | refine TL_val (rr_not rfl rfl) rfl rfl rfl ?_
    | refine TL_skip rfl rfl rfl rfl rfl rfl ?_
    | refine TL_gval (rr_load1 TyC.ty rfl (at_blk (i := 2) rfl rfl)) rfl rfl rfl rfl rfl ?_
    | refine TL_gval (rr_build rfl hb0) rfl rfl rfl rfl rfl ?_
    | refine TL_gval (rr_move rfl) rfl rfl rfl rfl rfl ?_
    | refine TL_gval (rr_len Und.eq rfl) rfl rfl rfl rfl rfl ?_
    | refine TL_gval (rr_field FldC.fld rfl rfl) rfl rfl rfl rfl rfl ?_
    | refine TL_gval (rr_not rfl rfl) rfl rfl rfl rfl rfl ?_
    | refine TL_gval (rr_eql rfl rfl (decide_eq_true (by omega))) rfl rfl rfl rfl rfl ?_
    | refine TL_gval (rr_eql rfl rfl (decide_eq_false (by omega))) rfl rfl rfl rfl rfl ?_)
  refine TL_callB [1] [0, 2, 3, 4, 5, 6, 7, 8, 9, 10, 11, 12, 13, 14] (by decide) rfl rfl (he2 EntersC.en rfl rfl rfl) (fun w hm hb => spoilEvR_calls gr wait.length (wait.length + 3) (rmC wait) (0, 0) w _ (by omega) (by omega) (rmC_size wait) rfl hb) rfl rfl rfl ?_
  intro _ _
  conv => arg 8; simp only [List.cons_append, List.nil_append, List.append_nil, List.filterMap_cons, List.filterMap_nil, List.getElem?_cons_succ, List.getElem?_cons_zero, List.set_cons_zero, List.set_cons_succ, gaS, rowS, ret, id_eq]
  repeat (first
    | refine TL_val (rr_move rfl) rfl rfl rfl ?_
    | refine TL_val (rr_assign rfl) rfl rfl rfl ?_
    | refine TL_nil ?_
    | refine T_seq ?_
    | refine T_region ?_
    | refine T_condT rfl ?_
    | refine T_condF rfl ?_
    | refine T_skip ?_
    | refine T_ret ?_
    | refine E_then ?_
    | refine E_thenR ?_
    | refine TL_val (rr_build rfl hb0) rfl rfl rfl ?_
    | refine TL_val (rr_extract rfl rfl) rfl rfl rfl ?_
    | refine TL_val (rr_pickT rfl rfl) rfl rfl rfl ?_
    | refine TL_val (rr_pickF rfl rfl) rfl rfl rfl ?_
    | refine TL_val (rr_field FldC.fld rfl rfl) rfl rfl rfl ?_
    | refine TL_val (rr_not rfl rfl) rfl rfl rfl ?_
    | refine TL_skip rfl rfl rfl rfl rfl rfl ?_
    | refine TL_gval (rr_build rfl hb0) rfl rfl rfl rfl rfl ?_
    | refine TL_gval (rr_move rfl) rfl rfl rfl rfl rfl ?_
    | refine TL_gval (rr_len Und.eq rfl) rfl rfl rfl rfl rfl ?_
    | refine TL_gval (rr_field FldC.fld rfl rfl) rfl rfl rfl rfl rfl ?_
    | refine TL_gval (rr_not rfl rfl) rfl rfl rfl rfl rfl ?_
    | refine TL_gval (rr_eql rfl rfl (decide_eq_true (by omega))) rfl rfl rfl rfl rfl ?_
    | refine TL_gval (rr_eql rfl rfl (decide_eq_false (by omega))) rfl rfl rfl rfl rfl ?_)
  refine TL_callB [2] [0, 1, 3, 4, 5, 6, 7, 8, 9, 10, 11, 12, 13, 14] (by decide) rfl rfl (he2 EntersC.en rfl rfl rfl) (fun w hm hb => spoilEvR_calls gm l.length (l.length + 3) (rmC l) (0, 0) w _ (by omega) (by omega) (rmC_size l) rfl hb) rfl rfl rfl ?_
  intro _ _
  conv => arg 8; simp only [List.cons_append, List.nil_append, List.append_nil, List.filterMap_cons, List.filterMap_nil, List.getElem?_cons_succ, List.getElem?_cons_zero, List.set_cons_zero, List.set_cons_succ, gaS, rowS, ret, id_eq]
  have he1 := fun w' hx hy => equalEvS_calls va vx wa wa w' hx hy
  have he2' := fun w' hx hy => equalEvS_calls vb vy wb wb w' hx hy
  have he3 := fun w' hx hy => equalEvS_calls vc vz wait wait w' hx hy
  have he4 := fun w' hx hy => equalEvS_calls vg vu gone gone w' hx hy
  rw [decide_eq_true rfl] at he1 he2' he3 he4
  repeat (first
    | refine TL_val (rr_move rfl) rfl rfl rfl ?_
    | refine TL_val (rr_assign rfl) rfl rfl rfl ?_
    | refine TL_nil ?_
    | refine T_seq ?_
    | refine T_region ?_
    | refine T_condT rfl ?_
    | refine T_condF rfl ?_
    | refine T_skip ?_
    | refine T_ret ?_
    | refine E_then ?_
    | refine E_thenR ?_
    | refine TL_val (rr_load1 TyC.ty rfl (at_blk (i := 3) rfl rfl)) rfl rfl rfl ?_
    | refine TL_val (rr_extract rfl rfl) rfl rfl rfl ?_
    | refine TL_val (rr_pickT rfl rfl) rfl rfl rfl ?_
    | refine TL_val (rr_pickF rfl rfl) rfl rfl rfl ?_
    | refine TL_val (rr_field FldC.fld rfl rfl) rfl rfl rfl ?_
    | refine TL_val (rr_not rfl rfl) rfl rfl rfl ?_
    | refine TL_skip rfl rfl rfl rfl rfl rfl ?_
    | refine TL_gval (rr_load1 TyC.ty rfl (at_blk (i := 3) rfl rfl)) rfl rfl rfl rfl rfl ?_
    | refine TL_gval (rr_move rfl) rfl rfl rfl rfl rfl ?_
    | refine TL_gval (rr_len Und.eq rfl) rfl rfl rfl rfl rfl ?_
    | refine TL_gval (rr_field FldC.fld rfl rfl) rfl rfl rfl rfl rfl ?_
    | refine TL_gval (rr_not rfl rfl) rfl rfl rfl rfl rfl ?_
    | refine TL_gval (rr_eql rfl rfl (decide_eq_true (by omega))) rfl rfl rfl rfl rfl ?_
    | refine TL_gval (rr_eql rfl rfl (decide_eq_false (by omega))) rfl rfl rfl rfl rfl ?_)
  refine TL_call (he2 EntersC.en rfl rfl rfl) (fun w hm => he1 _ (sl_row (i := 2) rfl w hm) (sl_row (i := 9) rfl w hm)) rfl rfl rfl ?_
  intro _ _
  repeat (first
    | refine TL_val (rr_move rfl) rfl rfl rfl ?_
    | refine TL_val (rr_assign rfl) rfl rfl rfl ?_
    | refine TL_nil ?_
    | refine T_seq ?_
    | refine T_region ?_
    | refine T_condT rfl ?_
    | refine T_condF rfl ?_
    | refine T_skip ?_
    | refine T_ret ?_
    | refine E_then ?_
    | refine E_thenR ?_
    | refine TL_val (rr_load1 TyC.ty rfl (at_blk (i := 6) rfl rfl)) rfl rfl rfl ?_
    | refine TL_val (rr_extract rfl rfl) rfl rfl rfl ?_
    | refine TL_val (rr_pickT rfl rfl) rfl rfl rfl ?_
    | refine TL_val (rr_pickF rfl rfl) rfl rfl rfl ?_
    | refine TL_val (rr_field FldC.fld rfl rfl) rfl rfl rfl ?_
    | refine TL_val (rr_not rfl rfl) rfl rfl rfl ?_
    | refine TL_skip rfl rfl rfl rfl rfl rfl ?_
    | refine TL_gval (rr_load1 TyC.ty rfl (at_blk (i := 6) rfl rfl)) rfl rfl rfl rfl rfl ?_
    | refine TL_gval (rr_move rfl) rfl rfl rfl rfl rfl ?_
    | refine TL_gval (rr_len Und.eq rfl) rfl rfl rfl rfl rfl ?_
    | refine TL_gval (rr_field FldC.fld rfl rfl) rfl rfl rfl rfl rfl ?_
    | refine TL_gval (rr_not rfl rfl) rfl rfl rfl rfl rfl ?_
    | refine TL_gval (rr_eql rfl rfl (decide_eq_true (by omega))) rfl rfl rfl rfl rfl ?_
    | refine TL_gval (rr_eql rfl rfl (decide_eq_false (by omega))) rfl rfl rfl rfl rfl ?_)
  refine TL_gcall (he2 EntersC.en rfl rfl rfl) (fun w hm => he2' _ (sl_row (i := 4) rfl w hm) (sl_row (i := 10) rfl w hm)) rfl rfl rfl rfl rfl ?_
  intro _ _
  repeat (first
    | refine TL_val (rr_move rfl) rfl rfl rfl ?_
    | refine TL_val (rr_assign rfl) rfl rfl rfl ?_
    | refine TL_nil ?_
    | refine T_seq ?_
    | refine T_region ?_
    | refine T_condT rfl ?_
    | refine T_condF rfl ?_
    | refine T_skip ?_
    | refine T_ret ?_
    | refine E_then ?_
    | refine E_thenR ?_
    | refine TL_val (rr_load1 TyC.ty rfl (at_blk (i := 8) rfl rfl)) rfl rfl rfl ?_
    | refine TL_val (rr_extract rfl rfl) rfl rfl rfl ?_
    | refine TL_val (rr_pickT rfl rfl) rfl rfl rfl ?_
    | refine TL_val (rr_pickF rfl rfl) rfl rfl rfl ?_
    | refine TL_val (rr_field FldC.fld rfl rfl) rfl rfl rfl ?_
    | refine TL_val (rr_not rfl rfl) rfl rfl rfl ?_
    | refine TL_skip rfl rfl rfl rfl rfl rfl ?_
    | refine TL_gval (rr_load1 TyC.ty rfl (at_blk (i := 8) rfl rfl)) rfl rfl rfl rfl rfl ?_
    | refine TL_gval (rr_move rfl) rfl rfl rfl rfl rfl ?_
    | refine TL_gval (rr_len Und.eq rfl) rfl rfl rfl rfl rfl ?_
    | refine TL_gval (rr_field FldC.fld rfl rfl) rfl rfl rfl rfl rfl ?_
    | refine TL_gval (rr_not rfl rfl) rfl rfl rfl rfl rfl ?_
    | refine TL_gval (rr_eql rfl rfl (decide_eq_true (by omega))) rfl rfl rfl rfl rfl ?_
    | refine TL_gval (rr_eql rfl rfl (decide_eq_false (by omega))) rfl rfl rfl rfl rfl ?_)
  refine TL_gcall (he2 EntersC.en rfl rfl rfl) (fun w hm => he3 _ (sl_row (i := 7) rfl w hm) (sl_row (i := 11) rfl w hm)) rfl rfl rfl rfl rfl ?_
  intro _ _
  repeat (first
    | refine TL_val (rr_move rfl) rfl rfl rfl ?_
    | refine TL_val (rr_assign rfl) rfl rfl rfl ?_
    | refine TL_nil ?_
    | refine T_seq ?_
    | refine T_region ?_
    | refine T_condT rfl ?_
    | refine T_condF rfl ?_
    | refine T_skip ?_
    | refine T_ret ?_
    | refine E_then ?_
    | refine E_thenR ?_
    | refine TL_val (rr_extract rfl rfl) rfl rfl rfl ?_
    | refine TL_val (rr_pickT rfl rfl) rfl rfl rfl ?_
    | refine TL_val (rr_pickF rfl rfl) rfl rfl rfl ?_
    | refine TL_val (rr_field FldC.fld rfl rfl) rfl rfl rfl ?_
    | refine TL_val (rr_not rfl rfl) rfl rfl rfl ?_
    | refine TL_skip rfl rfl rfl rfl rfl rfl ?_
    | refine TL_gval (rr_move rfl) rfl rfl rfl rfl rfl ?_
    | refine TL_gval (rr_len Und.eq rfl) rfl rfl rfl rfl rfl ?_
    | refine TL_gval (rr_field FldC.fld rfl rfl) rfl rfl rfl rfl rfl ?_
    | refine TL_gval (rr_not rfl rfl) rfl rfl rfl rfl rfl ?_
    | refine TL_gval (rr_eql rfl rfl (decide_eq_true (by omega))) rfl rfl rfl rfl rfl ?_
    | refine TL_gval (rr_eql rfl rfl (decide_eq_false (by omega))) rfl rfl rfl rfl rfl ?_)
  refine TL_gcall (he2 EntersC.en rfl rfl rfl) (fun w hm => he4 _ (sl_row (i := 5) rfl w hm) (sl_row (i := 12) rfl w hm)) rfl rfl rfl rfl rfl ?_
  intro _ _
  conv => arg 8; simp only [List.cons_append, List.nil_append, List.append_nil, List.filterMap_cons, List.filterMap_nil, List.getElem?_cons_succ, List.getElem?_cons_zero, List.set_cons_zero, List.set_cons_succ, gaS, rowS, ret, id_eq]
  repeat (first
    | refine TL_val (rr_move rfl) rfl rfl rfl ?_
    | refine TL_val (rr_assign rfl) rfl rfl rfl ?_
    | refine TL_nil ?_
    | refine E_then ?_
    | refine TL_val (rr_extract rfl rfl) rfl rfl rfl ?_
    | refine TL_val (rr_pickT rfl rfl) rfl rfl rfl ?_
    | refine TL_val (rr_pickF rfl rfl) rfl rfl rfl ?_
    | refine TL_val (rr_field FldC.fld rfl rfl) rfl rfl rfl ?_
    | refine TL_val (rr_not rfl rfl) rfl rfl rfl ?_
    | refine TL_skip rfl rfl rfl rfl rfl rfl ?_
    | refine TL_gval (rr_move rfl) rfl rfl rfl rfl rfl ?_
    | refine TL_gval (rr_len Und.eq rfl) rfl rfl rfl rfl rfl ?_
    | refine TL_gval (rr_field FldC.fld rfl rfl) rfl rfl rfl rfl rfl ?_
    | refine TL_gval (rr_not rfl rfl) rfl rfl rfl rfl rfl ?_
    | refine TL_gval (rr_eql rfl rfl (decide_eq_true (by omega))) rfl rfl rfl rfl rfl ?_
    | refine TL_gval (rr_eql rfl rfl (decide_eq_false (by omega))) rfl rfl rfl rfl rfl ?_)
  (repeat refine T_seq ?_)
  refine T_midq (ι := Unit) (fun _ => True) (fun _ => [(9, .pointer (some ⟨g9, 0, none⟩)), (15, vy), (18, .bool true)]) (fun _ => [blkO g9 (gaV vb cb gb).cells 59, rowO 56 2 vb wb.length (wb.flatMap evC), rowO 56 2 vy wb.length (wb.flatMap evC)]) ?_ ?_
  · refine T_openRow (i := 5) rfl (fun hv hm0 => ?_) (fun gg cg csg hv q1 q2 q3 q4 => ?_)
    · subst hv
      (repeat refine T_seq ?_)
      refine T_region ?_
      repeat (first
        | refine TL_val (rr_move rfl) rfl rfl rfl ?_
        | refine TL_val (rr_assign rfl) rfl rfl rfl ?_
        | refine TL_nil ?_
        | refine E_then ?_
        | refine TL_val (rr_build rfl hb0) rfl rfl rfl ?_
        | refine TL_val (rr_extract rfl rfl) rfl rfl rfl ?_
        | refine TL_val (rr_pickT rfl rfl) rfl rfl rfl ?_
        | refine TL_val (rr_pickF rfl rfl) rfl rfl rfl ?_
        | refine TL_val (rr_field FldC.fld rfl rfl) rfl rfl rfl ?_
        | refine TL_val (rr_not rfl rfl) rfl rfl rfl ?_
        | refine TL_skip rfl rfl rfl rfl rfl rfl ?_
        | refine TL_gval (rr_build rfl hb0) rfl rfl rfl rfl rfl ?_
        | refine TL_gval (rr_move rfl) rfl rfl rfl rfl rfl ?_
        | refine TL_gval (rr_len Und.eq rfl) rfl rfl rfl rfl rfl ?_
        | refine TL_gval (rr_field FldC.fld rfl rfl) rfl rfl rfl rfl rfl ?_
        | refine TL_gval (rr_not rfl rfl) rfl rfl rfl rfl rfl ?_
        | refine TL_gval (rr_eql rfl rfl (decide_eq_true (by omega))) rfl rfl rfl rfl rfl ?_
        | refine TL_gval (rr_eql rfl rfl (decide_eq_false (by omega))) rfl rfl rfl rfl rfl ?_)
      refine TL_call (he2 EntersC.en rfl rfl rfl) (fun w hm => spoilNilEvR_calls (0, 0) w) rfl rfl rfl ?_
      intro _ _
      refine TL_nil (E_pick [6, 4, 10] (by decide) rfl ?_)
      exact E_mid () trivial (by repeat' (first | exact True.intro | refine And.intro rfl ?_)) rfl
    · subst hv
      conv => arg 7; simp only [List.cons_append, List.nil_append, List.append_nil, List.filterMap_cons, List.filterMap_nil, List.getElem?_cons_succ, List.getElem?_cons_zero, List.set_cons_zero, List.set_cons_succ, gaS, rowS, ret, id_eq]
      (repeat refine T_seq ?_)
      refine T_region ?_
      repeat (first
        | refine TL_val (rr_move rfl) rfl rfl rfl ?_
        | refine TL_val (rr_assign rfl) rfl rfl rfl ?_
        | refine TL_nil ?_
        | refine E_then ?_
        | refine TL_val (rr_build rfl hb0) rfl rfl rfl ?_
        | refine TL_val (rr_extract rfl rfl) rfl rfl rfl ?_
        | refine TL_val (rr_pickT rfl rfl) rfl rfl rfl ?_
        | refine TL_val (rr_pickF rfl rfl) rfl rfl rfl ?_
        | refine TL_val (rr_field FldC.fld rfl rfl) rfl rfl rfl ?_
        | refine TL_val (rr_not rfl rfl) rfl rfl rfl ?_
        | refine TL_skip rfl rfl rfl rfl rfl rfl ?_
        | refine TL_gval (rr_build rfl hb0) rfl rfl rfl rfl rfl ?_
        | refine TL_gval (rr_move rfl) rfl rfl rfl rfl rfl ?_
        | refine TL_gval (rr_len Und.eq rfl) rfl rfl rfl rfl rfl ?_
        | refine TL_gval (rr_field FldC.fld rfl rfl) rfl rfl rfl rfl rfl ?_
        | refine TL_gval (rr_not rfl rfl) rfl rfl rfl rfl rfl ?_
        | refine TL_gval (rr_eql rfl rfl (decide_eq_true (by omega))) rfl rfl rfl rfl rfl ?_
        | refine TL_gval (rr_eql rfl rfl (decide_eq_false (by omega))) rfl rfl rfl rfl rfl ?_)
      refine TL_callB [5] [6, 4, 10] (by decide) rfl rfl (he2 EntersC.en rfl rfl rfl) (fun w hm hb => spoilEvR_calls gg gone.length cg csg (0, 0) w _ q1 q2 q3 rfl hb) rfl rfl rfl ?_
      intro _ _
      refine TL_nil (E_pick [0, 1, 2] (by decide) rfl ?_)
      exact E_mid () trivial (by repeat' (first | exact True.intro | refine And.intro rfl ?_)) rfl
  intro _ _
  have hp0 := fun v w' (hx : Sl w' v [((1 : Int), (0 : Int))].length ([((1 : Int), (0 : Int))].flatMap evC)) => gput_calls (.slice none 0 0) [] 0 0 v [(1, 0)] w' ⟨none, 0, rfl, Nat.le_refl _, by decide, fun h => by simp at h⟩ (by decide) hx
  rw [show putE [] 0 0 [(1, 0)] = 0 from by simp [putE, checkG, odd], show putW [] 0 0 [(1, 0)] = [(1, 0)] from by simp [putW, putE, checkG, odd]] at hp0
  repeat (first
    | refine TL_val (rr_move rfl) rfl rfl rfl ?_
    | refine TL_val (rr_assign rfl) rfl rfl rfl ?_
    | refine TL_nil ?_
    | refine T_seq ?_
    | refine T_region ?_
    | refine T_condT rfl ?_
    | refine T_condF rfl ?_
    | refine T_skip ?_
    | refine T_ret ?_
    | refine E_then ?_
    | refine E_thenR ?_
    | refine TL_val (rr_build rfl build_ga0) rfl rfl rfl ?_
    | refine TL_val (rr_build rfl (build_ev1 _)) rfl rfl rfl ?_
    | refine TL_val (rr_extract rfl rfl) rfl rfl rfl ?_
    | refine TL_val (rr_pickT rfl rfl) rfl rfl rfl ?_
    | refine TL_val (rr_pickF rfl rfl) rfl rfl rfl ?_
    | refine TL_val (rr_field FldC.fld rfl rfl) rfl rfl rfl ?_
    | refine TL_val (rr_not rfl rfl) rfl rfl rfl ?_
    | refine TL_skip rfl rfl rfl rfl rfl rfl ?_
    | refine TL_gval (rr_build rfl build_ga0) rfl rfl rfl rfl rfl ?_
    | refine TL_gval (rr_build rfl (build_ev1 _)) rfl rfl rfl rfl rfl ?_
    | refine TL_gval (rr_move rfl) rfl rfl rfl rfl rfl ?_
    | refine TL_gval (rr_len Und.eq rfl) rfl rfl rfl rfl rfl ?_
    | refine TL_gval (rr_field FldC.fld rfl rfl) rfl rfl rfl rfl rfl ?_
    | refine TL_gval (rr_not rfl rfl) rfl rfl rfl rfl rfl ?_
    | refine TL_gval (rr_eql rfl rfl (decide_eq_true (by omega))) rfl rfl rfl rfl rfl ?_
    | refine TL_gval (rr_eql rfl rfl (decide_eq_false (by omega))) rfl rfl rfl rfl rfl ?_)
  refine TL_one rfl rfl rfl rfl rfl fun gz => ?_
  repeat (first
    | refine TL_val (rr_move rfl) rfl rfl rfl ?_
    | refine TL_val (rr_assign rfl) rfl rfl rfl ?_
    | refine TL_nil ?_
    | refine T_seq ?_
    | refine T_region ?_
    | refine T_condT rfl ?_
    | refine T_condF rfl ?_
    | refine T_skip ?_
    | refine T_ret ?_
    | refine E_then ?_
    | refine E_thenR ?_
    | refine TL_val (rr_extract rfl rfl) rfl rfl rfl ?_
    | refine TL_val (rr_pickT rfl rfl) rfl rfl rfl ?_
    | refine TL_val (rr_pickF rfl rfl) rfl rfl rfl ?_
    | refine TL_val (rr_field FldC.fld rfl rfl) rfl rfl rfl ?_
    | refine TL_val (rr_not rfl rfl) rfl rfl rfl ?_
    | refine TL_skip rfl rfl rfl rfl rfl rfl ?_
    | refine TL_gval (rr_move rfl) rfl rfl rfl rfl rfl ?_
    | refine TL_gval (rr_len Und.eq rfl) rfl rfl rfl rfl rfl ?_
    | refine TL_gval (rr_field FldC.fld rfl rfl) rfl rfl rfl rfl rfl ?_
    | refine TL_gval (rr_not rfl rfl) rfl rfl rfl rfl rfl ?_
    | refine TL_gval (rr_eql rfl rfl (decide_eq_true (by omega))) rfl rfl rfl rfl rfl ?_
    | refine TL_gval (rr_eql rfl rfl (decide_eq_false (by omega))) rfl rfl rfl rfl rfl ?_)
  refine TL_call (he2 EntersC.en rfl rfl rfl) (fun w hm => hp0 _ _ (sl_one w gz (1, 0) (hm.get (i := 3) rfl))) rfl rfl rfl ?_
  intro vh _
  repeat (first
    | refine TL_val (rr_move rfl) rfl rfl rfl ?_
    | refine TL_val (rr_assign rfl) rfl rfl rfl ?_
    | refine TL_nil ?_
    | refine T_seq ?_
    | refine T_region ?_
    | refine T_condT rfl ?_
    | refine T_condF rfl ?_
    | refine T_skip ?_
    | refine T_ret ?_
    | refine E_then ?_
    | refine E_thenR ?_
    | refine TL_val (rr_extract rfl rfl) rfl rfl rfl ?_
    | refine TL_val (rr_pickT rfl rfl) rfl rfl rfl ?_
    | refine TL_val (rr_pickF rfl rfl) rfl rfl rfl ?_
    | refine TL_val (rr_field FldC.fld rfl rfl) rfl rfl rfl ?_
    | refine TL_val (rr_not rfl rfl) rfl rfl rfl ?_
    | refine TL_skip rfl rfl rfl rfl rfl rfl ?_
    | refine TL_gval (rr_move rfl) rfl rfl rfl rfl rfl ?_
    | refine TL_gval (rr_len Und.eq rfl) rfl rfl rfl rfl rfl ?_
    | refine TL_gval (rr_field FldC.fld rfl rfl) rfl rfl rfl rfl rfl ?_
    | refine TL_gval (rr_not rfl rfl) rfl rfl rfl rfl rfl ?_
    | refine TL_gval (rr_eql rfl rfl (decide_eq_true (by omega))) rfl rfl rfl rfl rfl ?_
    | refine TL_gval (rr_eql rfl rfl (decide_eq_false (by omega))) rfl rfl rfl rfl rfl ?_)
  refine TL_new rfl fun g19 => ?_
  refine TL_slv (i := 4) rfl fun hc5 ho5 => ?_
  refine TL_storeB (i := 5) rfl rfl rfl rfl (gaV_one ho5) rfl ?_
  conv => arg 8; simp only [List.cons_append, List.nil_append, List.append_nil, List.filterMap_cons, List.filterMap_nil, List.getElem?_cons_succ, List.getElem?_cons_zero, List.set_cons_zero, List.set_cons_succ, gaS, rowS, ret, id_eq]
  repeat (first
    | refine TL_val (rr_move rfl) rfl rfl rfl ?_
    | refine TL_val (rr_assign rfl) rfl rfl rfl ?_
    | refine TL_nil ?_
    | refine T_seq ?_
    | refine T_region ?_
    | refine T_condT rfl ?_
    | refine T_condF rfl ?_
    | refine T_skip ?_
    | refine T_ret ?_
    | refine E_then ?_
    | refine E_thenR ?_
    | refine TL_val (rr_load1 TyC.ty rfl (at_blk (i := 0) rfl rfl)) rfl rfl rfl ?_
    | refine TL_val (rr_extract rfl rfl) rfl rfl rfl ?_
    | refine TL_val (rr_pickT rfl rfl) rfl rfl rfl ?_
    | refine TL_val (rr_pickF rfl rfl) rfl rfl rfl ?_
    | refine TL_val (rr_field FldC.fld rfl rfl) rfl rfl rfl ?_
    | refine TL_val (rr_not rfl rfl) rfl rfl rfl ?_
    | refine TL_skip rfl rfl rfl rfl rfl rfl ?_
    | refine TL_gval (rr_load1 TyC.ty rfl (at_blk (i := 0) rfl rfl)) rfl rfl rfl rfl rfl ?_
    | refine TL_gval (rr_move rfl) rfl rfl rfl rfl rfl ?_
    | refine TL_gval (rr_len Und.eq rfl) rfl rfl rfl rfl rfl ?_
    | refine TL_gval (rr_field FldC.fld rfl rfl) rfl rfl rfl rfl rfl ?_
    | refine TL_gval (rr_not rfl rfl) rfl rfl rfl rfl rfl ?_
    | refine TL_gval (rr_eql rfl rfl (decide_eq_true (by omega))) rfl rfl rfl rfl rfl ?_
    | refine TL_gval (rr_eql rfl rfl (decide_eq_false (by omega))) rfl rfl rfl rfl rfl ?_)
  refine TL_gcall (he2 EntersC.en rfl rfl rfl) (fun w hm => he2' _ (sl_row (i := 1) rfl w hm) (sl_row (i := 2) rfl w hm)) rfl rfl rfl rfl rfl ?_
  intro _ _
  repeat (first
    | refine TL_val (rr_move rfl) rfl rfl rfl ?_
    | refine TL_val (rr_assign rfl) rfl rfl rfl ?_
    | refine TL_nil ?_
    | refine T_seq ?_
    | refine T_region ?_
    | refine T_condT rfl ?_
    | refine T_condF rfl ?_
    | refine T_skip ?_
    | refine T_ret ?_
    | refine E_then ?_
    | refine E_thenR ?_
    | refine TL_val (rr_load1 TyC.ty rfl (at_blk (i := 5) rfl rfl)) rfl rfl rfl ?_
    | refine TL_val (rr_extract rfl rfl) rfl rfl rfl ?_
    | refine TL_val (rr_pickT rfl rfl) rfl rfl rfl ?_
    | refine TL_val (rr_pickF rfl rfl) rfl rfl rfl ?_
    | refine TL_val (rr_field FldC.fld rfl rfl) rfl rfl rfl ?_
    | refine TL_val (rr_not rfl rfl) rfl rfl rfl ?_
    | refine TL_skip rfl rfl rfl rfl rfl rfl ?_
    | refine TL_gval (rr_load1 TyC.ty rfl (at_blk (i := 5) rfl rfl)) rfl rfl rfl rfl rfl ?_
    | refine TL_gval (rr_rowlen (i := 4) Und.eq rfl rfl) rfl rfl rfl rfl rfl ?_
    | refine TL_gval (rr_eql (b := true) rfl rfl (by decide)) rfl rfl rfl rfl rfl ?_
    | refine TL_gval (rr_move rfl) rfl rfl rfl rfl rfl ?_
    | refine TL_gval (rr_len Und.eq rfl) rfl rfl rfl rfl rfl ?_
    | refine TL_gval (rr_field FldC.fld rfl rfl) rfl rfl rfl rfl rfl ?_
    | refine TL_gval (rr_not rfl rfl) rfl rfl rfl rfl rfl ?_
    | refine TL_gval (rr_eql rfl rfl (decide_eq_true (by omega))) rfl rfl rfl rfl rfl ?_
    | refine TL_gval (rr_eql rfl rfl (decide_eq_false (by omega))) rfl rfl rfl rfl rfl ?_)
  exact E_ret1 rfl rfl fun w hm => hm.ret
end Go.Proofs.Ytnooleopmlijeaa.gateOwn
