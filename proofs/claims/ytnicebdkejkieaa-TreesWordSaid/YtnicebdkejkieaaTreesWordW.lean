/- The walk of TreesWord. -/
import Derived.Test.YtnicebdkejkieaaTreeC
import Derived.Test.YtnicebdkejkieaaTreeW
import Derived.Test.YtnicebdkejkieaaFactsE
import Derived.Test.YtnicebdkejkieaaCountE
namespace Go.Proofs.Ytnicebdkejkieaa.treesWord
open Go.RowKit kit mix gramL treeL countL eng
theorem brk_0101 : treesN brkG [0, 1, 0, 1] = 1 ∧ checkC brkG [0, 1, 0, 1] = 0 := by
  have hc : checkC brkG [0, 1, 0, 1] = 0 := by kernel_rfl
  have h1 : iterT [0, 1, 0, 1] brkP 1 1 = [1, 0, 0, 0, 0, 0, 1, 0, 0, 0, 0, 0, 1, 0, 0, 0, 0, 0, 1, 0, 0, 0, 0, 0, 1] := by
    kernel_rfl
  have h2 : iterT [0, 1, 0, 1] brkP 1 2 = [1, 0, 1, 0, 0, 0, 1, 0, 0, 0, 0, 0, 1, 0, 1, 0, 0, 0, 1, 0, 0, 0, 0, 0, 1] := by
    rw [iterT, h1]; kernel_rfl
  have h3 : iterT [0, 1, 0, 1] brkP 1 3 = [1, 0, 1, 0, 1, 0, 1, 0, 0, 0, 0, 0, 1, 0, 1, 0, 0, 0, 1, 0, 0, 0, 0, 0, 1] := by
    rw [iterT, h2]; kernel_rfl
  have hf : countL.stepT [0, 1, 0, 1] brkP 1 (iterT [0, 1, 0, 1] brkP 1 3) = iterT [0, 1, 0, 1] brkP 1 3 := by rw [h3]; kernel_rfl
  refine ⟨?_, hc⟩
  rw [treesN_tab (n := 1) 2 rfl hc hf, show brkG.prods = brkP from rfl, h3]
  kernel_rfl
set_option maxHeartbeats 4000000 in
theorem walk (w : World) (v : Value) (g : Gram) (h : GraR (fun k => k < w.heap.size) w v g) (_ : g.prods.length * 32 ≤ 140737488351232) (vt : Value) (tr : Tree) (ht : TreeR (fun k => k < w.heap.size) w vt tr) :
    Calls Try.prog 8 #[v, vt] w (Meets (ret (.bool true)) w) := by
  have hY := fun w' (hg : Gr w w') => yield_calls v vt g tr w' (h.gr hg) (ht.gr hg)
  have hYE := fun w' (hg : Gr w w') => yieldE_calls v vt g tr w' (h.gr hg) (ht.gr hg)
  have hT := fun v' l w' (hg : Gr w w') hs => trees_calls v v' g l w' (h.gr hg) hs
  obtain ⟨vp, rfl, h1, o1, o2⟩ := h
  obtain ⟨vk, rfl, _, _, hk4⟩ := ht
  obtain ⟨bk, ck, rfl, _⟩ := hk4
  by_cases c0 : checkT g tr = 0
  · have hY := fun w' hg => hY w' hg c0
    have htc := tree_checkC c0
    have htn := tree_counted c0
    clear hYE
    obtain ⟨t, n, prods⟩ := g
    dsimp only at *
    generalize yieldT prods tr = ys at *
    have hT := fun v' w' hg hs => hT v' ys w' hg hs
    generalize checkC ⟨t, n, prods⟩ ys = e at *
    generalize treesN ⟨t, n, prods⟩ ys = k at *
    refine enter (args := [graV t n vp, treeV tr.prod tr.tok (.slice bk tr.kids.length ck)]) (n := 49) Try.func8 rfl rfl rfl ?_
    refine T_seq (T_region (TL_box rfl rfl rfl fun g2 => TL_box rfl rfl rfl fun g3 => ?_))
    conv => arg 8; simp only [List.cons_append, List.nil_append, List.append_nil, List.filterMap_cons, List.filterMap_nil, List.getElem?_cons_succ, List.getElem?_cons_zero, List.set_cons_zero, List.set_cons_succ, rowS, ret, id_eq]
    repeat (first
      | refine TL_valg rfl (rr_move rfl) rfl rfl ?_
      | refine TL_valg rfl (rr_assign rfl) rfl rfl ?_
      | refine TL_nil ?_
      | refine T_seq ?_
      | refine T_region ?_
      | refine T_condT rfl ?_
      | refine T_condF rfl ?_
      | refine T_skip ?_
      | refine T_ret ?_
      | refine E_then ?_
      | refine E_thenR ?_
      | refine TL_valg rfl (rr_extract rfl rfl) rfl rfl ?_
      | refine TL_valg rfl (rr_pickT rfl rfl) rfl rfl ?_
      | refine TL_valg rfl (rr_pickF rfl rfl) rfl rfl ?_
      | refine TL_valg rfl (rr_geq rfl rfl (decide_eq_true (by omega))) rfl rfl ?_
      | refine TL_valg rfl (rr_geq rfl rfl (decide_eq_false (by omega))) rfl rfl ?_
      | refine TL_valg rfl (rr_neq rfl rfl (decide_eq_true (by omega))) rfl rfl ?_
      | refine TL_valg rfl (rr_neq rfl rfl (decide_eq_false (by omega))) rfl rfl ?_
      | refine TL_skip rfl rfl rfl rfl rfl rfl ?_
      | (refine TL_metg rfl rfl rfl ?_; (first | refine TL_valg rfl (rr_move rfl) rfl rfl ?_ | refine TL_valg rfl (rr_eql rfl rfl (decide_eq_true (by omega))) rfl rfl ?_ | refine TL_valg rfl (rr_eql rfl rfl (decide_eq_false (by omega))) rfl rfl ?_ | refine TL_valg rfl (rr_neq rfl rfl (decide_eq_true (by omega))) rfl rfl ?_ | refine TL_valg rfl (rr_neq rfl rfl (decide_eq_false (by omega))) rfl rfl ?_)))
    refine TL_call (he0 EntersC.en rfl) (fun w hm => brackets_calls w) rfl rfl rfl ?_
    rintro ⟨vb, F1⟩ _
    conv => arg 8; simp only [List.cons_append, List.nil_append, List.append_nil, List.filterMap_cons, List.filterMap_nil, List.getElem?_cons_succ, List.getElem?_cons_zero, List.set_cons_zero, List.set_cons_succ, rowS, ret, id_eq, gramS]
    refine TL_litV [.int .i64 0, .int .i64 1, .int .i64 0, .int .i64 1] rfl rfl rfl (by intro v hv; simp at hv; rcases hv with rfl | rfl | rfl | rfl <;> rfl) rfl rfl fun g13 => ?_
    conv => arg 8; simp only [List.cons_append, List.nil_append, List.append_nil, List.filterMap_cons, List.filterMap_nil, List.getElem?_cons_succ, List.getElem?_cons_zero, List.set_cons_zero, List.set_cons_succ, rowS, ret, id_eq]
    refine TL_call (he2 EntersC.en rfl rfl rfl) (fun w hm => trees_calls _ _ brkG [0, 1, 0, 1] w (prodsO_gra ok2 ok1 (hm.get (i := 2) rfl)) (sl_blk (i := 3) (xs := [0, 1, 0, 1].map (.int .i64)) rfl (fun j u hj => by simpa using hj) (by decide) (by decide) w hm)) rfl rfl rfl ?_
    intro _ _
    rw [brk_0101.1, brk_0101.2]
    conv => arg 8; simp only [List.cons_append, List.nil_append, List.append_nil, List.filterMap_cons, List.filterMap_nil, List.getElem?_cons_succ, List.getElem?_cons_zero, List.set_cons_zero, List.set_cons_succ, rowS, ret, id_eq]
    refine TL_pick [0, 1] (by decide) rfl ?_
    repeat (first
      | refine TL_valg rfl (rr_move rfl) rfl rfl ?_
      | refine TL_valg rfl (rr_assign rfl) rfl rfl ?_
      | refine TL_nil ?_
      | refine T_seq ?_
      | refine T_region ?_
      | refine T_condT rfl ?_
      | refine T_condF rfl ?_
      | refine T_skip ?_
      | refine T_ret ?_
      | refine E_then ?_
      | refine E_thenR ?_
      | refine TL_valg rfl (rr_extract rfl rfl) rfl rfl ?_
      | refine TL_valg rfl (rr_pickT rfl rfl) rfl rfl ?_
      | refine TL_valg rfl (rr_pickF rfl rfl) rfl rfl ?_
      | refine TL_valg rfl (rr_geq rfl rfl (decide_eq_true (by omega))) rfl rfl ?_
      | refine TL_valg rfl (rr_geq rfl rfl (decide_eq_false (by omega))) rfl rfl ?_
      | refine TL_valg rfl (rr_neq rfl rfl (decide_eq_true (by omega))) rfl rfl ?_
      | refine TL_valg rfl (rr_neq rfl rfl (decide_eq_false (by omega))) rfl rfl ?_
      | refine TL_skip rfl rfl rfl rfl rfl rfl ?_
      | (refine TL_metg rfl rfl rfl ?_; (first | refine TL_valg rfl (rr_move rfl) rfl rfl ?_ | refine TL_valg rfl (rr_eql rfl rfl (decide_eq_true (by omega))) rfl rfl ?_ | refine TL_valg rfl (rr_eql rfl rfl (decide_eq_false (by omega))) rfl rfl ?_ | refine TL_valg rfl (rr_neq rfl rfl (decide_eq_true (by omega))) rfl rfl ?_ | refine TL_valg rfl (rr_neq rfl rfl (decide_eq_false (by omega))) rfl rfl ?_)))
    repeat (first
      | refine TL_valg rfl (rr_move rfl) rfl rfl ?_
      | refine TL_valg rfl (rr_assign rfl) rfl rfl ?_
      | refine TL_nil ?_
      | refine T_seq ?_
      | refine T_region ?_
      | refine T_condT rfl ?_
      | refine T_condF rfl ?_
      | refine T_skip ?_
      | refine T_ret ?_
      | refine E_then ?_
      | refine E_thenR ?_
      | refine TL_valg rfl (rr_loadB (i := 0) TyC.ty rfl rfl rfl) rfl rfl ?_
      | refine TL_valg rfl (rr_loadB (i := 1) TyC.ty rfl rfl rfl) rfl rfl ?_
      | refine TL_valg rfl (rr_extract rfl rfl) rfl rfl ?_
      | refine TL_valg rfl (rr_pickT rfl rfl) rfl rfl ?_
      | refine TL_valg rfl (rr_pickF rfl rfl) rfl rfl ?_
      | refine TL_valg rfl (rr_geq rfl rfl (decide_eq_true (by omega))) rfl rfl ?_
      | refine TL_valg rfl (rr_geq rfl rfl (decide_eq_false (by omega))) rfl rfl ?_
      | refine TL_valg rfl (rr_neq rfl rfl (decide_eq_true (by omega))) rfl rfl ?_
      | refine TL_valg rfl (rr_neq rfl rfl (decide_eq_false (by omega))) rfl rfl ?_
      | refine TL_skip rfl rfl rfl rfl rfl rfl ?_
      | (refine TL_metg rfl rfl rfl ?_; (first | refine TL_valg rfl (rr_move rfl) rfl rfl ?_ | refine TL_valg rfl (rr_eql rfl rfl (decide_eq_true (by omega))) rfl rfl ?_ | refine TL_valg rfl (rr_eql rfl rfl (decide_eq_false (by omega))) rfl rfl ?_ | refine TL_valg rfl (rr_neq rfl rfl (decide_eq_true (by omega))) rfl rfl ?_ | refine TL_valg rfl (rr_neq rfl rfl (decide_eq_false (by omega))) rfl rfl ?_)))
    refine TL_call (he2 EntersC.en rfl rfl rfl) (fun w hm => hY _ hm.below) rfl rfl rfl ?_
    intro vw _
    conv => arg 8; simp only [List.cons_append, List.nil_append, List.append_nil, List.filterMap_cons, List.filterMap_nil, List.getElem?_cons_succ, List.getElem?_cons_zero, List.set_cons_zero, List.set_cons_succ, rowS, ret, id_eq, yieldS]
    repeat (first
      | refine TL_valg rfl (rr_move rfl) rfl rfl ?_
      | refine TL_valg rfl (rr_assign rfl) rfl rfl ?_
      | refine TL_nil ?_
      | refine T_seq ?_
      | refine T_region ?_
      | refine T_condT rfl ?_
      | refine T_condF rfl ?_
      | refine T_skip ?_
      | refine T_ret ?_
      | refine E_then ?_
      | refine E_thenR ?_
      | refine TL_valg rfl (rr_loadB (i := 0) TyC.ty rfl rfl rfl) rfl rfl ?_
      | refine TL_valg rfl (rr_extract rfl rfl) rfl rfl ?_
      | refine TL_valg rfl (rr_pickT rfl rfl) rfl rfl ?_
      | refine TL_valg rfl (rr_pickF rfl rfl) rfl rfl ?_
      | refine TL_valg rfl (rr_geq rfl rfl (decide_eq_true (by omega))) rfl rfl ?_
      | refine TL_valg rfl (rr_geq rfl rfl (decide_eq_false (by omega))) rfl rfl ?_
      | refine TL_valg rfl (rr_neq rfl rfl (decide_eq_true (by omega))) rfl rfl ?_
      | refine TL_valg rfl (rr_neq rfl rfl (decide_eq_false (by omega))) rfl rfl ?_
      | refine TL_skip rfl rfl rfl rfl rfl rfl ?_
      | (refine TL_metg rfl rfl rfl ?_; (first | refine TL_valg rfl (rr_move rfl) rfl rfl ?_ | refine TL_valg rfl (rr_eql rfl rfl (decide_eq_true (by omega))) rfl rfl ?_ | refine TL_valg rfl (rr_eql rfl rfl (decide_eq_false (by omega))) rfl rfl ?_ | refine TL_valg rfl (rr_neq rfl rfl (decide_eq_true (by omega))) rfl rfl ?_ | refine TL_valg rfl (rr_neq rfl rfl (decide_eq_false (by omega))) rfl rfl ?_)))
    refine TL_call (he2 EntersC.en rfl rfl rfl) (fun w hm => hT _ _ hm.below (sl_row (i := 2) rfl w hm)) rfl rfl rfl ?_
    intro _ _
    clear hT hY
    rcases htc with htc | htc
    · have htn := htn htc
      subst htc
      repeat (first
        | refine TL_valg rfl (rr_move rfl) rfl rfl ?_
        | refine TL_valg rfl (rr_assign rfl) rfl rfl ?_
        | refine TL_nil ?_
        | refine T_seq ?_
        | refine T_region ?_
        | refine T_condT rfl ?_
        | refine T_condF rfl ?_
        | refine T_skip ?_
        | refine T_ret ?_
        | refine E_then ?_
        | refine E_thenR ?_
        | refine TL_valg rfl (rr_extract rfl rfl) rfl rfl ?_
        | refine TL_valg rfl (rr_pickT rfl rfl) rfl rfl ?_
        | refine TL_valg rfl (rr_pickF rfl rfl) rfl rfl ?_
        | refine TL_valg rfl (rr_geq rfl rfl (decide_eq_true (by omega))) rfl rfl ?_
        | refine TL_valg rfl (rr_geq rfl rfl (decide_eq_false (by omega))) rfl rfl ?_
        | refine TL_valg rfl (rr_neq rfl rfl (decide_eq_true (by omega))) rfl rfl ?_
        | refine TL_valg rfl (rr_neq rfl rfl (decide_eq_false (by omega))) rfl rfl ?_
        | refine TL_skip rfl rfl rfl rfl rfl rfl ?_
        | (refine TL_metg rfl rfl rfl ?_; (first | refine TL_valg rfl (rr_move rfl) rfl rfl ?_ | refine TL_valg rfl (rr_eql rfl rfl (decide_eq_true (by omega))) rfl rfl ?_ | refine TL_valg rfl (rr_eql rfl rfl (decide_eq_false (by omega))) rfl rfl ?_ | refine TL_valg rfl (rr_neq rfl rfl (decide_eq_true (by omega))) rfl rfl ?_ | refine TL_valg rfl (rr_neq rfl rfl (decide_eq_false (by omega))) rfl rfl ?_)))
      exact E_ret1 rfl rfl fun w hm => hm.ret
    · subst htc
      repeat (first
        | refine TL_valg rfl (rr_move rfl) rfl rfl ?_
        | refine TL_valg rfl (rr_assign rfl) rfl rfl ?_
        | refine TL_nil ?_
        | refine T_seq ?_
        | refine T_region ?_
        | refine T_condT rfl ?_
        | refine T_condF rfl ?_
        | refine T_skip ?_
        | refine T_ret ?_
        | refine E_then ?_
        | refine E_thenR ?_
        | refine TL_valg rfl (rr_extract rfl rfl) rfl rfl ?_
        | refine TL_valg rfl (rr_pickT rfl rfl) rfl rfl ?_
        | refine TL_valg rfl (rr_pickF rfl rfl) rfl rfl ?_
        | refine TL_valg rfl (rr_geq rfl rfl (decide_eq_true (by omega))) rfl rfl ?_
        | refine TL_valg rfl (rr_geq rfl rfl (decide_eq_false (by omega))) rfl rfl ?_
        | refine TL_valg rfl (rr_neq rfl rfl (decide_eq_true (by omega))) rfl rfl ?_
        | refine TL_valg rfl (rr_neq rfl rfl (decide_eq_false (by omega))) rfl rfl ?_
        | refine TL_skip rfl rfl rfl rfl rfl rfl ?_
        | (refine TL_metg rfl rfl rfl ?_; (first | refine TL_valg rfl (rr_move rfl) rfl rfl ?_ | refine TL_valg rfl (rr_eql rfl rfl (decide_eq_true (by omega))) rfl rfl ?_ | refine TL_valg rfl (rr_eql rfl rfl (decide_eq_false (by omega))) rfl rfl ?_ | refine TL_valg rfl (rr_neq rfl rfl (decide_eq_true (by omega))) rfl rfl ?_ | refine TL_valg rfl (rr_neq rfl rfl (decide_eq_false (by omega))) rfl rfl ?_)))
      exact E_ret1 rfl rfl fun w hm => hm.ret
  · have hYE := fun w' hg => hYE w' hg c0
    clear hY
    obtain ⟨t, n, prods⟩ := g
    dsimp only at *
    generalize checkT ⟨t, n, prods⟩ tr = e at *
    have hT := fun w' hg hs => hT (.slice none 0 0) [] w' hg hs
    generalize checkC ⟨t, n, prods⟩ [] = e2 at *
    generalize treesN ⟨t, n, prods⟩ [] = k at *
    refine enter (args := [graV t n vp, treeV tr.prod tr.tok (.slice bk tr.kids.length ck)]) (n := 49) Try.func8 rfl rfl rfl ?_
    refine T_seq (T_region (TL_box rfl rfl rfl fun g2 => TL_box rfl rfl rfl fun g3 => ?_))
    conv => arg 8; simp only [List.cons_append, List.nil_append, List.append_nil, List.filterMap_cons, List.filterMap_nil, List.getElem?_cons_succ, List.getElem?_cons_zero, List.set_cons_zero, List.set_cons_succ, rowS, ret, id_eq]
    repeat (first
      | refine TL_valg rfl (rr_move rfl) rfl rfl ?_
      | refine TL_valg rfl (rr_assign rfl) rfl rfl ?_
      | refine TL_nil ?_
      | refine T_seq ?_
      | refine T_region ?_
      | refine T_condT rfl ?_
      | refine T_condF rfl ?_
      | refine T_skip ?_
      | refine T_ret ?_
      | refine E_then ?_
      | refine E_thenR ?_
      | refine TL_valg rfl (rr_extract rfl rfl) rfl rfl ?_
      | refine TL_valg rfl (rr_pickT rfl rfl) rfl rfl ?_
      | refine TL_valg rfl (rr_pickF rfl rfl) rfl rfl ?_
      | refine TL_valg rfl (rr_geq rfl rfl (decide_eq_true (by omega))) rfl rfl ?_
      | refine TL_valg rfl (rr_geq rfl rfl (decide_eq_false (by omega))) rfl rfl ?_
      | refine TL_valg rfl (rr_neq rfl rfl (decide_eq_true (by omega))) rfl rfl ?_
      | refine TL_valg rfl (rr_neq rfl rfl (decide_eq_false (by omega))) rfl rfl ?_
      | refine TL_skip rfl rfl rfl rfl rfl rfl ?_
      | (refine TL_metg rfl rfl rfl ?_; (first | refine TL_valg rfl (rr_move rfl) rfl rfl ?_ | refine TL_valg rfl (rr_eql rfl rfl (decide_eq_true (by omega))) rfl rfl ?_ | refine TL_valg rfl (rr_eql rfl rfl (decide_eq_false (by omega))) rfl rfl ?_ | refine TL_valg rfl (rr_neq rfl rfl (decide_eq_true (by omega))) rfl rfl ?_ | refine TL_valg rfl (rr_neq rfl rfl (decide_eq_false (by omega))) rfl rfl ?_)))
    refine TL_call (he0 EntersC.en rfl) (fun w hm => brackets_calls w) rfl rfl rfl ?_
    rintro ⟨vb, F1⟩ _
    conv => arg 8; simp only [List.cons_append, List.nil_append, List.append_nil, List.filterMap_cons, List.filterMap_nil, List.getElem?_cons_succ, List.getElem?_cons_zero, List.set_cons_zero, List.set_cons_succ, rowS, ret, id_eq, gramS]
    refine TL_litV [.int .i64 0, .int .i64 1, .int .i64 0, .int .i64 1] rfl rfl rfl (by intro v hv; simp at hv; rcases hv with rfl | rfl | rfl | rfl <;> rfl) rfl rfl fun g13 => ?_
    conv => arg 8; simp only [List.cons_append, List.nil_append, List.append_nil, List.filterMap_cons, List.filterMap_nil, List.getElem?_cons_succ, List.getElem?_cons_zero, List.set_cons_zero, List.set_cons_succ, rowS, ret, id_eq]
    refine TL_call (he2 EntersC.en rfl rfl rfl) (fun w hm => trees_calls _ _ brkG [0, 1, 0, 1] w (prodsO_gra ok2 ok1 (hm.get (i := 2) rfl)) (sl_blk (i := 3) (xs := [0, 1, 0, 1].map (.int .i64)) rfl (fun j u hj => by simpa using hj) (by decide) (by decide) w hm)) rfl rfl rfl ?_
    intro _ _
    rw [brk_0101.1, brk_0101.2]
    conv => arg 8; simp only [List.cons_append, List.nil_append, List.append_nil, List.filterMap_cons, List.filterMap_nil, List.getElem?_cons_succ, List.getElem?_cons_zero, List.set_cons_zero, List.set_cons_succ, rowS, ret, id_eq]
    refine TL_pick [0, 1] (by decide) rfl ?_
    repeat (first
      | refine TL_valg rfl (rr_move rfl) rfl rfl ?_
      | refine TL_valg rfl (rr_assign rfl) rfl rfl ?_
      | refine TL_nil ?_
      | refine T_seq ?_
      | refine T_region ?_
      | refine T_condT rfl ?_
      | refine T_condF rfl ?_
      | refine T_skip ?_
      | refine T_ret ?_
      | refine E_then ?_
      | refine E_thenR ?_
      | refine TL_valg rfl (rr_extract rfl rfl) rfl rfl ?_
      | refine TL_valg rfl (rr_pickT rfl rfl) rfl rfl ?_
      | refine TL_valg rfl (rr_pickF rfl rfl) rfl rfl ?_
      | refine TL_valg rfl (rr_geq rfl rfl (decide_eq_true (by omega))) rfl rfl ?_
      | refine TL_valg rfl (rr_geq rfl rfl (decide_eq_false (by omega))) rfl rfl ?_
      | refine TL_valg rfl (rr_neq rfl rfl (decide_eq_true (by omega))) rfl rfl ?_
      | refine TL_valg rfl (rr_neq rfl rfl (decide_eq_false (by omega))) rfl rfl ?_
      | refine TL_skip rfl rfl rfl rfl rfl rfl ?_
      | (refine TL_metg rfl rfl rfl ?_; (first | refine TL_valg rfl (rr_move rfl) rfl rfl ?_ | refine TL_valg rfl (rr_eql rfl rfl (decide_eq_true (by omega))) rfl rfl ?_ | refine TL_valg rfl (rr_eql rfl rfl (decide_eq_false (by omega))) rfl rfl ?_ | refine TL_valg rfl (rr_neq rfl rfl (decide_eq_true (by omega))) rfl rfl ?_ | refine TL_valg rfl (rr_neq rfl rfl (decide_eq_false (by omega))) rfl rfl ?_)))
    repeat (first
      | refine TL_valg rfl (rr_move rfl) rfl rfl ?_
      | refine TL_valg rfl (rr_assign rfl) rfl rfl ?_
      | refine TL_nil ?_
      | refine T_seq ?_
      | refine T_region ?_
      | refine T_condT rfl ?_
      | refine T_condF rfl ?_
      | refine T_skip ?_
      | refine T_ret ?_
      | refine E_then ?_
      | refine E_thenR ?_
      | refine TL_valg rfl (rr_loadB (i := 0) TyC.ty rfl rfl rfl) rfl rfl ?_
      | refine TL_valg rfl (rr_loadB (i := 1) TyC.ty rfl rfl rfl) rfl rfl ?_
      | refine TL_valg rfl (rr_extract rfl rfl) rfl rfl ?_
      | refine TL_valg rfl (rr_pickT rfl rfl) rfl rfl ?_
      | refine TL_valg rfl (rr_pickF rfl rfl) rfl rfl ?_
      | refine TL_valg rfl (rr_geq rfl rfl (decide_eq_true (by omega))) rfl rfl ?_
      | refine TL_valg rfl (rr_geq rfl rfl (decide_eq_false (by omega))) rfl rfl ?_
      | refine TL_valg rfl (rr_neq rfl rfl (decide_eq_true (by omega))) rfl rfl ?_
      | refine TL_valg rfl (rr_neq rfl rfl (decide_eq_false (by omega))) rfl rfl ?_
      | refine TL_skip rfl rfl rfl rfl rfl rfl ?_
      | (refine TL_metg rfl rfl rfl ?_; (first | refine TL_valg rfl (rr_move rfl) rfl rfl ?_ | refine TL_valg rfl (rr_eql rfl rfl (decide_eq_true (by omega))) rfl rfl ?_ | refine TL_valg rfl (rr_eql rfl rfl (decide_eq_false (by omega))) rfl rfl ?_ | refine TL_valg rfl (rr_neq rfl rfl (decide_eq_true (by omega))) rfl rfl ?_ | refine TL_valg rfl (rr_neq rfl rfl (decide_eq_false (by omega))) rfl rfl ?_)))
    refine TL_call (he2 EntersC.en rfl rfl rfl) (fun w hm => hYE _ hm.below) rfl rfl rfl ?_
    intro _ _
    conv => arg 8; simp only [List.cons_append, List.nil_append, List.append_nil, List.filterMap_cons, List.filterMap_nil, List.getElem?_cons_succ, List.getElem?_cons_zero, List.set_cons_zero, List.set_cons_succ, rowS, ret, id_eq]
    repeat (first
      | refine TL_valg rfl (rr_move rfl) rfl rfl ?_
      | refine TL_valg rfl (rr_assign rfl) rfl rfl ?_
      | refine TL_nil ?_
      | refine T_seq ?_
      | refine T_region ?_
      | refine T_condT rfl ?_
      | refine T_condF rfl ?_
      | refine T_skip ?_
      | refine T_ret ?_
      | refine E_then ?_
      | refine E_thenR ?_
      | refine TL_valg rfl (rr_loadB (i := 0) TyC.ty rfl rfl rfl) rfl rfl ?_
      | refine TL_valg rfl (rr_extract rfl rfl) rfl rfl ?_
      | refine TL_valg rfl (rr_pickT rfl rfl) rfl rfl ?_
      | refine TL_valg rfl (rr_pickF rfl rfl) rfl rfl ?_
      | refine TL_valg rfl (rr_geq rfl rfl (decide_eq_true (by omega))) rfl rfl ?_
      | refine TL_valg rfl (rr_geq rfl rfl (decide_eq_false (by omega))) rfl rfl ?_
      | refine TL_valg rfl (rr_neq rfl rfl (decide_eq_true (by omega))) rfl rfl ?_
      | refine TL_valg rfl (rr_neq rfl rfl (decide_eq_false (by omega))) rfl rfl ?_
      | refine TL_skip rfl rfl rfl rfl rfl rfl ?_
      | (refine TL_metg rfl rfl rfl ?_; (first | refine TL_valg rfl (rr_move rfl) rfl rfl ?_ | refine TL_valg rfl (rr_eql rfl rfl (decide_eq_true (by omega))) rfl rfl ?_ | refine TL_valg rfl (rr_eql rfl rfl (decide_eq_false (by omega))) rfl rfl ?_ | refine TL_valg rfl (rr_neq rfl rfl (decide_eq_true (by omega))) rfl rfl ?_ | refine TL_valg rfl (rr_neq rfl rfl (decide_eq_false (by omega))) rfl rfl ?_)))
    refine TL_call (he2 EntersC.en rfl rfl rfl) (fun w hm => hT _ hm.below ⟨none, 0, rfl, Nat.le_refl _, by unfold maxLen; omega, fun h => by cases h⟩) rfl rfl rfl ?_
    intro _ _
    clear hT hYE
    repeat (first
      | refine TL_valg rfl (rr_move rfl) rfl rfl ?_
      | refine TL_valg rfl (rr_assign rfl) rfl rfl ?_
      | refine TL_nil ?_
      | refine T_seq ?_
      | refine T_region ?_
      | refine T_condT rfl ?_
      | refine T_condF rfl ?_
      | refine T_skip ?_
      | refine T_ret ?_
      | refine E_then ?_
      | refine E_thenR ?_
      | refine TL_valg rfl (rr_extract rfl rfl) rfl rfl ?_
      | refine TL_valg rfl (rr_pickT rfl rfl) rfl rfl ?_
      | refine TL_valg rfl (rr_pickF rfl rfl) rfl rfl ?_
      | refine TL_valg rfl (rr_geq rfl rfl (decide_eq_true (by omega))) rfl rfl ?_
      | refine TL_valg rfl (rr_geq rfl rfl (decide_eq_false (by omega))) rfl rfl ?_
      | refine TL_valg rfl (rr_neq rfl rfl (decide_eq_true (by omega))) rfl rfl ?_
      | refine TL_valg rfl (rr_neq rfl rfl (decide_eq_false (by omega))) rfl rfl ?_
      | refine TL_skip rfl rfl rfl rfl rfl rfl ?_
      | (refine TL_metg rfl rfl rfl ?_; (first | refine TL_valg rfl (rr_move rfl) rfl rfl ?_ | refine TL_valg rfl (rr_eql rfl rfl (decide_eq_true (by omega))) rfl rfl ?_ | refine TL_valg rfl (rr_eql rfl rfl (decide_eq_false (by omega))) rfl rfl ?_ | refine TL_valg rfl (rr_neq rfl rfl (decide_eq_true (by omega))) rfl rfl ?_ | refine TL_valg rfl (rr_neq rfl rfl (decide_eq_false (by omega))) rfl rfl ?_)))
    exact E_ret1 rfl rfl fun w hm => hm.ret
end Go.Proofs.Ytnicebdkejkieaa.treesWord
