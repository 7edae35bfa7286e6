/- The walk of TreesMirror. -/
import Derived.Test.YtnicebdkejkieaaTreeD
import Derived.Test.YtnicebdkejkieaaFactsE
import Derived.Test.YtnicebdkejkieaaIntC
import Derived.Test.YtnicebdkejkieaaIntS
namespace Go.Proofs.Ytnicebdkejkieaa.treesMirror
open Go.RowKit kit mix gramL treeL eng
theorem brk_one : checkT brkG oneT = 0 ∧ yieldT brkG.prods oneT = [0, 1] := ⟨by kernel_rfl, by kernel_rfl⟩
theorem sl_i {w : World} {v : Value} {m : Nat} {l : List Int} (h : Sl w v m (l.map (.int .i64))) (hm : m = l.length) : Sl w v l.length (l.flatMap kit.intC) := by
  subst hm
  rw [flatI]; exact h
set_option maxHeartbeats 4000000 in
theorem walk (w : World) (v : Value) (g : Gram) (h : GraR (fun k => k < w.heap.size) w v g) (_ : g.prods.length * 32 ≤ 140737488351232) (vt : Value) (tr : Tree) (ht : TreeR (fun k => k < w.heap.size) w vt tr) :
    Calls Try.prog 5 #[v, vt] w (Meets (ret (.bool true)) w) := by
  have hY := fun w' (hg : Gr w w') => yield_calls v vt g tr w' (h.gr hg) (ht.gr hg)
  have hYE := fun w' (hg : Gr w w') => yieldE_calls v vt g tr w' (h.gr hg) (ht.gr hg)
  have hC := fun w' (hg : Gr w w') => treeCheck_calls v vt g tr w' (h.gr hg) (ht.gr hg)
  have hM := fun w' (hg : Gr w w') => mirror_calls v g w' (h.gr hg)
  have htr := fun w' (hg : Gr w w') => ht.gr hg
  obtain ⟨vp, rfl, h1, o1, o2⟩ := h
  obtain ⟨vk, rfl, _, _, hk4⟩ := ht
  obtain ⟨bk, ck, rfl, _⟩ := hk4
  by_cases c0 : checkT g tr = 0
  · obtain ⟨a1, a2, a3, a4⟩ := checkT_iff.1 c0
    obtain ⟨_, _, _, _, hlen, _⟩ := checkG_ok a1
    have hY := fun w' hg => hY w' hg c0
    have hM := fun w' hg => hM w' hg a1
    have hp := right_prod a2
    have hyl := yield_len a2 hp
    have hlv := leaves_le tr
    obtain ⟨m1, m2⟩ := mir_check (n := leaves tr) c0 rfl
    have hmo := mir_ok (n := leaves tr) a2 (by omega) (by omega) hlen
    have hD := fun w' (hg : Gr w w') => mirrored_calls g.prods (leaves tr) (by omega) hlen (size tr) tr (Nat.le_refl _) _ (2, 0) 0 w' (htr w' hg) a2 (by omega) a3
    clear hYE hC
    obtain ⟨t, n, prods⟩ := g
    unfold mirror at m1 m2
    dsimp only at *
    generalize mirT ((leaves tr : Nat) : Int) tr = mt at *
    generalize yieldT prods tr = ys at *
    generalize leaves tr = lv at *
    subst hyl
    refine enter (args := [graV t n vp, treeV tr.prod tr.tok (.slice bk tr.kids.length ck)]) (n := 75) Try.func5 rfl rfl rfl ?_
    refine T_seq (T_region (TL_box rfl rfl rfl fun g2 => TL_box rfl rfl rfl fun g3 => ?_))
    conv => arg 8; simp only [List.cons_append, List.nil_append, List.append_nil, List.filterMap_cons, List.filterMap_nil, List.getElem?_cons_succ, List.getElem?_cons_zero, List.set_cons_zero, List.set_cons_succ, rowS, ret, id_eq]
    repeat (first
      | refine TL_valg rfl (rr_move rfl) rfl rfl ?_
      | refine TL_valg rfl (rr_assign rfl) rfl rfl ?_
      | refine TL_nil ?_
      | refine T_seq ?_
      | refine T_region ?_
      | refine T_condT rfl ?_
      | refine T_condF rfl ?_
      | refine T_skip ?_
      | refine T_ret ?_
      | refine E_then ?_
      | refine E_thenR ?_
      | refine TL_valg rfl (rr_extract rfl rfl) rfl rfl ?_
      | refine TL_valg rfl (rr_pickT rfl rfl) rfl rfl ?_
      | refine TL_valg rfl (rr_pickF rfl rfl) rfl rfl ?_
      | refine TL_valg rfl (rr_len Und.eq rfl) rfl rfl ?_
      | refine TL_valg rfl (rr_eql rfl rfl (decide_eq_true (by omega))) rfl rfl ?_
      | refine TL_valg rfl (rr_eql rfl rfl (decide_eq_false (by omega))) rfl rfl ?_
      | refine TL_valg rfl (rr_neq rfl rfl (decide_eq_true (by omega))) rfl rfl ?_
      | refine TL_valg rfl (rr_neq rfl rfl (decide_eq_false (by omega))) rfl rfl ?_
      | refine TL_skip rfl rfl rfl rfl rfl rfl ?_
      | (refine TL_metg rfl rfl rfl ?_; (first | refine TL_valg rfl (rr_move rfl) rfl rfl ?_ | refine TL_valg rfl (rr_pickT rfl rfl) rfl rfl ?_ | refine TL_valg rfl (rr_pickF rfl rfl) rfl rfl ?_ | refine TL_valg rfl (rr_not rfl rfl) rfl rfl ?_ | refine TL_valg rfl (rr_eql rfl rfl (decide_eq_true (by omega))) rfl rfl ?_ | refine TL_valg rfl (rr_eql rfl rfl (decide_eq_false (by omega))) rfl rfl ?_)))
    refine TL_call (he0 EntersC.en rfl) (fun w hm => brackets_calls w) rfl rfl rfl ?_
    rintro ⟨vb, F1⟩ _
    conv => arg 8; simp only [List.cons_append, List.nil_append, List.append_nil, List.filterMap_cons, List.filterMap_nil, List.getElem?_cons_succ, List.getElem?_cons_zero, List.set_cons_zero, List.set_cons_succ, rowS, ret, id_eq, gramS]
    refine TL_call (he0 EntersC.en rfl) (fun w hm => one_calls' w) rfl rfl rfl ?_
    rintro ⟨vo, F2⟩ _
    conv => arg 8; simp only [List.cons_append, List.nil_append, List.append_nil, List.filterMap_cons, List.filterMap_nil, List.getElem?_cons_succ, List.getElem?_cons_zero, List.set_cons_zero, List.set_cons_succ, rowS, ret, id_eq, treeSp]
    refine TL_call (he2 EntersC.en rfl rfl rfl) (fun w hm => yield_calls _ _ brkG oneT w (prodsO_gra ok2 ok1 (hm.get (i := 2) rfl)) (kidsO_tree oku okz (hm.get (i := 3) rfl)) brk_one.1) rfl rfl rfl ?_
    intro vy _
    rw [brk_one.2]
    conv => arg 8; simp only [List.cons_append, List.nil_append, List.append_nil, List.filterMap_cons, List.filterMap_nil, List.getElem?_cons_succ, List.getElem?_cons_zero, List.set_cons_zero, List.set_cons_succ, rowS, ret, id_eq, yieldS]
    refine TL_pick [0, 1, 4] (by decide) rfl ?_
    repeat (first
      | refine TL_valg rfl (rr_move rfl) rfl rfl ?_
      | refine TL_valg rfl (rr_assign rfl) rfl rfl ?_
      | refine TL_nil ?_
      | refine T_seq ?_
      | refine T_region ?_
      | refine T_condT rfl ?_
      | refine T_condF rfl ?_
      | refine T_skip ?_
      | refine T_ret ?_
      | refine E_then ?_
      | refine E_thenR ?_
      | refine TL_valg rfl (rr_extract rfl rfl) rfl rfl ?_
      | refine TL_valg rfl (rr_pickT rfl rfl) rfl rfl ?_
      | refine TL_valg rfl (rr_pickF rfl rfl) rfl rfl ?_
      | refine TL_valg rfl (rr_len Und.eq rfl) rfl rfl ?_
      | refine TL_valg rfl (rr_eql rfl rfl (decide_eq_true (by omega))) rfl rfl ?_
      | refine TL_valg rfl (rr_eql rfl rfl (decide_eq_false (by omega))) rfl rfl ?_
      | refine TL_valg rfl (rr_neq rfl rfl (decide_eq_true (by omega))) rfl rfl ?_
      | refine TL_valg rfl (rr_neq rfl rfl (decide_eq_false (by omega))) rfl rfl ?_
      | refine TL_skip rfl rfl rfl rfl rfl rfl ?_
      | (refine TL_metg rfl rfl rfl ?_; (first | refine TL_valg rfl (rr_move rfl) rfl rfl ?_ | refine TL_valg rfl (rr_pickT rfl rfl) rfl rfl ?_ | refine TL_valg rfl (rr_pickF rfl rfl) rfl rfl ?_ | refine TL_valg rfl (rr_not rfl rfl) rfl rfl ?_ | refine TL_valg rfl (rr_eql rfl rfl (decide_eq_true (by omega))) rfl rfl ?_ | refine TL_valg rfl (rr_eql rfl rfl (decide_eq_false (by omega))) rfl rfl ?_)))
    refine TL_metg rfl rfl rfl ?_
    refine TL_litV [.int .i64 0, .int .i64 1] rfl rfl rfl (by intro v hv; simp at hv; rcases hv with rfl | rfl <;> rfl) rfl rfl fun g22 => ?_
    conv => arg 8; simp only [List.cons_append, List.nil_append, List.append_nil, List.filterMap_cons, List.filterMap_nil, List.getElem?_cons_succ, List.getElem?_cons_zero, List.set_cons_zero, List.set_cons_succ, rowS, ret, id_eq]
    refine TL_gcall (he2 EntersC.en rfl rfl rfl) (fun w hm => equalIntS_calls vy _ [0, 1] [0, 1] w (sl_i (sl_row (i := 2) rfl w hm) rfl) (sl_i (sl_blk (i := 3) (xs := [0, 1].map (.int .i64)) rfl (fun j u hj => by simpa using hj) (by decide) (by decide) w hm) rfl)) rfl rfl rfl rfl rfl ?_
    intro _ _
    rw [decide_eq_true rfl]
    conv => arg 8; simp only [List.cons_append, List.nil_append, List.append_nil, List.filterMap_cons, List.filterMap_nil, List.getElem?_cons_succ, List.getElem?_cons_zero, List.set_cons_zero, List.set_cons_succ, rowS, ret, id_eq]
    refine TL_pick [0, 1] (by decide) rfl ?_
    repeat (first
      | refine TL_valg rfl (rr_move rfl) rfl rfl ?_
      | refine TL_valg rfl (rr_assign rfl) rfl rfl ?_
      | refine TL_nil ?_
      | refine T_seq ?_
      | refine T_region ?_
      | refine T_condT rfl ?_
      | refine T_condF rfl ?_
      | refine T_skip ?_
      | refine T_ret ?_
      | refine E_then ?_
      | refine E_thenR ?_
      | refine TL_valg rfl (rr_extract rfl rfl) rfl rfl ?_
      | refine TL_valg rfl (rr_pickT rfl rfl) rfl rfl ?_
      | refine TL_valg rfl (rr_pickF rfl rfl) rfl rfl ?_
      | refine TL_valg rfl (rr_len Und.eq rfl) rfl rfl ?_
      | refine TL_valg rfl (rr_eql rfl rfl (decide_eq_true (by omega))) rfl rfl ?_
      | refine TL_valg rfl (rr_eql rfl rfl (decide_eq_false (by omega))) rfl rfl ?_
      | refine TL_valg rfl (rr_neq rfl rfl (decide_eq_true (by omega))) rfl rfl ?_
      | refine TL_valg rfl (rr_neq rfl rfl (decide_eq_false (by omega))) rfl rfl ?_
      | refine TL_skip rfl rfl rfl rfl rfl rfl ?_
      | (refine TL_metg rfl rfl rfl ?_; (first | refine TL_valg rfl (rr_move rfl) rfl rfl ?_ | refine TL_valg rfl (rr_pickT rfl rfl) rfl rfl ?_ | refine TL_valg rfl (rr_pickF rfl rfl) rfl rfl ?_ | refine TL_valg rfl (rr_not rfl rfl) rfl rfl ?_ | refine TL_valg rfl (rr_eql rfl rfl (decide_eq_true (by omega))) rfl rfl ?_ | refine TL_valg rfl (rr_eql rfl rfl (decide_eq_false (by omega))) rfl rfl ?_)))
    repeat (first
      | refine TL_valg rfl (rr_move rfl) rfl rfl ?_
      | refine TL_valg rfl (rr_assign rfl) rfl rfl ?_
      | refine TL_nil ?_
      | refine T_seq ?_
      | refine T_region ?_
      | refine T_condT rfl ?_
      | refine T_condF rfl ?_
      | refine T_skip ?_
      | refine T_ret ?_
      | refine E_then ?_
      | refine E_thenR ?_
      | refine TL_valg rfl (rr_loadB (i := 0) TyC.ty rfl rfl rfl) rfl rfl ?_
      | refine TL_valg rfl (rr_loadB (i := 1) TyC.ty rfl rfl rfl) rfl rfl ?_
      | refine TL_valg rfl (rr_extract rfl rfl) rfl rfl ?_
      | refine TL_valg rfl (rr_pickT rfl rfl) rfl rfl ?_
      | refine TL_valg rfl (rr_pickF rfl rfl) rfl rfl ?_
      | refine TL_valg rfl (rr_len Und.eq rfl) rfl rfl ?_
      | refine TL_valg rfl (rr_eql rfl rfl (decide_eq_true (by omega))) rfl rfl ?_
      | refine TL_valg rfl (rr_eql rfl rfl (decide_eq_false (by omega))) rfl rfl ?_
      | refine TL_valg rfl (rr_neq rfl rfl (decide_eq_true (by omega))) rfl rfl ?_
      | refine TL_valg rfl (rr_neq rfl rfl (decide_eq_false (by omega))) rfl rfl ?_
      | refine TL_skip rfl rfl rfl rfl rfl rfl ?_
      | (refine TL_metg rfl rfl rfl ?_; (first | refine TL_valg rfl (rr_loadB (i := 0) TyC.ty rfl rfl rfl) rfl rfl ?_ | refine TL_valg rfl (rr_loadB (i := 1) TyC.ty rfl rfl rfl) rfl rfl ?_ | refine TL_valg rfl (rr_move rfl) rfl rfl ?_ | refine TL_valg rfl (rr_pickT rfl rfl) rfl rfl ?_ | refine TL_valg rfl (rr_pickF rfl rfl) rfl rfl ?_ | refine TL_valg rfl (rr_not rfl rfl) rfl rfl ?_ | refine TL_valg rfl (rr_eql rfl rfl (decide_eq_true (by omega))) rfl rfl ?_ | refine TL_valg rfl (rr_eql rfl rfl (decide_eq_false (by omega))) rfl rfl ?_)))
    refine TL_call (he2 EntersC.en rfl rfl rfl) (fun w hm => hY _ hm.below) rfl rfl rfl ?_
    intro vw _
    conv => arg 8; simp only [List.cons_append, List.nil_append, List.append_nil, List.filterMap_cons, List.filterMap_nil, List.getElem?_cons_succ, List.getElem?_cons_zero, List.set_cons_zero, List.set_cons_succ, rowS, ret, id_eq, yieldS]
    repeat (first
      | refine TL_valg rfl (rr_move rfl) rfl rfl ?_
      | refine TL_valg rfl (rr_assign rfl) rfl rfl ?_
      | refine TL_nil ?_
      | refine T_seq ?_
      | refine T_region ?_
      | refine T_condT rfl ?_
      | refine T_condF rfl ?_
      | refine T_skip ?_
      | refine T_ret ?_
      | refine E_then ?_
      | refine E_thenR ?_
      | refine TL_valg rfl (rr_loadB (i := 0) TyC.ty rfl rfl rfl) rfl rfl ?_
      | refine TL_valg rfl (rr_extract rfl rfl) rfl rfl ?_
      | refine TL_valg rfl (rr_pickT rfl rfl) rfl rfl ?_
      | refine TL_valg rfl (rr_pickF rfl rfl) rfl rfl ?_
      | refine TL_valg rfl (rr_len Und.eq rfl) rfl rfl ?_
      | refine TL_valg rfl (rr_eql rfl rfl (decide_eq_true (by omega))) rfl rfl ?_
      | refine TL_valg rfl (rr_eql rfl rfl (decide_eq_false (by omega))) rfl rfl ?_
      | refine TL_valg rfl (rr_neq rfl rfl (decide_eq_true (by omega))) rfl rfl ?_
      | refine TL_valg rfl (rr_neq rfl rfl (decide_eq_false (by omega))) rfl rfl ?_
      | refine TL_skip rfl rfl rfl rfl rfl rfl ?_
      | (refine TL_metg rfl rfl rfl ?_; (first | refine TL_valg rfl (rr_loadB (i := 0) TyC.ty rfl rfl rfl) rfl rfl ?_ | refine TL_valg rfl (rr_move rfl) rfl rfl ?_ | refine TL_valg rfl (rr_pickT rfl rfl) rfl rfl ?_ | refine TL_valg rfl (rr_pickF rfl rfl) rfl rfl ?_ | refine TL_valg rfl (rr_not rfl rfl) rfl rfl ?_ | refine TL_valg rfl (rr_eql rfl rfl (decide_eq_true (by omega))) rfl rfl ?_ | refine TL_valg rfl (rr_eql rfl rfl (decide_eq_false (by omega))) rfl rfl ?_)))
    refine TL_call (he1 EntersC.en rfl rfl) (fun w hm => hM _ hm.below) rfl rfl rfl ?_
    rintro ⟨vm, F⟩ _
    conv => arg 8; simp only [List.cons_append, List.nil_append, List.append_nil, List.filterMap_cons, List.filterMap_nil, List.getElem?_cons_succ, List.getElem?_cons_zero, List.set_cons_zero, List.set_cons_succ, rowS, ret, id_eq, mirS]
    refine TL_know (i := 3) (φ := vm.oneCell' = true) rfl (fun w h => by obtain ⟨⟨v', hv, h1⟩, _⟩ := h; simp only [List.cons.injEq, and_true] at hv; subst hv; exact slf_one h1) fun ho1 => ?_
    repeat (first
      | refine TL_valg rfl (rr_move rfl) rfl rfl ?_
      | refine TL_valg rfl (rr_assign rfl) rfl rfl ?_
      | refine TL_nil ?_
      | refine T_seq ?_
      | refine T_region ?_
      | refine T_condT rfl ?_
      | refine T_condF rfl ?_
      | refine T_skip ?_
      | refine T_ret ?_
      | refine E_then ?_
      | refine E_thenR ?_
      | refine TL_valg rfl (rr_extract rfl rfl) rfl rfl ?_
      | refine TL_valg rfl (rr_pickT rfl rfl) rfl rfl ?_
      | refine TL_valg rfl (rr_pickF rfl rfl) rfl rfl ?_
      | refine TL_valg rfl (rr_len Und.eq rfl) rfl rfl ?_
      | refine TL_valg rfl (rr_eql rfl rfl (decide_eq_true (by omega))) rfl rfl ?_
      | refine TL_valg rfl (rr_eql rfl rfl (decide_eq_false (by omega))) rfl rfl ?_
      | refine TL_valg rfl (rr_neq rfl rfl (decide_eq_true (by omega))) rfl rfl ?_
      | refine TL_valg rfl (rr_neq rfl rfl (decide_eq_false (by omega))) rfl rfl ?_
      | refine TL_skip rfl rfl rfl rfl rfl rfl ?_
      | (refine TL_metg rfl rfl rfl ?_; (first | refine TL_valg rfl (rr_move rfl) rfl rfl ?_ | refine TL_valg rfl (rr_pickT rfl rfl) rfl rfl ?_ | refine TL_valg rfl (rr_pickF rfl rfl) rfl rfl ?_ | refine TL_valg rfl (rr_not rfl rfl) rfl rfl ?_ | refine TL_valg rfl (rr_eql rfl rfl (decide_eq_true (by omega))) rfl rfl ?_ | refine TL_valg rfl (rr_eql rfl rfl (decide_eq_false (by omega))) rfl rfl ?_)))
    refine TL_new rfl fun g9 => ?_
    refine TL_storeB (i := 4) rfl rfl rfl rfl (graV_one ho1) rfl ?_
    conv => arg 8; simp only [List.cons_append, List.nil_append, List.append_nil, List.filterMap_cons, List.filterMap_nil, List.getElem?_cons_succ, List.getElem?_cons_zero, List.set_cons_zero, List.set_cons_succ, rowS, ret, id_eq]
    refine TL_rowv (i := 2) rfl fun b2 c2 hvb e1 e2 => ?_
    subst hvb
    repeat (first
      | refine TL_valg rfl (rr_move rfl) rfl rfl ?_
      | refine TL_valg rfl (rr_assign rfl) rfl rfl ?_
      | refine TL_nil ?_
      | refine T_seq ?_
      | refine T_region ?_
      | refine T_condT rfl ?_
      | refine T_condF rfl ?_
      | refine T_skip ?_
      | refine T_ret ?_
      | refine E_then ?_
      | refine E_thenR ?_
      | refine TL_valg rfl (rr_extract rfl rfl) rfl rfl ?_
      | refine TL_valg rfl (rr_pickT rfl rfl) rfl rfl ?_
      | refine TL_valg rfl (rr_pickF rfl rfl) rfl rfl ?_
      | refine TL_valg rfl (rr_len Und.eq rfl) rfl rfl ?_
      | refine TL_valg rfl (rr_eql rfl rfl (decide_eq_true (by omega))) rfl rfl ?_
      | refine TL_valg rfl (rr_eql rfl rfl (decide_eq_false (by omega))) rfl rfl ?_
      | refine TL_valg rfl (rr_neq rfl rfl (decide_eq_true (by omega))) rfl rfl ?_
      | refine TL_valg rfl (rr_neq rfl rfl (decide_eq_false (by omega))) rfl rfl ?_
      | refine TL_skip rfl rfl rfl rfl rfl rfl ?_
      | (refine TL_metg rfl rfl rfl ?_; (first | refine TL_valg rfl (rr_move rfl) rfl rfl ?_ | refine TL_valg rfl (rr_pickT rfl rfl) rfl rfl ?_ | refine TL_valg rfl (rr_pickF rfl rfl) rfl rfl ?_ | refine TL_valg rfl (rr_not rfl rfl) rfl rfl ?_ | refine TL_valg rfl (rr_eql rfl rfl (decide_eq_true (by omega))) rfl rfl ?_ | refine TL_valg rfl (rr_eql rfl rfl (decide_eq_false (by omega))) rfl rfl ?_)))
    refine T_ord ([blkO g2 (graV t n vp).cells 24, blkO g3 (treeV tr.prod tr.tok (.slice bk tr.kids.length ck)).cells 46, blkO g9 (graV t n vm).cells 24]) (.calm 0 (.calm 1 (.calm 2 (.calm 3 (.one 4 (.one 5 (.calm 6 (.calm 7 (.calm 8 (.calm 9 (.calm 10 (.done)))))))))))) (sub_pick [0, 1, 4] (by decide) rfl) (by kernel_rfl) (by kernel_rfl) (by intro c a d v w h; cases d <;> exact h) ?_
    repeat (first
      | ((first | refine TW_plain rfl rfl ?_ | refine TW_gmet rfl rfl rfl rfl ?_); (first
          | refine TN_val (rr_move rfl) rfl rfl ?_
          | refine TN_val (rr_assign rfl) rfl rfl ?_
          | refine TN_val (rr_loadB (i := 2) TyC.ty rfl rfl rfl) rfl rfl ?_
          | refine TN_val (rr_loadB (i := 1) TyC.ty rfl rfl rfl) rfl rfl ?_
          | refine TN_val (rr_extract rfl rfl) rfl rfl ?_
          | refine TN_val (rr_pickT rfl rfl) rfl rfl ?_
          | refine TN_val (rr_pickF rfl rfl) rfl rfl ?_
          | refine TN_val (rr_len Und.eq rfl) rfl rfl ?_
          | refine TN_val (rr_eql rfl rfl (decide_eq_true (by omega))) rfl rfl ?_
          | refine TN_val (rr_eql rfl rfl (decide_eq_false (by omega))) rfl rfl ?_
          | refine TN_val (rr_neq rfl rfl (decide_eq_true (by omega))) rfl rfl ?_
          | refine TN_val (rr_neq rfl rfl (decide_eq_false (by omega))) rfl rfl ?_
          | refine TN_val (rr_not rfl rfl) rfl rfl ?_))
      | refine TW_skip rfl rfl rfl rfl rfl rfl rfl ?_
      | refine TW_done ?_)
    refine TW_one rfl ?_
    refine TL_call (he2 EntersC.en rfl rfl rfl) (fun w' hm => hD w' hm.below) rfl rfl rfl ?_
    rintro ⟨vq, F3⟩ _
    conv => arg 8; simp only [List.cons_append, List.nil_append, List.append_nil, List.filterMap_cons, List.filterMap_nil, List.getElem?_cons_succ, List.getElem?_cons_zero, List.set_cons_zero, List.set_cons_succ, rowS, ret, id_eq, treeSp]
    refine TW_on (sub_pick [0, 1, 4] (by decide) rfl) ?_
    refine TW_one rfl ?_
    refine TL_call (he2 EntersC.en rfl rfl rfl) (fun w hm => yield_calls _ _ ⟨t, n, prods.map mirP⟩ mt w (prodsO_gra o1 o2 (hm.get (i := 3) rfl)) (kidsO_tree hmo.1 hmo.2 (hm.get (i := 5) rfl)) m1) rfl rfl rfl ?_
    intro vz _
    rw [m2]
    conv => arg 8; simp only [List.cons_append, List.nil_append, List.append_nil, List.filterMap_cons, List.filterMap_nil, List.getElem?_cons_succ, List.getElem?_cons_zero, List.set_cons_zero, List.set_cons_succ, rowS, ret, id_eq, yieldS]
    refine TW_on (sub_pick [0, 1, 4] (by decide) rfl) ?_
    repeat (first
      | ((first | refine TW_plain rfl rfl ?_ | refine TW_gmet rfl rfl rfl rfl ?_); (first
          | refine TN_val (rr_move rfl) rfl rfl ?_
          | refine TN_val (rr_assign rfl) rfl rfl ?_
          | refine TN_val (rr_extract rfl rfl) rfl rfl ?_
          | refine TN_val (rr_pickT rfl rfl) rfl rfl ?_
          | refine TN_val (rr_pickF rfl rfl) rfl rfl ?_
          | refine TN_val (rr_len Und.eq rfl) rfl rfl ?_
          | refine TN_val (rr_eql rfl rfl (decide_eq_true (by omega))) rfl rfl ?_
          | refine TN_val (rr_eql rfl rfl (decide_eq_false (by omega))) rfl rfl ?_
          | refine TN_val (rr_neq rfl rfl (decide_eq_true (by omega))) rfl rfl ?_
          | refine TN_val (rr_neq rfl rfl (decide_eq_false (by omega))) rfl rfl ?_
          | refine TN_val (rr_not rfl rfl) rfl rfl ?_))
      | refine TW_skip rfl rfl rfl rfl rfl rfl rfl ?_
      | refine TW_done ?_)
    repeat (first
      | refine TL_valg rfl (rr_move rfl) rfl rfl ?_
      | refine TL_valg rfl (rr_assign rfl) rfl rfl ?_
      | refine TL_nil ?_
      | refine T_seq ?_
      | refine T_region ?_
      | refine T_condT rfl ?_
      | refine T_condF rfl ?_
      | refine T_skip ?_
      | refine T_ret ?_
      | refine E_then ?_
      | refine E_thenR ?_
      | refine TL_valg rfl (rr_extract rfl rfl) rfl rfl ?_
      | refine TL_valg rfl (rr_pickT rfl rfl) rfl rfl ?_
      | refine TL_valg rfl (rr_pickF rfl rfl) rfl rfl ?_
      | refine TL_valg rfl (rr_len Und.eq rfl) rfl rfl ?_
      | refine TL_valg rfl (rr_eql rfl rfl (decide_eq_true (by omega))) rfl rfl ?_
      | refine TL_valg rfl (rr_eql rfl rfl (decide_eq_false (by omega))) rfl rfl ?_
      | refine TL_valg rfl (rr_neq rfl rfl (decide_eq_true (by omega))) rfl rfl ?_
      | refine TL_valg rfl (rr_neq rfl rfl (decide_eq_false (by omega))) rfl rfl ?_
      | refine TL_skip rfl rfl rfl rfl rfl rfl ?_
      | (refine TL_metg rfl rfl rfl ?_; (first | refine TL_valg rfl (rr_move rfl) rfl rfl ?_ | refine TL_valg rfl (rr_pickT rfl rfl) rfl rfl ?_ | refine TL_valg rfl (rr_pickF rfl rfl) rfl rfl ?_ | refine TL_valg rfl (rr_not rfl rfl) rfl rfl ?_ | refine TL_valg rfl (rr_eql rfl rfl (decide_eq_true (by omega))) rfl rfl ?_ | refine TL_valg rfl (rr_eql rfl rfl (decide_eq_false (by omega))) rfl rfl ?_)))
    refine TL_pick [2, 6] (by decide) rfl ?_
    refine TL_callB [1] [0] (by decide) rfl rfl (he1 EntersC.en rfl rfl) (fun w hm hb => reverseIntC_calls vz ys.reverse w _ (by rw [flatI]; exact hb) (by simp; omega)) rfl rfl rfl ?_
    intro _ _
    rw [List.reverse_reverse]
    conv => arg 8; simp only [List.cons_append, List.nil_append, List.append_nil, List.filterMap_cons, List.filterMap_nil, List.getElem?_cons_succ, List.getElem?_cons_zero, List.set_cons_zero, List.set_cons_succ, rowS, ret, id_eq]
    repeat (first
      | refine TL_valg rfl (rr_move rfl) rfl rfl ?_
      | refine TL_valg rfl (rr_assign rfl) rfl rfl ?_
      | refine TL_nil ?_
      | refine T_seq ?_
      | refine T_region ?_
      | refine T_condT rfl ?_
      | refine T_condF rfl ?_
      | refine T_skip ?_
      | refine T_ret ?_
      | refine E_then ?_
      | refine E_thenR ?_
      | refine TL_valg rfl (rr_extract rfl rfl) rfl rfl ?_
      | refine TL_valg rfl (rr_pickT rfl rfl) rfl rfl ?_
      | refine TL_valg rfl (rr_pickF rfl rfl) rfl rfl ?_
      | refine TL_valg rfl (rr_len Und.eq rfl) rfl rfl ?_
      | refine TL_valg rfl (rr_eql rfl rfl (decide_eq_true (by omega))) rfl rfl ?_
      | refine TL_valg rfl (rr_eql rfl rfl (decide_eq_false (by omega))) rfl rfl ?_
      | refine TL_valg rfl (rr_neq rfl rfl (decide_eq_true (by omega))) rfl rfl ?_
      | refine TL_valg rfl (rr_neq rfl rfl (decide_eq_false (by omega))) rfl rfl ?_
      | refine TL_skip rfl rfl rfl rfl rfl rfl ?_
      | (refine TL_metg rfl rfl rfl ?_; (first | refine TL_valg rfl (rr_move rfl) rfl rfl ?_ | refine TL_valg rfl (rr_pickT rfl rfl) rfl rfl ?_ | refine TL_valg rfl (rr_pickF rfl rfl) rfl rfl ?_ | refine TL_valg rfl (rr_not rfl rfl) rfl rfl ?_ | refine TL_valg rfl (rr_eql rfl rfl (decide_eq_true (by omega))) rfl rfl ?_ | refine TL_valg rfl (rr_eql rfl rfl (decide_eq_false (by omega))) rfl rfl ?_)))
    refine TL_gcall (he2 EntersC.en rfl rfl rfl) (fun w hm => equalIntS_calls vz (.slice b2 ys.length c2) ys ys w (by have h0 : Sl w vz ys.reverse.length (ys.flatMap kit.intC) := sl_row (i := 1) rfl w hm; rw [List.length_reverse] at h0; exact h0) (sl_i (sl_row (i := 0) rfl w hm) rfl)) rfl rfl rfl rfl rfl ?_
    intro _ _
    rw [decide_eq_true rfl]
    repeat (first
      | refine TL_valg rfl (rr_move rfl) rfl rfl ?_
      | refine TL_valg rfl (rr_assign rfl) rfl rfl ?_
      | refine TL_nil ?_
      | refine T_seq ?_
      | refine T_region ?_
      | refine T_condT rfl ?_
      | refine T_condF rfl ?_
      | refine T_skip ?_
      | refine T_ret ?_
      | refine E_then ?_
      | refine E_thenR ?_
      | refine TL_valg rfl (rr_extract rfl rfl) rfl rfl ?_
      | refine TL_valg rfl (rr_pickT rfl rfl) rfl rfl ?_
      | refine TL_valg rfl (rr_pickF rfl rfl) rfl rfl ?_
      | refine TL_valg rfl (rr_len Und.eq rfl) rfl rfl ?_
      | refine TL_valg rfl (rr_eql rfl rfl (decide_eq_true (by omega))) rfl rfl ?_
      | refine TL_valg rfl (rr_eql rfl rfl (decide_eq_false (by omega))) rfl rfl ?_
      | refine TL_valg rfl (rr_neq rfl rfl (decide_eq_true (by omega))) rfl rfl ?_
      | refine TL_valg rfl (rr_neq rfl rfl (decide_eq_false (by omega))) rfl rfl ?_
      | refine TL_skip rfl rfl rfl rfl rfl rfl ?_
      | (refine TL_metg rfl rfl rfl ?_; (first | refine TL_valg rfl (rr_move rfl) rfl rfl ?_ | refine TL_valg rfl (rr_pickT rfl rfl) rfl rfl ?_ | refine TL_valg rfl (rr_pickF rfl rfl) rfl rfl ?_ | refine TL_valg rfl (rr_not rfl rfl) rfl rfl ?_ | refine TL_valg rfl (rr_eql rfl rfl (decide_eq_true (by omega))) rfl rfl ?_ | refine TL_valg rfl (rr_eql rfl rfl (decide_eq_false (by omega))) rfl rfl ?_)))
    exact E_ret1 rfl rfl fun w hm => hm.ret
  · have hYE := fun w' hg => hYE w' hg c0
    clear hY hM
    obtain ⟨t, n, prods⟩ := g
    dsimp only at *
    generalize checkT ⟨t, n, prods⟩ tr = e at *
    refine enter (args := [graV t n vp, treeV tr.prod tr.tok (.slice bk tr.kids.length ck)]) (n := 75) Try.func5 rfl rfl rfl ?_
    refine T_seq (T_region (TL_box rfl rfl rfl fun g2 => TL_box rfl rfl rfl fun g3 => ?_))
    conv => arg 8; simp only [List.cons_append, List.nil_append, List.append_nil, List.filterMap_cons, List.filterMap_nil, List.getElem?_cons_succ, List.getElem?_cons_zero, List.set_cons_zero, List.set_cons_succ, rowS, ret, id_eq]
    repeat (first
      | refine TL_valg rfl (rr_move rfl) rfl rfl ?_
      | refine TL_valg rfl (rr_assign rfl) rfl rfl ?_
      | refine TL_nil ?_
      | refine T_seq ?_
      | refine T_region ?_
      | refine T_condT rfl ?_
      | refine T_condF rfl ?_
      | refine T_skip ?_
      | refine T_ret ?_
      | refine E_then ?_
      | refine E_thenR ?_
      | refine TL_valg rfl (rr_extract rfl rfl) rfl rfl ?_
      | refine TL_valg rfl (rr_pickT rfl rfl) rfl rfl ?_
      | refine TL_valg rfl (rr_pickF rfl rfl) rfl rfl ?_
      | refine TL_valg rfl (rr_len Und.eq rfl) rfl rfl ?_
      | refine TL_valg rfl (rr_eql rfl rfl (decide_eq_true (by omega))) rfl rfl ?_
      | refine TL_valg rfl (rr_eql rfl rfl (decide_eq_false (by omega))) rfl rfl ?_
      | refine TL_valg rfl (rr_neq rfl rfl (decide_eq_true (by omega))) rfl rfl ?_
      | refine TL_valg rfl (rr_neq rfl rfl (decide_eq_false (by omega))) rfl rfl ?_
      | refine TL_skip rfl rfl rfl rfl rfl rfl ?_
      | (refine TL_metg rfl rfl rfl ?_; (first | refine TL_valg rfl (rr_move rfl) rfl rfl ?_ | refine TL_valg rfl (rr_pickT rfl rfl) rfl rfl ?_ | refine TL_valg rfl (rr_pickF rfl rfl) rfl rfl ?_ | refine TL_valg rfl (rr_not rfl rfl) rfl rfl ?_ | refine TL_valg rfl (rr_eql rfl rfl (decide_eq_true (by omega))) rfl rfl ?_ | refine TL_valg rfl (rr_eql rfl rfl (decide_eq_false (by omega))) rfl rfl ?_)))
    refine TL_call (he0 EntersC.en rfl) (fun w hm => brackets_calls w) rfl rfl rfl ?_
    rintro ⟨vb, F1⟩ _
    conv => arg 8; simp only [List.cons_append, List.nil_append, List.append_nil, List.filterMap_cons, List.filterMap_nil, List.getElem?_cons_succ, List.getElem?_cons_zero, List.set_cons_zero, List.set_cons_succ, rowS, ret, id_eq, gramS]
    refine TL_call (he0 EntersC.en rfl) (fun w hm => one_calls' w) rfl rfl rfl ?_
    rintro ⟨vo, F2⟩ _
    conv => arg 8; simp only [List.cons_append, List.nil_append, List.append_nil, List.filterMap_cons, List.filterMap_nil, List.getElem?_cons_succ, List.getElem?_cons_zero, List.set_cons_zero, List.set_cons_succ, rowS, ret, id_eq, treeSp]
    refine TL_call (he2 EntersC.en rfl rfl rfl) (fun w hm => yield_calls _ _ brkG oneT w (prodsO_gra ok2 ok1 (hm.get (i := 2) rfl)) (kidsO_tree oku okz (hm.get (i := 3) rfl)) brk_one.1) rfl rfl rfl ?_
    intro vy _
    rw [brk_one.2]
    conv => arg 8; simp only [List.cons_append, List.nil_append, List.append_nil, List.filterMap_cons, List.filterMap_nil, List.getElem?_cons_succ, List.getElem?_cons_zero, List.set_cons_zero, List.set_cons_succ, rowS, ret, id_eq, yieldS]
    refine TL_pick [0, 1, 4] (by decide) rfl ?_
    repeat (first
      | refine TL_valg rfl (rr_move rfl) rfl rfl ?_
      | refine TL_valg rfl (rr_assign rfl) rfl rfl ?_
      | refine TL_nil ?_
      | refine T_seq ?_
      | refine T_region ?_
      | refine T_condT rfl ?_
      | refine T_condF rfl ?_
      | refine T_skip ?_
      | refine T_ret ?_
      | refine E_then ?_
      | refine E_thenR ?_
      | refine TL_valg rfl (rr_extract rfl rfl) rfl rfl ?_
      | refine TL_valg rfl (rr_pickT rfl rfl) rfl rfl ?_
      | refine TL_valg rfl (rr_pickF rfl rfl) rfl rfl ?_
      | refine TL_valg rfl (rr_len Und.eq rfl) rfl rfl ?_
      | refine TL_valg rfl (rr_eql rfl rfl (decide_eq_true (by omega))) rfl rfl ?_
      | refine TL_valg rfl (rr_eql rfl rfl (decide_eq_false (by omega))) rfl rfl ?_
      | refine TL_valg rfl (rr_neq rfl rfl (decide_eq_true (by omega))) rfl rfl ?_
      | refine TL_valg rfl (rr_neq rfl rfl (decide_eq_false (by omega))) rfl rfl ?_
      | refine TL_skip rfl rfl rfl rfl rfl rfl ?_
      | (refine TL_metg rfl rfl rfl ?_; (first | refine TL_valg rfl (rr_move rfl) rfl rfl ?_ | refine TL_valg rfl (rr_pickT rfl rfl) rfl rfl ?_ | refine TL_valg rfl (rr_pickF rfl rfl) rfl rfl ?_ | refine TL_valg rfl (rr_not rfl rfl) rfl rfl ?_ | refine TL_valg rfl (rr_eql rfl rfl (decide_eq_true (by omega))) rfl rfl ?_ | refine TL_valg rfl (rr_eql rfl rfl (decide_eq_false (by omega))) rfl rfl ?_)))
    refine TL_metg rfl rfl rfl ?_
    refine TL_litV [.int .i64 0, .int .i64 1] rfl rfl rfl (by intro v hv; simp at hv; rcases hv with rfl | rfl <;> rfl) rfl rfl fun g22 => ?_
    conv => arg 8; simp only [List.cons_append, List.nil_append, List.append_nil, List.filterMap_cons, List.filterMap_nil, List.getElem?_cons_succ, List.getElem?_cons_zero, List.set_cons_zero, List.set_cons_succ, rowS, ret, id_eq]
    refine TL_gcall (he2 EntersC.en rfl rfl rfl) (fun w hm => equalIntS_calls vy _ [0, 1] [0, 1] w (sl_i (sl_row (i := 2) rfl w hm) rfl) (sl_i (sl_blk (i := 3) (xs := [0, 1].map (.int .i64)) rfl (fun j u hj => by simpa using hj) (by decide) (by decide) w hm) rfl)) rfl rfl rfl rfl rfl ?_
    intro _ _
    rw [decide_eq_true rfl]
    conv => arg 8; simp only [List.cons_append, List.nil_append, List.append_nil, List.filterMap_cons, List.filterMap_nil, List.getElem?_cons_succ, List.getElem?_cons_zero, List.set_cons_zero, List.set_cons_succ, rowS, ret, id_eq]
    refine TL_pick [0, 1] (by decide) rfl ?_
    repeat (first
      | refine TL_valg rfl (rr_move rfl) rfl rfl ?_
      | refine TL_valg rfl (rr_assign rfl) rfl rfl ?_
      | refine TL_nil ?_
      | refine T_seq ?_
      | refine T_region ?_
      | refine T_condT rfl ?_
      | refine T_condF rfl ?_
      | refine T_skip ?_
      | refine T_ret ?_
      | refine E_then ?_
      | refine E_thenR ?_
      | refine TL_valg rfl (rr_extract rfl rfl) rfl rfl ?_
      | refine TL_valg rfl (rr_pickT rfl rfl) rfl rfl ?_
      | refine TL_valg rfl (rr_pickF rfl rfl) rfl rfl ?_
      | refine TL_valg rfl (rr_len Und.eq rfl) rfl rfl ?_
      | refine TL_valg rfl (rr_eql rfl rfl (decide_eq_true (by omega))) rfl rfl ?_
      | refine TL_valg rfl (rr_eql rfl rfl (decide_eq_false (by omega))) rfl rfl ?_
      | refine TL_valg rfl (rr_neq rfl rfl (decide_eq_true (by omega))) rfl rfl ?_
      | refine TL_valg rfl (rr_neq rfl rfl (decide_eq_false (by omega))) rfl rfl ?_
      | refine TL_skip rfl rfl rfl rfl rfl rfl ?_
      | (refine TL_metg rfl rfl rfl ?_; (first | refine TL_valg rfl (rr_move rfl) rfl rfl ?_ | refine TL_valg rfl (rr_pickT rfl rfl) rfl rfl ?_ | refine TL_valg rfl (rr_pickF rfl rfl) rfl rfl ?_ | refine TL_valg rfl (rr_not rfl rfl) rfl rfl ?_ | refine TL_valg rfl (rr_eql rfl rfl (decide_eq_true (by omega))) rfl rfl ?_ | refine TL_valg rfl (rr_eql rfl rfl (decide_eq_false (by omega))) rfl rfl ?_)))
    repeat (first
      | refine TL_valg rfl (rr_move rfl) rfl rfl ?_
      | refine TL_valg rfl (rr_assign rfl) rfl rfl ?_
      | refine TL_nil ?_
      | refine T_seq ?_
      | refine T_region ?_
      | refine T_condT rfl ?_
      | refine T_condF rfl ?_
      | refine T_skip ?_
      | refine T_ret ?_
      | refine E_then ?_
      | refine E_thenR ?_
      | refine TL_valg rfl (rr_loadB (i := 0) TyC.ty rfl rfl rfl) rfl rfl ?_
      | refine TL_valg rfl (rr_loadB (i := 1) TyC.ty rfl rfl rfl) rfl rfl ?_
      | refine TL_valg rfl (rr_extract rfl rfl) rfl rfl ?_
      | refine TL_valg rfl (rr_pickT rfl rfl) rfl rfl ?_
      | refine TL_valg rfl (rr_pickF rfl rfl) rfl rfl ?_
      | refine TL_valg rfl (rr_len Und.eq rfl) rfl rfl ?_
      | refine TL_valg rfl (rr_eql rfl rfl (decide_eq_true (by omega))) rfl rfl ?_
      | refine TL_valg rfl (rr_eql rfl rfl (decide_eq_false (by omega))) rfl rfl ?_
      | refine TL_valg rfl (rr_neq rfl rfl (decide_eq_true (by omega))) rfl rfl ?_
      | refine TL_valg rfl (rr_neq rfl rfl (decide_eq_false (by omega))) rfl rfl ?_
      | refine TL_skip rfl rfl rfl rfl rfl rfl ?_
      | (refine TL_metg rfl rfl rfl ?_; (first | refine TL_valg rfl (rr_loadB (i := 0) TyC.ty rfl rfl rfl) rfl rfl ?_ | refine TL_valg rfl (rr_loadB (i := 1) TyC.ty rfl rfl rfl) rfl rfl ?_ | refine TL_valg rfl (rr_move rfl) rfl rfl ?_ | refine TL_valg rfl (rr_pickT rfl rfl) rfl rfl ?_ | refine TL_valg rfl (rr_pickF rfl rfl) rfl rfl ?_ | refine TL_valg rfl (rr_not rfl rfl) rfl rfl ?_ | refine TL_valg rfl (rr_eql rfl rfl (decide_eq_true (by omega))) rfl rfl ?_ | refine TL_valg rfl (rr_eql rfl rfl (decide_eq_false (by omega))) rfl rfl ?_)))
    refine TL_call (he2 EntersC.en rfl rfl rfl) (fun w hm => hYE _ hm.below) rfl rfl rfl ?_
    intro _ _
    conv => arg 8; simp only [List.cons_append, List.nil_append, List.append_nil, List.filterMap_cons, List.filterMap_nil, List.getElem?_cons_succ, List.getElem?_cons_zero, List.set_cons_zero, List.set_cons_succ, rowS, ret, id_eq]
    repeat (first
      | refine TL_valg rfl (rr_move rfl) rfl rfl ?_
      | refine TL_valg rfl (rr_assign rfl) rfl rfl ?_
      | refine TL_nil ?_
      | refine T_seq ?_
      | refine T_region ?_
      | refine T_condT rfl ?_
      | refine T_condF rfl ?_
      | refine T_skip ?_
      | refine T_ret ?_
      | refine E_then ?_
      | refine E_thenR ?_
      | refine TL_valg rfl (rr_loadB (i := 0) TyC.ty rfl rfl rfl) rfl rfl ?_
      | refine TL_valg rfl (rr_loadB (i := 1) TyC.ty rfl rfl rfl) rfl rfl ?_
      | refine TL_valg rfl (rr_extract rfl rfl) rfl rfl ?_
      | refine TL_valg rfl (rr_pickT rfl rfl) rfl rfl ?_
      | refine TL_valg rfl (rr_pickF rfl rfl) rfl rfl ?_
      | refine TL_valg rfl (rr_len Und.eq rfl) rfl rfl ?_
      | refine TL_valg rfl (rr_eql rfl rfl (decide_eq_true (by omega))) rfl rfl ?_
      | refine TL_valg rfl (rr_eql rfl rfl (decide_eq_false (by omega))) rfl rfl ?_
      | refine TL_valg rfl (rr_neq rfl rfl (decide_eq_true (by omega))) rfl rfl ?_
      | refine TL_valg rfl (rr_neq rfl rfl (decide_eq_false (by omega))) rfl rfl ?_
      | refine TL_skip rfl rfl rfl rfl rfl rfl ?_
      | (refine TL_metg rfl rfl rfl ?_; (first | refine TL_valg rfl (rr_loadB (i := 0) TyC.ty rfl rfl rfl) rfl rfl ?_ | refine TL_valg rfl (rr_loadB (i := 1) TyC.ty rfl rfl rfl) rfl rfl ?_ | refine TL_valg rfl (rr_move rfl) rfl rfl ?_ | refine TL_valg rfl (rr_pickT rfl rfl) rfl rfl ?_ | refine TL_valg rfl (rr_pickF rfl rfl) rfl rfl ?_ | refine TL_valg rfl (rr_not rfl rfl) rfl rfl ?_ | refine TL_valg rfl (rr_eql rfl rfl (decide_eq_true (by omega))) rfl rfl ?_ | refine TL_valg rfl (rr_eql rfl rfl (decide_eq_false (by omega))) rfl rfl ?_)))
    refine TL_gcall (he2 EntersC.en rfl rfl rfl) (fun w hm => hC _ hm.below) rfl rfl rfl rfl rfl ?_
    intro _ _
    repeat (first
      | refine TL_valg rfl (rr_move rfl) rfl rfl ?_
      | refine TL_valg rfl (rr_assign rfl) rfl rfl ?_
      | refine TL_nil ?_
      | refine T_seq ?_
      | refine T_region ?_
      | refine T_condT rfl ?_
      | refine T_condF rfl ?_
      | refine T_skip ?_
      | refine T_ret ?_
      | refine E_then ?_
      | refine E_thenR ?_
      | refine TL_valg rfl (rr_extract rfl rfl) rfl rfl ?_
      | refine TL_valg rfl (rr_pickT rfl rfl) rfl rfl ?_
      | refine TL_valg rfl (rr_pickF rfl rfl) rfl rfl ?_
      | refine TL_valg rfl (rr_len Und.eq rfl) rfl rfl ?_
      | refine TL_valg rfl (rr_eql rfl rfl (decide_eq_true (by omega))) rfl rfl ?_
      | refine TL_valg rfl (rr_eql rfl rfl (decide_eq_false (by omega))) rfl rfl ?_
      | refine TL_valg rfl (rr_neq rfl rfl (decide_eq_true (by omega))) rfl rfl ?_
      | refine TL_valg rfl (rr_neq rfl rfl (decide_eq_false (by omega))) rfl rfl ?_
      | refine TL_skip rfl rfl rfl rfl rfl rfl ?_
      | (refine TL_metg rfl rfl rfl ?_; (first | refine TL_valg rfl (rr_move rfl) rfl rfl ?_ | refine TL_valg rfl (rr_pickT rfl rfl) rfl rfl ?_ | refine TL_valg rfl (rr_pickF rfl rfl) rfl rfl ?_ | refine TL_valg rfl (rr_not rfl rfl) rfl rfl ?_ | refine TL_valg rfl (rr_eql rfl rfl (decide_eq_true (by omega))) rfl rfl ?_ | refine TL_valg rfl (rr_eql rfl rfl (decide_eq_false (by omega))) rfl rfl ?_)))
    exact E_ret1 rfl rfl fun w hm => hm.ret
end Go.Proofs.Ytnicebdkejkieaa.treesMirror
