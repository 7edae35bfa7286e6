/- The walk of FactsBody. -/
import Derived.Test.YtnicebdkejkieaaFactsF
namespace Go.Proofs.Ytnicebdkejkieaa.factsL
open gramL
theorem all_any (M : List Bool) (body : List Sym) : (!(body.any fun x => decide (x.1 = 2) && !M.getD x.2.toNat false)) = allF M body true := by
  unfold allF
  induction body with
  | nil => rfl
  | cons x r ih =>
    rw [List.any_cons, List.all_cons, ← ih, Bool.not_or]
    congr 1
    by_cases c1 : x.1 = 1
    · rw [if_pos c1]; simp [c1]
    · rw [if_neg c1]
      by_cases c2 : x.1 = 2
      · rw [if_pos c2]; simp [c2]
      · rw [if_neg c2]; simp [c2]
end Go.Proofs.Ytnicebdkejkieaa.factsL
namespace Go.Proofs.Ytnicebdkejkieaa.factsBody
open Go.RowKit kit mix gramL factsL eng
set_option maxHeartbeats 1000000 in
theorem body1_calls (x : Sym) (g15 : Nat) (vE vF vW vR vM : Value) (M : List Bool) (w : World) (hg : w.heap[g15]? = some (.cells #[vE, vF, vW, vR, vM] 63 (0, 0))) (hM : Sl w vM M.length (M.map .bool)) (hx : x.1 = 2 → 0 ≤ x.2 ∧ x.2 < M.length) :
    Calls Try.prog 38 #[.agg (symC x).toArray, .pointer (some ⟨g15, 0, none⟩)] w (Meets (ret (.bool (decide (x.1 = 2) && !M.getD x.2.toNat false))) w) := by
  obtain ⟨bM, cM, rfl, e1, e2, e3⟩ := hM
  have h4 : ∀ (L : List Own), At w L ⟨g15, 4, none⟩ (.slice bM M.length cM) := fun L => at_old (by rw [cell_of_row w g15 4 _ _ _ hg]; rfl)
  obtain ⟨q, m⟩ := x
  dsimp only at hx ⊢
  refine enter (args := [.agg (symC (q, m)).toArray, .pointer (some ⟨g15, 0, none⟩)]) (n := 16) Try.func38 rfl rfl rfl ?_
  refine T_seq (T_region (TL_box rfl rfl rfl fun g2 => ?_))
  by_cases c : q = 2
  · obtain ⟨o1, o2⟩ := hx c
    obtain ⟨mm, rfl⟩ : ∃ mm : Nat, m = mm := ⟨m.toNat, by omega⟩
    have hmm : mm < M.length := by omega
    obtain ⟨b, off, rfl, hr⟩ := e3 (by omega)
    rw [decide_eq_true c, Int.toNat_natCast, Bool.true_and]
    have hc := bool_at hmm
    generalize M.getD mm false = y at *
    repeat (first
      | refine TL_val (rr_move rfl) rfl rfl rfl ?_
      | refine TL_val (rr_assign rfl) rfl rfl rfl ?_
      | refine TL_nil ?_
      | refine T_seq ?_
      | refine T_region ?_
      | refine T_ret ?_
      | refine E_then ?_
      | refine E_thenR ?_
      | refine TL_val (rr_load1 TyC.ty rfl (at_blk (i := 0) rfl rfl)) rfl rfl rfl ?_
      | refine TL_val (rr_load1 TyC.ty rfl (h4 _)) rfl rfl rfl ?_
      | refine TL_val (rr_load1 TyC.ty rfl (at_rd hr hc)) rfl rfl rfl ?_
      | refine TL_val (rr_pickT rfl rfl) rfl rfl rfl ?_
      | refine TL_val (rr_pickF rfl rfl) rfl rfl rfl ?_
      | refine TL_val (rr_field FldC.fld rfl rfl) rfl rfl rfl ?_
      | refine TL_val (rr_eql rfl rfl (decide_eq_true (by omega))) rfl rfl rfl ?_
      | refine TL_val (rr_eql rfl rfl (decide_eq_false (by omega))) rfl rfl rfl ?_
      | refine TL_skip rfl rfl rfl rfl rfl rfl ?_
      | refine TL_gval (rr_load1 TyC.ty rfl (at_blk (i := 0) rfl rfl)) rfl rfl rfl rfl rfl ?_
      | refine TL_gval (rr_load1 TyC.ty rfl (h4 _)) rfl rfl rfl rfl rfl ?_
      | refine TL_gval (rr_idx1 Und.eq TyC.ty rfl rfl hmm) rfl rfl rfl rfl rfl ?_
      | refine TL_gval (rr_load1 TyC.ty rfl (at_rd hr hc)) rfl rfl rfl rfl rfl ?_
      | refine TL_gval (rr_field FldC.fld rfl rfl) rfl rfl rfl rfl rfl ?_
      | refine TL_gval (rr_not rfl rfl) rfl rfl rfl rfl rfl ?_)
    exact E_ret1 rfl rfl fun w hm => hm.ret
  · rw [decide_eq_false c, Bool.false_and]
    repeat (first
      | refine TL_val (rr_move rfl) rfl rfl rfl ?_
      | refine TL_val (rr_assign rfl) rfl rfl rfl ?_
      | refine TL_nil ?_
      | refine T_seq ?_
      | refine T_region ?_
      | refine T_ret ?_
      | refine E_then ?_
      | refine E_thenR ?_
      | refine TL_val (rr_load1 TyC.ty rfl (at_blk (i := 0) rfl rfl)) rfl rfl rfl ?_
      | refine TL_val (rr_pickT rfl rfl) rfl rfl rfl ?_
      | refine TL_val (rr_pickF rfl rfl) rfl rfl rfl ?_
      | refine TL_val (rr_field FldC.fld rfl rfl) rfl rfl rfl ?_
      | refine TL_val (rr_eql rfl rfl (decide_eq_true (by omega))) rfl rfl rfl ?_
      | refine TL_val (rr_eql rfl rfl (decide_eq_false (by omega))) rfl rfl rfl ?_
      | refine TL_skip rfl rfl rfl rfl rfl rfl ?_
      | refine TL_gval (rr_load1 TyC.ty rfl (at_blk (i := 0) rfl rfl)) rfl rfl rfl rfl rfl ?_
      | refine TL_gval (rr_field FldC.fld rfl rfl) rfl rfl rfl rfl rfl ?_
      | refine TL_gval (rr_not rfl rfl) rfl rfl rfl rfl rfl ?_)
    exact E_ret1 rfl rfl fun w hm => hm.ret
theorem brk_begin : begE brkG [(2, 0), (1, 1)] = 0 ∧ begV brkG [(2, 0), (1, 1)] 4 = 3 := ⟨by kernel_rfl, by kernel_rfl⟩
set_option maxHeartbeats 8000000 in
theorem walk (w : World) (v : Value) (g : Gram) (h : GraR (fun k => k < w.heap.size) w v g) (_ : g.prods.length * 32 ≤ 140737488351232) (vb : Value) (body : List Sym) (hs : Sl w vb body.length (body.flatMap symC)) (a : Nat) (ha : a < 18446744073709551616) (b : Nat) (hb : b < 18446744073709551616) :
    Calls Try.prog 6 #[v, vb, .int .u64 (a : Int), .int .u64 (b : Int)] w (Meets (ret (.bool true)) w) := by
  have hor := bits_orN ha hb
  have hB1 := fun w' (hg : Gr w w') => factsBegin_calls v vb g body a w' (h.gr hg) (hs.gr hg) ha
  have hB2 := fun w' (hg : Gr w w') => factsBegin_calls v vb g body (a ||| b) w' (h.gr hg) (hs.gr hg) (or_lt ha hb)
  have hB3 := fun (v' : Value) (l : List Sym) w' (hg : Gr w w') hs' => factsBegin_calls v v' g l 0 w' (h.gr hg) hs' (by decide)
  have hOf := fun w' (hg : Gr w w') => of_calls v g w' (h.gr hg)
  have h0 := h
  obtain ⟨vp, rfl, h1, o1, o2⟩ := h
  obtain ⟨t, n, prods⟩ := g
  dsimp only at *
  refine enter (args := [graV t n vp, vb, bitV a, bitV b]) (n := 122) Try.func6 rfl rfl rfl ?_
  refine T_seq (T_region (TL_box rfl rfl rfl fun g4 => ?_))
  repeat (first
    | refine TL_val (rr_move rfl) rfl rfl rfl ?_
    | refine TL_val (rr_assign rfl) rfl rfl rfl ?_
    | refine TL_nil ?_
    | refine T_seq ?_
    | refine T_region ?_
    | refine T_condT rfl ?_
    | refine T_condF rfl ?_
    | refine T_skip ?_
    | refine T_exit ?_
    | refine T_ret ?_
    | refine T_block ?_
    | refine E_then ?_
    | refine E_thenX ?_
    | refine E_thenR ?_
    | refine E_blockN ?_
    | refine E_blockR ?_
    | refine E_blockX ?_
    | refine E_blockO rfl ?_
    | refine TL_val (rr_extract rfl rfl) rfl rfl rfl ?_
    | refine TL_val (rr_pickT rfl rfl) rfl rfl rfl ?_
    | refine TL_val (rr_pickF rfl rfl) rfl rfl rfl ?_
    | refine TL_val (rr_len Und.eq rfl) rfl rfl rfl ?_
    | refine TL_val (rr_field FldC.fld rfl rfl) rfl rfl rfl ?_
    | refine TL_val (rr_not rfl rfl) rfl rfl rfl ?_
    | refine TL_val (rr_lss rfl rfl (decide_eq_true (by omega))) rfl rfl rfl ?_
    | refine TL_val (rr_lss rfl rfl (decide_eq_false (by omega))) rfl rfl rfl ?_
    | refine TL_val (rr_eql rfl rfl (decide_eq_true (by omega))) rfl rfl rfl ?_
    | refine TL_val (rr_eql rfl rfl (decide_eq_false (by omega))) rfl rfl rfl ?_
    | refine TL_val (rr_neq rfl rfl (decide_eq_true (by omega))) rfl rfl rfl ?_
    | refine TL_val (rr_neq rfl rfl (decide_eq_false (by omega))) rfl rfl rfl ?_
    | refine TL_val (rr_add64 rfl rfl (by omega) (by omega) rfl) rfl rfl rfl ?_
    | refine TL_skip rfl rfl rfl rfl rfl rfl ?_
    | refine TL_gval (rr_move rfl) rfl rfl rfl rfl rfl ?_
    | refine TL_gval (rr_pickT rfl rfl) rfl rfl rfl rfl rfl ?_
    | refine TL_gval (rr_pickF rfl rfl) rfl rfl rfl rfl rfl ?_
    | refine TL_gval (rr_field FldC.fld rfl rfl) rfl rfl rfl rfl rfl ?_
    | refine TL_gval (rr_eql rfl rfl (decide_eq_true (by omega))) rfl rfl rfl rfl rfl ?_
    | refine TL_gval (rr_eql rfl rfl (decide_eq_false (by omega))) rfl rfl rfl rfl rfl ?_
    | refine TL_gval (rr_neq rfl rfl (decide_eq_true (by omega))) rfl rfl rfl rfl rfl ?_
    | refine TL_gval (rr_neq rfl rfl (decide_eq_false (by omega))) rfl rfl rfl rfl rfl ?_)
  refine TL_call (he0 EntersC.en rfl) (fun w hm => brackets_calls w) rfl rfl rfl ?_
  rintro ⟨vk, F⟩ _
  conv => arg 8; simp only [List.cons_append, List.nil_append, List.append_nil, List.filterMap_cons, List.filterMap_nil, List.getElem?_cons_succ, List.getElem?_cons_zero, List.set_cons_zero, List.set_cons_succ, rowS, ret, id_eq, gramS]
  refine TL_call (he1 EntersC.en rfl rfl) (fun w hm => non_calls 0 w) rfl rfl rfl ?_
  intro _ _
  refine TL_call (he1 EntersC.en rfl rfl) (fun w hm => term_calls 1 w) rfl rfl rfl ?_
  intro _ _
  conv => arg 8; simp only [List.cons_append, List.nil_append, List.append_nil, List.filterMap_cons, List.filterMap_nil, List.getElem?_cons_succ, List.getElem?_cons_zero, List.set_cons_zero, List.set_cons_succ, rowS, ret, id_eq]
  refine TL_litN (cs := ([(2, 0), (1, 1)].flatMap symC).toArray) [.agg (symC (2, 0)).toArray, .agg (symC (1, 1)).toArray] rfl rfl rfl (by intro v hv; simp at hv; rcases hv with rfl | rfl <;> rfl) rfl rfl rfl fun g26 => ?_
  conv => arg 8; simp only [List.cons_append, List.nil_append, List.append_nil, List.filterMap_cons, List.filterMap_nil, List.getElem?_cons_succ, List.getElem?_cons_zero, List.set_cons_zero, List.set_cons_succ, rowS, ret, id_eq]
  refine TL_call (he3 EntersC.en rfl rfl rfl rfl) (fun w hm => factsBegin_calls _ _ brkG [(2, 0), (1, 1)] 4 w (prodsO_gra ok2 ok1 (hm.get (i := 1) rfl)) (sl_blk (i := 2) (xs := [(2, 0), (1, 1)].flatMap symC) rfl (fun j u hj => by simpa using hj) (by decide) (by decide) w hm) (by decide)) rfl rfl rfl ?_
  intro _ _
  rw [brk_begin.1, brk_begin.2]
  conv => arg 8; simp only [List.cons_append, List.nil_append, List.append_nil, List.filterMap_cons, List.filterMap_nil, List.getElem?_cons_succ, List.getElem?_cons_zero, List.set_cons_zero, List.set_cons_succ, rowS, ret, id_eq]
  refine TL_pick [0] (by decide) rfl ?_
  repeat (first
    | refine TL_val (rr_move rfl) rfl rfl rfl ?_
    | refine TL_val (rr_assign rfl) rfl rfl rfl ?_
    | refine TL_nil ?_
    | refine T_seq ?_
    | refine T_region ?_
    | refine T_condT rfl ?_
    | refine T_condF rfl ?_
    | refine T_skip ?_
    | refine T_exit ?_
    | refine T_ret ?_
    | refine T_block ?_
    | refine E_then ?_
    | refine E_thenX ?_
    | refine E_thenR ?_
    | refine E_blockN ?_
    | refine E_blockR ?_
    | refine E_blockX ?_
    | refine E_blockO rfl ?_
    | refine TL_val (rr_extract rfl rfl) rfl rfl rfl ?_
    | refine TL_val (rr_pickT rfl rfl) rfl rfl rfl ?_
    | refine TL_val (rr_pickF rfl rfl) rfl rfl rfl ?_
    | refine TL_val (rr_len Und.eq rfl) rfl rfl rfl ?_
    | refine TL_val (rr_field FldC.fld rfl rfl) rfl rfl rfl ?_
    | refine TL_val (rr_not rfl rfl) rfl rfl rfl ?_
    | refine TL_val (rr_lss rfl rfl (decide_eq_true (by omega))) rfl rfl rfl ?_
    | refine TL_val (rr_lss rfl rfl (decide_eq_false (by omega))) rfl rfl rfl ?_
    | refine TL_val (rr_eql rfl rfl (decide_eq_true (by omega))) rfl rfl rfl ?_
    | refine TL_val (rr_eql rfl rfl (decide_eq_false (by omega))) rfl rfl rfl ?_
    | refine TL_val (rr_neq rfl rfl (decide_eq_true (by omega))) rfl rfl rfl ?_
    | refine TL_val (rr_neq rfl rfl (decide_eq_false (by omega))) rfl rfl rfl ?_
    | refine TL_val (rr_add64 rfl rfl (by omega) (by omega) rfl) rfl rfl rfl ?_
    | refine TL_skip rfl rfl rfl rfl rfl rfl ?_
    | refine TL_gval (rr_move rfl) rfl rfl rfl rfl rfl ?_
    | refine TL_gval (rr_pickT rfl rfl) rfl rfl rfl rfl rfl ?_
    | refine TL_gval (rr_pickF rfl rfl) rfl rfl rfl rfl rfl ?_
    | refine TL_gval (rr_field FldC.fld rfl rfl) rfl rfl rfl rfl rfl ?_
    | refine TL_gval (rr_eql rfl rfl (decide_eq_true (by omega))) rfl rfl rfl rfl rfl ?_
    | refine TL_gval (rr_eql rfl rfl (decide_eq_false (by omega))) rfl rfl rfl rfl rfl ?_
    | refine TL_gval (rr_neq rfl rfl (decide_eq_true (by omega))) rfl rfl rfl rfl rfl ?_
    | refine TL_gval (rr_neq rfl rfl (decide_eq_false (by omega))) rfl rfl rfl rfl rfl ?_)
  repeat (first
    | refine TL_val (rr_move rfl) rfl rfl rfl ?_
    | refine TL_val (rr_assign rfl) rfl rfl rfl ?_
    | refine TL_nil ?_
    | refine T_seq ?_
    | refine T_region ?_
    | refine T_condT rfl ?_
    | refine T_condF rfl ?_
    | refine T_skip ?_
    | refine T_exit ?_
    | refine T_ret ?_
    | refine T_block ?_
    | refine E_then ?_
    | refine E_thenX ?_
    | refine E_thenR ?_
    | refine E_blockN ?_
    | refine E_blockR ?_
    | refine E_blockX ?_
    | refine E_blockO rfl ?_
    | refine TL_val (rr_loadB (i := 0) TyC.ty rfl rfl rfl) rfl rfl rfl ?_
    | refine TL_val (rr_extract rfl rfl) rfl rfl rfl ?_
    | refine TL_val (rr_pickT rfl rfl) rfl rfl rfl ?_
    | refine TL_val (rr_pickF rfl rfl) rfl rfl rfl ?_
    | refine TL_val (rr_len Und.eq rfl) rfl rfl rfl ?_
    | refine TL_val (rr_field FldC.fld rfl rfl) rfl rfl rfl ?_
    | refine TL_val (rr_not rfl rfl) rfl rfl rfl ?_
    | refine TL_val (rr_lss rfl rfl (decide_eq_true (by omega))) rfl rfl rfl ?_
    | refine TL_val (rr_lss rfl rfl (decide_eq_false (by omega))) rfl rfl rfl ?_
    | refine TL_val (rr_eql rfl rfl (decide_eq_true (by omega))) rfl rfl rfl ?_
    | refine TL_val (rr_eql rfl rfl (decide_eq_false (by omega))) rfl rfl rfl ?_
    | refine TL_val (rr_neq rfl rfl (decide_eq_true (by omega))) rfl rfl rfl ?_
    | refine TL_val (rr_neq rfl rfl (decide_eq_false (by omega))) rfl rfl rfl ?_
    | refine TL_val (rr_add64 rfl rfl (by omega) (by omega) rfl) rfl rfl rfl ?_
    | refine TL_skip rfl rfl rfl rfl rfl rfl ?_
    | refine TL_gval (rr_loadB (i := 0) TyC.ty rfl rfl rfl) rfl rfl rfl rfl rfl ?_
    | refine TL_gval (rr_move rfl) rfl rfl rfl rfl rfl ?_
    | refine TL_gval (rr_pickT rfl rfl) rfl rfl rfl rfl rfl ?_
    | refine TL_gval (rr_pickF rfl rfl) rfl rfl rfl rfl rfl ?_
    | refine TL_gval (rr_field FldC.fld rfl rfl) rfl rfl rfl rfl rfl ?_
    | refine TL_gval (rr_eql rfl rfl (decide_eq_true (by omega))) rfl rfl rfl rfl rfl ?_
    | refine TL_gval (rr_eql rfl rfl (decide_eq_false (by omega))) rfl rfl rfl rfl rfl ?_
    | refine TL_gval (rr_neq rfl rfl (decide_eq_true (by omega))) rfl rfl rfl rfl rfl ?_
    | refine TL_gval (rr_neq rfl rfl (decide_eq_false (by omega))) rfl rfl rfl rfl rfl ?_)
  refine TL_call (he3 EntersC.en rfl rfl rfl rfl) (fun w hm => hB1 _ hm.below) rfl rfl rfl ?_
  intro _ _
  repeat (first
    | refine TL_val (rr_move rfl) rfl rfl rfl ?_
    | refine TL_val (rr_assign rfl) rfl rfl rfl ?_
    | refine TL_nil ?_
    | refine T_seq ?_
    | refine T_region ?_
    | refine T_condT rfl ?_
    | refine T_condF rfl ?_
    | refine T_skip ?_
    | refine T_exit ?_
    | refine T_ret ?_
    | refine T_block ?_
    | refine E_then ?_
    | refine E_thenX ?_
    | refine E_thenR ?_
    | refine E_blockN ?_
    | refine E_blockR ?_
    | refine E_blockX ?_
    | refine E_blockO rfl ?_
    | refine TL_val (rr_loadB (i := 0) TyC.ty rfl rfl rfl) rfl rfl rfl ?_
    | refine TL_val (rr_or rfl rfl hor) rfl rfl rfl ?_
    | refine TL_val (rr_extract rfl rfl) rfl rfl rfl ?_
    | refine TL_val (rr_pickT rfl rfl) rfl rfl rfl ?_
    | refine TL_val (rr_pickF rfl rfl) rfl rfl rfl ?_
    | refine TL_val (rr_len Und.eq rfl) rfl rfl rfl ?_
    | refine TL_val (rr_field FldC.fld rfl rfl) rfl rfl rfl ?_
    | refine TL_val (rr_not rfl rfl) rfl rfl rfl ?_
    | refine TL_val (rr_lss rfl rfl (decide_eq_true (by omega))) rfl rfl rfl ?_
    | refine TL_val (rr_lss rfl rfl (decide_eq_false (by omega))) rfl rfl rfl ?_
    | refine TL_val (rr_eql rfl rfl (decide_eq_true (by omega))) rfl rfl rfl ?_
    | refine TL_val (rr_eql rfl rfl (decide_eq_false (by omega))) rfl rfl rfl ?_
    | refine TL_val (rr_neq rfl rfl (decide_eq_true (by omega))) rfl rfl rfl ?_
    | refine TL_val (rr_neq rfl rfl (decide_eq_false (by omega))) rfl rfl rfl ?_
    | refine TL_val (rr_add64 rfl rfl (by omega) (by omega) rfl) rfl rfl rfl ?_
    | refine TL_skip rfl rfl rfl rfl rfl rfl ?_
    | refine TL_gval (rr_loadB (i := 0) TyC.ty rfl rfl rfl) rfl rfl rfl rfl rfl ?_
    | refine TL_gval (rr_or rfl rfl hor) rfl rfl rfl rfl rfl ?_
    | refine TL_gval (rr_move rfl) rfl rfl rfl rfl rfl ?_
    | refine TL_gval (rr_pickT rfl rfl) rfl rfl rfl rfl rfl ?_
    | refine TL_gval (rr_pickF rfl rfl) rfl rfl rfl rfl rfl ?_
    | refine TL_gval (rr_field FldC.fld rfl rfl) rfl rfl rfl rfl rfl ?_
    | refine TL_gval (rr_eql rfl rfl (decide_eq_true (by omega))) rfl rfl rfl rfl rfl ?_
    | refine TL_gval (rr_eql rfl rfl (decide_eq_false (by omega))) rfl rfl rfl rfl rfl ?_
    | refine TL_gval (rr_neq rfl rfl (decide_eq_true (by omega))) rfl rfl rfl rfl rfl ?_
    | refine TL_gval (rr_neq rfl rfl (decide_eq_false (by omega))) rfl rfl rfl rfl rfl ?_)
  refine TL_call (he3 EntersC.en rfl rfl rfl rfl) (fun w hm => hB2 _ hm.below) rfl rfl rfl ?_
  intro _ _
  conv => arg 8; simp only [List.cons_append, List.nil_append, List.append_nil, List.filterMap_cons, List.filterMap_nil, List.getElem?_cons_succ, List.getElem?_cons_zero, List.set_cons_zero, List.set_cons_succ, rowS, ret, id_eq]
  clear hB1 hB2
  by_cases c0 : begE ⟨t, n, prods⟩ body = 0
  · have hck : checkG ⟨t, n, prods⟩ = 0 := by
      by_cases c : checkG ⟨t, n, prods⟩ = 0
      · exact c
      · exfalso; unfold begE at c0; rw [if_pos c] at c0; exact c c0
    obtain ⟨_, _, k1, k2, k3, k4⟩ := checkG_ok hck
    dsimp only at *
    obtain ⟨n, rfl⟩ : ∃ m : Nat, n = m := ⟨n.toNat, by omega⟩
    obtain ⟨hS, hF⟩ := ofW_ok hck rfl
    have hfine := fine_of hck rfl
    have hall : ∀ x ∈ body, right t n x = true := by
      unfold begE at c0
      rw [if_neg (by rw [hck]; decide)] at c0
      split at c0
      · cases c0
      · exact badE_ok c0
    have hlt := fun (y : Nat) (hy : y < 18446744073709551616) => beginF_lt (E := (ofS n prods).E) (body := body) hF hy (fun x hx h1 => by have := right_cases (hall x hx); have := (checkG_ok hck).2.1; dsimp only at this; omega)
    have e1 : begV ⟨t, n, prods⟩ body a = beginF (ofS n prods).E (ofF n prods) body a := by unfold begV; rw [if_pos c0]; rfl
    have e2 : begV ⟨t, n, prods⟩ body (a ||| b) = beginF (ofS n prods).E (ofF n prods) body (a ||| b) := by unfold begV; rw [if_pos c0]; rfl
    obtain ⟨b1, b2⟩ := beginF_behind (ofS n prods).E (ofF n prods) a b body
    rw [c0, e1, e2]
    have hx := hlt a ha
    have hy := hlt (a ||| b) (or_lt ha hb)
    have hst : ∀ p ∈ prods, allF (ofS n prods).M p.2 true = true → (ofF n prods).getD p.1.toNat 0 ||| beginF (ofS n prods).E (ofF n prods) p.2 0 = (ofF n prods).getD p.1.toNat 0 := by
      obtain ⟨s', h1, h2, h3⟩ := fix_end (fallsF (E := (ofS n prods).E) (M := (ofS n prods).M) hfine) _ (List.replicate n 0) ⟨by simp, fun x hx => by rw [List.eq_of_mem_replicate hx]; decide⟩ (Nat.le_refl _)
      obtain ⟨_, h4, h5⟩ := passF_still _ _ _ h2
      have h6 : ofF n prods = s' := by unfold ofF setsF; rw [h3]; exact h4
      rw [h6]; exact h5
    clear hlt e1 e2
    generalize beginF (ofS n prods).E (ofF n prods) body a = x at *
    generalize beginF (ofS n prods).E (ofF n prods) body (a ||| b) = y at *
    have hor2 := bits_orN hx hb
    have han1 := bits_andn hy b1
    have han2 := bits_andn (or_lt hx hb) b2
    have hOf := fun w' hg => hOf w' hg hck n rfl
    repeat (first
      | refine TL_val (rr_move rfl) rfl rfl rfl ?_
      | refine TL_val (rr_assign rfl) rfl rfl rfl ?_
      | refine TL_nil ?_
      | refine T_seq ?_
      | refine T_region ?_
      | refine T_condT rfl ?_
      | refine T_condF rfl ?_
      | refine T_skip ?_
      | refine T_exit ?_
      | refine T_ret ?_
      | refine T_block ?_
      | refine E_then ?_
      | refine E_thenX ?_
      | refine E_thenR ?_
      | refine E_blockN ?_
      | refine E_blockR ?_
      | refine E_blockX ?_
      | refine E_blockO rfl ?_
      | refine TL_val (rr_loadB (i := 0) TyC.ty rfl rfl rfl) rfl rfl rfl ?_
      | refine TL_val (rr_extract rfl rfl) rfl rfl rfl ?_
      | refine TL_val (rr_pickT rfl rfl) rfl rfl rfl ?_
      | refine TL_val (rr_pickF rfl rfl) rfl rfl rfl ?_
      | refine TL_val (rr_len Und.eq rfl) rfl rfl rfl ?_
      | refine TL_val (rr_field FldC.fld rfl rfl) rfl rfl rfl ?_
      | refine TL_val (rr_not rfl rfl) rfl rfl rfl ?_
      | refine TL_val (rr_lss rfl rfl (decide_eq_true (by omega))) rfl rfl rfl ?_
      | refine TL_val (rr_lss rfl rfl (decide_eq_false (by omega))) rfl rfl rfl ?_
      | refine TL_val (rr_eql rfl rfl (decide_eq_true (by omega))) rfl rfl rfl ?_
      | refine TL_val (rr_eql rfl rfl (decide_eq_false (by omega))) rfl rfl rfl ?_
      | refine TL_val (rr_neq rfl rfl (decide_eq_true (by omega))) rfl rfl rfl ?_
      | refine TL_val (rr_neq rfl rfl (decide_eq_false (by omega))) rfl rfl rfl ?_
      | refine TL_val (rr_add64 rfl rfl (by omega) (by omega) rfl) rfl rfl rfl ?_
      | refine TL_skip rfl rfl rfl rfl rfl rfl ?_
      | refine TL_gval (rr_loadB (i := 0) TyC.ty rfl rfl rfl) rfl rfl rfl rfl rfl ?_
      | refine TL_gval (rr_move rfl) rfl rfl rfl rfl rfl ?_
      | refine TL_gval (rr_pickT rfl rfl) rfl rfl rfl rfl rfl ?_
      | refine TL_gval (rr_pickF rfl rfl) rfl rfl rfl rfl rfl ?_
      | refine TL_gval (rr_field FldC.fld rfl rfl) rfl rfl rfl rfl rfl ?_
      | refine TL_gval (rr_eql rfl rfl (decide_eq_true (by omega))) rfl rfl rfl rfl rfl ?_
      | refine TL_gval (rr_eql rfl rfl (decide_eq_false (by omega))) rfl rfl rfl rfl rfl ?_
      | refine TL_gval (rr_neq rfl rfl (decide_eq_true (by omega))) rfl rfl rfl rfl rfl ?_
      | refine TL_gval (rr_neq rfl rfl (decide_eq_false (by omega))) rfl rfl rfl rfl rfl ?_)
    refine TL_call (he1 EntersC.en rfl rfl) (fun w' hm => (hOf w' hm.below).mono fun e w2 h => meets_of h) rfl rfl rfl ?_
    intro xr _
    conv => arg 8; simp only [List.cons_append, List.nil_append, List.append_nil, List.filterMap_cons, List.filterMap_nil, List.getElem?_cons_succ, List.getElem?_cons_zero, List.set_cons_zero, List.set_cons_succ, rowS, ret, id_eq, Rows5.val]
    repeat (first
      | refine TL_val (rr_move rfl) rfl rfl rfl ?_
      | refine TL_val (rr_assign rfl) rfl rfl rfl ?_
      | refine TL_nil ?_
      | refine T_seq ?_
      | refine T_region ?_
      | refine T_condT rfl ?_
      | refine T_condF rfl ?_
      | refine T_skip ?_
      | refine T_exit ?_
      | refine T_ret ?_
      | refine T_block ?_
      | refine E_then ?_
      | refine E_thenX ?_
      | refine E_thenR ?_
      | refine E_blockN ?_
      | refine E_blockR ?_
      | refine E_blockX ?_
      | refine E_blockO rfl ?_
      | refine TL_val (rr_extract rfl rfl) rfl rfl rfl ?_
      | refine TL_val (rr_pickT rfl rfl) rfl rfl rfl ?_
      | refine TL_val (rr_pickF rfl rfl) rfl rfl rfl ?_
      | refine TL_val (rr_len Und.eq rfl) rfl rfl rfl ?_
      | refine TL_val (rr_field FldC.fld rfl rfl) rfl rfl rfl ?_
      | refine TL_val (rr_not rfl rfl) rfl rfl rfl ?_
      | refine TL_val (rr_lss rfl rfl (decide_eq_true (by omega))) rfl rfl rfl ?_
      | refine TL_val (rr_lss rfl rfl (decide_eq_false (by omega))) rfl rfl rfl ?_
      | refine TL_val (rr_eql rfl rfl (decide_eq_true (by omega))) rfl rfl rfl ?_
      | refine TL_val (rr_eql rfl rfl (decide_eq_false (by omega))) rfl rfl rfl ?_
      | refine TL_val (rr_neq rfl rfl (decide_eq_true (by omega))) rfl rfl rfl ?_
      | refine TL_val (rr_neq rfl rfl (decide_eq_false (by omega))) rfl rfl rfl ?_
      | refine TL_val (rr_add64 rfl rfl (by omega) (by omega) rfl) rfl rfl rfl ?_
      | refine TL_skip rfl rfl rfl rfl rfl rfl ?_
      | refine TL_gval (rr_move rfl) rfl rfl rfl rfl rfl ?_
      | refine TL_gval (rr_pickT rfl rfl) rfl rfl rfl rfl rfl ?_
      | refine TL_gval (rr_pickF rfl rfl) rfl rfl rfl rfl rfl ?_
      | refine TL_gval (rr_field FldC.fld rfl rfl) rfl rfl rfl rfl rfl ?_
      | refine TL_gval (rr_eql rfl rfl (decide_eq_true (by omega))) rfl rfl rfl rfl rfl ?_
      | refine TL_gval (rr_eql rfl rfl (decide_eq_false (by omega))) rfl rfl rfl rfl rfl ?_
      | refine TL_gval (rr_neq rfl rfl (decide_eq_true (by omega))) rfl rfl rfl rfl rfl ?_
      | refine TL_gval (rr_neq rfl rfl (decide_eq_false (by omega))) rfl rfl rfl rfl rfl ?_)
    refine TL_new rfl fun g15 => ?_
    refine TL_storeB (i := 6) rfl rfl rfl rfl rfl rfl ?_
    conv => arg 8; simp only [List.cons_append, List.nil_append, List.append_nil, List.filterMap_cons, List.filterMap_nil, List.getElem?_cons_succ, List.getElem?_cons_zero, List.set_cons_zero, List.set_cons_succ, rowS, ret, id_eq]
    obtain ⟨bp, cp, rfl, hcp, hmp, hrp⟩ := h1
    unfold maxLen at hmp
    repeat (first
      | refine TL_val (rr_move rfl) rfl rfl rfl ?_
      | refine TL_val (rr_assign rfl) rfl rfl rfl ?_
      | refine TL_nil ?_
      | refine T_seq ?_
      | refine T_region ?_
      | refine T_condT rfl ?_
      | refine T_condF rfl ?_
      | refine T_skip ?_
      | refine T_exit ?_
      | refine T_ret ?_
      | refine T_block ?_
      | refine E_then ?_
      | refine E_thenX ?_
      | refine E_thenR ?_
      | refine E_blockN ?_
      | refine E_blockR ?_
      | refine E_blockX ?_
      | refine E_blockO rfl ?_
      | refine TL_val (rr_load1 TyC.ty rfl (at_blk (i := 0) rfl rfl)) rfl rfl rfl ?_
      | refine TL_val (rr_extract rfl rfl) rfl rfl rfl ?_
      | refine TL_val (rr_pickT rfl rfl) rfl rfl rfl ?_
      | refine TL_val (rr_pickF rfl rfl) rfl rfl rfl ?_
      | refine TL_val (rr_len Und.eq rfl) rfl rfl rfl ?_
      | refine TL_val (rr_field FldC.fld rfl rfl) rfl rfl rfl ?_
      | refine TL_val (rr_not rfl rfl) rfl rfl rfl ?_
      | refine TL_val (rr_lss rfl rfl (decide_eq_true (by omega))) rfl rfl rfl ?_
      | refine TL_val (rr_lss rfl rfl (decide_eq_false (by omega))) rfl rfl rfl ?_
      | refine TL_val (rr_eql rfl rfl (decide_eq_true (by omega))) rfl rfl rfl ?_
      | refine TL_val (rr_eql rfl rfl (decide_eq_false (by omega))) rfl rfl rfl ?_
      | refine TL_val (rr_neq rfl rfl (decide_eq_true (by omega))) rfl rfl rfl ?_
      | refine TL_val (rr_neq rfl rfl (decide_eq_false (by omega))) rfl rfl rfl ?_
      | refine TL_val (rr_add64 rfl rfl (by omega) (by omega) rfl) rfl rfl rfl ?_
      | refine TL_skip rfl rfl rfl rfl rfl rfl ?_
      | refine TL_gval (rr_load1 TyC.ty rfl (at_blk (i := 0) rfl rfl)) rfl rfl rfl rfl rfl ?_
      | refine TL_gval (rr_move rfl) rfl rfl rfl rfl rfl ?_
      | refine TL_gval (rr_pickT rfl rfl) rfl rfl rfl rfl rfl ?_
      | refine TL_gval (rr_pickF rfl rfl) rfl rfl rfl rfl rfl ?_
      | refine TL_gval (rr_field FldC.fld rfl rfl) rfl rfl rfl rfl rfl ?_
      | refine TL_gval (rr_eql rfl rfl (decide_eq_true (by omega))) rfl rfl rfl rfl rfl ?_
      | refine TL_gval (rr_eql rfl rfl (decide_eq_false (by omega))) rfl rfl rfl rfl rfl ?_
      | refine TL_gval (rr_neq rfl rfl (decide_eq_true (by omega))) rfl rfl rfl rfl rfl ?_
      | refine TL_gval (rr_neq rfl rfl (decide_eq_false (by omega))) rfl rfl rfl rfl rfl ?_)
    refine T_loop (ι := Nat) (fun k => k ≤ prods.length) (fun k => [(3, bitV b), (4, .pointer (some ⟨g4, 0, none⟩)), (11, bitV x), (13, bitV y), (14, .int .i64 0), (15, .pointer (some ⟨g15, 0, none⟩)), (71, .slice bp prods.length cp), (72, .int .i64 prods.length), (73, .int .i64 (k : Int))])
      (fun _ => [blkO g4 (graV t (n : Int) (.slice bp prods.length cp)).cells 24, rowBn n xr.gE xr.cE (ofS n prods).E, rowNn n xr.gF xr.cF (ofF n prods), rowNn n xr.gW xr.cW (ofW n prods), rowBn n xr.gR xr.cR (ofS n prods).R, rowBn n xr.gM xr.cM (ofS n prods).M, blkO g15 (facV (vRow n xr.gE xr.cE) (vRow n xr.gF xr.cF) (vRow n xr.gW xr.cW) (vRow n xr.gR xr.cR) (vRow n xr.gM xr.cM)).cells 63]) (fun k => prods.length - k) 0 (Nat.zero_le _) (by repeat' (first | exact True.intro | refine And.intro rfl ?_)) rfl ?_
    intro k i1
    by_cases c6 : k < prods.length
    · obtain ⟨bk, off, rfl, _, hr⟩ := hrp (by omega)
      obtain ⟨bb, cb, q1, q2, q3⟩ := prod_at hr c6
      have hpk := k4 prods[k] (List.getElem_mem c6)
      have hsk := hst prods[k] (List.getElem_mem c6)
      have hat : ∀ (L : List Own) (j : Nat) (v : Value), ([.int .i64 prods[k].1, .slice bb prods[k].2.length cb] : List Value)[j]? = some v → At w L ⟨bk, off + k * 2 + j, none⟩ v := fun L j v hj => at_rd q1 hj
      have hfl := q3.flat (by decide)
      clear hr hrp q1 q3 hst k4
      generalize prods[k] = p at *
      obtain ⟨hd, pb⟩ := p
      dsimp only at *
      obtain ⟨p1, p2, p3, p4⟩ := hpk
      obtain ⟨hn, rfl⟩ : ∃ hn : Nat, hd = hn := ⟨hd.toNat, by omega⟩
      rw [Int.toNat_natCast] at hsk
      have hbl : beginF (ofS n prods).E (ofF n prods) pb 0 < 18446744073709551616 := beginF_lt hF (by decide) (fun x hx h1 => by have := right_cases (p4 x hx); have := (checkG_ok hck).2.1; dsimp only at this; omega)
      have e3 : begE ⟨t, n, prods⟩ pb = 0 := by
        unfold begE
        rw [if_neg (by rw [hck]; decide), if_neg (by omega)]
        exact badE_of p4
      have e4 : begV ⟨t, n, prods⟩ pb 0 = beginF (ofS n prods).E (ofF n prods) pb 0 := by unfold begV; rw [if_pos e3]; rfl
      have hB := fun w' (hg : Gr w w') => hB3 (.slice bb pb.length cb) pb w' hg (hfl.gr hg)
      rw [e3, e4] at hB
      clear e3 e4 hB3
      have hcF : ((ofF n prods).map bitV)[hn]? = some (bitV ((ofF n prods).getD hn 0)) := bit_at (by rw [hF.1]; omega)
      have hgl : (ofF n prods).getD hn 0 < 18446744073709551616 := getD_lt hF hn
      have hco := fun w' (hg : Gr w w') (hb1 : w'.heap[g15]? = some (.cells (facV (vRow n xr.gE xr.cE) (vRow n xr.gF xr.cF) (vRow n xr.gW xr.cW) (vRow n xr.gR xr.cR) (vRow n xr.gM xr.cM)).cells 63 (0, 0))) (hM : Sl w' (vRow n xr.gM xr.cM) n ((ofS n prods).M.map .bool)) => containsFuncSymS_calls (.slice bb pb.length cb) pb w' (hfl.gr hg) 38 #[] #[.pointer (some ⟨g15, 0, none⟩)] (fun x => decide (x.1 = 2) && !(ofS n prods).M.getD x.2.toNat false) EntersC.en (fun x hx w'' hg' => body1_calls x g15 _ _ _ _ _ (ofS n prods).M w'' (by rw [hg'.block g15 (Array.getElem?_eq_some_iff.1 hb1).1]; exact hb1) (by rw [hS.2.2]; exact hM.gr hg') (fun h2 => by have := right_cases (p4 x hx); rw [hS.2.2]; omega))
      have haa := all_any (ofS n prods).M pb
      generalize (pb.any fun x => decide (x.1 = 2) && !(ofS n prods).M.getD x.2.toNat false) = an at *
      rw [← haa] at hsk
      clear haa
      generalize beginF (ofS n prods).E (ofF n prods) pb 0 = z at *
      generalize (ofF n prods).getD hn 0 = fz at *
      have han : an = false → bits .andNot .u64 (z : Int) (fz : Int) = 0 := fun c => bits_andn hgl (by rw [Nat.or_comm]; exact hsk (by rw [c]; rfl))
      repeat (first
        | refine TL_val (rr_move rfl) rfl rfl rfl ?_
        | refine TL_val (rr_assign rfl) rfl rfl rfl ?_
        | refine TL_nil ?_
        | refine T_seq ?_
        | refine T_region ?_
        | refine T_condT rfl ?_
        | refine T_condF rfl ?_
        | refine T_skip ?_
        | refine T_exit ?_
        | refine T_ret ?_
        | refine T_block ?_
        | refine E_then ?_
        | refine E_thenX ?_
        | refine E_thenR ?_
        | refine E_blockN ?_
        | refine E_blockR ?_
        | refine E_blockX ?_
        | refine E_blockO rfl ?_
        | refine TL_val (rr_idxc Und.eq TyC.ty rfl rfl c6) rfl rfl rfl ?_
        | refine TL_val (rr_loadN TyC.ty rfl rfl (hat _)) rfl rfl rfl ?_
        | refine TL_val (rr_extract rfl rfl) rfl rfl rfl ?_
        | refine TL_val (rr_pickT rfl rfl) rfl rfl rfl ?_
        | refine TL_val (rr_pickF rfl rfl) rfl rfl rfl ?_
        | refine TL_val (rr_len Und.eq rfl) rfl rfl rfl ?_
        | refine TL_val (rr_field FldC.fld rfl rfl) rfl rfl rfl ?_
        | refine TL_val (rr_not rfl rfl) rfl rfl rfl ?_
        | refine TL_val (rr_lss rfl rfl (decide_eq_true (by omega))) rfl rfl rfl ?_
        | refine TL_val (rr_lss rfl rfl (decide_eq_false (by omega))) rfl rfl rfl ?_
        | refine TL_val (rr_eql rfl rfl (decide_eq_true (by omega))) rfl rfl rfl ?_
        | refine TL_val (rr_eql rfl rfl (decide_eq_false (by omega))) rfl rfl rfl ?_
        | refine TL_val (rr_neq rfl rfl (decide_eq_true (by omega))) rfl rfl rfl ?_
        | refine TL_val (rr_neq rfl rfl (decide_eq_false (by omega))) rfl rfl rfl ?_
        | refine TL_val (rr_add64 rfl rfl (by omega) (by omega) rfl) rfl rfl rfl ?_
        | refine TL_skip rfl rfl rfl rfl rfl rfl ?_
        | refine TL_gval (rr_idxc Und.eq TyC.ty rfl rfl c6) rfl rfl rfl rfl rfl ?_
        | refine TL_gval (rr_loadN TyC.ty rfl rfl (hat _)) rfl rfl rfl rfl rfl ?_
        | refine TL_gval (rr_move rfl) rfl rfl rfl rfl rfl ?_
        | refine TL_gval (rr_pickT rfl rfl) rfl rfl rfl rfl rfl ?_
        | refine TL_gval (rr_pickF rfl rfl) rfl rfl rfl rfl rfl ?_
        | refine TL_gval (rr_field FldC.fld rfl rfl) rfl rfl rfl rfl rfl ?_
        | refine TL_gval (rr_eql rfl rfl (decide_eq_true (by omega))) rfl rfl rfl rfl rfl ?_
        | refine TL_gval (rr_eql rfl rfl (decide_eq_false (by omega))) rfl rfl rfl rfl rfl ?_
        | refine TL_gval (rr_neq rfl rfl (decide_eq_true (by omega))) rfl rfl rfl rfl rfl ?_
        | refine TL_gval (rr_neq rfl rfl (decide_eq_false (by omega))) rfl rfl rfl rfl rfl ?_)
      refine TL_new rfl fun g18 => ?_
      refine TL_storeB (i := 7) rfl rfl rfl rfl rfl rfl ?_
      conv => arg 8; simp only [List.cons_append, List.nil_append, List.append_nil, List.filterMap_cons, List.filterMap_nil, List.getElem?_cons_succ, List.getElem?_cons_zero, List.set_cons_zero, List.set_cons_succ, rowS, ret, id_eq]
      repeat (first
        | refine TL_val (rr_move rfl) rfl rfl rfl ?_
        | refine TL_val (rr_assign rfl) rfl rfl rfl ?_
        | refine TL_nil ?_
        | refine T_seq ?_
        | refine T_region ?_
        | refine T_condT rfl ?_
        | refine T_condF rfl ?_
        | refine T_skip ?_
        | refine T_exit ?_
        | refine T_ret ?_
        | refine T_block ?_
        | refine E_then ?_
        | refine E_thenX ?_
        | refine E_thenR ?_
        | refine E_blockN ?_
        | refine E_blockR ?_
        | refine E_blockX ?_
        | refine E_blockO rfl ?_
        | refine TL_val (rr_load1 TyC.ty rfl (at_blk (i := 7) rfl rfl)) rfl rfl rfl ?_
        | refine TL_val (rr_func rfl rfl) rfl rfl rfl ?_
        | refine TL_val (rr_extract rfl rfl) rfl rfl rfl ?_
        | refine TL_val (rr_pickT rfl rfl) rfl rfl rfl ?_
        | refine TL_val (rr_pickF rfl rfl) rfl rfl rfl ?_
        | refine TL_val (rr_len Und.eq rfl) rfl rfl rfl ?_
        | refine TL_val (rr_field FldC.fld rfl rfl) rfl rfl rfl ?_
        | refine TL_val (rr_not rfl rfl) rfl rfl rfl ?_
        | refine TL_val (rr_lss rfl rfl (decide_eq_true (by omega))) rfl rfl rfl ?_
        | refine TL_val (rr_lss rfl rfl (decide_eq_false (by omega))) rfl rfl rfl ?_
        | refine TL_val (rr_eql rfl rfl (decide_eq_true (by omega))) rfl rfl rfl ?_
        | refine TL_val (rr_eql rfl rfl (decide_eq_false (by omega))) rfl rfl rfl ?_
        | refine TL_val (rr_neq rfl rfl (decide_eq_true (by omega))) rfl rfl rfl ?_
        | refine TL_val (rr_neq rfl rfl (decide_eq_false (by omega))) rfl rfl rfl ?_
        | refine TL_val (rr_add64 rfl rfl (by omega) (by omega) rfl) rfl rfl rfl ?_
        | refine TL_skip rfl rfl rfl rfl rfl rfl ?_
        | refine TL_gval (rr_load1 TyC.ty rfl (at_blk (i := 7) rfl rfl)) rfl rfl rfl rfl rfl ?_
        | refine TL_gval (rr_move rfl) rfl rfl rfl rfl rfl ?_
        | refine TL_gval (rr_pickT rfl rfl) rfl rfl rfl rfl rfl ?_
        | refine TL_gval (rr_pickF rfl rfl) rfl rfl rfl rfl rfl ?_
        | refine TL_gval (rr_field FldC.fld rfl rfl) rfl rfl rfl rfl rfl ?_
        | refine TL_gval (rr_eql rfl rfl (decide_eq_true (by omega))) rfl rfl rfl rfl rfl ?_
        | refine TL_gval (rr_eql rfl rfl (decide_eq_false (by omega))) rfl rfl rfl rfl rfl ?_
        | refine TL_gval (rr_neq rfl rfl (decide_eq_true (by omega))) rfl rfl rfl rfl rfl ?_
        | refine TL_gval (rr_neq rfl rfl (decide_eq_false (by omega))) rfl rfl rfl rfl rfl ?_)
      refine TL_call (he2 EntersC.en rfl rfl rfl) (fun w hm => hco _ hm.below (hm.get (i := 6) rfl) (sl_row (i := 5) rfl w hm)) rfl rfl rfl ?_
      intro _ _
      conv => arg 8; simp only [List.cons_append, List.nil_append, List.append_nil, List.filterMap_cons, List.filterMap_nil, List.getElem?_cons_succ, List.getElem?_cons_zero, List.set_cons_zero, List.set_cons_succ, rowS, ret, id_eq]
      repeat (first
        | refine TL_val (rr_move rfl) rfl rfl rfl ?_
        | refine TL_val (rr_assign rfl) rfl rfl rfl ?_
        | refine TL_nil ?_
        | refine T_seq ?_
        | refine T_region ?_
        | refine T_condT rfl ?_
        | refine T_condF rfl ?_
        | refine T_skip ?_
        | refine T_exit ?_
        | refine T_ret ?_
        | refine T_block ?_
        | refine E_then ?_
        | refine E_thenX ?_
        | refine E_thenR ?_
        | refine E_blockN ?_
        | refine E_blockR ?_
        | refine E_blockX ?_
        | refine E_blockO rfl ?_
        | refine TL_val (rr_load1 TyC.ty rfl (at_blk (i := 7) rfl rfl)) rfl rfl rfl ?_
        | refine TL_val (rr_loadB (i := 0) TyC.ty rfl rfl rfl) rfl rfl rfl ?_
        | refine TL_val (rr_extract rfl rfl) rfl rfl rfl ?_
        | refine TL_val (rr_pickT rfl rfl) rfl rfl rfl ?_
        | refine TL_val (rr_pickF rfl rfl) rfl rfl rfl ?_
        | refine TL_val (rr_len Und.eq rfl) rfl rfl rfl ?_
        | refine TL_val (rr_field FldC.fld rfl rfl) rfl rfl rfl ?_
        | refine TL_val (rr_not rfl rfl) rfl rfl rfl ?_
        | refine TL_val (rr_lss rfl rfl (decide_eq_true (by omega))) rfl rfl rfl ?_
        | refine TL_val (rr_lss rfl rfl (decide_eq_false (by omega))) rfl rfl rfl ?_
        | refine TL_val (rr_eql rfl rfl (decide_eq_true (by omega))) rfl rfl rfl ?_
        | refine TL_val (rr_eql rfl rfl (decide_eq_false (by omega))) rfl rfl rfl ?_
        | refine TL_val (rr_neq rfl rfl (decide_eq_true (by omega))) rfl rfl rfl ?_
        | refine TL_val (rr_neq rfl rfl (decide_eq_false (by omega))) rfl rfl rfl ?_
        | refine TL_val (rr_add64 rfl rfl (by omega) (by omega) rfl) rfl rfl rfl ?_
        | refine TL_skip rfl rfl rfl rfl rfl rfl ?_
        | refine TL_gval (rr_load1 TyC.ty rfl (at_blk (i := 7) rfl rfl)) rfl rfl rfl rfl rfl ?_
        | refine TL_gval (rr_loadB (i := 0) TyC.ty rfl rfl rfl) rfl rfl rfl rfl rfl ?_
        | refine TL_gval (rr_move rfl) rfl rfl rfl rfl rfl ?_
        | refine TL_gval (rr_pickT rfl rfl) rfl rfl rfl rfl rfl ?_
        | refine TL_gval (rr_pickF rfl rfl) rfl rfl rfl rfl rfl ?_
        | refine TL_gval (rr_field FldC.fld rfl rfl) rfl rfl rfl rfl rfl ?_
        | refine TL_gval (rr_eql rfl rfl (decide_eq_true (by omega))) rfl rfl rfl rfl rfl ?_
        | refine TL_gval (rr_eql rfl rfl (decide_eq_false (by omega))) rfl rfl rfl rfl rfl ?_
        | refine TL_gval (rr_neq rfl rfl (decide_eq_true (by omega))) rfl rfl rfl rfl rfl ?_
        | refine TL_gval (rr_neq rfl rfl (decide_eq_false (by omega))) rfl rfl rfl rfl rfl ?_)
      refine TL_call (he3 EntersC.en rfl rfl rfl rfl) (fun w hm => hB _ hm.below) rfl rfl rfl ?_
      intro _ _
      conv => arg 8; simp only [List.cons_append, List.nil_append, List.append_nil, List.filterMap_cons, List.filterMap_nil, List.getElem?_cons_succ, List.getElem?_cons_zero, List.set_cons_zero, List.set_cons_succ, rowS, ret, id_eq]
      cases an
      · have han := han rfl
        repeat (first
          | refine TL_val (rr_move rfl) rfl rfl rfl ?_
          | refine TL_val (rr_assign rfl) rfl rfl rfl ?_
          | refine TL_nil ?_
          | refine T_seq ?_
          | refine T_region ?_
          | refine T_condT rfl ?_
          | refine T_condF rfl ?_
          | refine T_skip ?_
          | refine T_exit ?_
          | refine T_ret ?_
          | refine T_block ?_
          | refine E_then ?_
          | refine E_thenX ?_
          | refine E_thenR ?_
          | refine E_blockN ?_
          | refine E_blockR ?_
          | refine E_blockX ?_
          | refine E_blockO rfl ?_
          | refine TL_val (rr_load1 TyC.ty rfl (at_blk (i := 7) rfl rfl)) rfl rfl rfl ?_
          | refine TL_val (rr_load1 TyC.ty rfl (at_blk (i := 6) rfl rfl)) rfl rfl rfl ?_
          | refine TL_val (rr_idx1 Und.eq TyC.ty rfl rfl (show hn < n by omega)) rfl rfl rfl ?_
          | refine TL_val (rr_load1 TyC.ty rfl (at_row (i := 2) rfl (by rw [Nat.zero_add]; exact hcF))) rfl rfl rfl ?_
          | refine TL_val (rr_extract rfl rfl) rfl rfl rfl ?_
          | refine TL_val (rr_pickT rfl rfl) rfl rfl rfl ?_
          | refine TL_val (rr_pickF rfl rfl) rfl rfl rfl ?_
          | refine TL_val (rr_len Und.eq rfl) rfl rfl rfl ?_
          | refine TL_val (rr_field FldC.fld rfl rfl) rfl rfl rfl ?_
          | refine TL_val (rr_not rfl rfl) rfl rfl rfl ?_
          | refine TL_val (rr_lss rfl rfl (decide_eq_true (by omega))) rfl rfl rfl ?_
          | refine TL_val (rr_lss rfl rfl (decide_eq_false (by omega))) rfl rfl rfl ?_
          | refine TL_val (rr_eql rfl rfl (decide_eq_true (by omega))) rfl rfl rfl ?_
          | refine TL_val (rr_eql rfl rfl (decide_eq_false (by omega))) rfl rfl rfl ?_
          | refine TL_val (rr_neq rfl rfl (decide_eq_true (by omega))) rfl rfl rfl ?_
          | refine TL_val (rr_neq rfl rfl (decide_eq_false (by omega))) rfl rfl rfl ?_
          | refine TL_val (rr_add64 rfl rfl (by omega) (by omega) rfl) rfl rfl rfl ?_
          | refine TL_skip rfl rfl rfl rfl rfl rfl ?_
          | refine TL_gval (rr_load1 TyC.ty rfl (at_blk (i := 7) rfl rfl)) rfl rfl rfl rfl rfl ?_
          | refine TL_gval (rr_load1 TyC.ty rfl (at_blk (i := 6) rfl rfl)) rfl rfl rfl rfl rfl ?_
          | refine TL_gval (rr_idx1 Und.eq TyC.ty rfl rfl (show hn < n by omega)) rfl rfl rfl rfl rfl ?_
          | refine TL_gval (rr_load1 TyC.ty rfl (at_row (i := 2) rfl (by rw [Nat.zero_add]; exact hcF))) rfl rfl rfl rfl rfl ?_
          | refine TL_gval (rr_andn rfl rfl han) rfl rfl rfl rfl rfl ?_
          | refine TL_gval (rr_move rfl) rfl rfl rfl rfl rfl ?_
          | refine TL_gval (rr_pickT rfl rfl) rfl rfl rfl rfl rfl ?_
          | refine TL_gval (rr_pickF rfl rfl) rfl rfl rfl rfl rfl ?_
          | refine TL_gval (rr_field FldC.fld rfl rfl) rfl rfl rfl rfl rfl ?_
          | refine TL_gval (rr_eql rfl rfl (decide_eq_true (by omega))) rfl rfl rfl rfl rfl ?_
          | refine TL_gval (rr_eql rfl rfl (decide_eq_false (by omega))) rfl rfl rfl rfl rfl ?_
          | refine TL_gval (rr_neq rfl rfl (decide_eq_true (by omega))) rfl rfl rfl rfl rfl ?_
          | refine TL_gval (rr_neq rfl rfl (decide_eq_false (by omega))) rfl rfl rfl rfl rfl ?_)
        refine E_pick [0, 1, 2, 3, 4, 5, 6] (by decide) rfl ?_
        exact E_round (k + 1) (by omega) (by show prods.length - (k + 1) < prods.length - k; omega) (by repeat' (first | exact True.intro | refine And.intro rfl ?_)) rfl
      · repeat (first
          | refine TL_val (rr_move rfl) rfl rfl rfl ?_
          | refine TL_val (rr_assign rfl) rfl rfl rfl ?_
          | refine TL_nil ?_
          | refine T_seq ?_
          | refine T_region ?_
          | refine T_condT rfl ?_
          | refine T_condF rfl ?_
          | refine T_skip ?_
          | refine T_exit ?_
          | refine T_ret ?_
          | refine T_block ?_
          | refine E_then ?_
          | refine E_thenX ?_
          | refine E_thenR ?_
          | refine E_blockN ?_
          | refine E_blockR ?_
          | refine E_blockX ?_
          | refine E_blockO rfl ?_
          | refine TL_val (rr_extract rfl rfl) rfl rfl rfl ?_
          | refine TL_val (rr_pickT rfl rfl) rfl rfl rfl ?_
          | refine TL_val (rr_pickF rfl rfl) rfl rfl rfl ?_
          | refine TL_val (rr_len Und.eq rfl) rfl rfl rfl ?_
          | refine TL_val (rr_field FldC.fld rfl rfl) rfl rfl rfl ?_
          | refine TL_val (rr_not rfl rfl) rfl rfl rfl ?_
          | refine TL_val (rr_lss rfl rfl (decide_eq_true (by omega))) rfl rfl rfl ?_
          | refine TL_val (rr_lss rfl rfl (decide_eq_false (by omega))) rfl rfl rfl ?_
          | refine TL_val (rr_eql rfl rfl (decide_eq_true (by omega))) rfl rfl rfl ?_
          | refine TL_val (rr_eql rfl rfl (decide_eq_false (by omega))) rfl rfl rfl ?_
          | refine TL_val (rr_neq rfl rfl (decide_eq_true (by omega))) rfl rfl rfl ?_
          | refine TL_val (rr_neq rfl rfl (decide_eq_false (by omega))) rfl rfl rfl ?_
          | refine TL_val (rr_add64 rfl rfl (by omega) (by omega) rfl) rfl rfl rfl ?_
          | refine TL_skip rfl rfl rfl rfl rfl rfl ?_
          | refine TL_gval (rr_move rfl) rfl rfl rfl rfl rfl ?_
          | refine TL_gval (rr_pickT rfl rfl) rfl rfl rfl rfl rfl ?_
          | refine TL_gval (rr_pickF rfl rfl) rfl rfl rfl rfl rfl ?_
          | refine TL_gval (rr_field FldC.fld rfl rfl) rfl rfl rfl rfl rfl ?_
          | refine TL_gval (rr_eql rfl rfl (decide_eq_true (by omega))) rfl rfl rfl rfl rfl ?_
          | refine TL_gval (rr_eql rfl rfl (decide_eq_false (by omega))) rfl rfl rfl rfl rfl ?_
          | refine TL_gval (rr_neq rfl rfl (decide_eq_true (by omega))) rfl rfl rfl rfl rfl ?_
          | refine TL_gval (rr_neq rfl rfl (decide_eq_false (by omega))) rfl rfl rfl rfl rfl ?_)
        refine E_pick [0, 1, 2, 3, 4, 5, 6] (by decide) rfl ?_
        exact E_round (k + 1) (by omega) (by show prods.length - (k + 1) < prods.length - k; omega) (by repeat' (first | exact True.intro | refine And.intro rfl ?_)) rfl
    · repeat (first
        | refine TL_val (rr_move rfl) rfl rfl rfl ?_
        | refine TL_val (rr_assign rfl) rfl rfl rfl ?_
        | refine TL_nil ?_
        | refine T_seq ?_
        | refine T_region ?_
        | refine T_condT rfl ?_
        | refine T_condF rfl ?_
        | refine T_skip ?_
        | refine T_exit ?_
        | refine T_ret ?_
        | refine T_block ?_
        | refine E_then ?_
        | refine E_thenX ?_
        | refine E_thenR ?_
        | refine E_blockN ?_
        | refine E_blockR ?_
        | refine E_blockX ?_
        | refine E_blockO rfl ?_
        | refine TL_val (rr_or rfl rfl hor2) rfl rfl rfl ?_
        | refine TL_val (rr_extract rfl rfl) rfl rfl rfl ?_
        | refine TL_val (rr_pickT rfl rfl) rfl rfl rfl ?_
        | refine TL_val (rr_pickF rfl rfl) rfl rfl rfl ?_
        | refine TL_val (rr_len Und.eq rfl) rfl rfl rfl ?_
        | refine TL_val (rr_field FldC.fld rfl rfl) rfl rfl rfl ?_
        | refine TL_val (rr_not rfl rfl) rfl rfl rfl ?_
        | refine TL_val (rr_lss rfl rfl (decide_eq_true (by omega))) rfl rfl rfl ?_
        | refine TL_val (rr_lss rfl rfl (decide_eq_false (by omega))) rfl rfl rfl ?_
        | refine TL_val (rr_eql rfl rfl (decide_eq_true (by omega))) rfl rfl rfl ?_
        | refine TL_val (rr_eql rfl rfl (decide_eq_false (by omega))) rfl rfl rfl ?_
        | refine TL_val (rr_neq rfl rfl (decide_eq_true (by omega))) rfl rfl rfl ?_
        | refine TL_val (rr_neq rfl rfl (decide_eq_false (by omega))) rfl rfl rfl ?_
        | refine TL_val (rr_add64 rfl rfl (by omega) (by omega) rfl) rfl rfl rfl ?_
        | refine TL_skip rfl rfl rfl rfl rfl rfl ?_
        | refine TL_gval (rr_or rfl rfl hor2) rfl rfl rfl rfl rfl ?_
        | refine TL_gval (rr_andn rfl rfl han1) rfl rfl rfl rfl rfl ?_
        | refine TL_gval (rr_andn rfl rfl han2) rfl rfl rfl rfl rfl ?_
        | refine TL_gval (rr_move rfl) rfl rfl rfl rfl rfl ?_
        | refine TL_gval (rr_pickT rfl rfl) rfl rfl rfl rfl rfl ?_
        | refine TL_gval (rr_pickF rfl rfl) rfl rfl rfl rfl rfl ?_
        | refine TL_gval (rr_field FldC.fld rfl rfl) rfl rfl rfl rfl rfl ?_
        | refine TL_gval (rr_eql rfl rfl (decide_eq_true (by omega))) rfl rfl rfl rfl rfl ?_
        | refine TL_gval (rr_eql rfl rfl (decide_eq_false (by omega))) rfl rfl rfl rfl rfl ?_
        | refine TL_gval (rr_neq rfl rfl (decide_eq_true (by omega))) rfl rfl rfl rfl rfl ?_
        | refine TL_gval (rr_neq rfl rfl (decide_eq_false (by omega))) rfl rfl rfl rfl rfl ?_)
      exact E_ret1 rfl rfl fun w hm => hm.ret
  · have e1 : begV ⟨t, n, prods⟩ body a = 0 := by unfold begV; rw [if_neg c0]
    have e2 : begV ⟨t, n, prods⟩ body (a ||| b) = 0 := by unfold begV; rw [if_neg c0]
    rw [e1, e2]
    generalize begE ⟨t, n, prods⟩ body = e at *
    repeat (first
      | refine TL_val (rr_move rfl) rfl rfl rfl ?_
      | refine TL_val (rr_assign rfl) rfl rfl rfl ?_
      | refine TL_nil ?_
      | refine T_seq ?_
      | refine T_region ?_
      | refine T_condT rfl ?_
      | refine T_condF rfl ?_
      | refine T_skip ?_
      | refine T_exit ?_
      | refine T_ret ?_
      | refine T_block ?_
      | refine E_then ?_
      | refine E_thenX ?_
      | refine E_thenR ?_
      | refine E_blockN ?_
      | refine E_blockR ?_
      | refine E_blockX ?_
      | refine E_blockO rfl ?_
      | refine TL_val (rr_extract rfl rfl) rfl rfl rfl ?_
      | refine TL_val (rr_pickT rfl rfl) rfl rfl rfl ?_
      | refine TL_val (rr_pickF rfl rfl) rfl rfl rfl ?_
      | refine TL_val (rr_len Und.eq rfl) rfl rfl rfl ?_
      | refine TL_val (rr_field FldC.fld rfl rfl) rfl rfl rfl ?_
      | refine TL_val (rr_not rfl rfl) rfl rfl rfl ?_
      | refine TL_val (rr_lss rfl rfl (decide_eq_true (by omega))) rfl rfl rfl ?_
      | refine TL_val (rr_lss rfl rfl (decide_eq_false (by omega))) rfl rfl rfl ?_
      | refine TL_val (rr_eql rfl rfl (decide_eq_true (by omega))) rfl rfl rfl ?_
      | refine TL_val (rr_eql rfl rfl (decide_eq_false (by omega))) rfl rfl rfl ?_
      | refine TL_val (rr_neq rfl rfl (decide_eq_true (by omega))) rfl rfl rfl ?_
      | refine TL_val (rr_neq rfl rfl (decide_eq_false (by omega))) rfl rfl rfl ?_
      | refine TL_val (rr_add64 rfl rfl (by omega) (by omega) rfl) rfl rfl rfl ?_
      | refine TL_skip rfl rfl rfl rfl rfl rfl ?_
      | refine TL_gval (rr_move rfl) rfl rfl rfl rfl rfl ?_
      | refine TL_gval (rr_pickT rfl rfl) rfl rfl rfl rfl rfl ?_
      | refine TL_gval (rr_pickF rfl rfl) rfl rfl rfl rfl rfl ?_
      | refine TL_gval (rr_field FldC.fld rfl rfl) rfl rfl rfl rfl rfl ?_
      | refine TL_gval (rr_eql rfl rfl (decide_eq_true (by omega))) rfl rfl rfl rfl rfl ?_
      | refine TL_gval (rr_eql rfl rfl (decide_eq_false (by omega))) rfl rfl rfl rfl rfl ?_
      | refine TL_gval (rr_neq rfl rfl (decide_eq_true (by omega))) rfl rfl rfl rfl rfl ?_
      | refine TL_gval (rr_neq rfl rfl (decide_eq_false (by omega))) rfl rfl rfl rfl rfl ?_)
    exact E_ret1 rfl rfl fun w hm => hm.ret
end Go.Proofs.Ytnicebdkejkieaa.factsBody
