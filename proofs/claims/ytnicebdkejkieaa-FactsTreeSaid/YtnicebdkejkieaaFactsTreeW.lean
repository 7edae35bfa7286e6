/- The walk of FactsTree. -/
import Derived.Test.YtnicebdkejkieaaLook
import Derived.Test.YtnicebdkejkieaaFactsE
import Derived.Test.YtnicebdkejkieaaTreeW
import Derived.Test.YtnicebdkejkieaaFactsF
namespace Go.Proofs.Ytnicebdkejkieaa.factsTree
open Go.RowKit kit mix gramL treeL factsL countL eng
theorem brk_makes : (ofS 1 brkG.prods).M = [true] ∧ checkG brkG = 0 := ⟨by kernel_rfl, by kernel_rfl⟩
theorem rowO_form {e : TypeId} {size m : Nat} {v : Value} {xs : List Value} {w : World} (h : (rowO e size v m xs).holds w) : ∃ bw cw, v = .slice bw m cw ∧ (0 < m → ∃ gw, bw = some ⟨gw, 0, none⟩) := by
  have h : w.ownsRow 0 e size v m xs := h
  rcases h.2 with ⟨hv, rfl⟩ | ⟨g, cap, cur, hv, _⟩
  · exact ⟨none, 0, hv, fun h => by omega⟩
  · exact ⟨_, _, hv, fun _ => ⟨g, rfl⟩⟩
theorem build_lk (t n : Int) (vp vE vF vW vR vM : Value) (bw : Option Addr) (m cw : Nat) (w : World) : (Instr.build 73 #[(0, graV t n vp), (1, facV vE vF vW vR vM), (2, .slice bw m cw), (3, .int .i64 0), (4, .bool true)]).run Try.prog w = .ok (.agg (lkV t n vp vE vF vW vR vM (.slice bw m cw) 0)) w := by
  unfold graV facV lkV; go_simp
theorem ofW_okW {g : Gram} {n : Nat} (hck : checkG g = 0) (hn : g.nons = n) : okW n (ofW n g.prods) := by
  obtain ⟨_, _, a3, _⟩ := checkG_ok hck
  have hf := fine_of hck hn
  have hF := (ofW_ok hck hn).2
  have hfl := fallsW (E := (ofS n g.prods).E) hF hf
  obtain ⟨s', h1, h2, h3⟩ := fix_end hfl _ ((List.replicate n 0).set 0 9223372036854775808) ⟨by simp, fun x hx => by
    rcases List.mem_or_eq_of_mem_set hx with h | h
    · rw [List.eq_of_mem_replicate h]; decide
    · rw [h]; decide⟩ (Nat.le_refl _)
  obtain ⟨_, h4, h5⟩ := passW_still _ _ _ h2
  have h6 : ofW n g.prods = s' := by unfold ofW setsW; rw [h3]; exact h4
  rw [h6]
  exact h1
attribute [local irreducible] Instr.build in
set_option maxHeartbeats 8000000 in
theorem walk (w : World) (v : Value) (g : Gram) (h : GraR (fun k => k < w.heap.size) w v g) (_ : g.prods.length * 32 ≤ 140737488351232) (vt : Value) (tr : Tree) (ht : TreeR (fun k => k < w.heap.size) w vt tr) :
    Calls Try.prog 9 #[v, vt] w (Meets (ret (.bool true)) w) := by
  have hY := fun w' (hg : Gr w w') => yield_calls v vt g tr w' (h.gr hg) (ht.gr hg)
  have hYE := fun w' (hg : Gr w w') => yieldE_calls v vt g tr w' (h.gr hg) (ht.gr hg)
  have hOf := fun w' (hg : Gr w w') => of_calls v g w' (h.gr hg)
  have hOfE := fun w' (hg : Gr w w') => ofE_calls v g w' (h.gr hg)
  have ht0 := ht
  obtain ⟨vp, rfl, h1, o1, o2⟩ := h
  obtain ⟨vk, rfl, _, _, hk4⟩ := ht
  obtain ⟨bk, ck, rfl, _⟩ := hk4
  by_cases c0 : checkT g tr = 0
  · have hY := fun w' hg => hY w' hg c0
    obtain ⟨c1, c2, c3, c4⟩ := checkT_iff.1 c0
    obtain ⟨_, k0, k1, k2, _, k4⟩ := checkG_ok c1
    have hp := right_prod c2
    have hyl := yield_len c2 hp
    have hyi := yield_in c1 c2 hp
    have hll := leaves_le tr
    obtain ⟨n, hn⟩ : ∃ m : Nat, g.nons = m := ⟨g.nons.toNat, by omega⟩
    have hla := look_all c0 hn
    obtain ⟨hW, hF⟩ := ofW_ok c1 hn
    have hWW := ofW_okW c1 hn
    have hOf := fun w' hg => hOf w' hg c1 n hn
    clear hYE hOfE c0
    obtain ⟨t, nn, prods⟩ := g
    dsimp only at *
    subst hn
    generalize yieldT prods tr = ys at *
    refine enter (args := [graV t (n : Int) vp, treeV tr.prod tr.tok (.slice bk tr.kids.length ck)]) (n := 64) Try.func9 rfl rfl rfl ?_
    refine T_seq (T_region (TL_box rfl rfl rfl fun g2 => TL_box rfl rfl rfl fun g3 => ?_))
    conv => arg 8; simp only [List.cons_append, List.nil_append, List.append_nil, List.filterMap_cons, List.filterMap_nil, List.getElem?_cons_succ, List.getElem?_cons_zero, List.set_cons_zero, List.set_cons_succ, rowS, ret, id_eq]
    repeat (first
      | refine TL_valg rfl (rr_move rfl) rfl rfl ?_
      | refine TL_valg rfl (rr_assign rfl) rfl rfl ?_
      | refine TL_nil ?_
      | refine T_seq ?_
      | refine T_region ?_
      | refine T_condT rfl ?_
      | refine T_condF rfl ?_
      | refine T_skip ?_
      | refine T_ret ?_
      | refine E_then ?_
      | refine E_thenR ?_
      | refine TL_valg rfl (rr_extract rfl rfl) rfl rfl ?_
      | refine TL_valg rfl (rr_pickT rfl rfl) rfl rfl ?_
      | refine TL_valg rfl (rr_pickF rfl rfl) rfl rfl ?_
      | refine TL_valg rfl (rr_len Und.eq rfl) rfl rfl ?_
      | refine TL_valg rfl (rr_field FldC.fld rfl rfl) rfl rfl ?_
      | refine TL_valg rfl (rr_nilc rfl) rfl rfl ?_
      | refine TL_valg rfl (rr_eql rfl rfl (decide_eq_true (by omega))) rfl rfl ?_
      | refine TL_valg rfl (rr_eql rfl rfl (decide_eq_false (by omega))) rfl rfl ?_
      | refine TL_valg rfl (rr_neq rfl rfl (decide_eq_true (by omega))) rfl rfl ?_
      | refine TL_valg rfl (rr_neq rfl rfl (decide_eq_false (by omega))) rfl rfl ?_
      | refine TL_skip rfl rfl rfl rfl rfl rfl ?_
      | (refine TL_metg rfl rfl rfl ?_; (first | refine TL_valg rfl (rr_move rfl) rfl rfl ?_ | refine TL_valg rfl (rr_len Und.eq rfl) rfl rfl ?_ | refine TL_valg rfl (rr_field FldC.fld rfl rfl) rfl rfl ?_ | refine TL_valg rfl (rr_not rfl rfl) rfl rfl ?_ | refine TL_valg rfl (rr_neq rfl rfl (decide_eq_true (by omega))) rfl rfl ?_ | refine TL_valg rfl (rr_neq rfl rfl (decide_eq_false (by omega))) rfl rfl ?_)))
    refine TL_call (he0 EntersC.en rfl) (fun w hm => brackets_calls w) rfl rfl rfl ?_
    rintro ⟨vb, F1⟩ _
    conv => arg 8; simp only [List.cons_append, List.nil_append, List.append_nil, List.filterMap_cons, List.filterMap_nil, List.getElem?_cons_succ, List.getElem?_cons_zero, List.set_cons_zero, List.set_cons_succ, rowS, ret, id_eq, gramS]
    refine TL_call (he1 EntersC.en rfl rfl) (fun w' hm => (of_calls _ brkG w' (prodsO_gra ok2 ok1 (hm.get (i := 2) rfl)) brk_makes.2 1 rfl).mono fun e w2 h => meets_of h) rfl rfl rfl ?_
    intro xb _
    rw [brk_makes.1]
    conv => arg 8; simp only [List.cons_append, List.nil_append, List.append_nil, List.filterMap_cons, List.filterMap_nil, List.getElem?_cons_succ, List.getElem?_cons_zero, List.set_cons_zero, List.set_cons_succ, rowS, ret, id_eq, Rows5.val]
    repeat (first
      | refine TL_valg rfl (rr_move rfl) rfl rfl ?_
      | refine TL_valg rfl (rr_assign rfl) rfl rfl ?_
      | refine TL_nil ?_
      | refine T_seq ?_
      | refine T_region ?_
      | refine T_condT rfl ?_
      | refine T_condF rfl ?_
      | refine T_skip ?_
      | refine T_ret ?_
      | refine E_then ?_
      | refine E_thenR ?_
      | refine TL_valg rfl (rr_extract rfl rfl) rfl rfl ?_
      | refine TL_valg rfl (rr_pickT rfl rfl) rfl rfl ?_
      | refine TL_valg rfl (rr_pickF rfl rfl) rfl rfl ?_
      | refine TL_valg rfl (rr_len Und.eq rfl) rfl rfl ?_
      | refine TL_valg rfl (rr_field FldC.fld rfl rfl) rfl rfl ?_
      | refine TL_valg rfl (rr_nilc rfl) rfl rfl ?_
      | refine TL_valg rfl (rr_eql rfl rfl (decide_eq_true (by omega))) rfl rfl ?_
      | refine TL_valg rfl (rr_eql rfl rfl (decide_eq_false (by omega))) rfl rfl ?_
      | refine TL_valg rfl (rr_neq rfl rfl (decide_eq_true (by omega))) rfl rfl ?_
      | refine TL_valg rfl (rr_neq rfl rfl (decide_eq_false (by omega))) rfl rfl ?_
      | refine TL_skip rfl rfl rfl rfl rfl rfl ?_
      | (refine TL_metg rfl rfl rfl ?_; (first | refine TL_valg rfl (rr_move rfl) rfl rfl ?_ | refine TL_valg rfl (rr_len Und.eq rfl) rfl rfl ?_ | refine TL_valg rfl (rr_field FldC.fld rfl rfl) rfl rfl ?_ | refine TL_valg rfl (rr_not rfl rfl) rfl rfl ?_ | refine TL_valg rfl (rr_neq rfl rfl (decide_eq_true (by omega))) rfl rfl ?_ | refine TL_valg rfl (rr_neq rfl rfl (decide_eq_false (by omega))) rfl rfl ?_)))
    refine TL_new rfl fun g5 => ?_
    refine TL_storeB (i := 8) rfl rfl rfl rfl rfl rfl ?_
    conv => arg 8; simp only [List.cons_append, List.nil_append, List.append_nil, List.filterMap_cons, List.filterMap_nil, List.getElem?_cons_succ, List.getElem?_cons_zero, List.set_cons_zero, List.set_cons_succ, rowS, ret, id_eq]
    repeat (first
      | refine TL_valg rfl (rr_move rfl) rfl rfl ?_
      | refine TL_valg rfl (rr_assign rfl) rfl rfl ?_
      | refine TL_nil ?_
      | refine T_seq ?_
      | refine T_region ?_
      | refine T_condT rfl ?_
      | refine T_condF rfl ?_
      | refine T_skip ?_
      | refine T_ret ?_
      | refine E_then ?_
      | refine E_thenR ?_
      | refine TL_valg rfl (rr_load1 TyC.ty rfl (at_blk (i := 8) rfl rfl)) rfl rfl ?_
      | refine TL_valg rfl (rr_load1 TyC.ty rfl (at_row (i := 7) rfl (show ([true].map Value.bool)[0 + 0]? = some (.bool true) from rfl))) rfl rfl ?_
      | refine TL_valg rfl (rr_extract rfl rfl) rfl rfl ?_
      | refine TL_valg rfl (rr_pickT rfl rfl) rfl rfl ?_
      | refine TL_valg rfl (rr_pickF rfl rfl) rfl rfl ?_
      | refine TL_valg rfl (rr_len Und.eq rfl) rfl rfl ?_
      | refine TL_valg rfl (rr_field FldC.fld rfl rfl) rfl rfl ?_
      | refine TL_valg rfl (rr_nilc rfl) rfl rfl ?_
      | refine TL_valg rfl (rr_eql rfl rfl (decide_eq_true (by omega))) rfl rfl ?_
      | refine TL_valg rfl (rr_eql rfl rfl (decide_eq_false (by omega))) rfl rfl ?_
      | refine TL_valg rfl (rr_neq rfl rfl (decide_eq_true (by omega))) rfl rfl ?_
      | refine TL_valg rfl (rr_neq rfl rfl (decide_eq_false (by omega))) rfl rfl ?_
      | refine TL_skip rfl rfl rfl rfl rfl rfl ?_
      | (refine TL_metg rfl rfl rfl ?_; (first | refine TL_valg rfl (rr_load1 TyC.ty rfl (at_blk (i := 8) rfl rfl)) rfl rfl ?_ | refine TL_valg rfl (rr_idx1 (j := 0) Und.eq TyC.ty rfl rfl (by decide)) rfl rfl ?_ | refine TL_valg rfl (rr_load1 TyC.ty rfl (at_row (i := 7) rfl (show ([true].map Value.bool)[0 + 0]? = some (.bool true) from rfl))) rfl rfl ?_ | refine TL_valg rfl (rr_move rfl) rfl rfl ?_ | refine TL_valg rfl (rr_len Und.eq rfl) rfl rfl ?_ | refine TL_valg rfl (rr_field FldC.fld rfl rfl) rfl rfl ?_ | refine TL_valg rfl (rr_not rfl rfl) rfl rfl ?_ | refine TL_valg rfl (rr_neq rfl rfl (decide_eq_true (by omega))) rfl rfl ?_ | refine TL_valg rfl (rr_neq rfl rfl (decide_eq_false (by omega))) rfl rfl ?_)))
    refine TL_pick [0, 1] (by decide) rfl ?_
    repeat (first
      | refine TL_valg rfl (rr_move rfl) rfl rfl ?_
      | refine TL_valg rfl (rr_assign rfl) rfl rfl ?_
      | refine TL_nil ?_
      | refine T_seq ?_
      | refine T_region ?_
      | refine T_condT rfl ?_
      | refine T_condF rfl ?_
      | refine T_skip ?_
      | refine T_ret ?_
      | refine E_then ?_
      | refine E_thenR ?_
      | refine TL_valg rfl (rr_loadB (i := 0) TyC.ty rfl rfl rfl) rfl rfl ?_
      | refine TL_valg rfl (rr_loadB (i := 1) TyC.ty rfl rfl rfl) rfl rfl ?_
      | refine TL_valg rfl (rr_extract rfl rfl) rfl rfl ?_
      | refine TL_valg rfl (rr_pickT rfl rfl) rfl rfl ?_
      | refine TL_valg rfl (rr_pickF rfl rfl) rfl rfl ?_
      | refine TL_valg rfl (rr_len Und.eq rfl) rfl rfl ?_
      | refine TL_valg rfl (rr_field FldC.fld rfl rfl) rfl rfl ?_
      | refine TL_valg rfl (rr_nilc rfl) rfl rfl ?_
      | refine TL_valg rfl (rr_eql rfl rfl (decide_eq_true (by omega))) rfl rfl ?_
      | refine TL_valg rfl (rr_eql rfl rfl (decide_eq_false (by omega))) rfl rfl ?_
      | refine TL_valg rfl (rr_neq rfl rfl (decide_eq_true (by omega))) rfl rfl ?_
      | refine TL_valg rfl (rr_neq rfl rfl (decide_eq_false (by omega))) rfl rfl ?_
      | refine TL_skip rfl rfl rfl rfl rfl rfl ?_
      | (refine TL_metg rfl rfl rfl ?_; (first | refine TL_valg rfl (rr_loadB (i := 0) TyC.ty rfl rfl rfl) rfl rfl ?_ | refine TL_valg rfl (rr_loadB (i := 1) TyC.ty rfl rfl rfl) rfl rfl ?_ | refine TL_valg rfl (rr_move rfl) rfl rfl ?_ | refine TL_valg rfl (rr_len Und.eq rfl) rfl rfl ?_ | refine TL_valg rfl (rr_field FldC.fld rfl rfl) rfl rfl ?_ | refine TL_valg rfl (rr_not rfl rfl) rfl rfl ?_ | refine TL_valg rfl (rr_neq rfl rfl (decide_eq_true (by omega))) rfl rfl ?_ | refine TL_valg rfl (rr_neq rfl rfl (decide_eq_false (by omega))) rfl rfl ?_)))
    refine TL_call (he2 EntersC.en rfl rfl rfl) (fun w hm => hY _ hm.below) rfl rfl rfl ?_
    intro vw _
    conv => arg 8; simp only [List.cons_append, List.nil_append, List.append_nil, List.filterMap_cons, List.filterMap_nil, List.getElem?_cons_succ, List.getElem?_cons_zero, List.set_cons_zero, List.set_cons_succ, rowS, ret, id_eq, yieldS]
    repeat (first
      | refine TL_valg rfl (rr_move rfl) rfl rfl ?_
      | refine TL_valg rfl (rr_assign rfl) rfl rfl ?_
      | refine TL_nil ?_
      | refine T_seq ?_
      | refine T_region ?_
      | refine T_condT rfl ?_
      | refine T_condF rfl ?_
      | refine T_skip ?_
      | refine T_ret ?_
      | refine E_then ?_
      | refine E_thenR ?_
      | refine TL_valg rfl (rr_loadB (i := 0) TyC.ty rfl rfl rfl) rfl rfl ?_
      | refine TL_valg rfl (rr_extract rfl rfl) rfl rfl ?_
      | refine TL_valg rfl (rr_pickT rfl rfl) rfl rfl ?_
      | refine TL_valg rfl (rr_pickF rfl rfl) rfl rfl ?_
      | refine TL_valg rfl (rr_len Und.eq rfl) rfl rfl ?_
      | refine TL_valg rfl (rr_field FldC.fld rfl rfl) rfl rfl ?_
      | refine TL_valg rfl (rr_nilc rfl) rfl rfl ?_
      | refine TL_valg rfl (rr_eql rfl rfl (decide_eq_true (by omega))) rfl rfl ?_
      | refine TL_valg rfl (rr_eql rfl rfl (decide_eq_false (by omega))) rfl rfl ?_
      | refine TL_valg rfl (rr_neq rfl rfl (decide_eq_true (by omega))) rfl rfl ?_
      | refine TL_valg rfl (rr_neq rfl rfl (decide_eq_false (by omega))) rfl rfl ?_
      | refine TL_skip rfl rfl rfl rfl rfl rfl ?_
      | (refine TL_metg rfl rfl rfl ?_; (first | refine TL_valg rfl (rr_loadB (i := 0) TyC.ty rfl rfl rfl) rfl rfl ?_ | refine TL_valg rfl (rr_move rfl) rfl rfl ?_ | refine TL_valg rfl (rr_len Und.eq rfl) rfl rfl ?_ | refine TL_valg rfl (rr_field FldC.fld rfl rfl) rfl rfl ?_ | refine TL_valg rfl (rr_not rfl rfl) rfl rfl ?_ | refine TL_valg rfl (rr_neq rfl rfl (decide_eq_true (by omega))) rfl rfl ?_ | refine TL_valg rfl (rr_neq rfl rfl (decide_eq_false (by omega))) rfl rfl ?_)))
    refine TL_call (he1 EntersC.en rfl rfl) (fun w' hm => (hOf w' hm.below).mono fun e w2 h => meets_of h) rfl rfl rfl ?_
    intro xr _
    conv => arg 8; simp only [List.cons_append, List.nil_append, List.append_nil, List.filterMap_cons, List.filterMap_nil, List.getElem?_cons_succ, List.getElem?_cons_zero, List.set_cons_zero, List.set_cons_succ, rowS, ret, id_eq, Rows5.val]
    repeat (first
      | refine TL_valg rfl (rr_move rfl) rfl rfl ?_
      | refine TL_valg rfl (rr_assign rfl) rfl rfl ?_
      | refine TL_nil ?_
      | refine T_seq ?_
      | refine T_region ?_
      | refine T_condT rfl ?_
      | refine T_condF rfl ?_
      | refine T_skip ?_
      | refine T_ret ?_
      | refine E_then ?_
      | refine E_thenR ?_
      | refine TL_valg rfl (rr_extract rfl rfl) rfl rfl ?_
      | refine TL_valg rfl (rr_pickT rfl rfl) rfl rfl ?_
      | refine TL_valg rfl (rr_pickF rfl rfl) rfl rfl ?_
      | refine TL_valg rfl (rr_len Und.eq rfl) rfl rfl ?_
      | refine TL_valg rfl (rr_field FldC.fld rfl rfl) rfl rfl ?_
      | refine TL_valg rfl (rr_nilc rfl) rfl rfl ?_
      | refine TL_valg rfl (rr_eql rfl rfl (decide_eq_true (by omega))) rfl rfl ?_
      | refine TL_valg rfl (rr_eql rfl rfl (decide_eq_false (by omega))) rfl rfl ?_
      | refine TL_valg rfl (rr_neq rfl rfl (decide_eq_true (by omega))) rfl rfl ?_
      | refine TL_valg rfl (rr_neq rfl rfl (decide_eq_false (by omega))) rfl rfl ?_
      | refine TL_skip rfl rfl rfl rfl rfl rfl ?_
      | (refine TL_metg rfl rfl rfl ?_; (first | refine TL_valg rfl (rr_move rfl) rfl rfl ?_ | refine TL_valg rfl (rr_len Und.eq rfl) rfl rfl ?_ | refine TL_valg rfl (rr_field FldC.fld rfl rfl) rfl rfl ?_ | refine TL_valg rfl (rr_not rfl rfl) rfl rfl ?_ | refine TL_valg rfl (rr_neq rfl rfl (decide_eq_true (by omega))) rfl rfl ?_ | refine TL_valg rfl (rr_neq rfl rfl (decide_eq_false (by omega))) rfl rfl ?_)))
    refine TL_new rfl fun g9 => ?_
    refine TL_storeB (i := 8) rfl rfl rfl rfl rfl rfl ?_
    conv => arg 8; simp only [List.cons_append, List.nil_append, List.append_nil, List.filterMap_cons, List.filterMap_nil, List.getElem?_cons_succ, List.getElem?_cons_zero, List.set_cons_zero, List.set_cons_succ, rowS, ret, id_eq]
    refine TL_know (i := 2) rfl (fun w h => rowO_form h) ?_
    rintro ⟨bw, cw, rfl, hbw⟩
    repeat (first
      | refine TL_valg rfl (rr_move rfl) rfl rfl ?_
      | refine TL_valg rfl (rr_assign rfl) rfl rfl ?_
      | refine TL_nil ?_
      | refine T_seq ?_
      | refine T_region ?_
      | refine T_condT rfl ?_
      | refine T_condF rfl ?_
      | refine T_skip ?_
      | refine T_ret ?_
      | refine E_then ?_
      | refine E_thenR ?_
      | refine TL_valg rfl (rr_loadB (i := 0) TyC.ty rfl rfl rfl) rfl rfl ?_
      | refine TL_valg rfl (rr_loadB (i := 8) TyC.ty rfl rfl rfl) rfl rfl ?_
      | refine TL_valg rfl (rr_extract rfl rfl) rfl rfl ?_
      | refine TL_valg rfl (rr_pickT rfl rfl) rfl rfl ?_
      | refine TL_valg rfl (rr_pickF rfl rfl) rfl rfl ?_
      | refine TL_valg rfl (rr_len Und.eq rfl) rfl rfl ?_
      | refine TL_valg rfl (rr_field FldC.fld rfl rfl) rfl rfl ?_
      | refine TL_valg rfl (rr_nilc rfl) rfl rfl ?_
      | refine TL_valg rfl (rr_eql rfl rfl (decide_eq_true (by omega))) rfl rfl ?_
      | refine TL_valg rfl (rr_eql rfl rfl (decide_eq_false (by omega))) rfl rfl ?_
      | refine TL_valg rfl (rr_neq rfl rfl (decide_eq_true (by omega))) rfl rfl ?_
      | refine TL_valg rfl (rr_neq rfl rfl (decide_eq_false (by omega))) rfl rfl ?_
      | refine TL_skip rfl rfl rfl rfl rfl rfl ?_
      | (refine TL_metg rfl rfl rfl ?_; (first | refine TL_valg rfl (rr_loadB (i := 0) TyC.ty rfl rfl rfl) rfl rfl ?_ | refine TL_valg rfl (rr_loadB (i := 8) TyC.ty rfl rfl rfl) rfl rfl ?_ | refine TL_valg rfl (rr_move rfl) rfl rfl ?_ | refine TL_valg rfl (rr_len Und.eq rfl) rfl rfl ?_ | refine TL_valg rfl (rr_field FldC.fld rfl rfl) rfl rfl ?_ | refine TL_valg rfl (rr_not rfl rfl) rfl rfl ?_ | refine TL_valg rfl (rr_neq rfl rfl (decide_eq_true (by omega))) rfl rfl ?_ | refine TL_valg rfl (rr_neq rfl rfl (decide_eq_false (by omega))) rfl rfl ?_)))
    refine TL_valg rfl (rr_build rfl (build_lk t (n : Int) vp (vRow n xr.gE xr.cE) (vRow n xr.gF xr.cF) (vRow n xr.gW xr.cW) (vRow n xr.gR xr.cR) (vRow n xr.gM xr.cM) bw ys.length cw)) rfl rfl ?_
    refine TL_box rfl rfl rfl fun gl => ?_
    conv => arg 8; simp only [List.cons_append, List.nil_append, List.append_nil, List.filterMap_cons, List.filterMap_nil, List.getElem?_cons_succ, List.getElem?_cons_zero, List.set_cons_zero, List.set_cons_succ, rowS, ret, id_eq]
    refine TL_pick [9, 3, 4, 5, 6, 7, 2, 1] (by decide) rfl ?_
    repeat (first
      | refine TL_valg rfl (rr_move rfl) rfl rfl ?_
      | refine TL_valg rfl (rr_assign rfl) rfl rfl ?_
      | refine TL_nil ?_
      | refine T_seq ?_
      | refine T_region ?_
      | refine T_condT rfl ?_
      | refine T_condF rfl ?_
      | refine T_skip ?_
      | refine T_ret ?_
      | refine E_then ?_
      | refine E_thenR ?_
      | refine TL_valg rfl (rr_loadB (i := 7) TyC.ty rfl rfl rfl) rfl rfl ?_
      | refine TL_valg rfl (rr_extract rfl rfl) rfl rfl ?_
      | refine TL_valg rfl (rr_pickT rfl rfl) rfl rfl ?_
      | refine TL_valg rfl (rr_pickF rfl rfl) rfl rfl ?_
      | refine TL_valg rfl (rr_len Und.eq rfl) rfl rfl ?_
      | refine TL_valg rfl (rr_field FldC.fld rfl rfl) rfl rfl ?_
      | refine TL_valg rfl (rr_nilc rfl) rfl rfl ?_
      | refine TL_valg rfl (rr_eql rfl rfl (decide_eq_true (by omega))) rfl rfl ?_
      | refine TL_valg rfl (rr_eql rfl rfl (decide_eq_false (by omega))) rfl rfl ?_
      | refine TL_valg rfl (rr_neq rfl rfl (decide_eq_true (by omega))) rfl rfl ?_
      | refine TL_valg rfl (rr_neq rfl rfl (decide_eq_false (by omega))) rfl rfl ?_
      | refine TL_skip rfl rfl rfl rfl rfl rfl ?_
      | (refine TL_metg rfl rfl rfl ?_; (first | refine TL_valg rfl (rr_loadB (i := 7) TyC.ty rfl rfl rfl) rfl rfl ?_ | refine TL_valg rfl (rr_move rfl) rfl rfl ?_ | refine TL_valg rfl (rr_len Und.eq rfl) rfl rfl ?_ | refine TL_valg rfl (rr_field FldC.fld rfl rfl) rfl rfl ?_ | refine TL_valg rfl (rr_not rfl rfl) rfl rfl ?_ | refine TL_valg rfl (rr_neq rfl rfl (decide_eq_true (by omega))) rfl rfl ?_ | refine TL_valg rfl (rr_neq rfl rfl (decide_eq_false (by omega))) rfl rfl ?_)))
    have hlook := fun w' B ho hm => look_calls w gl t n vp prods h1 (fun p hp => by have := k4 p hp; exact ⟨this.2.1, this.2.2.1⟩) xr bw cw (ofS n prods).E (ofS n prods).R (ofS n prods).M (ofF n prods) (ofW n prods) ys hW.1 hW.2.1 hW.2.2 hF hWW (fun y hy => by have := hyi y hy; omega) hbw (by omega) (size tr) tr (Nat.le_refl _) (treeV tr.prod tr.tok (.slice bk tr.kids.length ck)) (2, 0) 0 0 w' B ht0 c2 hp hla (by omega) ho hm
    refine TL_callB [0, 1, 2, 3, 4, 5, 6] [] (by decide) rfl rfl (he2 EntersC.en rfl rfl rfl) (fun w' hm hb => hlook w' _ ((Old.self w).on hm fun o h => pick_mem h) hb) rfl rfl rfl ?_
    intro _ _
    conv => arg 8; simp only [List.cons_append, List.nil_append, List.append_nil, List.filterMap_cons, List.filterMap_nil, List.getElem?_cons_succ, List.getElem?_cons_zero, List.set_cons_zero, List.set_cons_succ, rowS, ret, id_eq, lkL]
    repeat (first
      | refine TL_valg rfl (rr_move rfl) rfl rfl ?_
      | refine TL_valg rfl (rr_assign rfl) rfl rfl ?_
      | refine TL_nil ?_
      | refine T_seq ?_
      | refine T_region ?_
      | refine T_condT rfl ?_
      | refine T_condF rfl ?_
      | refine T_skip ?_
      | refine T_ret ?_
      | refine E_then ?_
      | refine E_thenR ?_
      | refine TL_valg rfl (rr_load1 TyC.ty rfl (at_blk (i := 0) rfl rfl)) rfl rfl ?_
      | refine TL_valg rfl (rr_extract rfl rfl) rfl rfl ?_
      | refine TL_valg rfl (rr_pickT rfl rfl) rfl rfl ?_
      | refine TL_valg rfl (rr_pickF rfl rfl) rfl rfl ?_
      | refine TL_valg rfl (rr_len Und.eq rfl) rfl rfl ?_
      | refine TL_valg rfl (rr_field FldC.fld rfl rfl) rfl rfl ?_
      | refine TL_valg rfl (rr_nilc rfl) rfl rfl ?_
      | refine TL_valg rfl (rr_eql rfl rfl (decide_eq_true (by omega))) rfl rfl ?_
      | refine TL_valg rfl (rr_eql rfl rfl (decide_eq_false (by omega))) rfl rfl ?_
      | refine TL_valg rfl (rr_neq rfl rfl (decide_eq_true (by omega))) rfl rfl ?_
      | refine TL_valg rfl (rr_neq rfl rfl (decide_eq_false (by omega))) rfl rfl ?_
      | refine TL_skip rfl rfl rfl rfl rfl rfl ?_
      | (refine TL_metg rfl rfl rfl ?_; (first | refine TL_valg rfl (rr_load1 TyC.ty rfl (at_blk (i := 0) rfl rfl)) rfl rfl ?_ | refine TL_valg rfl (rr_move rfl) rfl rfl ?_ | refine TL_valg rfl (rr_len Und.eq rfl) rfl rfl ?_ | refine TL_valg rfl (rr_field FldC.fld rfl rfl) rfl rfl ?_ | refine TL_valg rfl (rr_not rfl rfl) rfl rfl ?_ | refine TL_valg rfl (rr_neq rfl rfl (decide_eq_true (by omega))) rfl rfl ?_ | refine TL_valg rfl (rr_neq rfl rfl (decide_eq_false (by omega))) rfl rfl ?_)))
    exact E_ret1 rfl rfl fun w hm => hm.ret
  · have hYE := fun w' hg => hYE w' hg c0
    clear hY
    by_cases c1 : checkG g = 0
    · obtain ⟨_, k0, k1, k2, _, k4⟩ := checkG_ok c1
      obtain ⟨n, hn⟩ : ∃ m : Nat, g.nons = m := ⟨g.nons.toNat, by omega⟩
      have hOf := fun w' hg => hOf w' hg c1 n hn
      clear hOfE k4
      obtain ⟨t, nn, prods⟩ := g
      dsimp only at *
      subst hn
      generalize checkT ⟨t, (n : Int), prods⟩ tr = e at *
      refine enter (args := [graV t (n : Int) vp, treeV tr.prod tr.tok (.slice bk tr.kids.length ck)]) (n := 64) Try.func9 rfl rfl rfl ?_
      refine T_seq (T_region (TL_box rfl rfl rfl fun g2 => TL_box rfl rfl rfl fun g3 => ?_))
      conv => arg 8; simp only [List.cons_append, List.nil_append, List.append_nil, List.filterMap_cons, List.filterMap_nil, List.getElem?_cons_succ, List.getElem?_cons_zero, List.set_cons_zero, List.set_cons_succ, rowS, ret, id_eq]
      repeat (first
        | refine TL_valg rfl (rr_move rfl) rfl rfl ?_
        | refine TL_valg rfl (rr_assign rfl) rfl rfl ?_
        | refine TL_nil ?_
        | refine T_seq ?_
        | refine T_region ?_
        | refine T_condT rfl ?_
        | refine T_condF rfl ?_
        | refine T_skip ?_
        | refine T_ret ?_
        | refine E_then ?_
        | refine E_thenR ?_
        | refine TL_valg rfl (rr_extract rfl rfl) rfl rfl ?_
        | refine TL_valg rfl (rr_pickT rfl rfl) rfl rfl ?_
        | refine TL_valg rfl (rr_pickF rfl rfl) rfl rfl ?_
        | refine TL_valg rfl (rr_len Und.eq rfl) rfl rfl ?_
        | refine TL_valg rfl (rr_field FldC.fld rfl rfl) rfl rfl ?_
        | refine TL_valg rfl (rr_nilc rfl) rfl rfl ?_
        | refine TL_valg rfl (rr_eql rfl rfl (decide_eq_true (by omega))) rfl rfl ?_
        | refine TL_valg rfl (rr_eql rfl rfl (decide_eq_false (by omega))) rfl rfl ?_
        | refine TL_valg rfl (rr_neq rfl rfl (decide_eq_true (by omega))) rfl rfl ?_
        | refine TL_valg rfl (rr_neq rfl rfl (decide_eq_false (by omega))) rfl rfl ?_
        | refine TL_skip rfl rfl rfl rfl rfl rfl ?_
        | (refine TL_metg rfl rfl rfl ?_; (first | refine TL_valg rfl (rr_move rfl) rfl rfl ?_ | refine TL_valg rfl (rr_len Und.eq rfl) rfl rfl ?_ | refine TL_valg rfl (rr_field FldC.fld rfl rfl) rfl rfl ?_ | refine TL_valg rfl (rr_not rfl rfl) rfl rfl ?_ | refine TL_valg rfl (rr_neq rfl rfl (decide_eq_true (by omega))) rfl rfl ?_ | refine TL_valg rfl (rr_neq rfl rfl (decide_eq_false (by omega))) rfl rfl ?_)))
      refine TL_call (he0 EntersC.en rfl) (fun w hm => brackets_calls w) rfl rfl rfl ?_
      rintro ⟨vb, F1⟩ _
      conv => arg 8; simp only [List.cons_append, List.nil_append, List.append_nil, List.filterMap_cons, List.filterMap_nil, List.getElem?_cons_succ, List.getElem?_cons_zero, List.set_cons_zero, List.set_cons_succ, rowS, ret, id_eq, gramS]
      refine TL_call (he1 EntersC.en rfl rfl) (fun w' hm => (of_calls _ brkG w' (prodsO_gra ok2 ok1 (hm.get (i := 2) rfl)) brk_makes.2 1 rfl).mono fun e w2 h => meets_of h) rfl rfl rfl ?_
      intro xb _
      rw [brk_makes.1]
      conv => arg 8; simp only [List.cons_append, List.nil_append, List.append_nil, List.filterMap_cons, List.filterMap_nil, List.getElem?_cons_succ, List.getElem?_cons_zero, List.set_cons_zero, List.set_cons_succ, rowS, ret, id_eq, Rows5.val]
      repeat (first
        | refine TL_valg rfl (rr_move rfl) rfl rfl ?_
        | refine TL_valg rfl (rr_assign rfl) rfl rfl ?_
        | refine TL_nil ?_
        | refine T_seq ?_
        | refine T_region ?_
        | refine T_condT rfl ?_
        | refine T_condF rfl ?_
        | refine T_skip ?_
        | refine T_ret ?_
        | refine E_then ?_
        | refine E_thenR ?_
        | refine TL_valg rfl (rr_extract rfl rfl) rfl rfl ?_
        | refine TL_valg rfl (rr_pickT rfl rfl) rfl rfl ?_
        | refine TL_valg rfl (rr_pickF rfl rfl) rfl rfl ?_
        | refine TL_valg rfl (rr_len Und.eq rfl) rfl rfl ?_
        | refine TL_valg rfl (rr_field FldC.fld rfl rfl) rfl rfl ?_
        | refine TL_valg rfl (rr_nilc rfl) rfl rfl ?_
        | refine TL_valg rfl (rr_eql rfl rfl (decide_eq_true (by omega))) rfl rfl ?_
        | refine TL_valg rfl (rr_eql rfl rfl (decide_eq_false (by omega))) rfl rfl ?_
        | refine TL_valg rfl (rr_neq rfl rfl (decide_eq_true (by omega))) rfl rfl ?_
        | refine TL_valg rfl (rr_neq rfl rfl (decide_eq_false (by omega))) rfl rfl ?_
        | refine TL_skip rfl rfl rfl rfl rfl rfl ?_
        | (refine TL_metg rfl rfl rfl ?_; (first | refine TL_valg rfl (rr_move rfl) rfl rfl ?_ | refine TL_valg rfl (rr_len Und.eq rfl) rfl rfl ?_ | refine TL_valg rfl (rr_field FldC.fld rfl rfl) rfl rfl ?_ | refine TL_valg rfl (rr_not rfl rfl) rfl rfl ?_ | refine TL_valg rfl (rr_neq rfl rfl (decide_eq_true (by omega))) rfl rfl ?_ | refine TL_valg rfl (rr_neq rfl rfl (decide_eq_false (by omega))) rfl rfl ?_)))
      refine TL_new rfl fun g5 => ?_
      refine TL_storeB (i := 8) rfl rfl rfl rfl rfl rfl ?_
      conv => arg 8; simp only [List.cons_append, List.nil_append, List.append_nil, List.filterMap_cons, List.filterMap_nil, List.getElem?_cons_succ, List.getElem?_cons_zero, List.set_cons_zero, List.set_cons_succ, rowS, ret, id_eq]
      repeat (first
        | refine TL_valg rfl (rr_move rfl) rfl rfl ?_
        | refine TL_valg rfl (rr_assign rfl) rfl rfl ?_
        | refine TL_nil ?_
        | refine T_seq ?_
        | refine T_region ?_
        | refine T_condT rfl ?_
        | refine T_condF rfl ?_
        | refine T_skip ?_
        | refine T_ret ?_
        | refine E_then ?_
        | refine E_thenR ?_
        | refine TL_valg rfl (rr_load1 TyC.ty rfl (at_blk (i := 8) rfl rfl)) rfl rfl ?_
        | refine TL_valg rfl (rr_load1 TyC.ty rfl (at_row (i := 7) rfl (show ([true].map Value.bool)[0 + 0]? = some (.bool true) from rfl))) rfl rfl ?_
        | refine TL_valg rfl (rr_extract rfl rfl) rfl rfl ?_
        | refine TL_valg rfl (rr_pickT rfl rfl) rfl rfl ?_
        | refine TL_valg rfl (rr_pickF rfl rfl) rfl rfl ?_
        | refine TL_valg rfl (rr_len Und.eq rfl) rfl rfl ?_
        | refine TL_valg rfl (rr_field FldC.fld rfl rfl) rfl rfl ?_
        | refine TL_valg rfl (rr_nilc rfl) rfl rfl ?_
        | refine TL_valg rfl (rr_eql rfl rfl (decide_eq_true (by omega))) rfl rfl ?_
        | refine TL_valg rfl (rr_eql rfl rfl (decide_eq_false (by omega))) rfl rfl ?_
        | refine TL_valg rfl (rr_neq rfl rfl (decide_eq_true (by omega))) rfl rfl ?_
        | refine TL_valg rfl (rr_neq rfl rfl (decide_eq_false (by omega))) rfl rfl ?_
        | refine TL_skip rfl rfl rfl rfl rfl rfl ?_
        | (refine TL_metg rfl rfl rfl ?_; (first | refine TL_valg rfl (rr_load1 TyC.ty rfl (at_blk (i := 8) rfl rfl)) rfl rfl ?_ | refine TL_valg rfl (rr_idx1 (j := 0) Und.eq TyC.ty rfl rfl (by decide)) rfl rfl ?_ | refine TL_valg rfl (rr_load1 TyC.ty rfl (at_row (i := 7) rfl (show ([true].map Value.bool)[0 + 0]? = some (.bool true) from rfl))) rfl rfl ?_ | refine TL_valg rfl (rr_move rfl) rfl rfl ?_ | refine TL_valg rfl (rr_len Und.eq rfl) rfl rfl ?_ | refine TL_valg rfl (rr_field FldC.fld rfl rfl) rfl rfl ?_ | refine TL_valg rfl (rr_not rfl rfl) rfl rfl ?_ | refine TL_valg rfl (rr_neq rfl rfl (decide_eq_true (by omega))) rfl rfl ?_ | refine TL_valg rfl (rr_neq rfl rfl (decide_eq_false (by omega))) rfl rfl ?_)))
      refine TL_pick [0, 1] (by decide) rfl ?_
      repeat (first
        | refine TL_valg rfl (rr_move rfl) rfl rfl ?_
        | refine TL_valg rfl (rr_assign rfl) rfl rfl ?_
        | refine TL_nil ?_
        | refine T_seq ?_
        | refine T_region ?_
        | refine T_condT rfl ?_
        | refine T_condF rfl ?_
        | refine T_skip ?_
        | refine T_ret ?_
        | refine E_then ?_
        | refine E_thenR ?_
        | refine TL_valg rfl (rr_loadB (i := 0) TyC.ty rfl rfl rfl) rfl rfl ?_
        | refine TL_valg rfl (rr_loadB (i := 1) TyC.ty rfl rfl rfl) rfl rfl ?_
        | refine TL_valg rfl (rr_extract rfl rfl) rfl rfl ?_
        | refine TL_valg rfl (rr_pickT rfl rfl) rfl rfl ?_
        | refine TL_valg rfl (rr_pickF rfl rfl) rfl rfl ?_
        | refine TL_valg rfl (rr_len Und.eq rfl) rfl rfl ?_
        | refine TL_valg rfl (rr_field FldC.fld rfl rfl) rfl rfl ?_
        | refine TL_valg rfl (rr_nilc rfl) rfl rfl ?_
        | refine TL_valg rfl (rr_eql rfl rfl (decide_eq_true (by omega))) rfl rfl ?_
        | refine TL_valg rfl (rr_eql rfl rfl (decide_eq_false (by omega))) rfl rfl ?_
        | refine TL_valg rfl (rr_neq rfl rfl (decide_eq_true (by omega))) rfl rfl ?_
        | refine TL_valg rfl (rr_neq rfl rfl (decide_eq_false (by omega))) rfl rfl ?_
        | refine TL_skip rfl rfl rfl rfl rfl rfl ?_
        | (refine TL_metg rfl rfl rfl ?_; (first | refine TL_valg rfl (rr_loadB (i := 0) TyC.ty rfl rfl rfl) rfl rfl ?_ | refine TL_valg rfl (rr_loadB (i := 1) TyC.ty rfl rfl rfl) rfl rfl ?_ | refine TL_valg rfl (rr_move rfl) rfl rfl ?_ | refine TL_valg rfl (rr_len Und.eq rfl) rfl rfl ?_ | refine TL_valg rfl (rr_field FldC.fld rfl rfl) rfl rfl ?_ | refine TL_valg rfl (rr_not rfl rfl) rfl rfl ?_ | refine TL_valg rfl (rr_neq rfl rfl (decide_eq_true (by omega))) rfl rfl ?_ | refine TL_valg rfl (rr_neq rfl rfl (decide_eq_false (by omega))) rfl rfl ?_)))
      refine TL_call (he2 EntersC.en rfl rfl rfl) (fun w hm => hYE _ hm.below) rfl rfl rfl ?_
      intro _ _
      conv => arg 8; simp only [List.cons_append, List.nil_append, List.append_nil, List.filterMap_cons, List.filterMap_nil, List.getElem?_cons_succ, List.getElem?_cons_zero, List.set_cons_zero, List.set_cons_succ, rowS, ret, id_eq]
      repeat (first
        | refine TL_valg rfl (rr_move rfl) rfl rfl ?_
        | refine TL_valg rfl (rr_assign rfl) rfl rfl ?_
        | refine TL_nil ?_
        | refine T_seq ?_
        | refine T_region ?_
        | refine T_condT rfl ?_
        | refine T_condF rfl ?_
        | refine T_skip ?_
        | refine T_ret ?_
        | refine E_then ?_
        | refine E_thenR ?_
        | refine TL_valg rfl (rr_loadB (i := 0) TyC.ty rfl rfl rfl) rfl rfl ?_
        | refine TL_valg rfl (rr_extract rfl rfl) rfl rfl ?_
        | refine TL_valg rfl (rr_pickT rfl rfl) rfl rfl ?_
        | refine TL_valg rfl (rr_pickF rfl rfl) rfl rfl ?_
        | refine TL_valg rfl (rr_len Und.eq rfl) rfl rfl ?_
        | refine TL_valg rfl (rr_field FldC.fld rfl rfl) rfl rfl ?_
        | refine TL_valg rfl (rr_nilc rfl) rfl rfl ?_
        | refine TL_valg rfl (rr_eql rfl rfl (decide_eq_true (by omega))) rfl rfl ?_
        | refine TL_valg rfl (rr_eql rfl rfl (decide_eq_false (by omega))) rfl rfl ?_
        | refine TL_valg rfl (rr_neq rfl rfl (decide_eq_true (by omega))) rfl rfl ?_
        | refine TL_valg rfl (rr_neq rfl rfl (decide_eq_false (by omega))) rfl rfl ?_
        | refine TL_skip rfl rfl rfl rfl rfl rfl ?_
        | (refine TL_metg rfl rfl rfl ?_; (first | refine TL_valg rfl (rr_loadB (i := 0) TyC.ty rfl rfl rfl) rfl rfl ?_ | refine TL_valg rfl (rr_move rfl) rfl rfl ?_ | refine TL_valg rfl (rr_len Und.eq rfl) rfl rfl ?_ | refine TL_valg rfl (rr_field FldC.fld rfl rfl) rfl rfl ?_ | refine TL_valg rfl (rr_not rfl rfl) rfl rfl ?_ | refine TL_valg rfl (rr_neq rfl rfl (decide_eq_true (by omega))) rfl rfl ?_ | refine TL_valg rfl (rr_neq rfl rfl (decide_eq_false (by omega))) rfl rfl ?_)))
      refine TL_call (he1 EntersC.en rfl rfl) (fun w' hm => (hOf w' hm.below).mono fun e w2 h => meets_of h) rfl rfl rfl ?_
      intro xr _
      conv => arg 8; simp only [List.cons_append, List.nil_append, List.append_nil, List.filterMap_cons, List.filterMap_nil, List.getElem?_cons_succ, List.getElem?_cons_zero, List.set_cons_zero, List.set_cons_succ, rowS, ret, id_eq, Rows5.val]
      repeat (first
        | refine TL_valg rfl (rr_move rfl) rfl rfl ?_
        | refine TL_valg rfl (rr_assign rfl) rfl rfl ?_
        | refine TL_nil ?_
        | refine T_seq ?_
        | refine T_region ?_
        | refine T_condT rfl ?_
        | refine T_condF rfl ?_
        | refine T_skip ?_
        | refine T_ret ?_
        | refine E_then ?_
        | refine E_thenR ?_
        | refine TL_valg rfl (rr_extract rfl rfl) rfl rfl ?_
        | refine TL_valg rfl (rr_pickT rfl rfl) rfl rfl ?_
        | refine TL_valg rfl (rr_pickF rfl rfl) rfl rfl ?_
        | refine TL_valg rfl (rr_len Und.eq rfl) rfl rfl ?_
        | refine TL_valg rfl (rr_field FldC.fld rfl rfl) rfl rfl ?_
        | refine TL_valg rfl (rr_nilc rfl) rfl rfl ?_
        | refine TL_valg rfl (rr_eql rfl rfl (decide_eq_true (by omega))) rfl rfl ?_
        | refine TL_valg rfl (rr_eql rfl rfl (decide_eq_false (by omega))) rfl rfl ?_
        | refine TL_valg rfl (rr_neq rfl rfl (decide_eq_true (by omega))) rfl rfl ?_
        | refine TL_valg rfl (rr_neq rfl rfl (decide_eq_false (by omega))) rfl rfl ?_
        | refine TL_skip rfl rfl rfl rfl rfl rfl ?_
        | (refine TL_metg rfl rfl rfl ?_; (first | refine TL_valg rfl (rr_move rfl) rfl rfl ?_ | refine TL_valg rfl (rr_len Und.eq rfl) rfl rfl ?_ | refine TL_valg rfl (rr_field FldC.fld rfl rfl) rfl rfl ?_ | refine TL_valg rfl (rr_not rfl rfl) rfl rfl ?_ | refine TL_valg rfl (rr_neq rfl rfl (decide_eq_true (by omega))) rfl rfl ?_ | refine TL_valg rfl (rr_neq rfl rfl (decide_eq_false (by omega))) rfl rfl ?_)))
      refine TL_new rfl fun g9 => ?_
      refine TL_storeB (i := 7) rfl rfl rfl rfl rfl rfl ?_
      conv => arg 8; simp only [List.cons_append, List.nil_append, List.append_nil, List.filterMap_cons, List.filterMap_nil, List.getElem?_cons_succ, List.getElem?_cons_zero, List.set_cons_zero, List.set_cons_succ, rowS, ret, id_eq]
      repeat (first
        | refine TL_valg rfl (rr_move rfl) rfl rfl ?_
        | refine TL_valg rfl (rr_assign rfl) rfl rfl ?_
        | refine TL_nil ?_
        | refine T_seq ?_
        | refine T_region ?_
        | refine T_condT rfl ?_
        | refine T_condF rfl ?_
        | refine T_skip ?_
        | refine T_ret ?_
        | refine E_then ?_
        | refine E_thenR ?_
        | refine TL_valg rfl (rr_extract rfl rfl) rfl rfl ?_
        | refine TL_valg rfl (rr_pickT rfl rfl) rfl rfl ?_
        | refine TL_valg rfl (rr_pickF rfl rfl) rfl rfl ?_
        | refine TL_valg rfl (rr_len Und.eq rfl) rfl rfl ?_
        | refine TL_valg rfl (rr_field FldC.fld rfl rfl) rfl rfl ?_
        | refine TL_valg rfl (rr_nilc rfl) rfl rfl ?_
        | refine TL_valg rfl (rr_eql rfl rfl (decide_eq_true (by omega))) rfl rfl ?_
        | refine TL_valg rfl (rr_eql rfl rfl (decide_eq_false (by omega))) rfl rfl ?_
        | refine TL_valg rfl (rr_neq rfl rfl (decide_eq_true (by omega))) rfl rfl ?_
        | refine TL_valg rfl (rr_neq rfl rfl (decide_eq_false (by omega))) rfl rfl ?_
        | refine TL_skip rfl rfl rfl rfl rfl rfl ?_
        | (refine TL_metg rfl rfl rfl ?_; (first | refine TL_valg rfl (rr_move rfl) rfl rfl ?_ | refine TL_valg rfl (rr_len Und.eq rfl) rfl rfl ?_ | refine TL_valg rfl (rr_field FldC.fld rfl rfl) rfl rfl ?_ | refine TL_valg rfl (rr_not rfl rfl) rfl rfl ?_ | refine TL_valg rfl (rr_neq rfl rfl (decide_eq_true (by omega))) rfl rfl ?_ | refine TL_valg rfl (rr_neq rfl rfl (decide_eq_false (by omega))) rfl rfl ?_)))
      exact E_ret1 rfl rfl fun w hm => hm.ret
    · have hOfE := fun w' hg => hOfE w' hg c1
      clear hOf
      obtain ⟨t, n, prods⟩ := g
      dsimp only at *
      generalize checkT ⟨t, n, prods⟩ tr = e at *
      generalize checkG ⟨t, n, prods⟩ = e2 at *
      refine enter (args := [graV t n vp, treeV tr.prod tr.tok (.slice bk tr.kids.length ck)]) (n := 64) Try.func9 rfl rfl rfl ?_
      refine T_seq (T_region (TL_box rfl rfl rfl fun g2 => TL_box rfl rfl rfl fun g3 => ?_))
      conv => arg 8; simp only [List.cons_append, List.nil_append, List.append_nil, List.filterMap_cons, List.filterMap_nil, List.getElem?_cons_succ, List.getElem?_cons_zero, List.set_cons_zero, List.set_cons_succ, rowS, ret, id_eq]
      repeat (first
        | refine TL_valg rfl (rr_move rfl) rfl rfl ?_
        | refine TL_valg rfl (rr_assign rfl) rfl rfl ?_
        | refine TL_nil ?_
        | refine T_seq ?_
        | refine T_region ?_
        | refine T_condT rfl ?_
        | refine T_condF rfl ?_
        | refine T_skip ?_
        | refine T_ret ?_
        | refine E_then ?_
        | refine E_thenR ?_
        | refine TL_valg rfl (rr_extract rfl rfl) rfl rfl ?_
        | refine TL_valg rfl (rr_pickT rfl rfl) rfl rfl ?_
        | refine TL_valg rfl (rr_pickF rfl rfl) rfl rfl ?_
        | refine TL_valg rfl (rr_len Und.eq rfl) rfl rfl ?_
        | refine TL_valg rfl (rr_field FldC.fld rfl rfl) rfl rfl ?_
        | refine TL_valg rfl (rr_nilc rfl) rfl rfl ?_
        | refine TL_valg rfl (rr_eql rfl rfl (decide_eq_true (by omega))) rfl rfl ?_
        | refine TL_valg rfl (rr_eql rfl rfl (decide_eq_false (by omega))) rfl rfl ?_
        | refine TL_valg rfl (rr_neq rfl rfl (decide_eq_true (by omega))) rfl rfl ?_
        | refine TL_valg rfl (rr_neq rfl rfl (decide_eq_false (by omega))) rfl rfl ?_
        | refine TL_skip rfl rfl rfl rfl rfl rfl ?_
        | (refine TL_metg rfl rfl rfl ?_; (first | refine TL_valg rfl (rr_move rfl) rfl rfl ?_ | refine TL_valg rfl (rr_len Und.eq rfl) rfl rfl ?_ | refine TL_valg rfl (rr_field FldC.fld rfl rfl) rfl rfl ?_ | refine TL_valg rfl (rr_not rfl rfl) rfl rfl ?_ | refine TL_valg rfl (rr_neq rfl rfl (decide_eq_true (by omega))) rfl rfl ?_ | refine TL_valg rfl (rr_neq rfl rfl (decide_eq_false (by omega))) rfl rfl ?_)))
      refine TL_call (he0 EntersC.en rfl) (fun w hm => brackets_calls w) rfl rfl rfl ?_
      rintro ⟨vb, F1⟩ _
      conv => arg 8; simp only [List.cons_append, List.nil_append, List.append_nil, List.filterMap_cons, List.filterMap_nil, List.getElem?_cons_succ, List.getElem?_cons_zero, List.set_cons_zero, List.set_cons_succ, rowS, ret, id_eq, gramS]
      refine TL_call (he1 EntersC.en rfl rfl) (fun w' hm => (of_calls _ brkG w' (prodsO_gra ok2 ok1 (hm.get (i := 2) rfl)) brk_makes.2 1 rfl).mono fun e w2 h => meets_of h) rfl rfl rfl ?_
      intro xb _
      rw [brk_makes.1]
      conv => arg 8; simp only [List.cons_append, List.nil_append, List.append_nil, List.filterMap_cons, List.filterMap_nil, List.getElem?_cons_succ, List.getElem?_cons_zero, List.set_cons_zero, List.set_cons_succ, rowS, ret, id_eq, Rows5.val]
      repeat (first
        | refine TL_valg rfl (rr_move rfl) rfl rfl ?_
        | refine TL_valg rfl (rr_assign rfl) rfl rfl ?_
        | refine TL_nil ?_
        | refine T_seq ?_
        | refine T_region ?_
        | refine T_condT rfl ?_
        | refine T_condF rfl ?_
        | refine T_skip ?_
        | refine T_ret ?_
        | refine E_then ?_
        | refine E_thenR ?_
        | refine TL_valg rfl (rr_extract rfl rfl) rfl rfl ?_
        | refine TL_valg rfl (rr_pickT rfl rfl) rfl rfl ?_
        | refine TL_valg rfl (rr_pickF rfl rfl) rfl rfl ?_
        | refine TL_valg rfl (rr_len Und.eq rfl) rfl rfl ?_
        | refine TL_valg rfl (rr_field FldC.fld rfl rfl) rfl rfl ?_
        | refine TL_valg rfl (rr_nilc rfl) rfl rfl ?_
        | refine TL_valg rfl (rr_eql rfl rfl (decide_eq_true (by omega))) rfl rfl ?_
        | refine TL_valg rfl (rr_eql rfl rfl (decide_eq_false (by omega))) rfl rfl ?_
        | refine TL_valg rfl (rr_neq rfl rfl (decide_eq_true (by omega))) rfl rfl ?_
        | refine TL_valg rfl (rr_neq rfl rfl (decide_eq_false (by omega))) rfl rfl ?_
        | refine TL_skip rfl rfl rfl rfl rfl rfl ?_
        | (refine TL_metg rfl rfl rfl ?_; (first | refine TL_valg rfl (rr_move rfl) rfl rfl ?_ | refine TL_valg rfl (rr_len Und.eq rfl) rfl rfl ?_ | refine TL_valg rfl (rr_field FldC.fld rfl rfl) rfl rfl ?_ | refine TL_valg rfl (rr_not rfl rfl) rfl rfl ?_ | refine TL_valg rfl (rr_neq rfl rfl (decide_eq_true (by omega))) rfl rfl ?_ | refine TL_valg rfl (rr_neq rfl rfl (decide_eq_false (by omega))) rfl rfl ?_)))
      refine TL_new rfl fun g5 => ?_
      refine TL_storeB (i := 8) rfl rfl rfl rfl rfl rfl ?_
      conv => arg 8; simp only [List.cons_append, List.nil_append, List.append_nil, List.filterMap_cons, List.filterMap_nil, List.getElem?_cons_succ, List.getElem?_cons_zero, List.set_cons_zero, List.set_cons_succ, rowS, ret, id_eq]
      repeat (first
        | refine TL_valg rfl (rr_move rfl) rfl rfl ?_
        | refine TL_valg rfl (rr_assign rfl) rfl rfl ?_
        | refine TL_nil ?_
        | refine T_seq ?_
        | refine T_region ?_
        | refine T_condT rfl ?_
        | refine T_condF rfl ?_
        | refine T_skip ?_
        | refine T_ret ?_
        | refine E_then ?_
        | refine E_thenR ?_
        | refine TL_valg rfl (rr_load1 TyC.ty rfl (at_blk (i := 8) rfl rfl)) rfl rfl ?_
        | refine TL_valg rfl (rr_load1 TyC.ty rfl (at_row (i := 7) rfl (show ([true].map Value.bool)[0 + 0]? = some (.bool true) from rfl))) rfl rfl ?_
        | refine TL_valg rfl (rr_extract rfl rfl) rfl rfl ?_
        | refine TL_valg rfl (rr_pickT rfl rfl) rfl rfl ?_
        | refine TL_valg rfl (rr_pickF rfl rfl) rfl rfl ?_
        | refine TL_valg rfl (rr_len Und.eq rfl) rfl rfl ?_
        | refine TL_valg rfl (rr_field FldC.fld rfl rfl) rfl rfl ?_
        | refine TL_valg rfl (rr_nilc rfl) rfl rfl ?_
        | refine TL_valg rfl (rr_eql rfl rfl (decide_eq_true (by omega))) rfl rfl ?_
        | refine TL_valg rfl (rr_eql rfl rfl (decide_eq_false (by omega))) rfl rfl ?_
        | refine TL_valg rfl (rr_neq rfl rfl (decide_eq_true (by omega))) rfl rfl ?_
        | refine TL_valg rfl (rr_neq rfl rfl (decide_eq_false (by omega))) rfl rfl ?_
        | refine TL_skip rfl rfl rfl rfl rfl rfl ?_
        | (refine TL_metg rfl rfl rfl ?_; (first | refine TL_valg rfl (rr_load1 TyC.ty rfl (at_blk (i := 8) rfl rfl)) rfl rfl ?_ | refine TL_valg rfl (rr_idx1 (j := 0) Und.eq TyC.ty rfl rfl (by decide)) rfl rfl ?_ | refine TL_valg rfl (rr_load1 TyC.ty rfl (at_row (i := 7) rfl (show ([true].map Value.bool)[0 + 0]? = some (.bool true) from rfl))) rfl rfl ?_ | refine TL_valg rfl (rr_move rfl) rfl rfl ?_ | refine TL_valg rfl (rr_len Und.eq rfl) rfl rfl ?_ | refine TL_valg rfl (rr_field FldC.fld rfl rfl) rfl rfl ?_ | refine TL_valg rfl (rr_not rfl rfl) rfl rfl ?_ | refine TL_valg rfl (rr_neq rfl rfl (decide_eq_true (by omega))) rfl rfl ?_ | refine TL_valg rfl (rr_neq rfl rfl (decide_eq_false (by omega))) rfl rfl ?_)))
      refine TL_pick [0, 1] (by decide) rfl ?_
      repeat (first
        | refine TL_valg rfl (rr_move rfl) rfl rfl ?_
        | refine TL_valg rfl (rr_assign rfl) rfl rfl ?_
        | refine TL_nil ?_
        | refine T_seq ?_
        | refine T_region ?_
        | refine T_condT rfl ?_
        | refine T_condF rfl ?_
        | refine T_skip ?_
        | refine T_ret ?_
        | refine E_then ?_
        | refine E_thenR ?_
        | refine TL_valg rfl (rr_loadB (i := 0) TyC.ty rfl rfl rfl) rfl rfl ?_
        | refine TL_valg rfl (rr_loadB (i := 1) TyC.ty rfl rfl rfl) rfl rfl ?_
        | refine TL_valg rfl (rr_extract rfl rfl) rfl rfl ?_
        | refine TL_valg rfl (rr_pickT rfl rfl) rfl rfl ?_
        | refine TL_valg rfl (rr_pickF rfl rfl) rfl rfl ?_
        | refine TL_valg rfl (rr_len Und.eq rfl) rfl rfl ?_
        | refine TL_valg rfl (rr_field FldC.fld rfl rfl) rfl rfl ?_
        | refine TL_valg rfl (rr_nilc rfl) rfl rfl ?_
        | refine TL_valg rfl (rr_eql rfl rfl (decide_eq_true (by omega))) rfl rfl ?_
        | refine TL_valg rfl (rr_eql rfl rfl (decide_eq_false (by omega))) rfl rfl ?_
        | refine TL_valg rfl (rr_neq rfl rfl (decide_eq_true (by omega))) rfl rfl ?_
        | refine TL_valg rfl (rr_neq rfl rfl (decide_eq_false (by omega))) rfl rfl ?_
        | refine TL_skip rfl rfl rfl rfl rfl rfl ?_
        | (refine TL_metg rfl rfl rfl ?_; (first | refine TL_valg rfl (rr_loadB (i := 0) TyC.ty rfl rfl rfl) rfl rfl ?_ | refine TL_valg rfl (rr_loadB (i := 1) TyC.ty rfl rfl rfl) rfl rfl ?_ | refine TL_valg rfl (rr_move rfl) rfl rfl ?_ | refine TL_valg rfl (rr_len Und.eq rfl) rfl rfl ?_ | refine TL_valg rfl (rr_field FldC.fld rfl rfl) rfl rfl ?_ | refine TL_valg rfl (rr_not rfl rfl) rfl rfl ?_ | refine TL_valg rfl (rr_neq rfl rfl (decide_eq_true (by omega))) rfl rfl ?_ | refine TL_valg rfl (rr_neq rfl rfl (decide_eq_false (by omega))) rfl rfl ?_)))
      refine TL_call (he2 EntersC.en rfl rfl rfl) (fun w hm => hYE _ hm.below) rfl rfl rfl ?_
      intro _ _
      conv => arg 8; simp only [List.cons_append, List.nil_append, List.append_nil, List.filterMap_cons, List.filterMap_nil, List.getElem?_cons_succ, List.getElem?_cons_zero, List.set_cons_zero, List.set_cons_succ, rowS, ret, id_eq]
      repeat (first
        | refine TL_valg rfl (rr_move rfl) rfl rfl ?_
        | refine TL_valg rfl (rr_assign rfl) rfl rfl ?_
        | refine TL_nil ?_
        | refine T_seq ?_
        | refine T_region ?_
        | refine T_condT rfl ?_
        | refine T_condF rfl ?_
        | refine T_skip ?_
        | refine T_ret ?_
        | refine E_then ?_
        | refine E_thenR ?_
        | refine TL_valg rfl (rr_loadB (i := 0) TyC.ty rfl rfl rfl) rfl rfl ?_
        | refine TL_valg rfl (rr_extract rfl rfl) rfl rfl ?_
        | refine TL_valg rfl (rr_pickT rfl rfl) rfl rfl ?_
        | refine TL_valg rfl (rr_pickF rfl rfl) rfl rfl ?_
        | refine TL_valg rfl (rr_len Und.eq rfl) rfl rfl ?_
        | refine TL_valg rfl (rr_field FldC.fld rfl rfl) rfl rfl ?_
        | refine TL_valg rfl (rr_nilc rfl) rfl rfl ?_
        | refine TL_valg rfl (rr_eql rfl rfl (decide_eq_true (by omega))) rfl rfl ?_
        | refine TL_valg rfl (rr_eql rfl rfl (decide_eq_false (by omega))) rfl rfl ?_
        | refine TL_valg rfl (rr_neq rfl rfl (decide_eq_true (by omega))) rfl rfl ?_
        | refine TL_valg rfl (rr_neq rfl rfl (decide_eq_false (by omega))) rfl rfl ?_
        | refine TL_skip rfl rfl rfl rfl rfl rfl ?_
        | (refine TL_metg rfl rfl rfl ?_; (first | refine TL_valg rfl (rr_loadB (i := 0) TyC.ty rfl rfl rfl) rfl rfl ?_ | refine TL_valg rfl (rr_move rfl) rfl rfl ?_ | refine TL_valg rfl (rr_len Und.eq rfl) rfl rfl ?_ | refine TL_valg rfl (rr_field FldC.fld rfl rfl) rfl rfl ?_ | refine TL_valg rfl (rr_not rfl rfl) rfl rfl ?_ | refine TL_valg rfl (rr_neq rfl rfl (decide_eq_true (by omega))) rfl rfl ?_ | refine TL_valg rfl (rr_neq rfl rfl (decide_eq_false (by omega))) rfl rfl ?_)))
      refine TL_call (he1 EntersC.en rfl rfl) (fun w hm => hOfE _ hm.below) rfl rfl rfl ?_
      intro _ _
      conv => arg 8; simp only [List.cons_append, List.nil_append, List.append_nil, List.filterMap_cons, List.filterMap_nil, List.getElem?_cons_succ, List.getElem?_cons_zero, List.set_cons_zero, List.set_cons_succ, rowS, ret, id_eq]
      repeat (first
        | refine TL_valg rfl (rr_move rfl) rfl rfl ?_
        | refine TL_valg rfl (rr_assign rfl) rfl rfl ?_
        | refine TL_nil ?_
        | refine T_seq ?_
        | refine T_region ?_
        | refine T_condT rfl ?_
        | refine T_condF rfl ?_
        | refine T_skip ?_
        | refine T_ret ?_
        | refine E_then ?_
        | refine E_thenR ?_
        | refine TL_valg rfl (rr_extract rfl rfl) rfl rfl ?_
        | refine TL_valg rfl (rr_pickT rfl rfl) rfl rfl ?_
        | refine TL_valg rfl (rr_pickF rfl rfl) rfl rfl ?_
        | refine TL_valg rfl (rr_len Und.eq rfl) rfl rfl ?_
        | refine TL_valg rfl (rr_field FldC.fld rfl rfl) rfl rfl ?_
        | refine TL_valg rfl (rr_nilc rfl) rfl rfl ?_
        | refine TL_valg rfl (rr_eql rfl rfl (decide_eq_true (by omega))) rfl rfl ?_
        | refine TL_valg rfl (rr_eql rfl rfl (decide_eq_false (by omega))) rfl rfl ?_
        | refine TL_valg rfl (rr_neq rfl rfl (decide_eq_true (by omega))) rfl rfl ?_
        | refine TL_valg rfl (rr_neq rfl rfl (decide_eq_false (by omega))) rfl rfl ?_
        | refine TL_skip rfl rfl rfl rfl rfl rfl ?_
        | (refine TL_metg rfl rfl rfl ?_; (first | refine TL_valg rfl (rr_move rfl) rfl rfl ?_ | refine TL_valg rfl (rr_len Und.eq rfl) rfl rfl ?_ | refine TL_valg rfl (rr_field FldC.fld rfl rfl) rfl rfl ?_ | refine TL_valg rfl (rr_not rfl rfl) rfl rfl ?_ | refine TL_valg rfl (rr_neq rfl rfl (decide_eq_true (by omega))) rfl rfl ?_ | refine TL_valg rfl (rr_neq rfl rfl (decide_eq_false (by omega))) rfl rfl ?_)))
      refine TL_new rfl fun g9 => ?_
      refine TL_storeB (i := 2) rfl rfl rfl rfl rfl rfl ?_
      conv => arg 8; simp only [List.cons_append, List.nil_append, List.append_nil, List.filterMap_cons, List.filterMap_nil, List.getElem?_cons_succ, List.getElem?_cons_zero, List.set_cons_zero, List.set_cons_succ, rowS, ret, id_eq]
      repeat (first
        | refine TL_valg rfl (rr_move rfl) rfl rfl ?_
        | refine TL_valg rfl (rr_assign rfl) rfl rfl ?_
        | refine TL_nil ?_
        | refine T_seq ?_
        | refine T_region ?_
        | refine T_condT rfl ?_
        | refine T_condF rfl ?_
        | refine T_skip ?_
        | refine T_ret ?_
        | refine E_then ?_
        | refine E_thenR ?_
        | refine TL_valg rfl (rr_extract rfl rfl) rfl rfl ?_
        | refine TL_valg rfl (rr_pickT rfl rfl) rfl rfl ?_
        | refine TL_valg rfl (rr_pickF rfl rfl) rfl rfl ?_
        | refine TL_valg rfl (rr_len Und.eq rfl) rfl rfl ?_
        | refine TL_valg rfl (rr_field FldC.fld rfl rfl) rfl rfl ?_
        | refine TL_valg rfl (rr_nilc rfl) rfl rfl ?_
        | refine TL_valg rfl (rr_eql rfl rfl (decide_eq_true (by omega))) rfl rfl ?_
        | refine TL_valg rfl (rr_eql rfl rfl (decide_eq_false (by omega))) rfl rfl ?_
        | refine TL_valg rfl (rr_neq rfl rfl (decide_eq_true (by omega))) rfl rfl ?_
        | refine TL_valg rfl (rr_neq rfl rfl (decide_eq_false (by omega))) rfl rfl ?_
        | refine TL_skip rfl rfl rfl rfl rfl rfl ?_
        | (refine TL_metg rfl rfl rfl ?_; (first | refine TL_valg rfl (rr_move rfl) rfl rfl ?_ | refine TL_valg rfl (rr_len Und.eq rfl) rfl rfl ?_ | refine TL_valg rfl (rr_field FldC.fld rfl rfl) rfl rfl ?_ | refine TL_valg rfl (rr_not rfl rfl) rfl rfl ?_ | refine TL_valg rfl (rr_neq rfl rfl (decide_eq_true (by omega))) rfl rfl ?_ | refine TL_valg rfl (rr_neq rfl rfl (decide_eq_false (by omega))) rfl rfl ?_)))
      exact E_ret1 rfl rfl fun w hm => hm.ret
end Go.Proofs.Ytnicebdkejkieaa.factsTree
