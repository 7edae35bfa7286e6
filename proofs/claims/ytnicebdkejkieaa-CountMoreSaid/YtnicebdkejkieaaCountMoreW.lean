/- The walk of CountMore. -/
import Derived.Test.YtnicebdkejkieaaCountE
import Derived.Test.YtnicebdkejkieaaCountR
import Derived.Test.YtnicebdkejkieaaFactsE
import Derived.Test.YtnicebdkejkieaaRaw
namespace Go.Proofs.Ytnicebdkejkieaa.countMore
open Go.RowKit kit mix gramL countL eng
theorem brk_0 : treesN brkG [] = 1 ∧ checkC brkG [] = 0 := by
  have hc : checkC brkG [] = 0 := by kernel_rfl
  refine ⟨?_, hc⟩
  rw [treesN_tab (n := 1) 3 rfl hc (by kernel_rfl)]
  kernel_rfl
def mkC (m : Nat) (xs : List Value) : Mk := ⟨6, 31, slN m, fun q => rowO 36 2 (slN m q) m xs⟩
def mkL (cs : List Value) : Mk := ⟨8, 33, fun g => .slice (some ⟨g, 0, none⟩) 1 1, fun g => blkO g cs.toArray 36⟩
def mkN : Mk := ⟨11, 9, fun g => .pointer (some ⟨g, 0, none⟩), fun g => blkO g #[.int .i64 0, .int .i64 0, .slice none 0 0] 24⟩
theorem slf_more {w0 w' : World} {v : Value} {l : List gramL.Prod} {p : gramL.Prod} {css : List (List Value)} {pc : List Value} (h0 : css.length = l.length) (h : ∀ i (h : i < l.length) (h' : i < css.length), prodS.is (fun k => k < w0.heap.size) w0 css[i] l[i]) (hp : prodS.is (fun k => k < w0.heap.size) w0 pc p) (hg : Gr w0 w') (hr : (rowO 36 2 v (l.length + 1) (css.flatten ++ pc)).holds w') : SlF prodS (fun k => k < w'.heap.size) w' v (l ++ [p]) := by
  have he := els_snoc (els_of h0 h hg) (prodS.stay hp fun k hk => hg.block k hk) fun k hk => Nat.lt_of_lt_of_le hk hg.size
  have hr' : (rowO 36 prodS.c v (l ++ [p]).length (css ++ [pc]).flatten).holds w' := by
    rw [List.length_append, List.flatten_append, List.flatten_cons, List.flatten_nil, List.append_nil]; exact hr
  exact (slf_of hr' he (by decide)).mono (slO_lt hr' he)
attribute [local irreducible] Instr.build in
set_option maxHeartbeats 4000000 in
theorem walk (w : World) (v : Value) (g : Gram) (h : GraR (fun k => k < w.heap.size) w v g) (hgl : g.prods.length * 32 ≤ 140737488351232) (vw : Value) (word : List Int) (hs : Sl w vw word.length (word.map (.int .i64))) (_ : ∀ n ∈ word, kit.okI64 n) (hl : word.length * 8 ≤ 140737488351232) (vq : Value) (p : gramL.Prod) (hq : ∃ cs, vq = .agg cs ∧ prodS.is (fun k => k < w.heap.size) w cs.toList p) :
    Calls Try.prog 4 #[v, vw, vq] w (Meets (ret (.bool true)) w) := by
  obtain ⟨pcs, rfl, hq⟩ := hq
  have hqlen := prodS.len hq
  have hqone := prod_one hq
  obtain ⟨pcs⟩ := pcs
  dsimp only at hq hqlen hqone
  have hT := fun w' (hg : Gr w w') => trees_calls v vw g word w' (h.gr hg) (hs.gr hg)
  have hT2 := fun v' h' w' (hg : Gr w w') hg' => trees_calls v' vw h' word w' hg' (hs.gr hg)
  have htm := fun c1 c2 => trees_more (g := g) (h := ⟨g.terms, g.nons, g.prods ++ [p]⟩) (w := word) (p := p) rfl rfl rfl c1 c2
  obtain ⟨vp, rfl, h1, o1, o2⟩ := h
  obtain ⟨t, n, prods⟩ := g
  dsimp only at *
  obtain ⟨css, r1, r2, r3⟩ := slf_raw h1 (by decide)
  have r4 : css.flatten.length = prods.length * 2 := raw_len r1 r2
  have r5 : ∀ u ∈ css.flatten, u.oneCell' = true := raw_mem r1 r2 fun cs a h => prod_one h
  have hcl := fun w' (hg : Gr w w') => cloneProd_calls vp prods.length css.flatten w' (r3.gr hg) r4 r5 (by omega)
  refine enter (args := [graV t n vp, vw, .agg ⟨pcs⟩]) (n := 59) Try.func4 rfl rfl rfl ?_
  refine T_seq (T_region (TL_box rfl rfl rfl fun g3 => TL_box rfl rfl rfl fun g5 => ?_))
  conv => arg 8; simp only [List.cons_append, List.nil_append, List.append_nil, List.filterMap_cons, List.filterMap_nil, List.getElem?_cons_succ, List.getElem?_cons_zero, List.set_cons_zero, List.set_cons_succ, rowS, ret, id_eq]
  repeat (first
    | refine TL_val (rr_move rfl) rfl rfl rfl ?_
    | refine TL_val (rr_assign rfl) rfl rfl rfl ?_
    | refine TL_nil ?_
    | refine T_seq ?_
    | refine T_region ?_
    | refine T_condT rfl ?_
    | refine T_condF rfl ?_
    | refine T_skip ?_
    | refine T_ret ?_
    | refine E_then ?_
    | refine E_thenR ?_
    | refine TL_val (rr_extract rfl rfl) rfl rfl rfl ?_
    | refine TL_val (rr_pickT rfl rfl) rfl rfl rfl ?_
    | refine TL_val (rr_pickF rfl rfl) rfl rfl rfl ?_
    | refine TL_val (rr_field FldC.fld rfl rfl) rfl rfl rfl ?_
    | refine TL_val (rr_neq rfl rfl (decide_eq_true (by omega))) rfl rfl rfl ?_
    | refine TL_val (rr_neq rfl rfl (decide_eq_false (by omega))) rfl rfl rfl ?_
    | refine TL_skip rfl rfl rfl rfl rfl rfl ?_
    | refine TL_gval (rr_move rfl) rfl rfl rfl rfl rfl ?_
    | refine TL_gval (rr_leq rfl rfl (decide_eq_true (by omega))) rfl rfl rfl rfl rfl ?_
    | refine TL_gval (rr_leq rfl rfl (decide_eq_false (by omega))) rfl rfl rfl rfl rfl ?_
    | refine TL_gval (rr_neq rfl rfl (decide_eq_true (by omega))) rfl rfl rfl rfl rfl ?_
    | refine TL_gval (rr_neq rfl rfl (decide_eq_false (by omega))) rfl rfl rfl rfl rfl ?_)
  refine TL_call (he0 EntersC.en rfl) (fun w hm => brackets_calls w) rfl rfl rfl ?_
  rintro ⟨vk, F⟩ _
  conv => arg 8; simp only [List.cons_append, List.nil_append, List.append_nil, List.filterMap_cons, List.filterMap_nil, List.getElem?_cons_succ, List.getElem?_cons_zero, List.set_cons_zero, List.set_cons_succ, rowS, ret, id_eq, gramS]
  refine TL_call (he2 EntersC.en rfl rfl rfl) (fun w hm => trees_calls _ _ brkG [] w (prodsO_gra ok2 ok1 (hm.get (i := 2) rfl)) ⟨none, 0, rfl, Nat.le_refl _, by unfold maxLen; omega, fun h => by cases h⟩) rfl rfl rfl ?_
  intro _ _
  rw [brk_0.1, brk_0.2]
  conv => arg 8; simp only [List.cons_append, List.nil_append, List.append_nil, List.filterMap_cons, List.filterMap_nil, List.getElem?_cons_succ, List.getElem?_cons_zero, List.set_cons_zero, List.set_cons_succ, rowS, ret, id_eq]
  refine TL_pick [0, 1] (by decide) rfl ?_
  repeat (first
    | refine TL_val (rr_move rfl) rfl rfl rfl ?_
    | refine TL_val (rr_assign rfl) rfl rfl rfl ?_
    | refine TL_nil ?_
    | refine T_seq ?_
    | refine T_region ?_
    | refine T_condT rfl ?_
    | refine T_condF rfl ?_
    | refine T_skip ?_
    | refine T_ret ?_
    | refine E_then ?_
    | refine E_thenR ?_
    | refine TL_val (rr_extract rfl rfl) rfl rfl rfl ?_
    | refine TL_val (rr_pickT rfl rfl) rfl rfl rfl ?_
    | refine TL_val (rr_pickF rfl rfl) rfl rfl rfl ?_
    | refine TL_val (rr_field FldC.fld rfl rfl) rfl rfl rfl ?_
    | refine TL_val (rr_neq rfl rfl (decide_eq_true (by omega))) rfl rfl rfl ?_
    | refine TL_val (rr_neq rfl rfl (decide_eq_false (by omega))) rfl rfl rfl ?_
    | refine TL_skip rfl rfl rfl rfl rfl rfl ?_
    | refine TL_gval (rr_move rfl) rfl rfl rfl rfl rfl ?_
    | refine TL_gval (rr_leq rfl rfl (decide_eq_true (by omega))) rfl rfl rfl rfl rfl ?_
    | refine TL_gval (rr_leq rfl rfl (decide_eq_false (by omega))) rfl rfl rfl rfl rfl ?_
    | refine TL_gval (rr_neq rfl rfl (decide_eq_true (by omega))) rfl rfl rfl rfl rfl ?_
    | refine TL_gval (rr_neq rfl rfl (decide_eq_false (by omega))) rfl rfl rfl rfl rfl ?_)
  (repeat refine T_seq ?_)
  refine T_midq (ι := Nat × Value) (fun _ => True) (fun (g9, _) => [(1, vw), (3, .pointer (some ⟨g3, 0, none⟩)), (9, .pointer (some ⟨g9, 0, none⟩))])
    (fun (g9, v') => [blkO g3 (graV t n vp).cells 24, rowO 36 2 v' (prods.length + 1) (css.flatten ++ pcs), blkO g9 (graV t n v').cells 24]) ?_ ?_
  rotate_left
  · rintro ⟨g9, v'⟩ _
    dsimp only
    clear hcl
    repeat (first
      | refine TL_val (rr_move rfl) rfl rfl rfl ?_
      | refine TL_val (rr_assign rfl) rfl rfl rfl ?_
      | refine TL_nil ?_
      | refine T_seq ?_
      | refine T_region ?_
      | refine T_condT rfl ?_
      | refine T_condF rfl ?_
      | refine T_skip ?_
      | refine T_ret ?_
      | refine E_then ?_
      | refine E_thenR ?_
      | refine TL_val (rr_loadB (i := 0) TyC.ty rfl rfl rfl) rfl rfl rfl ?_
      | refine TL_val (rr_extract rfl rfl) rfl rfl rfl ?_
      | refine TL_val (rr_pickT rfl rfl) rfl rfl rfl ?_
      | refine TL_val (rr_pickF rfl rfl) rfl rfl rfl ?_
      | refine TL_val (rr_field FldC.fld rfl rfl) rfl rfl rfl ?_
      | refine TL_val (rr_neq rfl rfl (decide_eq_true (by omega))) rfl rfl rfl ?_
      | refine TL_val (rr_neq rfl rfl (decide_eq_false (by omega))) rfl rfl rfl ?_
      | refine TL_skip rfl rfl rfl rfl rfl rfl ?_
      | refine TL_gval (rr_move rfl) rfl rfl rfl rfl rfl ?_
      | refine TL_gval (rr_leq rfl rfl (decide_eq_true (by omega))) rfl rfl rfl rfl rfl ?_
      | refine TL_gval (rr_leq rfl rfl (decide_eq_false (by omega))) rfl rfl rfl rfl rfl ?_
      | refine TL_gval (rr_neq rfl rfl (decide_eq_true (by omega))) rfl rfl rfl rfl rfl ?_
      | refine TL_gval (rr_neq rfl rfl (decide_eq_false (by omega))) rfl rfl rfl rfl rfl ?_)
    refine TL_call (he2 EntersC.en rfl rfl rfl) (fun w hm => hT _ hm.below) rfl rfl rfl ?_
    intro _ _
    conv => arg 8; simp only [List.cons_append, List.nil_append, List.append_nil, List.filterMap_cons, List.filterMap_nil, List.getElem?_cons_succ, List.getElem?_cons_zero, List.set_cons_zero, List.set_cons_succ, rowS, ret, id_eq]
    repeat (first
      | refine TL_val (rr_move rfl) rfl rfl rfl ?_
      | refine TL_val (rr_assign rfl) rfl rfl rfl ?_
      | refine TL_nil ?_
      | refine T_seq ?_
      | refine T_region ?_
      | refine T_condT rfl ?_
      | refine T_condF rfl ?_
      | refine T_skip ?_
      | refine T_ret ?_
      | refine E_then ?_
      | refine E_thenR ?_
      | refine TL_val (rr_loadB (i := 2) TyC.ty rfl rfl rfl) rfl rfl rfl ?_
      | refine TL_val (rr_extract rfl rfl) rfl rfl rfl ?_
      | refine TL_val (rr_pickT rfl rfl) rfl rfl rfl ?_
      | refine TL_val (rr_pickF rfl rfl) rfl rfl rfl ?_
      | refine TL_val (rr_field FldC.fld rfl rfl) rfl rfl rfl ?_
      | refine TL_val (rr_neq rfl rfl (decide_eq_true (by omega))) rfl rfl rfl ?_
      | refine TL_val (rr_neq rfl rfl (decide_eq_false (by omega))) rfl rfl rfl ?_
      | refine TL_skip rfl rfl rfl rfl rfl rfl ?_
      | refine TL_gval (rr_move rfl) rfl rfl rfl rfl rfl ?_
      | refine TL_gval (rr_leq rfl rfl (decide_eq_true (by omega))) rfl rfl rfl rfl rfl ?_
      | refine TL_gval (rr_leq rfl rfl (decide_eq_false (by omega))) rfl rfl rfl rfl rfl ?_
      | refine TL_gval (rr_neq rfl rfl (decide_eq_true (by omega))) rfl rfl rfl rfl rfl ?_
      | refine TL_gval (rr_neq rfl rfl (decide_eq_false (by omega))) rfl rfl rfl rfl rfl ?_)
    refine TL_call (he2 EntersC.en rfl rfl rfl) (fun w hm => hT2 (graV t n v') ⟨t, n, prods ++ [p]⟩ w hm.below ⟨v', rfl, slf_more r1 r2 hq hm.below (hm.get (i := 1) rfl), o1, o2⟩) rfl rfl rfl ?_
    intro _ _
    conv => arg 8; simp only [List.cons_append, List.nil_append, List.append_nil, List.filterMap_cons, List.filterMap_nil, List.getElem?_cons_succ, List.getElem?_cons_zero, List.set_cons_zero, List.set_cons_succ, rowS, ret, id_eq]
    clear hT hT2
    generalize checkC ⟨t, n, prods⟩ word = e1 at *
    generalize checkC ⟨t, n, prods ++ [p]⟩ word = e2 at *
    generalize treesN ⟨t, n, prods⟩ word = k1 at *
    generalize treesN ⟨t, n, prods ++ [p]⟩ word = k2 at *
    by_cases c1 : e1 = 0
    · by_cases c2 : e2 = 0
      · have := htm c1 c2
        repeat (first
          | refine TL_val (rr_move rfl) rfl rfl rfl ?_
          | refine TL_val (rr_assign rfl) rfl rfl rfl ?_
          | refine TL_nil ?_
          | refine T_seq ?_
          | refine T_region ?_
          | refine T_condT rfl ?_
          | refine T_condF rfl ?_
          | refine T_skip ?_
          | refine T_ret ?_
          | refine E_then ?_
          | refine E_thenR ?_
          | refine TL_val (rr_extract rfl rfl) rfl rfl rfl ?_
          | refine TL_val (rr_pickT rfl rfl) rfl rfl rfl ?_
          | refine TL_val (rr_pickF rfl rfl) rfl rfl rfl ?_
          | refine TL_val (rr_field FldC.fld rfl rfl) rfl rfl rfl ?_
          | refine TL_val (rr_neq rfl rfl (decide_eq_true (by omega))) rfl rfl rfl ?_
          | refine TL_val (rr_neq rfl rfl (decide_eq_false (by omega))) rfl rfl rfl ?_
          | refine TL_skip rfl rfl rfl rfl rfl rfl ?_
          | refine TL_gval (rr_move rfl) rfl rfl rfl rfl rfl ?_
          | refine TL_gval (rr_leq rfl rfl (decide_eq_true (by omega))) rfl rfl rfl rfl rfl ?_
          | refine TL_gval (rr_leq rfl rfl (decide_eq_false (by omega))) rfl rfl rfl rfl rfl ?_
          | refine TL_gval (rr_neq rfl rfl (decide_eq_true (by omega))) rfl rfl rfl rfl rfl ?_
          | refine TL_gval (rr_neq rfl rfl (decide_eq_false (by omega))) rfl rfl rfl rfl rfl ?_)
        exact E_ret1 rfl rfl fun w hm => hm.ret
      · repeat (first
          | refine TL_val (rr_move rfl) rfl rfl rfl ?_
          | refine TL_val (rr_assign rfl) rfl rfl rfl ?_
          | refine TL_nil ?_
          | refine T_seq ?_
          | refine T_region ?_
          | refine T_condT rfl ?_
          | refine T_condF rfl ?_
          | refine T_skip ?_
          | refine T_ret ?_
          | refine E_then ?_
          | refine E_thenR ?_
          | refine TL_val (rr_extract rfl rfl) rfl rfl rfl ?_
          | refine TL_val (rr_pickT rfl rfl) rfl rfl rfl ?_
          | refine TL_val (rr_pickF rfl rfl) rfl rfl rfl ?_
          | refine TL_val (rr_field FldC.fld rfl rfl) rfl rfl rfl ?_
          | refine TL_val (rr_neq rfl rfl (decide_eq_true (by omega))) rfl rfl rfl ?_
          | refine TL_val (rr_neq rfl rfl (decide_eq_false (by omega))) rfl rfl rfl ?_
          | refine TL_skip rfl rfl rfl rfl rfl rfl ?_
          | refine TL_gval (rr_move rfl) rfl rfl rfl rfl rfl ?_
          | refine TL_gval (rr_leq rfl rfl (decide_eq_true (by omega))) rfl rfl rfl rfl rfl ?_
          | refine TL_gval (rr_leq rfl rfl (decide_eq_false (by omega))) rfl rfl rfl rfl rfl ?_
          | refine TL_gval (rr_neq rfl rfl (decide_eq_true (by omega))) rfl rfl rfl rfl rfl ?_
          | refine TL_gval (rr_neq rfl rfl (decide_eq_false (by omega))) rfl rfl rfl rfl rfl ?_)
        exact E_ret1 rfl rfl fun w hm => hm.ret
    · repeat (first
        | refine TL_val (rr_move rfl) rfl rfl rfl ?_
        | refine TL_val (rr_assign rfl) rfl rfl rfl ?_
        | refine TL_nil ?_
        | refine T_seq ?_
        | refine T_region ?_
        | refine T_condT rfl ?_
        | refine T_condF rfl ?_
        | refine T_skip ?_
        | refine T_ret ?_
        | refine E_then ?_
        | refine E_thenR ?_
        | refine TL_val (rr_extract rfl rfl) rfl rfl rfl ?_
        | refine TL_val (rr_pickT rfl rfl) rfl rfl rfl ?_
        | refine TL_val (rr_pickF rfl rfl) rfl rfl rfl ?_
        | refine TL_val (rr_field FldC.fld rfl rfl) rfl rfl rfl ?_
        | refine TL_val (rr_neq rfl rfl (decide_eq_true (by omega))) rfl rfl rfl ?_
        | refine TL_val (rr_neq rfl rfl (decide_eq_false (by omega))) rfl rfl rfl ?_
        | refine TL_skip rfl rfl rfl rfl rfl rfl ?_
        | refine TL_gval (rr_move rfl) rfl rfl rfl rfl rfl ?_
        | refine TL_gval (rr_leq rfl rfl (decide_eq_true (by omega))) rfl rfl rfl rfl rfl ?_
        | refine TL_gval (rr_leq rfl rfl (decide_eq_false (by omega))) rfl rfl rfl rfl rfl ?_
        | refine TL_gval (rr_neq rfl rfl (decide_eq_true (by omega))) rfl rfl rfl rfl rfl ?_
        | refine TL_gval (rr_neq rfl rfl (decide_eq_false (by omega))) rfl rfl rfl rfl rfl ?_)
      exact E_ret1 rfl rfl fun w hm => hm.ret
  refine T_ordX [blkO g3 (graV t n vp).cells 24, blkO g5 ⟨pcs⟩ 36] (fun _ h => h) (by kernel_rfl) (by kernel_rfl) (by intro c a d v w h; cases d <;> exact h) ?_
  refine TX_val 0 (by kernel_rfl) rfl (rr_field FldC.fld rfl rfl) rfl rfl rfl ?_
  refine TX_val 1 (by kernel_rfl) rfl (rr_load1 TyC.ty rfl (at_blk (i := 0) rfl rfl)) rfl rfl rfl ?_
  refine TX_val 2 (by kernel_rfl) rfl (rr_field FldC.fld rfl rfl) rfl rfl rfl ?_
  refine TX_val 3 (by kernel_rfl) rfl (rr_load1 TyC.ty rfl (at_blk (i := 0) rfl rfl)) rfl rfl rfl ?_
  refine TX_val 4 (by kernel_rfl) rfl (rr_field FldC.fld rfl rfl) rfl rfl rfl ?_
  refine TX_val 5 (by kernel_rfl) rfl (rr_load1 TyC.ty rfl (at_blk (i := 0) rfl rfl)) rfl rfl rfl ?_
  refine TX_val 7 (by kernel_rfl) rfl (rr_loadB (i := 1) TyC.ty rfl rfl hqlen) rfl rfl rfl ?_
  refine TX_many2 [mkC prods.length css.flatten, mkL pcs, mkN] (fun m => !Nat.beq m.i 11) 3 (by kernel_rfl) (by kernel_rfl) ?_ (fun q => ?_) fun q => ?_
  · intro m hm
    simp only [List.mem_cons, List.not_mem_nil, or_false] at hm
    rcases hm with rfl | rfl | rfl
    · exact makes_row rfl (fun fr' hfr => he1 EntersC.en rfl (ev_mono hfr rfl)) (fun L w' hm => hcl w' hm.below) rfl rfl rfl
    · exact makes_one rfl rfl rfl hqlen rfl rfl
    · exact makes_new rfl rfl
  · simp only [mkC, mkL, mkN, List.map_cons, List.map_nil]
    generalize q 8 = g8
    generalize q 11 = g9
    generalize hvc : slN prods.length (q 6) = vc
    clear q hvc
    conv => arg 8; simp only [List.cons_append, List.nil_append, List.append_nil, List.filterMap_cons, List.filterMap_nil, List.getElem?_cons_succ, List.getElem?_cons_zero, List.set_cons_zero, List.set_cons_succ, rowS, ret, id_eq]
    refine TX_tree (.one 9 (.calm 10 (.one 12 .done))) (by kernel_rfl) rfl ?_
    refine TW_one rfl ?_
    refine TL_app1 (i := 2) (q := 3) rfl rfl rfl rfl hqlen (List.all_eq_true.2 hqone) (by omega) (by omega) rfl fun v' => ?_
    refine TL_rowv (i := 2) rfl fun b2 c2 hv e1 e2 => ?_
    subst hv
    refine TW_on (sub_pick [0, 1] (by decide) rfl) ?_
    repeat (first
      | refine TW_val rfl (rr_move rfl) rfl rfl rfl ?_
      | refine TW_val rfl (rr_assign rfl) rfl rfl rfl ?_
      | refine TW_val rfl (rr_build rfl (build_gra3 _ _ _ _ _)) rfl rfl rfl ?_
      | refine TW_val rfl (rr_extract rfl rfl) rfl rfl rfl ?_
      | refine TW_val rfl (rr_pickT rfl rfl) rfl rfl rfl ?_
      | refine TW_val rfl (rr_pickF rfl rfl) rfl rfl rfl ?_
      | refine TW_val rfl (rr_field FldC.fld rfl rfl) rfl rfl rfl ?_
      | refine TW_val rfl (rr_neq rfl rfl (decide_eq_true (by omega))) rfl rfl rfl ?_
      | refine TW_val rfl (rr_neq rfl rfl (decide_eq_false (by omega))) rfl rfl rfl ?_
      | refine TW_skip rfl rfl rfl rfl rfl rfl rfl ?_
      | refine TW_gval rfl (rr_move rfl) rfl rfl rfl rfl rfl ?_
      | refine TW_gval rfl (rr_leq rfl rfl (decide_eq_true (by omega))) rfl rfl rfl rfl rfl ?_
      | refine TW_gval rfl (rr_leq rfl rfl (decide_eq_false (by omega))) rfl rfl rfl rfl rfl ?_
      | refine TW_gval rfl (rr_neq rfl rfl (decide_eq_true (by omega))) rfl rfl rfl rfl rfl ?_
      | refine TW_gval rfl (rr_neq rfl rfl (decide_eq_false (by omega))) rfl rfl rfl rfl rfl ?_
      | refine TW_done ?_)
    refine TW_one rfl ?_
    refine TL_storeB (i := 4) rfl rfl rfl rfl rfl rfl ?_
    refine TW_on (sub_pick [0, 1] (by decide) rfl) ?_
    repeat (first
      | refine TW_val rfl (rr_move rfl) rfl rfl rfl ?_
      | refine TW_val rfl (rr_assign rfl) rfl rfl rfl ?_
      | refine TW_val rfl (rr_extract rfl rfl) rfl rfl rfl ?_
      | refine TW_val rfl (rr_pickT rfl rfl) rfl rfl rfl ?_
      | refine TW_val rfl (rr_pickF rfl rfl) rfl rfl rfl ?_
      | refine TW_val rfl (rr_field FldC.fld rfl rfl) rfl rfl rfl ?_
      | refine TW_val rfl (rr_neq rfl rfl (decide_eq_true (by omega))) rfl rfl rfl ?_
      | refine TW_val rfl (rr_neq rfl rfl (decide_eq_false (by omega))) rfl rfl rfl ?_
      | refine TW_skip rfl rfl rfl rfl rfl rfl rfl ?_
      | refine TW_gval rfl (rr_move rfl) rfl rfl rfl rfl rfl ?_
      | refine TW_gval rfl (rr_leq rfl rfl (decide_eq_true (by omega))) rfl rfl rfl rfl rfl ?_
      | refine TW_gval rfl (rr_leq rfl rfl (decide_eq_false (by omega))) rfl rfl rfl rfl rfl ?_
      | refine TW_gval rfl (rr_neq rfl rfl (decide_eq_true (by omega))) rfl rfl rfl rfl rfl ?_
      | refine TW_gval rfl (rr_neq rfl rfl (decide_eq_false (by omega))) rfl rfl rfl rfl rfl ?_
      | refine TW_done ?_)
    refine E_pick [0, 2, 4] (by decide) rfl ?_
    exact E_mid (g9, .slice b2 (prods.length + 1) c2) trivial (by repeat' (first | exact True.intro | refine And.intro rfl ?_)) rfl
  · rw [show List.filter (fun m : Mk => !Nat.beq m.i 11) [mkC prods.length css.flatten, mkL pcs, mkN] = [mkC prods.length css.flatten, mkL pcs] from rfl]
    simp only [mkC, mkL, List.map_cons, List.map_nil]
    generalize q 8 = g8
    generalize hvc : slN prods.length (q 6) = vc
    clear q hvc
    refine TX_tree (.two 9 (.calm 10 (.one 11 (.one 12 .done))) 11 (.one 9 (.calm 10 (.one 12 .done)))) (by kernel_rfl) (by kernel_rfl) ?_
    refine TW_two rfl rfl ?_ ?_
    · refine TL_app1 (i := 2) (q := 3) rfl rfl rfl rfl hqlen (List.all_eq_true.2 hqone) (by omega) (by omega) rfl fun v' => ?_
      refine TL_rowv (i := 2) rfl fun b2 c2 hv e1 e2 => ?_
      subst hv
      refine TW_on (sub_pick [0, 1] (by decide) rfl) ?_
      repeat (first
        | refine TW_val rfl (rr_move rfl) rfl rfl rfl ?_
        | refine TW_val rfl (rr_assign rfl) rfl rfl rfl ?_
        | refine TW_val rfl (rr_build rfl (build_gra3 _ _ _ _ _)) rfl rfl rfl ?_
        | refine TW_val rfl (rr_extract rfl rfl) rfl rfl rfl ?_
        | refine TW_val rfl (rr_pickT rfl rfl) rfl rfl rfl ?_
        | refine TW_val rfl (rr_pickF rfl rfl) rfl rfl rfl ?_
        | refine TW_val rfl (rr_field FldC.fld rfl rfl) rfl rfl rfl ?_
        | refine TW_val rfl (rr_neq rfl rfl (decide_eq_true (by omega))) rfl rfl rfl ?_
        | refine TW_val rfl (rr_neq rfl rfl (decide_eq_false (by omega))) rfl rfl rfl ?_
        | refine TW_skip rfl rfl rfl rfl rfl rfl rfl ?_
        | refine TW_gval rfl (rr_move rfl) rfl rfl rfl rfl rfl ?_
        | refine TW_gval rfl (rr_leq rfl rfl (decide_eq_true (by omega))) rfl rfl rfl rfl rfl ?_
        | refine TW_gval rfl (rr_leq rfl rfl (decide_eq_false (by omega))) rfl rfl rfl rfl rfl ?_
        | refine TW_gval rfl (rr_neq rfl rfl (decide_eq_true (by omega))) rfl rfl rfl rfl rfl ?_
        | refine TW_gval rfl (rr_neq rfl rfl (decide_eq_false (by omega))) rfl rfl rfl rfl rfl ?_
        | refine TW_done ?_)
      refine TW_one rfl ?_
      refine TL_new rfl fun g9 => ?_
      refine TW_on (sub_pick [0, 1] (by decide) rfl) ?_
      refine TW_one rfl ?_
      refine TL_storeB (i := 4) rfl rfl rfl rfl rfl rfl ?_
      refine TW_on (sub_pick [0, 1] (by decide) rfl) ?_
      repeat (first
        | refine TW_val rfl (rr_move rfl) rfl rfl rfl ?_
        | refine TW_val rfl (rr_assign rfl) rfl rfl rfl ?_
        | refine TW_val rfl (rr_extract rfl rfl) rfl rfl rfl ?_
        | refine TW_val rfl (rr_pickT rfl rfl) rfl rfl rfl ?_
        | refine TW_val rfl (rr_pickF rfl rfl) rfl rfl rfl ?_
        | refine TW_val rfl (rr_field FldC.fld rfl rfl) rfl rfl rfl ?_
        | refine TW_val rfl (rr_neq rfl rfl (decide_eq_true (by omega))) rfl rfl rfl ?_
        | refine TW_val rfl (rr_neq rfl rfl (decide_eq_false (by omega))) rfl rfl rfl ?_
        | refine TW_skip rfl rfl rfl rfl rfl rfl rfl ?_
        | refine TW_gval rfl (rr_move rfl) rfl rfl rfl rfl rfl ?_
        | refine TW_gval rfl (rr_leq rfl rfl (decide_eq_true (by omega))) rfl rfl rfl rfl rfl ?_
        | refine TW_gval rfl (rr_leq rfl rfl (decide_eq_false (by omega))) rfl rfl rfl rfl rfl ?_
        | refine TW_gval rfl (rr_neq rfl rfl (decide_eq_true (by omega))) rfl rfl rfl rfl rfl ?_
        | refine TW_gval rfl (rr_neq rfl rfl (decide_eq_false (by omega))) rfl rfl rfl rfl rfl ?_
        | refine TW_done ?_)
      refine E_pick [0, 2, 4] (by decide) rfl ?_
      exact E_mid (g9, .slice b2 (prods.length + 1) c2) trivial (by repeat' (first | exact True.intro | refine And.intro rfl ?_)) rfl
    · refine TL_new rfl fun g9 => ?_
      refine TW_on (sub_pick [0, 1] (by decide) rfl) ?_
      refine TW_one rfl ?_
      refine TL_app1 (i := 2) (q := 3) rfl rfl rfl rfl hqlen (List.all_eq_true.2 hqone) (by omega) (by omega) rfl fun v' => ?_
      refine TL_rowv (i := 2) rfl fun b2 c2 hv e1 e2 => ?_
      subst hv
      refine TW_on (sub_pick [0, 1] (by decide) rfl) ?_
      repeat (first
        | refine TW_val rfl (rr_move rfl) rfl rfl rfl ?_
        | refine TW_val rfl (rr_assign rfl) rfl rfl rfl ?_
        | refine TW_val rfl (rr_build rfl (build_gra3 _ _ _ _ _)) rfl rfl rfl ?_
        | refine TW_val rfl (rr_extract rfl rfl) rfl rfl rfl ?_
        | refine TW_val rfl (rr_pickT rfl rfl) rfl rfl rfl ?_
        | refine TW_val rfl (rr_pickF rfl rfl) rfl rfl rfl ?_
        | refine TW_val rfl (rr_field FldC.fld rfl rfl) rfl rfl rfl ?_
        | refine TW_val rfl (rr_neq rfl rfl (decide_eq_true (by omega))) rfl rfl rfl ?_
        | refine TW_val rfl (rr_neq rfl rfl (decide_eq_false (by omega))) rfl rfl rfl ?_
        | refine TW_skip rfl rfl rfl rfl rfl rfl rfl ?_
        | refine TW_gval rfl (rr_move rfl) rfl rfl rfl rfl rfl ?_
        | refine TW_gval rfl (rr_leq rfl rfl (decide_eq_true (by omega))) rfl rfl rfl rfl rfl ?_
        | refine TW_gval rfl (rr_leq rfl rfl (decide_eq_false (by omega))) rfl rfl rfl rfl rfl ?_
        | refine TW_gval rfl (rr_neq rfl rfl (decide_eq_true (by omega))) rfl rfl rfl rfl rfl ?_
        | refine TW_gval rfl (rr_neq rfl rfl (decide_eq_false (by omega))) rfl rfl rfl rfl rfl ?_
        | refine TW_done ?_)
      refine TW_one rfl ?_
      refine TL_storeB (i := 4) rfl rfl rfl rfl rfl rfl ?_
      refine TW_on (sub_pick [0, 1] (by decide) rfl) ?_
      repeat (first
        | refine TW_val rfl (rr_move rfl) rfl rfl rfl ?_
        | refine TW_val rfl (rr_assign rfl) rfl rfl rfl ?_
        | refine TW_val rfl (rr_extract rfl rfl) rfl rfl rfl ?_
        | refine TW_val rfl (rr_pickT rfl rfl) rfl rfl rfl ?_
        | refine TW_val rfl (rr_pickF rfl rfl) rfl rfl rfl ?_
        | refine TW_val rfl (rr_field FldC.fld rfl rfl) rfl rfl rfl ?_
        | refine TW_val rfl (rr_neq rfl rfl (decide_eq_true (by omega))) rfl rfl rfl ?_
        | refine TW_val rfl (rr_neq rfl rfl (decide_eq_false (by omega))) rfl rfl rfl ?_
        | refine TW_skip rfl rfl rfl rfl rfl rfl rfl ?_
        | refine TW_gval rfl (rr_move rfl) rfl rfl rfl rfl rfl ?_
        | refine TW_gval rfl (rr_leq rfl rfl (decide_eq_true (by omega))) rfl rfl rfl rfl rfl ?_
        | refine TW_gval rfl (rr_leq rfl rfl (decide_eq_false (by omega))) rfl rfl rfl rfl rfl ?_
        | refine TW_gval rfl (rr_neq rfl rfl (decide_eq_true (by omega))) rfl rfl rfl rfl rfl ?_
        | refine TW_gval rfl (rr_neq rfl rfl (decide_eq_false (by omega))) rfl rfl rfl rfl rfl ?_
        | refine TW_done ?_)
      refine E_pick [0, 2, 4] (by decide) rfl ?_
      exact E_mid (g9, .slice b2 (prods.length + 1) c2) trivial (by repeat' (first | exact True.intro | refine And.intro rfl ?_)) rfl
end Go.Proofs.Ytnicebdkejkieaa.countMore
