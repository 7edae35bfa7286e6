/- What trees.Down, Up compute (the calls). -/
import Derived.Test.YtnicebdkejkieaaEvT
namespace Go.Proofs.Ytnicebdkejkieaa.eng
open Go.RowKit kit mix gramL treeL
theorem downE_len (l : List gramL.Prod) (t : Tree) : (downE l t).length ≤ (acts l t).length := by
  unfold downE; simp
set_option maxHeartbeats 4000000 in
theorem down_calls (v vt : Value) (g : Gram) (tr : Tree) (w : World) (h : GraR (fun k => k < w.heap.size) w v g) (ht : TreeR (fun k => k < w.heap.size) w vt tr) (hc : checkT g tr = 0) :
    Calls Try.prog 42 #[v, vt] w (Meets (eS (downE g.prods tr)) w) := by
  have hck := fun w' (hg : Gr w w') => treeCheck_calls v vt g tr w' (h.gr hg) (ht.gr hg)
  rw [hc] at hck
  obtain ⟨c1, c2, c3, c4⟩ := checkT_iff.1 hc
  obtain ⟨vp, rfl, h1, _⟩ := h
  have ht0 := ht
  obtain ⟨vk, rfl, _, _, hk4⟩ := ht
  obtain ⟨bk, ck, rfl, _⟩ := hk4
  obtain ⟨t, n, prods⟩ := g
  dsimp only at *
  have hea := fun g7 g8 ga gb w' B ho hm => each5_calls w t n vp prods h1 (eO1 g7) eO2 (blkO g8 #[.func (.func 75) #[] #[.pointer (some ⟨g7, 0, none⟩)]] 120) (blkO ga #[.int .i64 1] 3) (blkO gb #[.int .i64 3] 3) stepD List.length 76 76 77 #[] #[.pointer (some ⟨g7, 0, none⟩), .pointer (some ⟨ga, 0, none⟩)] #[] #[.pointer (some ⟨g7, 0, none⟩), .pointer (some ⟨gb, 0, none⟩)] #[] #[.pointer (some ⟨g8, 0, none⟩)] EntersC.en EntersC.en EntersC.en
    (fun s z p w B hs hm => putDown_calls g7 ga 1 p s z w B _ _ _ 3 (fun _ _ => rfl) hs hm) (fun s z p w B hs hm => putDown_calls g7 gb 3 p s z w B _ _ _ 4 (fun _ _ => rfl) hs hm) (fun s z p q w B hs hm => leafDown_calls g7 g8 p q s z w B _ _ hs hm)
    (fun s x => by simp [stepD]) (size tr) tr (Nat.le_refl _) (treeV tr.prod tr.tok (.slice bk tr.kids.length ck)) (2, 0) 0 [] (.slice none 0 0) w' B ht0 c2 (right_prod c2) (by have := acts_le prods tr; simp only [List.length_nil]; omega) ho hm
  rw [foldD] at hea
  refine enter (args := [graV t n vp, treeV tr.prod tr.tok (.slice bk tr.kids.length ck)]) (n := 25) Try.func42 rfl rfl rfl ?_
  refine T_seq (T_region (TL_box rfl rfl rfl fun g2 => TL_box rfl rfl rfl fun g3 => ?_))
  conv => arg 8; simp only [zA, zB, zC, zD, zE, zF, zG, zH, zI, rowS, ret, id_eq]
  repeat (first
    | refine qv rfl (qp rfl) rfl rfl ?_ | refine TL_nil ?_ | refine T_seq ?_ | refine T_region ?_ | refine qcT rfl ?_ | refine qcF rfl ?_ | refine T_skip ?_
    | refine T_ret ?_ | refine E_then ?_ | refine E_thenR ?_ | refine qv rfl (rr_loadB (i := 0) TyC.ty rfl rfl rfl) rfl rfl ?_
    | refine qv rfl (rr_loadB (i := 1) TyC.ty rfl rfl rfl) rfl rfl ?_ | refine qv rfl (rr_neq rfl rfl (qT (by omega))) rfl rfl ?_
    | refine qv rfl (rr_neq rfl rfl (qF (by omega))) rfl rfl ?_)
  refine TL_call (he2 EntersC.en rfl rfl rfl) (fun w hm => hck _ hm.below) rfl rfl rfl ?_
  intro _ _
  conv => arg 8; simp only [zA, zB, zC, zD, zE, zF, zG, zH, zI, rowS, ret, id_eq]
  repeat (first
    | refine qv rfl (qp rfl) rfl rfl ?_ | refine TL_nil ?_ | refine T_seq ?_ | refine T_region ?_ | refine qcT rfl ?_ | refine qcF rfl ?_ | refine T_skip ?_
    | refine T_ret ?_ | refine E_then ?_ | refine E_thenR ?_ | refine qv rfl (rr_neq rfl rfl (qT (by omega))) rfl rfl ?_
    | refine qv rfl (rr_neq rfl rfl (qF (by omega))) rfl rfl ?_)
  refine TL_new rfl fun g7 => ?_
  conv => arg 8; simp only [zA, zB, zC, zD, zE, zF, zG, zH, zI, rowS, ret, id_eq]
  repeat (first
    | refine qv rfl (qp rfl) rfl rfl ?_ | refine TL_nil ?_ | refine T_seq ?_ | refine T_region ?_ | refine qcT rfl ?_ | refine qcF rfl ?_ | refine T_skip ?_
    | refine T_ret ?_ | refine E_then ?_ | refine E_thenR ?_ | refine qv rfl (rr_func rfl rfl) rfl rfl ?_
    | refine qv rfl (rr_neq rfl rfl (qT (by omega))) rfl rfl ?_ | refine qv rfl (rr_neq rfl rfl (qF (by omega))) rfl rfl ?_)
  refine TL_new rfl fun g8 => ?_
  refine TL_store1 (i := 3) rfl rfl rfl rfl rfl rfl ?_
  conv => arg 8; simp only [zA, zB, zC, zD, zE, zF, zG, zH, zI, rowS, ret, id_eq]
  repeat (first
    | refine qv rfl (qp rfl) rfl rfl ?_ | refine TL_nil ?_ | refine E_then ?_ | refine qv rfl (rr_neq rfl rfl (qT (by omega))) rfl rfl ?_
    | refine qv rfl (rr_neq rfl rfl (qF (by omega))) rfl rfl ?_)
  (repeat refine T_seq ?_)
  refine T_nil 78 2 ?_
  conv => arg 7; simp only [zA, zB, zC, zD, zE, zF, zG, zH, zI, rowS, ret, id_eq]
  refine T_ord ([blkO g2 (graV t n vp).cells 24, blkO g3 (treeV tr.prod tr.tok (.slice bk tr.kids.length ck)).cells 46, blkO g8 #[.func (.func 75) #[] #[.pointer (some ⟨g7, 0, none⟩)]] 120]) (.calm 0 (.calm 1 (.calm 2 (.calm 4 (.calm 6 (.one 3 (.one 5 (.one 7 (.done))))))))) (sub_pick [0, 1, 3] (by decide) rfl) (by kernel_rfl) (by kernel_rfl) (by intro c a d v w h; cases d <;> exact h) ?_
  repeat (first
    | ((first | refine TW_plain rfl rfl ?_ | refine TW_gmet rfl rfl rfl rfl ?_); first | refine TN_val (qp rfl) rfl rfl ?_ | refine TN_val (rr_loadB (i := 0) TyC.ty rfl rfl rfl) rfl rfl ?_ | refine TN_val (rr_loadB (i := 1) TyC.ty rfl rfl rfl) rfl rfl ?_ | refine TN_val (rr_load1 TyC.ty rfl (at_blk (i := 2) rfl rfl)) rfl rfl ?_ | refine TN_val (rr_func rfl rfl) rfl rfl ?_ | refine TN_val (rr_neq rfl rfl (qT (by omega))) rfl rfl ?_ | refine TN_val (rr_neq rfl rfl (qF (by omega))) rfl rfl ?_)
    | refine TW_done ?_)
  refine TW_one rfl ?_
  refine TL_call (he1c EntersC.en rfl rfl) (fun w hm => kindDown_calls g7 1 w) rfl rfl rfl ?_
  intro ga _
  conv => arg 8; simp only [zA, zB, zC, zD, zE, zF, zG, zH, zI, rowS, ret, id_eq]
  refine TW_on (sub_pick [0, 1, 3] (by decide) rfl) ?_
  refine TW_one rfl ?_
  refine TL_call (he1c EntersC.en rfl rfl) (fun w hm => kindDown_calls g7 3 w) rfl rfl rfl ?_
  intro gb _
  conv => arg 8; simp only [zA, zB, zC, zD, zE, zF, zG, zH, zI, rowS, ret, id_eq]
  refine TW_on (sub_pick [0, 1, 3] (by decide) rfl) ?_
  refine TW_one rfl ?_
  refine TL_callB [2, 4, 3, 5, 6] [0, 1] (by decide) rfl rfl (he5 EntersC.en rfl rfl rfl rfl rfl rfl) (fun w' hm hb => hea g7 g8 ga gb w' _ ((Old.self w).on hm fun o h => pick_mem2 h) hb) rfl rfl rfl ?_
  intro z _
  conv => arg 8; simp only [zA, zB, zC, zD, zE, zF, zG, zH, zI, rowS, ret, id_eq]
  refine TW_on (sub_pick [0, 1, 4] (by decide) rfl) ?_
  repeat (first
    | ((first | refine TW_plain rfl rfl ?_ | refine TW_gmet rfl rfl rfl rfl ?_); first | refine TN_val (qp rfl) rfl rfl ?_ | refine TN_val (rr_neq rfl rfl (qT (by omega))) rfl rfl ?_ | refine TN_val (rr_neq rfl rfl (qF (by omega))) rfl rfl ?_)
    | refine TW_done ?_)
  repeat (first
    | refine qv rfl (qp rfl) rfl rfl ?_ | refine TL_nil ?_ | refine T_seq ?_ | refine T_region ?_ | refine qcT rfl ?_ | refine qcF rfl ?_ | refine T_skip ?_
    | refine T_ret ?_ | refine E_then ?_ | refine E_thenR ?_ | refine qv rfl (rr_load1 TyC.ty rfl (at_blk (i := 2) rfl rfl)) rfl rfl ?_
    | refine qv rfl (rr_neq rfl rfl (qT (by omega))) rfl rfl ?_ | refine qv rfl (rr_neq rfl rfl (qF (by omega))) rfl rfl ?_)
  exact E_ret2 rfl rfl rfl fun w hm => hm.meets (S := eS (downE prods tr)) z trivial [3] (by decide) rfl
theorem upE_len (l : List gramL.Prod) (t : Tree) : (upE l t).length ≤ (acts l t).length := by
  unfold upE; exact List.length_filterMap_le _ _
set_option maxHeartbeats 4000000 in
theorem up_calls (v vt : Value) (g : Gram) (tr : Tree) (w : World) (h : GraR (fun k => k < w.heap.size) w v g) (ht : TreeR (fun k => k < w.heap.size) w vt tr) (hc : checkT g tr = 0) :
    Calls Try.prog 41 #[v, vt] w (Meets (eS (upE g.prods tr)) w) := by
  have hck := fun w' (hg : Gr w w') => treeCheck_calls v vt g tr w' (h.gr hg) (ht.gr hg)
  rw [hc] at hck
  obtain ⟨c1, c2, c3, c4⟩ := checkT_iff.1 hc
  obtain ⟨vp, rfl, h1, _⟩ := h
  have ht0 := ht
  obtain ⟨vk, rfl, _, _, hk4⟩ := ht
  obtain ⟨bk, ck, rfl, _⟩ := hk4
  obtain ⟨t, n, prods⟩ := g
  dsimp only at *
  have hea := fun g7 g8 ga w' B ho hm => each5_calls w t n vp prods h1 (eO1 g7) eO2 (blkO g8 #[.func (.func 72) #[] #[.pointer (some ⟨g7, 0, none⟩)]] 120) (blkO ga #[.int .i64 4] 3) (kidsO (fun _ => False) (.slice none 0 0) []) stepU List.length 65 73 74 #[] #[] #[] #[.pointer (some ⟨g7, 0, none⟩), .pointer (some ⟨ga, 0, none⟩)] #[] #[.pointer (some ⟨g8, 0, none⟩)] EntersC.en EntersC.en EntersC.en
    (fun s z p w B _ hm => nothing_calls p (fun z => [eO1 g7 s z, eO2 s z, (blkO g8 #[.func (.func 72) #[] #[.pointer (some ⟨g7, 0, none⟩)]] 120), (blkO ga #[.int .i64 4] 3), (kidsO (fun _ => False) (.slice none 0 0) [])]) z w B hm) (fun s z p w B hs hm => putUp_calls g7 ga 4 p s z w B _ _ _ 3 (fun _ _ => rfl) hs hm) (fun s z p q w B hs hm => leafUp_calls g7 g8 p q s z w B _ _ hs hm)
    (fun s x => by cases x <;> simp [stepU, evU]) (size tr) tr (Nat.le_refl _) (treeV tr.prod tr.tok (.slice bk tr.kids.length ck)) (2, 0) 0 [] (.slice none 0 0) w' B ht0 c2 (right_prod c2) (by have := acts_le prods tr; simp only [List.length_nil]; omega) ho hm
  rw [foldU] at hea
  refine enter (args := [graV t n vp, treeV tr.prod tr.tok (.slice bk tr.kids.length ck)]) (n := 23) Try.func41 rfl rfl rfl ?_
  refine T_seq (T_region (TL_box rfl rfl rfl fun g2 => TL_box rfl rfl rfl fun g3 => ?_))
  conv => arg 8; simp only [zA, zB, zC, zD, zE, zF, zG, zH, zI, rowS, ret, id_eq]
  repeat (first
    | refine qv rfl (qp rfl) rfl rfl ?_ | refine TL_nil ?_ | refine T_seq ?_ | refine T_region ?_ | refine qcT rfl ?_ | refine qcF rfl ?_ | refine T_skip ?_
    | refine T_ret ?_ | refine E_then ?_ | refine E_thenR ?_ | refine qv rfl (rr_loadB (i := 0) TyC.ty rfl rfl rfl) rfl rfl ?_
    | refine qv rfl (rr_loadB (i := 1) TyC.ty rfl rfl rfl) rfl rfl ?_ | refine qv rfl (rr_neq rfl rfl (qT (by omega))) rfl rfl ?_
    | refine qv rfl (rr_neq rfl rfl (qF (by omega))) rfl rfl ?_)
  refine TL_call (he2 EntersC.en rfl rfl rfl) (fun w hm => hck _ hm.below) rfl rfl rfl ?_
  intro _ _
  conv => arg 8; simp only [zA, zB, zC, zD, zE, zF, zG, zH, zI, rowS, ret, id_eq]
  repeat (first
    | refine qv rfl (qp rfl) rfl rfl ?_ | refine TL_nil ?_ | refine T_seq ?_ | refine T_region ?_ | refine qcT rfl ?_ | refine qcF rfl ?_ | refine T_skip ?_
    | refine T_ret ?_ | refine E_then ?_ | refine E_thenR ?_ | refine qv rfl (rr_neq rfl rfl (qT (by omega))) rfl rfl ?_
    | refine qv rfl (rr_neq rfl rfl (qF (by omega))) rfl rfl ?_)
  refine TL_new rfl fun g7 => ?_
  conv => arg 8; simp only [zA, zB, zC, zD, zE, zF, zG, zH, zI, rowS, ret, id_eq]
  repeat (first
    | refine qv rfl (qp rfl) rfl rfl ?_ | refine TL_nil ?_ | refine T_seq ?_ | refine T_region ?_ | refine qcT rfl ?_ | refine qcF rfl ?_ | refine T_skip ?_
    | refine T_ret ?_ | refine E_then ?_ | refine E_thenR ?_ | refine qv rfl (rr_func rfl rfl) rfl rfl ?_
    | refine qv rfl (rr_neq rfl rfl (qT (by omega))) rfl rfl ?_ | refine qv rfl (rr_neq rfl rfl (qF (by omega))) rfl rfl ?_)
  refine TL_new rfl fun g8 => ?_
  refine TL_store1 (i := 3) rfl rfl rfl rfl rfl rfl ?_
  conv => arg 8; simp only [zA, zB, zC, zD, zE, zF, zG, zH, zI, rowS, ret, id_eq]
  repeat (first
    | refine qv rfl (qp rfl) rfl rfl ?_ | refine TL_nil ?_ | refine E_then ?_ | refine qv rfl (rr_neq rfl rfl (qT (by omega))) rfl rfl ?_
    | refine qv rfl (rr_neq rfl rfl (qF (by omega))) rfl rfl ?_)
  (repeat refine T_seq ?_)
  refine T_nil 78 2 (T_extra (kidsO (fun _ => False) (.slice none 0 0) []) (fun k hk => hk.elim (fun h => by cases h) id) kidsO_nil ?_)
  conv => arg 7; simp only [zA, zB, zC, zD, zE, zF, zG, zH, zI, rowS, ret, id_eq]
  refine T_ord ([blkO g2 (graV t n vp).cells 24, blkO g3 (treeV tr.prod tr.tok (.slice bk tr.kids.length ck)).cells 46, blkO g8 #[.func (.func 72) #[] #[.pointer (some ⟨g7, 0, none⟩)]] 120]) (.calm 0 (.calm 1 (.calm 2 (.calm 4 (.one 3 (.one 5 (.done))))))) (sub_pick [0, 1, 3] (by decide) rfl) (by kernel_rfl) (by kernel_rfl) (by intro c a d v w h; cases d <;> exact h) ?_
  repeat (first
    | ((first | refine TW_plain rfl rfl ?_ | refine TW_gmet rfl rfl rfl rfl ?_); first | refine TN_val (qp rfl) rfl rfl ?_ | refine TN_val (rr_loadB (i := 0) TyC.ty rfl rfl rfl) rfl rfl ?_ | refine TN_val (rr_loadB (i := 1) TyC.ty rfl rfl rfl) rfl rfl ?_ | refine TN_val (rr_load1 TyC.ty rfl (at_blk (i := 2) rfl rfl)) rfl rfl ?_ | refine TN_val (rr_func rfl rfl) rfl rfl ?_ | refine TN_val (rr_neq rfl rfl (qT (by omega))) rfl rfl ?_ | refine TN_val (rr_neq rfl rfl (qF (by omega))) rfl rfl ?_)
    | refine TW_done ?_)
  refine TW_one rfl ?_
  refine TL_call (he1c EntersC.en rfl rfl) (fun w hm => kindUp_calls g7 4 w) rfl rfl rfl ?_
  intro ga _
  conv => arg 8; simp only [zA, zB, zC, zD, zE, zF, zG, zH, zI, rowS, ret, id_eq]
  refine TW_on (sub_pick [0, 1, 3] (by decide) rfl) ?_
  refine TW_one rfl ?_
  refine TL_callB [2, 4, 3, 6, 5] [0, 1] (by decide) rfl rfl (he5 EntersC.en rfl rfl rfl rfl rfl rfl) (fun w' hm hb => hea g7 g8 ga w' _ ((Old.self w).on hm fun o h => pick_mem2 h) hb) rfl rfl rfl ?_
  intro z _
  conv => arg 8; simp only [zA, zB, zC, zD, zE, zF, zG, zH, zI, rowS, ret, id_eq]
  refine TW_on (sub_pick [0, 1, 4] (by decide) rfl) ?_
  repeat (first
    | ((first | refine TW_plain rfl rfl ?_ | refine TW_gmet rfl rfl rfl rfl ?_); first | refine TN_val (qp rfl) rfl rfl ?_ | refine TN_val (rr_neq rfl rfl (qT (by omega))) rfl rfl ?_ | refine TN_val (rr_neq rfl rfl (qF (by omega))) rfl rfl ?_)
    | refine TW_done ?_)
  repeat (first
    | refine qv rfl (qp rfl) rfl rfl ?_ | refine TL_nil ?_ | refine T_seq ?_ | refine T_region ?_ | refine qcT rfl ?_ | refine qcF rfl ?_ | refine T_skip ?_
    | refine T_ret ?_ | refine E_then ?_ | refine E_thenR ?_ | refine qv rfl (rr_load1 TyC.ty rfl (at_blk (i := 2) rfl rfl)) rfl rfl ?_
    | refine qv rfl (rr_neq rfl rfl (qT (by omega))) rfl rfl ?_ | refine qv rfl (rr_neq rfl rfl (qF (by omega))) rfl rfl ?_)
  exact E_ret2 rfl rfl rfl fun w hm => hm.meets (S := eS (upE prods tr)) z trivial [3] (by decide) rfl
theorem downE_calls (v vt : Value) (g : Gram) (tr : Tree) (w : World) (h : GraR (fun k => k < w.heap.size) w v g) (ht : TreeR (fun k => k < w.heap.size) w vt tr) (hc : checkT g tr ≠ 0) :
    Calls Try.prog 42 #[v, vt] w (Meets (ret (.tuple #[.slice none 0 0, .int .i64 (checkT g tr)])) w) := by
  have hck := fun w' (hg : Gr w w') => treeCheck_calls v vt g tr w' (h.gr hg) (ht.gr hg)
  obtain ⟨vp, rfl, h1, _⟩ := h
  obtain ⟨vk, rfl, _, _, hk4⟩ := ht
  obtain ⟨bk, ck, rfl, _⟩ := hk4
  generalize checkT g tr = e at *
  obtain ⟨t, n, prods⟩ := g
  dsimp only at *
  refine enter (args := [graV t n vp, treeV tr.prod tr.tok (.slice bk tr.kids.length ck)]) (n := 25) Try.func42 rfl rfl rfl ?_
  refine T_seq (T_region (TL_box rfl rfl rfl fun g2 => TL_box rfl rfl rfl fun g3 => ?_))
  conv => arg 8; simp only [zA, zB, zC, zD, zE, zF, zG, zH, zI, rowS, ret, id_eq]
  repeat (first
    | refine qv rfl (qp rfl) rfl rfl ?_ | refine TL_nil ?_ | refine T_seq ?_ | refine T_region ?_ | refine qcT rfl ?_ | refine qcF rfl ?_ | refine T_skip ?_
    | refine T_ret ?_ | refine E_then ?_ | refine E_thenR ?_ | refine qv rfl (rr_loadB (i := 0) TyC.ty rfl rfl rfl) rfl rfl ?_
    | refine qv rfl (rr_loadB (i := 1) TyC.ty rfl rfl rfl) rfl rfl ?_ | refine qv rfl (rr_neq rfl rfl (qT (by omega))) rfl rfl ?_
    | refine qv rfl (rr_neq rfl rfl (qF (by omega))) rfl rfl ?_)
  refine TL_call (he2 EntersC.en rfl rfl rfl) (fun w hm => hck _ hm.below) rfl rfl rfl ?_
  intro _ _
  conv => arg 8; simp only [zA, zB, zC, zD, zE, zF, zG, zH, zI, rowS, ret, id_eq]
  repeat (first
    | refine qv rfl (qp rfl) rfl rfl ?_ | refine TL_nil ?_ | refine T_seq ?_ | refine T_region ?_ | refine qcT rfl ?_ | refine qcF rfl ?_ | refine T_skip ?_
    | refine T_ret ?_ | refine E_then ?_ | refine E_thenR ?_ | refine qv rfl (rr_neq rfl rfl (qT (by omega))) rfl rfl ?_
    | refine qv rfl (rr_neq rfl rfl (qF (by omega))) rfl rfl ?_)
  exact E_ret2 rfl rfl rfl fun w hm => hm.ret
theorem upE_calls (v vt : Value) (g : Gram) (tr : Tree) (w : World) (h : GraR (fun k => k < w.heap.size) w v g) (ht : TreeR (fun k => k < w.heap.size) w vt tr) (hc : checkT g tr ≠ 0) :
    Calls Try.prog 41 #[v, vt] w (Meets (ret (.tuple #[.slice none 0 0, .int .i64 (checkT g tr)])) w) := by
  have hck := fun w' (hg : Gr w w') => treeCheck_calls v vt g tr w' (h.gr hg) (ht.gr hg)
  obtain ⟨vp, rfl, h1, _⟩ := h
  obtain ⟨vk, rfl, _, _, hk4⟩ := ht
  obtain ⟨bk, ck, rfl, _⟩ := hk4
  generalize checkT g tr = e at *
  obtain ⟨t, n, prods⟩ := g
  dsimp only at *
  refine enter (args := [graV t n vp, treeV tr.prod tr.tok (.slice bk tr.kids.length ck)]) (n := 23) Try.func41 rfl rfl rfl ?_
  refine T_seq (T_region (TL_box rfl rfl rfl fun g2 => TL_box rfl rfl rfl fun g3 => ?_))
  conv => arg 8; simp only [zA, zB, zC, zD, zE, zF, zG, zH, zI, rowS, ret, id_eq]
  repeat (first
    | refine qv rfl (qp rfl) rfl rfl ?_ | refine TL_nil ?_ | refine T_seq ?_ | refine T_region ?_ | refine qcT rfl ?_ | refine qcF rfl ?_ | refine T_skip ?_
    | refine T_ret ?_ | refine E_then ?_ | refine E_thenR ?_ | refine qv rfl (rr_loadB (i := 0) TyC.ty rfl rfl rfl) rfl rfl ?_
    | refine qv rfl (rr_loadB (i := 1) TyC.ty rfl rfl rfl) rfl rfl ?_ | refine qv rfl (rr_neq rfl rfl (qT (by omega))) rfl rfl ?_
    | refine qv rfl (rr_neq rfl rfl (qF (by omega))) rfl rfl ?_)
  refine TL_call (he2 EntersC.en rfl rfl rfl) (fun w hm => hck _ hm.below) rfl rfl rfl ?_
  intro _ _
  conv => arg 8; simp only [zA, zB, zC, zD, zE, zF, zG, zH, zI, rowS, ret, id_eq]
  repeat (first
    | refine qv rfl (qp rfl) rfl rfl ?_ | refine TL_nil ?_ | refine T_seq ?_ | refine T_region ?_ | refine qcT rfl ?_ | refine qcF rfl ?_ | refine T_skip ?_
    | refine T_ret ?_ | refine E_then ?_ | refine E_thenR ?_ | refine qv rfl (rr_neq rfl rfl (qT (by omega))) rfl rfl ?_
    | refine qv rfl (rr_neq rfl rfl (qF (by omega))) rfl rfl ?_)
  exact E_ret2 rfl rfl rfl fun w hm => hm.ret
end Go.Proofs.Ytnicebdkejkieaa.eng
