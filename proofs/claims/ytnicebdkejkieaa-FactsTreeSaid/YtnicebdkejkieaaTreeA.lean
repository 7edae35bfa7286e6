/- What trees.Check computes. -/
import Derived.Test.YtnicebdkejkieaaGram
import Derived.Test.YtnicebdkejkieaaTreeS
namespace Go.Proofs.Ytnicebdkejkieaa.eng
open Go.RowKit kit mix gramL treeL
def wkV (t n : Int) (vp : Value) (nodes leaves : Nat) : Array Value := #[.int .i64 t, .int .i64 n, vp, .int .i64 (nodes : Int), .int .i64 (leaves : Int)]
theorem prodAt_eq {l : List gramL.Prod} {k : Nat} (h : k < l.length) : prodAt l (k : Int) = l[k] := by
  unfold prodAt
  rw [Int.toNat_natCast, List.getD_eq_getElem?_getD, List.getElem?_eq_getElem h]; rfl
set_option maxRecDepth 100000 in
set_option maxHeartbeats 16000000 in
theorem node_calls (w0 : World) (gw : Nat) (t n : Int) (vp : Value) (prods : List gramL.Prod) (hG : SlF prodS (fun k => k < w0.heap.size) w0 vp prods) (hlen : prods.length ≤ 40) : ∀ (N : Nat) (tr : Tree), size tr ≤ N → ∀ (v : Value) (x : Sym) (d nodes leaves : Nat) (w : World) (B : Base), TreeR (fun k => k < w0.heap.size) w0 v tr → leaves ≤ nodes → nodes ≤ 1000 → d ≤ 101 → Old w0 B → Mem B [blkO gw (wkV t n vp nodes leaves) 114] w →
    Calls Try.prog 67 #[.pointer (some ⟨gw, 0, none⟩), v, .agg (symC x).toArray, .int .i64 (d : Int)] w (MeetsB ⟨fun (_ : Unit) => True, fun _ => .int .i64 (nodeF prods tr x d nodes leaves).1, fun _ => [blkO gw (wkV t n vp (nodeF prods tr x d nodes leaves).2.1 (nodeF prods tr x d nodes leaves).2.2) 114]⟩ B)
  | 0, tr, h, _, _, _, _, _, _, _, _, _, _, _, _, _ => by have := size_pos tr; omega
  | N + 1, .mk p k kids, hN, v, x, d, nodes, leaves, w, B, hv, hl1, hl2, hd, ho, hm => by
    have IH := node_calls w0 gw t n vp prods hG hlen N
    obtain ⟨vk, rfl, hp64, hk64, hks⟩ := hv
    dsimp only [Tree.prod, Tree.tok, Tree.kids] at hp64 hk64 hks ⊢
    obtain ⟨bk, ck, rfl, hck, hmk, hrk⟩ := hks
    unfold maxLen at hmk
    obtain ⟨q, m⟩ := x
    rw [nodeF]
    rw [size] at hN
    dsimp only
    obtain ⟨bp, cp, rfl, hcp, hmp, hrp⟩ := hG
    unfold maxLen at hmp
    refine enterB hm (args := [.pointer (some ⟨gw, 0, none⟩), treeV p k (.slice bk kids.length ck), .agg (symC (q, m)).toArray, .int .i64 (d : Int)]) (n := 139) Try.func67 rfl rfl rfl ?_
    clear hm
    refine T_seq (T_region (TL_box rfl rfl rfl fun g5 => TL_box rfl rfl rfl fun g6 => ?_))
    conv => arg 8; simp only [List.cons_append, List.nil_append, List.append_nil, List.filterMap_cons, List.filterMap_nil, List.getElem?_cons_succ, List.getElem?_cons_zero, List.set_cons_zero, List.set_cons_succ, rowS, ret, id_eq]
    repeat (first
      | refine TL_valg rfl (rr_move rfl) rfl rfl ?_
      | refine TL_valg rfl (rr_assign rfl) rfl rfl ?_
      | refine TL_nil ?_
      | refine T_seq ?_
      | refine T_region ?_
      | refine T_condT rfl ?_
      | refine T_condF rfl ?_
      | refine T_skip ?_
      | refine T_exit ?_
      | refine T_ret ?_
      | refine T_block ?_
      | refine E_then ?_
      | refine E_thenX ?_
      | refine E_thenR ?_
      | refine E_blockN ?_
      | refine E_blockR ?_
      | refine E_blockX ?_
      | refine E_blockO rfl ?_
      | refine TL_valg rfl (rr_load1 TyC.ty rfl (at_blk (i := 0) rfl rfl)) rfl rfl ?_
      | refine TL_valg rfl (rr_add64 (r := ((nodes + 1 : Nat) : Int)) rfl rfl (by omega) (by omega) (by omega)) rfl rfl ?_
      | refine TL_valg rfl (rr_pickT rfl rfl) rfl rfl ?_
      | refine TL_valg rfl (rr_pickF rfl rfl) rfl rfl ?_
      | refine TL_valg rfl (rr_len Und.eq rfl) rfl rfl ?_
      | refine TL_valg rfl (rr_field FldC.fld rfl rfl) rfl rfl ?_
      | refine TL_valg rfl (rr_nilc rfl) rfl rfl ?_
      | refine TL_valg rfl (rr_lss rfl rfl (decide_eq_true (by omega))) rfl rfl ?_
      | refine TL_valg rfl (rr_lss rfl rfl (decide_eq_false (by omega))) rfl rfl ?_
      | refine TL_valg rfl (rr_gtr rfl rfl (decide_eq_true (by omega))) rfl rfl ?_
      | refine TL_valg rfl (rr_gtr rfl rfl (decide_eq_false (by omega))) rfl rfl ?_
      | refine TL_valg rfl (rr_eql rfl rfl (decide_eq_true (by omega))) rfl rfl ?_
      | refine TL_valg rfl (rr_eql rfl rfl (decide_eq_false (by omega))) rfl rfl ?_
      | refine TL_valg rfl (rr_neq rfl rfl (decide_eq_true (by omega))) rfl rfl ?_
      | refine TL_valg rfl (rr_neq rfl rfl (decide_eq_false (by omega))) rfl rfl ?_
      | refine TL_valg rfl (rr_add64 rfl rfl (by omega) (by omega) rfl) rfl rfl ?_
      | refine TL_skip rfl rfl rfl rfl rfl rfl ?_
      | (refine TL_metg rfl rfl rfl ?_; (first | refine TL_valg rfl (rr_load1 TyC.ty rfl (at_blk (i := 0) rfl rfl)) rfl rfl ?_ | refine TL_valg rfl (rr_move rfl) rfl rfl ?_ | refine TL_valg rfl (rr_len Und.eq rfl) rfl rfl ?_ | refine TL_valg rfl (rr_field FldC.fld rfl rfl) rfl rfl ?_ | refine TL_valg rfl (rr_nilc rfl) rfl rfl ?_ | refine TL_valg rfl (rr_gtr rfl rfl (decide_eq_true (by omega))) rfl rfl ?_ | refine TL_valg rfl (rr_gtr rfl rfl (decide_eq_false (by omega))) rfl rfl ?_ | refine TL_valg rfl (rr_geq rfl rfl (decide_eq_true (by omega))) rfl rfl ?_ | refine TL_valg rfl (rr_geq rfl rfl (decide_eq_false (by omega))) rfl rfl ?_ | refine TL_valg rfl (rr_neq rfl rfl (decide_eq_true (by omega))) rfl rfl ?_ | refine TL_valg rfl (rr_neq rfl rfl (decide_eq_false (by omega))) rfl rfl ?_)))
    refine TL_store1 (i := 0) rfl rfl rfl rfl rfl rfl ?_
    rw [show (wkV t n (.slice bp prods.length cp) nodes leaves).setIfInBounds (0 + 3) (.int .i64 ((nodes + 1 : Nat) : Int)) = wkV t n (.slice bp prods.length cp) (nodes + 1) leaves from rfl]
    conv => arg 8; simp only [List.cons_append, List.nil_append, List.append_nil, List.filterMap_cons, List.filterMap_nil, List.getElem?_cons_succ, List.getElem?_cons_zero, List.set_cons_zero, List.set_cons_succ, rowS, ret, id_eq]
    by_cases c1 : 1000 < nodes + 1
    · rw [if_pos c1]
      repeat (first
        | refine TL_valg rfl (rr_move rfl) rfl rfl ?_
        | refine TL_valg rfl (rr_assign rfl) rfl rfl ?_
        | refine TL_nil ?_
        | refine T_seq ?_
        | refine T_region ?_
        | refine T_condT rfl ?_
        | refine T_condF rfl ?_
        | refine T_skip ?_
        | refine T_exit ?_
        | refine T_ret ?_
        | refine T_block ?_
        | refine E_then ?_
        | refine E_thenX ?_
        | refine E_thenR ?_
        | refine E_blockN ?_
        | refine E_blockR ?_
        | refine E_blockX ?_
        | refine E_blockO rfl ?_
        | refine TL_valg rfl (rr_load1 TyC.ty rfl (at_blk (i := 0) rfl rfl)) rfl rfl ?_
        | refine TL_valg rfl (rr_pickT rfl rfl) rfl rfl ?_
        | refine TL_valg rfl (rr_pickF rfl rfl) rfl rfl ?_
        | refine TL_valg rfl (rr_len Und.eq rfl) rfl rfl ?_
        | refine TL_valg rfl (rr_field FldC.fld rfl rfl) rfl rfl ?_
        | refine TL_valg rfl (rr_nilc rfl) rfl rfl ?_
        | refine TL_valg rfl (rr_lss rfl rfl (decide_eq_true (by omega))) rfl rfl ?_
        | refine TL_valg rfl (rr_lss rfl rfl (decide_eq_false (by omega))) rfl rfl ?_
        | refine TL_valg rfl (rr_gtr rfl rfl (decide_eq_true (by omega))) rfl rfl ?_
        | refine TL_valg rfl (rr_gtr rfl rfl (decide_eq_false (by omega))) rfl rfl ?_
        | refine TL_valg rfl (rr_eql rfl rfl (decide_eq_true (by omega))) rfl rfl ?_
        | refine TL_valg rfl (rr_eql rfl rfl (decide_eq_false (by omega))) rfl rfl ?_
        | refine TL_valg rfl (rr_neq rfl rfl (decide_eq_true (by omega))) rfl rfl ?_
        | refine TL_valg rfl (rr_neq rfl rfl (decide_eq_false (by omega))) rfl rfl ?_
        | refine TL_valg rfl (rr_add64 rfl rfl (by omega) (by omega) rfl) rfl rfl ?_
        | refine TL_skip rfl rfl rfl rfl rfl rfl ?_
        | (refine TL_metg rfl rfl rfl ?_; (first | refine TL_valg rfl (rr_load1 TyC.ty rfl (at_blk (i := 0) rfl rfl)) rfl rfl ?_ | refine TL_valg rfl (rr_move rfl) rfl rfl ?_ | refine TL_valg rfl (rr_len Und.eq rfl) rfl rfl ?_ | refine TL_valg rfl (rr_field FldC.fld rfl rfl) rfl rfl ?_ | refine TL_valg rfl (rr_nilc rfl) rfl rfl ?_ | refine TL_valg rfl (rr_gtr rfl rfl (decide_eq_true (by omega))) rfl rfl ?_ | refine TL_valg rfl (rr_gtr rfl rfl (decide_eq_false (by omega))) rfl rfl ?_ | refine TL_valg rfl (rr_geq rfl rfl (decide_eq_true (by omega))) rfl rfl ?_ | refine TL_valg rfl (rr_geq rfl rfl (decide_eq_false (by omega))) rfl rfl ?_ | refine TL_valg rfl (rr_neq rfl rfl (decide_eq_true (by omega))) rfl rfl ?_ | refine TL_valg rfl (rr_neq rfl rfl (decide_eq_false (by omega))) rfl rfl ?_)))
      exact E_ret1 rfl rfl fun w hm => hm.meetsB (S := ⟨fun (_ : Unit) => True, fun _ => .int .i64 2, fun _ => [blkO gw (wkV t n (.slice bp prods.length cp) (nodes + 1) leaves) 114]⟩) () trivial [0] (by decide) rfl
    rw [if_neg c1]
    by_cases c2 : 100 < d
    · rw [if_pos c2]
      repeat (first
        | refine TL_valg rfl (rr_move rfl) rfl rfl ?_
        | refine TL_valg rfl (rr_assign rfl) rfl rfl ?_
        | refine TL_nil ?_
        | refine T_seq ?_
        | refine T_region ?_
        | refine T_condT rfl ?_
        | refine T_condF rfl ?_
        | refine T_skip ?_
        | refine T_exit ?_
        | refine T_ret ?_
        | refine T_block ?_
        | refine E_then ?_
        | refine E_thenX ?_
        | refine E_thenR ?_
        | refine E_blockN ?_
        | refine E_blockR ?_
        | refine E_blockX ?_
        | refine E_blockO rfl ?_
        | refine TL_valg rfl (rr_load1 TyC.ty rfl (at_blk (i := 0) rfl rfl)) rfl rfl ?_
        | refine TL_valg rfl (rr_pickT rfl rfl) rfl rfl ?_
        | refine TL_valg rfl (rr_pickF rfl rfl) rfl rfl ?_
        | refine TL_valg rfl (rr_len Und.eq rfl) rfl rfl ?_
        | refine TL_valg rfl (rr_field FldC.fld rfl rfl) rfl rfl ?_
        | refine TL_valg rfl (rr_nilc rfl) rfl rfl ?_
        | refine TL_valg rfl (rr_lss rfl rfl (decide_eq_true (by omega))) rfl rfl ?_
        | refine TL_valg rfl (rr_lss rfl rfl (decide_eq_false (by omega))) rfl rfl ?_
        | refine TL_valg rfl (rr_gtr rfl rfl (decide_eq_true (by omega))) rfl rfl ?_
        | refine TL_valg rfl (rr_gtr rfl rfl (decide_eq_false (by omega))) rfl rfl ?_
        | refine TL_valg rfl (rr_eql rfl rfl (decide_eq_true (by omega))) rfl rfl ?_
        | refine TL_valg rfl (rr_eql rfl rfl (decide_eq_false (by omega))) rfl rfl ?_
        | refine TL_valg rfl (rr_neq rfl rfl (decide_eq_true (by omega))) rfl rfl ?_
        | refine TL_valg rfl (rr_neq rfl rfl (decide_eq_false (by omega))) rfl rfl ?_
        | refine TL_valg rfl (rr_add64 rfl rfl (by omega) (by omega) rfl) rfl rfl ?_
        | refine TL_skip rfl rfl rfl rfl rfl rfl ?_
        | (refine TL_metg rfl rfl rfl ?_; (first | refine TL_valg rfl (rr_load1 TyC.ty rfl (at_blk (i := 0) rfl rfl)) rfl rfl ?_ | refine TL_valg rfl (rr_move rfl) rfl rfl ?_ | refine TL_valg rfl (rr_len Und.eq rfl) rfl rfl ?_ | refine TL_valg rfl (rr_field FldC.fld rfl rfl) rfl rfl ?_ | refine TL_valg rfl (rr_nilc rfl) rfl rfl ?_ | refine TL_valg rfl (rr_gtr rfl rfl (decide_eq_true (by omega))) rfl rfl ?_ | refine TL_valg rfl (rr_gtr rfl rfl (decide_eq_false (by omega))) rfl rfl ?_ | refine TL_valg rfl (rr_geq rfl rfl (decide_eq_true (by omega))) rfl rfl ?_ | refine TL_valg rfl (rr_geq rfl rfl (decide_eq_false (by omega))) rfl rfl ?_ | refine TL_valg rfl (rr_neq rfl rfl (decide_eq_true (by omega))) rfl rfl ?_ | refine TL_valg rfl (rr_neq rfl rfl (decide_eq_false (by omega))) rfl rfl ?_)))
      exact E_ret1 rfl rfl fun w hm => hm.meetsB (S := ⟨fun (_ : Unit) => True, fun _ => .int .i64 7, fun _ => [blkO gw (wkV t n (.slice bp prods.length cp) (nodes + 1) leaves) 114]⟩) () trivial [0] (by decide) rfl
    rw [if_neg c2]
    by_cases c3 : q = 1
    · rw [if_pos c3]
      repeat (first
        | refine TL_valg rfl (rr_move rfl) rfl rfl ?_
        | refine TL_valg rfl (rr_assign rfl) rfl rfl ?_
        | refine TL_nil ?_
        | refine T_seq ?_
        | refine T_region ?_
        | refine T_condT rfl ?_
        | refine T_condF rfl ?_
        | refine T_skip ?_
        | refine T_exit ?_
        | refine T_ret ?_
        | refine T_block ?_
        | refine E_then ?_
        | refine E_thenX ?_
        | refine E_thenR ?_
        | refine E_blockN ?_
        | refine E_blockR ?_
        | refine E_blockX ?_
        | refine E_blockO rfl ?_
        | refine TL_valg rfl (rr_load1 TyC.ty rfl (at_blk (i := 0) rfl rfl)) rfl rfl ?_
        | refine TL_valg rfl (rr_load1 TyC.ty rfl (at_blk (i := 2) rfl rfl)) rfl rfl ?_
        | refine TL_valg rfl (rr_pickT rfl rfl) rfl rfl ?_
        | refine TL_valg rfl (rr_pickF rfl rfl) rfl rfl ?_
        | refine TL_valg rfl (rr_len Und.eq rfl) rfl rfl ?_
        | refine TL_valg rfl (rr_field FldC.fld rfl rfl) rfl rfl ?_
        | refine TL_valg rfl (rr_nilc rfl) rfl rfl ?_
        | refine TL_valg rfl (rr_lss rfl rfl (decide_eq_true (by omega))) rfl rfl ?_
        | refine TL_valg rfl (rr_lss rfl rfl (decide_eq_false (by omega))) rfl rfl ?_
        | refine TL_valg rfl (rr_gtr rfl rfl (decide_eq_true (by omega))) rfl rfl ?_
        | refine TL_valg rfl (rr_gtr rfl rfl (decide_eq_false (by omega))) rfl rfl ?_
        | refine TL_valg rfl (rr_eql rfl rfl (decide_eq_true (by omega))) rfl rfl ?_
        | refine TL_valg rfl (rr_eql rfl rfl (decide_eq_false (by omega))) rfl rfl ?_
        | refine TL_valg rfl (rr_neq rfl rfl (decide_eq_true (by omega))) rfl rfl ?_
        | refine TL_valg rfl (rr_neq rfl rfl (decide_eq_false (by omega))) rfl rfl ?_
        | refine TL_valg rfl (rr_add64 rfl rfl (by omega) (by omega) rfl) rfl rfl ?_
        | refine TL_skip rfl rfl rfl rfl rfl rfl ?_
        | (refine TL_metg rfl rfl rfl ?_; (first | refine TL_valg rfl (rr_load1 TyC.ty rfl (at_blk (i := 0) rfl rfl)) rfl rfl ?_ | refine TL_valg rfl (rr_load1 TyC.ty rfl (at_blk (i := 2) rfl rfl)) rfl rfl ?_ | refine TL_valg rfl (rr_move rfl) rfl rfl ?_ | refine TL_valg rfl (rr_len Und.eq rfl) rfl rfl ?_ | refine TL_valg rfl (rr_field FldC.fld rfl rfl) rfl rfl ?_ | refine TL_valg rfl (rr_nilc rfl) rfl rfl ?_ | refine TL_valg rfl (rr_gtr rfl rfl (decide_eq_true (by omega))) rfl rfl ?_ | refine TL_valg rfl (rr_gtr rfl rfl (decide_eq_false (by omega))) rfl rfl ?_ | refine TL_valg rfl (rr_geq rfl rfl (decide_eq_true (by omega))) rfl rfl ?_ | refine TL_valg rfl (rr_geq rfl rfl (decide_eq_false (by omega))) rfl rfl ?_ | refine TL_valg rfl (rr_neq rfl rfl (decide_eq_true (by omega))) rfl rfl ?_ | refine TL_valg rfl (rr_neq rfl rfl (decide_eq_false (by omega))) rfl rfl ?_)))
      have hcs : (p ≠ -1) ∨ (p = -1 ∧ k ≠ (leaves : Int)) ∨ (p = -1 ∧ k = (leaves : Int) ∧ 0 < kids.length) ∨ (p = -1 ∧ k = (leaves : Int) ∧ kids.length = 0) := by omega
      rcases hcs with h | h | h | h
      · rw [if_pos h]
        refine T_ord ([blkO gw (wkV t n (.slice bp prods.length cp) (nodes + 1) leaves) 114, blkO g5 (treeV p k (.slice bk kids.length ck)).cells 46, blkO g6 (symC (q, m)).toArray 58]) (.calm 0 (.calm 1 (.calm 2 (.calm 3 (.calm 4 (.calm 5 (.calm 6 (.calm 7 (.calm 8 (.calm 9 (.calm 10 (.calm 11 (.calm 12 (.calm 13 (.calm 14 (.calm 15 (.calm 16 (.calm 17 (.done))))))))))))))))))) (fun _ h => h) (by kernel_rfl) (by kernel_rfl) (by intro c a d v w h; cases d <;> exact h) ?_
        repeat (first
          | ((first | refine TW_plain rfl rfl ?_ | refine TW_gmet rfl rfl rfl rfl ?_); (first
              | refine TN_val (rr_move rfl) rfl rfl ?_
              | refine TN_val (rr_assign rfl) rfl rfl ?_
              | refine TN_val (rr_load1 TyC.ty rfl (at_blk (i := 0) rfl rfl)) rfl rfl ?_
              | refine TN_val (rr_load1 TyC.ty rfl (at_blk (i := 1) rfl rfl)) rfl rfl ?_
              | refine TN_val (rr_pickT rfl rfl) rfl rfl ?_
              | refine TN_val (rr_pickF rfl rfl) rfl rfl ?_
              | refine TN_val (rr_len Und.eq rfl) rfl rfl ?_
              | refine TN_val (rr_field FldC.fld rfl rfl) rfl rfl ?_
              | refine TN_val (rr_nilc rfl) rfl rfl ?_
              | refine TN_val (rr_lss rfl rfl (decide_eq_true (by omega))) rfl rfl ?_
              | refine TN_val (rr_lss rfl rfl (decide_eq_false (by omega))) rfl rfl ?_
              | refine TN_val (rr_gtr rfl rfl (decide_eq_true (by omega))) rfl rfl ?_
              | refine TN_val (rr_gtr rfl rfl (decide_eq_false (by omega))) rfl rfl ?_
              | refine TN_val (rr_eql rfl rfl (decide_eq_true (by omega))) rfl rfl ?_
              | refine TN_val (rr_eql rfl rfl (decide_eq_false (by omega))) rfl rfl ?_
              | refine TN_val (rr_neq rfl rfl (decide_eq_true (by omega))) rfl rfl ?_
              | refine TN_val (rr_neq rfl rfl (decide_eq_false (by omega))) rfl rfl ?_
              | refine TN_val (rr_add64 rfl rfl (by omega) (by omega) rfl) rfl rfl ?_
              | refine TN_val (rr_geq rfl rfl (decide_eq_true (by omega))) rfl rfl ?_
              | refine TN_val (rr_geq rfl rfl (decide_eq_false (by omega))) rfl rfl ?_))
          | refine TW_skip rfl rfl rfl rfl rfl rfl rfl ?_
          | refine TW_done ?_)
        repeat (first
          | refine TL_valg rfl (rr_move rfl) rfl rfl ?_
          | refine TL_valg rfl (rr_assign rfl) rfl rfl ?_
          | refine TL_nil ?_
          | refine T_seq ?_
          | refine T_region ?_
          | refine T_condT rfl ?_
          | refine T_condF rfl ?_
          | refine T_skip ?_
          | refine T_exit ?_
          | refine T_ret ?_
          | refine T_block ?_
          | refine E_then ?_
          | refine E_thenX ?_
          | refine E_thenR ?_
          | refine E_blockN ?_
          | refine E_blockR ?_
          | refine E_blockX ?_
          | refine E_blockO rfl ?_
          | refine TL_valg rfl (rr_pickT rfl rfl) rfl rfl ?_
          | refine TL_valg rfl (rr_pickF rfl rfl) rfl rfl ?_
          | refine TL_valg rfl (rr_len Und.eq rfl) rfl rfl ?_
          | refine TL_valg rfl (rr_field FldC.fld rfl rfl) rfl rfl ?_
          | refine TL_valg rfl (rr_nilc rfl) rfl rfl ?_
          | refine TL_valg rfl (rr_lss rfl rfl (decide_eq_true (by omega))) rfl rfl ?_
          | refine TL_valg rfl (rr_lss rfl rfl (decide_eq_false (by omega))) rfl rfl ?_
          | refine TL_valg rfl (rr_gtr rfl rfl (decide_eq_true (by omega))) rfl rfl ?_
          | refine TL_valg rfl (rr_gtr rfl rfl (decide_eq_false (by omega))) rfl rfl ?_
          | refine TL_valg rfl (rr_eql rfl rfl (decide_eq_true (by omega))) rfl rfl ?_
          | refine TL_valg rfl (rr_eql rfl rfl (decide_eq_false (by omega))) rfl rfl ?_
          | refine TL_valg rfl (rr_neq rfl rfl (decide_eq_true (by omega))) rfl rfl ?_
          | refine TL_valg rfl (rr_neq rfl rfl (decide_eq_false (by omega))) rfl rfl ?_
          | refine TL_valg rfl (rr_add64 rfl rfl (by omega) (by omega) rfl) rfl rfl ?_
          | refine TL_skip rfl rfl rfl rfl rfl rfl ?_
          | (refine TL_metg rfl rfl rfl ?_; (first | refine TL_valg rfl (rr_move rfl) rfl rfl ?_ | refine TL_valg rfl (rr_len Und.eq rfl) rfl rfl ?_ | refine TL_valg rfl (rr_field FldC.fld rfl rfl) rfl rfl ?_ | refine TL_valg rfl (rr_nilc rfl) rfl rfl ?_ | refine TL_valg rfl (rr_gtr rfl rfl (decide_eq_true (by omega))) rfl rfl ?_ | refine TL_valg rfl (rr_gtr rfl rfl (decide_eq_false (by omega))) rfl rfl ?_ | refine TL_valg rfl (rr_geq rfl rfl (decide_eq_true (by omega))) rfl rfl ?_ | refine TL_valg rfl (rr_geq rfl rfl (decide_eq_false (by omega))) rfl rfl ?_ | refine TL_valg rfl (rr_neq rfl rfl (decide_eq_true (by omega))) rfl rfl ?_ | refine TL_valg rfl (rr_neq rfl rfl (decide_eq_false (by omega))) rfl rfl ?_)))
        exact E_ret1 rfl rfl fun w hm => hm.meetsB (S := ⟨fun (_ : Unit) => True, fun _ => .int .i64 4, fun _ => [blkO gw (wkV t n (.slice bp prods.length cp) (nodes + 1) leaves) 114]⟩) () trivial [0] (by decide) rfl
      · rw [if_neg (by simpa using h.1), if_pos h.2]
        refine T_ord ([blkO gw (wkV t n (.slice bp prods.length cp) (nodes + 1) leaves) 114, blkO g5 (treeV p k (.slice bk kids.length ck)).cells 46, blkO g6 (symC (q, m)).toArray 58]) (.calm 0 (.calm 1 (.calm 2 (.calm 3 (.calm 4 (.calm 5 (.calm 6 (.calm 7 (.calm 8 (.calm 9 (.calm 10 (.calm 11 (.calm 12 (.calm 13 (.calm 14 (.calm 15 (.calm 16 (.calm 17 (.done))))))))))))))))))) (fun _ h => h) (by kernel_rfl) (by kernel_rfl) (by intro c a d v w h; cases d <;> exact h) ?_
        repeat (first
          | ((first | refine TW_plain rfl rfl ?_ | refine TW_gmet rfl rfl rfl rfl ?_); (first
              | refine TN_val (rr_move rfl) rfl rfl ?_
              | refine TN_val (rr_assign rfl) rfl rfl ?_
              | refine TN_val (rr_load1 TyC.ty rfl (at_blk (i := 0) rfl rfl)) rfl rfl ?_
              | refine TN_val (rr_load1 TyC.ty rfl (at_blk (i := 1) rfl rfl)) rfl rfl ?_
              | refine TN_val (rr_pickT rfl rfl) rfl rfl ?_
              | refine TN_val (rr_pickF rfl rfl) rfl rfl ?_
              | refine TN_val (rr_len Und.eq rfl) rfl rfl ?_
              | refine TN_val (rr_field FldC.fld rfl rfl) rfl rfl ?_
              | refine TN_val (rr_nilc rfl) rfl rfl ?_
              | refine TN_val (rr_lss rfl rfl (decide_eq_true (by omega))) rfl rfl ?_
              | refine TN_val (rr_lss rfl rfl (decide_eq_false (by omega))) rfl rfl ?_
              | refine TN_val (rr_gtr rfl rfl (decide_eq_true (by omega))) rfl rfl ?_
              | refine TN_val (rr_gtr rfl rfl (decide_eq_false (by omega))) rfl rfl ?_
              | refine TN_val (rr_eql rfl rfl (decide_eq_true (by omega))) rfl rfl ?_
              | refine TN_val (rr_eql rfl rfl (decide_eq_false (by omega))) rfl rfl ?_
              | refine TN_val (rr_neq rfl rfl (decide_eq_true (by omega))) rfl rfl ?_
              | refine TN_val (rr_neq rfl rfl (decide_eq_false (by omega))) rfl rfl ?_
              | refine TN_val (rr_add64 rfl rfl (by omega) (by omega) rfl) rfl rfl ?_
              | refine TN_val (rr_geq rfl rfl (decide_eq_true (by omega))) rfl rfl ?_
              | refine TN_val (rr_geq rfl rfl (decide_eq_false (by omega))) rfl rfl ?_))
          | refine TW_skip rfl rfl rfl rfl rfl rfl rfl ?_
          | refine TW_done ?_)
        repeat (first
          | refine TL_valg rfl (rr_move rfl) rfl rfl ?_
          | refine TL_valg rfl (rr_assign rfl) rfl rfl ?_
          | refine TL_nil ?_
          | refine T_seq ?_
          | refine T_region ?_
          | refine T_condT rfl ?_
          | refine T_condF rfl ?_
          | refine T_skip ?_
          | refine T_exit ?_
          | refine T_ret ?_
          | refine T_block ?_
          | refine E_then ?_
          | refine E_thenX ?_
          | refine E_thenR ?_
          | refine E_blockN ?_
          | refine E_blockR ?_
          | refine E_blockX ?_
          | refine E_blockO rfl ?_
          | refine TL_valg rfl (rr_pickT rfl rfl) rfl rfl ?_
          | refine TL_valg rfl (rr_pickF rfl rfl) rfl rfl ?_
          | refine TL_valg rfl (rr_len Und.eq rfl) rfl rfl ?_
          | refine TL_valg rfl (rr_field FldC.fld rfl rfl) rfl rfl ?_
          | refine TL_valg rfl (rr_nilc rfl) rfl rfl ?_
          | refine TL_valg rfl (rr_lss rfl rfl (decide_eq_true (by omega))) rfl rfl ?_
          | refine TL_valg rfl (rr_lss rfl rfl (decide_eq_false (by omega))) rfl rfl ?_
          | refine TL_valg rfl (rr_gtr rfl rfl (decide_eq_true (by omega))) rfl rfl ?_
          | refine TL_valg rfl (rr_gtr rfl rfl (decide_eq_false (by omega))) rfl rfl ?_
          | refine TL_valg rfl (rr_eql rfl rfl (decide_eq_true (by omega))) rfl rfl ?_
          | refine TL_valg rfl (rr_eql rfl rfl (decide_eq_false (by omega))) rfl rfl ?_
          | refine TL_valg rfl (rr_neq rfl rfl (decide_eq_true (by omega))) rfl rfl ?_
          | refine TL_valg rfl (rr_neq rfl rfl (decide_eq_false (by omega))) rfl rfl ?_
          | refine TL_valg rfl (rr_add64 rfl rfl (by omega) (by omega) rfl) rfl rfl ?_
          | refine TL_skip rfl rfl rfl rfl rfl rfl ?_
          | (refine TL_metg rfl rfl rfl ?_; (first | refine TL_valg rfl (rr_move rfl) rfl rfl ?_ | refine TL_valg rfl (rr_len Und.eq rfl) rfl rfl ?_ | refine TL_valg rfl (rr_field FldC.fld rfl rfl) rfl rfl ?_ | refine TL_valg rfl (rr_nilc rfl) rfl rfl ?_ | refine TL_valg rfl (rr_gtr rfl rfl (decide_eq_true (by omega))) rfl rfl ?_ | refine TL_valg rfl (rr_gtr rfl rfl (decide_eq_false (by omega))) rfl rfl ?_ | refine TL_valg rfl (rr_geq rfl rfl (decide_eq_true (by omega))) rfl rfl ?_ | refine TL_valg rfl (rr_geq rfl rfl (decide_eq_false (by omega))) rfl rfl ?_ | refine TL_valg rfl (rr_neq rfl rfl (decide_eq_true (by omega))) rfl rfl ?_ | refine TL_valg rfl (rr_neq rfl rfl (decide_eq_false (by omega))) rfl rfl ?_)))
        exact E_ret1 rfl rfl fun w hm => hm.meetsB (S := ⟨fun (_ : Unit) => True, fun _ => .int .i64 4, fun _ => [blkO gw (wkV t n (.slice bp prods.length cp) (nodes + 1) leaves) 114]⟩) () trivial [0] (by decide) rfl
      · rw [if_neg (by simpa using h.1), if_neg (by simpa using h.2.1), if_pos h.2.2]
        refine T_ord ([blkO gw (wkV t n (.slice bp prods.length cp) (nodes + 1) leaves) 114, blkO g5 (treeV p k (.slice bk kids.length ck)).cells 46, blkO g6 (symC (q, m)).toArray 58]) (.calm 0 (.calm 1 (.calm 2 (.calm 3 (.calm 4 (.calm 5 (.calm 6 (.calm 7 (.calm 8 (.calm 9 (.calm 10 (.calm 11 (.calm 12 (.calm 13 (.calm 14 (.calm 15 (.calm 16 (.calm 17 (.done))))))))))))))))))) (fun _ h => h) (by kernel_rfl) (by kernel_rfl) (by intro c a d v w h; cases d <;> exact h) ?_
        repeat (first
          | ((first | refine TW_plain rfl rfl ?_ | refine TW_gmet rfl rfl rfl rfl ?_); (first
              | refine TN_val (rr_move rfl) rfl rfl ?_
              | refine TN_val (rr_assign rfl) rfl rfl ?_
              | refine TN_val (rr_load1 TyC.ty rfl (at_blk (i := 0) rfl rfl)) rfl rfl ?_
              | refine TN_val (rr_load1 TyC.ty rfl (at_blk (i := 1) rfl rfl)) rfl rfl ?_
              | refine TN_val (rr_pickT rfl rfl) rfl rfl ?_
              | refine TN_val (rr_pickF rfl rfl) rfl rfl ?_
              | refine TN_val (rr_len Und.eq rfl) rfl rfl ?_
              | refine TN_val (rr_field FldC.fld rfl rfl) rfl rfl ?_
              | refine TN_val (rr_nilc rfl) rfl rfl ?_
              | refine TN_val (rr_lss rfl rfl (decide_eq_true (by omega))) rfl rfl ?_
              | refine TN_val (rr_lss rfl rfl (decide_eq_false (by omega))) rfl rfl ?_
              | refine TN_val (rr_gtr rfl rfl (decide_eq_true (by omega))) rfl rfl ?_
              | refine TN_val (rr_gtr rfl rfl (decide_eq_false (by omega))) rfl rfl ?_
              | refine TN_val (rr_eql rfl rfl (decide_eq_true (by omega))) rfl rfl ?_
              | refine TN_val (rr_eql rfl rfl (decide_eq_false (by omega))) rfl rfl ?_
              | refine TN_val (rr_neq rfl rfl (decide_eq_true (by omega))) rfl rfl ?_
              | refine TN_val (rr_neq rfl rfl (decide_eq_false (by omega))) rfl rfl ?_
              | refine TN_val (rr_add64 rfl rfl (by omega) (by omega) rfl) rfl rfl ?_
              | refine TN_val (rr_geq rfl rfl (decide_eq_true (by omega))) rfl rfl ?_
              | refine TN_val (rr_geq rfl rfl (decide_eq_false (by omega))) rfl rfl ?_))
          | refine TW_skip rfl rfl rfl rfl rfl rfl rfl ?_
          | refine TW_done ?_)
        repeat (first
          | refine TL_valg rfl (rr_move rfl) rfl rfl ?_
          | refine TL_valg rfl (rr_assign rfl) rfl rfl ?_
          | refine TL_nil ?_
          | refine T_seq ?_
          | refine T_region ?_
          | refine T_condT rfl ?_
          | refine T_condF rfl ?_
          | refine T_skip ?_
          | refine T_exit ?_
          | refine T_ret ?_
          | refine T_block ?_
          | refine E_then ?_
          | refine E_thenX ?_
          | refine E_thenR ?_
          | refine E_blockN ?_
          | refine E_blockR ?_
          | refine E_blockX ?_
          | refine E_blockO rfl ?_
          | refine TL_valg rfl (rr_pickT rfl rfl) rfl rfl ?_
          | refine TL_valg rfl (rr_pickF rfl rfl) rfl rfl ?_
          | refine TL_valg rfl (rr_len Und.eq rfl) rfl rfl ?_
          | refine TL_valg rfl (rr_field FldC.fld rfl rfl) rfl rfl ?_
          | refine TL_valg rfl (rr_nilc rfl) rfl rfl ?_
          | refine TL_valg rfl (rr_lss rfl rfl (decide_eq_true (by omega))) rfl rfl ?_
          | refine TL_valg rfl (rr_lss rfl rfl (decide_eq_false (by omega))) rfl rfl ?_
          | refine TL_valg rfl (rr_gtr rfl rfl (decide_eq_true (by omega))) rfl rfl ?_
          | refine TL_valg rfl (rr_gtr rfl rfl (decide_eq_false (by omega))) rfl rfl ?_
          | refine TL_valg rfl (rr_eql rfl rfl (decide_eq_true (by omega))) rfl rfl ?_
          | refine TL_valg rfl (rr_eql rfl rfl (decide_eq_false (by omega))) rfl rfl ?_
          | refine TL_valg rfl (rr_neq rfl rfl (decide_eq_true (by omega))) rfl rfl ?_
          | refine TL_valg rfl (rr_neq rfl rfl (decide_eq_false (by omega))) rfl rfl ?_
          | refine TL_valg rfl (rr_add64 rfl rfl (by omega) (by omega) rfl) rfl rfl ?_
          | refine TL_skip rfl rfl rfl rfl rfl rfl ?_
          | (refine TL_metg rfl rfl rfl ?_; (first | refine TL_valg rfl (rr_move rfl) rfl rfl ?_ | refine TL_valg rfl (rr_len Und.eq rfl) rfl rfl ?_ | refine TL_valg rfl (rr_field FldC.fld rfl rfl) rfl rfl ?_ | refine TL_valg rfl (rr_nilc rfl) rfl rfl ?_ | refine TL_valg rfl (rr_gtr rfl rfl (decide_eq_true (by omega))) rfl rfl ?_ | refine TL_valg rfl (rr_gtr rfl rfl (decide_eq_false (by omega))) rfl rfl ?_ | refine TL_valg rfl (rr_geq rfl rfl (decide_eq_true (by omega))) rfl rfl ?_ | refine TL_valg rfl (rr_geq rfl rfl (decide_eq_false (by omega))) rfl rfl ?_ | refine TL_valg rfl (rr_neq rfl rfl (decide_eq_true (by omega))) rfl rfl ?_ | refine TL_valg rfl (rr_neq rfl rfl (decide_eq_false (by omega))) rfl rfl ?_)))
        exact E_ret1 rfl rfl fun w hm => hm.meetsB (S := ⟨fun (_ : Unit) => True, fun _ => .int .i64 4, fun _ => [blkO gw (wkV t n (.slice bp prods.length cp) (nodes + 1) leaves) 114]⟩) () trivial [0] (by decide) rfl
      · rw [if_neg (by simpa using h.1), if_neg (by simpa using h.2.1), if_neg (by omega)]
        refine T_ord ([blkO gw (wkV t n (.slice bp prods.length cp) (nodes + 1) leaves) 114, blkO g5 (treeV p k (.slice bk kids.length ck)).cells 46, blkO g6 (symC (q, m)).toArray 58]) (.calm 0 (.calm 1 (.calm 2 (.calm 3 (.calm 4 (.calm 5 (.calm 6 (.calm 7 (.calm 8 (.calm 9 (.calm 10 (.calm 11 (.calm 12 (.calm 13 (.calm 14 (.calm 15 (.calm 16 (.calm 17 (.done))))))))))))))))))) (fun _ h => h) (by kernel_rfl) (by kernel_rfl) (by intro c a d v w h; cases d <;> exact h) ?_
        repeat (first
          | ((first | refine TW_plain rfl rfl ?_ | refine TW_gmet rfl rfl rfl rfl ?_); (first
              | refine TN_val (rr_move rfl) rfl rfl ?_
              | refine TN_val (rr_assign rfl) rfl rfl ?_
              | refine TN_val (rr_load1 TyC.ty rfl (at_blk (i := 0) rfl rfl)) rfl rfl ?_
              | refine TN_val (rr_load1 TyC.ty rfl (at_blk (i := 1) rfl rfl)) rfl rfl ?_
              | refine TN_val (rr_pickT rfl rfl) rfl rfl ?_
              | refine TN_val (rr_pickF rfl rfl) rfl rfl ?_
              | refine TN_val (rr_len Und.eq rfl) rfl rfl ?_
              | refine TN_val (rr_field FldC.fld rfl rfl) rfl rfl ?_
              | refine TN_val (rr_nilc rfl) rfl rfl ?_
              | refine TN_val (rr_lss rfl rfl (decide_eq_true (by omega))) rfl rfl ?_
              | refine TN_val (rr_lss rfl rfl (decide_eq_false (by omega))) rfl rfl ?_
              | refine TN_val (rr_gtr rfl rfl (decide_eq_true (by omega))) rfl rfl ?_
              | refine TN_val (rr_gtr rfl rfl (decide_eq_false (by omega))) rfl rfl ?_
              | refine TN_val (rr_eql rfl rfl (decide_eq_true (by omega))) rfl rfl ?_
              | refine TN_val (rr_eql rfl rfl (decide_eq_false (by omega))) rfl rfl ?_
              | refine TN_val (rr_neq rfl rfl (decide_eq_true (by omega))) rfl rfl ?_
              | refine TN_val (rr_neq rfl rfl (decide_eq_false (by omega))) rfl rfl ?_
              | refine TN_val (rr_add64 rfl rfl (by omega) (by omega) rfl) rfl rfl ?_
              | refine TN_val (rr_geq rfl rfl (decide_eq_true (by omega))) rfl rfl ?_
              | refine TN_val (rr_geq rfl rfl (decide_eq_false (by omega))) rfl rfl ?_))
          | refine TW_skip rfl rfl rfl rfl rfl rfl rfl ?_
          | refine TW_done ?_)
        repeat (first
          | refine TL_valg rfl (rr_move rfl) rfl rfl ?_
          | refine TL_valg rfl (rr_assign rfl) rfl rfl ?_
          | refine TL_nil ?_
          | refine T_seq ?_
          | refine T_region ?_
          | refine T_condT rfl ?_
          | refine T_condF rfl ?_
          | refine T_skip ?_
          | refine T_exit ?_
          | refine T_ret ?_
          | refine T_block ?_
          | refine E_then ?_
          | refine E_thenX ?_
          | refine E_thenR ?_
          | refine E_blockN ?_
          | refine E_blockR ?_
          | refine E_blockX ?_
          | refine E_blockO rfl ?_
          | refine TL_valg rfl (rr_load1 TyC.ty rfl (at_blk (i := 0) rfl rfl)) rfl rfl ?_
          | refine TL_valg rfl (rr_add64 (r := ((leaves + 1 : Nat) : Int)) rfl rfl (by omega) (by omega) (by omega)) rfl rfl ?_
          | refine TL_valg rfl (rr_pickT rfl rfl) rfl rfl ?_
          | refine TL_valg rfl (rr_pickF rfl rfl) rfl rfl ?_
          | refine TL_valg rfl (rr_len Und.eq rfl) rfl rfl ?_
          | refine TL_valg rfl (rr_field FldC.fld rfl rfl) rfl rfl ?_
          | refine TL_valg rfl (rr_nilc rfl) rfl rfl ?_
          | refine TL_valg rfl (rr_lss rfl rfl (decide_eq_true (by omega))) rfl rfl ?_
          | refine TL_valg rfl (rr_lss rfl rfl (decide_eq_false (by omega))) rfl rfl ?_
          | refine TL_valg rfl (rr_gtr rfl rfl (decide_eq_true (by omega))) rfl rfl ?_
          | refine TL_valg rfl (rr_gtr rfl rfl (decide_eq_false (by omega))) rfl rfl ?_
          | refine TL_valg rfl (rr_eql rfl rfl (decide_eq_true (by omega))) rfl rfl ?_
          | refine TL_valg rfl (rr_eql rfl rfl (decide_eq_false (by omega))) rfl rfl ?_
          | refine TL_valg rfl (rr_neq rfl rfl (decide_eq_true (by omega))) rfl rfl ?_
          | refine TL_valg rfl (rr_neq rfl rfl (decide_eq_false (by omega))) rfl rfl ?_
          | refine TL_valg rfl (rr_add64 rfl rfl (by omega) (by omega) rfl) rfl rfl ?_
          | refine TL_skip rfl rfl rfl rfl rfl rfl ?_
          | (refine TL_metg rfl rfl rfl ?_; (first | refine TL_valg rfl (rr_load1 TyC.ty rfl (at_blk (i := 0) rfl rfl)) rfl rfl ?_ | refine TL_valg rfl (rr_move rfl) rfl rfl ?_ | refine TL_valg rfl (rr_len Und.eq rfl) rfl rfl ?_ | refine TL_valg rfl (rr_field FldC.fld rfl rfl) rfl rfl ?_ | refine TL_valg rfl (rr_nilc rfl) rfl rfl ?_ | refine TL_valg rfl (rr_gtr rfl rfl (decide_eq_true (by omega))) rfl rfl ?_ | refine TL_valg rfl (rr_gtr rfl rfl (decide_eq_false (by omega))) rfl rfl ?_ | refine TL_valg rfl (rr_geq rfl rfl (decide_eq_true (by omega))) rfl rfl ?_ | refine TL_valg rfl (rr_geq rfl rfl (decide_eq_false (by omega))) rfl rfl ?_ | refine TL_valg rfl (rr_neq rfl rfl (decide_eq_true (by omega))) rfl rfl ?_ | refine TL_valg rfl (rr_neq rfl rfl (decide_eq_false (by omega))) rfl rfl ?_)))
        refine TL_store1 (i := 0) rfl rfl rfl rfl rfl rfl ?_
        rw [show (wkV t n (.slice bp prods.length cp) (nodes + 1) leaves).setIfInBounds (0 + 4) (.int .i64 ((leaves + 1 : Nat) : Int)) = wkV t n (.slice bp prods.length cp) (nodes + 1) (leaves + 1) from rfl]
        conv => arg 8; simp only [List.cons_append, List.nil_append, List.append_nil, List.filterMap_cons, List.filterMap_nil, List.getElem?_cons_succ, List.getElem?_cons_zero, List.set_cons_zero, List.set_cons_succ, rowS, ret, id_eq]
        repeat (first
          | refine TL_valg rfl (rr_move rfl) rfl rfl ?_
          | refine TL_valg rfl (rr_assign rfl) rfl rfl ?_
          | refine TL_nil ?_
          | refine T_seq ?_
          | refine T_region ?_
          | refine T_condT rfl ?_
          | refine T_condF rfl ?_
          | refine T_skip ?_
          | refine T_exit ?_
          | refine T_ret ?_
          | refine T_block ?_
          | refine E_then ?_
          | refine E_thenX ?_
          | refine E_thenR ?_
          | refine E_blockN ?_
          | refine E_blockR ?_
          | refine E_blockX ?_
          | refine E_blockO rfl ?_
          | refine TL_valg rfl (rr_pickT rfl rfl) rfl rfl ?_
          | refine TL_valg rfl (rr_pickF rfl rfl) rfl rfl ?_
          | refine TL_valg rfl (rr_len Und.eq rfl) rfl rfl ?_
          | refine TL_valg rfl (rr_field FldC.fld rfl rfl) rfl rfl ?_
          | refine TL_valg rfl (rr_nilc rfl) rfl rfl ?_
          | refine TL_valg rfl (rr_lss rfl rfl (decide_eq_true (by omega))) rfl rfl ?_
          | refine TL_valg rfl (rr_lss rfl rfl (decide_eq_false (by omega))) rfl rfl ?_
          | refine TL_valg rfl (rr_gtr rfl rfl (decide_eq_true (by omega))) rfl rfl ?_
          | refine TL_valg rfl (rr_gtr rfl rfl (decide_eq_false (by omega))) rfl rfl ?_
          | refine TL_valg rfl (rr_eql rfl rfl (decide_eq_true (by omega))) rfl rfl ?_
          | refine TL_valg rfl (rr_eql rfl rfl (decide_eq_false (by omega))) rfl rfl ?_
          | refine TL_valg rfl (rr_neq rfl rfl (decide_eq_true (by omega))) rfl rfl ?_
          | refine TL_valg rfl (rr_neq rfl rfl (decide_eq_false (by omega))) rfl rfl ?_
          | refine TL_valg rfl (rr_add64 rfl rfl (by omega) (by omega) rfl) rfl rfl ?_
          | refine TL_skip rfl rfl rfl rfl rfl rfl ?_
          | (refine TL_metg rfl rfl rfl ?_; (first | refine TL_valg rfl (rr_move rfl) rfl rfl ?_ | refine TL_valg rfl (rr_len Und.eq rfl) rfl rfl ?_ | refine TL_valg rfl (rr_field FldC.fld rfl rfl) rfl rfl ?_ | refine TL_valg rfl (rr_nilc rfl) rfl rfl ?_ | refine TL_valg rfl (rr_gtr rfl rfl (decide_eq_true (by omega))) rfl rfl ?_ | refine TL_valg rfl (rr_gtr rfl rfl (decide_eq_false (by omega))) rfl rfl ?_ | refine TL_valg rfl (rr_geq rfl rfl (decide_eq_true (by omega))) rfl rfl ?_ | refine TL_valg rfl (rr_geq rfl rfl (decide_eq_false (by omega))) rfl rfl ?_ | refine TL_valg rfl (rr_neq rfl rfl (decide_eq_true (by omega))) rfl rfl ?_ | refine TL_valg rfl (rr_neq rfl rfl (decide_eq_false (by omega))) rfl rfl ?_)))
        exact E_ret1 rfl rfl fun w hm => hm.meetsB (S := ⟨fun (_ : Unit) => True, fun _ => .int .i64 0, fun _ => [blkO gw (wkV t n (.slice bp prods.length cp) (nodes + 1) (leaves + 1)) 114]⟩) () trivial [0] (by decide) rfl
    · rw [if_neg c3]
      repeat (first
        | refine TL_valg rfl (rr_move rfl) rfl rfl ?_
        | refine TL_valg rfl (rr_assign rfl) rfl rfl ?_
        | refine TL_nil ?_
        | refine T_seq ?_
        | refine T_region ?_
        | refine T_condT rfl ?_
        | refine T_condF rfl ?_
        | refine T_skip ?_
        | refine T_exit ?_
        | refine T_ret ?_
        | refine T_block ?_
        | refine E_then ?_
        | refine E_thenX ?_
        | refine E_thenR ?_
        | refine E_blockN ?_
        | refine E_blockR ?_
        | refine E_blockX ?_
        | refine E_blockO rfl ?_
        | refine TL_valg rfl (rr_load1 TyC.ty rfl (at_blk (i := 0) rfl rfl)) rfl rfl ?_
        | refine TL_valg rfl (rr_load1 TyC.ty rfl (at_blk (i := 2) rfl rfl)) rfl rfl ?_
        | refine TL_valg rfl (rr_pickT rfl rfl) rfl rfl ?_
        | refine TL_valg rfl (rr_pickF rfl rfl) rfl rfl ?_
        | refine TL_valg rfl (rr_len Und.eq rfl) rfl rfl ?_
        | refine TL_valg rfl (rr_field FldC.fld rfl rfl) rfl rfl ?_
        | refine TL_valg rfl (rr_nilc rfl) rfl rfl ?_
        | refine TL_valg rfl (rr_lss rfl rfl (decide_eq_true (by omega))) rfl rfl ?_
        | refine TL_valg rfl (rr_lss rfl rfl (decide_eq_false (by omega))) rfl rfl ?_
        | refine TL_valg rfl (rr_gtr rfl rfl (decide_eq_true (by omega))) rfl rfl ?_
        | refine TL_valg rfl (rr_gtr rfl rfl (decide_eq_false (by omega))) rfl rfl ?_
        | refine TL_valg rfl (rr_eql rfl rfl (decide_eq_true (by omega))) rfl rfl ?_
        | refine TL_valg rfl (rr_eql rfl rfl (decide_eq_false (by omega))) rfl rfl ?_
        | refine TL_valg rfl (rr_neq rfl rfl (decide_eq_true (by omega))) rfl rfl ?_
        | refine TL_valg rfl (rr_neq rfl rfl (decide_eq_false (by omega))) rfl rfl ?_
        | refine TL_valg rfl (rr_add64 rfl rfl (by omega) (by omega) rfl) rfl rfl ?_
        | refine TL_skip rfl rfl rfl rfl rfl rfl ?_
        | (refine TL_metg rfl rfl rfl ?_; (first | refine TL_valg rfl (rr_load1 TyC.ty rfl (at_blk (i := 0) rfl rfl)) rfl rfl ?_ | refine TL_valg rfl (rr_load1 TyC.ty rfl (at_blk (i := 2) rfl rfl)) rfl rfl ?_ | refine TL_valg rfl (rr_move rfl) rfl rfl ?_ | refine TL_valg rfl (rr_len Und.eq rfl) rfl rfl ?_ | refine TL_valg rfl (rr_field FldC.fld rfl rfl) rfl rfl ?_ | refine TL_valg rfl (rr_nilc rfl) rfl rfl ?_ | refine TL_valg rfl (rr_gtr rfl rfl (decide_eq_true (by omega))) rfl rfl ?_ | refine TL_valg rfl (rr_gtr rfl rfl (decide_eq_false (by omega))) rfl rfl ?_ | refine TL_valg rfl (rr_geq rfl rfl (decide_eq_true (by omega))) rfl rfl ?_ | refine TL_valg rfl (rr_geq rfl rfl (decide_eq_false (by omega))) rfl rfl ?_ | refine TL_valg rfl (rr_neq rfl rfl (decide_eq_true (by omega))) rfl rfl ?_ | refine TL_valg rfl (rr_neq rfl rfl (decide_eq_false (by omega))) rfl rfl ?_)))
      refine T_ord ([blkO gw (wkV t n (.slice bp prods.length cp) (nodes + 1) leaves) 114, blkO g5 (treeV p k (.slice bk kids.length ck)).cells 46, blkO g6 (symC (q, m)).toArray 58]) (.calm 0 (.calm 1 (.calm 2 (.calm 3 (.calm 4 (.calm 5 (.calm 6 (.calm 7 (.calm 8 (.calm 9 (.calm 10 (.calm 11 (.calm 12 (.calm 13 (.calm 14 (.calm 15 (.calm 16 (.calm 17 (.calm 18 (.calm 19 (.calm 20 (.calm 21 (.calm 22 (.calm 23 (.calm 24 (.calm 25 (.calm 26 (.calm 27 (.calm 28 (.calm 29 (.calm 30 (.calm 31 (.calm 32 (.calm 33 (.calm 34 (.calm 35 (.calm 36 (.calm 37 (.calm 38 (.calm 39 (.calm 40 (.calm 41 (.calm 42 (.calm 43 (.calm 44 (.calm 45 (.calm 46 (.calm 47 (.calm 48 (.calm 49 (.calm 50 (.calm 51 (.done))))))))))))))))))))))))))))))))))))))))))))))))))))) (fun _ h => h) (by kernel_rfl) (by kernel_rfl) (by intro c a d v w h; cases d <;> exact h) ?_
      by_cases h1 : p < 0
      · rw [if_pos h1]
        repeat (first
          | ((first | refine TW_plain rfl rfl ?_ | refine TW_gmet rfl rfl rfl rfl ?_); (first
              | refine TN_val (rr_move rfl) rfl rfl ?_
              | refine TN_val (rr_assign rfl) rfl rfl ?_
              | refine TN_val (rr_load1 TyC.ty rfl (at_blk (i := 0) rfl rfl)) rfl rfl ?_
              | refine TN_val (rr_load1 TyC.ty rfl (at_blk (i := 1) rfl rfl)) rfl rfl ?_
              | refine TN_val (rr_load1 TyC.ty rfl (at_blk (i := 2) rfl rfl)) rfl rfl ?_
              | refine TN_val (rr_pickT rfl rfl) rfl rfl ?_
              | refine TN_val (rr_pickF rfl rfl) rfl rfl ?_
              | refine TN_val (rr_len Und.eq rfl) rfl rfl ?_
              | refine TN_val (rr_field FldC.fld rfl rfl) rfl rfl ?_
              | refine TN_val (rr_nilc rfl) rfl rfl ?_
              | refine TN_val (rr_lss rfl rfl (decide_eq_true (by omega))) rfl rfl ?_
              | refine TN_val (rr_lss rfl rfl (decide_eq_false (by omega))) rfl rfl ?_
              | refine TN_val (rr_gtr rfl rfl (decide_eq_true (by omega))) rfl rfl ?_
              | refine TN_val (rr_gtr rfl rfl (decide_eq_false (by omega))) rfl rfl ?_
              | refine TN_val (rr_eql rfl rfl (decide_eq_true (by omega))) rfl rfl ?_
              | refine TN_val (rr_eql rfl rfl (decide_eq_false (by omega))) rfl rfl ?_
              | refine TN_val (rr_neq rfl rfl (decide_eq_true (by omega))) rfl rfl ?_
              | refine TN_val (rr_neq rfl rfl (decide_eq_false (by omega))) rfl rfl ?_
              | refine TN_val (rr_add64 rfl rfl (by omega) (by omega) rfl) rfl rfl ?_
              | refine TN_val (rr_geq rfl rfl (decide_eq_true (by omega))) rfl rfl ?_
              | refine TN_val (rr_geq rfl rfl (decide_eq_false (by omega))) rfl rfl ?_))
          | refine TW_skip rfl rfl rfl rfl rfl rfl rfl ?_
          | refine TW_done ?_)
        repeat (first
          | refine TL_valg rfl (rr_move rfl) rfl rfl ?_
          | refine TL_valg rfl (rr_assign rfl) rfl rfl ?_
          | refine TL_nil ?_
          | refine T_seq ?_
          | refine T_region ?_
          | refine T_condT rfl ?_
          | refine T_condF rfl ?_
          | refine T_skip ?_
          | refine T_exit ?_
          | refine T_ret ?_
          | refine T_block ?_
          | refine E_then ?_
          | refine E_thenX ?_
          | refine E_thenR ?_
          | refine E_blockN ?_
          | refine E_blockR ?_
          | refine E_blockX ?_
          | refine E_blockO rfl ?_
          | refine TL_valg rfl (rr_pickT rfl rfl) rfl rfl ?_
          | refine TL_valg rfl (rr_pickF rfl rfl) rfl rfl ?_
          | refine TL_valg rfl (rr_len Und.eq rfl) rfl rfl ?_
          | refine TL_valg rfl (rr_field FldC.fld rfl rfl) rfl rfl ?_
          | refine TL_valg rfl (rr_nilc rfl) rfl rfl ?_
          | refine TL_valg rfl (rr_lss rfl rfl (decide_eq_true (by omega))) rfl rfl ?_
          | refine TL_valg rfl (rr_lss rfl rfl (decide_eq_false (by omega))) rfl rfl ?_
          | refine TL_valg rfl (rr_gtr rfl rfl (decide_eq_true (by omega))) rfl rfl ?_
          | refine TL_valg rfl (rr_gtr rfl rfl (decide_eq_false (by omega))) rfl rfl ?_
          | refine TL_valg rfl (rr_eql rfl rfl (decide_eq_true (by omega))) rfl rfl ?_
          | refine TL_valg rfl (rr_eql rfl rfl (decide_eq_false (by omega))) rfl rfl ?_
          | refine TL_valg rfl (rr_neq rfl rfl (decide_eq_true (by omega))) rfl rfl ?_
          | refine TL_valg rfl (rr_neq rfl rfl (decide_eq_false (by omega))) rfl rfl ?_
          | refine TL_valg rfl (rr_add64 rfl rfl (by omega) (by omega) rfl) rfl rfl ?_
          | refine TL_skip rfl rfl rfl rfl rfl rfl ?_
          | (refine TL_metg rfl rfl rfl ?_; (first | refine TL_valg rfl (rr_move rfl) rfl rfl ?_ | refine TL_valg rfl (rr_len Und.eq rfl) rfl rfl ?_ | refine TL_valg rfl (rr_field FldC.fld rfl rfl) rfl rfl ?_ | refine TL_valg rfl (rr_nilc rfl) rfl rfl ?_ | refine TL_valg rfl (rr_gtr rfl rfl (decide_eq_true (by omega))) rfl rfl ?_ | refine TL_valg rfl (rr_gtr rfl rfl (decide_eq_false (by omega))) rfl rfl ?_ | refine TL_valg rfl (rr_geq rfl rfl (decide_eq_true (by omega))) rfl rfl ?_ | refine TL_valg rfl (rr_geq rfl rfl (decide_eq_false (by omega))) rfl rfl ?_ | refine TL_valg rfl (rr_neq rfl rfl (decide_eq_true (by omega))) rfl rfl ?_ | refine TL_valg rfl (rr_neq rfl rfl (decide_eq_false (by omega))) rfl rfl ?_)))
        exact E_ret1 rfl rfl fun w hm => hm.meetsB (S := ⟨fun (_ : Unit) => True, fun _ => .int .i64 4, fun _ => [blkO gw (wkV t n (.slice bp prods.length cp) (nodes + 1) leaves) 114]⟩) () trivial [0] (by decide) rfl
      rw [if_neg h1]
      by_cases h2 : (prods.length : Int) ≤ p
      · rw [if_pos h2]
        repeat (first
          | ((first | refine TW_plain rfl rfl ?_ | refine TW_gmet rfl rfl rfl rfl ?_); (first
              | refine TN_val (rr_move rfl) rfl rfl ?_
              | refine TN_val (rr_assign rfl) rfl rfl ?_
              | refine TN_val (rr_load1 TyC.ty rfl (at_blk (i := 0) rfl rfl)) rfl rfl ?_
              | refine TN_val (rr_load1 TyC.ty rfl (at_blk (i := 1) rfl rfl)) rfl rfl ?_
              | refine TN_val (rr_load1 TyC.ty rfl (at_blk (i := 2) rfl rfl)) rfl rfl ?_
              | refine TN_val (rr_pickT rfl rfl) rfl rfl ?_
              | refine TN_val (rr_pickF rfl rfl) rfl rfl ?_
              | refine TN_val (rr_len Und.eq rfl) rfl rfl ?_
              | refine TN_val (rr_field FldC.fld rfl rfl) rfl rfl ?_
              | refine TN_val (rr_nilc rfl) rfl rfl ?_
              | refine TN_val (rr_lss rfl rfl (decide_eq_true (by omega))) rfl rfl ?_
              | refine TN_val (rr_lss rfl rfl (decide_eq_false (by omega))) rfl rfl ?_
              | refine TN_val (rr_gtr rfl rfl (decide_eq_true (by omega))) rfl rfl ?_
              | refine TN_val (rr_gtr rfl rfl (decide_eq_false (by omega))) rfl rfl ?_
              | refine TN_val (rr_eql rfl rfl (decide_eq_true (by omega))) rfl rfl ?_
              | refine TN_val (rr_eql rfl rfl (decide_eq_false (by omega))) rfl rfl ?_
              | refine TN_val (rr_neq rfl rfl (decide_eq_true (by omega))) rfl rfl ?_
              | refine TN_val (rr_neq rfl rfl (decide_eq_false (by omega))) rfl rfl ?_
              | refine TN_val (rr_add64 rfl rfl (by omega) (by omega) rfl) rfl rfl ?_
              | refine TN_val (rr_geq rfl rfl (decide_eq_true (by omega))) rfl rfl ?_
              | refine TN_val (rr_geq rfl rfl (decide_eq_false (by omega))) rfl rfl ?_))
          | refine TW_skip rfl rfl rfl rfl rfl rfl rfl ?_
          | refine TW_done ?_)
        repeat (first
          | refine TL_valg rfl (rr_move rfl) rfl rfl ?_
          | refine TL_valg rfl (rr_assign rfl) rfl rfl ?_
          | refine TL_nil ?_
          | refine T_seq ?_
          | refine T_region ?_
          | refine T_condT rfl ?_
          | refine T_condF rfl ?_
          | refine T_skip ?_
          | refine T_exit ?_
          | refine T_ret ?_
          | refine T_block ?_
          | refine E_then ?_
          | refine E_thenX ?_
          | refine E_thenR ?_
          | refine E_blockN ?_
          | refine E_blockR ?_
          | refine E_blockX ?_
          | refine E_blockO rfl ?_
          | refine TL_valg rfl (rr_pickT rfl rfl) rfl rfl ?_
          | refine TL_valg rfl (rr_pickF rfl rfl) rfl rfl ?_
          | refine TL_valg rfl (rr_len Und.eq rfl) rfl rfl ?_
          | refine TL_valg rfl (rr_field FldC.fld rfl rfl) rfl rfl ?_
          | refine TL_valg rfl (rr_nilc rfl) rfl rfl ?_
          | refine TL_valg rfl (rr_lss rfl rfl (decide_eq_true (by omega))) rfl rfl ?_
          | refine TL_valg rfl (rr_lss rfl rfl (decide_eq_false (by omega))) rfl rfl ?_
          | refine TL_valg rfl (rr_gtr rfl rfl (decide_eq_true (by omega))) rfl rfl ?_
          | refine TL_valg rfl (rr_gtr rfl rfl (decide_eq_false (by omega))) rfl rfl ?_
          | refine TL_valg rfl (rr_eql rfl rfl (decide_eq_true (by omega))) rfl rfl ?_
          | refine TL_valg rfl (rr_eql rfl rfl (decide_eq_false (by omega))) rfl rfl ?_
          | refine TL_valg rfl (rr_neq rfl rfl (decide_eq_true (by omega))) rfl rfl ?_
          | refine TL_valg rfl (rr_neq rfl rfl (decide_eq_false (by omega))) rfl rfl ?_
          | refine TL_valg rfl (rr_add64 rfl rfl (by omega) (by omega) rfl) rfl rfl ?_
          | refine TL_skip rfl rfl rfl rfl rfl rfl ?_
          | (refine TL_metg rfl rfl rfl ?_; (first | refine TL_valg rfl (rr_move rfl) rfl rfl ?_ | refine TL_valg rfl (rr_len Und.eq rfl) rfl rfl ?_ | refine TL_valg rfl (rr_field FldC.fld rfl rfl) rfl rfl ?_ | refine TL_valg rfl (rr_nilc rfl) rfl rfl ?_ | refine TL_valg rfl (rr_gtr rfl rfl (decide_eq_true (by omega))) rfl rfl ?_ | refine TL_valg rfl (rr_gtr rfl rfl (decide_eq_false (by omega))) rfl rfl ?_ | refine TL_valg rfl (rr_geq rfl rfl (decide_eq_true (by omega))) rfl rfl ?_ | refine TL_valg rfl (rr_geq rfl rfl (decide_eq_false (by omega))) rfl rfl ?_ | refine TL_valg rfl (rr_neq rfl rfl (decide_eq_true (by omega))) rfl rfl ?_ | refine TL_valg rfl (rr_neq rfl rfl (decide_eq_false (by omega))) rfl rfl ?_)))
        exact E_ret1 rfl rfl fun w hm => hm.meetsB (S := ⟨fun (_ : Unit) => True, fun _ => .int .i64 4, fun _ => [blkO gw (wkV t n (.slice bp prods.length cp) (nodes + 1) leaves) 114]⟩) () trivial [0] (by decide) rfl
      rw [if_neg h2]
      obtain ⟨pn, rfl⟩ : ∃ pn : Nat, p = pn := ⟨p.toNat, by omega⟩
      have c6 : pn < prods.length := by omega
      obtain ⟨b, off, rfl, _, hr⟩ := hrp (by omega)
      obtain ⟨bb, cb, q1, q2, q3⟩ := prod_at hr c6
      rw [prodAt_eq c6]
      have hat : ∀ (L : List Own) (j : Nat) (v : Value), ([.int .i64 prods[pn].1, .slice bb prods[pn].2.length cb] : List Value)[j]? = some v → At B L ⟨b, off + pn * 2 + j, none⟩ v := fun L j v hj => at_old0 ho (q1 j v hj)
      have hfl := q3.flat (by decide)
      clear hr hrp q1 q3 q2
      generalize prods[pn] = pd at *
      obtain ⟨hd, body⟩ := pd
      dsimp only at *
      have hat0 := fun L => hat L 0 _ rfl
      have hat1 := fun L => hat L 1 _ rfl
      clear hat
      obtain ⟨b2, cb2, he, hb4, hb5, hb6⟩ := hfl
      simp only [Value.slice.injEq, true_and] at he
      obtain ⟨rfl, rfl⟩ := he
      unfold maxLen at hb5
      repeat (first
        | ((first | refine TW_plain rfl rfl ?_ | refine TW_gmet rfl rfl rfl rfl ?_); (first
            | refine TN_val (rr_move rfl) rfl rfl ?_
            | refine TN_val (rr_assign rfl) rfl rfl ?_
            | refine TN_val (rr_load1 TyC.ty rfl (at_blk (i := 0) rfl rfl)) rfl rfl ?_
            | refine TN_val (rr_load1 TyC.ty rfl (at_blk (i := 1) rfl rfl)) rfl rfl ?_
            | refine TN_val (rr_load1 TyC.ty rfl (at_blk (i := 2) rfl rfl)) rfl rfl ?_
            | refine TN_val (rr_idxc Und.eq TyC.ty rfl rfl c6) rfl rfl ?_
            | refine TN_val (rr_load1 TyC.ty rfl (hat0 _)) rfl rfl ?_
            | refine TN_val (rr_load1 TyC.ty rfl (hat1 _)) rfl rfl ?_
            | refine TN_val (rr_pickT rfl rfl) rfl rfl ?_
            | refine TN_val (rr_pickF rfl rfl) rfl rfl ?_
            | refine TN_val (rr_len Und.eq rfl) rfl rfl ?_
            | refine TN_val (rr_field FldC.fld rfl rfl) rfl rfl ?_
            | refine TN_val (rr_nilc rfl) rfl rfl ?_
            | refine TN_val (rr_lss rfl rfl (decide_eq_true (by omega))) rfl rfl ?_
            | refine TN_val (rr_lss rfl rfl (decide_eq_false (by omega))) rfl rfl ?_
            | refine TN_val (rr_gtr rfl rfl (decide_eq_true (by omega))) rfl rfl ?_
            | refine TN_val (rr_gtr rfl rfl (decide_eq_false (by omega))) rfl rfl ?_
            | refine TN_val (rr_eql rfl rfl (decide_eq_true (by omega))) rfl rfl ?_
            | refine TN_val (rr_eql rfl rfl (decide_eq_false (by omega))) rfl rfl ?_
            | refine TN_val (rr_neq rfl rfl (decide_eq_true (by omega))) rfl rfl ?_
            | refine TN_val (rr_neq rfl rfl (decide_eq_false (by omega))) rfl rfl ?_
            | refine TN_val (rr_add64 rfl rfl (by omega) (by omega) rfl) rfl rfl ?_
            | refine TN_val (rr_geq rfl rfl (decide_eq_true (by omega))) rfl rfl ?_
            | refine TN_val (rr_geq rfl rfl (decide_eq_false (by omega))) rfl rfl ?_))
        | refine TW_skip rfl rfl rfl rfl rfl rfl rfl ?_
        | refine TW_done ?_)
      by_cases h3 : hd ≠ m
      · rw [if_pos h3]
        repeat (first
          | ((first | refine TW_plain rfl rfl ?_ | refine TW_gmet rfl rfl rfl rfl ?_); (first
              | refine TN_val (rr_move rfl) rfl rfl ?_
              | refine TN_val (rr_assign rfl) rfl rfl ?_
              | refine TN_val (rr_load1 TyC.ty rfl (at_blk (i := 0) rfl rfl)) rfl rfl ?_
              | refine TN_val (rr_load1 TyC.ty rfl (at_blk (i := 1) rfl rfl)) rfl rfl ?_
              | refine TN_val (rr_load1 TyC.ty rfl (at_blk (i := 2) rfl rfl)) rfl rfl ?_
              | refine TN_val (rr_idxc Und.eq TyC.ty rfl rfl c6) rfl rfl ?_
              | refine TN_val (rr_load1 TyC.ty rfl (hat0 _)) rfl rfl ?_
              | refine TN_val (rr_load1 TyC.ty rfl (hat1 _)) rfl rfl ?_
              | refine TN_val (rr_pickT rfl rfl) rfl rfl ?_
              | refine TN_val (rr_pickF rfl rfl) rfl rfl ?_
              | refine TN_val (rr_len Und.eq rfl) rfl rfl ?_
              | refine TN_val (rr_field FldC.fld rfl rfl) rfl rfl ?_
              | refine TN_val (rr_nilc rfl) rfl rfl ?_
              | refine TN_val (rr_lss rfl rfl (decide_eq_true (by omega))) rfl rfl ?_
              | refine TN_val (rr_lss rfl rfl (decide_eq_false (by omega))) rfl rfl ?_
              | refine TN_val (rr_gtr rfl rfl (decide_eq_true (by omega))) rfl rfl ?_
              | refine TN_val (rr_gtr rfl rfl (decide_eq_false (by omega))) rfl rfl ?_
              | refine TN_val (rr_eql rfl rfl (decide_eq_true (by omega))) rfl rfl ?_
              | refine TN_val (rr_eql rfl rfl (decide_eq_false (by omega))) rfl rfl ?_
              | refine TN_val (rr_neq rfl rfl (decide_eq_true (by omega))) rfl rfl ?_
              | refine TN_val (rr_neq rfl rfl (decide_eq_false (by omega))) rfl rfl ?_
              | refine TN_val (rr_add64 rfl rfl (by omega) (by omega) rfl) rfl rfl ?_
              | refine TN_val (rr_geq rfl rfl (decide_eq_true (by omega))) rfl rfl ?_
              | refine TN_val (rr_geq rfl rfl (decide_eq_false (by omega))) rfl rfl ?_))
          | refine TW_skip rfl rfl rfl rfl rfl rfl rfl ?_
          | refine TW_done ?_)
        repeat (first
          | refine TL_valg rfl (rr_move rfl) rfl rfl ?_
          | refine TL_valg rfl (rr_assign rfl) rfl rfl ?_
          | refine TL_nil ?_
          | refine T_seq ?_
          | refine T_region ?_
          | refine T_condT rfl ?_
          | refine T_condF rfl ?_
          | refine T_skip ?_
          | refine T_exit ?_
          | refine T_ret ?_
          | refine T_block ?_
          | refine E_then ?_
          | refine E_thenX ?_
          | refine E_thenR ?_
          | refine E_blockN ?_
          | refine E_blockR ?_
          | refine E_blockX ?_
          | refine E_blockO rfl ?_
          | refine TL_valg rfl (rr_pickT rfl rfl) rfl rfl ?_
          | refine TL_valg rfl (rr_pickF rfl rfl) rfl rfl ?_
          | refine TL_valg rfl (rr_len Und.eq rfl) rfl rfl ?_
          | refine TL_valg rfl (rr_field FldC.fld rfl rfl) rfl rfl ?_
          | refine TL_valg rfl (rr_nilc rfl) rfl rfl ?_
          | refine TL_valg rfl (rr_lss rfl rfl (decide_eq_true (by omega))) rfl rfl ?_
          | refine TL_valg rfl (rr_lss rfl rfl (decide_eq_false (by omega))) rfl rfl ?_
          | refine TL_valg rfl (rr_gtr rfl rfl (decide_eq_true (by omega))) rfl rfl ?_
          | refine TL_valg rfl (rr_gtr rfl rfl (decide_eq_false (by omega))) rfl rfl ?_
          | refine TL_valg rfl (rr_eql rfl rfl (decide_eq_true (by omega))) rfl rfl ?_
          | refine TL_valg rfl (rr_eql rfl rfl (decide_eq_false (by omega))) rfl rfl ?_
          | refine TL_valg rfl (rr_neq rfl rfl (decide_eq_true (by omega))) rfl rfl ?_
          | refine TL_valg rfl (rr_neq rfl rfl (decide_eq_false (by omega))) rfl rfl ?_
          | refine TL_valg rfl (rr_add64 rfl rfl (by omega) (by omega) rfl) rfl rfl ?_
          | refine TL_skip rfl rfl rfl rfl rfl rfl ?_
          | (refine TL_metg rfl rfl rfl ?_; (first | refine TL_valg rfl (rr_move rfl) rfl rfl ?_ | refine TL_valg rfl (rr_len Und.eq rfl) rfl rfl ?_ | refine TL_valg rfl (rr_field FldC.fld rfl rfl) rfl rfl ?_ | refine TL_valg rfl (rr_nilc rfl) rfl rfl ?_ | refine TL_valg rfl (rr_gtr rfl rfl (decide_eq_true (by omega))) rfl rfl ?_ | refine TL_valg rfl (rr_gtr rfl rfl (decide_eq_false (by omega))) rfl rfl ?_ | refine TL_valg rfl (rr_geq rfl rfl (decide_eq_true (by omega))) rfl rfl ?_ | refine TL_valg rfl (rr_geq rfl rfl (decide_eq_false (by omega))) rfl rfl ?_ | refine TL_valg rfl (rr_neq rfl rfl (decide_eq_true (by omega))) rfl rfl ?_ | refine TL_valg rfl (rr_neq rfl rfl (decide_eq_false (by omega))) rfl rfl ?_)))
        exact E_ret1 rfl rfl fun w hm => hm.meetsB (S := ⟨fun (_ : Unit) => True, fun _ => .int .i64 4, fun _ => [blkO gw (wkV t n (.slice (some ⟨b, off, none⟩) prods.length cp) (nodes + 1) leaves) 114]⟩) () trivial [0] (by decide) rfl
      rw [if_neg h3]
      by_cases h4 : k ≠ 0
      · rw [if_pos h4]
        repeat (first
          | ((first | refine TW_plain rfl rfl ?_ | refine TW_gmet rfl rfl rfl rfl ?_); (first
              | refine TN_val (rr_move rfl) rfl rfl ?_
              | refine TN_val (rr_assign rfl) rfl rfl ?_
              | refine TN_val (rr_load1 TyC.ty rfl (at_blk (i := 0) rfl rfl)) rfl rfl ?_
              | refine TN_val (rr_load1 TyC.ty rfl (at_blk (i := 1) rfl rfl)) rfl rfl ?_
              | refine TN_val (rr_load1 TyC.ty rfl (at_blk (i := 2) rfl rfl)) rfl rfl ?_
              | refine TN_val (rr_idxc Und.eq TyC.ty rfl rfl c6) rfl rfl ?_
              | refine TN_val (rr_load1 TyC.ty rfl (hat0 _)) rfl rfl ?_
              | refine TN_val (rr_load1 TyC.ty rfl (hat1 _)) rfl rfl ?_
              | refine TN_val (rr_pickT rfl rfl) rfl rfl ?_
              | refine TN_val (rr_pickF rfl rfl) rfl rfl ?_
              | refine TN_val (rr_len Und.eq rfl) rfl rfl ?_
              | refine TN_val (rr_field FldC.fld rfl rfl) rfl rfl ?_
              | refine TN_val (rr_nilc rfl) rfl rfl ?_
              | refine TN_val (rr_lss rfl rfl (decide_eq_true (by omega))) rfl rfl ?_
              | refine TN_val (rr_lss rfl rfl (decide_eq_false (by omega))) rfl rfl ?_
              | refine TN_val (rr_gtr rfl rfl (decide_eq_true (by omega))) rfl rfl ?_
              | refine TN_val (rr_gtr rfl rfl (decide_eq_false (by omega))) rfl rfl ?_
              | refine TN_val (rr_eql rfl rfl (decide_eq_true (by omega))) rfl rfl ?_
              | refine TN_val (rr_eql rfl rfl (decide_eq_false (by omega))) rfl rfl ?_
              | refine TN_val (rr_neq rfl rfl (decide_eq_true (by omega))) rfl rfl ?_
              | refine TN_val (rr_neq rfl rfl (decide_eq_false (by omega))) rfl rfl ?_
              | refine TN_val (rr_add64 rfl rfl (by omega) (by omega) rfl) rfl rfl ?_
              | refine TN_val (rr_geq rfl rfl (decide_eq_true (by omega))) rfl rfl ?_
              | refine TN_val (rr_geq rfl rfl (decide_eq_false (by omega))) rfl rfl ?_))
          | refine TW_skip rfl rfl rfl rfl rfl rfl rfl ?_
          | refine TW_done ?_)
        repeat (first
          | refine TL_valg rfl (rr_move rfl) rfl rfl ?_
          | refine TL_valg rfl (rr_assign rfl) rfl rfl ?_
          | refine TL_nil ?_
          | refine T_seq ?_
          | refine T_region ?_
          | refine T_condT rfl ?_
          | refine T_condF rfl ?_
          | refine T_skip ?_
          | refine T_exit ?_
          | refine T_ret ?_
          | refine T_block ?_
          | refine E_then ?_
          | refine E_thenX ?_
          | refine E_thenR ?_
          | refine E_blockN ?_
          | refine E_blockR ?_
          | refine E_blockX ?_
          | refine E_blockO rfl ?_
          | refine TL_valg rfl (rr_pickT rfl rfl) rfl rfl ?_
          | refine TL_valg rfl (rr_pickF rfl rfl) rfl rfl ?_
          | refine TL_valg rfl (rr_len Und.eq rfl) rfl rfl ?_
          | refine TL_valg rfl (rr_field FldC.fld rfl rfl) rfl rfl ?_
          | refine TL_valg rfl (rr_nilc rfl) rfl rfl ?_
          | refine TL_valg rfl (rr_lss rfl rfl (decide_eq_true (by omega))) rfl rfl ?_
          | refine TL_valg rfl (rr_lss rfl rfl (decide_eq_false (by omega))) rfl rfl ?_
          | refine TL_valg rfl (rr_gtr rfl rfl (decide_eq_true (by omega))) rfl rfl ?_
          | refine TL_valg rfl (rr_gtr rfl rfl (decide_eq_false (by omega))) rfl rfl ?_
          | refine TL_valg rfl (rr_eql rfl rfl (decide_eq_true (by omega))) rfl rfl ?_
          | refine TL_valg rfl (rr_eql rfl rfl (decide_eq_false (by omega))) rfl rfl ?_
          | refine TL_valg rfl (rr_neq rfl rfl (decide_eq_true (by omega))) rfl rfl ?_
          | refine TL_valg rfl (rr_neq rfl rfl (decide_eq_false (by omega))) rfl rfl ?_
          | refine TL_valg rfl (rr_add64 rfl rfl (by omega) (by omega) rfl) rfl rfl ?_
          | refine TL_skip rfl rfl rfl rfl rfl rfl ?_
          | (refine TL_metg rfl rfl rfl ?_; (first | refine TL_valg rfl (rr_move rfl) rfl rfl ?_ | refine TL_valg rfl (rr_len Und.eq rfl) rfl rfl ?_ | refine TL_valg rfl (rr_field FldC.fld rfl rfl) rfl rfl ?_ | refine TL_valg rfl (rr_nilc rfl) rfl rfl ?_ | refine TL_valg rfl (rr_gtr rfl rfl (decide_eq_true (by omega))) rfl rfl ?_ | refine TL_valg rfl (rr_gtr rfl rfl (decide_eq_false (by omega))) rfl rfl ?_ | refine TL_valg rfl (rr_geq rfl rfl (decide_eq_true (by omega))) rfl rfl ?_ | refine TL_valg rfl (rr_geq rfl rfl (decide_eq_false (by omega))) rfl rfl ?_ | refine TL_valg rfl (rr_neq rfl rfl (decide_eq_true (by omega))) rfl rfl ?_ | refine TL_valg rfl (rr_neq rfl rfl (decide_eq_false (by omega))) rfl rfl ?_)))
        exact E_ret1 rfl rfl fun w hm => hm.meetsB (S := ⟨fun (_ : Unit) => True, fun _ => .int .i64 4, fun _ => [blkO gw (wkV t n (.slice (some ⟨b, off, none⟩) prods.length cp) (nodes + 1) leaves) 114]⟩) () trivial [0] (by decide) rfl
      rw [if_neg h4]
      by_cases h5 : kids.length ≠ body.length
      · rw [if_pos h5]
        repeat (first
          | ((first | refine TW_plain rfl rfl ?_ | refine TW_gmet rfl rfl rfl rfl ?_); (first
              | refine TN_val (rr_move rfl) rfl rfl ?_
              | refine TN_val (rr_assign rfl) rfl rfl ?_
              | refine TN_val (rr_load1 TyC.ty rfl (at_blk (i := 0) rfl rfl)) rfl rfl ?_
              | refine TN_val (rr_load1 TyC.ty rfl (at_blk (i := 1) rfl rfl)) rfl rfl ?_
              | refine TN_val (rr_load1 TyC.ty rfl (at_blk (i := 2) rfl rfl)) rfl rfl ?_
              | refine TN_val (rr_idxc Und.eq TyC.ty rfl rfl c6) rfl rfl ?_
              | refine TN_val (rr_load1 TyC.ty rfl (hat0 _)) rfl rfl ?_
              | refine TN_val (rr_load1 TyC.ty rfl (hat1 _)) rfl rfl ?_
              | refine TN_val (rr_pickT rfl rfl) rfl rfl ?_
              | refine TN_val (rr_pickF rfl rfl) rfl rfl ?_
              | refine TN_val (rr_len Und.eq rfl) rfl rfl ?_
              | refine TN_val (rr_field FldC.fld rfl rfl) rfl rfl ?_
              | refine TN_val (rr_nilc rfl) rfl rfl ?_
              | refine TN_val (rr_lss rfl rfl (decide_eq_true (by omega))) rfl rfl ?_
              | refine TN_val (rr_lss rfl rfl (decide_eq_false (by omega))) rfl rfl ?_
              | refine TN_val (rr_gtr rfl rfl (decide_eq_true (by omega))) rfl rfl ?_
              | refine TN_val (rr_gtr rfl rfl (decide_eq_false (by omega))) rfl rfl ?_
              | refine TN_val (rr_eql rfl rfl (decide_eq_true (by omega))) rfl rfl ?_
              | refine TN_val (rr_eql rfl rfl (decide_eq_false (by omega))) rfl rfl ?_
              | refine TN_val (rr_neq rfl rfl (decide_eq_true (by omega))) rfl rfl ?_
              | refine TN_val (rr_neq rfl rfl (decide_eq_false (by omega))) rfl rfl ?_
              | refine TN_val (rr_add64 rfl rfl (by omega) (by omega) rfl) rfl rfl ?_
              | refine TN_val (rr_geq rfl rfl (decide_eq_true (by omega))) rfl rfl ?_
              | refine TN_val (rr_geq rfl rfl (decide_eq_false (by omega))) rfl rfl ?_))
          | refine TW_skip rfl rfl rfl rfl rfl rfl rfl ?_
          | refine TW_done ?_)
        repeat (first
          | refine TL_valg rfl (rr_move rfl) rfl rfl ?_
          | refine TL_valg rfl (rr_assign rfl) rfl rfl ?_
          | refine TL_nil ?_
          | refine T_seq ?_
          | refine T_region ?_
          | refine T_condT rfl ?_
          | refine T_condF rfl ?_
          | refine T_skip ?_
          | refine T_exit ?_
          | refine T_ret ?_
          | refine T_block ?_
          | refine E_then ?_
          | refine E_thenX ?_
          | refine E_thenR ?_
          | refine E_blockN ?_
          | refine E_blockR ?_
          | refine E_blockX ?_
          | refine E_blockO rfl ?_
          | refine TL_valg rfl (rr_pickT rfl rfl) rfl rfl ?_
          | refine TL_valg rfl (rr_pickF rfl rfl) rfl rfl ?_
          | refine TL_valg rfl (rr_len Und.eq rfl) rfl rfl ?_
          | refine TL_valg rfl (rr_field FldC.fld rfl rfl) rfl rfl ?_
          | refine TL_valg rfl (rr_nilc rfl) rfl rfl ?_
          | refine TL_valg rfl (rr_lss rfl rfl (decide_eq_true (by omega))) rfl rfl ?_
          | refine TL_valg rfl (rr_lss rfl rfl (decide_eq_false (by omega))) rfl rfl ?_
          | refine TL_valg rfl (rr_gtr rfl rfl (decide_eq_true (by omega))) rfl rfl ?_
          | refine TL_valg rfl (rr_gtr rfl rfl (decide_eq_false (by omega))) rfl rfl ?_
          | refine TL_valg rfl (rr_eql rfl rfl (decide_eq_true (by omega))) rfl rfl ?_
          | refine TL_valg rfl (rr_eql rfl rfl (decide_eq_false (by omega))) rfl rfl ?_
          | refine TL_valg rfl (rr_neq rfl rfl (decide_eq_true (by omega))) rfl rfl ?_
          | refine TL_valg rfl (rr_neq rfl rfl (decide_eq_false (by omega))) rfl rfl ?_
          | refine TL_valg rfl (rr_add64 rfl rfl (by omega) (by omega) rfl) rfl rfl ?_
          | refine TL_skip rfl rfl rfl rfl rfl rfl ?_
          | (refine TL_metg rfl rfl rfl ?_; (first | refine TL_valg rfl (rr_move rfl) rfl rfl ?_ | refine TL_valg rfl (rr_len Und.eq rfl) rfl rfl ?_ | refine TL_valg rfl (rr_field FldC.fld rfl rfl) rfl rfl ?_ | refine TL_valg rfl (rr_nilc rfl) rfl rfl ?_ | refine TL_valg rfl (rr_gtr rfl rfl (decide_eq_true (by omega))) rfl rfl ?_ | refine TL_valg rfl (rr_gtr rfl rfl (decide_eq_false (by omega))) rfl rfl ?_ | refine TL_valg rfl (rr_geq rfl rfl (decide_eq_true (by omega))) rfl rfl ?_ | refine TL_valg rfl (rr_geq rfl rfl (decide_eq_false (by omega))) rfl rfl ?_ | refine TL_valg rfl (rr_neq rfl rfl (decide_eq_true (by omega))) rfl rfl ?_ | refine TL_valg rfl (rr_neq rfl rfl (decide_eq_false (by omega))) rfl rfl ?_)))
        exact E_ret1 rfl rfl fun w hm => hm.meetsB (S := ⟨fun (_ : Unit) => True, fun _ => .int .i64 4, fun _ => [blkO gw (wkV t n (.slice (some ⟨b, off, none⟩) prods.length cp) (nodes + 1) leaves) 114]⟩) () trivial [0] (by decide) rfl
      rw [if_neg h5]
      have h3 : hd = m := by simpa using h3
      have h4 : k = 0 := by simpa using h4
      have h5 : kids.length = body.length := by simpa using h5
      repeat (first
        | ((first | refine TW_plain rfl rfl ?_ | refine TW_gmet rfl rfl rfl rfl ?_); (first
            | refine TN_val (rr_move rfl) rfl rfl ?_
            | refine TN_val (rr_assign rfl) rfl rfl ?_
            | refine TN_val (rr_load1 TyC.ty rfl (at_blk (i := 0) rfl rfl)) rfl rfl ?_
            | refine TN_val (rr_load1 TyC.ty rfl (at_blk (i := 1) rfl rfl)) rfl rfl ?_
            | refine TN_val (rr_load1 TyC.ty rfl (at_blk (i := 2) rfl rfl)) rfl rfl ?_
            | refine TN_val (rr_idxc Und.eq TyC.ty rfl rfl c6) rfl rfl ?_
            | refine TN_val (rr_load1 TyC.ty rfl (hat0 _)) rfl rfl ?_
            | refine TN_val (rr_load1 TyC.ty rfl (hat1 _)) rfl rfl ?_
            | refine TN_val (rr_pickT rfl rfl) rfl rfl ?_
            | refine TN_val (rr_pickF rfl rfl) rfl rfl ?_
            | refine TN_val (rr_len Und.eq rfl) rfl rfl ?_
            | refine TN_val (rr_field FldC.fld rfl rfl) rfl rfl ?_
            | refine TN_val (rr_nilc rfl) rfl rfl ?_
            | refine TN_val (rr_lss rfl rfl (decide_eq_true (by omega))) rfl rfl ?_
            | refine TN_val (rr_lss rfl rfl (decide_eq_false (by omega))) rfl rfl ?_
            | refine TN_val (rr_gtr rfl rfl (decide_eq_true (by omega))) rfl rfl ?_
            | refine TN_val (rr_gtr rfl rfl (decide_eq_false (by omega))) rfl rfl ?_
            | refine TN_val (rr_eql rfl rfl (decide_eq_true (by omega))) rfl rfl ?_
            | refine TN_val (rr_eql rfl rfl (decide_eq_false (by omega))) rfl rfl ?_
            | refine TN_val (rr_neq rfl rfl (decide_eq_true (by omega))) rfl rfl ?_
            | refine TN_val (rr_neq rfl rfl (decide_eq_false (by omega))) rfl rfl ?_
            | refine TN_val (rr_add64 rfl rfl (by omega) (by omega) rfl) rfl rfl ?_
            | refine TN_val (rr_geq rfl rfl (decide_eq_true (by omega))) rfl rfl ?_
            | refine TN_val (rr_geq rfl rfl (decide_eq_false (by omega))) rfl rfl ?_))
        | refine TW_skip rfl rfl rfl rfl rfl rfl rfl ?_
        | refine TW_done ?_)
      repeat (first
        | refine TL_valg rfl (rr_move rfl) rfl rfl ?_
        | refine TL_valg rfl (rr_assign rfl) rfl rfl ?_
        | refine TL_nil ?_
        | refine T_seq ?_
        | refine T_region ?_
        | refine T_condT rfl ?_
        | refine T_condF rfl ?_
        | refine T_skip ?_
        | refine T_exit ?_
        | refine T_ret ?_
        | refine T_block ?_
        | refine E_then ?_
        | refine E_thenX ?_
        | refine E_thenR ?_
        | refine E_blockN ?_
        | refine E_blockR ?_
        | refine E_blockX ?_
        | refine E_blockO rfl ?_
        | refine TL_valg rfl (rr_load1 TyC.ty rfl (at_blk (i := 1) rfl rfl)) rfl rfl ?_
        | refine TL_valg rfl (rr_pickT rfl rfl) rfl rfl ?_
        | refine TL_valg rfl (rr_pickF rfl rfl) rfl rfl ?_
        | refine TL_valg rfl (rr_len Und.eq rfl) rfl rfl ?_
        | refine TL_valg rfl (rr_field FldC.fld rfl rfl) rfl rfl ?_
        | refine TL_valg rfl (rr_nilc rfl) rfl rfl ?_
        | refine TL_valg rfl (rr_lss rfl rfl (decide_eq_true (by omega))) rfl rfl ?_
        | refine TL_valg rfl (rr_lss rfl rfl (decide_eq_false (by omega))) rfl rfl ?_
        | refine TL_valg rfl (rr_gtr rfl rfl (decide_eq_true (by omega))) rfl rfl ?_
        | refine TL_valg rfl (rr_gtr rfl rfl (decide_eq_false (by omega))) rfl rfl ?_
        | refine TL_valg rfl (rr_eql rfl rfl (decide_eq_true (by omega))) rfl rfl ?_
        | refine TL_valg rfl (rr_eql rfl rfl (decide_eq_false (by omega))) rfl rfl ?_
        | refine TL_valg rfl (rr_neq rfl rfl (decide_eq_true (by omega))) rfl rfl ?_
        | refine TL_valg rfl (rr_neq rfl rfl (decide_eq_false (by omega))) rfl rfl ?_
        | refine TL_valg rfl (rr_add64 rfl rfl (by omega) (by omega) rfl) rfl rfl ?_
        | refine TL_skip rfl rfl rfl rfl rfl rfl ?_
        | (refine TL_metg rfl rfl rfl ?_; (first | refine TL_valg rfl (rr_load1 TyC.ty rfl (at_blk (i := 1) rfl rfl)) rfl rfl ?_ | refine TL_valg rfl (rr_move rfl) rfl rfl ?_ | refine TL_valg rfl (rr_len Und.eq rfl) rfl rfl ?_ | refine TL_valg rfl (rr_field FldC.fld rfl rfl) rfl rfl ?_ | refine TL_valg rfl (rr_nilc rfl) rfl rfl ?_ | refine TL_valg rfl (rr_gtr rfl rfl (decide_eq_true (by omega))) rfl rfl ?_ | refine TL_valg rfl (rr_gtr rfl rfl (decide_eq_false (by omega))) rfl rfl ?_ | refine TL_valg rfl (rr_geq rfl rfl (decide_eq_true (by omega))) rfl rfl ?_ | refine TL_valg rfl (rr_geq rfl rfl (decide_eq_false (by omega))) rfl rfl ?_ | refine TL_valg rfl (rr_neq rfl rfl (decide_eq_true (by omega))) rfl rfl ?_ | refine TL_valg rfl (rr_neq rfl rfl (decide_eq_false (by omega))) rfl rfl ?_)))
      subst h3 h4
      have hbd := fun (tr : Tree) (x : Sym) (a b c : Nat) h h2 => nodeF_bound (l := prods) (t := tr) (x := x) (d := a) (n := b) (v := c) h h2
      generalize hres : kidsF prods kids body (d + 1) (nodes + 1) leaves = res
      refine T_pick [0, 1] (by decide) rfl ?_
      refine T_loop (ι := Nat × Nat × Nat) (fun (i, a, b) => i ≤ kids.length ∧ b ≤ a ∧ a ≤ 1000 ∧ kidsF prods (kids.drop i) (body.drop i) (d + 1) a b = res) (fun (i, _, _) => [(0, .pointer (some ⟨gw, 0, none⟩)), (3, .int .i64 (d : Int)), (5, .pointer (some ⟨g5, 0, none⟩)), (110, .slice bk kids.length ck), (111, .int .i64 kids.length), (112, .int .i64 (i : Int))])
        (fun (_, a, b') => [blkO gw (wkV t n (.slice (some ⟨b, off, none⟩) prods.length cp) a b') 114, blkO g5 (treeV (pn : Int) 0 (.slice bk kids.length ck)).cells 46]) (fun (i, _, _) => kids.length - i) (0, nodes + 1, leaves) ⟨Nat.zero_le _, by omega, by omega, hres⟩ (by repeat' (first | exact True.intro | refine And.intro rfl ?_)) rfl ?_
      clear hres
      rintro ⟨i, a, b'⟩ ⟨i1, i2, i3, i4⟩
      dsimp only at i1 i2 i3 i4 ⊢
      by_cases c7 : i < kids.length
      · obtain ⟨bk2, offk, rfl, _, hrkk⟩ := hrk (by omega)
        obtain ⟨kb, kc, r1, r2⟩ := kid_at hrkk c7
        have c8 : i < body.length := by omega
        obtain ⟨b3, off3, rfl, hr3⟩ := hb6 (by omega)
        rw [List.drop_eq_getElem_cons c7, List.drop_eq_getElem_cons c8, kidsF] at i4
        have hatk : ∀ (L : List Own) (j : Nat) (v : Value), ([.int .i64 kids[i].prod, .int .i64 kids[i].tok, .slice kb kids[i].kids.length kc] : List Value)[j]? = some v → At B L ⟨bk2, offk + i * 3 + j, none⟩ v := fun L j v hj => at_old0 ho (r1 j v hj)
        have hatx := fun L => at_elL (W := B) (L := L) SymS_len (fun q x hq => at_old0 ho (hr3 q x hq)) c8
        have hszk : size kids[i] ≤ N := by have := size_mem kids i c7; omega
        have IHk := IH kids[i] hszk
        clear hrk hrkk hb6 hr3 r1 IH
        generalize kids[i] = kt at *
        generalize body[i] = y at *
        have IHk := IHk (treeV kt.prod kt.tok (.slice kb kt.kids.length kc)) y (d + 1) a b'
        have hbk := fun h => hbd kt y (d + 1) a b' h i2
        generalize nodeF prods kt y (d + 1) a b' = r at *
        obtain ⟨e, a2, b2'⟩ := r
        dsimp only at *
        obtain ⟨kp, kk, kk2⟩ := kt
        dsimp only [Tree.prod, Tree.tok, Tree.kids] at *
        obtain ⟨yq, ym⟩ := y
        repeat (first
          | refine TL_valg rfl (rr_move rfl) rfl rfl ?_
          | refine TL_valg rfl (rr_assign rfl) rfl rfl ?_
          | refine TL_nil ?_
          | refine T_seq ?_
          | refine T_region ?_
          | refine T_condT rfl ?_
          | refine T_condF rfl ?_
          | refine T_skip ?_
          | refine T_exit ?_
          | refine T_ret ?_
          | refine T_block ?_
          | refine E_then ?_
          | refine E_thenX ?_
          | refine E_thenR ?_
          | refine E_blockN ?_
          | refine E_blockR ?_
          | refine E_blockX ?_
          | refine E_blockO rfl ?_
          | refine TL_valg rfl (rr_idxc Und.eq TyC.ty rfl rfl c7) rfl rfl ?_
          | refine TL_valg rfl (rr_loadN TyC.ty rfl rfl (hatk _)) rfl rfl ?_
          | refine TL_valg rfl (rr_pickT rfl rfl) rfl rfl ?_
          | refine TL_valg rfl (rr_pickF rfl rfl) rfl rfl ?_
          | refine TL_valg rfl (rr_len Und.eq rfl) rfl rfl ?_
          | refine TL_valg rfl (rr_field FldC.fld rfl rfl) rfl rfl ?_
          | refine TL_valg rfl (rr_nilc rfl) rfl rfl ?_
          | refine TL_valg rfl (rr_lss rfl rfl (decide_eq_true (by omega))) rfl rfl ?_
          | refine TL_valg rfl (rr_lss rfl rfl (decide_eq_false (by omega))) rfl rfl ?_
          | refine TL_valg rfl (rr_gtr rfl rfl (decide_eq_true (by omega))) rfl rfl ?_
          | refine TL_valg rfl (rr_gtr rfl rfl (decide_eq_false (by omega))) rfl rfl ?_
          | refine TL_valg rfl (rr_eql rfl rfl (decide_eq_true (by omega))) rfl rfl ?_
          | refine TL_valg rfl (rr_eql rfl rfl (decide_eq_false (by omega))) rfl rfl ?_
          | refine TL_valg rfl (rr_neq rfl rfl (decide_eq_true (by omega))) rfl rfl ?_
          | refine TL_valg rfl (rr_neq rfl rfl (decide_eq_false (by omega))) rfl rfl ?_
          | refine TL_valg rfl (rr_add64 rfl rfl (by omega) (by omega) rfl) rfl rfl ?_
          | refine TL_skip rfl rfl rfl rfl rfl rfl ?_
          | (refine TL_metg rfl rfl rfl ?_; (first | refine TL_valg rfl (rr_idxc Und.eq TyC.ty rfl rfl c7) rfl rfl ?_ | refine TL_valg rfl (rr_loadN TyC.ty rfl rfl (hatk _)) rfl rfl ?_ | refine TL_valg rfl (rr_move rfl) rfl rfl ?_ | refine TL_valg rfl (rr_len Und.eq rfl) rfl rfl ?_ | refine TL_valg rfl (rr_field FldC.fld rfl rfl) rfl rfl ?_ | refine TL_valg rfl (rr_nilc rfl) rfl rfl ?_ | refine TL_valg rfl (rr_gtr rfl rfl (decide_eq_true (by omega))) rfl rfl ?_ | refine TL_valg rfl (rr_gtr rfl rfl (decide_eq_false (by omega))) rfl rfl ?_ | refine TL_valg rfl (rr_geq rfl rfl (decide_eq_true (by omega))) rfl rfl ?_ | refine TL_valg rfl (rr_geq rfl rfl (decide_eq_false (by omega))) rfl rfl ?_ | refine TL_valg rfl (rr_neq rfl rfl (decide_eq_true (by omega))) rfl rfl ?_ | refine TL_valg rfl (rr_neq rfl rfl (decide_eq_false (by omega))) rfl rfl ?_)))
        refine TL_new rfl fun g10 => ?_
        repeat (first
          | refine TL_valg rfl (rr_move rfl) rfl rfl ?_
          | refine TL_valg rfl (rr_assign rfl) rfl rfl ?_
          | refine TL_nil ?_
          | refine T_seq ?_
          | refine T_region ?_
          | refine T_condT rfl ?_
          | refine T_condF rfl ?_
          | refine T_skip ?_
          | refine T_exit ?_
          | refine T_ret ?_
          | refine T_block ?_
          | refine E_then ?_
          | refine E_thenX ?_
          | refine E_thenR ?_
          | refine E_blockN ?_
          | refine E_blockR ?_
          | refine E_blockX ?_
          | refine E_blockO rfl ?_
          | refine TL_valg rfl (rr_pickT rfl rfl) rfl rfl ?_
          | refine TL_valg rfl (rr_pickF rfl rfl) rfl rfl ?_
          | refine TL_valg rfl (rr_len Und.eq rfl) rfl rfl ?_
          | refine TL_valg rfl (rr_field FldC.fld rfl rfl) rfl rfl ?_
          | refine TL_valg rfl (rr_nilc rfl) rfl rfl ?_
          | refine TL_valg rfl (rr_lss rfl rfl (decide_eq_true (by omega))) rfl rfl ?_
          | refine TL_valg rfl (rr_lss rfl rfl (decide_eq_false (by omega))) rfl rfl ?_
          | refine TL_valg rfl (rr_gtr rfl rfl (decide_eq_true (by omega))) rfl rfl ?_
          | refine TL_valg rfl (rr_gtr rfl rfl (decide_eq_false (by omega))) rfl rfl ?_
          | refine TL_valg rfl (rr_eql rfl rfl (decide_eq_true (by omega))) rfl rfl ?_
          | refine TL_valg rfl (rr_eql rfl rfl (decide_eq_false (by omega))) rfl rfl ?_
          | refine TL_valg rfl (rr_neq rfl rfl (decide_eq_true (by omega))) rfl rfl ?_
          | refine TL_valg rfl (rr_neq rfl rfl (decide_eq_false (by omega))) rfl rfl ?_
          | refine TL_valg rfl (rr_add64 rfl rfl (by omega) (by omega) rfl) rfl rfl ?_
          | refine TL_skip rfl rfl rfl rfl rfl rfl ?_
          | (refine TL_metg rfl rfl rfl ?_; (first | refine TL_valg rfl (rr_move rfl) rfl rfl ?_ | refine TL_valg rfl (rr_len Und.eq rfl) rfl rfl ?_ | refine TL_valg rfl (rr_field FldC.fld rfl rfl) rfl rfl ?_ | refine TL_valg rfl (rr_nilc rfl) rfl rfl ?_ | refine TL_valg rfl (rr_gtr rfl rfl (decide_eq_true (by omega))) rfl rfl ?_ | refine TL_valg rfl (rr_gtr rfl rfl (decide_eq_false (by omega))) rfl rfl ?_ | refine TL_valg rfl (rr_geq rfl rfl (decide_eq_true (by omega))) rfl rfl ?_ | refine TL_valg rfl (rr_geq rfl rfl (decide_eq_false (by omega))) rfl rfl ?_ | refine TL_valg rfl (rr_neq rfl rfl (decide_eq_true (by omega))) rfl rfl ?_ | refine TL_valg rfl (rr_neq rfl rfl (decide_eq_false (by omega))) rfl rfl ?_)))
        refine TL_storeB (i := 2) rfl rfl rfl rfl rfl rfl ?_
        conv => arg 8; simp only [List.cons_append, List.nil_append, List.append_nil, List.filterMap_cons, List.filterMap_nil, List.getElem?_cons_succ, List.getElem?_cons_zero, List.set_cons_zero, List.set_cons_succ, rowS, ret, id_eq]
        repeat (first
          | refine TL_valg rfl (rr_move rfl) rfl rfl ?_
          | refine TL_valg rfl (rr_assign rfl) rfl rfl ?_
          | refine TL_nil ?_
          | refine T_seq ?_
          | refine T_region ?_
          | refine T_condT rfl ?_
          | refine T_condF rfl ?_
          | refine T_skip ?_
          | refine T_exit ?_
          | refine T_ret ?_
          | refine T_block ?_
          | refine E_then ?_
          | refine E_thenX ?_
          | refine E_thenR ?_
          | refine E_blockN ?_
          | refine E_blockR ?_
          | refine E_blockX ?_
          | refine E_blockO rfl ?_
          | refine TL_valg rfl (rr_pickT rfl rfl) rfl rfl ?_
          | refine TL_valg rfl (rr_pickF rfl rfl) rfl rfl ?_
          | refine TL_valg rfl (rr_len Und.eq rfl) rfl rfl ?_
          | refine TL_valg rfl (rr_field FldC.fld rfl rfl) rfl rfl ?_
          | refine TL_valg rfl (rr_nilc rfl) rfl rfl ?_
          | refine TL_valg rfl (rr_lss rfl rfl (decide_eq_true (by omega))) rfl rfl ?_
          | refine TL_valg rfl (rr_lss rfl rfl (decide_eq_false (by omega))) rfl rfl ?_
          | refine TL_valg rfl (rr_gtr rfl rfl (decide_eq_true (by omega))) rfl rfl ?_
          | refine TL_valg rfl (rr_gtr rfl rfl (decide_eq_false (by omega))) rfl rfl ?_
          | refine TL_valg rfl (rr_eql rfl rfl (decide_eq_true (by omega))) rfl rfl ?_
          | refine TL_valg rfl (rr_eql rfl rfl (decide_eq_false (by omega))) rfl rfl ?_
          | refine TL_valg rfl (rr_neq rfl rfl (decide_eq_true (by omega))) rfl rfl ?_
          | refine TL_valg rfl (rr_neq rfl rfl (decide_eq_false (by omega))) rfl rfl ?_
          | refine TL_valg rfl (rr_add64 rfl rfl (by omega) (by omega) rfl) rfl rfl ?_
          | refine TL_skip rfl rfl rfl rfl rfl rfl ?_
          | (refine TL_metg rfl rfl rfl ?_; (first | refine TL_valg rfl (rr_move rfl) rfl rfl ?_ | refine TL_valg rfl (rr_len Und.eq rfl) rfl rfl ?_ | refine TL_valg rfl (rr_field FldC.fld rfl rfl) rfl rfl ?_ | refine TL_valg rfl (rr_nilc rfl) rfl rfl ?_ | refine TL_valg rfl (rr_gtr rfl rfl (decide_eq_true (by omega))) rfl rfl ?_ | refine TL_valg rfl (rr_gtr rfl rfl (decide_eq_false (by omega))) rfl rfl ?_ | refine TL_valg rfl (rr_geq rfl rfl (decide_eq_true (by omega))) rfl rfl ?_ | refine TL_valg rfl (rr_geq rfl rfl (decide_eq_false (by omega))) rfl rfl ?_ | refine TL_valg rfl (rr_neq rfl rfl (decide_eq_true (by omega))) rfl rfl ?_ | refine TL_valg rfl (rr_neq rfl rfl (decide_eq_false (by omega))) rfl rfl ?_)))
        refine T_ord ([blkO g5 (treeV (pn : Int) 0 (.slice (some ⟨bk2, offk, none⟩) kids.length ck)).cells 46, blkO g10 #[.int .i64 kp, .int .i64 kk, .slice kb kk2.length kc] 46]) (.calm 0 (.calm 1 (.calm 2 (.calm 3 (.calm 4 (.calm 5 (.calm 7 (.calm 8 (.calm 12 (.calm 15 (.calm 16 (.one 6 (.calm 9 (.calm 10 (.calm 11 (.calm 13 (.calm 14 (.one 17 (.calm 18 (.done)))))))))))))))))))) (sub_pick [1, 2] (by decide) rfl) (by kernel_rfl) (by kernel_rfl) (by intro c a d v w h; cases d <;> exact h) ?_
        repeat (first
          | ((first | refine TW_plain rfl rfl ?_ | refine TW_gmet rfl rfl rfl rfl ?_); (first
              | refine TN_val (rr_move rfl) rfl rfl ?_
              | refine TN_val (rr_assign rfl) rfl rfl ?_
              | refine TN_val (rr_loadB (i := 1) TyC.ty rfl rfl rfl) rfl rfl ?_
              | refine TN_val (rr_load1 TyC.ty rfl (at_blk (i := 0) rfl rfl)) rfl rfl ?_
              | refine TN_val (rr_add64 (r := ((d + 1 : Nat) : Int)) rfl rfl (by omega) (by omega) (by omega)) rfl rfl ?_
              | refine TN_val (rr_pickT rfl rfl) rfl rfl ?_
              | refine TN_val (rr_pickF rfl rfl) rfl rfl ?_
              | refine TN_val (rr_len Und.eq rfl) rfl rfl ?_
              | refine TN_val (rr_field FldC.fld rfl rfl) rfl rfl ?_
              | refine TN_val (rr_nilc rfl) rfl rfl ?_
              | refine TN_val (rr_lss rfl rfl (decide_eq_true (by omega))) rfl rfl ?_
              | refine TN_val (rr_lss rfl rfl (decide_eq_false (by omega))) rfl rfl ?_
              | refine TN_val (rr_gtr rfl rfl (decide_eq_true (by omega))) rfl rfl ?_
              | refine TN_val (rr_gtr rfl rfl (decide_eq_false (by omega))) rfl rfl ?_
              | refine TN_val (rr_eql rfl rfl (decide_eq_true (by omega))) rfl rfl ?_
              | refine TN_val (rr_eql rfl rfl (decide_eq_false (by omega))) rfl rfl ?_
              | refine TN_val (rr_neq rfl rfl (decide_eq_true (by omega))) rfl rfl ?_
              | refine TN_val (rr_neq rfl rfl (decide_eq_false (by omega))) rfl rfl ?_
              | refine TN_val (rr_add64 rfl rfl (by omega) (by omega) rfl) rfl rfl ?_
              | refine TN_val (rr_geq rfl rfl (decide_eq_true (by omega))) rfl rfl ?_
              | refine TN_val (rr_geq rfl rfl (decide_eq_false (by omega))) rfl rfl ?_))
          | refine TW_skip rfl rfl rfl rfl rfl rfl rfl ?_
          | refine TW_done ?_)
        refine TW_one rfl (TL_val (rr_load1 TyC.ty rfl (at_blk (i := 0) rfl rfl)) rfl rfl rfl (TW_on (sub_pick [1, 2] (by decide) rfl) ?_))
        repeat (first
          | ((first | refine TW_plain rfl rfl ?_ | refine TW_gmet rfl rfl rfl rfl ?_); (first
              | refine TN_val (rr_move rfl) rfl rfl ?_
              | refine TN_val (rr_assign rfl) rfl rfl ?_
              | refine TN_val (rr_idxc Und.eq TyC.ty rfl rfl c6) rfl rfl ?_
              | refine TN_val (rr_load1 TyC.ty rfl (hat1 _)) rfl rfl ?_
              | refine TN_val (rr_idxc Und.eq TyC.ty rfl rfl c8) rfl rfl ?_
              | refine TN_val (rr_loadN TyC.ty rfl rfl (hatx _)) rfl rfl ?_
              | refine TN_val (rr_pickT rfl rfl) rfl rfl ?_
              | refine TN_val (rr_pickF rfl rfl) rfl rfl ?_
              | refine TN_val (rr_len Und.eq rfl) rfl rfl ?_
              | refine TN_val (rr_field FldC.fld rfl rfl) rfl rfl ?_
              | refine TN_val (rr_nilc rfl) rfl rfl ?_
              | refine TN_val (rr_lss rfl rfl (decide_eq_true (by omega))) rfl rfl ?_
              | refine TN_val (rr_lss rfl rfl (decide_eq_false (by omega))) rfl rfl ?_
              | refine TN_val (rr_gtr rfl rfl (decide_eq_true (by omega))) rfl rfl ?_
              | refine TN_val (rr_gtr rfl rfl (decide_eq_false (by omega))) rfl rfl ?_
              | refine TN_val (rr_eql rfl rfl (decide_eq_true (by omega))) rfl rfl ?_
              | refine TN_val (rr_eql rfl rfl (decide_eq_false (by omega))) rfl rfl ?_
              | refine TN_val (rr_neq rfl rfl (decide_eq_true (by omega))) rfl rfl ?_
              | refine TN_val (rr_neq rfl rfl (decide_eq_false (by omega))) rfl rfl ?_
              | refine TN_val (rr_add64 rfl rfl (by omega) (by omega) rfl) rfl rfl ?_
              | refine TN_val (rr_geq rfl rfl (decide_eq_true (by omega))) rfl rfl ?_
              | refine TN_val (rr_geq rfl rfl (decide_eq_false (by omega))) rfl rfl ?_))
          | refine TW_skip rfl rfl rfl rfl rfl rfl rfl ?_
          | refine TW_done ?_)
        refine TW_one rfl ?_
        refine TL_callB [0] [1, 2] (by decide) rfl rfl (he4 EntersC.en rfl rfl rfl rfl rfl) (fun w hm hb => IHk w _ r2 i2 i3 (by omega) (ho.on hm (by intro o ho; simp at ho ⊢; simp [ho])) hb) rfl rfl rfl ?_
        intro _ _
        conv => arg 8; simp only [List.cons_append, List.nil_append, List.append_nil, List.filterMap_cons, List.filterMap_nil, List.getElem?_cons_succ, List.getElem?_cons_zero, List.set_cons_zero, List.set_cons_succ, rowS, ret, id_eq]
        refine TW_on (sub_pick [0, 1] (by decide) rfl) ?_
        repeat (first
          | ((first | refine TW_plain rfl rfl ?_ | refine TW_gmet rfl rfl rfl rfl ?_); (first
              | refine TN_val (rr_move rfl) rfl rfl ?_
              | refine TN_val (rr_assign rfl) rfl rfl ?_
              | refine TN_val (rr_pickT rfl rfl) rfl rfl ?_
              | refine TN_val (rr_pickF rfl rfl) rfl rfl ?_
              | refine TN_val (rr_len Und.eq rfl) rfl rfl ?_
              | refine TN_val (rr_field FldC.fld rfl rfl) rfl rfl ?_
              | refine TN_val (rr_nilc rfl) rfl rfl ?_
              | refine TN_val (rr_lss rfl rfl (decide_eq_true (by omega))) rfl rfl ?_
              | refine TN_val (rr_lss rfl rfl (decide_eq_false (by omega))) rfl rfl ?_
              | refine TN_val (rr_gtr rfl rfl (decide_eq_true (by omega))) rfl rfl ?_
              | refine TN_val (rr_gtr rfl rfl (decide_eq_false (by omega))) rfl rfl ?_
              | refine TN_val (rr_eql rfl rfl (decide_eq_true (by omega))) rfl rfl ?_
              | refine TN_val (rr_eql rfl rfl (decide_eq_false (by omega))) rfl rfl ?_
              | refine TN_val (rr_neq rfl rfl (decide_eq_true (by omega))) rfl rfl ?_
              | refine TN_val (rr_neq rfl rfl (decide_eq_false (by omega))) rfl rfl ?_
              | refine TN_val (rr_add64 rfl rfl (by omega) (by omega) rfl) rfl rfl ?_
              | refine TN_val (rr_geq rfl rfl (decide_eq_true (by omega))) rfl rfl ?_
              | refine TN_val (rr_geq rfl rfl (decide_eq_false (by omega))) rfl rfl ?_))
          | refine TW_skip rfl rfl rfl rfl rfl rfl rfl ?_
          | refine TW_done ?_)
        by_cases c9 : e = 0
        · rw [if_neg (by simpa using c9)] at i4
          obtain ⟨y1, y2⟩ := hbk c9
          repeat (first
            | refine TL_valg rfl (rr_move rfl) rfl rfl ?_
            | refine TL_valg rfl (rr_assign rfl) rfl rfl ?_
            | refine TL_nil ?_
            | refine T_seq ?_
            | refine T_region ?_
            | refine T_condT rfl ?_
            | refine T_condF rfl ?_
            | refine T_skip ?_
            | refine T_exit ?_
            | refine T_ret ?_
            | refine T_block ?_
            | refine E_then ?_
            | refine E_thenX ?_
            | refine E_thenR ?_
            | refine E_blockN ?_
            | refine E_blockR ?_
            | refine E_blockX ?_
            | refine E_blockO rfl ?_
            | refine TL_valg rfl (rr_pickT rfl rfl) rfl rfl ?_
            | refine TL_valg rfl (rr_pickF rfl rfl) rfl rfl ?_
            | refine TL_valg rfl (rr_len Und.eq rfl) rfl rfl ?_
            | refine TL_valg rfl (rr_field FldC.fld rfl rfl) rfl rfl ?_
            | refine TL_valg rfl (rr_nilc rfl) rfl rfl ?_
            | refine TL_valg rfl (rr_lss rfl rfl (decide_eq_true (by omega))) rfl rfl ?_
            | refine TL_valg rfl (rr_lss rfl rfl (decide_eq_false (by omega))) rfl rfl ?_
            | refine TL_valg rfl (rr_gtr rfl rfl (decide_eq_true (by omega))) rfl rfl ?_
            | refine TL_valg rfl (rr_gtr rfl rfl (decide_eq_false (by omega))) rfl rfl ?_
            | refine TL_valg rfl (rr_eql rfl rfl (decide_eq_true (by omega))) rfl rfl ?_
            | refine TL_valg rfl (rr_eql rfl rfl (decide_eq_false (by omega))) rfl rfl ?_
            | refine TL_valg rfl (rr_neq rfl rfl (decide_eq_true (by omega))) rfl rfl ?_
            | refine TL_valg rfl (rr_neq rfl rfl (decide_eq_false (by omega))) rfl rfl ?_
            | refine TL_valg rfl (rr_add64 rfl rfl (by omega) (by omega) rfl) rfl rfl ?_
            | refine TL_skip rfl rfl rfl rfl rfl rfl ?_
            | (refine TL_metg rfl rfl rfl ?_; (first | refine TL_valg rfl (rr_move rfl) rfl rfl ?_ | refine TL_valg rfl (rr_len Und.eq rfl) rfl rfl ?_ | refine TL_valg rfl (rr_field FldC.fld rfl rfl) rfl rfl ?_ | refine TL_valg rfl (rr_nilc rfl) rfl rfl ?_ | refine TL_valg rfl (rr_gtr rfl rfl (decide_eq_true (by omega))) rfl rfl ?_ | refine TL_valg rfl (rr_gtr rfl rfl (decide_eq_false (by omega))) rfl rfl ?_ | refine TL_valg rfl (rr_geq rfl rfl (decide_eq_true (by omega))) rfl rfl ?_ | refine TL_valg rfl (rr_geq rfl rfl (decide_eq_false (by omega))) rfl rfl ?_ | refine TL_valg rfl (rr_neq rfl rfl (decide_eq_true (by omega))) rfl rfl ?_ | refine TL_valg rfl (rr_neq rfl rfl (decide_eq_false (by omega))) rfl rfl ?_)))
          refine E_pick [2, 0] (by decide) rfl ?_
          exact E_round (i + 1, a2, b2') ⟨by omega, y2, y1, i4⟩ (by show kids.length - (i + 1) < kids.length - i; omega) (by repeat' (first | exact True.intro | refine And.intro rfl ?_)) rfl
        · rw [if_pos c9] at i4
          subst i4
          repeat (first
            | refine TL_valg rfl (rr_move rfl) rfl rfl ?_
            | refine TL_valg rfl (rr_assign rfl) rfl rfl ?_
            | refine TL_nil ?_
            | refine T_seq ?_
            | refine T_region ?_
            | refine T_condT rfl ?_
            | refine T_condF rfl ?_
            | refine T_skip ?_
            | refine T_exit ?_
            | refine T_ret ?_
            | refine T_block ?_
            | refine E_then ?_
            | refine E_thenX ?_
            | refine E_thenR ?_
            | refine E_blockN ?_
            | refine E_blockR ?_
            | refine E_blockX ?_
            | refine E_blockO rfl ?_
            | refine TL_valg rfl (rr_pickT rfl rfl) rfl rfl ?_
            | refine TL_valg rfl (rr_pickF rfl rfl) rfl rfl ?_
            | refine TL_valg rfl (rr_len Und.eq rfl) rfl rfl ?_
            | refine TL_valg rfl (rr_field FldC.fld rfl rfl) rfl rfl ?_
            | refine TL_valg rfl (rr_nilc rfl) rfl rfl ?_
            | refine TL_valg rfl (rr_lss rfl rfl (decide_eq_true (by omega))) rfl rfl ?_
            | refine TL_valg rfl (rr_lss rfl rfl (decide_eq_false (by omega))) rfl rfl ?_
            | refine TL_valg rfl (rr_gtr rfl rfl (decide_eq_true (by omega))) rfl rfl ?_
            | refine TL_valg rfl (rr_gtr rfl rfl (decide_eq_false (by omega))) rfl rfl ?_
            | refine TL_valg rfl (rr_eql rfl rfl (decide_eq_true (by omega))) rfl rfl ?_
            | refine TL_valg rfl (rr_eql rfl rfl (decide_eq_false (by omega))) rfl rfl ?_
            | refine TL_valg rfl (rr_neq rfl rfl (decide_eq_true (by omega))) rfl rfl ?_
            | refine TL_valg rfl (rr_neq rfl rfl (decide_eq_false (by omega))) rfl rfl ?_
            | refine TL_valg rfl (rr_add64 rfl rfl (by omega) (by omega) rfl) rfl rfl ?_
            | refine TL_skip rfl rfl rfl rfl rfl rfl ?_
            | (refine TL_metg rfl rfl rfl ?_; (first | refine TL_valg rfl (rr_move rfl) rfl rfl ?_ | refine TL_valg rfl (rr_len Und.eq rfl) rfl rfl ?_ | refine TL_valg rfl (rr_field FldC.fld rfl rfl) rfl rfl ?_ | refine TL_valg rfl (rr_nilc rfl) rfl rfl ?_ | refine TL_valg rfl (rr_gtr rfl rfl (decide_eq_true (by omega))) rfl rfl ?_ | refine TL_valg rfl (rr_gtr rfl rfl (decide_eq_false (by omega))) rfl rfl ?_ | refine TL_valg rfl (rr_geq rfl rfl (decide_eq_true (by omega))) rfl rfl ?_ | refine TL_valg rfl (rr_geq rfl rfl (decide_eq_false (by omega))) rfl rfl ?_ | refine TL_valg rfl (rr_neq rfl rfl (decide_eq_true (by omega))) rfl rfl ?_ | refine TL_valg rfl (rr_neq rfl rfl (decide_eq_false (by omega))) rfl rfl ?_)))
          exact E_ret1 rfl rfl fun w hm => hm.meetsB (S := ⟨fun (_ : Unit) => True, fun _ => .int .i64 e, fun _ => [blkO gw (wkV t n (.slice (some ⟨b, off, none⟩) prods.length cp) a2 b2') 114]⟩) () trivial [2] (by decide) rfl
      · rw [List.drop_of_length_le (by omega), kidsF] at i4
        subst i4
        repeat (first
          | refine TL_valg rfl (rr_move rfl) rfl rfl ?_
          | refine TL_valg rfl (rr_assign rfl) rfl rfl ?_
          | refine TL_nil ?_
          | refine T_seq ?_
          | refine T_region ?_
          | refine T_condT rfl ?_
          | refine T_condF rfl ?_
          | refine T_skip ?_
          | refine T_exit ?_
          | refine T_ret ?_
          | refine T_block ?_
          | refine E_then ?_
          | refine E_thenX ?_
          | refine E_thenR ?_
          | refine E_blockN ?_
          | refine E_blockR ?_
          | refine E_blockX ?_
          | refine E_blockO rfl ?_
          | refine TL_valg rfl (rr_pickT rfl rfl) rfl rfl ?_
          | refine TL_valg rfl (rr_pickF rfl rfl) rfl rfl ?_
          | refine TL_valg rfl (rr_len Und.eq rfl) rfl rfl ?_
          | refine TL_valg rfl (rr_field FldC.fld rfl rfl) rfl rfl ?_
          | refine TL_valg rfl (rr_nilc rfl) rfl rfl ?_
          | refine TL_valg rfl (rr_lss rfl rfl (decide_eq_true (by omega))) rfl rfl ?_
          | refine TL_valg rfl (rr_lss rfl rfl (decide_eq_false (by omega))) rfl rfl ?_
          | refine TL_valg rfl (rr_gtr rfl rfl (decide_eq_true (by omega))) rfl rfl ?_
          | refine TL_valg rfl (rr_gtr rfl rfl (decide_eq_false (by omega))) rfl rfl ?_
          | refine TL_valg rfl (rr_eql rfl rfl (decide_eq_true (by omega))) rfl rfl ?_
          | refine TL_valg rfl (rr_eql rfl rfl (decide_eq_false (by omega))) rfl rfl ?_
          | refine TL_valg rfl (rr_neq rfl rfl (decide_eq_true (by omega))) rfl rfl ?_
          | refine TL_valg rfl (rr_neq rfl rfl (decide_eq_false (by omega))) rfl rfl ?_
          | refine TL_valg rfl (rr_add64 rfl rfl (by omega) (by omega) rfl) rfl rfl ?_
          | refine TL_skip rfl rfl rfl rfl rfl rfl ?_
          | (refine TL_metg rfl rfl rfl ?_; (first | refine TL_valg rfl (rr_move rfl) rfl rfl ?_ | refine TL_valg rfl (rr_len Und.eq rfl) rfl rfl ?_ | refine TL_valg rfl (rr_field FldC.fld rfl rfl) rfl rfl ?_ | refine TL_valg rfl (rr_nilc rfl) rfl rfl ?_ | refine TL_valg rfl (rr_gtr rfl rfl (decide_eq_true (by omega))) rfl rfl ?_ | refine TL_valg rfl (rr_gtr rfl rfl (decide_eq_false (by omega))) rfl rfl ?_ | refine TL_valg rfl (rr_geq rfl rfl (decide_eq_true (by omega))) rfl rfl ?_ | refine TL_valg rfl (rr_geq rfl rfl (decide_eq_false (by omega))) rfl rfl ?_ | refine TL_valg rfl (rr_neq rfl rfl (decide_eq_true (by omega))) rfl rfl ?_ | refine TL_valg rfl (rr_neq rfl rfl (decide_eq_false (by omega))) rfl rfl ?_)))
        exact E_ret1 rfl rfl fun w hm => hm.meetsB (S := ⟨fun (_ : Unit) => True, fun _ => .int .i64 0, fun _ => [blkO gw (wkV t n (.slice (some ⟨b, off, none⟩) prods.length cp) a b') 114]⟩) () trivial [0] (by decide) rfl
end Go.Proofs.Ytnicebdkejkieaa.eng
