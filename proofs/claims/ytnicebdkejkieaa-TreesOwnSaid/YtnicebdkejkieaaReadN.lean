/- What reader.next, trees.start, told compute. -/
import Derived.Test.YtnicebdkejkieaaTreeP
import Derived.Test.YtnicebdkejkieaaDownUp
namespace Go.Proofs.Ytnicebdkejkieaa.eng
open Go.RowKit kit mix gramL treeL
def rdV (t n : Int) (vp vl : Value) (a k : Nat) : Array Value := #[.int .i64 t, .int .i64 n, vp, vl, .int .i64 (a : Int), .int .i64 (k : Int)]
def nextV (E : List Sym) (kind : Int) (a : Nat) : Int := match nextI E kind a with | none => 0 | some (n, _) => n
def nextA (E : List Sym) (kind : Int) (a : Nat) : Nat := match nextI E kind a with | none => a | some (_, a1) => a1
theorem next_none {E : List Sym} {kind : Int} {a : Nat} (h : E.length ≤ a) : nextI E kind a = none := by
  unfold nextI; rw [List.getElem?_eq_none h]
theorem next_at {E : List Sym} {kind : Int} {a : Nat} (h : a < E.length) : nextI E kind a = if E[a].1 = kind then some (E[a].2, a + 1) else none := by
  unfold nextI; rw [List.getElem?_eq_getElem h]
set_option maxHeartbeats 4000000 in
theorem next_calls (w0 : World) (gr : Nat) (t n : Int) (vp : Value) (bl : Option Addr) (cl : Nat) (E : List Sym) (hE : Sl w0 (.slice bl E.length cl) E.length (E.flatMap symC)) (kind : Int) (a k : Nat) (ha : a ≤ E.length) (h5 : E.length ≤ 100000) (w : World) (B : Base) (ho : Old w0 B) (hm : Mem B [blkO gr (rdV t n vp (.slice bl E.length cl) a k) 124] w) :
    Calls Try.prog 88 #[.pointer (some ⟨gr, 0, none⟩), .int .i64 kind] w (MeetsB ⟨fun (_ : Unit) => True, fun _ => .tuple #[.int .i64 (nextV E kind a), .bool (nextI E kind a).isSome], fun _ => [blkO gr (rdV t n vp (.slice bl E.length cl) (nextA E kind a) k) 124]⟩ B) := by
  obtain ⟨bl', cl', he, hc, hmx, hrd⟩ := hE
  simp only [Value.slice.injEq, true_and] at he
  obtain ⟨rfl, rfl⟩ := he
  unfold maxLen at hmx
  unfold nextV nextA
  by_cases c1 : a < E.length
  · obtain ⟨b, off, rfl, hr⟩ := hrd (by omega)
    have hatx := fun L => at_elL (W := B) (L := L) SymS_len (fun q x hq => at_old0 ho (hr q x hq)) c1
    rw [next_at c1]
    clear hrd hr
    generalize E[a] = x at *
    obtain ⟨xq, xm⟩ := x
    dsimp only at *
    by_cases c2 : xq = kind
    · rw [if_pos c2]
      subst c2
      refine enterB hm (args := [.pointer (some ⟨gr, 0, none⟩), .int .i64 xq]) (n := 50) Try.func88 rfl rfl rfl ?_
      clear hm
      repeat (first
        | refine qv rfl (qp rfl) rfl rfl ?_ | refine TL_nil ?_ | refine T_seq ?_ | refine T_region ?_ | refine qcT rfl ?_ | refine qcF rfl ?_ | refine T_skip ?_
        | refine T_ret ?_ | refine E_then ?_ | refine E_thenR ?_ | refine qs rfl rfl rfl rfl rfl rfl ?_
        | ((try refine qg rfl rfl rfl ?_); first | refine qv rfl (qp rfl) rfl rfl ?_ | refine qv rfl (qlen Und.eq rfl) rfl rfl ?_ | refine qv rfl (qfld FldC.fld rfl rfl) rfl rfl ?_ | refine qv rfl (rr_nilc rfl) rfl rfl ?_ | refine qv rfl (rr_eql rfl rfl (qT (by omega))) rfl rfl ?_ | refine qv rfl (rr_eql rfl rfl (qF (by omega))) rfl rfl ?_ | refine qv rfl (rr_add64 rfl rfl (by omega) (by omega) rfl) rfl rfl ?_ | refine qv rfl (rr_sub64 rfl rfl (by omega) (by omega) rfl) rfl rfl ?_ | refine qv rfl (rr_neq rfl rfl (qT (by omega))) rfl rfl ?_ | refine qv rfl (rr_neq rfl rfl (qF (by omega))) rfl rfl ?_))
      refine T_ord ([blkO gr (rdV t n vp (.slice (some ⟨b, off, none⟩) E.length cl) a k) 124]) (.calm 0 (.calm 1 (.calm 2 (.calm 3 (.calm 4 (.calm 5 (.calm 6 (.calm 7 (.calm 8 (.calm 9 (.calm 10 (.calm 11 (.calm 12 (.calm 13 (.calm 14 (.calm 15 (.calm 16 (.calm 17 (.calm 18 (.calm 19 (.calm 20 (.calm 21 (.calm 22 (.calm 23 (.calm 24 (.done)))))))))))))))))))))))))) (fun _ h => h) (by kernel_rfl) (by kernel_rfl) (by intro c a d v w h; cases d <;> exact h) ?_
      repeat (first
        | ((first | refine TW_plain rfl rfl ?_ | refine TW_gmet rfl rfl rfl rfl ?_); first | refine TN_val (qp rfl) rfl rfl ?_ | refine TN_val (rr_load1 TyC.ty rfl (at_blk (i := 0) rfl rfl)) rfl rfl ?_ | refine TN_val (rr_idxc Und.eq TyC.ty rfl rfl c1) rfl rfl ?_ | refine TN_val (rr_load1 TyC.ty rfl (hatx _ 0 _ rfl)) rfl rfl ?_ | refine TN_val (qlen Und.eq rfl) rfl rfl ?_ | refine TN_val (qfld FldC.fld rfl rfl) rfl rfl ?_ | refine TN_val (rr_nilc rfl) rfl rfl ?_ | refine TN_val (rr_eql rfl rfl (qT (by omega))) rfl rfl ?_ | refine TN_val (rr_eql rfl rfl (qF (by omega))) rfl rfl ?_ | refine TN_val (rr_add64 rfl rfl (by omega) (by omega) rfl) rfl rfl ?_ | refine TN_val (rr_sub64 rfl rfl (by omega) (by omega) rfl) rfl rfl ?_ | refine TN_val (rr_neq rfl rfl (qT (by omega))) rfl rfl ?_ | refine TN_val (rr_neq rfl rfl (qF (by omega))) rfl rfl ?_)
        | refine TW_skip rfl rfl rfl rfl rfl rfl rfl ?_ | refine TW_done ?_)
      repeat (first
        | refine qv rfl (qp rfl) rfl rfl ?_ | refine TL_nil ?_ | refine T_seq ?_ | refine T_region ?_ | refine qcT rfl ?_ | refine qcF rfl ?_ | refine T_skip ?_
        | refine T_ret ?_ | refine E_then ?_ | refine E_thenR ?_ | refine qs rfl rfl rfl rfl rfl rfl ?_
        | ((try refine qg rfl rfl rfl ?_); first | refine qv rfl (qp rfl) rfl rfl ?_ | refine qv rfl (rr_load1 TyC.ty rfl (at_blk (i := 0) rfl rfl)) rfl rfl ?_ | refine qv rfl (rr_add64 (r := ((a + 1 : Nat) : Int)) rfl rfl (by omega) (by omega) (by omega)) rfl rfl ?_ | refine qv rfl (qlen Und.eq rfl) rfl rfl ?_ | refine qv rfl (qfld FldC.fld rfl rfl) rfl rfl ?_ | refine qv rfl (rr_nilc rfl) rfl rfl ?_ | refine qv rfl (rr_eql rfl rfl (qT (by omega))) rfl rfl ?_ | refine qv rfl (rr_eql rfl rfl (qF (by omega))) rfl rfl ?_ | refine qv rfl (rr_add64 rfl rfl (by omega) (by omega) rfl) rfl rfl ?_ | refine qv rfl (rr_sub64 rfl rfl (by omega) (by omega) rfl) rfl rfl ?_ | refine qv rfl (rr_neq rfl rfl (qT (by omega))) rfl rfl ?_ | refine qv rfl (rr_neq rfl rfl (qF (by omega))) rfl rfl ?_))
      refine TL_store1 (i := 0) rfl rfl rfl rfl rfl rfl ?_
      rw [show (rdV t n vp (.slice (some ⟨b, off, none⟩) E.length cl) a k).setIfInBounds (0 + 4) (.int .i64 ((a + 1 : Nat) : Int)) = rdV t n vp (.slice (some ⟨b, off, none⟩) E.length cl) (a + 1) k from rfl]
      conv => arg 8; simp only [zA, zB, zC, zD, zE, zF, zG, zH, zI, rowS, ret, id_eq]
      repeat (first
        | refine qv rfl (qp rfl) rfl rfl ?_ | refine TL_nil ?_ | refine T_seq ?_ | refine T_region ?_ | refine qcT rfl ?_ | refine qcF rfl ?_ | refine T_skip ?_
        | refine T_ret ?_ | refine E_then ?_ | refine E_thenR ?_ | refine qs rfl rfl rfl rfl rfl rfl ?_
        | ((try refine qg rfl rfl rfl ?_); first | refine qv rfl (qp rfl) rfl rfl ?_ | refine qv rfl (qlen Und.eq rfl) rfl rfl ?_ | refine qv rfl (qfld FldC.fld rfl rfl) rfl rfl ?_ | refine qv rfl (rr_nilc rfl) rfl rfl ?_ | refine qv rfl (rr_eql rfl rfl (qT (by omega))) rfl rfl ?_ | refine qv rfl (rr_eql rfl rfl (qF (by omega))) rfl rfl ?_ | refine qv rfl (rr_add64 rfl rfl (by omega) (by omega) rfl) rfl rfl ?_ | refine qv rfl (rr_sub64 rfl rfl (by omega) (by omega) rfl) rfl rfl ?_ | refine qv rfl (rr_neq rfl rfl (qT (by omega))) rfl rfl ?_ | refine qv rfl (rr_neq rfl rfl (qF (by omega))) rfl rfl ?_))
      refine T_ord ([blkO gr (rdV t n vp (.slice (some ⟨b, off, none⟩) E.length cl) (a + 1) k) 124]) (.calm 0 (.calm 1 (.calm 2 (.calm 3 (.calm 4 (.calm 5 (.calm 6 (.calm 7 (.calm 8 (.calm 9 (.calm 10 (.calm 11 (.calm 12 (.calm 13 (.done))))))))))))))) (fun _ h => h) (by kernel_rfl) (by kernel_rfl) (by intro c a d v w h; cases d <;> exact h) ?_
      repeat (first
        | ((first | refine TW_plain rfl rfl ?_ | refine TW_gmet rfl rfl rfl rfl ?_); first | refine TN_val (qp rfl) rfl rfl ?_ | refine TN_val (rr_load1 TyC.ty rfl (at_blk (i := 0) rfl rfl)) rfl rfl ?_ | refine TN_val (rr_sub64 (r := (a : Int)) rfl rfl (by omega) (by omega) (by omega)) rfl rfl ?_ | refine TN_val (rr_idxc Und.eq TyC.ty rfl rfl c1) rfl rfl ?_ | refine TN_val (rr_load1 TyC.ty rfl (hatx _ 1 _ rfl)) rfl rfl ?_ | refine TN_val (qlen Und.eq rfl) rfl rfl ?_ | refine TN_val (qfld FldC.fld rfl rfl) rfl rfl ?_ | refine TN_val (rr_nilc rfl) rfl rfl ?_ | refine TN_val (rr_eql rfl rfl (qT (by omega))) rfl rfl ?_ | refine TN_val (rr_eql rfl rfl (qF (by omega))) rfl rfl ?_ | refine TN_val (rr_add64 rfl rfl (by omega) (by omega) rfl) rfl rfl ?_ | refine TN_val (rr_sub64 rfl rfl (by omega) (by omega) rfl) rfl rfl ?_ | refine TN_val (rr_neq rfl rfl (qT (by omega))) rfl rfl ?_ | refine TN_val (rr_neq rfl rfl (qF (by omega))) rfl rfl ?_)
        | refine TW_skip rfl rfl rfl rfl rfl rfl rfl ?_ | refine TW_done ?_)
      repeat (first
        | refine qv rfl (qp rfl) rfl rfl ?_ | refine TL_nil ?_ | refine T_seq ?_ | refine T_region ?_ | refine qcT rfl ?_ | refine qcF rfl ?_ | refine T_skip ?_
        | refine T_ret ?_ | refine E_then ?_ | refine E_thenR ?_ | refine qs rfl rfl rfl rfl rfl rfl ?_
        | ((try refine qg rfl rfl rfl ?_); first | refine qv rfl (qp rfl) rfl rfl ?_ | refine qv rfl (qlen Und.eq rfl) rfl rfl ?_ | refine qv rfl (qfld FldC.fld rfl rfl) rfl rfl ?_ | refine qv rfl (rr_nilc rfl) rfl rfl ?_ | refine qv rfl (rr_eql rfl rfl (qT (by omega))) rfl rfl ?_ | refine qv rfl (rr_eql rfl rfl (qF (by omega))) rfl rfl ?_ | refine qv rfl (rr_add64 rfl rfl (by omega) (by omega) rfl) rfl rfl ?_ | refine qv rfl (rr_sub64 rfl rfl (by omega) (by omega) rfl) rfl rfl ?_ | refine qv rfl (rr_neq rfl rfl (qT (by omega))) rfl rfl ?_ | refine qv rfl (rr_neq rfl rfl (qF (by omega))) rfl rfl ?_))
      exact E_ret2 rfl rfl rfl fun w hm => hm.meetsB (S := ⟨fun (_ : Unit) => True, fun _ => .tuple #[.int .i64 xm, .bool true], fun _ => [blkO gr (rdV t n vp (.slice (some ⟨b, off, none⟩) E.length cl) (a + 1) k) 124]⟩) () trivial [0] (by decide) rfl
    · rw [if_neg c2]
      refine enterB hm (args := [.pointer (some ⟨gr, 0, none⟩), .int .i64 kind]) (n := 50) Try.func88 rfl rfl rfl ?_
      clear hm
      repeat (first
        | refine qv rfl (qp rfl) rfl rfl ?_ | refine TL_nil ?_ | refine T_seq ?_ | refine T_region ?_ | refine qcT rfl ?_ | refine qcF rfl ?_ | refine T_skip ?_
        | refine T_ret ?_ | refine E_then ?_ | refine E_thenR ?_ | refine qs rfl rfl rfl rfl rfl rfl ?_
        | ((try refine qg rfl rfl rfl ?_); first | refine qv rfl (qp rfl) rfl rfl ?_ | refine qv rfl (qlen Und.eq rfl) rfl rfl ?_ | refine qv rfl (qfld FldC.fld rfl rfl) rfl rfl ?_ | refine qv rfl (rr_nilc rfl) rfl rfl ?_ | refine qv rfl (rr_eql rfl rfl (qT (by omega))) rfl rfl ?_ | refine qv rfl (rr_eql rfl rfl (qF (by omega))) rfl rfl ?_ | refine qv rfl (rr_add64 rfl rfl (by omega) (by omega) rfl) rfl rfl ?_ | refine qv rfl (rr_sub64 rfl rfl (by omega) (by omega) rfl) rfl rfl ?_ | refine qv rfl (rr_neq rfl rfl (qT (by omega))) rfl rfl ?_ | refine qv rfl (rr_neq rfl rfl (qF (by omega))) rfl rfl ?_))
      refine T_ord ([blkO gr (rdV t n vp (.slice (some ⟨b, off, none⟩) E.length cl) a k) 124]) (.calm 0 (.calm 1 (.calm 2 (.calm 3 (.calm 4 (.calm 5 (.calm 6 (.calm 7 (.calm 8 (.calm 9 (.calm 10 (.calm 11 (.calm 12 (.calm 13 (.calm 14 (.calm 15 (.calm 16 (.calm 17 (.calm 18 (.calm 19 (.calm 20 (.calm 21 (.calm 22 (.calm 23 (.calm 24 (.done)))))))))))))))))))))))))) (fun _ h => h) (by kernel_rfl) (by kernel_rfl) (by intro c a d v w h; cases d <;> exact h) ?_
      repeat (first
        | ((first | refine TW_plain rfl rfl ?_ | refine TW_gmet rfl rfl rfl rfl ?_); first | refine TN_val (qp rfl) rfl rfl ?_ | refine TN_val (rr_load1 TyC.ty rfl (at_blk (i := 0) rfl rfl)) rfl rfl ?_ | refine TN_val (rr_idxc Und.eq TyC.ty rfl rfl c1) rfl rfl ?_ | refine TN_val (rr_load1 TyC.ty rfl (hatx _ 0 _ rfl)) rfl rfl ?_ | refine TN_val (qlen Und.eq rfl) rfl rfl ?_ | refine TN_val (qfld FldC.fld rfl rfl) rfl rfl ?_ | refine TN_val (rr_nilc rfl) rfl rfl ?_ | refine TN_val (rr_eql rfl rfl (qT (by omega))) rfl rfl ?_ | refine TN_val (rr_eql rfl rfl (qF (by omega))) rfl rfl ?_ | refine TN_val (rr_add64 rfl rfl (by omega) (by omega) rfl) rfl rfl ?_ | refine TN_val (rr_sub64 rfl rfl (by omega) (by omega) rfl) rfl rfl ?_ | refine TN_val (rr_neq rfl rfl (qT (by omega))) rfl rfl ?_ | refine TN_val (rr_neq rfl rfl (qF (by omega))) rfl rfl ?_)
        | refine TW_skip rfl rfl rfl rfl rfl rfl rfl ?_ | refine TW_done ?_)
      repeat (first
        | refine qv rfl (qp rfl) rfl rfl ?_ | refine TL_nil ?_ | refine T_seq ?_ | refine T_region ?_ | refine qcT rfl ?_ | refine qcF rfl ?_ | refine T_skip ?_
        | refine T_ret ?_ | refine E_then ?_ | refine E_thenR ?_ | refine qs rfl rfl rfl rfl rfl rfl ?_
        | ((try refine qg rfl rfl rfl ?_); first | refine qv rfl (qp rfl) rfl rfl ?_ | refine qv rfl (qlen Und.eq rfl) rfl rfl ?_ | refine qv rfl (qfld FldC.fld rfl rfl) rfl rfl ?_ | refine qv rfl (rr_nilc rfl) rfl rfl ?_ | refine qv rfl (rr_eql rfl rfl (qT (by omega))) rfl rfl ?_ | refine qv rfl (rr_eql rfl rfl (qF (by omega))) rfl rfl ?_ | refine qv rfl (rr_add64 rfl rfl (by omega) (by omega) rfl) rfl rfl ?_ | refine qv rfl (rr_sub64 rfl rfl (by omega) (by omega) rfl) rfl rfl ?_ | refine qv rfl (rr_neq rfl rfl (qT (by omega))) rfl rfl ?_ | refine qv rfl (rr_neq rfl rfl (qF (by omega))) rfl rfl ?_))
      exact E_ret2 rfl rfl rfl fun w hm => hm.meetsB (S := ⟨fun (_ : Unit) => True, fun _ => .tuple #[.int .i64 0, .bool false], fun _ => [blkO gr (rdV t n vp (.slice (some ⟨b, off, none⟩) E.length cl) a k) 124]⟩) () trivial [0] (by decide) rfl
  · rw [next_none (by omega)]
    refine enterB hm (args := [.pointer (some ⟨gr, 0, none⟩), .int .i64 kind]) (n := 50) Try.func88 rfl rfl rfl ?_
    clear hm
    repeat (first
      | refine qv rfl (qp rfl) rfl rfl ?_ | refine TL_nil ?_ | refine T_seq ?_ | refine T_region ?_ | refine qcT rfl ?_ | refine qcF rfl ?_ | refine T_skip ?_
      | refine T_ret ?_ | refine E_then ?_ | refine E_thenR ?_ | refine qs rfl rfl rfl rfl rfl rfl ?_
      | ((try refine qg rfl rfl rfl ?_); first | refine qv rfl (qp rfl) rfl rfl ?_ | refine qv rfl (qlen Und.eq rfl) rfl rfl ?_ | refine qv rfl (qfld FldC.fld rfl rfl) rfl rfl ?_ | refine qv rfl (rr_nilc rfl) rfl rfl ?_ | refine qv rfl (rr_eql rfl rfl (qT (by omega))) rfl rfl ?_ | refine qv rfl (rr_eql rfl rfl (qF (by omega))) rfl rfl ?_ | refine qv rfl (rr_add64 rfl rfl (by omega) (by omega) rfl) rfl rfl ?_ | refine qv rfl (rr_sub64 rfl rfl (by omega) (by omega) rfl) rfl rfl ?_ | refine qv rfl (rr_neq rfl rfl (qT (by omega))) rfl rfl ?_ | refine qv rfl (rr_neq rfl rfl (qF (by omega))) rfl rfl ?_))
    refine T_ord ([blkO gr (rdV t n vp (.slice bl E.length cl) a k) 124]) (.calm 0 (.calm 1 (.calm 2 (.calm 3 (.calm 4 (.calm 5 (.calm 6 (.calm 7 (.calm 8 (.calm 9 (.calm 10 (.calm 11 (.calm 12 (.calm 13 (.calm 14 (.calm 15 (.calm 16 (.calm 17 (.calm 18 (.calm 19 (.calm 20 (.calm 21 (.calm 22 (.calm 23 (.calm 24 (.done)))))))))))))))))))))))))) (fun _ h => h) (by kernel_rfl) (by kernel_rfl) (by intro c a d v w h; cases d <;> exact h) ?_
    repeat (first
      | ((first | refine TW_plain rfl rfl ?_ | refine TW_gmet rfl rfl rfl rfl ?_); first | refine TN_val (qp rfl) rfl rfl ?_ | refine TN_val (rr_load1 TyC.ty rfl (at_blk (i := 0) rfl rfl)) rfl rfl ?_ | refine TN_val (qlen Und.eq rfl) rfl rfl ?_ | refine TN_val (qfld FldC.fld rfl rfl) rfl rfl ?_ | refine TN_val (rr_nilc rfl) rfl rfl ?_ | refine TN_val (rr_eql rfl rfl (qT (by omega))) rfl rfl ?_ | refine TN_val (rr_eql rfl rfl (qF (by omega))) rfl rfl ?_ | refine TN_val (rr_add64 rfl rfl (by omega) (by omega) rfl) rfl rfl ?_ | refine TN_val (rr_sub64 rfl rfl (by omega) (by omega) rfl) rfl rfl ?_ | refine TN_val (rr_neq rfl rfl (qT (by omega))) rfl rfl ?_ | refine TN_val (rr_neq rfl rfl (qF (by omega))) rfl rfl ?_)
      | refine TW_skip rfl rfl rfl rfl rfl rfl rfl ?_ | refine TW_done ?_)
    repeat (first
      | refine qv rfl (qp rfl) rfl rfl ?_ | refine TL_nil ?_ | refine T_seq ?_ | refine T_region ?_ | refine qcT rfl ?_ | refine qcF rfl ?_ | refine T_skip ?_
      | refine T_ret ?_ | refine E_then ?_ | refine E_thenR ?_ | refine qs rfl rfl rfl rfl rfl rfl ?_
      | ((try refine qg rfl rfl rfl ?_); first | refine qv rfl (qp rfl) rfl rfl ?_ | refine qv rfl (qlen Und.eq rfl) rfl rfl ?_ | refine qv rfl (qfld FldC.fld rfl rfl) rfl rfl ?_ | refine qv rfl (rr_nilc rfl) rfl rfl ?_ | refine qv rfl (rr_eql rfl rfl (qT (by omega))) rfl rfl ?_ | refine qv rfl (rr_eql rfl rfl (qF (by omega))) rfl rfl ?_ | refine qv rfl (rr_add64 rfl rfl (by omega) (by omega) rfl) rfl rfl ?_ | refine qv rfl (rr_sub64 rfl rfl (by omega) (by omega) rfl) rfl rfl ?_ | refine qv rfl (rr_neq rfl rfl (qT (by omega))) rfl rfl ?_ | refine qv rfl (rr_neq rfl rfl (qF (by omega))) rfl rfl ?_))
    exact E_ret2 rfl rfl rfl fun w hm => hm.meetsB (S := ⟨fun (_ : Unit) => True, fun _ => .tuple #[.int .i64 0, .bool false], fun _ => [blkO gr (rdV t n vp (.slice bl E.length cl) a k) 124]⟩) () trivial [0] (by decide) rfl
def startE (g : Gram) (E : List Sym) : Int := if checkG g ≠ 0 then checkG g else if 2000 < E.length then 2 else 0
theorem start_calls (v vl : Value) (g : Gram) (E : List Sym) (w : World) (h : GraR (fun k => k < w.heap.size) w v g) (hE : Sl w vl E.length (E.flatMap symC)) :
    Calls Try.prog 78 #[v, vl] w (Meets (ret (.int .i64 (startE g E))) w) := by
  have hck := fun w' (hg : Gr w w') => checkG_calls v g w' (h.gr hg)
  obtain ⟨vp, rfl, h1, _⟩ := h
  obtain ⟨bl, cl, rfl, _⟩ := hE
  unfold startE
  generalize checkG g = e at *
  obtain ⟨t, n, prods⟩ := g
  dsimp only at *
  refine enter (args := [graV t n vp, .slice bl E.length cl]) (n := 14) Try.func78 rfl rfl rfl ?_
  refine T_seq (T_region (TL_box rfl rfl rfl fun g2 => ?_))
  conv => arg 8; simp only [zA, zB, zC, zD, zE, zF, zG, zH, zI, rowS, ret, id_eq]
  repeat (first
    | refine qv rfl (qp rfl) rfl rfl ?_ | refine TL_nil ?_ | refine T_seq ?_ | refine T_region ?_ | refine qcT rfl ?_ | refine qcF rfl ?_ | refine T_skip ?_
    | refine T_ret ?_ | refine E_then ?_ | refine E_thenR ?_ | refine qv rfl (rr_loadB (i := 0) TyC.ty rfl rfl rfl) rfl rfl ?_
    | refine qv rfl (qlen Und.eq rfl) rfl rfl ?_ | refine qv rfl (rr_gtr rfl rfl (qT (by omega))) rfl rfl ?_
    | refine qv rfl (rr_gtr rfl rfl (qF (by omega))) rfl rfl ?_ | refine qv rfl (rr_neq rfl rfl (qT (by omega))) rfl rfl ?_
    | refine qv rfl (rr_neq rfl rfl (qF (by omega))) rfl rfl ?_)
  refine TL_call (he1 EntersC.en rfl rfl) (fun w hm => hck _ hm.below) rfl rfl rfl ?_
  intro _ _
  conv => arg 8; simp only [zA, zB, zC, zD, zE, zF, zG, zH, zI, rowS, ret, id_eq]
  by_cases c1 : e = 0
  · rw [if_neg (by simpa using c1)]
    by_cases c2 : 2000 < E.length
    · rw [if_pos c2]
      repeat (first
        | refine qv rfl (qp rfl) rfl rfl ?_ | refine TL_nil ?_ | refine T_seq ?_ | refine T_region ?_ | refine qcT rfl ?_ | refine qcF rfl ?_ | refine T_skip ?_
        | refine T_ret ?_ | refine E_then ?_ | refine E_thenR ?_ | refine qv rfl (qlen Und.eq rfl) rfl rfl ?_
        | refine qv rfl (rr_gtr rfl rfl (qT (by omega))) rfl rfl ?_ | refine qv rfl (rr_gtr rfl rfl (qF (by omega))) rfl rfl ?_
        | refine qv rfl (rr_neq rfl rfl (qT (by omega))) rfl rfl ?_ | refine qv rfl (rr_neq rfl rfl (qF (by omega))) rfl rfl ?_)
      exact E_ret1 rfl rfl fun w hm => hm.ret
    · rw [if_neg c2]
      repeat (first
        | refine qv rfl (qp rfl) rfl rfl ?_ | refine TL_nil ?_ | refine T_seq ?_ | refine T_region ?_ | refine qcT rfl ?_ | refine qcF rfl ?_ | refine T_skip ?_
        | refine T_ret ?_ | refine E_then ?_ | refine E_thenR ?_ | refine qv rfl (qlen Und.eq rfl) rfl rfl ?_
        | refine qv rfl (rr_gtr rfl rfl (qT (by omega))) rfl rfl ?_ | refine qv rfl (rr_gtr rfl rfl (qF (by omega))) rfl rfl ?_
        | refine qv rfl (rr_neq rfl rfl (qT (by omega))) rfl rfl ?_ | refine qv rfl (rr_neq rfl rfl (qF (by omega))) rfl rfl ?_)
      exact E_ret1 rfl rfl fun w hm => hm.ret
  · rw [if_pos c1]
    repeat (first
      | refine qv rfl (qp rfl) rfl rfl ?_ | refine TL_nil ?_ | refine T_seq ?_ | refine T_region ?_ | refine qcT rfl ?_ | refine qcF rfl ?_ | refine T_skip ?_
      | refine T_ret ?_ | refine E_then ?_ | refine E_thenR ?_ | refine qv rfl (qlen Und.eq rfl) rfl rfl ?_
      | refine qv rfl (rr_gtr rfl rfl (qT (by omega))) rfl rfl ?_ | refine qv rfl (rr_gtr rfl rfl (qF (by omega))) rfl rfl ?_
      | refine qv rfl (rr_neq rfl rfl (qT (by omega))) rfl rfl ?_ | refine qv rfl (rr_neq rfl rfl (qF (by omega))) rfl rfl ?_)
    exact E_ret1 rfl rfl fun w hm => hm.ret
end Go.Proofs.Ytnicebdkejkieaa.eng
