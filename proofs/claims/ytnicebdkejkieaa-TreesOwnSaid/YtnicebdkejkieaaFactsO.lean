/- What facts.Of computes. -/
import Derived.Test.YtnicebdkejkieaaFactsD
import Derived.Test.YtnicebdkejkieaaFactsN
import Derived.Test.YtnicebdkejkieaaMgB
namespace Go.Proofs.Ytnicebdkejkieaa.eng
open Go.RowKit kit mix gramL factsL
def ofS (n : Nat) (l : List gramL.Prod) : FS := factsL.fix (stepS l) (lackS n) ⟨List.replicate n false, (List.replicate n false).set 0 true, List.replicate n false, false⟩
def ofF (n : Nat) (l : List gramL.Prod) : List Nat := setsF (ofS n l).E (ofS n l).M l (List.replicate n 0)
def ofW (n : Nat) (l : List gramL.Prod) : List Nat := setsW (ofS n l).E (ofF n l) l ((List.replicate n 0).set 0 9223372036854775808)
structure Rows5 extends Rows4 where
  gR : Nat
  cR : Nat
def Rows5.val (n : Nat) (x : Rows5) : Value := facV (vRow n x.gE x.cE) (vRow n x.gF x.cF) (vRow n x.gW x.cW) (vRow n x.gR x.cR) (vRow n x.gM x.cM)
theorem build_fac (a b c d e : Option Addr) (n1 n2 n3 n4 n5 c1 c2 c3 c4 c5 : Nat) (w : World) : (Instr.build 63 #[(0, .slice a n1 c1), (1, .slice b n2 c2), (2, .slice c n3 c3), (3, .slice d n4 c4), (4, .slice e n5 c5)]).run Try.prog w = .ok (.agg #[.slice a n1 c1, .slice b n2 c2, .slice c n3 c3, .slice d n4 c4, .slice e n5 c5]) w := by
  go_simp
def mkB (i d n : Nat) : Mk := ⟨i, d, fun g => .slice (some ⟨g, 0, none⟩) n n, fun g => blkO g (madeCells #[.bool false] (n * 1)) 4⟩
def mkN (i d n : Nat) : Mk := ⟨i, d, fun g => .slice (some ⟨g, 0, none⟩) n n, fun g => blkO g (madeCells #[.int .u64 0] (n * 1)) 54⟩
def mkF (i d : Nat) : Mk := ⟨i, d, fun g => .pointer (some ⟨g, 0, none⟩), fun g => blkO g #[.slice none 0 0, .slice none 0 0, .slice none 0 0, .slice none 0 0, .slice none 0 0] 63⟩
theorem T_rowMade {P : Program} {k : Nat} {W : Base} {Q : Exit → Act → World → Prop} {fr : Fr} {L : List Own} {c : Code} {i g m : Nat} {e : TypeId} {z : Value} (hi : L[i]? = some (blkO g (madeCells #[z] (m * 1)) e)) (hm : m ≤ 9223372036854775807) (h : T P k W c Q fr (L.set i (rowO e 1 (.slice (some ⟨g, 0, none⟩) m m) m (List.replicate m z)))) : T P k W c Q fr L :=
  T_toRowN 1 hi (by rw [size_madeCells]) (Nat.le_refl _) hm (by
    have : (madeCells #[z] (m * 1)).toList.take (m * 1) = List.replicate m z := by
      rw [made1, Nat.mul_one, List.take_of_length_le (by simp)]
    rw [this]; exact h)
set_option maxHeartbeats 8000000 in
theorem of_calls (v : Value) (g : Gram) (w : World) (h : GraR (fun k => k < w.heap.size) w v g) (hck : checkG g = 0) (n : Nat) (hn : g.nons = n) :
    Calls Try.prog 36 #[v] w (MeetsB ⟨fun (_ : Rows5) => True, fun x => .tuple #[x.val n, .int .i64 0], fun x => [rowBn n x.gE x.cE (ofS n g.prods).E, rowNn n x.gF x.cF (ofF n g.prods), rowNn n x.gW x.cW (ofW n g.prods), rowBn n x.gR x.cR (ofS n g.prods).R, rowBn n x.gM x.cM (ofS n g.prods).M]⟩ w) := by
  obtain ⟨n1, n2, _, _, hlen, _⟩ := checkG_ok hck
  have hcc := fun w' L (hm : Mem w L w') => checkG_calls v g w' (h.gr ((Old.self w).mem hm))
  rw [hck] at hcc
  have h0 := h
  obtain ⟨vp, rfl, h1, _⟩ := h
  obtain ⟨bp, cp, rfl, hcp, hmp, hrp⟩ := h1
  unfold maxLen at hmp
  obtain ⟨t, nn, prods⟩ := g
  dsimp only at *
  subst hn
  refine enter (args := [graV t (n : Int) (.slice bp prods.length cp)]) (n := 39) Try.func36 rfl rfl rfl ?_
  refine T_seq (T_region (TL_box rfl rfl rfl fun g1 => TL_new rfl fun g2 => ?_))
  conv => arg 8; simp only [zA, zB, zC, zD, zE, zF, zG, zH, zI, rowS, ret, id_eq]
  repeat (first
    | refine qv rfl (qp rfl) rfl rfl ?_ | refine TL_nil ?_ | refine T_seq ?_ | refine T_region ?_ | refine qcT rfl ?_ | refine qcF rfl ?_ | refine T_skip ?_
    | refine T_exit ?_ | refine T_ret ?_ | refine T_block ?_ | refine E_then ?_ | refine E_thenX ?_ | refine E_thenR ?_ | refine E_blockN ?_
    | refine E_blockR ?_ | refine E_blockX ?_ | refine E_blockO rfl ?_ | refine qv rfl (rr_loadB (i := 0) TyC.ty rfl rfl rfl) rfl rfl ?_
    | refine qv rfl (qfld FldC.fld rfl rfl) rfl rfl ?_ | refine qv rfl (rr_neq rfl rfl (qT (by omega))) rfl rfl ?_
    | refine qv rfl (rr_neq rfl rfl (qF (by omega))) rfl rfl ?_)
  refine TL_call (he1 EntersC.en rfl rfl) (fun w hm => hcc _ _ hm) rfl rfl rfl ?_
  intro _ _
  conv => arg 8; simp only [zA, zB, zC, zD, zE, zF, zG, zH, zI, rowS, ret, id_eq]
  repeat (first
    | refine qv rfl (qp rfl) rfl rfl ?_ | refine TL_nil ?_ | refine T_seq ?_ | refine T_region ?_ | refine qcT rfl ?_ | refine qcF rfl ?_ | refine T_skip ?_
    | refine T_exit ?_ | refine T_ret ?_ | refine T_block ?_ | refine E_then ?_ | refine E_thenX ?_ | refine E_thenR ?_ | refine E_blockN ?_
    | refine E_blockR ?_ | refine E_blockX ?_ | refine E_blockO rfl ?_ | refine qv rfl (rr_load1 TyC.ty rfl (at_blk (i := 0) rfl rfl)) rfl rfl ?_
    | refine qv rfl (qfld FldC.fld rfl rfl) rfl rfl ?_ | refine qv rfl (rr_neq rfl rfl (qT (by omega))) rfl rfl ?_
    | refine qv rfl (rr_neq rfl rfl (qF (by omega))) rfl rfl ?_)
  refine T_midq (ι := Nat × Nat × Nat × Nat × Nat × Nat) (fun _ => True) (fun (_, _, _, _, _, g6) => [(1, .pointer (some ⟨g1, 0, none⟩)), (2, .pointer (some ⟨g2, 0, none⟩)), (6, .pointer (some ⟨g6, 0, none⟩))])
    (fun (gE, gF, gW, gR, gM, g6) => [blkO g1 (graV t (n : Int) (.slice bp prods.length cp)).cells 24, blkO g2 #[.slice none 0 0, .slice none 0 0, .slice none 0 0, .slice none 0 0, .slice none 0 0] 63, blkO gE (madeCells #[.bool false] (n * 1)) 4, blkO gF (madeCells #[.int .u64 0] (n * 1)) 54, blkO gW (madeCells #[.int .u64 0] (n * 1)) 54, blkO gR (madeCells #[.bool false] (n * 1)) 4, blkO gM (madeCells #[.bool false] (n * 1)) 4, blkO g6 (facV (vRow n gE n) (vRow n gF n) (vRow n gW n) (vRow n gR n) (vRow n gM n)).cells 63]) ?_ ?_
  rotate_left
  · rintro ⟨gE, gF, gW, gR, gM, g6⟩ _
    dsimp only
    refine T_rowMade (i := 2) rfl (by omega) ?_
    refine T_rowMade (i := 3) rfl (by omega) ?_
    refine T_rowMade (i := 4) rfl (by omega) ?_
    refine T_rowMade (i := 5) rfl (by omega) ?_
    refine T_rowMade (i := 6) rfl (by omega) ?_
    conv => arg 7; simp only [List.set_cons_succ, List.set_cons_zero]
    rw [show List.replicate n (Value.bool false) = (List.replicate n false).map .bool by simp, show List.replicate n (Value.int .u64 0) = (List.replicate n 0).map bitV by simp [bitV]]
    have hn0 : 0 < n := by omega
    repeat (first
      | refine qv rfl (qp rfl) rfl rfl ?_ | refine TL_nil ?_ | refine T_seq ?_ | refine T_region ?_ | refine qcT rfl ?_ | refine qcF rfl ?_ | refine T_skip ?_
      | refine T_exit ?_ | refine T_ret ?_ | refine T_block ?_ | refine E_then ?_ | refine E_thenX ?_ | refine E_thenR ?_ | refine E_blockN ?_
      | refine E_blockR ?_ | refine E_blockX ?_ | refine E_blockO rfl ?_ | refine qv rfl (rr_load1 TyC.ty rfl (at_blk (i := 7) rfl rfl)) rfl rfl ?_
      | refine qv rfl (rr_idx1 (j := 0) Und.eq TyC.ty rfl rfl hn0) rfl rfl ?_ | refine qv rfl (qfld FldC.fld rfl rfl) rfl rfl ?_
      | refine qv rfl (rr_neq rfl rfl (qT (by omega))) rfl rfl ?_ | refine qv rfl (rr_neq rfl rfl (qF (by omega))) rfl rfl ?_)
    refine TL_storeRow (i := 5) TyC.ty rfl rfl rfl rfl rfl rfl (by simpa using hn0) ?_
    repeat (first
      | refine qv rfl (qp rfl) rfl rfl ?_ | refine TL_nil ?_ | refine T_seq ?_ | refine T_region ?_ | refine qcT rfl ?_ | refine qcF rfl ?_ | refine T_skip ?_
      | refine T_exit ?_ | refine T_ret ?_ | refine T_block ?_ | refine E_then ?_ | refine E_thenX ?_ | refine E_thenR ?_ | refine E_blockN ?_
      | refine E_blockR ?_ | refine E_blockX ?_ | refine E_blockO rfl ?_ | refine qv rfl (rr_load1 TyC.ty rfl (at_blk (i := 7) rfl rfl)) rfl rfl ?_
      | refine qv rfl (rr_idx1 (j := 0) Und.eq TyC.ty rfl rfl hn0) rfl rfl ?_ | refine qv rfl (qfld FldC.fld rfl rfl) rfl rfl ?_
      | refine qv rfl (rr_neq rfl rfl (qT (by omega))) rfl rfl ?_ | refine qv rfl (rr_neq rfl rfl (qF (by omega))) rfl rfl ?_)
    refine TL_storeRow (i := 4) TyC.ty rfl rfl rfl rfl rfl rfl (by simpa using hn0) ?_
    conv => arg 8; simp only [List.set_cons_succ, List.set_cons_zero, Nat.zero_add]
    repeat (first
      | refine qv rfl (qp rfl) rfl rfl ?_ | refine TL_nil ?_ | refine T_seq ?_ | refine T_region ?_ | refine qcT rfl ?_ | refine qcF rfl ?_ | refine T_skip ?_
      | refine T_exit ?_ | refine T_ret ?_ | refine T_block ?_ | refine E_then ?_ | refine E_thenX ?_ | refine E_thenR ?_ | refine E_blockN ?_
      | refine E_blockR ?_ | refine E_blockX ?_ | refine E_blockO rfl ?_ | refine qv rfl (qfld FldC.fld rfl rfl) rfl rfl ?_
      | refine qv rfl (rr_neq rfl rfl (qT (by omega))) rfl rfl ?_ | refine qv rfl (rr_neq rfl rfl (qF (by omega))) rfl rfl ?_)
    generalize hfin : ofS n prods = fin
    have hfine := fine_of (g := ⟨t, n, prods⟩) hck rfl
    have hfalls := fallsS hfine
    refine T_loop (ι := FS) (fun s => okR n s ∧ factsL.fix (stepS prods) (lackS n) s = fin) (fun _ => [(1, .pointer (some ⟨g1, 0, none⟩)), (2, .pointer (some ⟨g2, 0, none⟩)), (6, .pointer (some ⟨g6, 0, none⟩))])
      (fun s => [blkO g1 (graV t (n : Int) (.slice bp prods.length cp)).cells 24, blkO g2 #[.slice none 0 0, .slice none 0 0, .slice none 0 0, .slice none 0 0, .slice none 0 0] 63, rowBn n gE n s.E, rowNn n gF n (List.replicate n 0), rowNn n gW n ((List.replicate n 0).set 0 9223372036854775808), rowBn n gR n s.R, rowBn n gM n s.M, blkO g6 (facV (vRow n gE n) (vRow n gF n) (vRow n gW n) (vRow n gR n) (vRow n gM n)).cells 63])
      (fun s => lackS n s) ⟨List.replicate n false, (List.replicate n false).set 0 true, List.replicate n false, false⟩ ⟨⟨by simp, by simp, by simp⟩, hfin⟩ (by repeat' (first | exact True.intro | refine And.intro rfl ?_)) (by simp [rowBn, rowNn, bitV, List.map_set]) ?_
    rintro ⟨E, R, M, mo⟩ ⟨i1, i2⟩
    dsimp only at i2 ⊢
    have hrd := fun w' B' (ho : Old w B') hm => round_calls w _ ⟨t, n, prods⟩ h0 hck n rfl ⟨gE, n, gR, n, gM, n⟩ (vRow n gF n) (vRow n gW n) E R M i1.1 i1.2.1 i1.2.2 w' B' ho hm
    dsimp only at hrd
    repeat (first
      | refine qv rfl (qp rfl) rfl rfl ?_ | refine TL_nil ?_ | refine T_seq ?_ | refine T_region ?_ | refine qcT rfl ?_ | refine qcF rfl ?_ | refine T_skip ?_
      | refine T_exit ?_ | refine T_ret ?_ | refine T_block ?_ | refine E_then ?_ | refine E_thenX ?_ | refine E_thenR ?_ | refine E_blockN ?_
      | refine E_blockR ?_ | refine E_blockX ?_ | refine E_blockO rfl ?_ | refine qv rfl (rr_loadB (i := 0) TyC.ty rfl rfl rfl) rfl rfl ?_
      | refine qv rfl (rr_loadB (i := 7) TyC.ty rfl rfl rfl) rfl rfl ?_ | refine qv rfl (qfld FldC.fld rfl rfl) rfl rfl ?_
      | refine qv rfl (rr_neq rfl rfl (qT (by omega))) rfl rfl ?_ | refine qv rfl (rr_neq rfl rfl (qF (by omega))) rfl rfl ?_)
    refine TL_callB [2, 5, 6] [0, 1, 3, 4, 7] (by decide) rfl rfl (he2 EntersC.en rfl rfl rfl) (fun w' hm hb => hrd w' _ ((Old.self w).on hm (by intro o ho; simp at ho ⊢; rcases ho with h | h | h <;> simp [h])) hb) rfl rfl rfl ?_
    intro _ _
    conv => arg 8; simp only [zA, zB, zC, zD, zE, zF, zG, zH, zI, rowS, ret, id_eq]
    clear hrd
    have hk := roundL_grow prods ⟨E, R, M, false⟩ hfine i1
    have hgo : (roundL prods ⟨E, R, M, false⟩).more = true → factsL.fix (stepS prods) (lackS n) (roundL prods ⟨E, R, M, false⟩) = fin ∧ lackS n (roundL prods ⟨E, R, M, false⟩) < lackS n ⟨E, R, M, mo⟩ := fun c => ⟨by rw [← i2, fix_go hfalls i1 c]; rfl, hfalls.dec _ i1 c⟩
    have hst : (roundL prods ⟨E, R, M, false⟩).more = false → roundL prods ⟨E, R, M, false⟩ = fin := fun c => by rw [← i2, fix_stop (s := (⟨E, R, M, mo⟩ : FS)) c]; rfl
    generalize roundL prods ⟨E, R, M, false⟩ = r at *
    obtain ⟨E', R', M', m'⟩ := r
    dsimp only at hgo hst ⊢
    cases m'
    · have hst := hst rfl
      have hsets := fun w' B' (ho : Old w B') hm => sets_calls w _ ⟨t, n, prods⟩ h0 hck n rfl ⟨gE, n, gF, n, gW, n, gM, n⟩ (vRow n gR n) E' (List.replicate n 0) ((List.replicate n 0).set 0 9223372036854775808) M' hk.1.1 ⟨by simp, fun x hx => by rw [List.eq_of_mem_replicate hx]; decide⟩ ⟨by simp, fun x hx => by
        rcases List.mem_or_eq_of_mem_set hx with h | h
        · rw [List.eq_of_mem_replicate h]; decide
        · rw [h]; decide⟩ hk.1.2.2 w' B' ho hm
      dsimp only at hsets
      repeat (first
        | refine qv rfl (qp rfl) rfl rfl ?_ | refine TL_nil ?_ | refine T_seq ?_ | refine T_region ?_ | refine qcT rfl ?_ | refine qcF rfl ?_ | refine T_skip ?_
        | refine T_exit ?_ | refine T_ret ?_ | refine T_block ?_ | refine E_then ?_ | refine E_thenX ?_ | refine E_thenR ?_ | refine E_blockN ?_
        | refine E_blockR ?_ | refine E_blockX ?_ | refine E_blockO rfl ?_ | refine qv rfl (rr_loadB (i := 0) TyC.ty rfl rfl rfl) rfl rfl ?_
        | refine qv rfl (rr_loadB (i := 4) TyC.ty rfl rfl rfl) rfl rfl ?_ | refine qv rfl (qfld FldC.fld rfl rfl) rfl rfl ?_
        | refine qv rfl (rr_neq rfl rfl (qT (by omega))) rfl rfl ?_ | refine qv rfl (rr_neq rfl rfl (qF (by omega))) rfl rfl ?_)
      refine TL_callB [5, 2, 3, 7] [0, 1, 6, 4] (by decide) rfl rfl (he2 EntersC.en rfl rfl rfl) (fun w' hm hb => hsets w' _ ((Old.self w).on hm (by intro o ho; simp at ho ⊢; rcases ho with h | h | h | h <;> simp [h])) hb) rfl rfl rfl ?_
      intro _ _
      conv => arg 8; simp only [zA, zB, zC, zD, zE, zF, zG, zH, zI, rowS, ret, id_eq]
      repeat (first
        | refine qv rfl (qp rfl) rfl rfl ?_ | refine TL_nil ?_ | refine T_seq ?_ | refine T_region ?_ | refine qcT rfl ?_ | refine qcF rfl ?_ | refine T_skip ?_
        | refine T_exit ?_ | refine T_ret ?_ | refine T_block ?_ | refine E_then ?_ | refine E_thenX ?_ | refine E_thenR ?_ | refine E_blockN ?_
        | refine E_blockR ?_ | refine E_blockX ?_ | refine E_blockO rfl ?_ | refine qv rfl (rr_loadB (i := 3) TyC.ty rfl rfl rfl) rfl rfl ?_
        | refine qv rfl (qfld FldC.fld rfl rfl) rfl rfl ?_ | refine qv rfl (rr_neq rfl rfl (qT (by omega))) rfl rfl ?_
        | refine qv rfl (rr_neq rfl rfl (qF (by omega))) rfl rfl ?_)
      refine TL_storeB (i := 1) rfl rfl rfl rfl rfl rfl ?_
      conv => arg 8; simp only [zA, zB, zC, zD, zE, zF, zG, zH, zI, rowS, ret, id_eq]
      repeat (first
        | refine qv rfl (qp rfl) rfl rfl ?_ | refine TL_nil ?_ | refine T_seq ?_ | refine T_region ?_ | refine qcT rfl ?_ | refine qcF rfl ?_ | refine T_skip ?_
        | refine T_exit ?_ | refine T_ret ?_ | refine T_block ?_ | refine E_then ?_ | refine E_thenX ?_ | refine E_thenR ?_ | refine E_blockN ?_
        | refine E_blockR ?_ | refine E_blockX ?_ | refine E_blockO rfl ?_ | refine qv rfl (qfld FldC.fld rfl rfl) rfl rfl ?_
        | refine qv rfl (rr_neq rfl rfl (qT (by omega))) rfl rfl ?_ | refine qv rfl (rr_neq rfl rfl (qF (by omega))) rfl rfl ?_)
      subst hst
      have eF : ofF n prods = setsF E' M' prods (List.replicate n 0) := by unfold ofF; rw [hfin]
      have eW : ofW n prods = setsW E' (setsF E' M' prods (List.replicate n 0)) prods ((List.replicate n 0).set 0 9223372036854775808) := by unfold ofW; rw [eF, hfin]
      rw [eF, eW]
      refine E_retc2 (i := 1) rfl rfl rfl rfl (z := .int .i64 0) ?_ fun w' hm => ?_
      · rfl
      exact hm.meetsB (S := ⟨fun (_ : Rows5) => True, fun x => .tuple #[x.val n, .int .i64 0], fun x => [rowBn n x.gE x.cE E', rowNn n x.gF x.cF (setsF E' M' prods (List.replicate n 0)), rowNn n x.gW x.cW (setsW E' (setsF E' M' prods (List.replicate n 0)) prods ((List.replicate n 0).set 0 9223372036854775808)), rowBn n x.gR x.cR R', rowBn n x.gM x.cM M']⟩) ⟨⟨gE, n, gF, n, gW, n, gM, n⟩, gR, n⟩ trivial [4, 5, 6, 2, 7] (by decide) rfl
    · repeat (first
        | refine qv rfl (qp rfl) rfl rfl ?_ | refine TL_nil ?_ | refine T_seq ?_ | refine T_region ?_ | refine qcT rfl ?_ | refine qcF rfl ?_ | refine T_skip ?_
        | refine T_exit ?_ | refine T_ret ?_ | refine T_block ?_ | refine E_then ?_ | refine E_thenX ?_ | refine E_thenR ?_ | refine E_blockN ?_
        | refine E_blockR ?_ | refine E_blockX ?_ | refine E_blockO rfl ?_ | refine qv rfl (qfld FldC.fld rfl rfl) rfl rfl ?_
        | refine qv rfl (rr_neq rfl rfl (qT (by omega))) rfl rfl ?_ | refine qv rfl (rr_neq rfl rfl (qF (by omega))) rfl rfl ?_)
      refine E_pick [0, 1, 5, 2, 3, 6, 7, 4] (by decide) rfl ?_
      exact E_round ⟨E', R', M', true⟩ ⟨hk.1, (hgo rfl).1⟩ (hgo rfl).2 (by repeat' (first | exact True.intro | refine And.intro rfl ?_)) rfl
  refine T_ordX [] sub_nil (by kernel_rfl) (by kernel_rfl) (by intro c a d v w h; cases d <;> exact h) ?_
  refine TX_val 0 (by kernel_rfl) rfl (rr_move rfl) rfl rfl rfl ?_
  refine TX_val 2 (by kernel_rfl) rfl (rr_move rfl) rfl rfl rfl ?_
  refine TX_val 4 (by kernel_rfl) rfl (rr_move rfl) rfl rfl rfl ?_
  refine TX_val 6 (by kernel_rfl) rfl (rr_move rfl) rfl rfl rfl ?_
  refine TX_val 8 (by kernel_rfl) rfl (rr_move rfl) rfl rfl rfl ?_
  refine TX_many2 [mkB 1 16 n, mkN 3 18 n, mkN 5 20 n, mkB 7 22 n, mkB 9 24 n, mkF 11 6] (fun m => !Nat.beq m.i 11) 2 (by kernel_rfl) (by kernel_rfl) ?_ (fun q => ?_) fun q => ?_
  · intro m hm
    simp only [List.mem_cons, List.not_mem_nil, or_false] at hm
    rcases hm with rfl | rfl | rfl | rfl | rfl | rfl
    · exact makes_slice rfl rfl rfl (Nat.le_refl _) (by omega) (by omega) rfl
    · exact makes_slice rfl rfl rfl (Nat.le_refl _) (by omega) (by omega) rfl
    · exact makes_slice rfl rfl rfl (Nat.le_refl _) (by omega) (by omega) rfl
    · exact makes_slice rfl rfl rfl (Nat.le_refl _) (by omega) (by omega) rfl
    · exact makes_slice rfl rfl rfl (Nat.le_refl _) (by omega) (by omega) rfl
    · exact makes_new rfl rfl
  · simp only [mkB, mkN, mkF, List.map_cons, List.map_nil]
    generalize q 1 = gE
    generalize q 3 = gF
    generalize q 5 = gW
    generalize q 7 = gR
    generalize q 9 = gM
    generalize q 11 = g6
    clear q
    refine TX_tree (.calm 10 (.one 12 .done)) (by kernel_rfl) rfl ?_
    repeat (first
      | ((first | refine TW_plain rfl rfl ?_ | refine TW_gmet rfl rfl rfl rfl ?_); first | refine TN_val (qp rfl) rfl rfl ?_ | refine TN_val (rr_build rfl (build_fac _ _ _ _ _ _ _ _ _ _ _ _ _ _ _)) rfl rfl ?_ | refine TN_val (qfld FldC.fld rfl rfl) rfl rfl ?_ | refine TN_val (rr_neq rfl rfl (qT (by omega))) rfl rfl ?_ | refine TN_val (rr_neq rfl rfl (qF (by omega))) rfl rfl ?_)
      | refine TW_done ?_)
    refine TW_one rfl ?_
    refine TL_storeB (i := 7) rfl rfl rfl rfl rfl rfl ?_
    refine TW_on sub_nil ?_
    repeat (first
      | ((first | refine TW_plain rfl rfl ?_ | refine TW_gmet rfl rfl rfl rfl ?_); first | refine TN_val (qp rfl) rfl rfl ?_ | refine TN_val (qfld FldC.fld rfl rfl) rfl rfl ?_ | refine TN_val (rr_neq rfl rfl (qT (by omega))) rfl rfl ?_ | refine TN_val (rr_neq rfl rfl (qF (by omega))) rfl rfl ?_)
      | refine TW_done ?_)
    exact E_mid (gE, gF, gW, gR, gM, g6) trivial (by repeat' (first | exact True.intro | refine And.intro rfl ?_)) rfl
  · rw [show List.filter (fun m : Mk => !Nat.beq m.i 11) [mkB 1 16 n, mkN 3 18 n, mkN 5 20 n, mkB 7 22 n, mkB 9 24 n, mkF 11 6] = [mkB 1 16 n, mkN 3 18 n, mkN 5 20 n, mkB 7 22 n, mkB 9 24 n] from rfl]
    simp only [mkB, mkN, mkF, List.map_cons, List.map_nil]
    generalize q 1 = gE
    generalize q 3 = gF
    generalize q 5 = gW
    generalize q 7 = gR
    generalize q 9 = gM
    clear q
    refine TX_tree (.calm 10 (.one 11 (.one 12 .done))) (by kernel_rfl) (by kernel_rfl) ?_
    repeat (first
      | ((first | refine TW_plain rfl rfl ?_ | refine TW_gmet rfl rfl rfl rfl ?_); first | refine TN_val (qp rfl) rfl rfl ?_ | refine TN_val (rr_build rfl (build_fac _ _ _ _ _ _ _ _ _ _ _ _ _ _ _)) rfl rfl ?_ | refine TN_val (qfld FldC.fld rfl rfl) rfl rfl ?_ | refine TN_val (rr_neq rfl rfl (qT (by omega))) rfl rfl ?_ | refine TN_val (rr_neq rfl rfl (qF (by omega))) rfl rfl ?_)
      | refine TW_done ?_)
    refine TW_one rfl ?_
    refine TL_new rfl fun g6 => ?_
    refine TW_on sub_nil ?_
    refine TW_one rfl ?_
    refine TL_storeB (i := 7) rfl rfl rfl rfl rfl rfl ?_
    refine TW_on sub_nil ?_
    repeat (first
      | ((first | refine TW_plain rfl rfl ?_ | refine TW_gmet rfl rfl rfl rfl ?_); first | refine TN_val (qp rfl) rfl rfl ?_ | refine TN_val (qfld FldC.fld rfl rfl) rfl rfl ?_ | refine TN_val (rr_neq rfl rfl (qT (by omega))) rfl rfl ?_ | refine TN_val (rr_neq rfl rfl (qF (by omega))) rfl rfl ?_)
      | refine TW_done ?_)
    exact E_mid (gE, gF, gW, gR, gM, g6) trivial (by repeat' (first | exact True.intro | refine And.intro rfl ?_)) rfl
end Go.Proofs.Ytnicebdkejkieaa.eng
