/- What dfa.Tag computes. -/
import Derived.Test.YtbiacehgfmgfdaaSmT
namespace Go.Proofs.Ytbiacehgfmgfdaa.eng
open Go.RowKit kit mix dfaL smallL
theorem chkM_calls (vr vt : Value) (R : List Row) (tags : List Int) (w : World) (h : DfaM w vr vt R tags) : Calls Try.prog 12 #[dfaV vr vt] w (Meets (ret (.int .i64 (chk R tags))) w) := dfaCheck_calls _ _ _ w h.isDfa
theorem runF_ok {R : List Row} {tags : List Int} {s : List UInt8} (h : chk R tags = 0) : runF (R.map Vector.toList) tags s = (go (aut R tags) 0 s, 0) := by
  obtain ⟨hA, _⟩ := chk_ok h
  unfold runF
  rw [if_neg (by simpa [chk] using h), goes_aut hA s 0 (st_zero hA)]
theorem runF_no {R : List Row} {tags : List Int} {s : List UInt8} (h : chk R tags ≠ 0) : runF (R.map Vector.toList) tags s = (0, chk R tags) := by
  unfold runF
  rw [if_pos (by simpa [chk] using h)]; rfl
theorem dfaTag_calls (vr vt : Value) (R : List Row) (tags : List Int) (s : List UInt8) (w : World) (h : DfaM w vr vt R tags) (hs : s.length ≤ 9223372036854775807) :
    Calls Try.prog 10 #[dfaV vr vt, str s] w (Meets (ret (.tuple #[.int .i64 (tagF R tags s).1, .int .i64 (tagF R tags s).2])) w) := by
  have hrun := fun w' (hg : Gr w w') => dfaRun_calls _ _ _ s w' (h.gr hg).isDfa hs
  obtain ⟨bt, ct, rfl, ht1, ht2, ht3⟩ := h.hT
  obtain ⟨br, cr, rfl, _⟩ := h.hR
  unfold tagF
  by_cases hc : chk R tags = 0
  · rw [if_pos hc]
    rw [runF_ok hc] at hrun
    obtain ⟨hA, hlt⟩ := chk_ok hc
    have hst := st_go hA s 0 (st_zero hA)
    unfold St at hst
    have en : (aut R tags).n = R.length := rfl
    unfold tg
    generalize go (aut R tags) 0 s = q at *
    refine enter (args := [dfaV (.slice br R.length cr) (.slice bt tags.length ct), str s]) (n := 26) Try.func10 rfl rfl rfl ?_
    refine T_seq (T_region (TL_box rfl rfl rfl fun g => ?_))
    repeat (first
      | refine qv rfl (qp rfl) rfl rfl ?_ | refine TL_nil ?_ | refine T_seq ?_ | refine T_region ?_ | refine qcT rfl ?_ | refine qcF rfl ?_ | refine T_skip ?_
      | refine T_ret ?_ | refine T_block ?_ | refine E_then ?_ | refine E_thenR ?_ | refine E_blockN ?_ | refine E_blockR ?_
      | refine qv rfl (rr_loadB (i := 0) TyC.ty rfl rfl rfl) rfl rfl ?_ | refine qv rfl (qfld FldC.fld rfl rfl) rfl rfl ?_
      | refine qv rfl (rr_lss rfl rfl (qT (by omega))) rfl rfl ?_ | refine qv rfl (rr_lss rfl rfl (qF (by omega))) rfl rfl ?_
      | refine qv rfl (rr_neq rfl rfl (qT (by omega))) rfl rfl ?_ | refine qv rfl (rr_neq rfl rfl (qF (by omega))) rfl rfl ?_)
    refine TL_call (he2 EntersC.en rfl rfl rfl) (fun w hm => hrun _ hm.below) rfl rfl rfl ?_
    intro _ _
    by_cases c : q < 0
    · rw [if_pos c]
      repeat (first
        | refine qv rfl (qp rfl) rfl rfl ?_ | refine TL_nil ?_ | refine T_seq ?_ | refine T_region ?_ | refine qcT rfl ?_ | refine qcF rfl ?_ | refine T_skip ?_
        | refine T_ret ?_ | refine T_block ?_ | refine E_then ?_ | refine E_thenR ?_ | refine E_blockN ?_ | refine E_blockR ?_
        | refine qv rfl (qfld FldC.fld rfl rfl) rfl rfl ?_ | refine qv rfl (rr_lss rfl rfl (qT (by omega))) rfl rfl ?_
        | refine qv rfl (rr_lss rfl rfl (qF (by omega))) rfl rfl ?_ | refine qv rfl (rr_neq rfl rfl (qT (by omega))) rfl rfl ?_
        | refine qv rfl (rr_neq rfl rfl (qF (by omega))) rfl rfl ?_)
      exact E_ret2 rfl rfl rfl fun w hm => hm.ret
    · rw [if_neg c]
      obtain ⟨m, rfl⟩ : ∃ m : Nat, q = m := ⟨q.toNat, by omega⟩
      have hm : m < tags.length := by omega
      rw [Int.toNat_natCast, aut_tag hm]
      obtain ⟨b, off, rfl, hr⟩ := ht3 (by omega)
      have hat := at_el (L := [blkO g (dfaV (.slice br R.length cr) (.slice (some ⟨b, off, none⟩) tags.length ct)).cells 25]) (c := 1) (f := kit.intC) (fun _ => rfl) hr hm 0 _ rfl
      repeat (first
        | refine qv rfl (qp rfl) rfl rfl ?_ | refine TL_nil ?_ | refine T_seq ?_ | refine T_region ?_ | refine qcT rfl ?_ | refine qcF rfl ?_ | refine T_skip ?_
        | refine T_ret ?_ | refine T_block ?_ | refine E_then ?_ | refine E_thenR ?_ | refine E_blockN ?_ | refine E_blockR ?_
        | refine qv rfl (rr_load1 TyC.ty rfl (at_blk (i := 0) rfl rfl)) rfl rfl ?_ | refine qv rfl (rr_idxc Und.eq TyC.ty rfl rfl hm) rfl rfl ?_
        | refine qv rfl (rr_load1 TyC.ty rfl hat) rfl rfl ?_ | refine qv rfl (qfld FldC.fld rfl rfl) rfl rfl ?_
        | refine qv rfl (rr_lss rfl rfl (qT (by omega))) rfl rfl ?_ | refine qv rfl (rr_lss rfl rfl (qF (by omega))) rfl rfl ?_
        | refine qv rfl (rr_neq rfl rfl (qT (by omega))) rfl rfl ?_ | refine qv rfl (rr_neq rfl rfl (qF (by omega))) rfl rfl ?_)
      exact E_ret2 rfl rfl rfl fun w hm => hm.ret
  · rw [if_neg hc]
    rw [runF_no hc] at hrun
    generalize chk R tags = e at *
    refine enter (args := [dfaV (.slice br R.length cr) (.slice bt tags.length ct), str s]) (n := 26) Try.func10 rfl rfl rfl ?_
    refine T_seq (T_region (TL_box rfl rfl rfl fun g => ?_))
    repeat (first
      | refine qv rfl (qp rfl) rfl rfl ?_ | refine TL_nil ?_ | refine T_seq ?_ | refine T_region ?_ | refine qcT rfl ?_ | refine qcF rfl ?_ | refine T_skip ?_
      | refine T_ret ?_ | refine T_block ?_ | refine E_then ?_ | refine E_thenR ?_ | refine E_blockN ?_ | refine E_blockR ?_
      | refine qv rfl (rr_loadB (i := 0) TyC.ty rfl rfl rfl) rfl rfl ?_ | refine qv rfl (qfld FldC.fld rfl rfl) rfl rfl ?_
      | refine qv rfl (rr_lss rfl rfl (qT (by omega))) rfl rfl ?_ | refine qv rfl (rr_lss rfl rfl (qF (by omega))) rfl rfl ?_
      | refine qv rfl (rr_neq rfl rfl (qT (by omega))) rfl rfl ?_ | refine qv rfl (rr_neq rfl rfl (qF (by omega))) rfl rfl ?_)
    refine TL_call (he2 EntersC.en rfl rfl rfl) (fun w hm => hrun _ hm.below) rfl rfl rfl ?_
    intro _ _
    repeat (first
      | refine qv rfl (qp rfl) rfl rfl ?_ | refine TL_nil ?_ | refine T_seq ?_ | refine T_region ?_ | refine qcT rfl ?_ | refine qcF rfl ?_ | refine T_skip ?_
      | refine T_ret ?_ | refine T_block ?_ | refine E_then ?_ | refine E_thenR ?_ | refine E_blockN ?_ | refine E_blockR ?_
      | refine qv rfl (rr_neq (b := true) rfl rfl (decide_eq_true hc)) rfl rfl ?_ | refine qv rfl (qfld FldC.fld rfl rfl) rfl rfl ?_
      | refine qv rfl (rr_lss rfl rfl (qT (by omega))) rfl rfl ?_ | refine qv rfl (rr_lss rfl rfl (qF (by omega))) rfl rfl ?_
      | refine qv rfl (rr_neq rfl rfl (qT (by omega))) rfl rfl ?_ | refine qv rfl (rr_neq rfl rfl (qF (by omega))) rfl rfl ?_)
    exact E_ret2 rfl rfl rfl fun w hm => hm.ret
end Go.Proofs.Ytbiacehgfmgfdaa.eng
