/- Automata compared; what Apart and Minimal say together. -/
import Derived.Test.YtbiacehgfmgfdaaSmRe
import Derived.Test.YtbiacehgfmgfdaaSmIn
import Derived.Test.YtbiacehgfmgfdaaSmAL
namespace Go.Proofs.Ytbiacehgfmgfdaa.eng
open Go.RowKit kit mix dfaL smallL
theorem sameDfa_calls (vr vt : Value) (R : List Row) (tags : List Int) (vr' vt' : Value) (R' : List Row) (tags' : List Int) (w : World) (h : DfaM w vr vt R tags) (h' : DfaM w vr' vt' R' tags') :
    Calls Try.prog 18 #[dfaV vr vt, dfaV vr' vt'] w (Meets (ret (.bool (decide (R = R') && decide (tags = tags')))) w) := by
  have hR := fun w' (hg : Gr w w') => equalSmRe_calls vr vr' R R' w' (h.hR.gr hg) (h'.hR.gr hg)
  have hT := fun w' (hg : Gr w w') => equalSmIn_calls vt vt' tags tags' w' (h.hT.gr hg) (h'.hT.gr hg)
  clear h h'
  refine enter (args := [dfaV vr vt, dfaV vr' vt']) (n := 17) Try.func18 rfl rfl rfl ?_
  refine T_seq (T_region (TL_box rfl rfl rfl fun g2 => ?_))
  refine TL_box rfl rfl rfl fun g3 => ?_
  conv => arg 8; simp only [zA, zB, zC, zD, zE, zF, zG, zH, zI, rowS, ret, id_eq]
  by_cases c : R = R'
  · rw [decide_eq_true c] at hR ⊢
    repeat (first
      | refine qv rfl (qp rfl) rfl rfl ?_ | refine TL_nil ?_ | refine T_seq ?_ | refine T_region ?_ | refine T_ret ?_ | refine E_then ?_ | refine E_thenR ?_
      | refine qs rfl rfl rfl rfl rfl rfl ?_
      | ((try refine qg rfl rfl rfl ?_); first | refine qv rfl (qp rfl) rfl rfl ?_ | refine qv rfl (rr_load1 TyC.ty rfl (at_blk (i := 0) rfl rfl)) rfl rfl ?_ | refine qv rfl (rr_load1 TyC.ty rfl (at_blk (i := 1) rfl rfl)) rfl rfl ?_ | refine qv rfl (qfld FldC.fld rfl rfl) rfl rfl ?_))
    refine TL_call (he2 EntersC.en rfl rfl rfl) (fun w hm => hR _ hm.below) rfl rfl rfl ?_
    intro _ _
    repeat (first
      | refine qv rfl (qp rfl) rfl rfl ?_ | refine TL_nil ?_ | refine T_seq ?_ | refine T_region ?_ | refine T_ret ?_ | refine E_then ?_ | refine E_thenR ?_
      | refine qs rfl rfl rfl rfl rfl rfl ?_
      | ((try refine qg rfl rfl rfl ?_); first | refine qv rfl (qp rfl) rfl rfl ?_ | refine qv rfl (rr_load1 TyC.ty rfl (at_blk (i := 0) rfl rfl)) rfl rfl ?_ | refine qv rfl (rr_load1 TyC.ty rfl (at_blk (i := 1) rfl rfl)) rfl rfl ?_ | refine qv rfl (qfld FldC.fld rfl rfl) rfl rfl ?_))
    refine TL_gcall (he2 EntersC.en rfl rfl rfl) (fun w hm => hT _ hm.below) rfl rfl rfl rfl rfl ?_
    intro _ _
    repeat (first
      | refine qv rfl (qp rfl) rfl rfl ?_ | refine TL_nil ?_ | refine T_seq ?_ | refine T_region ?_ | refine T_ret ?_ | refine E_then ?_ | refine E_thenR ?_
      | refine qs rfl rfl rfl rfl rfl rfl ?_
      | ((try refine qg rfl rfl rfl ?_); first | refine qv rfl (qp rfl) rfl rfl ?_ | refine qv rfl (qfld FldC.fld rfl rfl) rfl rfl ?_))
    exact E_ret1e rfl rfl rfl
  · rw [decide_eq_false c] at hR ⊢
    repeat (first
      | refine qv rfl (qp rfl) rfl rfl ?_ | refine TL_nil ?_ | refine T_seq ?_ | refine T_region ?_ | refine T_ret ?_ | refine E_then ?_ | refine E_thenR ?_
      | refine qs rfl rfl rfl rfl rfl rfl ?_
      | ((try refine qg rfl rfl rfl ?_); first | refine qv rfl (qp rfl) rfl rfl ?_ | refine qv rfl (rr_load1 TyC.ty rfl (at_blk (i := 0) rfl rfl)) rfl rfl ?_ | refine qv rfl (rr_load1 TyC.ty rfl (at_blk (i := 1) rfl rfl)) rfl rfl ?_ | refine qv rfl (qfld FldC.fld rfl rfl) rfl rfl ?_))
    refine TL_call (he2 EntersC.en rfl rfl rfl) (fun w hm => hR _ hm.below) rfl rfl rfl ?_
    intro _ _
    repeat (first
      | refine qv rfl (qp rfl) rfl rfl ?_ | refine TL_nil ?_ | refine T_seq ?_ | refine T_region ?_ | refine T_ret ?_ | refine E_then ?_ | refine E_thenR ?_
      | refine qs rfl rfl rfl rfl rfl rfl ?_
      | ((try refine qg rfl rfl rfl ?_); first | refine qv rfl (qp rfl) rfl rfl ?_ | refine qv rfl (qfld FldC.fld rfl rfl) rfl rfl ?_))
    exact E_ret1e rfl rfl rfl
theorem same_law {R R' : List Row} {tags tags' : List Int} (h : chk R tags = 0) (h' : chk R' tags' = 0) :
    ∃ s is, apartF R tags R' tags' = (s, is, 0) ∧ is = !(decide (minR R tags = minR R' tags') && decide (minT R tags = minT R' tags')) := by
  have hA := (chk_ok h).1
  have hB := (chk_ok h').1
  rcases apart_law h h' with ⟨e, hl⟩ | ⟨s, e, h1, h2, h3⟩
  · refine ⟨[], false, e, ?_⟩
    have hs : sameAB (aut R tags) (aut R' tags') 0 0 := fun s => by
      have := hl s
      rw [tagF_ok h, tagF_ok h'] at this
      exact (Prod.mk.inj this).1
    have hu := min_unique hA hB hs
    unfold minR minT
    rw [if_pos h, if_pos h', if_pos h, if_pos h', decide_eq_true hu.1, decide_eq_true hu.2]; rfl
  · refine ⟨s, true, e, ?_⟩
    by_cases c : minR R tags = minR R' tags'
    · by_cases c2 : minT R tags = minT R' tags'
      · exfalso
        apply h2
        have e1 := tagF_min (s := s) h
        have e2 := tagF_min (s := s) h'
        rw [← c, ← c2, e1] at e2
        rw [tagF_ok h, tagF_ok h', e2]
      · rw [decide_eq_false c2, Bool.and_false]; rfl
    · rw [decide_eq_false c]; rfl
end Go.Proofs.Ytbiacehgfmgfdaa.eng
