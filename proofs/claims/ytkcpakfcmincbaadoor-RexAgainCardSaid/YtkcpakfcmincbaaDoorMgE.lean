/- Part 5 of what RexAgain needs: RexPs, RexZ, RexSz, RexO, RexO2, RexO3, RexPt, RexAgainW. -/
import Derived.Test.YtkcpakfcmincbaaDoorMgD
import Derived.WalkKit
import Derived.WalkSpells
import Derived.WalkLawsBesides
import Derived.Deep.RegionLaw
import Derived.Deep.AppendLies
import Derived.Deep.QuietTactic
import Derived.BigQuiet
import Derived.Deep.DeepCutAuto
import Derived.Lib.Hide
import Derived.Test.YtkcpakfcmincbaaDoorRows
import Derived.ProofKit
import Derived.OpenShut
import Derived.ShutString
import Derived.SizedLaws
import Derived.JoinedCond
import Derived.Deep.CondSized
import Derived.Deep.Quiet
import Derived.StillTail
import Derived.Deep.LoopGhost
import Derived.Laws.BitsLemmas
import Derived.Laws.BytesString
import Derived.Test.YtkcpakfcmincbaaDoorProg
import Derived.Laws.Entries
import Derived.Laws.BitsAllLaws
import Derived.Laws.StructEq
import Derived.ChangeKeysEq
import Derived.Lib.TrailingZeros
import Derived.Laws.MakeOwn
import Derived.Laws.AppendOwn
import Derived.Laws.Bits64b
import Derived.Handed
import Derived.Lay
import Derived.Lib.LaidTab
import Derived.MakeChecks
import Derived.Maps.OwnSet
import Derived.DeepKeys4
import Derived.WideKeyEntry
import Derived.Lib.Strings
import Derived.Lib.Slices
import Derived.Lib.Walk
import Derived.Lib.Bytealg
/- RexPs -/
namespace Go.Proofs.YtkcpakfcmincbaaDoor.eng
open Go.RowKit kit mix classL rexL classSets
theorem classT_len (c : C4) : (classT c).length ≤ 2400 := by
  have h1 := charT_len (UInt8.ofNat ((bytesL c).getD 0 0))
  have h2 := itemsT_len 256 (bytesL c)
  have h3 := itemsT_len 256 (bytesL c.not)
  have h4 : (bytesL c).length ≤ 256 := cnt_le c
  have h5 : (bytesL c.not).length ≤ 256 := cnt_le c.not
  unfold classT
  split
  · omega
  · split
    · decide
    · split <;> simp only [List.length_append, List.length_cons, List.length_nil] <;> omega
theorem wrap_len (b : Bool) (t : Txt) : (wrap b t).length ≤ t.length + 2 := by
  unfold wrap
  split
  · simp only [List.length_append, List.length_cons, List.length_nil]; omega
  · omega
theorem body_len : ∀ e : Re, (body e).length ≤ 2500 * e.size
  | .empty => by show 2 ≤ 2500 * 1; omega
  | .none => by show 2 ≤ 2500 * 1; omega
  | .byte c => by have := classT_len c; show (classT c).length ≤ 2500 * 1; omega
  | .star a => by
    have h1 := body_len a
    have h2 := wrap_len (inBr 3 a) (body a)
    show (wrap (inBr 3 a) (body a) ++ [42]).length ≤ 2500 * (a.size + 1)
    rw [List.length_append, List.length_singleton]
    omega
  | .cat a b => by
    have h1 := body_len a
    have h2 := wrap_len (inBr 1 a) (body a)
    have h3 := body_len b
    have h4 := wrap_len (inBr 2 b) (body b)
    show (wrap (inBr 1 a) (body a) ++ wrap (inBr 2 b) (body b)).length ≤ 2500 * (a.size + b.size + 1)
    rw [List.length_append]
    omega
  | .alt a b => by
    have h1 := body_len a
    have h2 := wrap_len (inBr 0 a) (body a)
    have h3 := body_len b
    have h4 := wrap_len (inBr 1 b) (body b)
    show (wrap (inBr 0 a) (body a) ++ ([124] ++ wrap (inBr 1 b) (body b))).length ≤ 2500 * (a.size + b.size + 1)
    rw [List.length_append, List.length_append, List.length_singleton]
    omega
set_option maxHeartbeats 4000000 in
theorem rexClassText_calls (c : C4) (w : World) (hT : TabW w) : Calls Tryd.prog 20 #[clsV c] w (Meets (ret (str (classT c))) w) := by
  have hup := fun w' (hg : Gr w w') => (by have hm : Mem (w : Base) [] w := .start w; exact hT.up (hm.gr hg) : TabW w')
  have hcn := fun w => count_calls c w
  have hil := itemsT_len 256 (bytesL c)
  have hil2 := itemsT_len 256 (bytesL c.not)
  have hl1 : (bytesL c).length ≤ 256 := cnt_le c
  have hl2 : (bytesL c.not).length ≤ 256 := cnt_le c.not
  have hcl : (bytesL c).length = cnt c := rfl
  unfold classT
  refine enter (args := [clsV c]) (n := 33) Tryd.func20 rfl rfl rfl ?_
  refine T_seq (T_region (TL_box rfl rfl rfl fun g1 => ?_))
  conv => arg 8; simp only [zA, zB, zC, zD, zE, zF, zG, zH, zI, rowS, ret, id_eq]
  repeat (first
    | refine qv rfl (qp rfl) rfl rfl ?_ | refine TL_nil ?_ | refine T_seq ?_ | refine T_region ?_ | refine qcT rfl ?_ | refine qcF rfl ?_ | refine T_skip ?_
    | refine T_ret ?_ | refine T_block ?_ | refine E_then ?_ | refine E_thenR ?_ | refine E_blockN ?_ | refine E_blockR ?_
    | refine qs rfl rfl rfl rfl rfl rfl ?_
    | ((try refine qg rfl rfl rfl ?_); first | refine qv rfl (qp rfl) rfl rfl ?_ | refine qv rfl (rr_loadN (cs := clsL c) TyC.ty rfl rfl (fun j v hj => at_blk (i := 0) rfl (cls_blk hj))) rfl rfl ?_ | refine qv rfl (rr_gtr rfl rfl (qT (by omega))) rfl rfl ?_ | refine qv rfl (rr_gtr rfl rfl (qF (by omega))) rfl rfl ?_ | refine qv rfl (rr_eql rfl rfl (qT (by omega))) rfl rfl ?_ | refine qv rfl (rr_eql rfl rfl (qF (by omega))) rfl rfl ?_ | refine qv rfl (rr_not rfl rfl) rfl rfl ?_))
  refine TL_call (he1 EntersC.en rfl rfl) (fun w' hm => hcn w') rfl rfl rfl ?_
  intro _ _
  conv => arg 8; simp only [zA, zB, zC, zD, zE, zF, zG, zH, zI, rowS, ret, id_eq]
  repeat (first
    | refine qv rfl (qp rfl) rfl rfl ?_ | refine TL_nil ?_ | refine T_seq ?_ | refine T_region ?_ | refine qcT rfl ?_ | refine qcF rfl ?_ | refine T_skip ?_
    | refine T_ret ?_ | refine T_block ?_ | refine E_then ?_ | refine E_thenR ?_ | refine E_blockN ?_ | refine E_blockR ?_
    | refine qs rfl rfl rfl rfl rfl rfl ?_
    | ((try refine qg rfl rfl rfl ?_); first | refine qv rfl (qp rfl) rfl rfl ?_ | refine qv rfl (rr_gtr rfl rfl (qT (by omega))) rfl rfl ?_ | refine qv rfl (rr_gtr rfl rfl (qF (by omega))) rfl rfl ?_ | refine qv rfl (rr_eql rfl rfl (qT (by omega))) rfl rfl ?_ | refine qv rfl (rr_eql rfl rfl (qF (by omega))) rfl rfl ?_ | refine qv rfl (rr_not rfl rfl) rfl rfl ?_))
  by_cases c1 : cnt c = 1
  · rw [if_pos c1]
    obtain ⟨b, hb⟩ := List.length_eq_one_iff.1 (hcl.trans c1)
    have hst : strL c = [UInt8.ofNat b] := by unfold strL; rw [hb]; rfl
    have hby := fun w' hg => bytes_calls c w' (hup w' hg)
    rw [hst] at hby
    rw [hb, show [b].getD 0 0 = b from rfl]
    repeat (first
      | refine qv rfl (qp rfl) rfl rfl ?_ | refine TL_nil ?_ | refine T_seq ?_ | refine T_region ?_ | refine qcT rfl ?_ | refine qcF rfl ?_ | refine T_skip ?_
      | refine T_ret ?_ | refine T_block ?_ | refine E_then ?_ | refine E_thenR ?_ | refine E_blockN ?_ | refine E_blockR ?_
      | refine qs rfl rfl rfl rfl rfl rfl ?_
      | ((try refine qg rfl rfl rfl ?_); first | refine qv rfl (qp rfl) rfl rfl ?_ | refine qv rfl (rr_eql (b := true) rfl rfl (decide_eq_true (by omega))) rfl rfl ?_ | refine qv rfl (rr_loadN (cs := clsL c) TyC.ty rfl rfl (fun j v hj => at_blk (i := 0) rfl (cls_blk hj))) rfl rfl ?_ | refine qv rfl (rr_gtr rfl rfl (qT (by omega))) rfl rfl ?_ | refine qv rfl (rr_gtr rfl rfl (qF (by omega))) rfl rfl ?_ | refine qv rfl (rr_eql rfl rfl (qT (by omega))) rfl rfl ?_ | refine qv rfl (rr_eql rfl rfl (qF (by omega))) rfl rfl ?_ | refine qv rfl (rr_not rfl rfl) rfl rfl ?_))
    refine TL_call (he1 EntersC.en rfl rfl) (fun w' hm => hby w' hm.below) rfl rfl rfl ?_
    intro _ _
    conv => arg 8; simp only [zA, zB, zC, zD, zE, zF, zG, zH, zI, rowS, ret, id_eq]
    repeat (first
      | refine qv rfl (qp rfl) rfl rfl ?_ | refine TL_nil ?_ | refine T_seq ?_ | refine T_region ?_ | refine qcT rfl ?_ | refine qcF rfl ?_ | refine T_skip ?_
      | refine T_ret ?_ | refine T_block ?_ | refine E_then ?_ | refine E_thenR ?_ | refine E_blockN ?_ | refine E_blockR ?_
      | refine qs rfl rfl rfl rfl rfl rfl ?_
      | ((try refine qg rfl rfl rfl ?_); first | refine qv rfl (qp rfl) rfl rfl ?_ | refine qv rfl (rr_stridx (b := UInt8.ofNat b) Und.eq rfl rfl (by omega) rfl) rfl rfl ?_ | refine qv rfl (rr_gtr rfl rfl (qT (by omega))) rfl rfl ?_ | refine qv rfl (rr_gtr rfl rfl (qF (by omega))) rfl rfl ?_ | refine qv rfl (rr_eql rfl rfl (qT (by omega))) rfl rfl ?_ | refine qv rfl (rr_eql rfl rfl (qF (by omega))) rfl rfl ?_ | refine qv rfl (rr_not rfl rfl) rfl rfl ?_))
    refine TL_call (he1 EntersC.en rfl rfl) (fun w' hm => rexChar_calls (UInt8.ofNat b) w') rfl rfl rfl ?_
    intro _ _
    conv => arg 8; simp only [zA, zB, zC, zD, zE, zF, zG, zH, zI, rowS, ret, id_eq]
    repeat (first
      | refine qv rfl (qp rfl) rfl rfl ?_ | refine TL_nil ?_ | refine T_seq ?_ | refine T_region ?_ | refine qcT rfl ?_ | refine qcF rfl ?_ | refine T_skip ?_
      | refine T_ret ?_ | refine T_block ?_ | refine E_then ?_ | refine E_thenR ?_ | refine E_blockN ?_ | refine E_blockR ?_
      | refine qs rfl rfl rfl rfl rfl rfl ?_
      | ((try refine qg rfl rfl rfl ?_); first | refine qv rfl (qp rfl) rfl rfl ?_ | refine qv rfl (rr_gtr rfl rfl (qT (by omega))) rfl rfl ?_ | refine qv rfl (rr_gtr rfl rfl (qF (by omega))) rfl rfl ?_ | refine qv rfl (rr_eql rfl rfl (qT (by omega))) rfl rfl ?_ | refine qv rfl (rr_eql rfl rfl (qF (by omega))) rfl rfl ?_ | refine qv rfl (rr_not rfl rfl) rfl rfl ?_))
    exact E_ret1 rfl rfl fun w hm => hm.ret
  · rw [if_neg c1]
    have hit := fun w' hg => rexItems_calls c w' (hup w' hg)
    have hitn := fun w' hg => rexItems_calls c.not w' (hup w' hg)
    by_cases c2 : cnt c = 255
    · have hha := fun w => has_calls c 10 (by omega) w
      repeat (first
        | refine qv rfl (qp rfl) rfl rfl ?_ | refine TL_nil ?_ | refine T_seq ?_ | refine T_region ?_ | refine qcT rfl ?_ | refine qcF rfl ?_ | refine T_skip ?_
        | refine T_ret ?_ | refine T_block ?_ | refine E_then ?_ | refine E_thenR ?_ | refine E_blockN ?_ | refine E_blockR ?_
        | refine qs rfl rfl rfl rfl rfl rfl ?_
        | ((try refine qg rfl rfl rfl ?_); first | refine qv rfl (qp rfl) rfl rfl ?_ | refine qv rfl (rr_eql (b := false) rfl rfl (decide_eq_false (by omega))) rfl rfl ?_ | refine qv rfl (rr_eql (b := true) rfl rfl (decide_eq_true (by omega))) rfl rfl ?_ | refine qv rfl (rr_loadN (cs := clsL c) TyC.ty rfl rfl (fun j v hj => at_blk (i := 0) rfl (cls_blk hj))) rfl rfl ?_ | refine qv rfl (rr_gtr rfl rfl (qT (by omega))) rfl rfl ?_ | refine qv rfl (rr_gtr rfl rfl (qF (by omega))) rfl rfl ?_ | refine qv rfl (rr_eql rfl rfl (qT (by omega))) rfl rfl ?_ | refine qv rfl (rr_eql rfl rfl (qF (by omega))) rfl rfl ?_ | refine qv rfl (rr_not rfl rfl) rfl rfl ?_))
      refine TL_gcall (he2 EntersC.en rfl rfl rfl) (fun w' hm => hha w') rfl rfl rfl rfl rfl ?_
      intro _ _
      conv => arg 8; simp only [zA, zB, zC, zD, zE, zF, zG, zH, zI, rowS, ret, id_eq]
      cases hm10 : c.mem 10 with
      | false =>
        rw [if_pos ⟨c2, rfl⟩]
        repeat (first
          | refine qv rfl (qp rfl) rfl rfl ?_ | refine TL_nil ?_ | refine T_seq ?_ | refine T_region ?_ | refine qcT rfl ?_ | refine qcF rfl ?_ | refine T_skip ?_
          | refine T_ret ?_ | refine T_block ?_ | refine E_then ?_ | refine E_thenR ?_ | refine E_blockN ?_ | refine E_blockR ?_
          | refine qs rfl rfl rfl rfl rfl rfl ?_
          | ((try refine qg rfl rfl rfl ?_); first | refine qv rfl (qp rfl) rfl rfl ?_ | refine qv rfl (rr_gtr rfl rfl (qT (by omega))) rfl rfl ?_ | refine qv rfl (rr_gtr rfl rfl (qF (by omega))) rfl rfl ?_ | refine qv rfl (rr_eql rfl rfl (qT (by omega))) rfl rfl ?_ | refine qv rfl (rr_eql rfl rfl (qF (by omega))) rfl rfl ?_ | refine qv rfl (rr_not rfl rfl) rfl rfl ?_))
        exact E_ret1 rfl rfl fun w hm => hm.ret
      | true =>
        rw [if_neg (by rintro ⟨_, h⟩; cases h), if_pos (by omega)]
        repeat (first
          | refine qv rfl (qp rfl) rfl rfl ?_ | refine TL_nil ?_ | refine T_seq ?_ | refine T_region ?_ | refine qcT rfl ?_ | refine qcF rfl ?_ | refine T_skip ?_
          | refine T_ret ?_ | refine T_block ?_ | refine E_then ?_ | refine E_thenR ?_ | refine E_blockN ?_ | refine E_blockR ?_
          | refine qs rfl rfl rfl rfl rfl rfl ?_
          | ((try refine qg rfl rfl rfl ?_); first | refine qv rfl (qp rfl) rfl rfl ?_ | refine qv rfl (rr_gtr (b := true) rfl rfl (decide_eq_true (by omega))) rfl rfl ?_ | refine qv rfl (rr_loadN (cs := clsL c) TyC.ty rfl rfl (fun j v hj => at_blk (i := 0) rfl (cls_blk hj))) rfl rfl ?_ | refine qv rfl (rr_gtr rfl rfl (qT (by omega))) rfl rfl ?_ | refine qv rfl (rr_gtr rfl rfl (qF (by omega))) rfl rfl ?_ | refine qv rfl (rr_eql rfl rfl (qT (by omega))) rfl rfl ?_ | refine qv rfl (rr_eql rfl rfl (qF (by omega))) rfl rfl ?_ | refine qv rfl (rr_not rfl rfl) rfl rfl ?_))
        refine TL_call (he1 EntersC.en rfl rfl) (fun w hm => notE c w) rfl rfl rfl ?_
        intro _ _
        conv => arg 8; simp only [zA, zB, zC, zD, zE, zF, zG, zH, zI, rowS, ret, id_eq]
        repeat (first
          | refine qv rfl (qp rfl) rfl rfl ?_ | refine TL_nil ?_ | refine T_seq ?_ | refine T_region ?_ | refine qcT rfl ?_ | refine qcF rfl ?_ | refine T_skip ?_
          | refine T_ret ?_ | refine T_block ?_ | refine E_then ?_ | refine E_thenR ?_ | refine E_blockN ?_ | refine E_blockR ?_
          | refine qs rfl rfl rfl rfl rfl rfl ?_
          | ((try refine qg rfl rfl rfl ?_); first | refine qv rfl (qp rfl) rfl rfl ?_ | refine qv rfl (rr_gtr rfl rfl (qT (by omega))) rfl rfl ?_ | refine qv rfl (rr_gtr rfl rfl (qF (by omega))) rfl rfl ?_ | refine qv rfl (rr_eql rfl rfl (qT (by omega))) rfl rfl ?_ | refine qv rfl (rr_eql rfl rfl (qF (by omega))) rfl rfl ?_ | refine qv rfl (rr_not rfl rfl) rfl rfl ?_))
        refine TL_call (he1 EntersC.en rfl rfl) (fun w' hm => hitn w' hm.below) rfl rfl rfl ?_
        intro _ _
        conv => arg 8; simp only [zA, zB, zC, zD, zE, zF, zG, zH, zI, rowS, ret, id_eq]
        repeat (first
          | refine qv rfl (qp rfl) rfl rfl ?_ | refine TL_nil ?_ | refine T_seq ?_ | refine T_region ?_ | refine qcT rfl ?_ | refine qcF rfl ?_ | refine T_skip ?_
          | refine T_ret ?_ | refine T_block ?_ | refine E_then ?_ | refine E_thenR ?_ | refine E_blockN ?_ | refine E_blockR ?_
          | refine qs rfl rfl rfl rfl rfl rfl ?_
          | ((try refine qg rfl rfl rfl ?_); first | refine qv rfl (qp rfl) rfl rfl ?_ | refine qv rfl (rr_stradd (l := [91, 94]) rfl rfl (by simp only [List.length_cons, List.length_nil]; omega)) rfl rfl ?_ | refine qv rfl (rr_stradd (l' := [93]) rfl rfl (by simp only [List.length_append, List.length_cons, List.length_nil]; omega)) rfl rfl ?_ | refine qv rfl (rr_gtr rfl rfl (qT (by omega))) rfl rfl ?_ | refine qv rfl (rr_gtr rfl rfl (qF (by omega))) rfl rfl ?_ | refine qv rfl (rr_eql rfl rfl (qT (by omega))) rfl rfl ?_ | refine qv rfl (rr_eql rfl rfl (qF (by omega))) rfl rfl ?_ | refine qv rfl (rr_not rfl rfl) rfl rfl ?_))
        exact E_ret1e rfl rfl (by simp)
    · rw [if_neg (by rintro ⟨h, _⟩; exact c2 h)]
      by_cases c3 : 128 < cnt c
      · rw [if_pos c3]
        repeat (first
          | refine qv rfl (qp rfl) rfl rfl ?_ | refine TL_nil ?_ | refine T_seq ?_ | refine T_region ?_ | refine qcT rfl ?_ | refine qcF rfl ?_ | refine T_skip ?_
          | refine T_ret ?_ | refine T_block ?_ | refine E_then ?_ | refine E_thenR ?_ | refine E_blockN ?_ | refine E_blockR ?_
          | refine qs rfl rfl rfl rfl rfl rfl ?_
          | ((try refine qg rfl rfl rfl ?_); first | refine qv rfl (qp rfl) rfl rfl ?_ | refine qv rfl (rr_eql (b := false) rfl rfl (decide_eq_false (by omega))) rfl rfl ?_ | refine qv rfl (rr_gtr (b := true) rfl rfl (decide_eq_true (by omega))) rfl rfl ?_ | refine qv rfl (rr_loadN (cs := clsL c) TyC.ty rfl rfl (fun j v hj => at_blk (i := 0) rfl (cls_blk hj))) rfl rfl ?_ | refine qv rfl (rr_gtr rfl rfl (qT (by omega))) rfl rfl ?_ | refine qv rfl (rr_gtr rfl rfl (qF (by omega))) rfl rfl ?_ | refine qv rfl (rr_eql rfl rfl (qT (by omega))) rfl rfl ?_ | refine qv rfl (rr_eql rfl rfl (qF (by omega))) rfl rfl ?_ | refine qv rfl (rr_not rfl rfl) rfl rfl ?_))
        refine TL_call (he1 EntersC.en rfl rfl) (fun w hm => notE c w) rfl rfl rfl ?_
        intro _ _
        conv => arg 8; simp only [zA, zB, zC, zD, zE, zF, zG, zH, zI, rowS, ret, id_eq]
        repeat (first
          | refine qv rfl (qp rfl) rfl rfl ?_ | refine TL_nil ?_ | refine T_seq ?_ | refine T_region ?_ | refine qcT rfl ?_ | refine qcF rfl ?_ | refine T_skip ?_
          | refine T_ret ?_ | refine T_block ?_ | refine E_then ?_ | refine E_thenR ?_ | refine E_blockN ?_ | refine E_blockR ?_
          | refine qs rfl rfl rfl rfl rfl rfl ?_
          | ((try refine qg rfl rfl rfl ?_); first | refine qv rfl (qp rfl) rfl rfl ?_ | refine qv rfl (rr_gtr rfl rfl (qT (by omega))) rfl rfl ?_ | refine qv rfl (rr_gtr rfl rfl (qF (by omega))) rfl rfl ?_ | refine qv rfl (rr_eql rfl rfl (qT (by omega))) rfl rfl ?_ | refine qv rfl (rr_eql rfl rfl (qF (by omega))) rfl rfl ?_ | refine qv rfl (rr_not rfl rfl) rfl rfl ?_))
        refine TL_call (he1 EntersC.en rfl rfl) (fun w' hm => hitn w' hm.below) rfl rfl rfl ?_
        intro _ _
        conv => arg 8; simp only [zA, zB, zC, zD, zE, zF, zG, zH, zI, rowS, ret, id_eq]
        repeat (first
          | refine qv rfl (qp rfl) rfl rfl ?_ | refine TL_nil ?_ | refine T_seq ?_ | refine T_region ?_ | refine qcT rfl ?_ | refine qcF rfl ?_ | refine T_skip ?_
          | refine T_ret ?_ | refine T_block ?_ | refine E_then ?_ | refine E_thenR ?_ | refine E_blockN ?_ | refine E_blockR ?_
          | refine qs rfl rfl rfl rfl rfl rfl ?_
          | ((try refine qg rfl rfl rfl ?_); first | refine qv rfl (qp rfl) rfl rfl ?_ | refine qv rfl (rr_stradd (l := [91, 94]) rfl rfl (by simp only [List.length_cons, List.length_nil]; omega)) rfl rfl ?_ | refine qv rfl (rr_stradd (l' := [93]) rfl rfl (by simp only [List.length_append, List.length_cons, List.length_nil]; omega)) rfl rfl ?_ | refine qv rfl (rr_gtr rfl rfl (qT (by omega))) rfl rfl ?_ | refine qv rfl (rr_gtr rfl rfl (qF (by omega))) rfl rfl ?_ | refine qv rfl (rr_eql rfl rfl (qT (by omega))) rfl rfl ?_ | refine qv rfl (rr_eql rfl rfl (qF (by omega))) rfl rfl ?_ | refine qv rfl (rr_not rfl rfl) rfl rfl ?_))
        exact E_ret1e rfl rfl (by simp)
      · rw [if_neg c3]
        repeat (first
          | refine qv rfl (qp rfl) rfl rfl ?_ | refine TL_nil ?_ | refine T_seq ?_ | refine T_region ?_ | refine qcT rfl ?_ | refine qcF rfl ?_ | refine T_skip ?_
          | refine T_ret ?_ | refine T_block ?_ | refine E_then ?_ | refine E_thenR ?_ | refine E_blockN ?_ | refine E_blockR ?_
          | refine qs rfl rfl rfl rfl rfl rfl ?_
          | ((try refine qg rfl rfl rfl ?_); first | refine qv rfl (qp rfl) rfl rfl ?_ | refine qv rfl (rr_eql (b := false) rfl rfl (decide_eq_false (by omega))) rfl rfl ?_ | refine qv rfl (rr_gtr (b := false) rfl rfl (decide_eq_false (by omega))) rfl rfl ?_ | refine qv rfl (rr_loadN (cs := clsL c) TyC.ty rfl rfl (fun j v hj => at_blk (i := 0) rfl (cls_blk hj))) rfl rfl ?_ | refine qv rfl (rr_gtr rfl rfl (qT (by omega))) rfl rfl ?_ | refine qv rfl (rr_gtr rfl rfl (qF (by omega))) rfl rfl ?_ | refine qv rfl (rr_eql rfl rfl (qT (by omega))) rfl rfl ?_ | refine qv rfl (rr_eql rfl rfl (qF (by omega))) rfl rfl ?_ | refine qv rfl (rr_not rfl rfl) rfl rfl ?_))
        refine TL_call (he1 EntersC.en rfl rfl) (fun w' hm => hit w' hm.below) rfl rfl rfl ?_
        intro _ _
        conv => arg 8; simp only [zA, zB, zC, zD, zE, zF, zG, zH, zI, rowS, ret, id_eq]
        repeat (first
          | refine qv rfl (qp rfl) rfl rfl ?_ | refine TL_nil ?_ | refine T_seq ?_ | refine T_region ?_ | refine qcT rfl ?_ | refine qcF rfl ?_ | refine T_skip ?_
          | refine T_ret ?_ | refine T_block ?_ | refine E_then ?_ | refine E_thenR ?_ | refine E_blockN ?_ | refine E_blockR ?_
          | refine qs rfl rfl rfl rfl rfl rfl ?_
          | ((try refine qg rfl rfl rfl ?_); first | refine qv rfl (qp rfl) rfl rfl ?_ | refine qv rfl (rr_stradd (l := [91]) rfl rfl (by simp only [List.length_cons, List.length_nil]; omega)) rfl rfl ?_ | refine qv rfl (rr_stradd (l' := [93]) rfl rfl (by simp only [List.length_append, List.length_cons, List.length_nil]; omega)) rfl rfl ?_ | refine qv rfl (rr_gtr rfl rfl (qT (by omega))) rfl rfl ?_ | refine qv rfl (rr_gtr rfl rfl (qF (by omega))) rfl rfl ?_ | refine qv rfl (rr_eql rfl rfl (qT (by omega))) rfl rfl ?_ | refine qv rfl (rr_eql rfl rfl (qF (by omega))) rfl rfl ?_ | refine qv rfl (rr_not rfl rfl) rfl rfl ?_))
        exact E_ret1e rfl rfl (by simp)
/-- brackets by a list of kinds -/
def brk (ks : List Int) (e : Re) : Bool := ks.any (· == e.kind)
theorem brk_0 (e : Re) : brk [] e = false := rfl
theorem brk_1 (e : Re) : brk [5] e = inBr 1 e := by unfold brk inBr; cases e <;> rfl
theorem brk_2 (e : Re) : brk [5, 4] e = inBr 2 e := by unfold brk inBr; cases e <;> rfl
theorem brk_3 (e : Re) : brk [4, 5, 6] e = inBr 3 e := by unfold brk inBr; cases e <;> rfl
theorem inBr0 (e : Re) : inBr 0 e = false := br0 e
theorem slnil (w : World) : Sl w (.slice none 0 0) ([] : List Int).length (([] : List Int).map (.int .i64)) := ⟨none, 0, rfl, Nat.le_refl _, by unfold maxLen; omega, fun h => by cases h⟩
set_option maxRecDepth 100000 in
set_option maxHeartbeats 16000000 in
theorem shown_calls : ∀ (N : Nat) (e : Re) (ks : List Int) (vk vks : Value) (w : World), 2 * e.size + (if ks = [] then 0 else 1) ≤ N → e.size ≤ 100 → TabW w → SlF rexS (Low w) w vk (e.kids.map emb) → Sl w vks ks.length (ks.map (.int .i64)) →
    Calls Tryd.prog 15 #[rexV e.kind e.cls vk, vks] w (Meets (ret (str (wrap (brk ks e) (body e)))) w)
  | 0, e, _, _, _, _, h, _, _, _, _ => by have := e.size_pos; omega
  | N + 1, e, ks, vk, vks, w, hN, hsz, hT, hk, hs => by
    have IH := shown_calls N
    have hup := fun w' (hg : Gr w w') => (by have hm : Mem (w : Base) [] w := .start w; exact hT.up (hm.gr hg) : TabW w')
    obtain ⟨bs, cs, rfl, hs1, hs2, hs3⟩ := hs
    unfold maxLen at hs2
    have hself := fun w' (hg : Gr w w') hm => IH e [] vk (.slice none 0 0) w' hm hsz (hup w' hg) ((hk.stay fun k hk => hg.block k hk).mono fun k hk => Nat.lt_of_lt_of_le hk hg.size) (slnil w')
    rw [brk_0] at hself
    obtain ⟨bk, ck, rfl, hck, hmk, hrk⟩ := hk
    unfold maxLen at hmk
    rw [List.length_map] at hck hself ⊢
    have hrk := fun h0 => hrk (by rw [List.length_map]; exact h0)
    have hbl := body_len e
    refine enter (args := [rexV e.kind e.cls (.slice bk e.kids.length ck), .slice bs ks.length cs]) (n := 70) Tryd.func15 rfl rfl rfl ?_
    refine T_seq (T_region (TL_box rfl rfl rfl fun g2 => ?_))
    conv => arg 8; simp only [zA, zB, zC, zD, zE, zF, zG, zH, zI, rowS, ret, id_eq]
    repeat (first
      | refine qv rfl (qp rfl) rfl rfl ?_ | refine TL_nil ?_ | refine T_seq ?_ | refine T_region ?_ | refine qcT rfl ?_ | refine qcF rfl ?_ | refine T_skip ?_
      | refine T_exit ?_ | refine T_ret ?_ | refine T_block ?_ | refine E_then ?_ | refine E_thenX ?_ | refine E_thenR ?_ | refine E_blockN ?_
      | refine E_blockR ?_ | refine E_blockX ?_ | refine E_blockO rfl ?_ | refine qv rfl (qlen Und.eq rfl) rfl rfl ?_
      | refine qv rfl (qfld FldC.fld rfl rfl) rfl rfl ?_ | refine qv rfl (rr_lss rfl rfl (qT (by omega))) rfl rfl ?_
      | refine qv rfl (rr_lss rfl rfl (qF (by omega))) rfl rfl ?_ | refine qv rfl (rr_eql rfl rfl (qT (by omega))) rfl rfl ?_
      | refine qv rfl (rr_eql rfl rfl (qF (by omega))) rfl rfl ?_ | refine qv rfl (rr_add64 rfl rfl (by omega) (by omega) rfl) rfl rfl ?_)
    refine T_loop (ι := Nat) (fun j => j ≤ ks.length ∧ ∀ i (h : i < ks.length), i < j → ks[i] ≠ e.kind) (fun j => [(2, .pointer (some ⟨g2, 0, none⟩)), (7, .slice bs ks.length cs), (8, .int .i64 ks.length), (9, .int .i64 (j : Int))]) (fun _ => [blkO g2 (rexC e.kind e.cls (.slice bk e.kids.length ck)).toArray 27]) (fun j => ks.length - j) 0 ⟨Nat.zero_le _, fun i h h' => by omega⟩ (by repeat' (first | exact True.intro | refine And.intro rfl ?_)) rfl ?_
    rintro j ⟨i1, i2⟩
    by_cases c1 : j < ks.length
    · obtain ⟨b, off, rfl, hr⟩ := hs3 (by omega)
      have hat := fun L => at_rdm (L := L) hr c1
      have hne : ks ≠ [] := fun h => by rw [h] at c1; cases c1
      rw [if_neg hne] at hN
      have hany : ks[j] = e.kind → brk ks e = true := fun h => by
        unfold brk
        rw [List.any_eq_true]
        exact ⟨ks[j], List.getElem_mem c1, by simp [h]⟩
      by_cases c2 : ks[j] = e.kind
      · rw [hany c2]
        rw [c2] at hat
        clear hr hany IH hrk
        repeat (first
          | refine qv rfl (qp rfl) rfl rfl ?_ | refine TL_nil ?_ | refine T_seq ?_ | refine T_region ?_ | refine qcT rfl ?_ | refine qcF rfl ?_ | refine T_skip ?_
          | refine T_exit ?_ | refine T_ret ?_ | refine T_block ?_ | refine E_then ?_ | refine E_thenX ?_ | refine E_thenR ?_ | refine E_blockN ?_
          | refine E_blockR ?_ | refine E_blockX ?_ | refine E_blockO rfl ?_ | refine qv rfl (rr_idx1 Und.eq TyC.ty rfl rfl c1) rfl rfl ?_
          | refine qv rfl (rr_load1 TyC.ty rfl (hat _)) rfl rfl ?_
          | refine qv rfl (rr_load1 (v := .int .i64 e.kind) TyC.ty rfl (at_blk (i := 0) rfl rfl)) rfl rfl ?_
          | refine qv rfl (rr_eql (b := true) rfl rfl (decide_eq_true rfl)) rfl rfl ?_ | refine qv rfl (rr_loadB (i := 0) TyC.ty rfl rfl rfl) rfl rfl ?_
          | refine qv rfl (qlen Und.eq rfl) rfl rfl ?_ | refine qv rfl (qfld FldC.fld rfl rfl) rfl rfl ?_
          | refine qv rfl (rr_lss rfl rfl (qT (by omega))) rfl rfl ?_ | refine qv rfl (rr_lss rfl rfl (qF (by omega))) rfl rfl ?_
          | refine qv rfl (rr_eql rfl rfl (qT (by omega))) rfl rfl ?_ | refine qv rfl (rr_eql rfl rfl (qF (by omega))) rfl rfl ?_
          | refine qv rfl (rr_add64 rfl rfl (by omega) (by omega) rfl) rfl rfl ?_)
        refine TL_call (he2 EntersC.en rfl rfl rfl) (fun w' hm => hself w' hm.below (by simp; omega)) rfl rfl rfl ?_
        intro _ _
        conv => arg 8; simp only [zA, zB, zC, zD, zE, zF, zG, zH, zI, rowS, ret, id_eq]
        repeat (first
          | refine qv rfl (qp rfl) rfl rfl ?_ | refine TL_nil ?_ | refine T_seq ?_ | refine T_region ?_ | refine qcT rfl ?_ | refine qcF rfl ?_ | refine T_skip ?_
          | refine T_exit ?_ | refine T_ret ?_ | refine T_block ?_ | refine E_then ?_ | refine E_thenX ?_ | refine E_thenR ?_ | refine E_blockN ?_
          | refine E_blockR ?_ | refine E_blockX ?_ | refine E_blockO rfl ?_
          | refine qv rfl (rr_stradd (l := [40]) rfl rfl (by show 1 + (wrap false (body e)).length ≤ _; show 1 + (body e).length ≤ _; omega)) rfl rfl ?_
          | refine qv rfl (rr_stradd (l' := [41]) rfl rfl (by show ([40] ++ body e).length + 1 ≤ _; simp; omega)) rfl rfl ?_
          | refine qv rfl (qlen Und.eq rfl) rfl rfl ?_ | refine qv rfl (qfld FldC.fld rfl rfl) rfl rfl ?_
          | refine qv rfl (rr_lss rfl rfl (qT (by omega))) rfl rfl ?_ | refine qv rfl (rr_lss rfl rfl (qF (by omega))) rfl rfl ?_
          | refine qv rfl (rr_eql rfl rfl (qT (by omega))) rfl rfl ?_ | refine qv rfl (rr_eql rfl rfl (qF (by omega))) rfl rfl ?_
          | refine qv rfl (rr_add64 rfl rfl (by omega) (by omega) rfl) rfl rfl ?_)
        exact E_ret1e rfl rfl (by simp [wrap])
      · repeat (first
          | refine qv rfl (qp rfl) rfl rfl ?_ | refine TL_nil ?_ | refine T_seq ?_ | refine T_region ?_ | refine qcT rfl ?_ | refine qcF rfl ?_ | refine T_skip ?_
          | refine T_exit ?_ | refine T_ret ?_ | refine T_block ?_ | refine E_then ?_ | refine E_thenX ?_ | refine E_thenR ?_ | refine E_blockN ?_
          | refine E_blockR ?_ | refine E_blockX ?_ | refine E_blockO rfl ?_ | refine qv rfl (rr_idx1 Und.eq TyC.ty rfl rfl c1) rfl rfl ?_
          | refine qv rfl (rr_load1 TyC.ty rfl (hat _)) rfl rfl ?_
          | refine qv rfl (rr_load1 (v := .int .i64 e.kind) TyC.ty rfl (at_blk (i := 0) rfl rfl)) rfl rfl ?_
          | refine qv rfl (rr_eql (b := false) rfl rfl (decide_eq_false (fun h => c2 h.symm))) rfl rfl ?_
          | refine qv rfl (rr_add64 (r := ((j + 1 : Nat) : Int)) rfl rfl (by omega) (by omega) (by omega)) rfl rfl ?_ | refine qv rfl (qlen Und.eq rfl) rfl rfl ?_
          | refine qv rfl (qfld FldC.fld rfl rfl) rfl rfl ?_ | refine qv rfl (rr_lss rfl rfl (qT (by omega))) rfl rfl ?_
          | refine qv rfl (rr_lss rfl rfl (qF (by omega))) rfl rfl ?_ | refine qv rfl (rr_eql rfl rfl (qT (by omega))) rfl rfl ?_
          | refine qv rfl (rr_eql rfl rfl (qF (by omega))) rfl rfl ?_ | refine qv rfl (rr_add64 rfl rfl (by omega) (by omega) rfl) rfl rfl ?_)
        exact E_round (j + 1) ⟨c1, fun i h h' => if e' : i < j then i2 i h e' else (by obtain rfl : i = j := (by omega); exact c2)⟩ (by show ks.length - (j + 1) < ks.length - j; omega) (by repeat' (first | exact True.intro | refine And.intro rfl ?_)) rfl
    · have hb : brk ks e = false := by
        unfold brk
        rw [List.any_eq_false]
        intro x hx
        obtain ⟨i, hi, rfl⟩ := List.getElem_of_mem hx
        have := i2 i hi (by omega)
        simpa using this
      rw [hb]
      have hN2 : 2 * e.size ≤ N + 1 := by omega
      clear hs3 hself i2 hb hN
      rw [show wrap false (body e) = body e from rfl]
      cases e with
      | empty =>
        repeat (first
          | refine qv rfl (qp rfl) rfl rfl ?_ | refine TL_nil ?_ | refine T_seq ?_ | refine T_region ?_ | refine qcT rfl ?_ | refine qcF rfl ?_ | refine T_skip ?_
          | refine T_exit ?_ | refine T_ret ?_ | refine T_block ?_ | refine E_then ?_ | refine E_thenX ?_ | refine E_thenR ?_ | refine E_blockN ?_
          | refine E_blockR ?_ | refine E_blockX ?_ | refine E_blockO rfl ?_
          | refine qv rfl (rr_load1 (v := .int .i64 2) TyC.ty rfl (at_blk (i := 0) rfl rfl)) rfl rfl ?_ | refine qv rfl (rr_eql (b := true) rfl rfl rfl) rfl rfl ?_
          | refine qv rfl (qlen Und.eq rfl) rfl rfl ?_ | refine qv rfl (qfld FldC.fld rfl rfl) rfl rfl ?_
          | refine qv rfl (rr_lss rfl rfl (qT (by omega))) rfl rfl ?_ | refine qv rfl (rr_lss rfl rfl (qF (by omega))) rfl rfl ?_
          | refine qv rfl (rr_eql rfl rfl (qT (by omega))) rfl rfl ?_ | refine qv rfl (rr_eql rfl rfl (qF (by omega))) rfl rfl ?_
          | refine qv rfl (rr_add64 rfl rfl (by omega) (by omega) rfl) rfl rfl ?_)
        exact E_ret1 rfl rfl fun w hm => hm.ret
      | none =>
        repeat (first
          | refine qv rfl (qp rfl) rfl rfl ?_ | refine TL_nil ?_ | refine T_seq ?_ | refine T_region ?_ | refine qcT rfl ?_ | refine qcF rfl ?_ | refine T_skip ?_
          | refine T_exit ?_ | refine T_ret ?_ | refine T_block ?_ | refine E_then ?_ | refine E_thenX ?_ | refine E_thenR ?_ | refine E_blockN ?_
          | refine E_blockR ?_ | refine E_blockX ?_ | refine E_blockO rfl ?_
          | refine qv rfl (rr_load1 (v := .int .i64 1) TyC.ty rfl (at_blk (i := 0) rfl rfl)) rfl rfl ?_
          | refine qv rfl (rr_eql (b := false) rfl rfl rfl) rfl rfl ?_ | refine qv rfl (rr_eql (b := true) rfl rfl rfl) rfl rfl ?_
          | refine qv rfl (qlen Und.eq rfl) rfl rfl ?_ | refine qv rfl (qfld FldC.fld rfl rfl) rfl rfl ?_
          | refine qv rfl (rr_lss rfl rfl (qT (by omega))) rfl rfl ?_ | refine qv rfl (rr_lss rfl rfl (qF (by omega))) rfl rfl ?_
          | refine qv rfl (rr_eql rfl rfl (qT (by omega))) rfl rfl ?_ | refine qv rfl (rr_eql rfl rfl (qF (by omega))) rfl rfl ?_
          | refine qv rfl (rr_add64 rfl rfl (by omega) (by omega) rfl) rfl rfl ?_)
        exact E_ret1 rfl rfl fun w hm => hm.ret
      | byte c =>
        have hct := fun w' hg => rexClassText_calls c w' (hup w' hg)
        repeat (first
          | refine qv rfl (qp rfl) rfl rfl ?_ | refine TL_nil ?_ | refine T_seq ?_ | refine T_region ?_ | refine qcT rfl ?_ | refine qcF rfl ?_ | refine T_skip ?_
          | refine T_exit ?_ | refine T_ret ?_ | refine T_block ?_ | refine E_then ?_ | refine E_thenX ?_ | refine E_thenR ?_ | refine E_blockN ?_
          | refine E_blockR ?_ | refine E_blockX ?_ | refine E_blockO rfl ?_
          | refine qv rfl (rr_load1 (v := .int .i64 3) TyC.ty rfl (at_blk (i := 0) rfl rfl)) rfl rfl ?_
          | refine qv rfl (rr_eql (b := false) rfl rfl rfl) rfl rfl ?_ | refine qv rfl (rr_eql (b := true) rfl rfl rfl) rfl rfl ?_
          | refine qv rfl (rr_loadN (cs := clsL c) TyC.ty rfl rfl (fun j v hj => at_blk (i := 0) rfl (rex_cls hj))) rfl rfl ?_
          | refine qv rfl (qlen Und.eq rfl) rfl rfl ?_ | refine qv rfl (qfld FldC.fld rfl rfl) rfl rfl ?_
          | refine qv rfl (rr_lss rfl rfl (qT (by omega))) rfl rfl ?_ | refine qv rfl (rr_lss rfl rfl (qF (by omega))) rfl rfl ?_
          | refine qv rfl (rr_eql rfl rfl (qT (by omega))) rfl rfl ?_ | refine qv rfl (rr_eql rfl rfl (qF (by omega))) rfl rfl ?_
          | refine qv rfl (rr_add64 rfl rfl (by omega) (by omega) rfl) rfl rfl ?_)
        refine TL_call (he1 EntersC.en rfl rfl) (fun w' hm => hct w' hm.below) rfl rfl rfl ?_
        intro _ _
        conv => arg 8; simp only [zA, zB, zC, zD, zE, zF, zG, zH, zI, rowS, ret, id_eq]
        repeat (first
          | refine qv rfl (qp rfl) rfl rfl ?_ | refine TL_nil ?_ | refine T_seq ?_ | refine T_region ?_ | refine qcT rfl ?_ | refine qcF rfl ?_ | refine T_skip ?_
          | refine T_exit ?_ | refine T_ret ?_ | refine T_block ?_ | refine E_then ?_ | refine E_thenX ?_ | refine E_thenR ?_ | refine E_blockN ?_
          | refine E_blockR ?_ | refine E_blockX ?_ | refine E_blockO rfl ?_ | refine qv rfl (qlen Und.eq rfl) rfl rfl ?_
          | refine qv rfl (qfld FldC.fld rfl rfl) rfl rfl ?_ | refine qv rfl (rr_lss rfl rfl (qT (by omega))) rfl rfl ?_
          | refine qv rfl (rr_lss rfl rfl (qF (by omega))) rfl rfl ?_ | refine qv rfl (rr_eql rfl rfl (qT (by omega))) rfl rfl ?_
          | refine qv rfl (rr_eql rfl rfl (qF (by omega))) rfl rfl ?_ | refine qv rfl (rr_add64 rfl rfl (by omega) (by omega) rfl) rfl rfl ?_)
        exact E_ret1 rfl rfl fun w hm => hm.ret
      | star a =>
        obtain ⟨bb, off, rfl, _, hr⟩ := hrk (by show 0 < 1; omega)
        have hka : ∃ base cap, Rd w bb (off + 0 * 6) (rexC a.kind a.cls (.slice base a.kids.length cap)) ∧ kit.okI64 a.kind ∧ SlF rexS (Low w) w (.slice base a.kids.length cap) (a.kids.map emb) := rkid_emb (l := [a]) hr (j := 0) (by show 0 < 1; omega)
        obtain ⟨bak, cak, hrdak, _, hksak⟩ := hka
        have hatak := fun (L : List Own) j v hj => at_oldR (W := w) (L := L) (Old.self w) hrdak j v hj
        have IHak := fun ks vks w' (hg : Gr w w') hm hs => IH a ks (.slice bak a.kids.length cak) vks w' hm (by simp only [Re.size] at hsz; omega) (hup w' hg) ((hksak.stay fun k hk => hg.block k hk).mono fun k hk => Nat.lt_of_lt_of_le hk hg.size) hs
        repeat (first
          | refine qv rfl (qp rfl) rfl rfl ?_ | refine TL_nil ?_ | refine T_seq ?_ | refine T_region ?_ | refine qcT rfl ?_ | refine qcF rfl ?_ | refine T_skip ?_
          | refine T_exit ?_ | refine T_ret ?_ | refine T_block ?_ | refine E_then ?_ | refine E_thenX ?_ | refine E_thenR ?_ | refine E_blockN ?_
          | refine E_blockR ?_ | refine E_blockX ?_ | refine E_blockO rfl ?_
          | refine qv rfl (rr_load1 (v := .int .i64 6) TyC.ty rfl (at_blk (i := 0) rfl rfl)) rfl rfl ?_
          | refine qv rfl (rr_eql (b := false) rfl rfl rfl) rfl rfl ?_ | refine qv rfl (rr_eql (b := true) rfl rfl rfl) rfl rfl ?_
          | refine qv rfl (rr_load1 (v := .slice (some ⟨bb, off, none⟩) 1 ck) TyC.ty rfl (at_blk (i := 0) rfl rfl)) rfl rfl ?_
          | refine qv rfl (rr_idxc (j := 0) Und.eq TyC.ty rfl rfl (by decide)) rfl rfl ?_
          | refine qv rfl (rr_loadN (cs := rexC a.kind a.cls (.slice bak a.kids.length cak)) TyC.ty rfl rfl (hatak _)) rfl rfl ?_
          | refine qv rfl (qlen Und.eq rfl) rfl rfl ?_ | refine qv rfl (qfld FldC.fld rfl rfl) rfl rfl ?_
          | refine qv rfl (rr_lss rfl rfl (qT (by omega))) rfl rfl ?_ | refine qv rfl (rr_lss rfl rfl (qF (by omega))) rfl rfl ?_
          | refine qv rfl (rr_eql rfl rfl (qT (by omega))) rfl rfl ?_ | refine qv rfl (rr_eql rfl rfl (qF (by omega))) rfl rfl ?_
          | refine qv rfl (rr_add64 rfl rfl (by omega) (by omega) rfl) rfl rfl ?_)
        refine TL_litV [.int .i64 4, .int .i64 5, .int .i64 6] rfl rfl rfl (by intro v hv; simp at hv; rcases hv with rfl | rfl | rfl <;> rfl) rfl rfl fun g39 => TL_toRow (i := 1) (m := 3) 1 rfl rfl (by omega) ?_
        conv => arg 8; simp only [zA, zB, zC, zD, zE, zF, zG, zH, zI, rowS, ret, id_eq]
        repeat (first
          | refine qv rfl (qp rfl) rfl rfl ?_ | refine TL_nil ?_ | refine T_seq ?_ | refine T_region ?_ | refine qcT rfl ?_ | refine qcF rfl ?_ | refine T_skip ?_
          | refine T_exit ?_ | refine T_ret ?_ | refine T_block ?_ | refine E_then ?_ | refine E_thenX ?_ | refine E_thenR ?_ | refine E_blockN ?_
          | refine E_blockR ?_ | refine E_blockX ?_ | refine E_blockO rfl ?_ | refine qv rfl (qlen Und.eq rfl) rfl rfl ?_
          | refine qv rfl (qfld FldC.fld rfl rfl) rfl rfl ?_ | refine qv rfl (rr_lss rfl rfl (qT (by omega))) rfl rfl ?_
          | refine qv rfl (rr_lss rfl rfl (qF (by omega))) rfl rfl ?_ | refine qv rfl (rr_eql rfl rfl (qT (by omega))) rfl rfl ?_
          | refine qv rfl (rr_eql rfl rfl (qF (by omega))) rfl rfl ?_ | refine qv rfl (rr_add64 rfl rfl (by omega) (by omega) rfl) rfl rfl ?_)
        refine TL_call (he2 EntersC.en rfl rfl rfl) (fun w' hm => IHak [4, 5, 6] _ w' hm.below (by simp only [Re.size] at hN2; simp; omega) (Sl.of_own (hm.get (i := 1) rfl))) rfl rfl rfl ?_
        intro _ _
        conv => arg 8; simp only [zA, zB, zC, zD, zE, zF, zG, zH, zI, rowS, ret, id_eq]
        repeat (first
          | refine qv rfl (qp rfl) rfl rfl ?_ | refine TL_nil ?_ | refine T_seq ?_ | refine T_region ?_ | refine qcT rfl ?_ | refine qcF rfl ?_ | refine T_skip ?_
          | refine T_exit ?_ | refine T_ret ?_ | refine T_block ?_ | refine E_then ?_ | refine E_thenX ?_ | refine E_thenR ?_ | refine E_blockN ?_
          | refine E_blockR ?_ | refine E_blockX ?_ | refine E_blockO rfl ?_
          | refine qv rfl (rr_stradd (l' := [42]) rfl rfl (by have h1 := wrap_len (brk [4, 5, 6] a) (body a); have h3 := body_len a; simp only [Re.size] at hsz; simp; omega)) rfl rfl ?_
          | refine qv rfl (qlen Und.eq rfl) rfl rfl ?_ | refine qv rfl (qfld FldC.fld rfl rfl) rfl rfl ?_
          | refine qv rfl (rr_lss rfl rfl (qT (by omega))) rfl rfl ?_ | refine qv rfl (rr_lss rfl rfl (qF (by omega))) rfl rfl ?_
          | refine qv rfl (rr_eql rfl rfl (qT (by omega))) rfl rfl ?_ | refine qv rfl (rr_eql rfl rfl (qF (by omega))) rfl rfl ?_
          | refine qv rfl (rr_add64 rfl rfl (by omega) (by omega) rfl) rfl rfl ?_)
        exact E_ret1e rfl rfl (by rw [brk_3]; rfl)
      | cat a b =>
        obtain ⟨bb, off, rfl, _, hr⟩ := hrk (by show 0 < 2; omega)
        have hka : ∃ base cap, Rd w bb (off + 0 * 6) (rexC a.kind a.cls (.slice base a.kids.length cap)) ∧ kit.okI64 a.kind ∧ SlF rexS (Low w) w (.slice base a.kids.length cap) (a.kids.map emb) := rkid_emb (l := [a, b]) hr (j := 0) (by show 0 < 2; omega)
        obtain ⟨bak, cak, hrdak, _, hksak⟩ := hka
        have hatak := fun (L : List Own) j v hj => at_oldR (W := w) (L := L) (Old.self w) hrdak j v hj
        have IHak := fun ks vks w' (hg : Gr w w') hm hs => IH a ks (.slice bak a.kids.length cak) vks w' hm (by simp only [Re.size] at hsz; omega) (hup w' hg) ((hksak.stay fun k hk => hg.block k hk).mono fun k hk => Nat.lt_of_lt_of_le hk hg.size) hs
        have hkb : ∃ base cap, Rd w bb (off + 1 * 6) (rexC b.kind b.cls (.slice base b.kids.length cap)) ∧ kit.okI64 b.kind ∧ SlF rexS (Low w) w (.slice base b.kids.length cap) (b.kids.map emb) := rkid_emb (l := [a, b]) hr (j := 1) (by show 1 < 2; omega)
        obtain ⟨bbk, cbk, hrdbk, _, hksbk⟩ := hkb
        have hatbk := fun (L : List Own) j v hj => at_oldR (W := w) (L := L) (Old.self w) hrdbk j v hj
        have IHbk := fun ks vks w' (hg : Gr w w') hm hs => IH b ks (.slice bbk b.kids.length cbk) vks w' hm (by simp only [Re.size] at hsz; omega) (hup w' hg) ((hksbk.stay fun k hk => hg.block k hk).mono fun k hk => Nat.lt_of_lt_of_le hk hg.size) hs
        repeat (first
          | refine qv rfl (qp rfl) rfl rfl ?_ | refine TL_nil ?_ | refine T_seq ?_ | refine T_region ?_ | refine qcT rfl ?_ | refine qcF rfl ?_ | refine T_skip ?_
          | refine T_exit ?_ | refine T_ret ?_ | refine T_block ?_ | refine E_then ?_ | refine E_thenX ?_ | refine E_thenR ?_ | refine E_blockN ?_
          | refine E_blockR ?_ | refine E_blockX ?_ | refine E_blockO rfl ?_
          | refine qv rfl (rr_load1 (v := .int .i64 4) TyC.ty rfl (at_blk (i := 0) rfl rfl)) rfl rfl ?_
          | refine qv rfl (rr_eql (b := false) rfl rfl rfl) rfl rfl ?_ | refine qv rfl (rr_eql (b := true) rfl rfl rfl) rfl rfl ?_
          | refine qv rfl (qlen Und.eq rfl) rfl rfl ?_ | refine qv rfl (qfld FldC.fld rfl rfl) rfl rfl ?_
          | refine qv rfl (rr_lss rfl rfl (qT (by omega))) rfl rfl ?_ | refine qv rfl (rr_lss rfl rfl (qF (by omega))) rfl rfl ?_
          | refine qv rfl (rr_eql rfl rfl (qT (by omega))) rfl rfl ?_ | refine qv rfl (rr_eql rfl rfl (qF (by omega))) rfl rfl ?_
          | refine qv rfl (rr_add64 rfl rfl (by omega) (by omega) rfl) rfl rfl ?_)
        refine T_ord ([blkO g2 (rexC 4 C4.zero (.slice (some ⟨bb, off, none⟩) 2 ck)).toArray 27]) (.calm 0 (.calm 1 (.calm 2 (.calm 3 (.calm 6 (.calm 7 (.calm 8 (.calm 9 (.two 4 (.two 5 (.one 10 (.one 11 (.calm 12 (.calm 13 (.done))))) 10 (.one 5 (.one 11 (.calm 12 (.calm 13 (.done)))))) 10 (.one 4 (.one 5 (.one 11 (.calm 12 (.calm 13 (.done))))))))))))))) (sub_pick [0] (by decide) rfl) (by kernel_rfl) (by kernel_rfl) (by intro c a d v w h; cases d <;> exact h) ?_
        repeat (first
          | ((first | refine TW_plain rfl rfl ?_ | refine TW_gmet rfl rfl rfl rfl ?_); first | refine TN_val (qp rfl) rfl rfl ?_ | refine TN_val (rr_load1 (v := .slice (some ⟨bb, off, none⟩) 2 ck) TyC.ty rfl (at_blk (i := 0) rfl rfl)) rfl rfl ?_ | refine TN_val (rr_idxc (j := 0) Und.eq TyC.ty rfl rfl (by decide)) rfl rfl ?_ | refine TN_val (rr_idxc (j := 1) Und.eq TyC.ty rfl rfl (by decide)) rfl rfl ?_ | refine TN_val (rr_loadN (cs := rexC a.kind a.cls (.slice bak a.kids.length cak)) TyC.ty rfl rfl (hatak _)) rfl rfl ?_ | refine TN_val (rr_loadN (cs := rexC b.kind b.cls (.slice bbk b.kids.length cbk)) TyC.ty rfl rfl (hatbk _)) rfl rfl ?_ | refine TN_val (qlen Und.eq rfl) rfl rfl ?_ | refine TN_val (qfld FldC.fld rfl rfl) rfl rfl ?_ | refine TN_val (rr_lss rfl rfl (qT (by omega))) rfl rfl ?_ | refine TN_val (rr_lss rfl rfl (qF (by omega))) rfl rfl ?_ | refine TN_val (rr_eql rfl rfl (qT (by omega))) rfl rfl ?_ | refine TN_val (rr_eql rfl rfl (qF (by omega))) rfl rfl ?_ | refine TN_val (rr_add64 rfl rfl (by omega) (by omega) rfl) rfl rfl ?_)
          | refine TW_done ?_)
        refine TW_two rfl rfl ?_ ?_
        · refine TL_litV [.int .i64 5] rfl rfl rfl (by intro v hv; simp at hv; subst hv; rfl) rfl rfl fun g48 => TL_toRow (i := 1) (m := 1) 1 rfl rfl (by omega) (TW_on (sub_pick [0] (by decide) rfl) ?_)
          refine TW_two rfl rfl ?_ ?_
          · refine TL_call (he2 EntersC.en rfl rfl rfl) (fun w' hm => IHak [5] _ w' hm.below (by simp only [Re.size] at hN2; simp; omega) (Sl.of_own (hm.get (i := 1) rfl))) rfl rfl rfl ?_
            intro _ _
            conv => arg 8; simp only [zA, zB, zC, zD, zE, zF, zG, zH, zI, rowS, ret, id_eq]
            refine TW_on (sub_pick [0] (by decide) rfl) ?_
            refine TW_one rfl (TL_litV [.int .i64 5, .int .i64 4] rfl rfl rfl (by intro v hv; simp at hv; rcases hv with rfl | rfl <;> rfl) rfl rfl fun g54 => TL_toRow (i := 2) (m := 2) 1 rfl rfl (by omega) (TW_on (sub_pick [0] (by decide) rfl) ?_))
            refine TW_one rfl (TL_call (he2 EntersC.en rfl rfl rfl) (fun w' hm => IHbk [5, 4] _ w' hm.below (by simp only [Re.size] at hN2; simp; omega) (Sl.of_own (hm.get (i := 2) rfl))) rfl rfl rfl ?_)
            intro _ _
            conv => arg 8; simp only [zA, zB, zC, zD, zE, zF, zG, zH, zI, rowS, ret, id_eq]
            refine TW_on (sub_pick [0] (by decide) rfl) ?_
            repeat (first
              | ((first | refine TW_plain rfl rfl ?_ | refine TW_gmet rfl rfl rfl rfl ?_); first | refine TN_val (qp rfl) rfl rfl ?_ | refine TN_val (rr_stradd rfl rfl (by have h1 := wrap_len (brk [5] a) (body a); have h2 := wrap_len (brk [5, 4] b) (body b); have h3 := body_len a; have h4 := body_len b; simp only [Re.size] at hsz; omega)) rfl rfl ?_ | refine TN_val (qlen Und.eq rfl) rfl rfl ?_ | refine TN_val (qfld FldC.fld rfl rfl) rfl rfl ?_ | refine TN_val (rr_lss rfl rfl (qT (by omega))) rfl rfl ?_ | refine TN_val (rr_lss rfl rfl (qF (by omega))) rfl rfl ?_ | refine TN_val (rr_eql rfl rfl (qT (by omega))) rfl rfl ?_ | refine TN_val (rr_eql rfl rfl (qF (by omega))) rfl rfl ?_ | refine TN_val (rr_add64 rfl rfl (by omega) (by omega) rfl) rfl rfl ?_)
              | refine TW_done ?_)
            repeat (first
              | refine qv rfl (qp rfl) rfl rfl ?_ | refine TL_nil ?_ | refine T_seq ?_ | refine T_region ?_ | refine qcT rfl ?_ | refine qcF rfl ?_ | refine T_skip ?_
              | refine T_exit ?_ | refine T_ret ?_ | refine T_block ?_ | refine E_then ?_ | refine E_thenX ?_ | refine E_thenR ?_ | refine E_blockN ?_
              | refine E_blockR ?_ | refine E_blockX ?_ | refine E_blockO rfl ?_ | refine qv rfl (qlen Und.eq rfl) rfl rfl ?_
              | refine qv rfl (qfld FldC.fld rfl rfl) rfl rfl ?_ | refine qv rfl (rr_lss rfl rfl (qT (by omega))) rfl rfl ?_
              | refine qv rfl (rr_lss rfl rfl (qF (by omega))) rfl rfl ?_ | refine qv rfl (rr_eql rfl rfl (qT (by omega))) rfl rfl ?_
              | refine qv rfl (rr_eql rfl rfl (qF (by omega))) rfl rfl ?_ | refine qv rfl (rr_add64 rfl rfl (by omega) (by omega) rfl) rfl rfl ?_)
            exact E_ret1e rfl rfl (by rw [brk_1, brk_2]; rfl)
          · refine TL_litV [.int .i64 5, .int .i64 4] rfl rfl rfl (by intro v hv; simp at hv; rcases hv with rfl | rfl <;> rfl) rfl rfl fun g54 => TL_toRow (i := 2) (m := 2) 1 rfl rfl (by omega) (TW_on (sub_pick [0] (by decide) rfl) ?_)
            refine TW_one rfl (TL_call (he2 EntersC.en rfl rfl rfl) (fun w' hm => IHak [5] _ w' hm.below (by simp only [Re.size] at hN2; simp; omega) (Sl.of_own (hm.get (i := 1) rfl))) rfl rfl rfl ?_)
            intro _ _
            conv => arg 8; simp only [zA, zB, zC, zD, zE, zF, zG, zH, zI, rowS, ret, id_eq]
            refine TW_on (sub_pick [0] (by decide) rfl) ?_
            refine TW_one rfl (TL_call (he2 EntersC.en rfl rfl rfl) (fun w' hm => IHbk [5, 4] _ w' hm.below (by simp only [Re.size] at hN2; simp; omega) (Sl.of_own (hm.get (i := 2) rfl))) rfl rfl rfl ?_)
            intro _ _
            conv => arg 8; simp only [zA, zB, zC, zD, zE, zF, zG, zH, zI, rowS, ret, id_eq]
            refine TW_on (sub_pick [0] (by decide) rfl) ?_
            repeat (first
              | ((first | refine TW_plain rfl rfl ?_ | refine TW_gmet rfl rfl rfl rfl ?_); first | refine TN_val (qp rfl) rfl rfl ?_ | refine TN_val (rr_stradd rfl rfl (by have h1 := wrap_len (brk [5] a) (body a); have h2 := wrap_len (brk [5, 4] b) (body b); have h3 := body_len a; have h4 := body_len b; simp only [Re.size] at hsz; omega)) rfl rfl ?_ | refine TN_val (qlen Und.eq rfl) rfl rfl ?_ | refine TN_val (qfld FldC.fld rfl rfl) rfl rfl ?_ | refine TN_val (rr_lss rfl rfl (qT (by omega))) rfl rfl ?_ | refine TN_val (rr_lss rfl rfl (qF (by omega))) rfl rfl ?_ | refine TN_val (rr_eql rfl rfl (qT (by omega))) rfl rfl ?_ | refine TN_val (rr_eql rfl rfl (qF (by omega))) rfl rfl ?_ | refine TN_val (rr_add64 rfl rfl (by omega) (by omega) rfl) rfl rfl ?_)
              | refine TW_done ?_)
            repeat (first
              | refine qv rfl (qp rfl) rfl rfl ?_ | refine TL_nil ?_ | refine T_seq ?_ | refine T_region ?_ | refine qcT rfl ?_ | refine qcF rfl ?_ | refine T_skip ?_
              | refine T_exit ?_ | refine T_ret ?_ | refine T_block ?_ | refine E_then ?_ | refine E_thenX ?_ | refine E_thenR ?_ | refine E_blockN ?_
              | refine E_blockR ?_ | refine E_blockX ?_ | refine E_blockO rfl ?_ | refine qv rfl (qlen Und.eq rfl) rfl rfl ?_
              | refine qv rfl (qfld FldC.fld rfl rfl) rfl rfl ?_ | refine qv rfl (rr_lss rfl rfl (qT (by omega))) rfl rfl ?_
              | refine qv rfl (rr_lss rfl rfl (qF (by omega))) rfl rfl ?_ | refine qv rfl (rr_eql rfl rfl (qT (by omega))) rfl rfl ?_
              | refine qv rfl (rr_eql rfl rfl (qF (by omega))) rfl rfl ?_ | refine qv rfl (rr_add64 rfl rfl (by omega) (by omega) rfl) rfl rfl ?_)
            exact E_ret1e rfl rfl (by rw [brk_1, brk_2]; rfl)
        · refine TL_litV [.int .i64 5, .int .i64 4] rfl rfl rfl (by intro v hv; simp at hv; rcases hv with rfl | rfl <;> rfl) rfl rfl fun g54 => TL_toRow (i := 1) (m := 2) 1 rfl rfl (by omega) (TW_on (sub_pick [0] (by decide) rfl) ?_)
          refine TW_one rfl (TL_litV [.int .i64 5] rfl rfl rfl (by intro v hv; simp at hv; subst hv; rfl) rfl rfl fun g48 => TL_toRow (i := 2) (m := 1) 1 rfl rfl (by omega) (TW_on (sub_pick [0] (by decide) rfl) ?_))
          refine TW_one rfl (TL_call (he2 EntersC.en rfl rfl rfl) (fun w' hm => IHak [5] _ w' hm.below (by simp only [Re.size] at hN2; simp; omega) (Sl.of_own (hm.get (i := 2) rfl))) rfl rfl rfl ?_)
          intro _ _
          conv => arg 8; simp only [zA, zB, zC, zD, zE, zF, zG, zH, zI, rowS, ret, id_eq]
          refine TW_on (sub_pick [0] (by decide) rfl) ?_
          refine TW_one rfl (TL_call (he2 EntersC.en rfl rfl rfl) (fun w' hm => IHbk [5, 4] _ w' hm.below (by simp only [Re.size] at hN2; simp; omega) (Sl.of_own (hm.get (i := 1) rfl))) rfl rfl rfl ?_)
          intro _ _
          conv => arg 8; simp only [zA, zB, zC, zD, zE, zF, zG, zH, zI, rowS, ret, id_eq]
          refine TW_on (sub_pick [0] (by decide) rfl) ?_
          repeat (first
            | ((first | refine TW_plain rfl rfl ?_ | refine TW_gmet rfl rfl rfl rfl ?_); first | refine TN_val (qp rfl) rfl rfl ?_ | refine TN_val (rr_stradd rfl rfl (by have h1 := wrap_len (brk [5] a) (body a); have h2 := wrap_len (brk [5, 4] b) (body b); have h3 := body_len a; have h4 := body_len b; simp only [Re.size] at hsz; omega)) rfl rfl ?_ | refine TN_val (qlen Und.eq rfl) rfl rfl ?_ | refine TN_val (qfld FldC.fld rfl rfl) rfl rfl ?_ | refine TN_val (rr_lss rfl rfl (qT (by omega))) rfl rfl ?_ | refine TN_val (rr_lss rfl rfl (qF (by omega))) rfl rfl ?_ | refine TN_val (rr_eql rfl rfl (qT (by omega))) rfl rfl ?_ | refine TN_val (rr_eql rfl rfl (qF (by omega))) rfl rfl ?_ | refine TN_val (rr_add64 rfl rfl (by omega) (by omega) rfl) rfl rfl ?_)
            | refine TW_done ?_)
          repeat (first
            | refine qv rfl (qp rfl) rfl rfl ?_ | refine TL_nil ?_ | refine T_seq ?_ | refine T_region ?_ | refine qcT rfl ?_ | refine qcF rfl ?_ | refine T_skip ?_
            | refine T_exit ?_ | refine T_ret ?_ | refine T_block ?_ | refine E_then ?_ | refine E_thenX ?_ | refine E_thenR ?_ | refine E_blockN ?_
            | refine E_blockR ?_ | refine E_blockX ?_ | refine E_blockO rfl ?_ | refine qv rfl (qlen Und.eq rfl) rfl rfl ?_
            | refine qv rfl (qfld FldC.fld rfl rfl) rfl rfl ?_ | refine qv rfl (rr_lss rfl rfl (qT (by omega))) rfl rfl ?_
            | refine qv rfl (rr_lss rfl rfl (qF (by omega))) rfl rfl ?_ | refine qv rfl (rr_eql rfl rfl (qT (by omega))) rfl rfl ?_
            | refine qv rfl (rr_eql rfl rfl (qF (by omega))) rfl rfl ?_ | refine qv rfl (rr_add64 rfl rfl (by omega) (by omega) rfl) rfl rfl ?_)
          exact E_ret1e rfl rfl (by rw [brk_1, brk_2]; rfl)
      | alt a b =>
        obtain ⟨bb, off, rfl, _, hr⟩ := hrk (by show 0 < 2; omega)
        have hka : ∃ base cap, Rd w bb (off + 0 * 6) (rexC a.kind a.cls (.slice base a.kids.length cap)) ∧ kit.okI64 a.kind ∧ SlF rexS (Low w) w (.slice base a.kids.length cap) (a.kids.map emb) := rkid_emb (l := [a, b]) hr (j := 0) (by show 0 < 2; omega)
        obtain ⟨bak, cak, hrdak, _, hksak⟩ := hka
        have hatak := fun (L : List Own) j v hj => at_oldR (W := w) (L := L) (Old.self w) hrdak j v hj
        have IHak := fun ks vks w' (hg : Gr w w') hm hs => IH a ks (.slice bak a.kids.length cak) vks w' hm (by simp only [Re.size] at hsz; omega) (hup w' hg) ((hksak.stay fun k hk => hg.block k hk).mono fun k hk => Nat.lt_of_lt_of_le hk hg.size) hs
        have hkb : ∃ base cap, Rd w bb (off + 1 * 6) (rexC b.kind b.cls (.slice base b.kids.length cap)) ∧ kit.okI64 b.kind ∧ SlF rexS (Low w) w (.slice base b.kids.length cap) (b.kids.map emb) := rkid_emb (l := [a, b]) hr (j := 1) (by show 1 < 2; omega)
        obtain ⟨bbk, cbk, hrdbk, _, hksbk⟩ := hkb
        have hatbk := fun (L : List Own) j v hj => at_oldR (W := w) (L := L) (Old.self w) hrdbk j v hj
        have IHbk := fun ks vks w' (hg : Gr w w') hm hs => IH b ks (.slice bbk b.kids.length cbk) vks w' hm (by simp only [Re.size] at hsz; omega) (hup w' hg) ((hksbk.stay fun k hk => hg.block k hk).mono fun k hk => Nat.lt_of_lt_of_le hk hg.size) hs
        repeat (first
          | refine qv rfl (qp rfl) rfl rfl ?_ | refine TL_nil ?_ | refine T_seq ?_ | refine T_region ?_ | refine qcT rfl ?_ | refine qcF rfl ?_ | refine T_skip ?_
          | refine T_exit ?_ | refine T_ret ?_ | refine T_block ?_ | refine E_then ?_ | refine E_thenX ?_ | refine E_thenR ?_ | refine E_blockN ?_
          | refine E_blockR ?_ | refine E_blockX ?_ | refine E_blockO rfl ?_
          | refine qv rfl (rr_load1 (v := .int .i64 5) TyC.ty rfl (at_blk (i := 0) rfl rfl)) rfl rfl ?_
          | refine qv rfl (rr_eql (b := false) rfl rfl rfl) rfl rfl ?_ | refine qv rfl (qlen Und.eq rfl) rfl rfl ?_
          | refine qv rfl (qfld FldC.fld rfl rfl) rfl rfl ?_ | refine qv rfl (rr_lss rfl rfl (qT (by omega))) rfl rfl ?_
          | refine qv rfl (rr_lss rfl rfl (qF (by omega))) rfl rfl ?_ | refine qv rfl (rr_eql rfl rfl (qT (by omega))) rfl rfl ?_
          | refine qv rfl (rr_eql rfl rfl (qF (by omega))) rfl rfl ?_ | refine qv rfl (rr_add64 rfl rfl (by omega) (by omega) rfl) rfl rfl ?_)
        refine T_ord ([blkO g2 (rexC 5 C4.zero (.slice (some ⟨bb, off, none⟩) 2 ck)).toArray 27]) (.calm 0 (.calm 1 (.calm 2 (.calm 3 (.calm 4 (.calm 5 (.calm 6 (.calm 7 (.calm 8 (.calm 9 (.one 10 (.one 11 (.calm 12 (.calm 13 (.done))))))))))))))) (sub_pick [0] (by decide) rfl) (by kernel_rfl) (by kernel_rfl) (by intro c a d v w h; cases d <;> exact h) ?_
        repeat (first
          | ((first | refine TW_plain rfl rfl ?_ | refine TW_gmet rfl rfl rfl rfl ?_); first | refine TN_val (qp rfl) rfl rfl ?_ | refine TN_val (rr_load1 (v := .slice (some ⟨bb, off, none⟩) 2 ck) TyC.ty rfl (at_blk (i := 0) rfl rfl)) rfl rfl ?_ | refine TN_val (rr_idxc (j := 0) Und.eq TyC.ty rfl rfl (by decide)) rfl rfl ?_ | refine TN_val (rr_loadN (cs := rexC a.kind a.cls (.slice bak a.kids.length cak)) TyC.ty rfl rfl (hatak _)) rfl rfl ?_ | refine TN_val (qlen Und.eq rfl) rfl rfl ?_ | refine TN_val (qfld FldC.fld rfl rfl) rfl rfl ?_ | refine TN_val (rr_lss rfl rfl (qT (by omega))) rfl rfl ?_ | refine TN_val (rr_lss rfl rfl (qF (by omega))) rfl rfl ?_ | refine TN_val (rr_eql rfl rfl (qT (by omega))) rfl rfl ?_ | refine TN_val (rr_eql rfl rfl (qF (by omega))) rfl rfl ?_ | refine TN_val (rr_add64 rfl rfl (by omega) (by omega) rfl) rfl rfl ?_)
          | refine TW_done ?_)
        refine TW_call rfl (he2 EntersC.en rfl rfl rfl) (fun w hm => IHak [] _ w hm.below (by simp only [Re.size] at hN2; simp; omega) (slnil _)) rfl rfl rfl ?_
        repeat (first
          | ((first | refine TW_plain rfl rfl ?_ | refine TW_gmet rfl rfl rfl rfl ?_); first | refine TN_val (qp rfl) rfl rfl ?_ | refine TN_val (rr_load1 (v := .slice (some ⟨bb, off, none⟩) 2 ck) TyC.ty rfl (at_blk (i := 0) rfl rfl)) rfl rfl ?_ | refine TN_val (rr_idxc (j := 1) Und.eq TyC.ty rfl rfl (by decide)) rfl rfl ?_ | refine TN_val (rr_loadN (cs := rexC b.kind b.cls (.slice bbk b.kids.length cbk)) TyC.ty rfl rfl (hatbk _)) rfl rfl ?_ | refine TN_val (rr_stradd (l' := [124]) rfl rfl (by have h1 := wrap_len (brk [] a) (body a); have h3 := body_len a; simp only [Re.size] at hsz; simp; omega)) rfl rfl ?_ | refine TN_val (qlen Und.eq rfl) rfl rfl ?_ | refine TN_val (qfld FldC.fld rfl rfl) rfl rfl ?_ | refine TN_val (rr_lss rfl rfl (qT (by omega))) rfl rfl ?_ | refine TN_val (rr_lss rfl rfl (qF (by omega))) rfl rfl ?_ | refine TN_val (rr_eql rfl rfl (qT (by omega))) rfl rfl ?_ | refine TN_val (rr_eql rfl rfl (qF (by omega))) rfl rfl ?_ | refine TN_val (rr_add64 rfl rfl (by omega) (by omega) rfl) rfl rfl ?_)
          | refine TW_done ?_)
        refine TW_one rfl (TL_litV [.int .i64 5] rfl rfl rfl (by intro v hv; simp at hv; subst hv; rfl) rfl rfl fun g67 => TL_toRow (i := 1) (m := 1) 1 rfl rfl (by omega) (TW_on (sub_pick [0] (by decide) rfl) ?_))
        refine TW_one rfl (TL_call (he2 EntersC.en rfl rfl rfl) (fun w' hm => IHbk [5] _ w' hm.below (by simp only [Re.size] at hN2; simp; omega) (Sl.of_own (hm.get (i := 1) rfl))) rfl rfl rfl ?_)
        intro _ _
        conv => arg 8; simp only [zA, zB, zC, zD, zE, zF, zG, zH, zI, rowS, ret, id_eq]
        refine TW_on (sub_pick [0] (by decide) rfl) ?_
        repeat (first
          | ((first | refine TW_plain rfl rfl ?_ | refine TW_gmet rfl rfl rfl rfl ?_); first | refine TN_val (qp rfl) rfl rfl ?_ | refine TN_val (rr_stradd rfl rfl (by have h1 := wrap_len (brk [] a) (body a); have h2 := wrap_len (brk [5] b) (body b); have h3 := body_len a; have h4 := body_len b; simp only [Re.size] at hsz; simp; omega)) rfl rfl ?_ | refine TN_val (qlen Und.eq rfl) rfl rfl ?_ | refine TN_val (qfld FldC.fld rfl rfl) rfl rfl ?_ | refine TN_val (rr_lss rfl rfl (qT (by omega))) rfl rfl ?_ | refine TN_val (rr_lss rfl rfl (qF (by omega))) rfl rfl ?_ | refine TN_val (rr_eql rfl rfl (qT (by omega))) rfl rfl ?_ | refine TN_val (rr_eql rfl rfl (qF (by omega))) rfl rfl ?_ | refine TN_val (rr_add64 rfl rfl (by omega) (by omega) rfl) rfl rfl ?_)
          | refine TW_done ?_)
        repeat (first
          | refine qv rfl (qp rfl) rfl rfl ?_ | refine TL_nil ?_ | refine T_seq ?_ | refine T_region ?_ | refine qcT rfl ?_ | refine qcF rfl ?_ | refine T_skip ?_
          | refine T_exit ?_ | refine T_ret ?_ | refine T_block ?_ | refine E_then ?_ | refine E_thenX ?_ | refine E_thenR ?_ | refine E_blockN ?_
          | refine E_blockR ?_ | refine E_blockX ?_ | refine E_blockO rfl ?_ | refine qv rfl (qlen Und.eq rfl) rfl rfl ?_
          | refine qv rfl (qfld FldC.fld rfl rfl) rfl rfl ?_ | refine qv rfl (rr_lss rfl rfl (qT (by omega))) rfl rfl ?_
          | refine qv rfl (rr_lss rfl rfl (qF (by omega))) rfl rfl ?_ | refine qv rfl (rr_eql rfl rfl (qT (by omega))) rfl rfl ?_
          | refine qv rfl (rr_eql rfl rfl (qF (by omega))) rfl rfl ?_ | refine qv rfl (rr_add64 rfl rfl (by omega) (by omega) rfl) rfl rfl ?_)
        exact E_ret1e rfl rfl (by rw [brk_0, brk_1]; show str _ = str (wrap (inBr 0 a) (body a) ++ ([124] ++ wrap (inBr 1 b) (body b))); rw [inBr0]; simp [wrap])
end Go.Proofs.YtkcpakfcmincbaaDoor.eng

/- RexZ -/
namespace Go.Proofs.YtkcpakfcmincbaaDoor.eng
open Go.RowKit kit mix classL rexL classSets
def copySp (r : Rx) : Spec (Value × (Nat → Prop)) := ⟨fun _ => True, fun x => rexV r.kind r.cls x.1, fun x => [rkO x.2 x.1 r.kids]⟩
set_option maxRecDepth 100000 in
attribute [local irreducible] Instr.build in
set_option maxHeartbeats 16000000 in
theorem copy_calls : ∀ (N : Nat) (r : Rx), sizeX r ≤ N → ∀ (vk : Value) (w : World), kit.okI64 r.kind → SlF rexS (Low w) w vk r.kids → r.kids.length ≤ 1000000 →
    (∀ e, e ∈ r.kids → sizeX e ≤ 100000) → Calls Tryd.prog 33 #[rexV r.kind r.cls vk] w (Meets (copySp r) w)
  | 0, r, h, _, _, _, _, _, _ => by have := sizeX_pos r; omega
  | N + 1, r, hN, vk, w, hk64, hks, hkl, hke0 => by
    have IH := copy_calls N
    obtain ⟨bk, ck, rfl, hck, hmk, hrk⟩ := hks
    unfold maxLen at hmk
    have hszr : sizeX r = sizesX r.kids + 1 := by obtain ⟨k, c, l⟩ := r; rfl
    have hbc := build_rexKC r.kind r.cls
    refine enter (args := [rexV r.kind r.cls (.slice bk r.kids.length ck)]) (n := 27) Tryd.func33 rfl rfl rfl ?_
    refine T_seq (T_region (TL_box rfl rfl rfl fun g1 => TL_new rfl fun g2 => ?_))
    conv => arg 8; simp only [zA, zB, zC, zD, zE, zF, zG, zH, zI, rowS, ret, id_eq]
    repeat (first
      | refine qv rfl (qp rfl) rfl rfl ?_ | refine TL_nil ?_ | refine T_seq ?_ | refine T_region ?_ | refine qcT rfl ?_ | refine qcF rfl ?_ | refine T_skip ?_
      | refine T_exit ?_ | refine T_ret ?_ | refine T_block ?_ | refine E_then ?_ | refine E_thenX ?_ | refine E_thenR ?_ | refine E_blockN ?_
      | refine E_blockR ?_ | refine E_blockX ?_ | refine E_blockO rfl ?_
      | refine qv rfl (rr_load1 (v := .int .i64 r.kind) TyC.ty rfl (at_blk (i := 0) rfl rfl)) rfl rfl ?_
      | refine qv rfl (rr_loadN (cs := clsL r.cls) TyC.ty rfl rfl (fun j v hj => at_blk (i := 0) rfl (rex_cls hj))) rfl rfl ?_
      | refine qv rfl (rr_build rfl hbc) rfl rfl ?_ | refine qv rfl (qlen Und.eq rfl) rfl rfl ?_ | refine qv rfl (qfld FldC.fld rfl rfl) rfl rfl ?_
      | refine qv rfl (rr_lss rfl rfl (qT (by omega))) rfl rfl ?_ | refine qv rfl (rr_lss rfl rfl (qF (by omega))) rfl rfl ?_
      | refine qv rfl (rr_add64 rfl rfl (by omega) (by omega) rfl) rfl rfl ?_)
    refine TL_new rfl fun g3 => ?_
    conv => arg 8; simp only [zA, zB, zC, zD, zE, zF, zG, zH, zI, rowS, ret, id_eq]
    refine TL_storeB (i := 2) (cs' := (rexC r.kind r.cls (.slice none 0 0)).toArray) rfl rfl rfl rfl rfl rfl ?_
    conv => arg 8; simp only [zA, zB, zC, zD, zE, zF, zG, zH, zI, rowS, ret, id_eq]
    repeat (first
      | refine qv rfl (qp rfl) rfl rfl ?_ | refine TL_nil ?_ | refine T_seq ?_ | refine T_region ?_ | refine qcT rfl ?_ | refine qcF rfl ?_ | refine T_skip ?_
      | refine T_exit ?_ | refine T_ret ?_ | refine T_block ?_ | refine E_then ?_ | refine E_thenX ?_ | refine E_thenR ?_ | refine E_blockN ?_
      | refine E_blockR ?_ | refine E_blockX ?_ | refine E_blockO rfl ?_
      | refine qv rfl (rr_load1 (v := .slice bk r.kids.length ck) TyC.ty rfl (at_blk (i := 0) rfl rfl)) rfl rfl ?_ | refine qv rfl (qlen Und.eq rfl) rfl rfl ?_
      | refine qv rfl (qfld FldC.fld rfl rfl) rfl rfl ?_ | refine qv rfl (rr_lss rfl rfl (qT (by omega))) rfl rfl ?_
      | refine qv rfl (rr_lss rfl rfl (qF (by omega))) rfl rfl ?_ | refine qv rfl (rr_add64 rfl rfl (by omega) (by omega) rfl) rfl rfl ?_)
    refine T_pick [1, 2] (by decide) rfl ?_
    refine T_nil 27 6 (T_extra (elsO rexS (fun _ => False) [] []) (fun k hk => hk.elim (fun h => by cases h) id) (fun w => els_nil) ?_)
    refine T_loop (ι := Nat × Value × List RC × (Nat → Prop)) (fun (j, v, xs, _) => j ≤ r.kids.length ∧ v.oneCell' = true ∧ xs.length = j) (fun (j, v, _, _) => [(2, .pointer (some ⟨g2, 0, none⟩)), (3, .pointer (some ⟨g3, 0, none⟩)), (12, .slice bk r.kids.length ck), (13, .int .i64 (r.kids.length : Int)), (14, .int .i64 (j : Int))])
      (fun (j, v, xs, F) => [blkO g2 (rexC 0 C4.zero (.slice none 0 0)).toArray 27, blkO g3 (rexC r.kind r.cls v).toArray 27, rowO 27 6 v j (xs.flatMap rcC), elsO rexS F (xs.map rcC) (r.kids.take j)]) (fun (j, _, _, _) => r.kids.length - j) (0, .slice none 0 0, [], fun _ => False) ⟨Nat.zero_le _, rfl, rfl⟩ (by repeat' (first | exact True.intro | refine And.intro rfl ?_)) rfl ?_
    rintro ⟨j, v, xs, F⟩ ⟨i1, i2, i3⟩
    dsimp only at i1 i2 i3 ⊢
    by_cases c1 : j < r.kids.length
    · obtain ⟨b, off, rfl, _, hr⟩ := hrk (by omega)
      obtain ⟨bj, cj, hrd, hkr⟩ := rkid_at hr c1
      have hat := fun (L : List Own) j v hj => at_oldR (W := w) (L := L) (Old.self w) hrd j v hj
      have htk : r.kids.take (j + 1) = r.kids.take j ++ [r.kids[j]] := List.take_succ_eq_append_getElem c1
      have hsz := sizesX_mem (List.getElem_mem c1)
      have hsz2 := hke0 _ (List.getElem_mem c1)
      generalize r.kids[j] = e at *
      obtain ⟨vq, hvq, hke, hkks⟩ := hkr
      have hvq' : vq = .slice bj e.kids.length cj := by
        have := congrArg (fun x => match x with | Value.agg cs => cs[5]? | _ => none) hvq
        simpa [rexV, rexC, clsL] using this.symm
      subst hvq'
      have hse : sizeX e = sizesX e.kids + 1 := by obtain ⟨k, c, l⟩ := e; rfl
      have hkl2 : ∀ l : List Rx, l.length ≤ sizesX l := fun l => by
        induction l with
        | nil => exact Nat.le_refl _
        | cons x l ih => rw [sizesX]; have := sizeX_pos x; simp; omega
      have IHk := fun w' (hg : Gr w w') => IH e (by omega) (.slice bj e.kids.length cj) w' hke ((hkks.stay fun k hk => hg.block k hk).mono fun k hk => Nat.lt_of_lt_of_le hk hg.size) (by have := hkl2 e.kids; omega) (fun q hq => by have := sizesX_mem hq; omega)
      clear hkl2
      have hmm : e.kids.length = e.kids.length := rfl
      generalize hm0 : e.kids.length = m at *
      repeat (first
        | refine qv rfl (qp rfl) rfl rfl ?_ | refine TL_nil ?_ | refine T_seq ?_ | refine T_region ?_ | refine qcT rfl ?_ | refine qcF rfl ?_ | refine T_skip ?_
        | refine T_exit ?_ | refine T_ret ?_ | refine T_block ?_ | refine E_then ?_ | refine E_thenX ?_ | refine E_thenR ?_ | refine E_blockN ?_
        | refine E_blockR ?_ | refine E_blockX ?_ | refine E_blockO rfl ?_ | refine qv rfl (rr_idxc (j := j) Und.eq TyC.ty rfl rfl c1) rfl rfl ?_
        | refine qv rfl (rr_loadN TyC.ty rfl rfl (hat _)) rfl rfl ?_ | refine qv rfl (qlen Und.eq rfl) rfl rfl ?_
        | refine qv rfl (qfld FldC.fld rfl rfl) rfl rfl ?_ | refine qv rfl (rr_lss rfl rfl (qT (by omega))) rfl rfl ?_
        | refine qv rfl (rr_lss rfl rfl (qF (by omega))) rfl rfl ?_ | refine qv rfl (rr_add64 rfl rfl (by omega) (by omega) rfl) rfl rfl ?_)
      refine TL_new rfl fun g5 => ?_
      conv => arg 8; simp only [zA, zB, zC, zD, zE, zF, zG, zH, zI, rowS, ret, id_eq]
      refine TL_storeB (i := 4) (cs' := (rexC e.kind e.cls (.slice bj m cj)).toArray) rfl rfl rfl rfl rfl rfl ?_
      conv => arg 8; simp only [zA, zB, zC, zD, zE, zF, zG, zH, zI, rowS, ret, id_eq]
      repeat (first
        | refine qv rfl (qp rfl) rfl rfl ?_ | refine TL_nil ?_ | refine T_seq ?_ | refine T_region ?_ | refine qcT rfl ?_ | refine qcF rfl ?_ | refine T_skip ?_
        | refine T_exit ?_ | refine T_ret ?_ | refine T_block ?_ | refine E_then ?_ | refine E_thenX ?_ | refine E_thenR ?_ | refine E_blockN ?_
        | refine E_blockR ?_ | refine E_blockX ?_ | refine E_blockO rfl ?_ | refine qv rfl (qlen Und.eq rfl) rfl rfl ?_
        | refine qv rfl (qfld FldC.fld rfl rfl) rfl rfl ?_ | refine qv rfl (rr_lss rfl rfl (qT (by omega))) rfl rfl ?_
        | refine qv rfl (rr_lss rfl rfl (qF (by omega))) rfl rfl ?_ | refine qv rfl (rr_add64 rfl rfl (by omega) (by omega) rfl) rfl rfl ?_)
      (repeat refine T_seq ?_)
      refine T_ord ([blkO g5 (rexC e.kind e.cls (.slice bj m cj)).toArray 27]) (.calm 0 (.calm 2 (.two 1 (.one 3 (.one 4 (.one 5 (.calm 6 (.one 7 (.done)))))) 3 (.two 1 (.one 4 (.one 5 (.calm 6 (.one 7 (.done))))) 4 (.one 1 (.one 5 (.calm 6 (.one 7 (.done))))))))) (sub_pick [4] (by decide) rfl) (by kernel_rfl) (by kernel_rfl) (by intro c a d v w h; cases d <;> exact h) ?_
      repeat (first
        | ((first | refine TW_plain rfl rfl ?_ | refine TW_gmet rfl rfl rfl rfl ?_); first | refine TN_val (qp rfl) rfl rfl ?_ | refine TN_val (rr_loadB (i := 0) TyC.ty rfl rfl rfl) rfl rfl ?_ | refine TN_val (qlen Und.eq rfl) rfl rfl ?_ | refine TN_val (qfld FldC.fld rfl rfl) rfl rfl ?_ | refine TN_val (rr_lss rfl rfl (qT (by omega))) rfl rfl ?_ | refine TN_val (rr_lss rfl rfl (qF (by omega))) rfl rfl ?_ | refine TN_val (rr_add64 rfl rfl (by omega) (by omega) rfl) rfl rfl ?_)
        | refine TW_done ?_)
      refine TW_two rfl rfl ?_ ?_
      · refine TL_val (rr_load1 (v := v) TyC.ty rfl (at_blk (i := 1) rfl rfl)) rfl rfl rfl (TW_on (sub_pick [4] (by decide) rfl) ?_)
        refine TW_one rfl (TL_call (he1 EntersC.en rfl rfl) (fun w' hm => IHk w' hm.below) rfl rfl rfl ?_)
        rintro ⟨vm, F2⟩ _
        conv => arg 8; simp only [zA, zB, zC, zD, zE, zF, zG, zH, zI, rowS, ret, id_eq, copySp]
        refine TL_know (i := 5) (φ := ∃ b n cap, vm = .slice b n cap) rfl (fun w h => rkO_form h) fun hvm => ?_
        obtain ⟨bm, nm, cm, rfl⟩ := hvm
        refine TW_on (sub_pick [4] (by decide) rfl) ?_
        refine TW_one rfl (TL_one (cs := (rcC (e.kind, e.cls, bm, nm, cm)).toArray) rfl rfl rfl rfl rfl fun g22 => ?_)
        conv => arg 8; simp only [zA, zB, zC, zD, zE, zF, zG, zH, zI, rowS, ret, id_eq]
        refine TW_on (sub_pick [4] (by decide) rfl) ?_
        refine TW_one rfl ?_
        refine TL_app1 (i := 2) (q := 6) rfl rfl rfl rfl rfl (by rfl) (by omega) (by omega) rfl fun v' => ?_
        conv => arg 8; simp only [zA, zB, zC, zD, zE, zF, zG, zH, zI, rowS, ret, id_eq]
        refine TL_slv (i := 2) rfl fun hv1 hv2 => ?_
        refine TW_on (sub_pick [4] (by decide) rfl) ?_
        repeat (first
          | ((first | refine TW_plain rfl rfl ?_ | refine TW_gmet rfl rfl rfl rfl ?_); first | refine TN_val (qp rfl) rfl rfl ?_ | refine TN_val (qlen Und.eq rfl) rfl rfl ?_ | refine TN_val (qfld FldC.fld rfl rfl) rfl rfl ?_ | refine TN_val (rr_lss rfl rfl (qT (by omega))) rfl rfl ?_ | refine TN_val (rr_lss rfl rfl (qF (by omega))) rfl rfl ?_ | refine TN_val (rr_add64 rfl rfl (by omega) (by omega) rfl) rfl rfl ?_)
          | refine TW_done ?_)
        refine TW_one rfl (TL_store1 (i := 1) rfl rfl rfl hv1 hv2 rfl ?_)
        conv => arg 8; simp only [zA, zB, zC, zD, zE, zF, zG, zH, zI, rowS, ret, id_eq]
        refine TW_on (sub_pick [4] (by decide) rfl) ?_
        repeat (first
          | ((first | refine TW_plain rfl rfl ?_ | refine TW_gmet rfl rfl rfl rfl ?_); first | refine TN_val (qp rfl) rfl rfl ?_ | refine TN_val (qlen Und.eq rfl) rfl rfl ?_ | refine TN_val (qfld FldC.fld rfl rfl) rfl rfl ?_ | refine TN_val (rr_lss rfl rfl (qT (by omega))) rfl rfl ?_ | refine TN_val (rr_lss rfl rfl (qF (by omega))) rfl rfl ?_ | refine TN_val (rr_add64 rfl rfl (by omega) (by omega) rfl) rfl rfl ?_)
          | refine TW_done ?_)
        repeat (first
          | refine qv rfl (qp rfl) rfl rfl ?_ | refine TL_nil ?_ | refine T_seq ?_ | refine T_region ?_ | refine qcT rfl ?_ | refine qcF rfl ?_ | refine T_skip ?_
          | refine T_exit ?_ | refine T_ret ?_ | refine T_block ?_ | refine E_then ?_ | refine E_thenX ?_ | refine E_thenR ?_ | refine E_blockN ?_
          | refine E_blockR ?_ | refine E_blockX ?_ | refine E_blockO rfl ?_ | refine qv rfl (qlen Und.eq rfl) rfl rfl ?_
          | refine qv rfl (qfld FldC.fld rfl rfl) rfl rfl ?_ | refine qv rfl (rr_lss rfl rfl (qT (by omega))) rfl rfl ?_
          | refine qv rfl (rr_lss rfl rfl (qF (by omega))) rfl rfl ?_ | refine qv rfl (rr_add64 rfl rfl (by omega) (by omega) rfl) rfl rfl ?_)
        refine E_merge (elsO rexS (fun k => F k ∨ F2 k) (xs.map rcC ++ [rcC (e.kind, e.cls, bm, nm, cm)]) (r.kids.take j ++ [e])) 5 3 [0, 1, 2] (by decide) rfl rfl rfl (fun k hk => (els_foot hk).elim (fun h => .inr (.inr h)) fun h => .inl (.inr h)) (fun w hk he => els_snoc he (rk_is hke hk) (rk_sl hk).2) ?_
        exact E_round (j + 1, v', xs ++ [(e.kind, e.cls, bm, nm, cm)], fun k => F k ∨ F2 k) ⟨by show j + 1 ≤ r.kids.length; omega, hv2, by rw [List.length_append, i3]; rfl⟩ (by show r.kids.length - (j + 1) < r.kids.length - j; omega) (by repeat' (first | exact True.intro | refine And.intro rfl ?_)) (by dsimp only; rw [htk, List.map_append, List.flatMap_append]; rfl)
      · refine TL_call (he1 EntersC.en rfl rfl) (fun w' hm => IHk w' hm.below) rfl rfl rfl ?_
        rintro ⟨vm, F2⟩ _
        conv => arg 8; simp only [zA, zB, zC, zD, zE, zF, zG, zH, zI, rowS, ret, id_eq, copySp]
        refine TL_know (i := 5) (φ := ∃ b n cap, vm = .slice b n cap) rfl (fun w h => rkO_form h) fun hvm => ?_
        obtain ⟨bm, nm, cm, rfl⟩ := hvm
        refine TW_on (sub_pick [4] (by decide) rfl) ?_
        refine TW_two rfl rfl ?_ ?_
        · refine TL_val (rr_load1 (v := v) TyC.ty rfl (at_blk (i := 1) rfl rfl)) rfl rfl rfl (TW_on (sub_pick [4] (by decide) rfl) ?_)
          refine TW_one rfl (TL_one (cs := (rcC (e.kind, e.cls, bm, nm, cm)).toArray) rfl rfl rfl rfl rfl fun g22 => ?_)
          conv => arg 8; simp only [zA, zB, zC, zD, zE, zF, zG, zH, zI, rowS, ret, id_eq]
          refine TW_on (sub_pick [4] (by decide) rfl) ?_
          refine TW_one rfl ?_
          refine TL_app1 (i := 2) (q := 6) rfl rfl rfl rfl rfl (by rfl) (by omega) (by omega) rfl fun v' => ?_
          conv => arg 8; simp only [zA, zB, zC, zD, zE, zF, zG, zH, zI, rowS, ret, id_eq]
          refine TL_slv (i := 2) rfl fun hv1 hv2 => ?_
          refine TW_on (sub_pick [4] (by decide) rfl) ?_
          repeat (first
            | ((first | refine TW_plain rfl rfl ?_ | refine TW_gmet rfl rfl rfl rfl ?_); first | refine TN_val (qp rfl) rfl rfl ?_ | refine TN_val (qlen Und.eq rfl) rfl rfl ?_ | refine TN_val (qfld FldC.fld rfl rfl) rfl rfl ?_ | refine TN_val (rr_lss rfl rfl (qT (by omega))) rfl rfl ?_ | refine TN_val (rr_lss rfl rfl (qF (by omega))) rfl rfl ?_ | refine TN_val (rr_add64 rfl rfl (by omega) (by omega) rfl) rfl rfl ?_)
            | refine TW_done ?_)
          refine TW_one rfl (TL_store1 (i := 1) rfl rfl rfl hv1 hv2 rfl ?_)
          conv => arg 8; simp only [zA, zB, zC, zD, zE, zF, zG, zH, zI, rowS, ret, id_eq]
          refine TW_on (sub_pick [4] (by decide) rfl) ?_
          repeat (first
            | ((first | refine TW_plain rfl rfl ?_ | refine TW_gmet rfl rfl rfl rfl ?_); first | refine TN_val (qp rfl) rfl rfl ?_ | refine TN_val (qlen Und.eq rfl) rfl rfl ?_ | refine TN_val (qfld FldC.fld rfl rfl) rfl rfl ?_ | refine TN_val (rr_lss rfl rfl (qT (by omega))) rfl rfl ?_ | refine TN_val (rr_lss rfl rfl (qF (by omega))) rfl rfl ?_ | refine TN_val (rr_add64 rfl rfl (by omega) (by omega) rfl) rfl rfl ?_)
            | refine TW_done ?_)
          repeat (first
            | refine qv rfl (qp rfl) rfl rfl ?_ | refine TL_nil ?_ | refine T_seq ?_ | refine T_region ?_ | refine qcT rfl ?_ | refine qcF rfl ?_ | refine T_skip ?_
            | refine T_exit ?_ | refine T_ret ?_ | refine T_block ?_ | refine E_then ?_ | refine E_thenX ?_ | refine E_thenR ?_ | refine E_blockN ?_
            | refine E_blockR ?_ | refine E_blockX ?_ | refine E_blockO rfl ?_ | refine qv rfl (qlen Und.eq rfl) rfl rfl ?_
            | refine qv rfl (qfld FldC.fld rfl rfl) rfl rfl ?_ | refine qv rfl (rr_lss rfl rfl (qT (by omega))) rfl rfl ?_
            | refine qv rfl (rr_lss rfl rfl (qF (by omega))) rfl rfl ?_ | refine qv rfl (rr_add64 rfl rfl (by omega) (by omega) rfl) rfl rfl ?_)
          refine E_merge (elsO rexS (fun k => F k ∨ F2 k) (xs.map rcC ++ [rcC (e.kind, e.cls, bm, nm, cm)]) (r.kids.take j ++ [e])) 5 3 [0, 1, 2] (by decide) rfl rfl rfl (fun k hk => (els_foot hk).elim (fun h => .inr (.inr h)) fun h => .inl (.inr h)) (fun w hk he => els_snoc he (rk_is hke hk) (rk_sl hk).2) ?_
          exact E_round (j + 1, v', xs ++ [(e.kind, e.cls, bm, nm, cm)], fun k => F k ∨ F2 k) ⟨by show j + 1 ≤ r.kids.length; omega, hv2, by rw [List.length_append, i3]; rfl⟩ (by show r.kids.length - (j + 1) < r.kids.length - j; omega) (by repeat' (first | exact True.intro | refine And.intro rfl ?_)) (by dsimp only; rw [htk, List.map_append, List.flatMap_append]; rfl)
        · refine TL_one (cs := (rcC (e.kind, e.cls, bm, nm, cm)).toArray) rfl rfl rfl rfl rfl fun g22 => ?_
          conv => arg 8; simp only [zA, zB, zC, zD, zE, zF, zG, zH, zI, rowS, ret, id_eq]
          refine TW_on (sub_pick [4] (by decide) rfl) ?_
          refine TW_one rfl (TL_val (rr_load1 (v := v) TyC.ty rfl (at_blk (i := 1) rfl rfl)) rfl rfl rfl (TW_on (sub_pick [4] (by decide) rfl) ?_))
          refine TW_one rfl ?_
          refine TL_app1 (i := 2) (q := 6) rfl rfl rfl rfl rfl (by rfl) (by omega) (by omega) rfl fun v' => ?_
          conv => arg 8; simp only [zA, zB, zC, zD, zE, zF, zG, zH, zI, rowS, ret, id_eq]
          refine TL_slv (i := 2) rfl fun hv1 hv2 => ?_
          refine TW_on (sub_pick [4] (by decide) rfl) ?_
          repeat (first
            | ((first | refine TW_plain rfl rfl ?_ | refine TW_gmet rfl rfl rfl rfl ?_); first | refine TN_val (qp rfl) rfl rfl ?_ | refine TN_val (qlen Und.eq rfl) rfl rfl ?_ | refine TN_val (qfld FldC.fld rfl rfl) rfl rfl ?_ | refine TN_val (rr_lss rfl rfl (qT (by omega))) rfl rfl ?_ | refine TN_val (rr_lss rfl rfl (qF (by omega))) rfl rfl ?_ | refine TN_val (rr_add64 rfl rfl (by omega) (by omega) rfl) rfl rfl ?_)
            | refine TW_done ?_)
          refine TW_one rfl (TL_store1 (i := 1) rfl rfl rfl hv1 hv2 rfl ?_)
          conv => arg 8; simp only [zA, zB, zC, zD, zE, zF, zG, zH, zI, rowS, ret, id_eq]
          refine TW_on (sub_pick [4] (by decide) rfl) ?_
          repeat (first
            | ((first | refine TW_plain rfl rfl ?_ | refine TW_gmet rfl rfl rfl rfl ?_); first | refine TN_val (qp rfl) rfl rfl ?_ | refine TN_val (qlen Und.eq rfl) rfl rfl ?_ | refine TN_val (qfld FldC.fld rfl rfl) rfl rfl ?_ | refine TN_val (rr_lss rfl rfl (qT (by omega))) rfl rfl ?_ | refine TN_val (rr_lss rfl rfl (qF (by omega))) rfl rfl ?_ | refine TN_val (rr_add64 rfl rfl (by omega) (by omega) rfl) rfl rfl ?_)
            | refine TW_done ?_)
          repeat (first
            | refine qv rfl (qp rfl) rfl rfl ?_ | refine TL_nil ?_ | refine T_seq ?_ | refine T_region ?_ | refine qcT rfl ?_ | refine qcF rfl ?_ | refine T_skip ?_
            | refine T_exit ?_ | refine T_ret ?_ | refine T_block ?_ | refine E_then ?_ | refine E_thenX ?_ | refine E_thenR ?_ | refine E_blockN ?_
            | refine E_blockR ?_ | refine E_blockX ?_ | refine E_blockO rfl ?_ | refine qv rfl (qlen Und.eq rfl) rfl rfl ?_
            | refine qv rfl (qfld FldC.fld rfl rfl) rfl rfl ?_ | refine qv rfl (rr_lss rfl rfl (qT (by omega))) rfl rfl ?_
            | refine qv rfl (rr_lss rfl rfl (qF (by omega))) rfl rfl ?_ | refine qv rfl (rr_add64 rfl rfl (by omega) (by omega) rfl) rfl rfl ?_)
          refine E_merge (elsO rexS (fun k => F k ∨ F2 k) (xs.map rcC ++ [rcC (e.kind, e.cls, bm, nm, cm)]) (r.kids.take j ++ [e])) 5 3 [0, 1, 2] (by decide) rfl rfl rfl (fun k hk => (els_foot hk).elim (fun h => .inr (.inr h)) fun h => .inl (.inr h)) (fun w hk he => els_snoc he (rk_is hke hk) (rk_sl hk).2) ?_
          exact E_round (j + 1, v', xs ++ [(e.kind, e.cls, bm, nm, cm)], fun k => F k ∨ F2 k) ⟨by show j + 1 ≤ r.kids.length; omega, hv2, by rw [List.length_append, i3]; rfl⟩ (by show r.kids.length - (j + 1) < r.kids.length - j; omega) (by repeat' (first | exact True.intro | refine And.intro rfl ?_)) (by dsimp only; rw [htk, List.map_append, List.flatMap_append]; rfl)
    · subst i3
      have hjl : xs.length = r.kids.length := by omega
      rw [List.take_of_length_le (by omega)]
      repeat (first
        | refine qv rfl (qp rfl) rfl rfl ?_ | refine TL_nil ?_ | refine T_seq ?_ | refine T_region ?_ | refine qcT rfl ?_ | refine qcF rfl ?_ | refine T_skip ?_
        | refine T_exit ?_ | refine T_ret ?_ | refine T_block ?_ | refine E_then ?_ | refine E_thenX ?_ | refine E_thenR ?_ | refine E_blockN ?_
        | refine E_blockR ?_ | refine E_blockX ?_ | refine E_blockO rfl ?_ | refine qv rfl (rr_loadB (i := 1) TyC.ty rfl rfl rfl) rfl rfl ?_
        | refine qv rfl (qlen Und.eq rfl) rfl rfl ?_ | refine qv rfl (qfld FldC.fld rfl rfl) rfl rfl ?_
        | refine qv rfl (rr_lss rfl rfl (qT (by omega))) rfl rfl ?_ | refine qv rfl (rr_lss rfl rfl (qF (by omega))) rfl rfl ?_
        | refine qv rfl (rr_add64 rfl rfl (by omega) (by omega) rfl) rfl rfl ?_)
      refine TL_storeB (i := 0) (cs' := (rexC r.kind r.cls v).toArray) rfl rfl rfl rfl (by show ((.int .i64 r.kind :: (clsL r.cls ++ [v])).all Value.oneCell') = true; simp [clsL, i2]; exact ⟨rfl, rfl, rfl, rfl, rfl⟩) rfl ?_
      conv => arg 8; simp only [zA, zB, zC, zD, zE, zF, zG, zH, zI, rowS, ret, id_eq]
      repeat (first
        | refine qv rfl (qp rfl) rfl rfl ?_ | refine TL_nil ?_ | refine T_seq ?_ | refine T_region ?_ | refine qcT rfl ?_ | refine qcF rfl ?_ | refine T_skip ?_
        | refine T_exit ?_ | refine T_ret ?_ | refine T_block ?_ | refine E_then ?_ | refine E_thenX ?_ | refine E_thenR ?_ | refine E_blockN ?_
        | refine E_blockR ?_ | refine E_blockX ?_ | refine E_blockO rfl ?_ | refine qv rfl (qlen Und.eq rfl) rfl rfl ?_
        | refine qv rfl (qfld FldC.fld rfl rfl) rfl rfl ?_ | refine qv rfl (rr_lss rfl rfl (qT (by omega))) rfl rfl ?_
        | refine qv rfl (rr_lss rfl rfl (qF (by omega))) rfl rfl ?_ | refine qv rfl (rr_add64 rfl rfl (by omega) (by omega) rfl) rfl rfl ?_)
      refine E_merge (rkO (Or1 F v) v r.kids) 3 2 [0, 1] (by decide) rfl rfl rfl (fun k hk => (rk_foot hk).elim (fun h => .inl (.inr h)) fun h => .inr (.inl h)) (fun w he hk => ?_) ?_
      · rw [hjl] at hk
        exact ⟨⟨v, rfl, slf_of (css := xs.map rcC) hk he (by decide)⟩, slO_lt (css := xs.map rcC) hk he⟩
      refine E_retc1 (i := 0) rfl rfl rfl rfl fun w hm => ?_
      exact hm.meets (S := copySp r) (v, Or1 F v) trivial [2] (by decide) rfl
end Go.Proofs.YtkcpakfcmincbaaDoor.eng

/- RexSz -/
namespace Go.Proofs.YtkcpakfcmincbaaDoor.rexL
open classL
def SzR (p0 : Nat) (x : Rx) (st : RS) : Prop := p0 ≤ st.p ∧ (st.e = 0 → sizeX x + 1 ≤ 200 * (st.p - p0)) ∧ (st.e ≠ 0 → sizeX x ≤ 200 * (st.p - p0) + 1)
section
variable {s : Txt}
theorem SzR.le {p0 : Nat} {x : Rx} {st : RS} (h : SzR p0 x st) : sizeX x ≤ 200 * (st.p - p0) + 1 := by
  by_cases e : st.e = 0
  · have := h.2.1 e; omega
  · exact h.2.2 e
theorem size_two (k : Int) (a b : Rx) : sizeX (twoX k a b) = sizeX a + sizeX b + 1 := by unfold twoX; simp [sizeX, sizesX]
theorem size_one (k : Int) (c : C4) : sizeX (.mk k c []) = 1 := by simp [sizeX, sizesX]
theorem size_star (a : Rx) : sizeX (.mk 6 C4.zero [a]) = sizeX a + 1 := by simp [sizeX, sizesX]
theorem size_plus (a : Rx) : sizeX (plusX a) ≤ sizeX a + 103 := by
  unfold plusX
  rw [size_two, size_star]
  split
  · omega
  · rw [size_one]; omega
theorem szr_two {k : Int} {p0 : Nat} {a b : Rx} {st st1 st2 : RS} (ha : SzR p0 a st) (h0 : st.e = 0) (h1 : st.p ≤ st1.p) (hb : SzR st1.p b st2) : SzR p0 (twoX k a b) st2 := by
  obtain ⟨a1, a2, a3⟩ := ha
  obtain ⟨b1, b2, b3⟩ := hb
  have a2 := a2 h0
  refine ⟨by omega, fun h => ?_, fun h => ?_⟩
  · have := b2 h; rw [size_two]; omega
  · have := b3 h; rw [size_two]; omega
theorem szr_up {p0 : Nat} {a b : Rx} {st : RS} (ha : SzR p0 a st) (h0 : st.e = 0) (h : sizeX b ≤ sizeX a + 103) : SzR p0 b st.up := by
  obtain ⟨a1, a2, a3⟩ := ha
  have a2 := a2 h0
  have e : st.up.p = st.p + 1 := rfl
  exact ⟨by omega, fun _ => by rw [e]; omega, fun h => absurd h0 h⟩
theorem szr_leaf {p0 : Nat} {st : RS} {k : Int} {c : C4} (h0 : p0 ≤ st.p) (h : st.e = 0 → p0 < st.p) : SzR p0 (.mk k c []) st :=
  ⟨h0, fun e => by have := h e; rw [size_one]; omega, fun _ => by rw [size_one]; omega⟩
def SzAt (s : Txt) (f : Nat) : Prop :=
  (∀ st R, altF s f st = some R → st.p ≤ s.length → st.e = 0 → SzR st.p R.1 R.2) ∧ (∀ p0 o st R, altL s f o st = some R → st.p ≤ s.length → SzR p0 o st → SzR p0 R.1 R.2) ∧
  (∀ st R, catF s f st = some R → st.p ≤ s.length → st.e = 0 → SzR st.p R.1 R.2) ∧ (∀ p0 o st R, catL s f o st = some R → st.p ≤ s.length → SzR p0 o st → SzR p0 R.1 R.2) ∧
  (∀ st R, repF s f st = some R → st.p ≤ s.length → st.e = 0 → SzR st.p R.1 R.2) ∧ (∀ p0 o st R, repL s f o st = some R → SzR p0 o st → SzR p0 R.1 R.2) ∧
  (∀ st R, atomF s f st = some R → st.p ≤ s.length → st.e = 0 → SzR st.p R.1 R.2) ∧ (∀ st R, brF s f st = some R → st.p < s.length → st.e = 0 → SzR st.p R.1 R.2)
theorem sz_at (s : Txt) : ∀ f, SzAt s f
  | 0 => ⟨fun _ _ h => by rw [altF] at h; (cases h), fun _ _ _ _ h => by rw [altL] at h; (cases h), fun _ _ h => by rw [catF] at h; (cases h), fun _ _ _ _ h => by rw [catL] at h; (cases h), fun _ _ h => by rw [repF] at h; (cases h), fun _ _ _ _ h => by rw [repL] at h; (cases h), fun _ _ h => by rw [atomF] at h; (cases h), fun _ _ h => by rw [brF] at h; (cases h)⟩
  | f + 1 => by
    obtain ⟨a1, a2, a3, a4, a5, a6, a7, a8⟩ := sz_at s f
    obtain ⟨b1, b2, b3, b4, b5, b6, b7, b8⟩ := goes_at s f
    refine ⟨fun st R h h0 he => ?_, fun p0 o st R h h0 ho => ?_, fun st R h h0 he => ?_, fun p0 o st R h h0 ho => ?_, fun st R h h0 he => ?_, fun p0 o st R h ho => ?_, fun st R h h0 he => ?_, fun st R h h0 he => ?_⟩
    · rw [altF] at h
      split at h
      · cases h
      · rename_i o st1 hc
        exact a2 _ _ _ _ h (b3 _ _ hc h0).le (a3 _ _ hc h0 he)
    · rw [altL] at h
      split at h
      · rename_i c
        have g0 := goes_up (isB_lt c).2.1
        split at h
        · cases h
        · rename_i o2 st2 hc
          exact a2 _ _ _ _ h (b3 _ _ hc g0.le).le (szr_two ho (isB_lt c).1 g0.ge (a3 _ _ hc g0.le (isB_lt c).1))
      · cases h; exact ho
    · rw [catF] at h
      split at h
      · cases h
      · rename_i o st1 hc
        exact a4 _ _ _ _ h (b5 _ _ hc h0).le (a5 _ _ hc h0 he)
    · rw [catL] at h
      split at h
      · cases h; exact ho
      · rename_i c
        have he : st.e = 0 := by
          unfold endsB at c
          simp only [Bool.or_eq_true, not_or, decide_eq_true_eq] at c
          simpa using c.1.1.1
        split at h
        · cases h
        · rename_i o2 st2 hc
          exact a4 _ _ _ _ h (b5 _ _ hc h0).le (szr_two ho he (Nat.le_refl _) (a5 _ _ hc h0 he))
    · rw [repF] at h
      split at h
      · cases h
      · rename_i o st1 hc
        exact a6 _ _ _ _ h (a7 _ _ hc h0 he)
    · rw [repL] at h
      split at h
      · cases h; exact ho
      · rename_i c
        have c : st.e = 0 := by simpa using c
        split at h
        · exact a6 _ _ _ _ h (szr_up ho c (by rw [size_star]; omega))
        · split at h
          · exact a6 _ _ _ _ h (szr_up ho c (size_plus o))
          · split at h
            · exact a6 _ _ _ _ h (szr_up ho c (by rw [size_two, size_one]; omega))
            · cases h; exact ho
    · rw [atomF] at h
      split at h
      · rename_i c; exact a8 _ _ h (isB_lt c).2.1 he
      · split at h
        · rename_i c
          have g0 := goes_up (isB_lt c).2.1
          split at h
          · cases h
            exact szr_leaf (by show st.p ≤ st.p + 1 + 1; omega) fun _ => by show st.p < st.p + 1 + 1; omega
          · split at h
            · cases h
            · rename_i c' st1 hc
              cases h
              have g1 : st.up.p ≤ st1.p := (class_goes hc g0.le).ge
              have e : st.up.p = st.p + 1 := rfl
              exact szr_leaf (by show st.p ≤ st1.p; omega) fun _ => by show st.p < st1.p; omega
        · split at h
          · cases h
            exact szr_leaf (by show st.p ≤ st.p + 1; omega) fun _ => by show st.p < st.p + 1; omega
          · cases h
            exact szr_leaf (char_goes h0).ge fun e => char_on h0 e
    · rw [brF] at h
      split at h
      · cases h
        refine szr_leaf (by show st.p ≤ (failS st 7).p; rw [(fail_p st 7).1]; exact Nat.le_refl _) fun e => ?_
        rw [show (Rx.mk 0 C4.zero [], failS st 7).2 = failS st 7 from rfl, fail_e he] at e; cases e
      · split at h
        · cases h
          exact szr_leaf (by show st.p ≤ st.p + 1 + 1; omega) fun _ => by show st.p < st.p + 1 + 1; omega
        · split at h
          · cases h
          · rename_i r st1 hc
            have g := a1 _ _ hc (by exact h0) he
            have hg := b1 _ _ hc (by exact h0)
            have e1 : ({ st.up with o := st.o + 1 } : RS).p = st.p + 1 := rfl
            rw [e1] at g
            obtain ⟨g1, g2, g3⟩ := g
            have hle : sizeX r ≤ 200 * (st1.p - (st.p + 1)) + 1 := SzR.le ⟨g1, g2, g3⟩
            cases h
            dsimp only at *
            split
            · refine ⟨?_, fun _ => ?_, fun _ => ?_⟩
              · show st.p ≤ st1.p + 1; omega
              · show sizeX r + 1 ≤ 200 * (st1.p + 1 - st.p); omega
              · show sizeX r ≤ 200 * (st1.p + 1 - st.p) + 1; omega
            · refine ⟨?_, fun _ => ?_, fun _ => ?_⟩
              · rw [(fail_p _ _).1]; show st.p ≤ st1.p; omega
              · rw [(fail_p _ _).1]; show sizeX r + 1 ≤ 200 * (st1.p - st.p); omega
              · rw [(fail_p _ _).1]; show sizeX r ≤ 200 * (st1.p - st.p) + 1; omega
end
end Go.Proofs.YtkcpakfcmincbaaDoor.rexL

/- RexO -/
namespace Go.Proofs.YtkcpakfcmincbaaDoor.eng
open Go.RowKit kit mix classL rexL classSets
def rxSp (g : Nat) (s : Txt) (R : Rx × RS) : Spec (Value × (Nat → Prop)) := ⟨fun _ => kit.okI64 R.1.kind, fun x => rexV R.1.kind R.1.cls x.1, fun x => [rkO x.2 x.1 R.1.kids, rdO g s R.2]⟩
abbrev rxB (g : Nat) (k : Int) (c : C4) (v : Value) : Own := blkO g (rexC k c v).toArray 27
/-- what holds of the reader's functions at so much fuel -/
structure RdAt (g : Nat) (s : Txt) (f : Nat) : Prop where
  alt : ∀ {st R w B}, altF s f st = some R → st.p ≤ s.length → st.e = 0 → st.o ≤ 30 → Mem B [rdO g s st] w → Calls Tryd.prog 12 #[.pointer (some ⟨g, 0, none⟩)] w (MeetsB (rxSp g s R) B)
  cat : ∀ {st R w B}, catF s f st = some R → st.p ≤ s.length → st.e = 0 → st.o ≤ 30 → Mem B [rdO g s st] w → Calls Tryd.prog 17 #[.pointer (some ⟨g, 0, none⟩)] w (MeetsB (rxSp g s R) B)
  rep : ∀ {st R w B}, repF s f st = some R → st.p ≤ s.length → st.e = 0 → st.o ≤ 30 → Mem B [rdO g s st] w → Calls Tryd.prog 22 #[.pointer (some ⟨g, 0, none⟩)] w (MeetsB (rxSp g s R) B)
  atom : ∀ {st R w B}, atomF s f st = some R → st.p ≤ s.length → st.e = 0 → st.o ≤ 30 → Mem B [rdO g s st] w → Calls Tryd.prog 31 #[.pointer (some ⟨g, 0, none⟩)] w (MeetsB (rxSp g s R) B)
  br : ∀ {st R w B}, brF s f st = some R → st.p < s.length → st.e = 0 → st.o ≤ 30 → Mem B [rdO g s st] w → Calls Tryd.prog 37 #[.pointer (some ⟨g, 0, none⟩)] w (MeetsB (rxSp g s R) B)
set_option maxRecDepth 100000 in
set_option maxHeartbeats 8000000 in
theorem rdAlt (g : Nat) (s : Txt) (hs : s.length ≤ 300) (N : Nat) (IH : ∀ f, f < N → RdAt g s f) {st0 : RS} {R : Rx × RS} {w : World} {B : Base} (h : altF s N st0 = some R) (hp : st0.p ≤ s.length) (he : st0.e = 0) (ho : st0.o ≤ 30) (hm : Mem B [rdO g s st0] w) :
    Calls Tryd.prog 12 #[.pointer (some ⟨g, 0, none⟩)] w (MeetsB (rxSp g s R) B) := by
  cases N with
  | zero => rw [altF] at h; cases h
  | succ N =>
  rw [altF] at h
  cases hc1 : catF s N st0 with
  | none => rw [hc1] at h; cases h
  | some X =>
  obtain ⟨o1, st1⟩ := X
  rw [hc1] at h
  dsimp only at h
  have hg1 := (goes_at s N).2.2.1 _ _ hc1 hp
  dsimp only at hg1
  refine enterB hm (args := [.pointer (some ⟨g, 0, none⟩)]) (n := 13) Tryd.func12 rfl rfl rfl ?_
  clear hm
  refine T_seq (T_region (TL_new rfl fun g2 => ?_))
  conv => arg 8; simp only [zA, zB, zC, zD, zE, zF, zG, zH, zI, rowS, ret, id_eq]
  repeat (first
    | refine qv rfl (qp rfl) rfl rfl ?_ | refine TL_nil ?_ | refine T_seq ?_ | refine T_region ?_ | refine qcT rfl ?_ | refine qcF rfl ?_ | refine T_skip ?_
    | refine T_exit ?_ | refine T_ret ?_ | refine T_block ?_ | refine E_then ?_ | refine E_thenX ?_ | refine E_thenR ?_ | refine E_blockN ?_
    | refine E_blockR ?_ | refine E_blockX ?_ | refine E_blockO rfl ?_)
  refine TL_callB [0] [1] (by decide) rfl rfl (he1 EntersC.en rfl rfl) (fun w hm hb => (IH N (by omega)).cat hc1 hp he ho hb) rfl rfl rfl ?_
  rintro ⟨v1, F1⟩ hok1
  conv => arg 8; simp only [zA, zB, zC, zD, zE, zF, zG, zH, zI, rowS, ret, id_eq, rxSp]
  conv => arg 7; simp only [rxSp]
  refine TL_know (i := 1) rfl (fun w h => rkO_form h) fun hv1 => ?_
  obtain ⟨b1, n1, c1, rfl⟩ := hv1
  refine TL_new rfl fun g3 => ?_
  conv => arg 8; simp only [zA, zB, zC, zD, zE, zF, zG, zH, zI, rowS, ret, id_eq]
  refine TL_storeB (i := 3) (cs' := (rexC o1.kind o1.cls (.slice b1 n1 c1)).toArray) rfl rfl rfl rfl rfl rfl ?_
  conv => arg 8; simp only [zA, zB, zC, zD, zE, zF, zG, zH, zI, rowS, ret, id_eq]
  repeat (first
    | refine qv rfl (qp rfl) rfl rfl ?_ | refine TL_nil ?_ | refine T_seq ?_ | refine T_region ?_ | refine qcT rfl ?_ | refine qcF rfl ?_ | refine T_skip ?_
    | refine T_exit ?_ | refine T_ret ?_ | refine T_block ?_ | refine E_then ?_ | refine E_thenX ?_ | refine E_thenR ?_ | refine E_blockN ?_
    | refine E_blockR ?_ | refine E_blockX ?_ | refine E_blockO rfl ?_)
  refine T_pick [0, 3, 1, 2] (by decide) rfl ?_
  refine T_loop (ι := Nat × Rx × RS × (Option Addr × Nat × Nat) × (Nat → Prop)) (fun (f, o, st, _, _) => altL s f o st = some R ∧ st.p ≤ s.length ∧ kit.okI64 o.kind ∧ f ≤ N ∧ st.o ≤ 30) (fun _ => [(0, .pointer (some ⟨g, 0, none⟩)), (2, .pointer (some ⟨g2, 0, none⟩)), (3, .pointer (some ⟨g3, 0, none⟩))])
    (fun (_, o, st, q, F) => [rxB g2 0 C4.zero (.slice none 0 0), rxB g3 o.kind o.cls (.slice q.1 q.2.1 q.2.2), rkO F (.slice q.1 q.2.1 q.2.2) o.kids, rdO g s st]) (fun (f, _, _, _, _) => f) (N, o1, st1, (b1, n1, c1), F1) ⟨h, hg1.le, hok1, Nat.le_refl _, (by have := hg1.o; omega)⟩ (by repeat' (first | exact True.intro | refine And.intro rfl ?_)) rfl ?_
  clear h hc1 hg1 hok1
  rintro ⟨f, o, st, ⟨b, n, c⟩, F⟩ ⟨i1, i2, hok, i4, i5⟩
  dsimp only at i1 i2 hok i4 i5 ⊢
  cases f with
  | zero => rw [altL] at i1; cases i1
  | succ f =>
  rw [altL] at i1
  repeat (first
    | refine qv rfl (qp rfl) rfl rfl ?_ | refine TL_nil ?_ | refine T_seq ?_ | refine T_region ?_ | refine qcT rfl ?_ | refine qcF rfl ?_ | refine T_skip ?_
    | refine T_exit ?_ | refine T_ret ?_ | refine T_block ?_ | refine E_then ?_ | refine E_thenX ?_ | refine E_thenR ?_ | refine E_blockN ?_
    | refine E_blockR ?_ | refine E_blockX ?_ | refine E_blockO rfl ?_)
  refine TL_callB [3] [0, 1, 2] (by decide) rfl rfl (he2 EntersC.en rfl rfl rfl) (fun w hm hb => rdTake_calls g s st 124 w _ (by omega) hb) rfl rfl rfl ?_
  intro _ _
  conv => arg 8; simp only [zA, zB, zC, zD, zE, zF, zG, zH, zI, rowS, ret, id_eq]
  have htk : takeS s st 124 = if isB s st 124 = true then st.up else st := rfl
  rw [htk]
  cases hb : isB s st 124 with
  | true =>
    rw [if_pos hb] at i1
    rw [if_pos rfl]
    have hlt := isB_lt hb
    have hple : st.up.p ≤ s.length := hlt.2.1
    have he2 : st.up.e = 0 := hlt.1
    have ho2 : st.up.o ≤ 30 := i5
    cases hc2 : catF s f st.up with
    | none => rw [hc2] at i1; cases i1
    | some X2 =>
        obtain ⟨o2, st2⟩ := X2
        rw [hc2] at i1
        dsimp only at i1
        repeat (first
          | refine qv rfl (qp rfl) rfl rfl ?_ | refine TL_nil ?_ | refine T_seq ?_ | refine T_region ?_ | refine qcT rfl ?_ | refine qcF rfl ?_ | refine T_skip ?_
          | refine T_exit ?_ | refine T_ret ?_ | refine T_block ?_ | refine E_then ?_ | refine E_thenX ?_ | refine E_thenR ?_ | refine E_blockN ?_
          | refine E_blockR ?_ | refine E_blockX ?_ | refine E_blockO rfl ?_)
        have hg2 : Goes s _ _ := (goes_at s f).2.2.1 _ _ hc2 hple
        refine T_ord ([]) (.calm 1 (.two 0 (.one 2 (.one 3 (.one 4 (.done)))) 2 (.one 0 (.one 3 (.one 4 (.done)))))) (sub_pick [] (by decide) rfl) (by kernel_rfl) (by kernel_rfl) (by intro c a d v w h; cases d <;> exact h) ?_
        repeat (first
          | ((first | refine TW_plain rfl rfl ?_ | refine TW_gmet rfl rfl rfl rfl ?_); first | refine TN_val (qp rfl) rfl rfl ?_) | refine TW_done ?_)
        refine TW_two rfl rfl ?_ ?_
        · refine TL_val (rr_loadB (i := 1) TyC.ty rfl rfl rfl) rfl rfl rfl (TW_on (sub_pick [] (by decide) rfl) ?_)
          refine TW_one rfl (TL_callB [3] [0, 1, 2] (by decide) rfl rfl (he1 EntersC.en rfl rfl) (fun w hm hb => (IH f (by omega)).cat hc2 hple he2 ho2 hb) rfl rfl rfl ?_)
          rintro ⟨v2, F2⟩ hok2
          conv => arg 8; simp only [zA, zB, zC, zD, zE, zF, zG, zH, zI, rowS, ret, id_eq, rxSp]
          conv => arg 7; simp only [rxSp]
          refine TL_know (i := 3) rfl (fun w h => rkO_form h) fun hv2 => ?_
          obtain ⟨b2, n2, c2, rfl⟩ := hv2
          refine TW_on (sub_pick [] (by decide) rfl) ?_
          refine TW_one rfl (TL_call (he3 EntersC.en rfl rfl rfl rfl) (fun w' hm => rexTwo_calls 5 o.kind o2.kind o.cls o2.cls b b2 n n2 c c2 w') rfl rfl rfl ?_)
          intro g11 _
          conv => arg 8; simp only [zA, zB, zC, zD, zE, zF, zG, zH, zI, rowS, ret, id_eq, twoS]
          conv => arg 7; simp only [twoS]
          refine TL_mk2 (i := 2) (j := 3) (q := 5) [0, 1, 4] (by decide) hok hok2 rfl rfl rfl rfl ?_
          conv => arg 8; simp only [zA, zB, zC, zD, zE, zF, zG, zH, zI, rowS, ret, id_eq, List.cons_append, List.nil_append]
          refine TW_on (sub_pick [] (by decide) rfl) ?_
          refine TW_one rfl (TL_storeB (i := 1) (cs' := (rexC 5 C4.zero (.slice (some ⟨g11, 0, none⟩) 2 2)).toArray) rfl rfl rfl rfl rfl rfl ?_)
          conv => arg 8; simp only [zA, zB, zC, zD, zE, zF, zG, zH, zI, rowS, ret, id_eq]
          refine TW_on (sub_pick [] (by decide) rfl) ?_
          repeat (first
            | ((first | refine TW_plain rfl rfl ?_ | refine TW_gmet rfl rfl rfl rfl ?_); first | refine TN_val (qp rfl) rfl rfl ?_) | refine TW_done ?_)
          repeat (first
            | refine qv rfl (qp rfl) rfl rfl ?_ | refine TL_nil ?_ | refine T_seq ?_ | refine T_region ?_ | refine qcT rfl ?_ | refine qcF rfl ?_ | refine T_skip ?_
            | refine T_exit ?_ | refine T_ret ?_ | refine T_block ?_ | refine E_then ?_ | refine E_thenX ?_ | refine E_thenR ?_ | refine E_blockN ?_
            | refine E_blockR ?_ | refine E_blockX ?_ | refine E_blockO rfl ?_)
          refine E_pick [0, 1, 3, 2] (by decide) rfl ?_
          exact E_round (f, twoX 5 o o2, st2, (some ⟨g11, 0, none⟩, 2, 2), fun k => (F k ∨ F2 k) ∨ k = g11) ⟨i1, hg2.le, (by show kit.okI64 5; unfold kit.okI64; omega), (by omega), (by have h : st2.o = _ := hg2.o; show st2.o ≤ 30; omega)⟩ (by show f < f + 1; omega) (by repeat' (first | exact True.intro | refine And.intro rfl ?_)) rfl
        · refine TL_callB [3] [0, 1, 2] (by decide) rfl rfl (he1 EntersC.en rfl rfl) (fun w hm hb => (IH f (by omega)).cat hc2 hple he2 ho2 hb) rfl rfl rfl ?_
          rintro ⟨v2, F2⟩ hok2
          conv => arg 8; simp only [zA, zB, zC, zD, zE, zF, zG, zH, zI, rowS, ret, id_eq, rxSp]
          conv => arg 7; simp only [rxSp]
          refine TL_know (i := 3) rfl (fun w h => rkO_form h) fun hv2 => ?_
          obtain ⟨b2, n2, c2, rfl⟩ := hv2
          refine TW_on (sub_pick [] (by decide) rfl) ?_
          refine TW_one rfl (TL_val (rr_loadB (i := 1) TyC.ty rfl rfl rfl) rfl rfl rfl (TW_on (sub_pick [] (by decide) rfl) ?_))
          refine TW_one rfl (TL_call (he3 EntersC.en rfl rfl rfl rfl) (fun w' hm => rexTwo_calls 5 o.kind o2.kind o.cls o2.cls b b2 n n2 c c2 w') rfl rfl rfl ?_)
          intro g11 _
          conv => arg 8; simp only [zA, zB, zC, zD, zE, zF, zG, zH, zI, rowS, ret, id_eq, twoS]
          conv => arg 7; simp only [twoS]
          refine TL_mk2 (i := 2) (j := 3) (q := 5) [0, 1, 4] (by decide) hok hok2 rfl rfl rfl rfl ?_
          conv => arg 8; simp only [zA, zB, zC, zD, zE, zF, zG, zH, zI, rowS, ret, id_eq, List.cons_append, List.nil_append]
          refine TW_on (sub_pick [] (by decide) rfl) ?_
          refine TW_one rfl (TL_storeB (i := 1) (cs' := (rexC 5 C4.zero (.slice (some ⟨g11, 0, none⟩) 2 2)).toArray) rfl rfl rfl rfl rfl rfl ?_)
          conv => arg 8; simp only [zA, zB, zC, zD, zE, zF, zG, zH, zI, rowS, ret, id_eq]
          refine TW_on (sub_pick [] (by decide) rfl) ?_
          repeat (first
            | ((first | refine TW_plain rfl rfl ?_ | refine TW_gmet rfl rfl rfl rfl ?_); first | refine TN_val (qp rfl) rfl rfl ?_) | refine TW_done ?_)
          repeat (first
            | refine qv rfl (qp rfl) rfl rfl ?_ | refine TL_nil ?_ | refine T_seq ?_ | refine T_region ?_ | refine qcT rfl ?_ | refine qcF rfl ?_ | refine T_skip ?_
            | refine T_exit ?_ | refine T_ret ?_ | refine T_block ?_ | refine E_then ?_ | refine E_thenX ?_ | refine E_thenR ?_ | refine E_blockN ?_
            | refine E_blockR ?_ | refine E_blockX ?_ | refine E_blockO rfl ?_)
          refine E_pick [0, 1, 3, 2] (by decide) rfl ?_
          exact E_round (f, twoX 5 o o2, st2, (some ⟨g11, 0, none⟩, 2, 2), fun k => (F k ∨ F2 k) ∨ k = g11) ⟨i1, hg2.le, (by show kit.okI64 5; unfold kit.okI64; omega), (by omega), (by have h : st2.o = _ := hg2.o; show st2.o ≤ 30; omega)⟩ (by show f < f + 1; omega) (by repeat' (first | exact True.intro | refine And.intro rfl ?_)) rfl
  | false =>
        rw [if_neg (by rw [hb]; decide)] at i1
        cases i1
        rw [if_neg (by decide)]
        repeat (first
          | refine qv rfl (qp rfl) rfl rfl ?_ | refine TL_nil ?_ | refine T_seq ?_ | refine T_region ?_ | refine qcT rfl ?_ | refine qcF rfl ?_ | refine T_skip ?_
          | refine T_exit ?_ | refine T_ret ?_ | refine T_block ?_ | refine E_then ?_ | refine E_thenX ?_ | refine E_thenR ?_ | refine E_blockN ?_
          | refine E_blockR ?_ | refine E_blockX ?_ | refine E_blockO rfl ?_ | refine qv rfl (rr_loadB (i := 1) TyC.ty rfl rfl rfl) rfl rfl ?_)
        refine TL_storeB (i := 0) (cs' := (rexC o.kind o.cls (.slice b n c)).toArray) rfl rfl rfl rfl rfl rfl ?_
        conv => arg 8; simp only [zA, zB, zC, zD, zE, zF, zG, zH, zI, rowS, ret, id_eq]
        repeat (first
          | refine qv rfl (qp rfl) rfl rfl ?_ | refine TL_nil ?_ | refine T_seq ?_ | refine T_region ?_ | refine qcT rfl ?_ | refine qcF rfl ?_ | refine T_skip ?_
          | refine T_exit ?_ | refine T_ret ?_ | refine T_block ?_ | refine E_then ?_ | refine E_thenX ?_ | refine E_thenR ?_ | refine E_blockN ?_
          | refine E_blockR ?_ | refine E_blockX ?_ | refine E_blockO rfl ?_)
        exact E_retc1 (i := 0) rfl rfl rfl rfl fun w hm => hm.meetsB (S := rxSp g s (o, st)) (.slice b n c, F) hok [2, 3] (by decide) rfl
set_option maxRecDepth 100000 in
set_option maxHeartbeats 8000000 in
theorem rdCat (g : Nat) (s : Txt) (hs : s.length ≤ 300) (N : Nat) (IH : ∀ f, f < N → RdAt g s f) {st0 : RS} {R : Rx × RS} {w : World} {B : Base} (h : catF s N st0 = some R) (hp : st0.p ≤ s.length) (he : st0.e = 0) (ho : st0.o ≤ 30) (hm : Mem B [rdO g s st0] w) :
    Calls Tryd.prog 17 #[.pointer (some ⟨g, 0, none⟩)] w (MeetsB (rxSp g s R) B) := by
  cases N with
  | zero => rw [catF] at h; cases h
  | succ N =>
  rw [catF] at h
  cases hc1 : repF s N st0 with
  | none => rw [hc1] at h; cases h
  | some X =>
  obtain ⟨o1, st1⟩ := X
  rw [hc1] at h
  dsimp only at h
  have hg1 := (goes_at s N).2.2.2.2.1 _ _ hc1 hp
  dsimp only at hg1
  refine enterB hm (args := [.pointer (some ⟨g, 0, none⟩)]) (n := 14) Tryd.func17 rfl rfl rfl ?_
  clear hm
  refine T_seq (T_region (TL_new rfl fun g2 => ?_))
  conv => arg 8; simp only [zA, zB, zC, zD, zE, zF, zG, zH, zI, rowS, ret, id_eq]
  repeat (first
    | refine qv rfl (qp rfl) rfl rfl ?_ | refine TL_nil ?_ | refine T_seq ?_ | refine T_region ?_ | refine qcT rfl ?_ | refine qcF rfl ?_ | refine T_skip ?_
    | refine T_exit ?_ | refine T_ret ?_ | refine T_block ?_ | refine E_then ?_ | refine E_thenX ?_ | refine E_thenR ?_ | refine E_blockN ?_
    | refine E_blockR ?_ | refine E_blockX ?_ | refine E_blockO rfl ?_ | refine qv rfl (rr_not rfl rfl) rfl rfl ?_)
  refine TL_callB [0] [1] (by decide) rfl rfl (he1 EntersC.en rfl rfl) (fun w hm hb => (IH N (by omega)).rep hc1 hp he ho hb) rfl rfl rfl ?_
  rintro ⟨v1, F1⟩ hok1
  conv => arg 8; simp only [zA, zB, zC, zD, zE, zF, zG, zH, zI, rowS, ret, id_eq, rxSp]
  conv => arg 7; simp only [rxSp]
  refine TL_know (i := 1) rfl (fun w h => rkO_form h) fun hv1 => ?_
  obtain ⟨b1, n1, c1, rfl⟩ := hv1
  refine TL_new rfl fun g3 => ?_
  conv => arg 8; simp only [zA, zB, zC, zD, zE, zF, zG, zH, zI, rowS, ret, id_eq]
  refine TL_storeB (i := 3) (cs' := (rexC o1.kind o1.cls (.slice b1 n1 c1)).toArray) rfl rfl rfl rfl rfl rfl ?_
  conv => arg 8; simp only [zA, zB, zC, zD, zE, zF, zG, zH, zI, rowS, ret, id_eq]
  repeat (first
    | refine qv rfl (qp rfl) rfl rfl ?_ | refine TL_nil ?_ | refine T_seq ?_ | refine T_region ?_ | refine qcT rfl ?_ | refine qcF rfl ?_ | refine T_skip ?_
    | refine T_exit ?_ | refine T_ret ?_ | refine T_block ?_ | refine E_then ?_ | refine E_thenX ?_ | refine E_thenR ?_ | refine E_blockN ?_
    | refine E_blockR ?_ | refine E_blockX ?_ | refine E_blockO rfl ?_ | refine qv rfl (rr_not rfl rfl) rfl rfl ?_)
  refine T_pick [0, 3, 1, 2] (by decide) rfl ?_
  refine T_loop (ι := Nat × Rx × RS × (Option Addr × Nat × Nat) × (Nat → Prop)) (fun (f, o, st, _, _) => catL s f o st = some R ∧ st.p ≤ s.length ∧ kit.okI64 o.kind ∧ f ≤ N ∧ st.o ≤ 30) (fun _ => [(0, .pointer (some ⟨g, 0, none⟩)), (2, .pointer (some ⟨g2, 0, none⟩)), (3, .pointer (some ⟨g3, 0, none⟩))])
    (fun (_, o, st, q, F) => [rxB g2 0 C4.zero (.slice none 0 0), rxB g3 o.kind o.cls (.slice q.1 q.2.1 q.2.2), rkO F (.slice q.1 q.2.1 q.2.2) o.kids, rdO g s st]) (fun (f, _, _, _, _) => f) (N, o1, st1, (b1, n1, c1), F1) ⟨h, hg1.le, hok1, Nat.le_refl _, (by have := hg1.o; omega)⟩ (by repeat' (first | exact True.intro | refine And.intro rfl ?_)) rfl ?_
  clear h hc1 hg1 hok1
  rintro ⟨f, o, st, ⟨b, n, c⟩, F⟩ ⟨i1, i2, hok, i4, i5⟩
  dsimp only at i1 i2 hok i4 i5 ⊢
  cases f with
  | zero => rw [catL] at i1; cases i1
  | succ f =>
  rw [catL] at i1
  repeat (first
    | refine qv rfl (qp rfl) rfl rfl ?_ | refine TL_nil ?_ | refine T_seq ?_ | refine T_region ?_ | refine qcT rfl ?_ | refine qcF rfl ?_ | refine T_skip ?_
    | refine T_exit ?_ | refine T_ret ?_ | refine T_block ?_ | refine E_then ?_ | refine E_thenX ?_ | refine E_thenR ?_ | refine E_blockN ?_
    | refine E_blockR ?_ | refine E_blockX ?_ | refine E_blockO rfl ?_ | refine qv rfl (rr_not rfl rfl) rfl rfl ?_)
  refine TL_call (he1 EntersC.en rfl rfl) (fun w hm => rdEnds_calls g s st w i2 (hm.get (i := 3) rfl)) rfl rfl rfl ?_
  intro _ _
  conv => arg 8; simp only [zA, zB, zC, zD, zE, zF, zG, zH, zI, rowS, ret, id_eq]
  cases hb : endsB s st with
  | false =>
    rw [if_neg (by rw [hb]; decide)] at i1
    have he2 : st.e = 0 := by
      unfold endsB at hb
      simp only [Bool.or_eq_false_iff, decide_eq_false_iff_not] at hb
      simpa using hb.1.1.1
    have hple : st.p ≤ s.length := i2
    have ho2 : st.o ≤ 30 := i5
    cases hc2 : repF s f st with
    | none => rw [hc2] at i1; cases i1
    | some X2 =>
        obtain ⟨o2, st2⟩ := X2
        rw [hc2] at i1
        dsimp only at i1
        repeat (first
          | refine qv rfl (qp rfl) rfl rfl ?_ | refine TL_nil ?_ | refine T_seq ?_ | refine T_region ?_ | refine qcT rfl ?_ | refine qcF rfl ?_ | refine T_skip ?_
          | refine T_exit ?_ | refine T_ret ?_ | refine T_block ?_ | refine E_then ?_ | refine E_thenX ?_ | refine E_thenR ?_ | refine E_blockN ?_
          | refine E_blockR ?_ | refine E_blockX ?_ | refine E_blockO rfl ?_ | refine qv rfl (rr_not rfl rfl) rfl rfl ?_)
        have hg2 : Goes s _ _ := (goes_at s f).2.2.2.2.1 _ _ hc2 hple
        refine T_ord ([]) (.calm 1 (.two 0 (.one 2 (.one 3 (.one 4 (.done)))) 2 (.one 0 (.one 3 (.one 4 (.done)))))) (sub_pick [] (by decide) rfl) (by kernel_rfl) (by kernel_rfl) (by intro c a d v w h; cases d <;> exact h) ?_
        repeat (first
          | ((first | refine TW_plain rfl rfl ?_ | refine TW_gmet rfl rfl rfl rfl ?_); first | refine TN_val (qp rfl) rfl rfl ?_ | refine TN_val (rr_not rfl rfl) rfl rfl ?_)
          | refine TW_done ?_)
        refine TW_two rfl rfl ?_ ?_
        · refine TL_val (rr_loadB (i := 1) TyC.ty rfl rfl rfl) rfl rfl rfl (TW_on (sub_pick [] (by decide) rfl) ?_)
          refine TW_one rfl (TL_callB [3] [0, 1, 2] (by decide) rfl rfl (he1 EntersC.en rfl rfl) (fun w hm hb => (IH f (by omega)).rep hc2 hple he2 ho2 hb) rfl rfl rfl ?_)
          rintro ⟨v2, F2⟩ hok2
          conv => arg 8; simp only [zA, zB, zC, zD, zE, zF, zG, zH, zI, rowS, ret, id_eq, rxSp]
          conv => arg 7; simp only [rxSp]
          refine TL_know (i := 3) rfl (fun w h => rkO_form h) fun hv2 => ?_
          obtain ⟨b2, n2, c2, rfl⟩ := hv2
          refine TW_on (sub_pick [] (by decide) rfl) ?_
          refine TW_one rfl (TL_call (he3 EntersC.en rfl rfl rfl rfl) (fun w' hm => rexTwo_calls 4 o.kind o2.kind o.cls o2.cls b b2 n n2 c c2 w') rfl rfl rfl ?_)
          intro g11 _
          conv => arg 8; simp only [zA, zB, zC, zD, zE, zF, zG, zH, zI, rowS, ret, id_eq, twoS]
          conv => arg 7; simp only [twoS]
          refine TL_mk2 (i := 2) (j := 3) (q := 5) [0, 1, 4] (by decide) hok hok2 rfl rfl rfl rfl ?_
          conv => arg 8; simp only [zA, zB, zC, zD, zE, zF, zG, zH, zI, rowS, ret, id_eq, List.cons_append, List.nil_append]
          refine TW_on (sub_pick [] (by decide) rfl) ?_
          refine TW_one rfl (TL_storeB (i := 1) (cs' := (rexC 4 C4.zero (.slice (some ⟨g11, 0, none⟩) 2 2)).toArray) rfl rfl rfl rfl rfl rfl ?_)
          conv => arg 8; simp only [zA, zB, zC, zD, zE, zF, zG, zH, zI, rowS, ret, id_eq]
          refine TW_on (sub_pick [] (by decide) rfl) ?_
          repeat (first
            | ((first | refine TW_plain rfl rfl ?_ | refine TW_gmet rfl rfl rfl rfl ?_); first | refine TN_val (qp rfl) rfl rfl ?_ | refine TN_val (rr_not rfl rfl) rfl rfl ?_)
            | refine TW_done ?_)
          repeat (first
            | refine qv rfl (qp rfl) rfl rfl ?_ | refine TL_nil ?_ | refine T_seq ?_ | refine T_region ?_ | refine qcT rfl ?_ | refine qcF rfl ?_ | refine T_skip ?_
            | refine T_exit ?_ | refine T_ret ?_ | refine T_block ?_ | refine E_then ?_ | refine E_thenX ?_ | refine E_thenR ?_ | refine E_blockN ?_
            | refine E_blockR ?_ | refine E_blockX ?_ | refine E_blockO rfl ?_ | refine qv rfl (rr_not rfl rfl) rfl rfl ?_)
          refine E_pick [0, 1, 3, 2] (by decide) rfl ?_
          exact E_round (f, twoX 4 o o2, st2, (some ⟨g11, 0, none⟩, 2, 2), fun k => (F k ∨ F2 k) ∨ k = g11) ⟨i1, hg2.le, (by show kit.okI64 4; unfold kit.okI64; omega), (by omega), (by have h : st2.o = _ := hg2.o; show st2.o ≤ 30; omega)⟩ (by show f < f + 1; omega) (by repeat' (first | exact True.intro | refine And.intro rfl ?_)) rfl
        · refine TL_callB [3] [0, 1, 2] (by decide) rfl rfl (he1 EntersC.en rfl rfl) (fun w hm hb => (IH f (by omega)).rep hc2 hple he2 ho2 hb) rfl rfl rfl ?_
          rintro ⟨v2, F2⟩ hok2
          conv => arg 8; simp only [zA, zB, zC, zD, zE, zF, zG, zH, zI, rowS, ret, id_eq, rxSp]
          conv => arg 7; simp only [rxSp]
          refine TL_know (i := 3) rfl (fun w h => rkO_form h) fun hv2 => ?_
          obtain ⟨b2, n2, c2, rfl⟩ := hv2
          refine TW_on (sub_pick [] (by decide) rfl) ?_
          refine TW_one rfl (TL_val (rr_loadB (i := 1) TyC.ty rfl rfl rfl) rfl rfl rfl (TW_on (sub_pick [] (by decide) rfl) ?_))
          refine TW_one rfl (TL_call (he3 EntersC.en rfl rfl rfl rfl) (fun w' hm => rexTwo_calls 4 o.kind o2.kind o.cls o2.cls b b2 n n2 c c2 w') rfl rfl rfl ?_)
          intro g11 _
          conv => arg 8; simp only [zA, zB, zC, zD, zE, zF, zG, zH, zI, rowS, ret, id_eq, twoS]
          conv => arg 7; simp only [twoS]
          refine TL_mk2 (i := 2) (j := 3) (q := 5) [0, 1, 4] (by decide) hok hok2 rfl rfl rfl rfl ?_
          conv => arg 8; simp only [zA, zB, zC, zD, zE, zF, zG, zH, zI, rowS, ret, id_eq, List.cons_append, List.nil_append]
          refine TW_on (sub_pick [] (by decide) rfl) ?_
          refine TW_one rfl (TL_storeB (i := 1) (cs' := (rexC 4 C4.zero (.slice (some ⟨g11, 0, none⟩) 2 2)).toArray) rfl rfl rfl rfl rfl rfl ?_)
          conv => arg 8; simp only [zA, zB, zC, zD, zE, zF, zG, zH, zI, rowS, ret, id_eq]
          refine TW_on (sub_pick [] (by decide) rfl) ?_
          repeat (first
            | ((first | refine TW_plain rfl rfl ?_ | refine TW_gmet rfl rfl rfl rfl ?_); first | refine TN_val (qp rfl) rfl rfl ?_ | refine TN_val (rr_not rfl rfl) rfl rfl ?_)
            | refine TW_done ?_)
          repeat (first
            | refine qv rfl (qp rfl) rfl rfl ?_ | refine TL_nil ?_ | refine T_seq ?_ | refine T_region ?_ | refine qcT rfl ?_ | refine qcF rfl ?_ | refine T_skip ?_
            | refine T_exit ?_ | refine T_ret ?_ | refine T_block ?_ | refine E_then ?_ | refine E_thenX ?_ | refine E_thenR ?_ | refine E_blockN ?_
            | refine E_blockR ?_ | refine E_blockX ?_ | refine E_blockO rfl ?_ | refine qv rfl (rr_not rfl rfl) rfl rfl ?_)
          refine E_pick [0, 1, 3, 2] (by decide) rfl ?_
          exact E_round (f, twoX 4 o o2, st2, (some ⟨g11, 0, none⟩, 2, 2), fun k => (F k ∨ F2 k) ∨ k = g11) ⟨i1, hg2.le, (by show kit.okI64 4; unfold kit.okI64; omega), (by omega), (by have h : st2.o = _ := hg2.o; show st2.o ≤ 30; omega)⟩ (by show f < f + 1; omega) (by repeat' (first | exact True.intro | refine And.intro rfl ?_)) rfl
  | true =>
        rw [if_pos hb] at i1
        cases i1
        repeat (first
          | refine qv rfl (qp rfl) rfl rfl ?_ | refine TL_nil ?_ | refine T_seq ?_ | refine T_region ?_ | refine qcT rfl ?_ | refine qcF rfl ?_ | refine T_skip ?_
          | refine T_exit ?_ | refine T_ret ?_ | refine T_block ?_ | refine E_then ?_ | refine E_thenX ?_ | refine E_thenR ?_ | refine E_blockN ?_
          | refine E_blockR ?_ | refine E_blockX ?_ | refine E_blockO rfl ?_ | refine qv rfl (rr_loadB (i := 1) TyC.ty rfl rfl rfl) rfl rfl ?_
          | refine qv rfl (rr_not rfl rfl) rfl rfl ?_)
        refine TL_storeB (i := 0) (cs' := (rexC o.kind o.cls (.slice b n c)).toArray) rfl rfl rfl rfl rfl rfl ?_
        conv => arg 8; simp only [zA, zB, zC, zD, zE, zF, zG, zH, zI, rowS, ret, id_eq]
        repeat (first
          | refine qv rfl (qp rfl) rfl rfl ?_ | refine TL_nil ?_ | refine T_seq ?_ | refine T_region ?_ | refine qcT rfl ?_ | refine qcF rfl ?_ | refine T_skip ?_
          | refine T_exit ?_ | refine T_ret ?_ | refine T_block ?_ | refine E_then ?_ | refine E_thenX ?_ | refine E_thenR ?_ | refine E_blockN ?_
          | refine E_blockR ?_ | refine E_blockX ?_ | refine E_blockO rfl ?_ | refine qv rfl (rr_not rfl rfl) rfl rfl ?_)
        exact E_retc1 (i := 0) rfl rfl rfl rfl fun w hm => hm.meetsB (S := rxSp g s (o, st)) (.slice b n c, F) hok [2, 3] (by decide) rfl
end Go.Proofs.YtkcpakfcmincbaaDoor.eng

/- RexO2 -/
namespace Go.Proofs.YtkcpakfcmincbaaDoor.eng
open Go.RowKit kit mix classL rexL classSets
set_option maxRecDepth 100000 in
set_option maxHeartbeats 8000000 in
theorem rdRep (g : Nat) (s : Txt) (hs : s.length ≤ 300) (N : Nat) (IH : ∀ f, f < N → RdAt g s f) {st0 : RS} {R : Rx × RS} {w : World} {B : Base} (h : repF s N st0 = some R) (hp : st0.p ≤ s.length) (he : st0.e = 0) (ho : st0.o ≤ 30) (hm : Mem B [rdO g s st0] w) :
    Calls Tryd.prog 22 #[.pointer (some ⟨g, 0, none⟩)] w (MeetsB (rxSp g s R) B) := by
  cases N with
  | zero => rw [repF] at h; cases h
  | succ N =>
  rw [repF] at h
  cases hc1 : atomF s N st0 with
  | none => rw [hc1] at h; cases h
  | some X =>
  obtain ⟨o1, st1⟩ := X
  rw [hc1] at h
  dsimp only at h
  have hg1 := (goes_at s N).2.2.2.2.2.2.1 _ _ hc1 hp
  dsimp only at hg1
  have hsz1 := (sz_at s N).2.2.2.2.2.2.1 _ _ hc1 hp he
  refine enterB hm (args := [.pointer (some ⟨g, 0, none⟩)]) (n := 40) Tryd.func22 rfl rfl rfl ?_
  clear hm
  refine T_seq (T_region (TL_new rfl fun g2 => ?_))
  conv => arg 8; simp only [zA, zB, zC, zD, zE, zF, zG, zH, zI, rowS, ret, id_eq]
  repeat (first
    | refine qv rfl (qp rfl) rfl rfl ?_ | refine TL_nil ?_ | refine T_seq ?_ | refine T_region ?_ | refine qcT rfl ?_ | refine qcF rfl ?_ | refine T_skip ?_
    | refine T_exit ?_ | refine T_ret ?_ | refine T_block ?_ | refine E_then ?_ | refine E_thenX ?_ | refine E_thenR ?_ | refine E_blockN ?_
    | refine E_blockR ?_ | refine E_blockX ?_ | refine E_blockO rfl ?_ | refine qv rfl (qfld FldC.fld rfl rfl) rfl rfl ?_
    | refine qv rfl (rr_nilc rfl) rfl rfl ?_ | refine qv rfl (rr_leq rfl rfl (qT (by omega))) rfl rfl ?_
    | refine qv rfl (rr_leq rfl rfl (qF (by omega))) rfl rfl ?_ | refine qv rfl (rr_eql rfl rfl (qT (by omega))) rfl rfl ?_
    | refine qv rfl (rr_eql rfl rfl (qF (by omega))) rfl rfl ?_)
  refine TL_callB [0] [1] (by decide) rfl rfl (he1 EntersC.en rfl rfl) (fun w hm hb => (IH N (by omega)).atom hc1 hp he ho hb) rfl rfl rfl ?_
  rintro ⟨v1, F1⟩ hok1
  conv => arg 8; simp only [zA, zB, zC, zD, zE, zF, zG, zH, zI, rowS, ret, id_eq, rxSp]
  conv => arg 7; simp only [rxSp]
  refine TL_know (i := 1) rfl (fun w h => rkO_form h) fun hv1 => ?_
  obtain ⟨b1, n1, c1, rfl⟩ := hv1
  refine TL_new rfl fun g3 => ?_
  conv => arg 8; simp only [zA, zB, zC, zD, zE, zF, zG, zH, zI, rowS, ret, id_eq]
  refine TL_storeB (i := 3) (cs' := (rexC o1.kind o1.cls (.slice b1 n1 c1)).toArray) rfl rfl rfl rfl rfl rfl ?_
  conv => arg 8; simp only [zA, zB, zC, zD, zE, zF, zG, zH, zI, rowS, ret, id_eq]
  repeat (first
    | refine qv rfl (qp rfl) rfl rfl ?_ | refine TL_nil ?_ | refine T_seq ?_ | refine T_region ?_ | refine qcT rfl ?_ | refine qcF rfl ?_ | refine T_skip ?_
    | refine T_exit ?_ | refine T_ret ?_ | refine T_block ?_ | refine E_then ?_ | refine E_thenX ?_ | refine E_thenR ?_ | refine E_blockN ?_
    | refine E_blockR ?_ | refine E_blockX ?_ | refine E_blockO rfl ?_ | refine qv rfl (qfld FldC.fld rfl rfl) rfl rfl ?_
    | refine qv rfl (rr_nilc rfl) rfl rfl ?_ | refine qv rfl (rr_leq rfl rfl (qT (by omega))) rfl rfl ?_
    | refine qv rfl (rr_leq rfl rfl (qF (by omega))) rfl rfl ?_ | refine qv rfl (rr_eql rfl rfl (qT (by omega))) rfl rfl ?_
    | refine qv rfl (rr_eql rfl rfl (qF (by omega))) rfl rfl ?_)
  refine T_pick [0, 3, 1, 2] (by decide) rfl ?_
  refine T_loop (ι := Nat × Rx × RS × (Option Addr × Nat × Nat) × (Nat → Prop)) (fun (f, o, st, _, _) => repL s f o st = some R ∧ st.p ≤ s.length ∧ kit.okI64 o.kind ∧ sizeX o ≤ 200 * st.p + 1) (fun _ => [(0, .pointer (some ⟨g, 0, none⟩)), (2, .pointer (some ⟨g2, 0, none⟩)), (3, .pointer (some ⟨g3, 0, none⟩))])
    (fun (_, o, st, q, F) => [rxB g2 0 C4.zero (.slice none 0 0), rxB g3 o.kind o.cls (.slice q.1 q.2.1 q.2.2), rkO F (.slice q.1 q.2.1 q.2.2) o.kids, rdO g s st]) (fun (f, _, _, _, _) => f) (N, o1, st1, (b1, n1, c1), F1) ⟨h, hg1.le, hok1, (by have := hsz1.le; dsimp only at this ⊢; omega)⟩ (by repeat' (first | exact True.intro | refine And.intro rfl ?_)) rfl ?_
  clear h hc1 hg1 hok1 hsz1
  rintro ⟨f, o, st, ⟨b, n, c⟩, F⟩ ⟨i1, i2, hok, i4⟩
  dsimp only at i1 i2 hok i4 ⊢
  cases f with
  | zero => rw [repL] at i1; cases i1
  | succ f =>
  rw [repL] at i1
  by_cases c0 : st.e = 0
  · rw [if_neg (by simpa using c0)] at i1
    repeat (first
      | refine qv rfl (qp rfl) rfl rfl ?_ | refine TL_nil ?_ | refine T_seq ?_ | refine T_region ?_ | refine qcT rfl ?_ | refine qcF rfl ?_ | refine T_skip ?_
      | refine T_exit ?_ | refine T_ret ?_ | refine T_block ?_ | refine E_then ?_ | refine E_thenX ?_ | refine E_thenR ?_ | refine E_blockN ?_
      | refine E_blockR ?_ | refine E_blockX ?_ | refine E_blockO rfl ?_ | refine qv rfl (rr_nilc rfl) rfl rfl ?_
      | refine qv rfl (rr_load1 (v := .int .i64 st.e) TyC.ty rfl (at_blk (i := 3) rfl rfl)) rfl rfl ?_
      | refine qv rfl (rr_eql (b := true) rfl rfl (decide_eq_true c0)) rfl rfl ?_ | refine qv rfl (qfld FldC.fld rfl rfl) rfl rfl ?_
      | refine qv rfl (rr_nilc rfl) rfl rfl ?_ | refine qv rfl (rr_leq rfl rfl (qT (by omega))) rfl rfl ?_
      | refine qv rfl (rr_leq rfl rfl (qF (by omega))) rfl rfl ?_ | refine qv rfl (rr_eql rfl rfl (qT (by omega))) rfl rfl ?_
      | refine qv rfl (rr_eql rfl rfl (qF (by omega))) rfl rfl ?_)
    refine TL_callB [3] [0, 1, 2] (by decide) rfl rfl (he2 EntersC.en rfl rfl rfl) (fun w hm hb => rdTake_calls g s st 42 w _ (by omega) hb) rfl rfl rfl ?_
    intro _ _
    conv => arg 8; simp only [zA, zB, zC, zD, zE, zF, zG, zH, zI, rowS, ret, id_eq]
    rw [show takeS s st 42 = if isB s st 42 = true then st.up else st from rfl]
    cases h42 : isB s st 42 with
    | true =>
      rw [if_pos h42] at i1
      rw [if_pos rfl]
      have hup : st.up.p ≤ s.length := (isB_lt h42).2.1
      repeat (first
        | refine qv rfl (qp rfl) rfl rfl ?_ | refine TL_nil ?_ | refine T_seq ?_ | refine T_region ?_ | refine qcT rfl ?_ | refine qcF rfl ?_ | refine T_skip ?_
        | refine T_exit ?_ | refine T_ret ?_ | refine T_block ?_ | refine E_then ?_ | refine E_thenX ?_ | refine E_thenR ?_ | refine E_blockN ?_
        | refine E_blockR ?_ | refine E_blockX ?_ | refine E_blockO rfl ?_ | refine qv rfl (rr_loadB (i := 1) TyC.ty rfl rfl rfl) rfl rfl ?_
        | refine qv rfl (qfld FldC.fld rfl rfl) rfl rfl ?_ | refine qv rfl (rr_nilc rfl) rfl rfl ?_ | refine qv rfl (rr_leq rfl rfl (qT (by omega))) rfl rfl ?_
        | refine qv rfl (rr_leq rfl rfl (qF (by omega))) rfl rfl ?_ | refine qv rfl (rr_eql rfl rfl (qT (by omega))) rfl rfl ?_
        | refine qv rfl (rr_eql rfl rfl (qF (by omega))) rfl rfl ?_)
      refine TL_one (cs := [rexC o.kind o.cls (.slice b n c)].flatten.toArray) rfl rfl rfl rfl rfl fun gA => ?_
      conv => arg 8; simp only [zA, zB, zC, zD, zE, zF, zG, zH, zI, rowS, ret, id_eq]
      repeat (first
        | refine qv rfl (qp rfl) rfl rfl ?_ | refine TL_nil ?_ | refine T_seq ?_ | refine T_region ?_ | refine qcT rfl ?_ | refine qcF rfl ?_ | refine T_skip ?_
        | refine T_exit ?_ | refine T_ret ?_ | refine T_block ?_ | refine E_then ?_ | refine E_thenX ?_ | refine E_thenR ?_ | refine E_blockN ?_
        | refine E_blockR ?_ | refine E_blockX ?_ | refine E_blockO rfl ?_ | refine qv rfl (rr_build rfl (build_rexN 6 gA 1)) rfl rfl ?_
        | refine qv rfl (qfld FldC.fld rfl rfl) rfl rfl ?_ | refine qv rfl (rr_nilc rfl) rfl rfl ?_ | refine qv rfl (rr_leq rfl rfl (qT (by omega))) rfl rfl ?_
        | refine qv rfl (rr_leq rfl rfl (qF (by omega))) rfl rfl ?_ | refine qv rfl (rr_eql rfl rfl (qT (by omega))) rfl rfl ?_
        | refine qv rfl (rr_eql rfl rfl (qF (by omega))) rfl rfl ?_)
      refine TL_mk1 (i := 2) (q := 4) (a := o) [0, 1, 3] (by decide) hok rfl rfl rfl ?_
      conv => arg 8; simp only [zA, zB, zC, zD, zE, zF, zG, zH, zI, rowS, ret, id_eq, List.cons_append, List.nil_append]
      refine TL_storeB (i := 1) (cs' := (rexC 6 C4.zero (.slice (some ⟨gA, 0, none⟩) 1 1)).toArray) rfl rfl rfl rfl rfl rfl ?_
      conv => arg 8; simp only [zA, zB, zC, zD, zE, zF, zG, zH, zI, rowS, ret, id_eq]
      repeat (first
        | refine qv rfl (qp rfl) rfl rfl ?_ | refine TL_nil ?_ | refine T_seq ?_ | refine T_region ?_ | refine qcT rfl ?_ | refine qcF rfl ?_ | refine T_skip ?_
        | refine T_exit ?_ | refine T_ret ?_ | refine T_block ?_ | refine E_then ?_ | refine E_thenX ?_ | refine E_thenR ?_ | refine E_blockN ?_
        | refine E_blockR ?_ | refine E_blockX ?_ | refine E_blockO rfl ?_ | refine qv rfl (qfld FldC.fld rfl rfl) rfl rfl ?_
        | refine qv rfl (rr_nilc rfl) rfl rfl ?_ | refine qv rfl (rr_leq rfl rfl (qT (by omega))) rfl rfl ?_
        | refine qv rfl (rr_leq rfl rfl (qF (by omega))) rfl rfl ?_ | refine qv rfl (rr_eql rfl rfl (qT (by omega))) rfl rfl ?_
        | refine qv rfl (rr_eql rfl rfl (qF (by omega))) rfl rfl ?_)
      refine E_pick [0, 1, 3, 2] (by decide) rfl ?_
      exact E_round (f, .mk 6 C4.zero [o], st.up, (some ⟨gA, 0, none⟩, 1, 1), fun k => F k ∨ k = gA) ⟨i1, hup, (by show kit.okI64 6; unfold kit.okI64; omega), (by rw [size_star]; show sizeX o + 1 ≤ 200 * (st.p + 1) + 1; omega)⟩ (by show f < f + 1; omega) (by repeat' (first | exact True.intro | refine And.intro rfl ?_)) rfl
    | false =>
      rw [if_neg (by rw [h42]; decide)] at i1
      rw [if_neg (by decide)]
      repeat (first
        | refine qv rfl (qp rfl) rfl rfl ?_ | refine TL_nil ?_ | refine T_seq ?_ | refine T_region ?_ | refine qcT rfl ?_ | refine qcF rfl ?_ | refine T_skip ?_
        | refine T_exit ?_ | refine T_ret ?_ | refine T_block ?_ | refine E_then ?_ | refine E_thenX ?_ | refine E_thenR ?_ | refine E_blockN ?_
        | refine E_blockR ?_ | refine E_blockX ?_ | refine E_blockO rfl ?_ | refine qv rfl (qfld FldC.fld rfl rfl) rfl rfl ?_
        | refine qv rfl (rr_nilc rfl) rfl rfl ?_ | refine qv rfl (rr_leq rfl rfl (qT (by omega))) rfl rfl ?_
        | refine qv rfl (rr_leq rfl rfl (qF (by omega))) rfl rfl ?_ | refine qv rfl (rr_eql rfl rfl (qT (by omega))) rfl rfl ?_
        | refine qv rfl (rr_eql rfl rfl (qF (by omega))) rfl rfl ?_)
      refine TL_callB [3] [0, 1, 2] (by decide) rfl rfl (he2 EntersC.en rfl rfl rfl) (fun w hm hb => rdTake_calls g s st 43 w _ (by omega) hb) rfl rfl rfl ?_
      intro _ _
      conv => arg 8; simp only [zA, zB, zC, zD, zE, zF, zG, zH, zI, rowS, ret, id_eq]
      rw [show takeS s st 43 = if isB s st 43 = true then st.up else st from rfl]
      cases h43 : isB s st 43 with
      | true =>
        rw [if_pos h43] at i1
        rw [if_pos rfl]
        have hup : st.up.p ≤ s.length := (isB_lt h43).2.1
        have hszc := fun w' (h : RexR (Low w') w' (rexV o.kind o.cls (.slice b n c)) o) => rexSize_calls (sizeX o) o (Nat.le_refl _) _ w' (by omega) h
        repeat (first
          | refine qv rfl (qp rfl) rfl rfl ?_ | refine TL_nil ?_ | refine T_seq ?_ | refine T_region ?_ | refine qcT rfl ?_ | refine qcF rfl ?_ | refine T_skip ?_
          | refine T_exit ?_ | refine T_ret ?_ | refine T_block ?_ | refine E_then ?_ | refine E_thenX ?_ | refine E_thenR ?_ | refine E_blockN ?_
          | refine E_blockR ?_ | refine E_blockX ?_ | refine E_blockO rfl ?_ | refine qv rfl (rr_build rfl (build_rexK 2)) rfl rfl ?_
          | refine qv rfl (qfld FldC.fld rfl rfl) rfl rfl ?_ | refine qv rfl (rr_nilc rfl) rfl rfl ?_ | refine qv rfl (rr_leq rfl rfl (qT (by omega))) rfl rfl ?_
          | refine qv rfl (rr_leq rfl rfl (qF (by omega))) rfl rfl ?_ | refine qv rfl (rr_eql rfl rfl (qT (by omega))) rfl rfl ?_
          | refine qv rfl (rr_eql rfl rfl (qF (by omega))) rfl rfl ?_)
        refine TL_new rfl fun g4 => ?_
        conv => arg 8; simp only [zA, zB, zC, zD, zE, zF, zG, zH, zI, rowS, ret, id_eq]
        refine TL_storeB (i := 4) (cs' := (rexC 2 C4.zero (.slice none 0 0)).toArray) rfl rfl rfl rfl rfl rfl ?_
        conv => arg 8; simp only [zA, zB, zC, zD, zE, zF, zG, zH, zI, rowS, ret, id_eq]
        repeat (first
          | refine qv rfl (qp rfl) rfl rfl ?_ | refine TL_nil ?_ | refine T_seq ?_ | refine T_region ?_ | refine qcT rfl ?_ | refine qcF rfl ?_ | refine T_skip ?_
          | refine T_exit ?_ | refine T_ret ?_ | refine T_block ?_ | refine E_then ?_ | refine E_thenX ?_ | refine E_thenR ?_ | refine E_blockN ?_
          | refine E_blockR ?_ | refine E_blockX ?_ | refine E_blockO rfl ?_ | refine qv rfl (rr_loadB (i := 1) TyC.ty rfl rfl rfl) rfl rfl ?_
          | refine qv rfl (qfld FldC.fld rfl rfl) rfl rfl ?_ | refine qv rfl (rr_nilc rfl) rfl rfl ?_ | refine qv rfl (rr_leq rfl rfl (qT (by omega))) rfl rfl ?_
          | refine qv rfl (rr_leq rfl rfl (qF (by omega))) rfl rfl ?_ | refine qv rfl (rr_eql rfl rfl (qT (by omega))) rfl rfl ?_
          | refine qv rfl (rr_eql rfl rfl (qF (by omega))) rfl rfl ?_)
        refine TL_call (he1 EntersC.en rfl rfl) (fun w hm => hszc w (rk_rex hok (hm.get (i := 2) rfl))) rfl rfl rfl ?_
        intro _ _
        conv => arg 8; simp only [zA, zB, zC, zD, zE, zF, zG, zH, zI, rowS, ret, id_eq]
        by_cases c1 : sizeX o ≤ 100
        · have hpx : plusX o = twoX 4 o (.mk 6 C4.zero [o]) := by unfold plusX; rw [if_pos c1]
          have hlen : ∀ l : List Rx, l.length ≤ sizesX l := fun l => by
            induction l with
            | nil => exact Nat.le_refl _
            | cons x l ih => rw [sizesX]; have := sizeX_pos x; simp; omega
          have hso : sizeX o = sizesX o.kids + 1 := by obtain ⟨k, c, l⟩ := o; rfl
          have hl1 := hlen o.kids
          have hcp := fun w' (h : SlF rexS (Low w') w' (.slice b n c) o.kids) => copy_calls (sizeX o) o (Nat.le_refl _) (.slice b n c) w' hok h (by omega) (fun e he => by have := sizesX_mem he; omega)
          clear hlen
          repeat (first
            | refine qv rfl (qp rfl) rfl rfl ?_ | refine TL_nil ?_ | refine T_seq ?_ | refine T_region ?_ | refine qcT rfl ?_ | refine qcF rfl ?_ | refine T_skip ?_
            | refine T_exit ?_ | refine T_ret ?_ | refine T_block ?_ | refine E_then ?_ | refine E_thenX ?_ | refine E_thenR ?_ | refine E_blockN ?_
            | refine E_blockR ?_ | refine E_blockX ?_ | refine E_blockO rfl ?_ | refine qv rfl (rr_leq (b := true) rfl rfl (decide_eq_true (by omega))) rfl rfl ?_
            | refine qv rfl (rr_loadB (i := 1) TyC.ty rfl rfl rfl) rfl rfl ?_ | refine qv rfl (qfld FldC.fld rfl rfl) rfl rfl ?_
            | refine qv rfl (rr_nilc rfl) rfl rfl ?_ | refine qv rfl (rr_leq rfl rfl (qT (by omega))) rfl rfl ?_
            | refine qv rfl (rr_leq rfl rfl (qF (by omega))) rfl rfl ?_ | refine qv rfl (rr_eql rfl rfl (qT (by omega))) rfl rfl ?_
            | refine qv rfl (rr_eql rfl rfl (qF (by omega))) rfl rfl ?_)
          refine TL_call (he1 EntersC.en rfl rfl) (fun w hm => hcp w (by have := rk_sl (hm.get (i := 2) rfl); exact this.1.mono this.2)) rfl rfl rfl ?_
          rintro ⟨v4, F4⟩ _
          conv => arg 8; simp only [zA, zB, zC, zD, zE, zF, zG, zH, zI, rowS, ret, id_eq, copySp]
          conv => arg 7; simp only [copySp]
          refine TL_know (i := 5) rfl (fun w h => rkO_form h) fun hv4 => ?_
          obtain ⟨b4, n4, c4, rfl⟩ := hv4
          refine TL_storeB (i := 4) (cs' := (rexC o.kind o.cls (.slice b4 n4 c4)).toArray) rfl rfl rfl rfl rfl rfl ?_
          conv => arg 8; simp only [zA, zB, zC, zD, zE, zF, zG, zH, zI, rowS, ret, id_eq]
          repeat (first
            | refine qv rfl (qp rfl) rfl rfl ?_ | refine TL_nil ?_ | refine T_seq ?_ | refine T_region ?_ | refine qcT rfl ?_ | refine qcF rfl ?_ | refine T_skip ?_
            | refine T_exit ?_ | refine T_ret ?_ | refine T_block ?_ | refine E_then ?_ | refine E_thenX ?_ | refine E_thenR ?_ | refine E_blockN ?_
            | refine E_blockR ?_ | refine E_blockX ?_ | refine E_blockO rfl ?_ | refine qv rfl (qfld FldC.fld rfl rfl) rfl rfl ?_
            | refine qv rfl (rr_nilc rfl) rfl rfl ?_ | refine qv rfl (rr_leq rfl rfl (qT (by omega))) rfl rfl ?_
            | refine qv rfl (rr_leq rfl rfl (qF (by omega))) rfl rfl ?_ | refine qv rfl (rr_eql rfl rfl (qT (by omega))) rfl rfl ?_
            | refine qv rfl (rr_eql rfl rfl (qF (by omega))) rfl rfl ?_)
          repeat (first
            | refine qv rfl (qp rfl) rfl rfl ?_ | refine TL_nil ?_ | refine T_seq ?_ | refine T_region ?_ | refine qcT rfl ?_ | refine qcF rfl ?_ | refine T_skip ?_
            | refine T_exit ?_ | refine T_ret ?_ | refine T_block ?_ | refine E_then ?_ | refine E_thenX ?_ | refine E_thenR ?_ | refine E_blockN ?_
            | refine E_blockR ?_ | refine E_blockX ?_ | refine E_blockO rfl ?_ | refine qv rfl (rr_loadB (i := 1) TyC.ty rfl rfl rfl) rfl rfl ?_
            | refine qv rfl (rr_loadB (i := 4) TyC.ty rfl rfl rfl) rfl rfl ?_ | refine qv rfl (qfld FldC.fld rfl rfl) rfl rfl ?_
            | refine qv rfl (rr_nilc rfl) rfl rfl ?_ | refine qv rfl (rr_leq rfl rfl (qT (by omega))) rfl rfl ?_
            | refine qv rfl (rr_leq rfl rfl (qF (by omega))) rfl rfl ?_ | refine qv rfl (rr_eql rfl rfl (qT (by omega))) rfl rfl ?_
            | refine qv rfl (rr_eql rfl rfl (qF (by omega))) rfl rfl ?_)
          refine TL_one (cs := [rexC o.kind o.cls (.slice b4 n4 c4)].flatten.toArray) rfl rfl rfl rfl rfl fun gA => ?_
          conv => arg 8; simp only [zA, zB, zC, zD, zE, zF, zG, zH, zI, rowS, ret, id_eq]
          repeat (first
            | refine qv rfl (qp rfl) rfl rfl ?_ | refine TL_nil ?_ | refine T_seq ?_ | refine T_region ?_ | refine qcT rfl ?_ | refine qcF rfl ?_ | refine T_skip ?_
            | refine T_exit ?_ | refine T_ret ?_ | refine T_block ?_ | refine E_then ?_ | refine E_thenX ?_ | refine E_thenR ?_ | refine E_blockN ?_
            | refine E_blockR ?_ | refine E_blockX ?_ | refine E_blockO rfl ?_ | refine qv rfl (rr_build rfl (build_rexN 6 gA 1)) rfl rfl ?_
            | refine qv rfl (qfld FldC.fld rfl rfl) rfl rfl ?_ | refine qv rfl (rr_nilc rfl) rfl rfl ?_ | refine qv rfl (rr_leq rfl rfl (qT (by omega))) rfl rfl ?_
            | refine qv rfl (rr_leq rfl rfl (qF (by omega))) rfl rfl ?_ | refine qv rfl (rr_eql rfl rfl (qT (by omega))) rfl rfl ?_
            | refine qv rfl (rr_eql rfl rfl (qF (by omega))) rfl rfl ?_)
          refine TL_call (he3 EntersC.en rfl rfl rfl rfl) (fun w' hm => rexTwo_calls 4 o.kind 6 o.cls C4.zero b (some ⟨gA, 0, none⟩) n 1 c 1 w') rfl rfl rfl ?_
          intro gB _
          conv => arg 8; simp only [zA, zB, zC, zD, zE, zF, zG, zH, zI, rowS, ret, id_eq, twoS]
          conv => arg 7; simp only [twoS]
          refine TL_mk1 (i := 5) (q := 6) (a := o) [0, 1, 2, 3, 4, 7] (by decide) hok rfl rfl rfl ?_
          conv => arg 8; simp only [zA, zB, zC, zD, zE, zF, zG, zH, zI, rowS, ret, id_eq, List.cons_append, List.nil_append]
          refine TL_mk2 (i := 2) (j := 6) (q := 5) (a := o) (b := .mk 6 C4.zero [o]) [0, 1, 3, 4] (by decide) hok (by show kit.okI64 6; unfold kit.okI64; omega) rfl rfl rfl rfl ?_
          conv => arg 8; simp only [zA, zB, zC, zD, zE, zF, zG, zH, zI, rowS, ret, id_eq, List.cons_append, List.nil_append]
          refine TL_storeB (i := 1) (cs' := (rexC 4 C4.zero (.slice (some ⟨gB, 0, none⟩) 2 2)).toArray) rfl rfl rfl rfl rfl rfl ?_
          conv => arg 8; simp only [zA, zB, zC, zD, zE, zF, zG, zH, zI, rowS, ret, id_eq]
          repeat (first
            | refine qv rfl (qp rfl) rfl rfl ?_ | refine TL_nil ?_ | refine T_seq ?_ | refine T_region ?_ | refine qcT rfl ?_ | refine qcF rfl ?_ | refine T_skip ?_
            | refine T_exit ?_ | refine T_ret ?_ | refine T_block ?_ | refine E_then ?_ | refine E_thenX ?_ | refine E_thenR ?_ | refine E_blockN ?_
            | refine E_blockR ?_ | refine E_blockX ?_ | refine E_blockO rfl ?_ | refine qv rfl (qfld FldC.fld rfl rfl) rfl rfl ?_
            | refine qv rfl (rr_nilc rfl) rfl rfl ?_ | refine qv rfl (rr_leq rfl rfl (qT (by omega))) rfl rfl ?_
            | refine qv rfl (rr_leq rfl rfl (qF (by omega))) rfl rfl ?_ | refine qv rfl (rr_eql rfl rfl (qT (by omega))) rfl rfl ?_
            | refine qv rfl (rr_eql rfl rfl (qF (by omega))) rfl rfl ?_)
          refine E_pick [0, 1, 4, 2] (by decide) rfl ?_
          exact E_round (f, plusX o, st.up, (some ⟨gB, 0, none⟩, 2, 2), _) ⟨i1, hup, (by show kit.okI64 4; unfold kit.okI64; omega), (by have := size_plus o; show sizeX (plusX o) ≤ 200 * (st.p + 1) + 1; omega)⟩ (by show f < f + 1; omega) (by repeat' (first | exact True.intro | refine And.intro rfl ?_)) (by dsimp only; rw [hpx]; rfl)
        · have hpx : plusX o = twoX 4 o (.mk 6 C4.zero [.mk 2 C4.zero []]) := by unfold plusX; rw [if_neg c1]
          refine TL_extra (rkO (fun _ => False) (.slice none 0 0) []) (fun k hk => rk_foot hk) (fun w => rk_nil w) ?_
          conv => arg 8; simp only [zA, zB, zC, zD, zE, zF, zG, zH, zI, rowS, ret, id_eq]
          repeat (first
            | refine qv rfl (qp rfl) rfl rfl ?_ | refine TL_nil ?_ | refine T_seq ?_ | refine T_region ?_ | refine qcT rfl ?_ | refine qcF rfl ?_ | refine T_skip ?_
            | refine T_exit ?_ | refine T_ret ?_ | refine T_block ?_ | refine E_then ?_ | refine E_thenX ?_ | refine E_thenR ?_ | refine E_blockN ?_
            | refine E_blockR ?_ | refine E_blockX ?_ | refine E_blockO rfl ?_ | refine qv rfl (rr_leq (b := false) rfl rfl (decide_eq_false (by omega))) rfl rfl ?_
            | refine qv rfl (qfld FldC.fld rfl rfl) rfl rfl ?_ | refine qv rfl (rr_nilc rfl) rfl rfl ?_ | refine qv rfl (rr_leq rfl rfl (qT (by omega))) rfl rfl ?_
            | refine qv rfl (rr_leq rfl rfl (qF (by omega))) rfl rfl ?_ | refine qv rfl (rr_eql rfl rfl (qT (by omega))) rfl rfl ?_
            | refine qv rfl (rr_eql rfl rfl (qF (by omega))) rfl rfl ?_)
          repeat (first
            | refine qv rfl (qp rfl) rfl rfl ?_ | refine TL_nil ?_ | refine T_seq ?_ | refine T_region ?_ | refine qcT rfl ?_ | refine qcF rfl ?_ | refine T_skip ?_
            | refine T_exit ?_ | refine T_ret ?_ | refine T_block ?_ | refine E_then ?_ | refine E_thenX ?_ | refine E_thenR ?_ | refine E_blockN ?_
            | refine E_blockR ?_ | refine E_blockX ?_ | refine E_blockO rfl ?_ | refine qv rfl (rr_loadB (i := 1) TyC.ty rfl rfl rfl) rfl rfl ?_
            | refine qv rfl (rr_loadB (i := 4) TyC.ty rfl rfl rfl) rfl rfl ?_ | refine qv rfl (qfld FldC.fld rfl rfl) rfl rfl ?_
            | refine qv rfl (rr_nilc rfl) rfl rfl ?_ | refine qv rfl (rr_leq rfl rfl (qT (by omega))) rfl rfl ?_
            | refine qv rfl (rr_leq rfl rfl (qF (by omega))) rfl rfl ?_ | refine qv rfl (rr_eql rfl rfl (qT (by omega))) rfl rfl ?_
            | refine qv rfl (rr_eql rfl rfl (qF (by omega))) rfl rfl ?_)
          refine TL_one (cs := [rexC 2 C4.zero (.slice none 0 0)].flatten.toArray) rfl rfl rfl rfl rfl fun gA => ?_
          conv => arg 8; simp only [zA, zB, zC, zD, zE, zF, zG, zH, zI, rowS, ret, id_eq]
          repeat (first
            | refine qv rfl (qp rfl) rfl rfl ?_ | refine TL_nil ?_ | refine T_seq ?_ | refine T_region ?_ | refine qcT rfl ?_ | refine qcF rfl ?_ | refine T_skip ?_
            | refine T_exit ?_ | refine T_ret ?_ | refine T_block ?_ | refine E_then ?_ | refine E_thenX ?_ | refine E_thenR ?_ | refine E_blockN ?_
            | refine E_blockR ?_ | refine E_blockX ?_ | refine E_blockO rfl ?_ | refine qv rfl (rr_build rfl (build_rexN 6 gA 1)) rfl rfl ?_
            | refine qv rfl (qfld FldC.fld rfl rfl) rfl rfl ?_ | refine qv rfl (rr_nilc rfl) rfl rfl ?_ | refine qv rfl (rr_leq rfl rfl (qT (by omega))) rfl rfl ?_
            | refine qv rfl (rr_leq rfl rfl (qF (by omega))) rfl rfl ?_ | refine qv rfl (rr_eql rfl rfl (qT (by omega))) rfl rfl ?_
            | refine qv rfl (rr_eql rfl rfl (qF (by omega))) rfl rfl ?_)
          refine TL_call (he3 EntersC.en rfl rfl rfl rfl) (fun w' hm => rexTwo_calls 4 o.kind 6 o.cls C4.zero b (some ⟨gA, 0, none⟩) n 1 c 1 w') rfl rfl rfl ?_
          intro gB _
          conv => arg 8; simp only [zA, zB, zC, zD, zE, zF, zG, zH, zI, rowS, ret, id_eq, twoS]
          conv => arg 7; simp only [twoS]
          refine TL_mk1 (i := 5) (q := 6) (a := .mk 2 C4.zero []) [0, 1, 2, 3, 4, 7] (by decide) (by show kit.okI64 2; unfold kit.okI64; omega) rfl rfl rfl ?_
          conv => arg 8; simp only [zA, zB, zC, zD, zE, zF, zG, zH, zI, rowS, ret, id_eq, List.cons_append, List.nil_append]
          refine TL_mk2 (i := 2) (j := 6) (q := 5) (a := o) (b := .mk 6 C4.zero [.mk 2 C4.zero []]) [0, 1, 3, 4] (by decide) hok (by show kit.okI64 6; unfold kit.okI64; omega) rfl rfl rfl rfl ?_
          conv => arg 8; simp only [zA, zB, zC, zD, zE, zF, zG, zH, zI, rowS, ret, id_eq, List.cons_append, List.nil_append]
          refine TL_storeB (i := 1) (cs' := (rexC 4 C4.zero (.slice (some ⟨gB, 0, none⟩) 2 2)).toArray) rfl rfl rfl rfl rfl rfl ?_
          conv => arg 8; simp only [zA, zB, zC, zD, zE, zF, zG, zH, zI, rowS, ret, id_eq]
          repeat (first
            | refine qv rfl (qp rfl) rfl rfl ?_ | refine TL_nil ?_ | refine T_seq ?_ | refine T_region ?_ | refine qcT rfl ?_ | refine qcF rfl ?_ | refine T_skip ?_
            | refine T_exit ?_ | refine T_ret ?_ | refine T_block ?_ | refine E_then ?_ | refine E_thenX ?_ | refine E_thenR ?_ | refine E_blockN ?_
            | refine E_blockR ?_ | refine E_blockX ?_ | refine E_blockO rfl ?_ | refine qv rfl (qfld FldC.fld rfl rfl) rfl rfl ?_
            | refine qv rfl (rr_nilc rfl) rfl rfl ?_ | refine qv rfl (rr_leq rfl rfl (qT (by omega))) rfl rfl ?_
            | refine qv rfl (rr_leq rfl rfl (qF (by omega))) rfl rfl ?_ | refine qv rfl (rr_eql rfl rfl (qT (by omega))) rfl rfl ?_
            | refine qv rfl (rr_eql rfl rfl (qF (by omega))) rfl rfl ?_)
          refine E_pick [0, 1, 4, 2] (by decide) rfl ?_
          exact E_round (f, plusX o, st.up, (some ⟨gB, 0, none⟩, 2, 2), _) ⟨i1, hup, (by show kit.okI64 4; unfold kit.okI64; omega), (by have := size_plus o; show sizeX (plusX o) ≤ 200 * (st.p + 1) + 1; omega)⟩ (by show f < f + 1; omega) (by repeat' (first | exact True.intro | refine And.intro rfl ?_)) (by dsimp only; rw [hpx]; rfl)
      | false =>
        rw [if_neg (by rw [h43]; decide)] at i1
        rw [if_neg (by decide)]
        repeat (first
          | refine qv rfl (qp rfl) rfl rfl ?_ | refine TL_nil ?_ | refine T_seq ?_ | refine T_region ?_ | refine qcT rfl ?_ | refine qcF rfl ?_ | refine T_skip ?_
          | refine T_exit ?_ | refine T_ret ?_ | refine T_block ?_ | refine E_then ?_ | refine E_thenX ?_ | refine E_thenR ?_ | refine E_blockN ?_
          | refine E_blockR ?_ | refine E_blockX ?_ | refine E_blockO rfl ?_ | refine qv rfl (qfld FldC.fld rfl rfl) rfl rfl ?_
          | refine qv rfl (rr_nilc rfl) rfl rfl ?_ | refine qv rfl (rr_leq rfl rfl (qT (by omega))) rfl rfl ?_
          | refine qv rfl (rr_leq rfl rfl (qF (by omega))) rfl rfl ?_ | refine qv rfl (rr_eql rfl rfl (qT (by omega))) rfl rfl ?_
          | refine qv rfl (rr_eql rfl rfl (qF (by omega))) rfl rfl ?_)
        refine TL_callB [3] [0, 1, 2] (by decide) rfl rfl (he2 EntersC.en rfl rfl rfl) (fun w hm hb => rdTake_calls g s st 63 w _ (by omega) hb) rfl rfl rfl ?_
        intro _ _
        conv => arg 8; simp only [zA, zB, zC, zD, zE, zF, zG, zH, zI, rowS, ret, id_eq]
        rw [show takeS s st 63 = if isB s st 63 = true then st.up else st from rfl]
        cases h63 : isB s st 63 with
        | true =>
          rw [if_pos h63] at i1
          rw [if_pos rfl]
          have hup : st.up.p ≤ s.length := (isB_lt h63).2.1
          refine TL_extra (rkO (fun _ => False) (.slice none 0 0) []) (fun k hk => rk_foot hk) (fun w => rk_nil w) ?_
          repeat (first
            | refine qv rfl (qp rfl) rfl rfl ?_ | refine TL_nil ?_ | refine T_seq ?_ | refine T_region ?_ | refine qcT rfl ?_ | refine qcF rfl ?_ | refine T_skip ?_
            | refine T_exit ?_ | refine T_ret ?_ | refine T_block ?_ | refine E_then ?_ | refine E_thenX ?_ | refine E_thenR ?_ | refine E_blockN ?_
            | refine E_blockR ?_ | refine E_blockX ?_ | refine E_blockO rfl ?_ | refine qv rfl (rr_loadB (i := 1) TyC.ty rfl rfl rfl) rfl rfl ?_
            | refine qv rfl (rr_build rfl (build_rexK 2)) rfl rfl ?_ | refine qv rfl (qfld FldC.fld rfl rfl) rfl rfl ?_ | refine qv rfl (rr_nilc rfl) rfl rfl ?_
            | refine qv rfl (rr_leq rfl rfl (qT (by omega))) rfl rfl ?_ | refine qv rfl (rr_leq rfl rfl (qF (by omega))) rfl rfl ?_
            | refine qv rfl (rr_eql rfl rfl (qT (by omega))) rfl rfl ?_ | refine qv rfl (rr_eql rfl rfl (qF (by omega))) rfl rfl ?_)
          refine TL_call (he3 EntersC.en rfl rfl rfl rfl) (fun w' hm => rexTwo_calls 5 o.kind 2 o.cls C4.zero b none n 0 c 0 w') rfl rfl rfl ?_
          intro gB _
          conv => arg 8; simp only [zA, zB, zC, zD, zE, zF, zG, zH, zI, rowS, ret, id_eq, twoS]
          conv => arg 7; simp only [twoS]
          refine TL_mk2 (i := 2) (j := 4) (q := 5) (a := o) (b := .mk 2 C4.zero []) [0, 1, 3] (by decide) hok (by show kit.okI64 2; unfold kit.okI64; omega) rfl rfl rfl rfl ?_
          conv => arg 8; simp only [zA, zB, zC, zD, zE, zF, zG, zH, zI, rowS, ret, id_eq, List.cons_append, List.nil_append]
          refine TL_storeB (i := 1) (cs' := (rexC 5 C4.zero (.slice (some ⟨gB, 0, none⟩) 2 2)).toArray) rfl rfl rfl rfl rfl rfl ?_
          conv => arg 8; simp only [zA, zB, zC, zD, zE, zF, zG, zH, zI, rowS, ret, id_eq]
          repeat (first
            | refine qv rfl (qp rfl) rfl rfl ?_ | refine TL_nil ?_ | refine T_seq ?_ | refine T_region ?_ | refine qcT rfl ?_ | refine qcF rfl ?_ | refine T_skip ?_
            | refine T_exit ?_ | refine T_ret ?_ | refine T_block ?_ | refine E_then ?_ | refine E_thenX ?_ | refine E_thenR ?_ | refine E_blockN ?_
            | refine E_blockR ?_ | refine E_blockX ?_ | refine E_blockO rfl ?_ | refine qv rfl (qfld FldC.fld rfl rfl) rfl rfl ?_
            | refine qv rfl (rr_nilc rfl) rfl rfl ?_ | refine qv rfl (rr_leq rfl rfl (qT (by omega))) rfl rfl ?_
            | refine qv rfl (rr_leq rfl rfl (qF (by omega))) rfl rfl ?_ | refine qv rfl (rr_eql rfl rfl (qT (by omega))) rfl rfl ?_
            | refine qv rfl (rr_eql rfl rfl (qF (by omega))) rfl rfl ?_)
          refine E_pick [0, 1, 3, 2] (by decide) rfl ?_
          exact E_round (f, twoX 5 o (.mk 2 C4.zero []), st.up, (some ⟨gB, 0, none⟩, 2, 2), _) ⟨i1, hup, (by show kit.okI64 5; unfold kit.okI64; omega), (by rw [size_two, size_one]; show _ ≤ 200 * (st.p + 1) + 1; omega)⟩ (by show f < f + 1; omega) (by repeat' (first | exact True.intro | refine And.intro rfl ?_)) rfl
        | false =>
          rw [if_neg (by rw [h63]; decide)] at i1
          cases i1
          rw [if_neg (by decide)]
          repeat (first
            | refine qv rfl (qp rfl) rfl rfl ?_ | refine TL_nil ?_ | refine T_seq ?_ | refine T_region ?_ | refine qcT rfl ?_ | refine qcF rfl ?_ | refine T_skip ?_
            | refine T_exit ?_ | refine T_ret ?_ | refine T_block ?_ | refine E_then ?_ | refine E_thenX ?_ | refine E_thenR ?_ | refine E_blockN ?_
            | refine E_blockR ?_ | refine E_blockX ?_ | refine E_blockO rfl ?_ | refine qv rfl (rr_loadB (i := 1) TyC.ty rfl rfl rfl) rfl rfl ?_
            | refine qv rfl (qfld FldC.fld rfl rfl) rfl rfl ?_ | refine qv rfl (rr_nilc rfl) rfl rfl ?_ | refine qv rfl (rr_leq rfl rfl (qT (by omega))) rfl rfl ?_
            | refine qv rfl (rr_leq rfl rfl (qF (by omega))) rfl rfl ?_ | refine qv rfl (rr_eql rfl rfl (qT (by omega))) rfl rfl ?_
            | refine qv rfl (rr_eql rfl rfl (qF (by omega))) rfl rfl ?_)
          refine TL_storeB (i := 0) (cs' := (rexC o.kind o.cls (.slice b n c)).toArray) rfl rfl rfl rfl rfl rfl ?_
          conv => arg 8; simp only [zA, zB, zC, zD, zE, zF, zG, zH, zI, rowS, ret, id_eq]
          repeat (first
            | refine qv rfl (qp rfl) rfl rfl ?_ | refine TL_nil ?_ | refine T_seq ?_ | refine T_region ?_ | refine qcT rfl ?_ | refine qcF rfl ?_ | refine T_skip ?_
            | refine T_exit ?_ | refine T_ret ?_ | refine T_block ?_ | refine E_then ?_ | refine E_thenX ?_ | refine E_thenR ?_ | refine E_blockN ?_
            | refine E_blockR ?_ | refine E_blockX ?_ | refine E_blockO rfl ?_ | refine qv rfl (qfld FldC.fld rfl rfl) rfl rfl ?_
            | refine qv rfl (rr_nilc rfl) rfl rfl ?_ | refine qv rfl (rr_leq rfl rfl (qT (by omega))) rfl rfl ?_
            | refine qv rfl (rr_leq rfl rfl (qF (by omega))) rfl rfl ?_ | refine qv rfl (rr_eql rfl rfl (qT (by omega))) rfl rfl ?_
            | refine qv rfl (rr_eql rfl rfl (qF (by omega))) rfl rfl ?_)
          exact E_retc1 (i := 0) rfl rfl rfl rfl fun w hm => hm.meetsB (S := rxSp g s (o, st)) (.slice b n c, F) hok [2, 3] (by decide) rfl
  · rw [if_pos c0] at i1
    cases i1
    repeat (first
      | refine qv rfl (qp rfl) rfl rfl ?_ | refine TL_nil ?_ | refine T_seq ?_ | refine T_region ?_ | refine qcT rfl ?_ | refine qcF rfl ?_ | refine T_skip ?_
      | refine T_exit ?_ | refine T_ret ?_ | refine T_block ?_ | refine E_then ?_ | refine E_thenX ?_ | refine E_thenR ?_ | refine E_blockN ?_
      | refine E_blockR ?_ | refine E_blockX ?_ | refine E_blockO rfl ?_ | refine qv rfl (rr_nilc rfl) rfl rfl ?_
      | refine qv rfl (rr_load1 (v := .int .i64 st.e) TyC.ty rfl (at_blk (i := 3) rfl rfl)) rfl rfl ?_
      | refine qv rfl (rr_eql (b := false) rfl rfl (decide_eq_false c0)) rfl rfl ?_ | refine qv rfl (rr_loadB (i := 1) TyC.ty rfl rfl rfl) rfl rfl ?_
      | refine qv rfl (qfld FldC.fld rfl rfl) rfl rfl ?_ | refine qv rfl (rr_nilc rfl) rfl rfl ?_ | refine qv rfl (rr_leq rfl rfl (qT (by omega))) rfl rfl ?_
      | refine qv rfl (rr_leq rfl rfl (qF (by omega))) rfl rfl ?_ | refine qv rfl (rr_eql rfl rfl (qT (by omega))) rfl rfl ?_
      | refine qv rfl (rr_eql rfl rfl (qF (by omega))) rfl rfl ?_)
    refine TL_storeB (i := 0) (cs' := (rexC o.kind o.cls (.slice b n c)).toArray) rfl rfl rfl rfl rfl rfl ?_
    conv => arg 8; simp only [zA, zB, zC, zD, zE, zF, zG, zH, zI, rowS, ret, id_eq]
    repeat (first
      | refine qv rfl (qp rfl) rfl rfl ?_ | refine TL_nil ?_ | refine T_seq ?_ | refine T_region ?_ | refine qcT rfl ?_ | refine qcF rfl ?_ | refine T_skip ?_
      | refine T_exit ?_ | refine T_ret ?_ | refine T_block ?_ | refine E_then ?_ | refine E_thenX ?_ | refine E_thenR ?_ | refine E_blockN ?_
      | refine E_blockR ?_ | refine E_blockX ?_ | refine E_blockO rfl ?_ | refine qv rfl (qfld FldC.fld rfl rfl) rfl rfl ?_
      | refine qv rfl (rr_nilc rfl) rfl rfl ?_ | refine qv rfl (rr_leq rfl rfl (qT (by omega))) rfl rfl ?_
      | refine qv rfl (rr_leq rfl rfl (qF (by omega))) rfl rfl ?_ | refine qv rfl (rr_eql rfl rfl (qT (by omega))) rfl rfl ?_
      | refine qv rfl (rr_eql rfl rfl (qF (by omega))) rfl rfl ?_)
    exact E_retc1 (i := 0) rfl rfl rfl rfl fun w hm => hm.meetsB (S := rxSp g s (o, st)) (.slice b n c, F) hok [2, 3] (by decide) rfl
end Go.Proofs.YtkcpakfcmincbaaDoor.eng

/- RexO3 -/
namespace Go.Proofs.YtkcpakfcmincbaaDoor.eng
open Go.RowKit kit mix classL rexL classSets
set_option maxRecDepth 100000 in
set_option maxHeartbeats 8000000 in
theorem rdAtom (g : Nat) (s : Txt) (hs : s.length ≤ 300) (N : Nat) (IH : ∀ f, f < N → RdAt g s f) {st : RS} {R : Rx × RS} {w : World} {B : Base} (h : atomF s N st = some R) (hp : st.p ≤ s.length) (he : st.e = 0) (ho : st.o ≤ 30) (hm : Mem B [rdO g s st] w) :
    Calls Tryd.prog 31 #[.pointer (some ⟨g, 0, none⟩)] w (MeetsB (rxSp g s R) B) := by
  cases N with
  | zero => rw [atomF] at h; cases h
  | succ N =>
  rw [atomF] at h
  have hz : rexC 0 C4.zero (.slice none 0 0) = rexC 0 C4.zero (.slice none 0 0) := rfl
  refine enterB hm (args := [.pointer (some ⟨g, 0, none⟩)]) (n := 31) Tryd.func31 rfl rfl rfl ?_
  clear hm hz
  refine T_seq (T_region (TL_new rfl fun g2 => ?_))
  conv => arg 8; simp only [zA, zB, zC, zD, zE, zF, zG, zH, zI, rowS, ret, id_eq]
  refine TL_pick [1, 0] (by decide) rfl ?_
  repeat (first
    | refine qv rfl (qp rfl) rfl rfl ?_ | refine TL_nil ?_ | refine T_seq ?_ | refine T_region ?_ | refine qcT rfl ?_ | refine qcF rfl ?_ | refine T_skip ?_
    | refine T_ret ?_ | refine T_block ?_ | refine E_then ?_ | refine E_thenR ?_ | refine E_blockN ?_ | refine E_blockR ?_)
  refine TL_call (he2 EntersC.en rfl rfl rfl) (fun w hm => rdIs_calls g s st 40 w (hm.get (i := 1) rfl)) rfl rfl rfl ?_
  intro _ _
  conv => arg 8; simp only [zA, zB, zC, zD, zE, zF, zG, zH, zI, rowS, ret, id_eq]
  cases h40 : isB s st 40 with
  | true =>
    rw [if_pos h40] at h
    repeat (first
      | refine qv rfl (qp rfl) rfl rfl ?_ | refine TL_nil ?_ | refine T_seq ?_ | refine T_region ?_ | refine qcT rfl ?_ | refine qcF rfl ?_ | refine T_skip ?_
      | refine T_ret ?_ | refine T_block ?_ | refine E_then ?_ | refine E_thenR ?_ | refine E_blockN ?_ | refine E_blockR ?_)
    refine TL_callB [1] [0] (by decide) rfl rfl (he1 EntersC.en rfl rfl) (fun w hm hb => (IH N (by omega)).br h (isB_lt h40).2.1 he ho hb) rfl rfl rfl ?_
    rintro ⟨v1, F1⟩ hok1
    obtain ⟨o, st1⟩ := R
    conv => arg 8; simp only [zA, zB, zC, zD, zE, zF, zG, zH, zI, rowS, ret, id_eq, rxSp]
    conv => arg 7; simp only [rxSp]
    refine TL_know (i := 1) rfl (fun w h => rkO_form h) fun hv1 => ?_
    obtain ⟨b1, n1, c1, rfl⟩ := hv1
    refine TL_storeB (i := 0) (cs' := (rexC o.kind o.cls (.slice b1 n1 c1)).toArray) rfl rfl rfl rfl rfl rfl ?_
    conv => arg 8; simp only [zA, zB, zC, zD, zE, zF, zG, zH, zI, rowS, ret, id_eq]
    repeat (first
      | refine qv rfl (qp rfl) rfl rfl ?_ | refine TL_nil ?_ | refine T_seq ?_ | refine T_region ?_ | refine qcT rfl ?_ | refine qcF rfl ?_ | refine T_skip ?_
      | refine T_ret ?_ | refine T_block ?_ | refine E_then ?_ | refine E_thenR ?_ | refine E_blockN ?_ | refine E_blockR ?_)
    exact E_retc1 (i := 0) rfl rfl rfl rfl fun w hm => hm.meetsB (S := rxSp g s (o, st1)) (.slice b1 n1 c1, F1) hok1 [1, 2] (by decide) rfl
  | false =>
    rw [if_neg (by rw [h40]; decide)] at h
    repeat (first
      | refine qv rfl (qp rfl) rfl rfl ?_ | refine TL_nil ?_ | refine T_seq ?_ | refine T_region ?_ | refine qcT rfl ?_ | refine qcF rfl ?_ | refine T_skip ?_
      | refine T_ret ?_ | refine T_block ?_ | refine E_then ?_ | refine E_thenR ?_ | refine E_blockN ?_ | refine E_blockR ?_)
    refine TL_callB [1] [0] (by decide) rfl rfl (he2 EntersC.en rfl rfl rfl) (fun w hm hb => rdTake_calls g s st 91 w _ (by omega) hb) rfl rfl rfl ?_
    intro _ _
    conv => arg 8; simp only [zA, zB, zC, zD, zE, zF, zG, zH, zI, rowS, ret, id_eq]
    rw [show takeS s st 91 = if isB s st 91 = true then RS.up st else st from rfl]
    cases h91 : isB s st 91 with
    | true =>
      rw [if_pos h91] at h
      rw [if_pos rfl]
      have hup : st.up.p ≤ s.length := (isB_lt h91).2.1
      repeat (first
        | refine qv rfl (qp rfl) rfl rfl ?_ | refine TL_nil ?_ | refine T_seq ?_ | refine T_region ?_ | refine qcT rfl ?_ | refine qcF rfl ?_ | refine T_skip ?_
        | refine T_ret ?_ | refine T_block ?_ | refine E_then ?_ | refine E_thenR ?_ | refine E_blockN ?_ | refine E_blockR ?_)
      refine TL_callB [1] [0] (by decide) rfl rfl (he2 EntersC.en rfl rfl rfl) (fun w hm hb => rdTake_calls g s st.up 93 w _ (by omega) hb) rfl rfl rfl ?_
      intro _ _
      conv => arg 8; simp only [zA, zB, zC, zD, zE, zF, zG, zH, zI, rowS, ret, id_eq]
      rw [show takeS s st.up 93 = if isB s st.up 93 = true then RS.up st.up else st.up from rfl]
      cases h93 : isB s st.up 93 with
      | true =>
        rw [if_pos h93] at h
        rw [if_pos rfl]
        cases h
        repeat (first
          | refine qv rfl (qp rfl) rfl rfl ?_ | refine TL_nil ?_ | refine T_seq ?_ | refine T_region ?_ | refine qcT rfl ?_ | refine qcF rfl ?_ | refine T_skip ?_
          | refine T_ret ?_ | refine T_block ?_ | refine E_then ?_ | refine E_thenR ?_ | refine E_blockN ?_ | refine E_blockR ?_
          | refine qv rfl (rr_build rfl (build_rexK 1)) rfl rfl ?_)
        refine TL_storeB (i := 0) (cs' := (rexC 1 C4.zero (.slice none 0 0)).toArray) rfl rfl rfl rfl rfl rfl ?_
        conv => arg 8; simp only [zA, zB, zC, zD, zE, zF, zG, zH, zI, rowS, ret, id_eq]
        refine TL_extra (rkO (fun _ => False) (.slice none 0 0) []) (fun k hk => rk_foot hk) (fun w => rk_nil w) ?_
        conv => arg 8; simp only [zA, zB, zC, zD, zE, zF, zG, zH, zI, rowS, ret, id_eq]
        repeat (first
          | refine qv rfl (qp rfl) rfl rfl ?_ | refine TL_nil ?_ | refine T_seq ?_ | refine T_region ?_ | refine qcT rfl ?_ | refine qcF rfl ?_ | refine T_skip ?_
          | refine T_ret ?_ | refine T_block ?_ | refine E_then ?_ | refine E_thenR ?_ | refine E_blockN ?_ | refine E_blockR ?_)
        exact E_retc1 (i := 0) rfl rfl rfl rfl fun w hm => hm.meetsB (S := rxSp g s (.mk 1 C4.zero [], st.up.up)) (.slice none 0 0, fun _ => False) (by show kit.okI64 1; unfold kit.okI64; omega) [2, 1] (by decide) rfl
      | false =>
        rw [if_neg (by rw [h93]; decide)] at h
        rw [if_neg (by decide)]
        cases hc : classS s N st.up with
        | none => rw [hc] at h; cases h
        | some X =>
        rw [hc] at h
        obtain ⟨c, st1⟩ := X
        cases h
        repeat (first
          | refine qv rfl (qp rfl) rfl rfl ?_ | refine TL_nil ?_ | refine T_seq ?_ | refine T_region ?_ | refine qcT rfl ?_ | refine qcF rfl ?_ | refine T_skip ?_
          | refine T_ret ?_ | refine T_block ?_ | refine E_then ?_ | refine E_thenR ?_ | refine E_blockN ?_ | refine E_blockR ?_)
        refine TL_callB [1] [0] (by decide) rfl rfl (he1 EntersC.en rfl rfl) (fun w hm hb => rdClass_calls g s N st.up (c, st1) hc w _ (by omega) hup hb) rfl rfl rfl ?_
        intro _ _
        conv => arg 8; simp only [zA, zB, zC, zD, zE, zF, zG, zH, zI, rowS, ret, id_eq, clsSp]
        conv => arg 7; simp only [clsSp]
        repeat (first
          | refine qv rfl (qp rfl) rfl rfl ?_ | refine TL_nil ?_ | refine T_seq ?_ | refine T_region ?_ | refine qcT rfl ?_ | refine qcF rfl ?_ | refine T_skip ?_
          | refine T_ret ?_ | refine T_block ?_ | refine E_then ?_ | refine E_thenR ?_ | refine E_blockN ?_ | refine E_blockR ?_
          | refine qv rfl (rr_build rfl (build_rexL c)) rfl rfl ?_)
        refine TL_storeB (i := 0) (cs' := (rexC 3 c (.slice none 0 0)).toArray) rfl rfl rfl rfl rfl rfl ?_
        conv => arg 8; simp only [zA, zB, zC, zD, zE, zF, zG, zH, zI, rowS, ret, id_eq]
        refine TL_extra (rkO (fun _ => False) (.slice none 0 0) []) (fun k hk => rk_foot hk) (fun w => rk_nil w) ?_
        conv => arg 8; simp only [zA, zB, zC, zD, zE, zF, zG, zH, zI, rowS, ret, id_eq]
        repeat (first
          | refine qv rfl (qp rfl) rfl rfl ?_ | refine TL_nil ?_ | refine T_seq ?_ | refine T_region ?_ | refine qcT rfl ?_ | refine qcF rfl ?_ | refine T_skip ?_
          | refine T_ret ?_ | refine T_block ?_ | refine E_then ?_ | refine E_thenR ?_ | refine E_blockN ?_ | refine E_blockR ?_)
        exact E_retc1 (i := 0) rfl rfl rfl rfl fun w hm => hm.meetsB (S := rxSp g s (.mk 3 c [], st1)) (.slice none 0 0, fun _ => False) (by show kit.okI64 3; unfold kit.okI64; omega) [2, 1] (by decide) rfl
    | false =>
      rw [if_neg (by rw [h91]; decide)] at h
      rw [if_neg (by decide)]
      repeat (first
        | refine qv rfl (qp rfl) rfl rfl ?_ | refine TL_nil ?_ | refine T_seq ?_ | refine T_region ?_ | refine qcT rfl ?_ | refine qcF rfl ?_ | refine T_skip ?_
        | refine T_ret ?_ | refine T_block ?_ | refine E_then ?_ | refine E_thenR ?_ | refine E_blockN ?_ | refine E_blockR ?_)
      refine TL_callB [1] [0] (by decide) rfl rfl (he2 EntersC.en rfl rfl rfl) (fun w hm hb => rdTake_calls g s st 46 w _ (by omega) hb) rfl rfl rfl ?_
      intro _ _
      conv => arg 8; simp only [zA, zB, zC, zD, zE, zF, zG, zH, zI, rowS, ret, id_eq]
      rw [show takeS s st 46 = if isB s st 46 = true then RS.up st else st from rfl]
      cases h46 : isB s st 46 with
      | true =>
        rw [if_pos h46] at h
        rw [if_pos rfl]
        cases h
        have hr := fun w => rangeE 10 10 (by unfold okI64; omega) (by unfold okI64; omega) w
        generalize rangeF 10 10 = c at *
        repeat (first
          | refine qv rfl (qp rfl) rfl rfl ?_ | refine TL_nil ?_ | refine T_seq ?_ | refine T_region ?_ | refine qcT rfl ?_ | refine qcF rfl ?_ | refine T_skip ?_
          | refine T_ret ?_ | refine T_block ?_ | refine E_then ?_ | refine E_thenR ?_ | refine E_blockN ?_ | refine E_blockR ?_)
        refine TL_call (he2 EntersC.en rfl rfl rfl) (fun w hm => hr w) rfl rfl rfl ?_
        intro _ _
        conv => arg 8; simp only [zA, zB, zC, zD, zE, zF, zG, zH, zI, rowS, ret, id_eq]
        repeat (first
          | refine qv rfl (qp rfl) rfl rfl ?_ | refine TL_nil ?_ | refine T_seq ?_ | refine T_region ?_ | refine qcT rfl ?_ | refine qcF rfl ?_ | refine T_skip ?_
          | refine T_ret ?_ | refine T_block ?_ | refine E_then ?_ | refine E_thenR ?_ | refine E_blockN ?_ | refine E_blockR ?_)
        refine TL_call (he1 EntersC.en rfl rfl) (fun w hm => notE c w) rfl rfl rfl ?_
        intro _ _
        conv => arg 8; simp only [zA, zB, zC, zD, zE, zF, zG, zH, zI, rowS, ret, id_eq]
        repeat (first
          | refine qv rfl (qp rfl) rfl rfl ?_ | refine TL_nil ?_ | refine T_seq ?_ | refine T_region ?_ | refine qcT rfl ?_ | refine qcF rfl ?_ | refine T_skip ?_
          | refine T_ret ?_ | refine T_block ?_ | refine E_then ?_ | refine E_thenR ?_ | refine E_blockN ?_ | refine E_blockR ?_
          | refine qv rfl (rr_build rfl (build_rexL c.not)) rfl rfl ?_)
        refine TL_storeB (i := 0) (cs' := (rexC 3 c.not (.slice none 0 0)).toArray) rfl rfl rfl rfl rfl rfl ?_
        conv => arg 8; simp only [zA, zB, zC, zD, zE, zF, zG, zH, zI, rowS, ret, id_eq]
        refine TL_extra (rkO (fun _ => False) (.slice none 0 0) []) (fun k hk => rk_foot hk) (fun w => rk_nil w) ?_
        conv => arg 8; simp only [zA, zB, zC, zD, zE, zF, zG, zH, zI, rowS, ret, id_eq]
        repeat (first
          | refine qv rfl (qp rfl) rfl rfl ?_ | refine TL_nil ?_ | refine T_seq ?_ | refine T_region ?_ | refine qcT rfl ?_ | refine qcF rfl ?_ | refine T_skip ?_
          | refine T_ret ?_ | refine T_block ?_ | refine E_then ?_ | refine E_thenR ?_ | refine E_blockN ?_ | refine E_blockR ?_)
        exact E_retc1 (i := 0) rfl rfl rfl rfl fun w hm => hm.meetsB (S := rxSp g s (.mk 3 c.not [], st.up)) (.slice none 0 0, fun _ => False) (by show kit.okI64 3; unfold kit.okI64; omega) [2, 1] (by decide) rfl
      | false =>
        rw [if_neg (by rw [h46]; decide)] at h
        rw [if_neg (by decide)]
        cases h
        have hch := fun w B hm => rdChar_calls g s st w B (by omega) hp hm
        generalize charS s st = D at *
        obtain ⟨b, st1⟩ := D
        have hr := fun w => rangeE (b.toNat : Int) (b.toNat : Int) (okB b) (okB b) w
        dsimp only
        generalize rangeF (b.toNat : Int) (b.toNat : Int) = c at *
        repeat (first
          | refine qv rfl (qp rfl) rfl rfl ?_ | refine TL_nil ?_ | refine T_seq ?_ | refine T_region ?_ | refine qcT rfl ?_ | refine qcF rfl ?_ | refine T_skip ?_
          | refine T_ret ?_ | refine T_block ?_ | refine E_then ?_ | refine E_thenR ?_ | refine E_blockN ?_ | refine E_blockR ?_)
        refine TL_callB [1] [0] (by decide) rfl rfl (he1 EntersC.en rfl rfl) (fun w hm hb => hch w _ hb) rfl rfl rfl ?_
        intro _ _
        conv => arg 8; simp only [zA, zB, zC, zD, zE, zF, zG, zH, zI, rowS, ret, id_eq, byteSp]
        conv => arg 7; simp only [byteSp]
        repeat (first
          | refine qv rfl (qp rfl) rfl rfl ?_ | refine TL_nil ?_ | refine T_seq ?_ | refine T_region ?_ | refine qcT rfl ?_ | refine qcF rfl ?_ | refine T_skip ?_
          | refine T_ret ?_ | refine T_block ?_ | refine E_then ?_ | refine E_thenR ?_ | refine E_blockN ?_ | refine E_blockR ?_
          | refine qv rfl (rr_conv Und.eq Und.eq rfl (u8i _)) rfl rfl ?_)
        refine TL_call (he2 EntersC.en rfl rfl rfl) (fun w hm => hr w) rfl rfl rfl ?_
        intro _ _
        conv => arg 8; simp only [zA, zB, zC, zD, zE, zF, zG, zH, zI, rowS, ret, id_eq]
        repeat (first
          | refine qv rfl (qp rfl) rfl rfl ?_ | refine TL_nil ?_ | refine T_seq ?_ | refine T_region ?_ | refine qcT rfl ?_ | refine qcF rfl ?_ | refine T_skip ?_
          | refine T_ret ?_ | refine T_block ?_ | refine E_then ?_ | refine E_thenR ?_ | refine E_blockN ?_ | refine E_blockR ?_
          | refine qv rfl (rr_build rfl (build_rexL c)) rfl rfl ?_)
        refine TL_storeB (i := 0) (cs' := (rexC 3 c (.slice none 0 0)).toArray) rfl rfl rfl rfl rfl rfl ?_
        conv => arg 8; simp only [zA, zB, zC, zD, zE, zF, zG, zH, zI, rowS, ret, id_eq]
        refine TL_extra (rkO (fun _ => False) (.slice none 0 0) []) (fun k hk => rk_foot hk) (fun w => rk_nil w) ?_
        conv => arg 8; simp only [zA, zB, zC, zD, zE, zF, zG, zH, zI, rowS, ret, id_eq]
        repeat (first
          | refine qv rfl (qp rfl) rfl rfl ?_ | refine TL_nil ?_ | refine T_seq ?_ | refine T_region ?_ | refine qcT rfl ?_ | refine qcF rfl ?_ | refine T_skip ?_
          | refine T_ret ?_ | refine T_block ?_ | refine E_then ?_ | refine E_thenR ?_ | refine E_blockN ?_ | refine E_blockR ?_)
        exact E_retc1 (i := 0) rfl rfl rfl rfl fun w hm => hm.meetsB (S := rxSp g s (.mk 3 c [], st1)) (.slice none 0 0, fun _ => False) (by show kit.okI64 3; unfold kit.okI64; omega) [2, 1] (by decide) rfl
theorem build_rx0 (w : World) : (Instr.build 27 (#[] : Array (Nat × Value))).run Tryd.prog w = .ok (rexV 0 C4.zero (.slice none 0 0)) w := by kernel_rfl
set_option maxRecDepth 100000 in
set_option maxHeartbeats 8000000 in
theorem rdBr (g : Nat) (s : Txt) (hs : s.length ≤ 300) (N : Nat) (IH : ∀ f, f < N → RdAt g s f) {st : RS} {R : Rx × RS} {w : World} {B : Base} (h : brF s N st = some R) (hp : st.p < s.length) (he : st.e = 0) (ho : st.o ≤ 30) (hm : Mem B [rdO g s st] w) :
    Calls Tryd.prog 37 #[.pointer (some ⟨g, 0, none⟩)] w (MeetsB (rxSp g s R) B) := by
  cases N with
  | zero => rw [brF] at h; cases h
  | succ N =>
  rw [brF] at h
  have hb1 := fun r st1 (hc : altF s N { st.up with o := st.o + 1 } = some (r, st1)) => (goes_at s N).1 _ _ hc (by exact hp)
  obtain ⟨p, o, e⟩ := st
  dsimp only at he hp ho
  subst he
  dsimp only at h hb1
  refine enterB hm (args := [.pointer (some ⟨g, 0, none⟩)]) (n := 44) Tryd.func37 rfl rfl rfl ?_
  clear hm
  refine T_seq (T_region (TL_new rfl fun g2 => ?_))
  conv => arg 8; simp only [zA, zB, zC, zD, zE, zF, zG, zH, zI, rowS, ret, id_eq]
  refine TL_pick [1, 0] (by decide) rfl ?_
  by_cases c0 : o = 30
  · subst c0
    rw [if_pos rfl] at h
    cases h
    repeat (first
      | refine qv rfl (qp rfl) rfl rfl ?_ | refine TL_nil ?_ | refine T_seq ?_ | refine T_region ?_ | refine qcT rfl ?_ | refine qcF rfl ?_ | refine T_skip ?_
      | refine T_ret ?_ | refine E_then ?_ | refine E_thenR ?_ | refine qv rfl (rr_nilc rfl) rfl rfl ?_
      | refine qv rfl (rr_load1 (v := .int .i64 30) TyC.ty rfl (at_blk (i := 1) rfl rfl)) rfl rfl ?_
      | refine qv rfl (rr_eql (b := true) rfl rfl rfl) rfl rfl ?_ | refine qv rfl (qfld FldC.fld rfl rfl) rfl rfl ?_
      | refine qv rfl (rr_not rfl rfl) rfl rfl ?_ | refine qv rfl (rr_nilc rfl) rfl rfl ?_ | refine qv rfl (rr_eql rfl rfl (qT (by omega))) rfl rfl ?_
      | refine qv rfl (rr_eql rfl rfl (qF (by omega))) rfl rfl ?_ | refine qv rfl (rr_add64 rfl rfl (by omega) (by omega) rfl) rfl rfl ?_
      | refine qv rfl (rr_sub64 rfl rfl (by omega) (by omega) rfl) rfl rfl ?_)
    refine TL_callB [1] [0] (by decide) rfl rfl (he2 EntersC.en rfl rfl rfl) (fun w hm hb => rdFail_calls g s ⟨p, 30, 0⟩ 7 w _ hb) rfl rfl rfl ?_
    intro _ _
    conv => arg 8; simp only [zA, zB, zC, zD, zE, zF, zG, zH, zI, rowS, ret, id_eq]
    repeat (first
      | refine qv rfl (qp rfl) rfl rfl ?_ | refine TL_nil ?_ | refine T_seq ?_ | refine T_region ?_ | refine qcT rfl ?_ | refine qcF rfl ?_ | refine T_skip ?_
      | refine T_ret ?_ | refine E_then ?_ | refine E_thenR ?_ | refine qv rfl (rr_build rfl build_rx0) rfl rfl ?_
      | refine qv rfl (qfld FldC.fld rfl rfl) rfl rfl ?_ | refine qv rfl (rr_not rfl rfl) rfl rfl ?_ | refine qv rfl (rr_nilc rfl) rfl rfl ?_
      | refine qv rfl (rr_eql rfl rfl (qT (by omega))) rfl rfl ?_ | refine qv rfl (rr_eql rfl rfl (qF (by omega))) rfl rfl ?_
      | refine qv rfl (rr_add64 rfl rfl (by omega) (by omega) rfl) rfl rfl ?_ | refine qv rfl (rr_sub64 rfl rfl (by omega) (by omega) rfl) rfl rfl ?_)
    refine TL_storeB (i := 0) (cs' := (rexC 0 C4.zero (.slice none 0 0)).toArray) rfl rfl rfl rfl rfl rfl ?_
    conv => arg 8; simp only [zA, zB, zC, zD, zE, zF, zG, zH, zI, rowS, ret, id_eq]
    refine TL_extra (rkO (fun _ => False) (.slice none 0 0) []) (fun k hk => rk_foot hk) (fun w => rk_nil w) ?_
    conv => arg 8; simp only [zA, zB, zC, zD, zE, zF, zG, zH, zI, rowS, ret, id_eq]
    repeat (first
      | refine qv rfl (qp rfl) rfl rfl ?_ | refine TL_nil ?_ | refine T_seq ?_ | refine T_region ?_ | refine qcT rfl ?_ | refine qcF rfl ?_ | refine T_skip ?_
      | refine T_ret ?_ | refine E_then ?_ | refine E_thenR ?_ | refine qv rfl (qfld FldC.fld rfl rfl) rfl rfl ?_ | refine qv rfl (rr_not rfl rfl) rfl rfl ?_
      | refine qv rfl (rr_nilc rfl) rfl rfl ?_ | refine qv rfl (rr_eql rfl rfl (qT (by omega))) rfl rfl ?_
      | refine qv rfl (rr_eql rfl rfl (qF (by omega))) rfl rfl ?_ | refine qv rfl (rr_add64 rfl rfl (by omega) (by omega) rfl) rfl rfl ?_
      | refine qv rfl (rr_sub64 rfl rfl (by omega) (by omega) rfl) rfl rfl ?_)
    exact E_retc1 (i := 0) rfl rfl rfl rfl fun w hm => hm.meetsB (S := rxSp g s (.mk 0 C4.zero [], failS ⟨p, 30, 0⟩ 7)) (.slice none 0 0, fun _ => False) (by show kit.okI64 0; unfold kit.okI64; omega) [2, 1] (by decide) rfl
  · rw [if_neg c0] at h
    have hup : RS.up ⟨p, o, 0⟩ = ⟨p + 1, o, 0⟩ := rfl
    rw [hup] at h
    repeat (first
      | refine qv rfl (qp rfl) rfl rfl ?_ | refine TL_nil ?_ | refine T_seq ?_ | refine T_region ?_ | refine qcT rfl ?_ | refine qcF rfl ?_ | refine T_skip ?_
      | refine T_ret ?_ | refine E_then ?_ | refine E_thenR ?_ | refine qv rfl (rr_nilc rfl) rfl rfl ?_
      | refine qv rfl (rr_load1 (v := .int .i64 (o : Int)) TyC.ty rfl (at_blk (i := 1) rfl rfl)) rfl rfl ?_
      | refine qv rfl (rr_eql (b := false) rfl rfl (decide_eq_false (by omega))) rfl rfl ?_
      | refine qv rfl (rr_load1 (v := .int .i64 (p : Int)) TyC.ty rfl (at_blk (i := 1) rfl rfl)) rfl rfl ?_
      | refine qv rfl (rr_add64 (r := ((p + 1 : Nat) : Int)) rfl rfl (by omega) (by omega) (by omega)) rfl rfl ?_
      | refine qv rfl (qfld FldC.fld rfl rfl) rfl rfl ?_ | refine qv rfl (rr_not rfl rfl) rfl rfl ?_ | refine qv rfl (rr_nilc rfl) rfl rfl ?_
      | refine qv rfl (rr_eql rfl rfl (qT (by omega))) rfl rfl ?_ | refine qv rfl (rr_eql rfl rfl (qF (by omega))) rfl rfl ?_
      | refine qv rfl (rr_add64 rfl rfl (by omega) (by omega) rfl) rfl rfl ?_ | refine qv rfl (rr_sub64 rfl rfl (by omega) (by omega) rfl) rfl rfl ?_)
    refine TL_store1 (i := 1) rfl rfl rfl rfl rfl rfl ?_
    rw [rd_up]
    conv => arg 8; simp only [zA, zB, zC, zD, zE, zF, zG, zH, zI, rowS, ret, id_eq]
    repeat (first
      | refine qv rfl (qp rfl) rfl rfl ?_ | refine TL_nil ?_ | refine T_seq ?_ | refine T_region ?_ | refine qcT rfl ?_ | refine qcF rfl ?_ | refine T_skip ?_
      | refine T_ret ?_ | refine E_then ?_ | refine E_thenR ?_ | refine qv rfl (qfld FldC.fld rfl rfl) rfl rfl ?_ | refine qv rfl (rr_not rfl rfl) rfl rfl ?_
      | refine qv rfl (rr_nilc rfl) rfl rfl ?_ | refine qv rfl (rr_eql rfl rfl (qT (by omega))) rfl rfl ?_
      | refine qv rfl (rr_eql rfl rfl (qF (by omega))) rfl rfl ?_ | refine qv rfl (rr_add64 rfl rfl (by omega) (by omega) rfl) rfl rfl ?_
      | refine qv rfl (rr_sub64 rfl rfl (by omega) (by omega) rfl) rfl rfl ?_)
    refine TL_callB [1] [0] (by decide) rfl rfl (he2 EntersC.en rfl rfl rfl) (fun w hm hb => rdTake_calls g s ⟨p + 1, o, 0⟩ 41 w _ (by omega) hb) rfl rfl rfl ?_
    intro _ _
    conv => arg 8; simp only [zA, zB, zC, zD, zE, zF, zG, zH, zI, rowS, ret, id_eq]
    rw [show takeS s ⟨p + 1, o, 0⟩ 41 = if isB s ⟨p + 1, o, 0⟩ 41 = true then RS.up ⟨p + 1, o, 0⟩ else ⟨p + 1, o, 0⟩ from rfl]
    cases h41 : isB s ⟨p + 1, o, 0⟩ 41 with
    | true =>
      rw [if_pos h41] at h
      rw [if_pos rfl]
      cases h
      repeat (first
        | refine qv rfl (qp rfl) rfl rfl ?_ | refine TL_nil ?_ | refine T_seq ?_ | refine T_region ?_ | refine qcT rfl ?_ | refine qcF rfl ?_ | refine T_skip ?_
        | refine T_ret ?_ | refine E_then ?_ | refine E_thenR ?_ | refine qv rfl (rr_build rfl (build_rexK 2)) rfl rfl ?_
        | refine qv rfl (qfld FldC.fld rfl rfl) rfl rfl ?_ | refine qv rfl (rr_not rfl rfl) rfl rfl ?_ | refine qv rfl (rr_nilc rfl) rfl rfl ?_
        | refine qv rfl (rr_eql rfl rfl (qT (by omega))) rfl rfl ?_ | refine qv rfl (rr_eql rfl rfl (qF (by omega))) rfl rfl ?_
        | refine qv rfl (rr_add64 rfl rfl (by omega) (by omega) rfl) rfl rfl ?_ | refine qv rfl (rr_sub64 rfl rfl (by omega) (by omega) rfl) rfl rfl ?_)
      refine TL_storeB (i := 0) (cs' := (rexC 2 C4.zero (.slice none 0 0)).toArray) rfl rfl rfl rfl rfl rfl ?_
      conv => arg 8; simp only [zA, zB, zC, zD, zE, zF, zG, zH, zI, rowS, ret, id_eq]
      refine TL_extra (rkO (fun _ => False) (.slice none 0 0) []) (fun k hk => rk_foot hk) (fun w => rk_nil w) ?_
      conv => arg 8; simp only [zA, zB, zC, zD, zE, zF, zG, zH, zI, rowS, ret, id_eq]
      repeat (first
        | refine qv rfl (qp rfl) rfl rfl ?_ | refine TL_nil ?_ | refine T_seq ?_ | refine T_region ?_ | refine qcT rfl ?_ | refine qcF rfl ?_ | refine T_skip ?_
        | refine T_ret ?_ | refine E_then ?_ | refine E_thenR ?_ | refine qv rfl (qfld FldC.fld rfl rfl) rfl rfl ?_ | refine qv rfl (rr_not rfl rfl) rfl rfl ?_
        | refine qv rfl (rr_nilc rfl) rfl rfl ?_ | refine qv rfl (rr_eql rfl rfl (qT (by omega))) rfl rfl ?_
        | refine qv rfl (rr_eql rfl rfl (qF (by omega))) rfl rfl ?_ | refine qv rfl (rr_add64 rfl rfl (by omega) (by omega) rfl) rfl rfl ?_
        | refine qv rfl (rr_sub64 rfl rfl (by omega) (by omega) rfl) rfl rfl ?_)
      exact E_retc1 (i := 0) rfl rfl rfl rfl fun w hm => hm.meetsB (S := rxSp g s (.mk 2 C4.zero [], RS.up ⟨p + 1, o, 0⟩)) (.slice none 0 0, fun _ => False) (by show kit.okI64 2; unfold kit.okI64; omega) [2, 1] (by decide) rfl
    | false =>
      rw [if_neg (by rw [h41]; decide)] at h
      rw [if_neg (by decide)]
      dsimp only at h
      cases hc : altF s N ⟨p + 1, o + 1, 0⟩ with
      | none => rw [hc] at h; cases h
      | some X =>
      obtain ⟨r, st1⟩ := X
      rw [hc] at h
      have hg1 := hb1 _ _ hc
      have e1 : st1.o = o + 1 := hg1.o
      obtain ⟨p1, o1, e1'⟩ := st1
      dsimp only at h e1
      subst e1
      cases h
      rw [show o + 1 - 1 = o from rfl]
      repeat (first
        | refine qv rfl (qp rfl) rfl rfl ?_ | refine TL_nil ?_ | refine T_seq ?_ | refine T_region ?_ | refine qcT rfl ?_ | refine qcF rfl ?_ | refine T_skip ?_
        | refine T_ret ?_ | refine E_then ?_ | refine E_thenR ?_ | refine qv rfl (rr_nilc rfl) rfl rfl ?_
        | refine qv rfl (rr_load1 (v := .int .i64 (o : Int)) TyC.ty rfl (at_blk (i := 1) rfl rfl)) rfl rfl ?_
        | refine qv rfl (rr_add64 (r := ((o + 1 : Nat) : Int)) rfl rfl (by omega) (by omega) (by omega)) rfl rfl ?_
        | refine qv rfl (qfld FldC.fld rfl rfl) rfl rfl ?_ | refine qv rfl (rr_not rfl rfl) rfl rfl ?_ | refine qv rfl (rr_nilc rfl) rfl rfl ?_
        | refine qv rfl (rr_eql rfl rfl (qT (by omega))) rfl rfl ?_ | refine qv rfl (rr_eql rfl rfl (qF (by omega))) rfl rfl ?_
        | refine qv rfl (rr_add64 rfl rfl (by omega) (by omega) rfl) rfl rfl ?_ | refine qv rfl (rr_sub64 rfl rfl (by omega) (by omega) rfl) rfl rfl ?_)
      refine TL_store1 (i := 1) rfl rfl rfl rfl rfl rfl ?_
      rw [show (rdC s ⟨p + 1, o, 0⟩).setIfInBounds (0 + 2) (.int .i64 ((o + 1 : Nat) : Int)) = rdC s ⟨p + 1, o + 1, 0⟩ from rfl]
      conv => arg 8; simp only [zA, zB, zC, zD, zE, zF, zG, zH, zI, rowS, ret, id_eq]
      repeat (first
        | refine qv rfl (qp rfl) rfl rfl ?_ | refine TL_nil ?_ | refine T_seq ?_ | refine T_region ?_ | refine qcT rfl ?_ | refine qcF rfl ?_ | refine T_skip ?_
        | refine T_ret ?_ | refine E_then ?_ | refine E_thenR ?_ | refine qv rfl (qfld FldC.fld rfl rfl) rfl rfl ?_ | refine qv rfl (rr_not rfl rfl) rfl rfl ?_
        | refine qv rfl (rr_nilc rfl) rfl rfl ?_ | refine qv rfl (rr_eql rfl rfl (qT (by omega))) rfl rfl ?_
        | refine qv rfl (rr_eql rfl rfl (qF (by omega))) rfl rfl ?_ | refine qv rfl (rr_add64 rfl rfl (by omega) (by omega) rfl) rfl rfl ?_
        | refine qv rfl (rr_sub64 rfl rfl (by omega) (by omega) rfl) rfl rfl ?_)
      refine TL_callB [1] [0] (by decide) rfl rfl (he1 EntersC.en rfl rfl) (fun w hm hb => (IH N (by omega)).alt hc (by exact hp) rfl (by show o + 1 ≤ 30; omega) hb) rfl rfl rfl ?_
      rintro ⟨v1, F1⟩ hok1
      conv => arg 8; simp only [zA, zB, zC, zD, zE, zF, zG, zH, zI, rowS, ret, id_eq, rxSp]
      conv => arg 7; simp only [rxSp]
      refine TL_know (i := 1) rfl (fun w h => rkO_form h) fun hv1 => ?_
      obtain ⟨b1, n1, c1, rfl⟩ := hv1
      refine TL_new rfl fun g3 => ?_
      conv => arg 8; simp only [zA, zB, zC, zD, zE, zF, zG, zH, zI, rowS, ret, id_eq]
      refine TL_storeB (i := 3) (cs' := (rexC r.kind r.cls (.slice b1 n1 c1)).toArray) rfl rfl rfl rfl rfl rfl ?_
      conv => arg 8; simp only [zA, zB, zC, zD, zE, zF, zG, zH, zI, rowS, ret, id_eq]
      repeat (first
        | refine qv rfl (qp rfl) rfl rfl ?_ | refine TL_nil ?_ | refine T_seq ?_ | refine T_region ?_ | refine qcT rfl ?_ | refine qcF rfl ?_ | refine T_skip ?_
        | refine T_ret ?_ | refine E_then ?_ | refine E_thenR ?_ | refine qv rfl (rr_nilc rfl) rfl rfl ?_
        | refine qv rfl (rr_load1 (v := .int .i64 ((o + 1 : Nat) : Int)) TyC.ty rfl (at_blk (i := 2) rfl rfl)) rfl rfl ?_
        | refine qv rfl (rr_sub64 (r := (o : Int)) rfl rfl (by omega) (by omega) (by omega)) rfl rfl ?_ | refine qv rfl (qfld FldC.fld rfl rfl) rfl rfl ?_
        | refine qv rfl (rr_not rfl rfl) rfl rfl ?_ | refine qv rfl (rr_nilc rfl) rfl rfl ?_ | refine qv rfl (rr_eql rfl rfl (qT (by omega))) rfl rfl ?_
        | refine qv rfl (rr_eql rfl rfl (qF (by omega))) rfl rfl ?_ | refine qv rfl (rr_add64 rfl rfl (by omega) (by omega) rfl) rfl rfl ?_
        | refine qv rfl (rr_sub64 rfl rfl (by omega) (by omega) rfl) rfl rfl ?_)
      refine TL_store1 (i := 2) rfl rfl rfl rfl rfl rfl ?_
      rw [show (rdC s ⟨p1, o + 1, e1'⟩).setIfInBounds (0 + 2) (.int .i64 (o : Int)) = rdC s ⟨p1, o, e1'⟩ from rfl]
      conv => arg 8; simp only [zA, zB, zC, zD, zE, zF, zG, zH, zI, rowS, ret, id_eq]
      repeat (first
        | refine qv rfl (qp rfl) rfl rfl ?_ | refine TL_nil ?_ | refine T_seq ?_ | refine T_region ?_ | refine qcT rfl ?_ | refine qcF rfl ?_ | refine T_skip ?_
        | refine T_ret ?_ | refine E_then ?_ | refine E_thenR ?_ | refine qv rfl (qfld FldC.fld rfl rfl) rfl rfl ?_ | refine qv rfl (rr_not rfl rfl) rfl rfl ?_
        | refine qv rfl (rr_nilc rfl) rfl rfl ?_ | refine qv rfl (rr_eql rfl rfl (qT (by omega))) rfl rfl ?_
        | refine qv rfl (rr_eql rfl rfl (qF (by omega))) rfl rfl ?_ | refine qv rfl (rr_add64 rfl rfl (by omega) (by omega) rfl) rfl rfl ?_
        | refine qv rfl (rr_sub64 rfl rfl (by omega) (by omega) rfl) rfl rfl ?_)
      refine TL_callB [2] [0, 1, 3] (by decide) rfl rfl (he2 EntersC.en rfl rfl rfl) (fun w hm hb => rdTake_calls g s ⟨p1, o, e1'⟩ 41 w _ (by omega) hb) rfl rfl rfl ?_
      intro _ _
      conv => arg 8; simp only [zA, zB, zC, zD, zE, zF, zG, zH, zI, rowS, ret, id_eq]
      rw [show takeS s ⟨p1, o, e1'⟩ 41 = if isB s ⟨p1, o, e1'⟩ 41 = true then RS.up ⟨p1, o, e1'⟩ else ⟨p1, o, e1'⟩ from rfl]
      cases h41b : isB s ⟨p1, o, e1'⟩ 41 with
      | true =>
        rw [if_pos rfl, if_pos rfl]
        repeat (first
          | refine qv rfl (qp rfl) rfl rfl ?_ | refine TL_nil ?_ | refine T_seq ?_ | refine T_region ?_ | refine qcT rfl ?_ | refine qcF rfl ?_ | refine T_skip ?_
          | refine T_ret ?_ | refine E_then ?_ | refine E_thenR ?_ | refine qv rfl (rr_loadB (i := 2) TyC.ty rfl rfl rfl) rfl rfl ?_
          | refine qv rfl (qfld FldC.fld rfl rfl) rfl rfl ?_ | refine qv rfl (rr_not rfl rfl) rfl rfl ?_ | refine qv rfl (rr_nilc rfl) rfl rfl ?_
          | refine qv rfl (rr_eql rfl rfl (qT (by omega))) rfl rfl ?_ | refine qv rfl (rr_eql rfl rfl (qF (by omega))) rfl rfl ?_
          | refine qv rfl (rr_add64 rfl rfl (by omega) (by omega) rfl) rfl rfl ?_ | refine qv rfl (rr_sub64 rfl rfl (by omega) (by omega) rfl) rfl rfl ?_)
        refine TL_storeB (i := 0) (cs' := (rexC r.kind r.cls (.slice b1 n1 c1)).toArray) rfl rfl rfl rfl rfl rfl ?_
        conv => arg 8; simp only [zA, zB, zC, zD, zE, zF, zG, zH, zI, rowS, ret, id_eq]
        repeat (first
          | refine qv rfl (qp rfl) rfl rfl ?_ | refine TL_nil ?_ | refine T_seq ?_ | refine T_region ?_ | refine qcT rfl ?_ | refine qcF rfl ?_ | refine T_skip ?_
          | refine T_ret ?_ | refine E_then ?_ | refine E_thenR ?_ | refine qv rfl (qfld FldC.fld rfl rfl) rfl rfl ?_ | refine qv rfl (rr_not rfl rfl) rfl rfl ?_
          | refine qv rfl (rr_nilc rfl) rfl rfl ?_ | refine qv rfl (rr_eql rfl rfl (qT (by omega))) rfl rfl ?_
          | refine qv rfl (rr_eql rfl rfl (qF (by omega))) rfl rfl ?_ | refine qv rfl (rr_add64 rfl rfl (by omega) (by omega) rfl) rfl rfl ?_
          | refine qv rfl (rr_sub64 rfl rfl (by omega) (by omega) rfl) rfl rfl ?_)
        exact E_retc1 (i := 0) rfl rfl rfl rfl fun w hm => hm.meetsB (S := rxSp g s (r, RS.up ⟨p1, o, e1'⟩)) (.slice b1 n1 c1, F1) hok1 [1, 3] (by decide) rfl
      | false =>
        rw [if_neg (by decide), if_neg (by decide)]
        repeat (first
          | refine qv rfl (qp rfl) rfl rfl ?_ | refine TL_nil ?_ | refine T_seq ?_ | refine T_region ?_ | refine qcT rfl ?_ | refine qcF rfl ?_ | refine T_skip ?_
          | refine T_ret ?_ | refine E_then ?_ | refine E_thenR ?_ | refine qv rfl (qfld FldC.fld rfl rfl) rfl rfl ?_ | refine qv rfl (rr_not rfl rfl) rfl rfl ?_
          | refine qv rfl (rr_nilc rfl) rfl rfl ?_ | refine qv rfl (rr_eql rfl rfl (qT (by omega))) rfl rfl ?_
          | refine qv rfl (rr_eql rfl rfl (qF (by omega))) rfl rfl ?_ | refine qv rfl (rr_add64 rfl rfl (by omega) (by omega) rfl) rfl rfl ?_
          | refine qv rfl (rr_sub64 rfl rfl (by omega) (by omega) rfl) rfl rfl ?_)
        refine TL_callB [3] [0, 1, 2] (by decide) rfl rfl (he2 EntersC.en rfl rfl rfl) (fun w hm hb => rdFail_calls g s ⟨p1, o, e1'⟩ 6 w _ hb) rfl rfl rfl ?_
        intro _ _
        conv => arg 8; simp only [zA, zB, zC, zD, zE, zF, zG, zH, zI, rowS, ret, id_eq]
        repeat (first
          | refine qv rfl (qp rfl) rfl rfl ?_ | refine TL_nil ?_ | refine T_seq ?_ | refine T_region ?_ | refine qcT rfl ?_ | refine qcF rfl ?_ | refine T_skip ?_
          | refine T_ret ?_ | refine E_then ?_ | refine E_thenR ?_ | refine qv rfl (rr_loadB (i := 2) TyC.ty rfl rfl rfl) rfl rfl ?_
          | refine qv rfl (qfld FldC.fld rfl rfl) rfl rfl ?_ | refine qv rfl (rr_not rfl rfl) rfl rfl ?_ | refine qv rfl (rr_nilc rfl) rfl rfl ?_
          | refine qv rfl (rr_eql rfl rfl (qT (by omega))) rfl rfl ?_ | refine qv rfl (rr_eql rfl rfl (qF (by omega))) rfl rfl ?_
          | refine qv rfl (rr_add64 rfl rfl (by omega) (by omega) rfl) rfl rfl ?_ | refine qv rfl (rr_sub64 rfl rfl (by omega) (by omega) rfl) rfl rfl ?_)
        refine TL_storeB (i := 0) (cs' := (rexC r.kind r.cls (.slice b1 n1 c1)).toArray) rfl rfl rfl rfl rfl rfl ?_
        conv => arg 8; simp only [zA, zB, zC, zD, zE, zF, zG, zH, zI, rowS, ret, id_eq]
        repeat (first
          | refine qv rfl (qp rfl) rfl rfl ?_ | refine TL_nil ?_ | refine T_seq ?_ | refine T_region ?_ | refine qcT rfl ?_ | refine qcF rfl ?_ | refine T_skip ?_
          | refine T_ret ?_ | refine E_then ?_ | refine E_thenR ?_ | refine qv rfl (qfld FldC.fld rfl rfl) rfl rfl ?_ | refine qv rfl (rr_not rfl rfl) rfl rfl ?_
          | refine qv rfl (rr_nilc rfl) rfl rfl ?_ | refine qv rfl (rr_eql rfl rfl (qT (by omega))) rfl rfl ?_
          | refine qv rfl (rr_eql rfl rfl (qF (by omega))) rfl rfl ?_ | refine qv rfl (rr_add64 rfl rfl (by omega) (by omega) rfl) rfl rfl ?_
          | refine qv rfl (rr_sub64 rfl rfl (by omega) (by omega) rfl) rfl rfl ?_)
        exact E_retc1 (i := 0) rfl rfl rfl rfl fun w hm => hm.meetsB (S := rxSp g s (r, failS ⟨p1, o, e1'⟩ 6)) (.slice b1 n1 c1, F1) hok1 [1, 3] (by decide) rfl
theorem rd_at (g : Nat) (s : Txt) (hs : s.length ≤ 300) : ∀ N f, f < N → RdAt g s f
  | 0, f, h => absurd h (Nat.not_lt_zero _)
  | N + 1, f, h => by
    have IH : ∀ f', f' < f → RdAt g s f' := fun f' h' => rd_at g s hs N f' (by omega)
    exact ⟨fun h hp he ho hm => rdAlt g s hs f IH h hp he ho hm, fun h hp he ho hm => rdCat g s hs f IH h hp he ho hm, fun h hp he ho hm => rdRep g s hs f IH h hp he ho hm, fun h hp he ho hm => rdAtom g s hs f IH h hp he ho hm, fun h hp he ho hm => rdBr g s hs f IH h hp he ho hm⟩
def parSp (R : Rx × Int × Int) : Spec (Value × (Nat → Prop)) := ⟨fun _ => kit.okI64 R.1.kind, fun x => .tuple #[rexV R.1.kind R.1.cls x.1, .int .i64 R.2.1, .int .i64 R.2.2], fun x => [rkO x.2 x.1 R.1.kids]⟩
theorem build_rd (s : Txt) (w : World) : (Instr.build 42 #[(0, str s)]).run Tryd.prog w = .ok (.agg (rdC s ⟨0, 0, 0⟩)) w := by
  unfold rdC str; go_simp
set_option maxRecDepth 100000 in
set_option maxHeartbeats 8000000 in
theorem rexParse_calls (s : Txt) (R : Rx × Int × Int) (hR : parseF s = some R) (w : World) : Calls Tryd.prog 5 #[str s] w (Meets (parSp R) w) := by
  unfold parseF at hR
  refine enter (args := [str s]) (n := 56) Tryd.func5 rfl rfl rfl ?_
  refine T_seq (T_region (TL_new rfl fun g2 => ?_))
  conv => arg 8; simp only [zA, zB, zC, zD, zE, zF, zG, zH, zI, rowS, ret, id_eq]
  by_cases c0 : 300 < s.length
  · rw [if_pos c0] at hR
    cases hR
    repeat (first
      | refine qv rfl (qp rfl) rfl rfl ?_ | refine TL_nil ?_ | refine T_seq ?_ | refine T_region ?_ | refine qcT rfl ?_ | refine qcF rfl ?_ | refine T_skip ?_
      | refine T_ret ?_ | refine E_then ?_ | refine E_thenR ?_ | refine qs rfl rfl rfl rfl rfl rfl ?_
      | ((try refine qg rfl rfl rfl ?_); first | refine qv rfl (qp rfl) rfl rfl ?_ | refine qv rfl (rr_build rfl build_rx0) rfl rfl ?_ | refine qv rfl (rr_strlen Und.eq rfl) rfl rfl ?_ | refine qv rfl (qfld FldC.fld rfl rfl) rfl rfl ?_ | refine qv rfl (rr_nilc rfl) rfl rfl ?_ | refine qv rfl (rr_gtr rfl rfl (qT (by omega))) rfl rfl ?_ | refine qv rfl (rr_gtr rfl rfl (qF (by omega))) rfl rfl ?_ | refine qv rfl (rr_eql rfl rfl (qT (by omega))) rfl rfl ?_ | refine qv rfl (rr_eql rfl rfl (qF (by omega))) rfl rfl ?_ | refine qv rfl (rr_neq rfl rfl (qT (by omega))) rfl rfl ?_ | refine qv rfl (rr_neq rfl rfl (qF (by omega))) rfl rfl ?_ | refine qv rfl (rr_lss rfl rfl (qT (by omega))) rfl rfl ?_ | refine qv rfl (rr_lss rfl rfl (qF (by omega))) rfl rfl ?_))
    refine TL_storeB (i := 0) (cs' := (rexC 0 C4.zero (.slice none 0 0)).toArray) rfl rfl rfl rfl rfl rfl ?_
    conv => arg 8; simp only [zA, zB, zC, zD, zE, zF, zG, zH, zI, rowS, ret, id_eq]
    refine TL_extra (rkO (fun _ => False) (.slice none 0 0) []) (fun k hk => rk_foot hk) (fun w => rk_nil w) ?_
    conv => arg 8; simp only [zA, zB, zC, zD, zE, zF, zG, zH, zI, rowS, ret, id_eq]
    repeat (first
      | refine qv rfl (qp rfl) rfl rfl ?_ | refine TL_nil ?_ | refine T_seq ?_ | refine T_region ?_ | refine qcT rfl ?_ | refine qcF rfl ?_ | refine T_skip ?_
      | refine T_ret ?_ | refine E_then ?_ | refine E_thenR ?_ | refine qs rfl rfl rfl rfl rfl rfl ?_
      | ((try refine qg rfl rfl rfl ?_); first | refine qv rfl (qp rfl) rfl rfl ?_ | refine qv rfl (rr_strlen Und.eq rfl) rfl rfl ?_ | refine qv rfl (qfld FldC.fld rfl rfl) rfl rfl ?_ | refine qv rfl (rr_nilc rfl) rfl rfl ?_ | refine qv rfl (rr_gtr rfl rfl (qT (by omega))) rfl rfl ?_ | refine qv rfl (rr_gtr rfl rfl (qF (by omega))) rfl rfl ?_ | refine qv rfl (rr_eql rfl rfl (qT (by omega))) rfl rfl ?_ | refine qv rfl (rr_eql rfl rfl (qF (by omega))) rfl rfl ?_ | refine qv rfl (rr_neq rfl rfl (qT (by omega))) rfl rfl ?_ | refine qv rfl (rr_neq rfl rfl (qF (by omega))) rfl rfl ?_ | refine qv rfl (rr_lss rfl rfl (qT (by omega))) rfl rfl ?_ | refine qv rfl (rr_lss rfl rfl (qF (by omega))) rfl rfl ?_))
    exact E_retc3 (i := 0) rfl rfl rfl rfl rfl rfl fun w hm => hm.meets (S := parSp (.mk 0 C4.zero [], 0, 2)) (.slice none 0 0, fun _ => False) (by show kit.okI64 0; unfold kit.okI64; omega) [1] (by decide) rfl
  · rw [if_neg c0] at hR
    cases hc : altF s (8 * s.length + 16) ⟨0, 0, 0⟩ with
    | none => rw [hc] at hR; cases hR
    | some X =>
    obtain ⟨r, st⟩ := X
    rw [hc] at hR
    have hg1 := (goes_at s _).1 _ _ hc (Nat.zero_le _)
    have hle : st.p ≤ s.length := hg1.le
    have halt := fun g w B (hm : Mem B [rdO g s ⟨0, 0, 0⟩] w) => (rd_at g s (by omega) _ (8 * s.length + 16) (Nat.lt_succ_self _)).alt hc (Nat.zero_le _) rfl (Nat.zero_le _) hm
    repeat (first
      | refine qv rfl (qp rfl) rfl rfl ?_ | refine TL_nil ?_ | refine T_seq ?_ | refine T_region ?_ | refine qcT rfl ?_ | refine qcF rfl ?_ | refine T_skip ?_
      | refine T_ret ?_ | refine E_then ?_ | refine E_thenR ?_ | refine qs rfl rfl rfl rfl rfl rfl ?_
      | ((try refine qg rfl rfl rfl ?_); first | refine qv rfl (qp rfl) rfl rfl ?_ | refine qv rfl (rr_build rfl (build_rd s)) rfl rfl ?_ | refine qv rfl (rr_strlen Und.eq rfl) rfl rfl ?_ | refine qv rfl (qfld FldC.fld rfl rfl) rfl rfl ?_ | refine qv rfl (rr_nilc rfl) rfl rfl ?_ | refine qv rfl (rr_gtr rfl rfl (qT (by omega))) rfl rfl ?_ | refine qv rfl (rr_gtr rfl rfl (qF (by omega))) rfl rfl ?_ | refine qv rfl (rr_eql rfl rfl (qT (by omega))) rfl rfl ?_ | refine qv rfl (rr_eql rfl rfl (qF (by omega))) rfl rfl ?_ | refine qv rfl (rr_neq rfl rfl (qT (by omega))) rfl rfl ?_ | refine qv rfl (rr_neq rfl rfl (qF (by omega))) rfl rfl ?_ | refine qv rfl (rr_lss rfl rfl (qT (by omega))) rfl rfl ?_ | refine qv rfl (rr_lss rfl rfl (qF (by omega))) rfl rfl ?_))
    refine TL_box rfl rfl rfl fun g5 => ?_
    conv => arg 8; simp only [zA, zB, zC, zD, zE, zF, zG, zH, zI, rowS, ret, id_eq]
    repeat (first
      | refine qv rfl (qp rfl) rfl rfl ?_ | refine TL_nil ?_ | refine T_seq ?_ | refine T_region ?_ | refine qcT rfl ?_ | refine qcF rfl ?_ | refine T_skip ?_
      | refine T_ret ?_ | refine E_then ?_ | refine E_thenR ?_ | refine qs rfl rfl rfl rfl rfl rfl ?_
      | ((try refine qg rfl rfl rfl ?_); first | refine qv rfl (qp rfl) rfl rfl ?_ | refine qv rfl (rr_strlen Und.eq rfl) rfl rfl ?_ | refine qv rfl (qfld FldC.fld rfl rfl) rfl rfl ?_ | refine qv rfl (rr_nilc rfl) rfl rfl ?_ | refine qv rfl (rr_gtr rfl rfl (qT (by omega))) rfl rfl ?_ | refine qv rfl (rr_gtr rfl rfl (qF (by omega))) rfl rfl ?_ | refine qv rfl (rr_eql rfl rfl (qT (by omega))) rfl rfl ?_ | refine qv rfl (rr_eql rfl rfl (qF (by omega))) rfl rfl ?_ | refine qv rfl (rr_neq rfl rfl (qT (by omega))) rfl rfl ?_ | refine qv rfl (rr_neq rfl rfl (qF (by omega))) rfl rfl ?_ | refine qv rfl (rr_lss rfl rfl (qT (by omega))) rfl rfl ?_ | refine qv rfl (rr_lss rfl rfl (qF (by omega))) rfl rfl ?_))
    refine TL_callB [1] [0] (by decide) rfl rfl (he1 EntersC.en rfl rfl) (fun w hm hb => halt g5 w _ hb) rfl rfl rfl ?_
    rintro ⟨v1, F1⟩ hok1
    conv => arg 8; simp only [zA, zB, zC, zD, zE, zF, zG, zH, zI, rowS, ret, id_eq, rxSp]
    conv => arg 7; simp only [rxSp]
    refine TL_know (i := 1) rfl (fun w h => rkO_form h) fun hv1 => ?_
    obtain ⟨b1, n1, c1, rfl⟩ := hv1
    refine TL_new rfl fun g6 => ?_
    conv => arg 8; simp only [zA, zB, zC, zD, zE, zF, zG, zH, zI, rowS, ret, id_eq]
    refine TL_storeB (i := 3) (cs' := (rexC r.kind r.cls (.slice b1 n1 c1)).toArray) rfl rfl rfl rfl rfl rfl ?_
    conv => arg 8; simp only [zA, zB, zC, zD, zE, zF, zG, zH, zI, rowS, ret, id_eq]
    clear hc hg1 halt
    have hchk := fun w (h : RexR (Low w) w (rexV r.kind r.cls (.slice b1 n1 c1)) r) => rexCheck_calls _ r w h
    unfold chkX at hchk
    dsimp only at hR
    obtain ⟨p, o, e⟩ := st
    dsimp only at hR hle
    by_cases c1' : e = 0
    · subst c1'
      by_cases c2 : p < s.length
      · rw [if_pos (show (0 : Int) = 0 ∧ p < s.length from ⟨rfl, c2⟩), failS_0, if_pos (show (6 : Int) ≠ 0 by decide)] at hR
        cases hR
        repeat (first
          | refine qv rfl (qp rfl) rfl rfl ?_ | refine TL_nil ?_ | refine T_seq ?_ | refine T_region ?_ | refine qcT rfl ?_ | refine qcF rfl ?_ | refine T_skip ?_
          | refine T_ret ?_ | refine E_then ?_ | refine E_thenR ?_ | refine qs rfl rfl rfl rfl rfl rfl ?_
          | ((try refine qg rfl rfl rfl ?_); first | refine qv rfl (qp rfl) rfl rfl ?_ | refine qv rfl (rr_nilc rfl) rfl rfl ?_ | refine qv rfl (rr_load1 (v := .int .i64 0) TyC.ty rfl (at_blk (i := 2) rfl rfl)) rfl rfl ?_ | refine qv rfl (rr_eql (b := true) rfl rfl rfl) rfl rfl ?_ | refine qv rfl (rr_load1 (v := .int .i64 (p : Int)) TyC.ty rfl (at_blk (i := 2) rfl rfl)) rfl rfl ?_ | refine qv rfl (rr_strlen Und.eq rfl) rfl rfl ?_ | refine qv rfl (qfld FldC.fld rfl rfl) rfl rfl ?_ | refine qv rfl (rr_nilc rfl) rfl rfl ?_ | refine qv rfl (rr_gtr rfl rfl (qT (by omega))) rfl rfl ?_ | refine qv rfl (rr_gtr rfl rfl (qF (by omega))) rfl rfl ?_ | refine qv rfl (rr_eql rfl rfl (qT (by omega))) rfl rfl ?_ | refine qv rfl (rr_eql rfl rfl (qF (by omega))) rfl rfl ?_ | refine qv rfl (rr_neq rfl rfl (qT (by omega))) rfl rfl ?_ | refine qv rfl (rr_neq rfl rfl (qF (by omega))) rfl rfl ?_ | refine qv rfl (rr_lss rfl rfl (qT (by omega))) rfl rfl ?_ | refine qv rfl (rr_lss rfl rfl (qF (by omega))) rfl rfl ?_))
        refine TL_callB [2] [0, 1, 3] (by decide) rfl rfl (he2 EntersC.en rfl rfl rfl) (fun w hm hb => rdFail_calls g5 s ⟨p, o, 0⟩ 6 w _ hb) rfl rfl rfl ?_
        intro _ _
        rw [failS_0]
        conv => arg 8; simp only [zA, zB, zC, zD, zE, zF, zG, zH, zI, rowS, ret, id_eq]
        repeat (first
          | refine qv rfl (qp rfl) rfl rfl ?_ | refine TL_nil ?_ | refine T_seq ?_ | refine T_region ?_ | refine qcT rfl ?_ | refine qcF rfl ?_ | refine T_skip ?_
          | refine T_ret ?_ | refine E_then ?_ | refine E_thenR ?_ | refine qs rfl rfl rfl rfl rfl rfl ?_
          | ((try refine qg rfl rfl rfl ?_); first | refine qv rfl (qp rfl) rfl rfl ?_ | refine qv rfl (rr_nilc rfl) rfl rfl ?_ | refine qv rfl (rr_load1 (v := .int .i64 6) TyC.ty rfl (at_blk (i := 3) rfl rfl)) rfl rfl ?_ | refine qv rfl (rr_strlen Und.eq rfl) rfl rfl ?_ | refine qv rfl (qfld FldC.fld rfl rfl) rfl rfl ?_ | refine qv rfl (rr_nilc rfl) rfl rfl ?_ | refine qv rfl (rr_gtr rfl rfl (qT (by omega))) rfl rfl ?_ | refine qv rfl (rr_gtr rfl rfl (qF (by omega))) rfl rfl ?_ | refine qv rfl (rr_eql rfl rfl (qT (by omega))) rfl rfl ?_ | refine qv rfl (rr_eql rfl rfl (qF (by omega))) rfl rfl ?_ | refine qv rfl (rr_neq rfl rfl (qT (by omega))) rfl rfl ?_ | refine qv rfl (rr_neq rfl rfl (qF (by omega))) rfl rfl ?_ | refine qv rfl (rr_lss rfl rfl (qT (by omega))) rfl rfl ?_ | refine qv rfl (rr_lss rfl rfl (qF (by omega))) rfl rfl ?_))
        refine T_ord ([rdO g5 s ⟨p, o, 6⟩]) (.calm 0 (.calm 1 (.calm 2 (.calm 3 (.calm 4 (.calm 5 (.calm 6 (.calm 7 (.calm 8 (.one 9 (.calm 10 (.calm 11 (.done))))))))))))) (sub_pick [3] (by decide) rfl) (by kernel_rfl) (by kernel_rfl) (by intro c a d v w h; cases d <;> exact h) ?_
        repeat (first
          | ((first | refine TW_plain rfl rfl ?_ | refine TW_gmet rfl rfl rfl rfl ?_); first | refine TN_val (qp rfl) rfl rfl ?_ | refine TN_val (rr_nilc rfl) rfl rfl ?_ | refine TN_val (rr_load1 (v := .int .i64 6) TyC.ty rfl (at_blk (i := 0) rfl rfl)) rfl rfl ?_ | refine TN_val (rr_load1 (v := .int .i64 (p : Int)) TyC.ty rfl (at_blk (i := 0) rfl rfl)) rfl rfl ?_ | refine TN_val (rr_build rfl build_rx0) rfl rfl ?_ | refine TN_val (rr_strlen Und.eq rfl) rfl rfl ?_ | refine TN_val (qfld FldC.fld rfl rfl) rfl rfl ?_ | refine TN_val (rr_nilc rfl) rfl rfl ?_ | refine TN_val (rr_gtr rfl rfl (qT (by omega))) rfl rfl ?_ | refine TN_val (rr_gtr rfl rfl (qF (by omega))) rfl rfl ?_ | refine TN_val (rr_eql rfl rfl (qT (by omega))) rfl rfl ?_ | refine TN_val (rr_eql rfl rfl (qF (by omega))) rfl rfl ?_ | refine TN_val (rr_neq rfl rfl (qT (by omega))) rfl rfl ?_ | refine TN_val (rr_neq rfl rfl (qF (by omega))) rfl rfl ?_ | refine TN_val (rr_lss rfl rfl (qT (by omega))) rfl rfl ?_ | refine TN_val (rr_lss rfl rfl (qF (by omega))) rfl rfl ?_)
          | refine TW_skip rfl rfl rfl rfl rfl rfl rfl ?_ | refine TW_done ?_)
        refine TW_one rfl (TL_storeB (i := 0) (cs' := (rexC 0 C4.zero (.slice none 0 0)).toArray) rfl rfl rfl rfl rfl rfl (TW_on (sub_pick [3] (by decide) rfl) ?_))
        repeat (first
          | ((first | refine TW_plain rfl rfl ?_ | refine TW_gmet rfl rfl rfl rfl ?_); first | refine TN_val (qp rfl) rfl rfl ?_ | refine TN_val (rr_strlen Und.eq rfl) rfl rfl ?_ | refine TN_val (qfld FldC.fld rfl rfl) rfl rfl ?_ | refine TN_val (rr_nilc rfl) rfl rfl ?_ | refine TN_val (rr_gtr rfl rfl (qT (by omega))) rfl rfl ?_ | refine TN_val (rr_gtr rfl rfl (qF (by omega))) rfl rfl ?_ | refine TN_val (rr_eql rfl rfl (qT (by omega))) rfl rfl ?_ | refine TN_val (rr_eql rfl rfl (qF (by omega))) rfl rfl ?_ | refine TN_val (rr_neq rfl rfl (qT (by omega))) rfl rfl ?_ | refine TN_val (rr_neq rfl rfl (qF (by omega))) rfl rfl ?_ | refine TN_val (rr_lss rfl rfl (qT (by omega))) rfl rfl ?_ | refine TN_val (rr_lss rfl rfl (qF (by omega))) rfl rfl ?_)
          | refine TW_skip rfl rfl rfl rfl rfl rfl rfl ?_ | refine TW_done ?_)
        refine E_extra (rkO (fun _ => False) (.slice none 0 0) []) (fun k hk => rk_foot hk) (fun w => rk_nil w) ?_
        repeat (first
          | refine qv rfl (qp rfl) rfl rfl ?_ | refine TL_nil ?_ | refine T_seq ?_ | refine T_region ?_ | refine qcT rfl ?_ | refine qcF rfl ?_ | refine T_skip ?_
          | refine T_ret ?_ | refine E_then ?_ | refine E_thenR ?_ | refine qs rfl rfl rfl rfl rfl rfl ?_
          | ((try refine qg rfl rfl rfl ?_); first | refine qv rfl (qp rfl) rfl rfl ?_ | refine qv rfl (rr_strlen Und.eq rfl) rfl rfl ?_ | refine qv rfl (qfld FldC.fld rfl rfl) rfl rfl ?_ | refine qv rfl (rr_nilc rfl) rfl rfl ?_ | refine qv rfl (rr_gtr rfl rfl (qT (by omega))) rfl rfl ?_ | refine qv rfl (rr_gtr rfl rfl (qF (by omega))) rfl rfl ?_ | refine qv rfl (rr_eql rfl rfl (qT (by omega))) rfl rfl ?_ | refine qv rfl (rr_eql rfl rfl (qF (by omega))) rfl rfl ?_ | refine qv rfl (rr_neq rfl rfl (qT (by omega))) rfl rfl ?_ | refine qv rfl (rr_neq rfl rfl (qF (by omega))) rfl rfl ?_ | refine qv rfl (rr_lss rfl rfl (qT (by omega))) rfl rfl ?_ | refine qv rfl (rr_lss rfl rfl (qF (by omega))) rfl rfl ?_))
        exact E_retc3 (i := 0) rfl rfl rfl rfl rfl rfl fun w hm => hm.meets (S := parSp (.mk 0 C4.zero [], (p : Int), 6)) (.slice none 0 0, fun _ => False) (by show kit.okI64 0; unfold kit.okI64; omega) [4] (by decide) rfl
      · rw [if_neg (show ¬ ((0 : Int) = 0 ∧ p < s.length) by rintro ⟨_, h⟩; exact c2 h), if_neg (show ¬ ((0 : Int) ≠ 0) by decide)] at hR
        repeat (first
          | refine qv rfl (qp rfl) rfl rfl ?_ | refine TL_nil ?_ | refine T_seq ?_ | refine T_region ?_ | refine qcT rfl ?_ | refine qcF rfl ?_ | refine T_skip ?_
          | refine T_ret ?_ | refine E_then ?_ | refine E_thenR ?_ | refine qs rfl rfl rfl rfl rfl rfl ?_
          | ((try refine qg rfl rfl rfl ?_); first | refine qv rfl (qp rfl) rfl rfl ?_ | refine qv rfl (rr_nilc rfl) rfl rfl ?_ | refine qv rfl (rr_load1 (v := .int .i64 0) TyC.ty rfl (at_blk (i := 2) rfl rfl)) rfl rfl ?_ | refine qv rfl (rr_eql (b := true) rfl rfl rfl) rfl rfl ?_ | refine qv rfl (rr_load1 (v := .int .i64 (p : Int)) TyC.ty rfl (at_blk (i := 2) rfl rfl)) rfl rfl ?_ | refine qv rfl (rr_neq (b := false) rfl rfl rfl) rfl rfl ?_ | refine qv rfl (rr_loadB (i := 3) TyC.ty rfl rfl rfl) rfl rfl ?_ | refine qv rfl (rr_strlen Und.eq rfl) rfl rfl ?_ | refine qv rfl (qfld FldC.fld rfl rfl) rfl rfl ?_ | refine qv rfl (rr_nilc rfl) rfl rfl ?_ | refine qv rfl (rr_gtr rfl rfl (qT (by omega))) rfl rfl ?_ | refine qv rfl (rr_gtr rfl rfl (qF (by omega))) rfl rfl ?_ | refine qv rfl (rr_eql rfl rfl (qT (by omega))) rfl rfl ?_ | refine qv rfl (rr_eql rfl rfl (qF (by omega))) rfl rfl ?_ | refine qv rfl (rr_neq rfl rfl (qT (by omega))) rfl rfl ?_ | refine qv rfl (rr_neq rfl rfl (qF (by omega))) rfl rfl ?_ | refine qv rfl (rr_lss rfl rfl (qT (by omega))) rfl rfl ?_ | refine qv rfl (rr_lss rfl rfl (qF (by omega))) rfl rfl ?_))
        refine TL_call (he1 EntersC.en rfl rfl) (fun w hm => hchk w (rk_rex hok1 (hm.get (i := 1) rfl))) rfl rfl rfl ?_
        intro _ _
        conv => arg 8; simp only [zA, zB, zC, zD, zE, zF, zG, zH, zI, rowS, ret, id_eq]
        generalize (chk r 1 0).1 = ec at *
        by_cases c3 : ec ≠ 0
        · rw [if_pos c3] at hR
          cases hR
          repeat (first
            | refine qv rfl (qp rfl) rfl rfl ?_ | refine TL_nil ?_ | refine T_seq ?_ | refine T_region ?_ | refine qcT rfl ?_ | refine qcF rfl ?_ | refine T_skip ?_
            | refine T_ret ?_ | refine E_then ?_ | refine E_thenR ?_ | refine qs rfl rfl rfl rfl rfl rfl ?_
            | ((try refine qg rfl rfl rfl ?_); first | refine qv rfl (qp rfl) rfl rfl ?_ | refine qv rfl (rr_neq (b := true) rfl rfl (decide_eq_true c3)) rfl rfl ?_ | refine qv rfl (rr_build rfl build_rx0) rfl rfl ?_ | refine qv rfl (rr_strlen Und.eq rfl) rfl rfl ?_ | refine qv rfl (qfld FldC.fld rfl rfl) rfl rfl ?_ | refine qv rfl (rr_nilc rfl) rfl rfl ?_ | refine qv rfl (rr_gtr rfl rfl (qT (by omega))) rfl rfl ?_ | refine qv rfl (rr_gtr rfl rfl (qF (by omega))) rfl rfl ?_ | refine qv rfl (rr_eql rfl rfl (qT (by omega))) rfl rfl ?_ | refine qv rfl (rr_eql rfl rfl (qF (by omega))) rfl rfl ?_ | refine qv rfl (rr_neq rfl rfl (qT (by omega))) rfl rfl ?_ | refine qv rfl (rr_neq rfl rfl (qF (by omega))) rfl rfl ?_ | refine qv rfl (rr_lss rfl rfl (qT (by omega))) rfl rfl ?_ | refine qv rfl (rr_lss rfl rfl (qF (by omega))) rfl rfl ?_))
          refine TL_storeB (i := 0) (cs' := (rexC 0 C4.zero (.slice none 0 0)).toArray) rfl rfl rfl rfl rfl rfl ?_
          conv => arg 8; simp only [zA, zB, zC, zD, zE, zF, zG, zH, zI, rowS, ret, id_eq]
          refine TL_extra (rkO (fun _ => False) (.slice none 0 0) []) (fun k hk => rk_foot hk) (fun w => rk_nil w) ?_
          conv => arg 8; simp only [zA, zB, zC, zD, zE, zF, zG, zH, zI, rowS, ret, id_eq]
          repeat (first
            | refine qv rfl (qp rfl) rfl rfl ?_ | refine TL_nil ?_ | refine T_seq ?_ | refine T_region ?_ | refine qcT rfl ?_ | refine qcF rfl ?_ | refine T_skip ?_
            | refine T_ret ?_ | refine E_then ?_ | refine E_thenR ?_ | refine qs rfl rfl rfl rfl rfl rfl ?_
            | ((try refine qg rfl rfl rfl ?_); first | refine qv rfl (qp rfl) rfl rfl ?_ | refine qv rfl (rr_strlen Und.eq rfl) rfl rfl ?_ | refine qv rfl (qfld FldC.fld rfl rfl) rfl rfl ?_ | refine qv rfl (rr_nilc rfl) rfl rfl ?_ | refine qv rfl (rr_gtr rfl rfl (qT (by omega))) rfl rfl ?_ | refine qv rfl (rr_gtr rfl rfl (qF (by omega))) rfl rfl ?_ | refine qv rfl (rr_eql rfl rfl (qT (by omega))) rfl rfl ?_ | refine qv rfl (rr_eql rfl rfl (qF (by omega))) rfl rfl ?_ | refine qv rfl (rr_neq rfl rfl (qT (by omega))) rfl rfl ?_ | refine qv rfl (rr_neq rfl rfl (qF (by omega))) rfl rfl ?_ | refine qv rfl (rr_lss rfl rfl (qT (by omega))) rfl rfl ?_ | refine qv rfl (rr_lss rfl rfl (qF (by omega))) rfl rfl ?_))
          exact E_retc3 (i := 0) rfl rfl rfl rfl rfl rfl fun w hm => hm.meets (S := parSp (.mk 0 C4.zero [], (s.length : Int), ec)) (.slice none 0 0, fun _ => False) (by show kit.okI64 0; unfold kit.okI64; omega) [4] (by decide) rfl
        · rw [if_neg c3] at hR
          cases hR
          repeat (first
            | refine qv rfl (qp rfl) rfl rfl ?_ | refine TL_nil ?_ | refine T_seq ?_ | refine T_region ?_ | refine qcT rfl ?_ | refine qcF rfl ?_ | refine T_skip ?_
            | refine T_ret ?_ | refine E_then ?_ | refine E_thenR ?_ | refine qs rfl rfl rfl rfl rfl rfl ?_
            | ((try refine qg rfl rfl rfl ?_); first | refine qv rfl (qp rfl) rfl rfl ?_ | refine qv rfl (rr_neq (b := false) rfl rfl (decide_eq_false c3)) rfl rfl ?_ | refine qv rfl (rr_loadB (i := 3) TyC.ty rfl rfl rfl) rfl rfl ?_ | refine qv rfl (rr_strlen Und.eq rfl) rfl rfl ?_ | refine qv rfl (qfld FldC.fld rfl rfl) rfl rfl ?_ | refine qv rfl (rr_nilc rfl) rfl rfl ?_ | refine qv rfl (rr_gtr rfl rfl (qT (by omega))) rfl rfl ?_ | refine qv rfl (rr_gtr rfl rfl (qF (by omega))) rfl rfl ?_ | refine qv rfl (rr_eql rfl rfl (qT (by omega))) rfl rfl ?_ | refine qv rfl (rr_eql rfl rfl (qF (by omega))) rfl rfl ?_ | refine qv rfl (rr_neq rfl rfl (qT (by omega))) rfl rfl ?_ | refine qv rfl (rr_neq rfl rfl (qF (by omega))) rfl rfl ?_ | refine qv rfl (rr_lss rfl rfl (qT (by omega))) rfl rfl ?_ | refine qv rfl (rr_lss rfl rfl (qF (by omega))) rfl rfl ?_))
          refine TL_storeB (i := 0) (cs' := (rexC r.kind r.cls (.slice b1 n1 c1)).toArray) rfl rfl rfl rfl rfl rfl ?_
          conv => arg 8; simp only [zA, zB, zC, zD, zE, zF, zG, zH, zI, rowS, ret, id_eq]
          repeat (first
            | refine qv rfl (qp rfl) rfl rfl ?_ | refine TL_nil ?_ | refine T_seq ?_ | refine T_region ?_ | refine qcT rfl ?_ | refine qcF rfl ?_ | refine T_skip ?_
            | refine T_ret ?_ | refine E_then ?_ | refine E_thenR ?_ | refine qs rfl rfl rfl rfl rfl rfl ?_
            | ((try refine qg rfl rfl rfl ?_); first | refine qv rfl (qp rfl) rfl rfl ?_ | refine qv rfl (rr_strlen Und.eq rfl) rfl rfl ?_ | refine qv rfl (qfld FldC.fld rfl rfl) rfl rfl ?_ | refine qv rfl (rr_nilc rfl) rfl rfl ?_ | refine qv rfl (rr_gtr rfl rfl (qT (by omega))) rfl rfl ?_ | refine qv rfl (rr_gtr rfl rfl (qF (by omega))) rfl rfl ?_ | refine qv rfl (rr_eql rfl rfl (qT (by omega))) rfl rfl ?_ | refine qv rfl (rr_eql rfl rfl (qF (by omega))) rfl rfl ?_ | refine qv rfl (rr_neq rfl rfl (qT (by omega))) rfl rfl ?_ | refine qv rfl (rr_neq rfl rfl (qF (by omega))) rfl rfl ?_ | refine qv rfl (rr_lss rfl rfl (qT (by omega))) rfl rfl ?_ | refine qv rfl (rr_lss rfl rfl (qF (by omega))) rfl rfl ?_))
          exact E_retc3 (i := 0) rfl rfl rfl rfl rfl rfl fun w hm => hm.meets (S := parSp (r, 0, 0)) (.slice b1 n1 c1, F1) hok1 [1] (by decide) rfl
    · rw [if_neg (show ¬ (e = 0 ∧ p < s.length) by rintro ⟨h, _⟩; exact c1' h), if_pos (show e ≠ 0 from c1')] at hR
      cases hR
      repeat (first
        | refine qv rfl (qp rfl) rfl rfl ?_ | refine TL_nil ?_ | refine T_seq ?_ | refine T_region ?_ | refine qcT rfl ?_ | refine qcF rfl ?_ | refine T_skip ?_
        | refine T_ret ?_ | refine E_then ?_ | refine E_thenR ?_ | refine qs rfl rfl rfl rfl rfl rfl ?_
        | ((try refine qg rfl rfl rfl ?_); first | refine qv rfl (qp rfl) rfl rfl ?_ | refine qv rfl (rr_nilc rfl) rfl rfl ?_ | refine qv rfl (rr_load1 (v := .int .i64 e) TyC.ty rfl (at_blk (i := 2) rfl rfl)) rfl rfl ?_ | refine qv rfl (rr_eql (b := false) rfl rfl (decide_eq_false c1')) rfl rfl ?_ | refine qv rfl (rr_neq (b := true) rfl rfl (decide_eq_true c1')) rfl rfl ?_ | refine qv rfl (rr_strlen Und.eq rfl) rfl rfl ?_ | refine qv rfl (qfld FldC.fld rfl rfl) rfl rfl ?_ | refine qv rfl (rr_nilc rfl) rfl rfl ?_ | refine qv rfl (rr_gtr rfl rfl (qT (by omega))) rfl rfl ?_ | refine qv rfl (rr_gtr rfl rfl (qF (by omega))) rfl rfl ?_ | refine qv rfl (rr_eql rfl rfl (qT (by omega))) rfl rfl ?_ | refine qv rfl (rr_eql rfl rfl (qF (by omega))) rfl rfl ?_ | refine qv rfl (rr_neq rfl rfl (qT (by omega))) rfl rfl ?_ | refine qv rfl (rr_neq rfl rfl (qF (by omega))) rfl rfl ?_ | refine qv rfl (rr_lss rfl rfl (qT (by omega))) rfl rfl ?_ | refine qv rfl (rr_lss rfl rfl (qF (by omega))) rfl rfl ?_))
      refine T_ord ([rdO g5 s ⟨p, o, e⟩]) (.calm 0 (.calm 1 (.calm 2 (.calm 3 (.calm 4 (.calm 5 (.calm 6 (.calm 7 (.calm 8 (.one 9 (.calm 10 (.calm 11 (.done))))))))))))) (sub_pick [2] (by decide) rfl) (by kernel_rfl) (by kernel_rfl) (by intro c a d v w h; cases d <;> exact h) ?_
      repeat (first
        | ((first | refine TW_plain rfl rfl ?_ | refine TW_gmet rfl rfl rfl rfl ?_); first | refine TN_val (qp rfl) rfl rfl ?_ | refine TN_val (rr_nilc rfl) rfl rfl ?_ | refine TN_val (rr_load1 (v := .int .i64 e) TyC.ty rfl (at_blk (i := 0) rfl rfl)) rfl rfl ?_ | refine TN_val (rr_load1 (v := .int .i64 (p : Int)) TyC.ty rfl (at_blk (i := 0) rfl rfl)) rfl rfl ?_ | refine TN_val (rr_build rfl build_rx0) rfl rfl ?_ | refine TN_val (rr_strlen Und.eq rfl) rfl rfl ?_ | refine TN_val (qfld FldC.fld rfl rfl) rfl rfl ?_ | refine TN_val (rr_nilc rfl) rfl rfl ?_ | refine TN_val (rr_gtr rfl rfl (qT (by omega))) rfl rfl ?_ | refine TN_val (rr_gtr rfl rfl (qF (by omega))) rfl rfl ?_ | refine TN_val (rr_eql rfl rfl (qT (by omega))) rfl rfl ?_ | refine TN_val (rr_eql rfl rfl (qF (by omega))) rfl rfl ?_ | refine TN_val (rr_neq rfl rfl (qT (by omega))) rfl rfl ?_ | refine TN_val (rr_neq rfl rfl (qF (by omega))) rfl rfl ?_ | refine TN_val (rr_lss rfl rfl (qT (by omega))) rfl rfl ?_ | refine TN_val (rr_lss rfl rfl (qF (by omega))) rfl rfl ?_)
        | refine TW_skip rfl rfl rfl rfl rfl rfl rfl ?_ | refine TW_done ?_)
      refine TW_one rfl (TL_storeB (i := 0) (cs' := (rexC 0 C4.zero (.slice none 0 0)).toArray) rfl rfl rfl rfl rfl rfl (TW_on (sub_pick [2] (by decide) rfl) ?_))
      repeat (first
        | ((first | refine TW_plain rfl rfl ?_ | refine TW_gmet rfl rfl rfl rfl ?_); first | refine TN_val (qp rfl) rfl rfl ?_ | refine TN_val (rr_strlen Und.eq rfl) rfl rfl ?_ | refine TN_val (qfld FldC.fld rfl rfl) rfl rfl ?_ | refine TN_val (rr_nilc rfl) rfl rfl ?_ | refine TN_val (rr_gtr rfl rfl (qT (by omega))) rfl rfl ?_ | refine TN_val (rr_gtr rfl rfl (qF (by omega))) rfl rfl ?_ | refine TN_val (rr_eql rfl rfl (qT (by omega))) rfl rfl ?_ | refine TN_val (rr_eql rfl rfl (qF (by omega))) rfl rfl ?_ | refine TN_val (rr_neq rfl rfl (qT (by omega))) rfl rfl ?_ | refine TN_val (rr_neq rfl rfl (qF (by omega))) rfl rfl ?_ | refine TN_val (rr_lss rfl rfl (qT (by omega))) rfl rfl ?_ | refine TN_val (rr_lss rfl rfl (qF (by omega))) rfl rfl ?_)
        | refine TW_skip rfl rfl rfl rfl rfl rfl rfl ?_ | refine TW_done ?_)
      refine E_extra (rkO (fun _ => False) (.slice none 0 0) []) (fun k hk => rk_foot hk) (fun w => rk_nil w) ?_
      repeat (first
        | refine qv rfl (qp rfl) rfl rfl ?_ | refine TL_nil ?_ | refine T_seq ?_ | refine T_region ?_ | refine qcT rfl ?_ | refine qcF rfl ?_ | refine T_skip ?_
        | refine T_ret ?_ | refine E_then ?_ | refine E_thenR ?_ | refine qs rfl rfl rfl rfl rfl rfl ?_
        | ((try refine qg rfl rfl rfl ?_); first | refine qv rfl (qp rfl) rfl rfl ?_ | refine qv rfl (rr_strlen Und.eq rfl) rfl rfl ?_ | refine qv rfl (qfld FldC.fld rfl rfl) rfl rfl ?_ | refine qv rfl (rr_nilc rfl) rfl rfl ?_ | refine qv rfl (rr_gtr rfl rfl (qT (by omega))) rfl rfl ?_ | refine qv rfl (rr_gtr rfl rfl (qF (by omega))) rfl rfl ?_ | refine qv rfl (rr_eql rfl rfl (qT (by omega))) rfl rfl ?_ | refine qv rfl (rr_eql rfl rfl (qF (by omega))) rfl rfl ?_ | refine qv rfl (rr_neq rfl rfl (qT (by omega))) rfl rfl ?_ | refine qv rfl (rr_neq rfl rfl (qF (by omega))) rfl rfl ?_ | refine qv rfl (rr_lss rfl rfl (qT (by omega))) rfl rfl ?_ | refine qv rfl (rr_lss rfl rfl (qF (by omega))) rfl rfl ?_))
      exact E_retc3 (i := 0) rfl rfl rfl rfl rfl rfl fun w hm => hm.meets (S := parSp (.mk 0 C4.zero [], (p : Int), e)) (.slice none 0 0, fun _ => False) (by show kit.okI64 0; unfold kit.okI64; omega) [4] (by decide) rfl
end Go.Proofs.YtkcpakfcmincbaaDoor.eng

/- RexPt -/
namespace Go.Proofs.YtkcpakfcmincbaaDoor.eng
open Go.RowKit kit mix classL rexL classSets
theorem chkX_re {r : Rx} (h : chkX r = 0) : ∃ e : Re, r = emb e ∧ Fit e 1 0 := by
  unfold chkX at h
  obtain ⟨e, h1, h2, _⟩ := chk_fit (sizeX r) r 1 0 (chk r 1 0).2 (Nat.le_refl _) (by rw [← h])
  exact ⟨e, h1, h2⟩
theorem re_chkX {e : Re} (h : Fit e 1 0) : chkX (emb e) = 0 := by unfold chkX; rw [fit_chk e 1 0 h]
set_option maxHeartbeats 4000000 in
theorem print_calls (v : Value) (e : Re) (w : World) (hT : TabW w) (hv : RexR (Low w) w v (emb e)) (h : Fit e 1 0) : Calls Tryd.prog 10 #[v] w (Meets (ret (.tuple #[str (body e), .int .i64 0])) w) := by
  have hup := fun w' (hg : Gr w w') => (by have hm : Mem (w : Base) [] w := .start w; exact hT.up (hm.gr hg) : TabW w')
  have hck := fun w' (hg : Gr w w') => rexCheck_calls v (emb e) w' (hv.gr hg)
  rw [re_chkX h] at hck
  have hsz := h.sz
  rw [emb_eq] at hv
  obtain ⟨vk, hvk, hk1, hks⟩ := hv
  have hvk : v = rexV e.kind e.cls vk := hvk
  have hks : SlF rexS (Low w) w vk (e.kids.map emb) := hks
  subst hvk
  have hsh := fun w' (hg : Gr w w') => shown_calls (2 * e.size) e [] vk (.slice none 0 0) w' (by simp) (by omega) (hup w' hg) ((hks.stay fun k hk => hg.block k hk).mono fun k hk => Nat.lt_of_lt_of_le hk hg.size) (slnil w')
  rw [brk_0] at hsh
  obtain ⟨br, capr, rfl, -⟩ := hks
  generalize (e.kids.map emb).length = m at *
  refine enter (args := [rexV e.kind e.cls (.slice br m capr)]) (n := 12) Tryd.func10 rfl rfl rfl ?_
  refine T_seq (T_region (TL_box rfl rfl rfl fun g1 => ?_))
  conv => arg 8; simp only [zA, zB, zC, zD, zE, zF, zG, zH, zI, rowS, ret, id_eq]
  repeat (first
    | refine qv rfl (qp rfl) rfl rfl ?_ | refine TL_nil ?_ | refine T_seq ?_ | refine T_region ?_ | refine qcT rfl ?_ | refine qcF rfl ?_ | refine T_skip ?_
    | refine T_ret ?_ | refine E_then ?_ | refine E_thenR ?_ | refine qv rfl (rr_loadB (i := 0) TyC.ty rfl rfl rfl) rfl rfl ?_
    | refine qv rfl (rr_neq rfl rfl (qT (by omega))) rfl rfl ?_ | refine qv rfl (rr_neq rfl rfl (qF (by omega))) rfl rfl ?_)
  refine TL_call (he1 EntersC.en rfl rfl) (fun w hm => hck _ hm.below) rfl rfl rfl ?_
  intro _ _
  conv => arg 8; simp only [zA, zB, zC, zD, zE, zF, zG, zH, zI, rowS, ret, id_eq]
  repeat (first
    | refine qv rfl (qp rfl) rfl rfl ?_ | refine TL_nil ?_ | refine T_seq ?_ | refine T_region ?_ | refine qcT rfl ?_ | refine qcF rfl ?_ | refine T_skip ?_
    | refine T_ret ?_ | refine E_then ?_ | refine E_thenR ?_ | refine qv rfl (rr_loadB (i := 0) TyC.ty rfl rfl rfl) rfl rfl ?_
    | refine qv rfl (rr_neq rfl rfl (qT (by omega))) rfl rfl ?_ | refine qv rfl (rr_neq rfl rfl (qF (by omega))) rfl rfl ?_)
  refine TL_call (he2 EntersC.en rfl rfl rfl) (fun w hm => hsh _ hm.below) rfl rfl rfl ?_
  intro _ _
  conv => arg 8; simp only [zA, zB, zC, zD, zE, zF, zG, zH, zI, rowS, ret, id_eq]
  repeat (first
    | refine qv rfl (qp rfl) rfl rfl ?_ | refine TL_nil ?_ | refine T_seq ?_ | refine T_region ?_ | refine qcT rfl ?_ | refine qcF rfl ?_ | refine T_skip ?_
    | refine T_ret ?_ | refine E_then ?_ | refine E_thenR ?_ | refine qv rfl (rr_neq rfl rfl (qT (by omega))) rfl rfl ?_
    | refine qv rfl (rr_neq rfl rfl (qF (by omega))) rfl rfl ?_)
  exact E_ret2 rfl rfl rfl fun w hm => hm.ret
/-- what is read is as it should be, or nothing -/
theorem parse_ok {s : Txt} {x : Rx} {a e : Int} (h : parseF s = some (x, a, e)) : (e ≠ 0 ∧ x = .mk 0 C4.zero []) ∨ (e = 0 ∧ ∃ q : Re, x = emb q ∧ Fit q 1 0) := by
  unfold parseF at h
  split at h
  · cases h; exact .inl ⟨by decide, rfl⟩
  · split at h
    · cases h
    · rename_i r st hc
      dsimp only at h
      generalize (if st.e = 0 ∧ st.p < s.length then failS st 6 else st) = st1 at h
      by_cases c1 : st1.e ≠ 0
      · rw [if_pos c1] at h; cases h; exact .inl ⟨c1, rfl⟩
      · rw [if_neg c1] at h
        by_cases c2 : (chk r 1 0).1 ≠ 0
        · rw [if_pos c2] at h; cases h; exact .inl ⟨c2, rfl⟩
        · rw [if_neg c2] at h; cases h; exact .inr ⟨rfl, chkX_re (by unfold chkX; simpa using c2)⟩
set_option maxRecDepth 100000 in
set_option maxHeartbeats 8000000 in
theorem sameRex_calls : ∀ (N : Nat) (r : Rx), sizeX r ≤ N → ∀ (va vb : Value) (w : World), RexR (Low w) w va r → RexR (Low w) w vb r → Calls Tryd.prog 6 #[va, vb] w (Meets (ret (.bool true)) w)
  | 0, r, h, _, _, _, _, _ => by have := sizeX_pos r; omega
  | N + 1, .mk k c kids, h, va, vb, w, ha, hb => by
    have IH := sameRex_calls N
    obtain ⟨vka, rfl, hk1, hksa⟩ := ha
    obtain ⟨vkb, rfl, _, hksb⟩ := hb
    obtain ⟨ba, ca, rfl, _, hma, hra⟩ := hksa
    obtain ⟨bb, cb, rfl, _, hmb, hrb⟩ := hksb
    unfold maxLen at hma hmb
    rw [sizeX] at h
    have hmem := fun {r} hr => @sizesX_mem kids r hr
    dsimp only [Rx.kids, Rx.kind, Rx.cls] at *
    refine enter (args := [rexV k c (.slice ba kids.length ca), rexV k c (.slice bb kids.length cb)]) (n := 46) Tryd.func6 rfl rfl rfl ?_
    refine T_seq (T_region (TL_box rfl rfl rfl fun g2 => TL_box rfl rfl rfl fun g3 => ?_))
    conv => arg 8; simp only [zA, zB, zC, zD, zE, zF, zG, zH, zI, rowS, ret, id_eq]
    repeat (first
      | refine qv rfl (qp rfl) rfl rfl ?_ | refine TL_nil ?_ | refine T_seq ?_ | refine T_region ?_ | refine qcT rfl ?_ | refine qcF rfl ?_ | refine T_skip ?_
      | refine T_exit ?_ | refine T_ret ?_ | refine T_block ?_ | refine E_then ?_ | refine E_thenX ?_ | refine E_thenR ?_ | refine E_blockN ?_
      | refine E_blockR ?_ | refine E_blockX ?_ | refine E_blockO rfl ?_ | refine qs rfl rfl rfl rfl rfl rfl ?_
      | ((try refine qg rfl rfl rfl ?_); first | refine qv rfl (qp rfl) rfl rfl ?_ | refine qv rfl (rr_load1 (v := .int .i64 k) TyC.ty rfl (at_blk (i := 0) rfl rfl)) rfl rfl ?_ | refine qv rfl (rr_load1 (v := .int .i64 k) TyC.ty rfl (at_blk (i := 1) rfl rfl)) rfl rfl ?_ | refine qv rfl (rr_neq (b := false) rfl rfl (decide_eq_false (by simp))) rfl rfl ?_ | refine qv rfl (rr_loadN (cs := clsL c) TyC.ty rfl rfl (fun j v hj => at_blk (i := 0) rfl (rex_cls hj))) rfl rfl ?_ | refine qv rfl (rr_loadN (cs := clsL c) TyC.ty rfl rfl (fun j v hj => at_blk (i := 1) rfl (rex_cls hj))) rfl rfl ?_ | refine qv rfl (rr_load1 (v := .slice ba kids.length ca) TyC.ty rfl (at_blk (i := 0) rfl rfl)) rfl rfl ?_ | refine qv rfl (rr_load1 (v := .slice bb kids.length cb) TyC.ty rfl (at_blk (i := 1) rfl rfl)) rfl rfl ?_ | refine qv rfl (qlen Und.eq rfl) rfl rfl ?_ | refine qv rfl (qfld FldC.fld rfl rfl) rfl rfl ?_ | refine qv rfl (rr_not rfl rfl) rfl rfl ?_ | refine qv rfl (rr_lss rfl rfl (qT (by omega))) rfl rfl ?_ | refine qv rfl (rr_lss rfl rfl (qF (by omega))) rfl rfl ?_ | refine qv rfl (rr_neq rfl rfl (qT (by omega))) rfl rfl ?_ | refine qv rfl (rr_neq rfl rfl (qF (by omega))) rfl rfl ?_ | refine qv rfl (rr_add64 rfl rfl (by omega) (by omega) rfl) rfl rfl ?_ | refine qv rfl (rr_aggne (b := true) (c := false) rfl rfl (by kernel_rfl) (cls_aeq (a := c) (b := c) (decide_eq_true rfl)) rfl) rfl rfl ?_))
    refine T_loop (ι := Nat) (fun j => j ≤ kids.length) (fun j => [(2, .pointer (some ⟨g2, 0, none⟩)), (3, .pointer (some ⟨g3, 0, none⟩)), (5, .int .i64 (j : Int))]) (fun _ => [rxB g2 k c (.slice ba kids.length ca), rxB g3 k c (.slice bb kids.length cb)]) (fun j => kids.length - j) 0 (Nat.zero_le _) (by repeat' (first | exact True.intro | refine And.intro rfl ?_)) rfl ?_
    intro j i1
    by_cases c1 : j < kids.length
    · obtain ⟨b1, off1, rfl, _, hr1⟩ := hra (by omega)
      obtain ⟨b2, off2, rfl, _, hr2⟩ := hrb (by omega)
      obtain ⟨bj, cj, hrd1, hkr1⟩ := rkid_at hr1 c1
      obtain ⟨bj2, cj2, hrd2, hkr2⟩ := rkid_at hr2 c1
      have hat1 := fun (L : List Own) j v hj => at_oldR (W := w) (L := L) (Old.self w) hrd1 j v hj
      have hat2 := fun (L : List Own) j v hj => at_oldR (W := w) (L := L) (Old.self w) hrd2 j v hj
      have hm0 := hmem (List.getElem_mem c1)
      generalize kids[j] = r at *
      have IHr := fun w' (hg : Gr w w') => IH r (by omega) _ _ w' (hkr1.gr hg) (hkr2.gr hg)
      clear hr1 hr2 hra hrb hrd1 hrd2
      repeat (first
        | refine qv rfl (qp rfl) rfl rfl ?_ | refine TL_nil ?_ | refine T_seq ?_ | refine T_region ?_ | refine qcT rfl ?_ | refine qcF rfl ?_ | refine T_skip ?_
        | refine T_exit ?_ | refine T_ret ?_ | refine T_block ?_ | refine E_then ?_ | refine E_thenX ?_ | refine E_thenR ?_ | refine E_blockN ?_
        | refine E_blockR ?_ | refine E_blockX ?_ | refine E_blockO rfl ?_ | refine qs rfl rfl rfl rfl rfl rfl ?_
        | ((try refine qg rfl rfl rfl ?_); first | refine qv rfl (qp rfl) rfl rfl ?_ | refine qv rfl (rr_load1 (v := .slice (some ⟨b1, off1, none⟩) kids.length ca) TyC.ty rfl (at_blk (i := 0) rfl rfl)) rfl rfl ?_ | refine qv rfl (qlen Und.eq rfl) rfl rfl ?_ | refine qv rfl (qfld FldC.fld rfl rfl) rfl rfl ?_ | refine qv rfl (rr_not rfl rfl) rfl rfl ?_ | refine qv rfl (rr_lss rfl rfl (qT (by omega))) rfl rfl ?_ | refine qv rfl (rr_lss rfl rfl (qF (by omega))) rfl rfl ?_ | refine qv rfl (rr_neq rfl rfl (qT (by omega))) rfl rfl ?_ | refine qv rfl (rr_neq rfl rfl (qF (by omega))) rfl rfl ?_ | refine qv rfl (rr_add64 rfl rfl (by omega) (by omega) rfl) rfl rfl ?_))
      refine T_ord ([rxB g2 k c (.slice (some ⟨b1, off1, none⟩) kids.length ca), rxB g3 k c (.slice (some ⟨b2, off2, none⟩) kids.length cb)]) (.calm 0 (.calm 1 (.calm 2 (.calm 3 (.calm 4 (.calm 5 (.calm 6 (.calm 7 (.calm 8 (.calm 9 (.calm 10 (.calm 11 (.done))))))))))))) (fun _ h => h) (by kernel_rfl) (by kernel_rfl) (by intro c a d v w h; cases d <;> exact h) ?_
      repeat (first
        | ((first | refine TW_plain rfl rfl ?_ | refine TW_gmet rfl rfl rfl rfl ?_); first | refine TN_val (qp rfl) rfl rfl ?_ | refine TN_val (rr_load1 (v := .slice (some ⟨b1, off1, none⟩) kids.length ca) TyC.ty rfl (at_blk (i := 0) rfl rfl)) rfl rfl ?_ | refine TN_val (rr_load1 (v := .slice (some ⟨b2, off2, none⟩) kids.length cb) TyC.ty rfl (at_blk (i := 1) rfl rfl)) rfl rfl ?_ | refine TN_val (rr_idxc (j := j) Und.eq TyC.ty rfl rfl c1) rfl rfl ?_ | refine TN_val (rr_loadN TyC.ty rfl rfl (hat1 _)) rfl rfl ?_ | refine TN_val (rr_loadN TyC.ty rfl rfl (hat2 _)) rfl rfl ?_ | refine TN_val (qlen Und.eq rfl) rfl rfl ?_ | refine TN_val (qfld FldC.fld rfl rfl) rfl rfl ?_ | refine TN_val (rr_not rfl rfl) rfl rfl ?_ | refine TN_val (rr_lss rfl rfl (qT (by omega))) rfl rfl ?_ | refine TN_val (rr_lss rfl rfl (qF (by omega))) rfl rfl ?_ | refine TN_val (rr_neq rfl rfl (qT (by omega))) rfl rfl ?_ | refine TN_val (rr_neq rfl rfl (qF (by omega))) rfl rfl ?_ | refine TN_val (rr_add64 rfl rfl (by omega) (by omega) rfl) rfl rfl ?_)
        | refine TW_skip rfl rfl rfl rfl rfl rfl rfl ?_ | refine TW_done ?_)
      refine TW_call rfl (he2 EntersC.en rfl rfl rfl) (fun w hm => IHr _ hm.below) rfl rfl rfl ?_
      repeat (first
        | ((first | refine TW_plain rfl rfl ?_ | refine TW_gmet rfl rfl rfl rfl ?_); first | refine TN_val (qp rfl) rfl rfl ?_ | refine TN_val (qlen Und.eq rfl) rfl rfl ?_ | refine TN_val (qfld FldC.fld rfl rfl) rfl rfl ?_ | refine TN_val (rr_not rfl rfl) rfl rfl ?_ | refine TN_val (rr_lss rfl rfl (qT (by omega))) rfl rfl ?_ | refine TN_val (rr_lss rfl rfl (qF (by omega))) rfl rfl ?_ | refine TN_val (rr_neq rfl rfl (qT (by omega))) rfl rfl ?_ | refine TN_val (rr_neq rfl rfl (qF (by omega))) rfl rfl ?_ | refine TN_val (rr_add64 rfl rfl (by omega) (by omega) rfl) rfl rfl ?_)
        | refine TW_skip rfl rfl rfl rfl rfl rfl rfl ?_ | refine TW_done ?_)
      repeat (first
        | refine qv rfl (qp rfl) rfl rfl ?_ | refine TL_nil ?_ | refine T_seq ?_ | refine T_region ?_ | refine qcT rfl ?_ | refine qcF rfl ?_ | refine T_skip ?_
        | refine T_exit ?_ | refine T_ret ?_ | refine T_block ?_ | refine E_then ?_ | refine E_thenX ?_ | refine E_thenR ?_ | refine E_blockN ?_
        | refine E_blockR ?_ | refine E_blockX ?_ | refine E_blockO rfl ?_ | refine qs rfl rfl rfl rfl rfl rfl ?_
        | ((try refine qg rfl rfl rfl ?_); first | refine qv rfl (qp rfl) rfl rfl ?_ | refine qv rfl (rr_add64 (r := ((j + 1 : Nat) : Int)) rfl rfl (by omega) (by omega) (by omega)) rfl rfl ?_ | refine qv rfl (qlen Und.eq rfl) rfl rfl ?_ | refine qv rfl (qfld FldC.fld rfl rfl) rfl rfl ?_ | refine qv rfl (rr_not rfl rfl) rfl rfl ?_ | refine qv rfl (rr_lss rfl rfl (qT (by omega))) rfl rfl ?_ | refine qv rfl (rr_lss rfl rfl (qF (by omega))) rfl rfl ?_ | refine qv rfl (rr_neq rfl rfl (qT (by omega))) rfl rfl ?_ | refine qv rfl (rr_neq rfl rfl (qF (by omega))) rfl rfl ?_ | refine qv rfl (rr_add64 rfl rfl (by omega) (by omega) rfl) rfl rfl ?_))
      exact E_round (j + 1) c1 (by omega) (by repeat' (first | exact True.intro | refine And.intro rfl ?_)) rfl
    · repeat (first
        | refine qv rfl (qp rfl) rfl rfl ?_ | refine TL_nil ?_ | refine T_seq ?_ | refine T_region ?_ | refine qcT rfl ?_ | refine qcF rfl ?_ | refine T_skip ?_
        | refine T_exit ?_ | refine T_ret ?_ | refine T_block ?_ | refine E_then ?_ | refine E_thenX ?_ | refine E_thenR ?_ | refine E_blockN ?_
        | refine E_blockR ?_ | refine E_blockX ?_ | refine E_blockO rfl ?_ | refine qs rfl rfl rfl rfl rfl rfl ?_
        | ((try refine qg rfl rfl rfl ?_); first | refine qv rfl (qp rfl) rfl rfl ?_ | refine qv rfl (rr_load1 (v := .slice ba kids.length ca) TyC.ty rfl (at_blk (i := 0) rfl rfl)) rfl rfl ?_ | refine qv rfl (qlen Und.eq rfl) rfl rfl ?_ | refine qv rfl (qfld FldC.fld rfl rfl) rfl rfl ?_ | refine qv rfl (rr_not rfl rfl) rfl rfl ?_ | refine qv rfl (rr_lss rfl rfl (qT (by omega))) rfl rfl ?_ | refine qv rfl (rr_lss rfl rfl (qF (by omega))) rfl rfl ?_ | refine qv rfl (rr_neq rfl rfl (qT (by omega))) rfl rfl ?_ | refine qv rfl (rr_neq rfl rfl (qF (by omega))) rfl rfl ?_ | refine qv rfl (rr_add64 rfl rfl (by omega) (by omega) rfl) rfl rfl ?_))
      exact E_ret1 rfl rfl fun w hm => hm.ret
end Go.Proofs.YtkcpakfcmincbaaDoor.eng

/- RexAgainW -/
namespace Go.Proofs.YtkcpakfcmincbaaDoor.rexAgain
open Go.RowKit kit mix eng classL rexL classSets
theorem const_body : body (.cat (.byte (rangeF 97 97)) (.byte (rangeF 10 10))) = [97, 92, 110] := by kernel_rfl
theorem const_fit : Fit (.cat (.byte (rangeF 97 97)) (.byte (rangeF 10 10))) 1 0 where
  nz := ⟨byte_nz (b := 97) (by omega), byte_nz (b := 10) (by omega)⟩
  sz := by decide
  dp := by decide
set_option maxRecDepth 100000 in
set_option maxHeartbeats 8000000 in
theorem walk (w : World) (hT : TabW w) (s : List UInt8) (hs : s.length ≤ 140737488351232) :
    Calls Tryd.prog 4 #[str s] w (Meets (ret (.bool true)) w) := by
  have hl := fun w => letter_calls 97 w ⟨by decide, by decide⟩
  have hl2 := fun w => letter_calls 10 w ⟨by decide, by decide⟩
  have hpc := fun v w hT hv => print_calls v (.cat (.byte (rangeF 97 97)) (.byte (rangeF 10 10))) w hT hv const_fit
  rw [const_body] at hpc
  have ok3 : kit.okI64 3 := ⟨by decide, by decide⟩
  have ok4 : kit.okI64 4 := ⟨by decide, by decide⟩
  unfold emb emb at hpc
  generalize rangeF 97 97 = c97 at *
  generalize rangeF 10 10 = c10 at *
  obtain ⟨⟨x, at1, e1⟩, hP⟩ := parse_some s
  have hpo := parse_ok hP
  refine enter (args := [str s]) (n := 77) Tryd.func4 rfl rfl rfl ?_
  repeat (first
    | refine qv rfl (qp rfl) rfl rfl ?_ | refine TL_nil ?_ | refine T_seq ?_ | refine T_region ?_ | refine qcT rfl ?_ | refine qcF rfl ?_ | refine T_skip ?_
    | refine T_ret ?_ | refine E_then ?_ | refine E_thenR ?_ | refine qs rfl rfl rfl rfl rfl rfl ?_
    | ((try refine qg rfl rfl rfl ?_); first | refine qv rfl (qp rfl) rfl rfl ?_ | refine qv rfl (rr_strlen Und.eq rfl) rfl rfl ?_ | refine qv rfl (qfld FldC.fld rfl rfl) rfl rfl ?_ | refine qv rfl (rr_gtr rfl rfl (qT (by omega))) rfl rfl ?_ | refine qv rfl (rr_gtr rfl rfl (qF (by omega))) rfl rfl ?_ | refine qv rfl (rr_eql rfl rfl (qT (by omega))) rfl rfl ?_ | refine qv rfl (rr_eql rfl rfl (qF (by omega))) rfl rfl ?_ | refine qv rfl (rr_neq rfl rfl (qT (by omega))) rfl rfl ?_ | refine qv rfl (rr_neq rfl rfl (qF (by omega))) rfl rfl ?_))
  refine TL_call (he1 EntersC.en rfl rfl) (fun w' hm => hl w') rfl rfl rfl ?_
  intro _ _
  conv => arg 8; simp only [zA, zB, zC, zD, zE, zF, zG, zH, zI, rowS, ret, id_eq]
  refine TL_call (he1 EntersC.en rfl rfl) (fun w' hm => hl2 w') rfl rfl rfl ?_
  intro _ _
  conv => arg 8; simp only [zA, zB, zC, zD, zE, zF, zG, zH, zI, rowS, ret, id_eq]
  refine TL_call (he3 EntersC.en rfl rfl rfl rfl) (fun w' hm => two_calls 4 3 3 c97 c10 none none 0 0 0 0 w') rfl rfl rfl ?_
  intro gT _
  conv => arg 8; simp only [zA, zB, zC, zD, zE, zF, zG, zH, zI, rowS, ret, id_eq, twoS]
  conv => arg 7; simp only [twoS]
  refine TL_call (he1 EntersC.en rfl rfl) (fun w' hm => hpc _ w' (hT.up hm) (two_rexK ok4 (hm.get (i := 0) rfl) (leaf_rex ok3) (leaf_rex ok3))) rfl rfl rfl ?_
  intro _ _
  conv => arg 8; simp only [zA, zB, zC, zD, zE, zF, zG, zH, zI, rowS, ret, id_eq]
  repeat (first
    | refine qv rfl (qp rfl) rfl rfl ?_ | refine TL_nil ?_ | refine T_seq ?_ | refine T_region ?_ | refine qcT rfl ?_ | refine qcF rfl ?_ | refine T_skip ?_
    | refine T_ret ?_ | refine E_then ?_ | refine E_thenR ?_ | refine qs rfl rfl rfl rfl rfl rfl ?_
    | ((try refine qg rfl rfl rfl ?_); first | refine qv rfl (qp rfl) rfl rfl ?_ | refine qv rfl (rr_strlen Und.eq rfl) rfl rfl ?_ | refine qv rfl (qfld FldC.fld rfl rfl) rfl rfl ?_ | refine qv rfl (rr_gtr rfl rfl (qT (by omega))) rfl rfl ?_ | refine qv rfl (rr_gtr rfl rfl (qF (by omega))) rfl rfl ?_ | refine qv rfl (rr_eql rfl rfl (qT (by omega))) rfl rfl ?_ | refine qv rfl (rr_eql rfl rfl (qF (by omega))) rfl rfl ?_ | refine qv rfl (rr_neq rfl rfl (qT (by omega))) rfl rfl ?_ | refine qv rfl (rr_neq rfl rfl (qF (by omega))) rfl rfl ?_ | refine qv rfl (rr_strne (b := false) rfl rfl (by decide)) rfl rfl ?_))
  refine TL_pick [] (by decide) rfl ?_
  refine TL_call (he1 EntersC.en rfl rfl) (fun w' hm => rexParse_calls s _ hP w') rfl rfl rfl ?_
  rintro ⟨v1, F1⟩ hok1
  conv => arg 8; simp only [zA, zB, zC, zD, zE, zF, zG, zH, zI, rowS, ret, id_eq, parSp, List.nil_append]
  conv => arg 7; simp only [parSp]
  refine TL_know (i := 0) rfl (fun w h => rkO_form h) fun hv1 => ?_
  obtain ⟨b1, n1, c1, rfl⟩ := hv1
  have hok1 : kit.okI64 x.kind := hok1
  repeat (first
    | refine qv rfl (qp rfl) rfl rfl ?_ | refine TL_nil ?_ | refine T_seq ?_ | refine T_region ?_ | refine qcT rfl ?_ | refine qcF rfl ?_ | refine T_skip ?_
    | refine T_ret ?_ | refine E_then ?_ | refine E_thenR ?_ | refine qs rfl rfl rfl rfl rfl rfl ?_
    | ((try refine qg rfl rfl rfl ?_); first | refine qv rfl (qp rfl) rfl rfl ?_ | refine qv rfl (rr_strlen Und.eq rfl) rfl rfl ?_ | refine qv rfl (qfld FldC.fld rfl rfl) rfl rfl ?_ | refine qv rfl (rr_gtr rfl rfl (qT (by omega))) rfl rfl ?_ | refine qv rfl (rr_gtr rfl rfl (qF (by omega))) rfl rfl ?_ | refine qv rfl (rr_eql rfl rfl (qT (by omega))) rfl rfl ?_ | refine qv rfl (rr_eql rfl rfl (qF (by omega))) rfl rfl ?_ | refine qv rfl (rr_neq rfl rfl (qT (by omega))) rfl rfl ?_ | refine qv rfl (rr_neq rfl rfl (qF (by omega))) rfl rfl ?_))
  refine TL_new rfl fun g5 => ?_
  conv => arg 8; simp only [zA, zB, zC, zD, zE, zF, zG, zH, zI, rowS, ret, id_eq]
  refine TL_storeB (i := 1) (cs' := (rexC x.kind x.cls (.slice b1 n1 c1)).toArray) rfl rfl rfl rfl rfl rfl ?_
  conv => arg 8; simp only [zA, zB, zC, zD, zE, zF, zG, zH, zI, rowS, ret, id_eq]
  rcases hpo with ⟨h1, rfl⟩ | ⟨rfl, q, rfl, hfit⟩
  · repeat (first
      | refine qv rfl (qp rfl) rfl rfl ?_ | refine TL_nil ?_ | refine T_seq ?_ | refine T_region ?_ | refine qcT rfl ?_ | refine qcF rfl ?_ | refine T_skip ?_
      | refine T_ret ?_ | refine E_then ?_ | refine E_thenR ?_ | refine qs rfl rfl rfl rfl rfl rfl ?_
      | ((try refine qg rfl rfl rfl ?_); first | refine qv rfl (qp rfl) rfl rfl ?_ | refine qv rfl (rr_neq (b := true) rfl rfl (decide_eq_true h1)) rfl rfl ?_ | refine qv rfl (rr_load1 (v := .int .i64 0) TyC.ty rfl (at_blk (i := 1) rfl rfl)) rfl rfl ?_ | refine qv rfl (rr_strlen Und.eq rfl) rfl rfl ?_ | refine qv rfl (qfld FldC.fld rfl rfl) rfl rfl ?_ | refine qv rfl (rr_gtr rfl rfl (qT (by omega))) rfl rfl ?_ | refine qv rfl (rr_gtr rfl rfl (qF (by omega))) rfl rfl ?_ | refine qv rfl (rr_eql rfl rfl (qT (by omega))) rfl rfl ?_ | refine qv rfl (rr_eql rfl rfl (qF (by omega))) rfl rfl ?_ | refine qv rfl (rr_neq rfl rfl (qT (by omega))) rfl rfl ?_ | refine qv rfl (rr_neq rfl rfl (qF (by omega))) rfl rfl ?_))
    exact E_ret1 rfl rfl fun w hm => hm.ret
  · have hpr := fun v w' (hT' : TabW w') hv => print_calls v q w' hT' hv hfit
    have hpb := parse_back hfit
    have hlen := body_len q
    have hsz := hfit.sz
    generalize body q = t at *
    repeat (first
      | refine qv rfl (qp rfl) rfl rfl ?_ | refine TL_nil ?_ | refine T_seq ?_ | refine T_region ?_ | refine qcT rfl ?_ | refine qcF rfl ?_ | refine T_skip ?_
      | refine T_ret ?_ | refine E_then ?_ | refine E_thenR ?_ | refine qs rfl rfl rfl rfl rfl rfl ?_
      | ((try refine qg rfl rfl rfl ?_); first | refine qv rfl (qp rfl) rfl rfl ?_ | refine qv rfl (rr_loadB (i := 1) TyC.ty rfl rfl rfl) rfl rfl ?_ | refine qv rfl (rr_strlen Und.eq rfl) rfl rfl ?_ | refine qv rfl (qfld FldC.fld rfl rfl) rfl rfl ?_ | refine qv rfl (rr_gtr rfl rfl (qT (by omega))) rfl rfl ?_ | refine qv rfl (rr_gtr rfl rfl (qF (by omega))) rfl rfl ?_ | refine qv rfl (rr_eql rfl rfl (qT (by omega))) rfl rfl ?_ | refine qv rfl (rr_eql rfl rfl (qF (by omega))) rfl rfl ?_ | refine qv rfl (rr_neq rfl rfl (qT (by omega))) rfl rfl ?_ | refine qv rfl (rr_neq rfl rfl (qF (by omega))) rfl rfl ?_))
    refine TL_call (he1 EntersC.en rfl rfl) (fun w' hm => hpr _ w' (hT.up hm) (rk_rex (r := emb q) hok1 (hm.get (i := 0) rfl))) rfl rfl rfl ?_
    intro _ _
    conv => arg 8; simp only [zA, zB, zC, zD, zE, zF, zG, zH, zI, rowS, ret, id_eq]
    repeat (first
      | refine qv rfl (qp rfl) rfl rfl ?_ | refine TL_nil ?_ | refine T_seq ?_ | refine T_region ?_ | refine qcT rfl ?_ | refine qcF rfl ?_ | refine T_skip ?_
      | refine T_ret ?_ | refine E_then ?_ | refine E_thenR ?_ | refine qs rfl rfl rfl rfl rfl rfl ?_
      | ((try refine qg rfl rfl rfl ?_); first | refine qv rfl (qp rfl) rfl rfl ?_ | refine qv rfl (rr_strlen Und.eq rfl) rfl rfl ?_ | refine qv rfl (qfld FldC.fld rfl rfl) rfl rfl ?_ | refine qv rfl (rr_gtr rfl rfl (qT (by omega))) rfl rfl ?_ | refine qv rfl (rr_gtr rfl rfl (qF (by omega))) rfl rfl ?_ | refine qv rfl (rr_eql rfl rfl (qT (by omega))) rfl rfl ?_ | refine qv rfl (rr_eql rfl rfl (qF (by omega))) rfl rfl ?_ | refine qv rfl (rr_neq rfl rfl (qT (by omega))) rfl rfl ?_ | refine qv rfl (rr_neq rfl rfl (qF (by omega))) rfl rfl ?_))
    by_cases c2 : 300 < t.length
    · rw [if_pos c2] at hpb
      refine TL_call (he1 EntersC.en rfl rfl) (fun w' hm => rexParse_calls t _ hpb w') rfl rfl rfl ?_
      rintro ⟨v2, F2⟩ hok2
      conv => arg 8; simp only [zA, zB, zC, zD, zE, zF, zG, zH, zI, rowS, ret, id_eq, parSp]
      conv => arg 7; simp only [parSp]
      refine TL_know (i := 2) rfl (fun w h => rkO_form h) fun hv2 => ?_
      obtain ⟨b2, n2, c2', rfl⟩ := hv2
      dsimp only [Rx.kind, Rx.cls, Rx.kids] at hok2 ⊢
      repeat (first
        | refine qv rfl (qp rfl) rfl rfl ?_ | refine TL_nil ?_ | refine T_seq ?_ | refine T_region ?_ | refine qcT rfl ?_ | refine qcF rfl ?_ | refine T_skip ?_
        | refine T_ret ?_ | refine E_then ?_ | refine E_thenR ?_ | refine qs rfl rfl rfl rfl rfl rfl ?_
        | ((try refine qg rfl rfl rfl ?_); first | refine qv rfl (qp rfl) rfl rfl ?_ | refine qv rfl (rr_strlen Und.eq rfl) rfl rfl ?_ | refine qv rfl (qfld FldC.fld rfl rfl) rfl rfl ?_ | refine qv rfl (rr_gtr rfl rfl (qT (by omega))) rfl rfl ?_ | refine qv rfl (rr_gtr rfl rfl (qF (by omega))) rfl rfl ?_ | refine qv rfl (rr_eql rfl rfl (qT (by omega))) rfl rfl ?_ | refine qv rfl (rr_eql rfl rfl (qF (by omega))) rfl rfl ?_ | refine qv rfl (rr_neq rfl rfl (qT (by omega))) rfl rfl ?_ | refine qv rfl (rr_neq rfl rfl (qF (by omega))) rfl rfl ?_))
      refine TL_new rfl fun g9 => ?_
      conv => arg 8; simp only [zA, zB, zC, zD, zE, zF, zG, zH, zI, rowS, ret, id_eq]
      refine TL_storeB (i := 3) (cs' := (rexC 0 C4.zero (.slice b2 n2 c2')).toArray) rfl rfl rfl rfl rfl rfl ?_
      conv => arg 8; simp only [zA, zB, zC, zD, zE, zF, zG, zH, zI, rowS, ret, id_eq]
      repeat (first
        | refine qv rfl (qp rfl) rfl rfl ?_ | refine TL_nil ?_ | refine T_seq ?_ | refine T_region ?_ | refine qcT rfl ?_ | refine qcF rfl ?_ | refine T_skip ?_
        | refine T_ret ?_ | refine E_then ?_ | refine E_thenR ?_ | refine qs rfl rfl rfl rfl rfl rfl ?_
        | ((try refine qg rfl rfl rfl ?_); first | refine qv rfl (qp rfl) rfl rfl ?_ | refine qv rfl (rr_strlen Und.eq rfl) rfl rfl ?_ | refine qv rfl (rr_strlen Und.eq rfl) rfl rfl ?_ | refine qv rfl (qfld FldC.fld rfl rfl) rfl rfl ?_ | refine qv rfl (rr_gtr rfl rfl (qT (by omega))) rfl rfl ?_ | refine qv rfl (rr_gtr rfl rfl (qF (by omega))) rfl rfl ?_ | refine qv rfl (rr_eql rfl rfl (qT (by omega))) rfl rfl ?_ | refine qv rfl (rr_eql rfl rfl (qF (by omega))) rfl rfl ?_ | refine qv rfl (rr_neq rfl rfl (qT (by omega))) rfl rfl ?_ | refine qv rfl (rr_neq rfl rfl (qF (by omega))) rfl rfl ?_))
      exact E_ret1 rfl rfl fun w hm => hm.ret
    · rw [if_neg c2] at hpb
      refine TL_call (he1 EntersC.en rfl rfl) (fun w' hm => rexParse_calls t _ hpb w') rfl rfl rfl ?_
      rintro ⟨v2, F2⟩ hok2
      conv => arg 8; simp only [zA, zB, zC, zD, zE, zF, zG, zH, zI, rowS, ret, id_eq, parSp]
      conv => arg 7; simp only [parSp]
      refine TL_know (i := 2) rfl (fun w h => rkO_form h) fun hv2 => ?_
      obtain ⟨b2, n2, c2', rfl⟩ := hv2
      repeat (first
        | refine qv rfl (qp rfl) rfl rfl ?_ | refine TL_nil ?_ | refine T_seq ?_ | refine T_region ?_ | refine qcT rfl ?_ | refine qcF rfl ?_ | refine T_skip ?_
        | refine T_ret ?_ | refine E_then ?_ | refine E_thenR ?_ | refine qs rfl rfl rfl rfl rfl rfl ?_
        | ((try refine qg rfl rfl rfl ?_); first | refine qv rfl (qp rfl) rfl rfl ?_ | refine qv rfl (rr_strlen Und.eq rfl) rfl rfl ?_ | refine qv rfl (qfld FldC.fld rfl rfl) rfl rfl ?_ | refine qv rfl (rr_gtr rfl rfl (qT (by omega))) rfl rfl ?_ | refine qv rfl (rr_gtr rfl rfl (qF (by omega))) rfl rfl ?_ | refine qv rfl (rr_eql rfl rfl (qT (by omega))) rfl rfl ?_ | refine qv rfl (rr_eql rfl rfl (qF (by omega))) rfl rfl ?_ | refine qv rfl (rr_neq rfl rfl (qT (by omega))) rfl rfl ?_ | refine qv rfl (rr_neq rfl rfl (qF (by omega))) rfl rfl ?_))
      refine TL_new rfl fun g9 => ?_
      conv => arg 8; simp only [zA, zB, zC, zD, zE, zF, zG, zH, zI, rowS, ret, id_eq]
      refine TL_storeB (i := 3) (cs' := (rexC (emb q).kind (emb q).cls (.slice b2 n2 c2')).toArray) rfl rfl rfl rfl rfl rfl ?_
      conv => arg 8; simp only [zA, zB, zC, zD, zE, zF, zG, zH, zI, rowS, ret, id_eq]
      repeat (first
        | refine qv rfl (qp rfl) rfl rfl ?_ | refine TL_nil ?_ | refine T_seq ?_ | refine T_region ?_ | refine qcT rfl ?_ | refine qcF rfl ?_ | refine T_skip ?_
        | refine T_ret ?_ | refine E_then ?_ | refine E_thenR ?_ | refine qs rfl rfl rfl rfl rfl rfl ?_
        | ((try refine qg rfl rfl rfl ?_); first | refine qv rfl (qp rfl) rfl rfl ?_ | refine qv rfl (rr_strlen Und.eq rfl) rfl rfl ?_ | refine qv rfl (rr_loadB (i := 3) TyC.ty rfl rfl rfl) rfl rfl ?_ | refine qv rfl (rr_strlen Und.eq rfl) rfl rfl ?_ | refine qv rfl (qfld FldC.fld rfl rfl) rfl rfl ?_ | refine qv rfl (rr_gtr rfl rfl (qT (by omega))) rfl rfl ?_ | refine qv rfl (rr_gtr rfl rfl (qF (by omega))) rfl rfl ?_ | refine qv rfl (rr_eql rfl rfl (qT (by omega))) rfl rfl ?_ | refine qv rfl (rr_eql rfl rfl (qF (by omega))) rfl rfl ?_ | refine qv rfl (rr_neq rfl rfl (qT (by omega))) rfl rfl ?_ | refine qv rfl (rr_neq rfl rfl (qF (by omega))) rfl rfl ?_))
      refine TL_call (he1 EntersC.en rfl rfl) (fun w' hm => hpr _ w' (hT.up hm) (rk_rex (r := emb q) hok1 (hm.get (i := 2) rfl))) rfl rfl rfl ?_
      intro _ _
      conv => arg 8; simp only [zA, zB, zC, zD, zE, zF, zG, zH, zI, rowS, ret, id_eq]
      repeat (first
        | refine qv rfl (qp rfl) rfl rfl ?_ | refine TL_nil ?_ | refine T_seq ?_ | refine T_region ?_ | refine qcT rfl ?_ | refine qcF rfl ?_ | refine T_skip ?_
        | refine T_ret ?_ | refine E_then ?_ | refine E_thenR ?_ | refine qs rfl rfl rfl rfl rfl rfl ?_
        | ((try refine qg rfl rfl rfl ?_); first | refine qv rfl (qp rfl) rfl rfl ?_ | refine qv rfl (rr_loadB (i := 1) TyC.ty rfl rfl rfl) rfl rfl ?_ | refine qv rfl (rr_loadB (i := 3) TyC.ty rfl rfl rfl) rfl rfl ?_ | refine qv rfl (rr_strlen Und.eq rfl) rfl rfl ?_ | refine qv rfl (qfld FldC.fld rfl rfl) rfl rfl ?_ | refine qv rfl (rr_gtr rfl rfl (qT (by omega))) rfl rfl ?_ | refine qv rfl (rr_gtr rfl rfl (qF (by omega))) rfl rfl ?_ | refine qv rfl (rr_eql rfl rfl (qT (by omega))) rfl rfl ?_ | refine qv rfl (rr_eql rfl rfl (qF (by omega))) rfl rfl ?_ | refine qv rfl (rr_neq rfl rfl (qT (by omega))) rfl rfl ?_ | refine qv rfl (rr_neq rfl rfl (qF (by omega))) rfl rfl ?_))
      refine TL_gcall (he2 EntersC.en rfl rfl rfl) (fun w' hm => sameRex_calls _ (emb q) (Nat.le_refl _) _ _ w' (rk_rex (r := emb q) hok1 (hm.get (i := 0) rfl)) (rk_rex (r := emb q) hok1 (hm.get (i := 2) rfl))) rfl rfl rfl rfl rfl ?_
      intro _ _
      conv => arg 8; simp only [zA, zB, zC, zD, zE, zF, zG, zH, zI, rowS, ret, id_eq]
      repeat (first
        | refine qv rfl (qp rfl) rfl rfl ?_ | refine TL_nil ?_ | refine T_seq ?_ | refine T_region ?_ | refine qcT rfl ?_ | refine qcF rfl ?_ | refine T_skip ?_
        | refine T_ret ?_ | refine E_then ?_ | refine E_thenR ?_ | refine qs rfl rfl rfl rfl rfl rfl ?_
        | ((try refine qg rfl rfl rfl ?_); first | refine qv rfl (qp rfl) rfl rfl ?_ | refine qv rfl (rr_strlen Und.eq rfl) rfl rfl ?_ | refine qv rfl (qfld FldC.fld rfl rfl) rfl rfl ?_ | refine qv rfl (rr_gtr rfl rfl (qT (by omega))) rfl rfl ?_ | refine qv rfl (rr_gtr rfl rfl (qF (by omega))) rfl rfl ?_ | refine qv rfl (rr_eql rfl rfl (qT (by omega))) rfl rfl ?_ | refine qv rfl (rr_eql rfl rfl (qF (by omega))) rfl rfl ?_ | refine qv rfl (rr_neq rfl rfl (qT (by omega))) rfl rfl ?_ | refine qv rfl (rr_neq rfl rfl (qF (by omega))) rfl rfl ?_ | refine qv rfl (rr_streq (b := true) rfl rfl (decide_eq_true rfl)) rfl rfl ?_))
      exact E_ret1 rfl rfl fun w hm => hm.ret
end Go.Proofs.YtkcpakfcmincbaaDoor.rexAgain

