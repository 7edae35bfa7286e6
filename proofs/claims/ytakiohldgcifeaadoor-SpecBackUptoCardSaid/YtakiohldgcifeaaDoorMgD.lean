/- Part 4 of what SpecBackUpto needs: RexPs, RexZ, RexSz, RexO, RexO2, RexO3, RexPt, GramL, CfgL, SpecL. -/
import Derived.Test.YtakiohldgcifeaaDoorMgC
import Derived.WalkKit
import Derived.WalkSpells
import Derived.WalkLawsBesides
import Derived.Deep.RegionLaw
import Derived.Deep.AppendLies
import Derived.Deep.QuietTactic
import Derived.BigQuiet
import Derived.Deep.DeepCutAuto
import Derived.Lib.Hide
import Derived.Test.YtakiohldgcifeaaDoorRows
import Derived.ProofKit
import Derived.OpenShut
import Derived.ShutString
import Derived.SizedLaws
import Derived.JoinedCond
import Derived.Deep.CondSized
import Derived.Deep.Quiet
import Derived.StillTail
import Derived.Deep.LoopGhost
import Derived.Laws.BitsLemmas
import Derived.Laws.BytesString
import Derived.Test.YtakiohldgcifeaaDoorProg
import Derived.Laws.Entries
import Derived.Laws.BitsAllLaws
import Derived.Laws.StructEq
import Derived.ChangeKeysEq
import Derived.Lib.TrailingZeros
import Derived.Laws.MakeOwn
import Derived.Laws.AppendOwn
import Derived.Laws.Bits64b
import Derived.Shelf.Strings.Builder1
import Derived.Shelf.Small.Wraps
import Derived.Shelf.Strings.Cut
import Derived.Shelf.LaysM
import Derived.Shelf.Strings.Shaped
import Derived.Shelf.Strings.Split
import Derived.Lib.Strings
import Derived.Lib.Slices
import Derived.Lib.Walk
import Derived.Lib.Bytealg
import Derived.Maps.OwnSet
import Derived.DeepKeys4
import Derived.WideKeyEntry
import Derived.Lib.IndexMore
/- RexPs -/
namespace Go.Proofs.YtakiohldgcifeaaDoor.eng
open Go.RowKit kit mix classL rexL classSets
theorem classT_len (c : C4) : (classT c).length ≤ 2400 := by
  have h1 := charT_len (UInt8.ofNat ((bytesL c).getD 0 0))
  have h2 := itemsT_len 256 (bytesL c)
  have h3 := itemsT_len 256 (bytesL c.not)
  have h4 : (bytesL c).length ≤ 256 := cnt_le c
  have h5 : (bytesL c.not).length ≤ 256 := cnt_le c.not
  unfold classT
  split
  · omega
  · split
    · decide
    · split <;> simp only [List.length_append, List.length_cons, List.length_nil] <;> omega
theorem wrap_len (b : Bool) (t : Txt) : (wrap b t).length ≤ t.length + 2 := by
  unfold wrap
  split
  · simp only [List.length_append, List.length_cons, List.length_nil]; omega
  · omega
theorem body_len : ∀ e : Re, (body e).length ≤ 2500 * e.size
  | .empty => by show 2 ≤ 2500 * 1; omega
  | .none => by show 2 ≤ 2500 * 1; omega
  | .byte c => by have := classT_len c; show (classT c).length ≤ 2500 * 1; omega
  | .star a => by
    have h1 := body_len a
    have h2 := wrap_len (inBr 3 a) (body a)
    show (wrap (inBr 3 a) (body a) ++ [42]).length ≤ 2500 * (a.size + 1)
    rw [List.length_append, List.length_singleton]
    omega
  | .cat a b => by
    have h1 := body_len a
    have h2 := wrap_len (inBr 1 a) (body a)
    have h3 := body_len b
    have h4 := wrap_len (inBr 2 b) (body b)
    show (wrap (inBr 1 a) (body a) ++ wrap (inBr 2 b) (body b)).length ≤ 2500 * (a.size + b.size + 1)
    rw [List.length_append]
    omega
  | .alt a b => by
    have h1 := body_len a
    have h2 := wrap_len (inBr 0 a) (body a)
    have h3 := body_len b
    have h4 := wrap_len (inBr 1 b) (body b)
    show (wrap (inBr 0 a) (body a) ++ ([124] ++ wrap (inBr 1 b) (body b))).length ≤ 2500 * (a.size + b.size + 1)
    rw [List.length_append, List.length_append, List.length_singleton]
    omega
set_option maxHeartbeats 4000000 in
theorem rexClassText_calls (c : C4) (w : World) (hT : TabW w) : Calls Tryd.prog 37 #[clsV c] w (Meets (ret (str (classT c))) w) := by
  have hup := fun w' (hg : Gr w w') => (by have hm : Mem (w : Base) [] w := .start w; exact hT.up (hm.gr hg) : TabW w')
  have hcn := fun w => count_calls c w
  have hil := itemsT_len 256 (bytesL c)
  have hil2 := itemsT_len 256 (bytesL c.not)
  have hl1 : (bytesL c).length ≤ 256 := cnt_le c
  have hl2 : (bytesL c.not).length ≤ 256 := cnt_le c.not
  have hcl : (bytesL c).length = cnt c := rfl
  unfold classT
  refine enter (args := [clsV c]) (n := 33) Tryd.func37 rfl rfl rfl ?_
  refine T_seq (T_region (TL_box rfl rfl rfl fun g1 => ?_))
  conv=>arg 8;simp only[zA,zB,zC,zD,zE,zF,zG,zH,zI,rowS,ret,id_eq]
  repeat(first|refine qv rfl (qp rfl) rfl rfl ?_|refine TL_nil ?_|refine T_seq ?_|refine T_region ?_|refine qcT rfl ?_|refine qcF rfl ?_|refine T_skip ?_|refine T_ret ?_|refine T_block ?_|refine E_then ?_|refine E_thenR ?_|refine E_blockN ?_|refine E_blockR ?_|refine qs rfl rfl rfl rfl rfl rfl ?_|((try refine qg rfl rfl rfl ?_);first|refine qv rfl (qp rfl) rfl rfl ?_|refine qv rfl (rr_loadN (cs := clsL c) TyC.ty rfl rfl (fun j v hj => at_blk (i := 0) rfl (cls_blk hj))) rfl rfl ?_|refine qv rfl (rr_gtr rfl rfl (qT (by omega))) rfl rfl ?_|refine qv rfl (rr_gtr rfl rfl (qF (by omega))) rfl rfl ?_|refine qv rfl (rr_eql rfl rfl (qT (by omega))) rfl rfl ?_|refine qv rfl (rr_eql rfl rfl (qF (by omega))) rfl rfl ?_|refine qv rfl (rr_not rfl rfl) rfl rfl ?_))
  refine TL_call (he1 EntersC.en rfl rfl) (fun w' hm => hcn w') rfl rfl rfl ?_
  intro _ _
  conv=>arg 8;simp only[zA,zB,zC,zD,zE,zF,zG,zH,zI,rowS,ret,id_eq]
  repeat(first|refine qv rfl (qp rfl) rfl rfl ?_|refine TL_nil ?_|refine T_seq ?_|refine T_region ?_|refine qcT rfl ?_|refine qcF rfl ?_|refine T_skip ?_|refine T_ret ?_|refine T_block ?_|refine E_then ?_|refine E_thenR ?_|refine E_blockN ?_|refine E_blockR ?_|refine qs rfl rfl rfl rfl rfl rfl ?_|((try refine qg rfl rfl rfl ?_);first|refine qv rfl (qp rfl) rfl rfl ?_|refine qv rfl (rr_gtr rfl rfl (qT (by omega))) rfl rfl ?_|refine qv rfl (rr_gtr rfl rfl (qF (by omega))) rfl rfl ?_|refine qv rfl (rr_eql rfl rfl (qT (by omega))) rfl rfl ?_|refine qv rfl (rr_eql rfl rfl (qF (by omega))) rfl rfl ?_|refine qv rfl (rr_not rfl rfl) rfl rfl ?_))
  by_cases c1 : cnt c = 1
  · rw [if_pos c1]
    obtain ⟨b, hb⟩ := List.length_eq_one_iff.1 (hcl.trans c1)
    have hst : strL c = [UInt8.ofNat b] := by unfold strL; rw [hb]; rfl
    have hby := fun w' hg => bytes_calls c w' (hup w' hg)
    rw [hst] at hby
    rw [hb, show [b].getD 0 0 = b from rfl]
    repeat(first|refine qv rfl (qp rfl) rfl rfl ?_|refine TL_nil ?_|refine T_seq ?_|refine T_region ?_|refine qcT rfl ?_|refine qcF rfl ?_|refine T_skip ?_|refine T_ret ?_|refine T_block ?_|refine E_then ?_|refine E_thenR ?_|refine E_blockN ?_|refine E_blockR ?_|refine qs rfl rfl rfl rfl rfl rfl ?_|((try refine qg rfl rfl rfl ?_);first|refine qv rfl (qp rfl) rfl rfl ?_|refine qv rfl (rr_eql (b := true) rfl rfl (decide_eq_true (by omega))) rfl rfl ?_|refine qv rfl (rr_loadN (cs := clsL c) TyC.ty rfl rfl (fun j v hj => at_blk (i := 0) rfl (cls_blk hj))) rfl rfl ?_|refine qv rfl (rr_gtr rfl rfl (qT (by omega))) rfl rfl ?_|refine qv rfl (rr_gtr rfl rfl (qF (by omega))) rfl rfl ?_|refine qv rfl (rr_eql rfl rfl (qT (by omega))) rfl rfl ?_|refine qv rfl (rr_eql rfl rfl (qF (by omega))) rfl rfl ?_|refine qv rfl (rr_not rfl rfl) rfl rfl ?_))
    refine TL_call (he1 EntersC.en rfl rfl) (fun w' hm => hby w' hm.below) rfl rfl rfl ?_
    intro _ _
    conv=>arg 8;simp only[zA,zB,zC,zD,zE,zF,zG,zH,zI,rowS,ret,id_eq]
    repeat(first|refine qv rfl (qp rfl) rfl rfl ?_|refine TL_nil ?_|refine T_seq ?_|refine T_region ?_|refine qcT rfl ?_|refine qcF rfl ?_|refine T_skip ?_|refine T_ret ?_|refine T_block ?_|refine E_then ?_|refine E_thenR ?_|refine E_blockN ?_|refine E_blockR ?_|refine qs rfl rfl rfl rfl rfl rfl ?_|((try refine qg rfl rfl rfl ?_);first|refine qv rfl (qp rfl) rfl rfl ?_|refine qv rfl (rr_stridx (b := UInt8.ofNat b) Und.eq rfl rfl (by omega) rfl) rfl rfl ?_|refine qv rfl (rr_gtr rfl rfl (qT (by omega))) rfl rfl ?_|refine qv rfl (rr_gtr rfl rfl (qF (by omega))) rfl rfl ?_|refine qv rfl (rr_eql rfl rfl (qT (by omega))) rfl rfl ?_|refine qv rfl (rr_eql rfl rfl (qF (by omega))) rfl rfl ?_|refine qv rfl (rr_not rfl rfl) rfl rfl ?_))
    refine TL_call (he1 EntersC.en rfl rfl) (fun w' hm => rexChar_calls (UInt8.ofNat b) w') rfl rfl rfl ?_
    intro _ _
    conv=>arg 8;simp only[zA,zB,zC,zD,zE,zF,zG,zH,zI,rowS,ret,id_eq]
    repeat(first|refine qv rfl (qp rfl) rfl rfl ?_|refine TL_nil ?_|refine T_seq ?_|refine T_region ?_|refine qcT rfl ?_|refine qcF rfl ?_|refine T_skip ?_|refine T_ret ?_|refine T_block ?_|refine E_then ?_|refine E_thenR ?_|refine E_blockN ?_|refine E_blockR ?_|refine qs rfl rfl rfl rfl rfl rfl ?_|((try refine qg rfl rfl rfl ?_);first|refine qv rfl (qp rfl) rfl rfl ?_|refine qv rfl (rr_gtr rfl rfl (qT (by omega))) rfl rfl ?_|refine qv rfl (rr_gtr rfl rfl (qF (by omega))) rfl rfl ?_|refine qv rfl (rr_eql rfl rfl (qT (by omega))) rfl rfl ?_|refine qv rfl (rr_eql rfl rfl (qF (by omega))) rfl rfl ?_|refine qv rfl (rr_not rfl rfl) rfl rfl ?_))
    exact E_ret1 rfl rfl fun w hm => hm.ret
  · rw [if_neg c1]
    have hit := fun w' hg => rexItems_calls c w' (hup w' hg)
    have hitn := fun w' hg => rexItems_calls c.not w' (hup w' hg)
    by_cases c2 : cnt c = 255
    · have hha := fun w => has_calls c 10 (by omega) w
      repeat(first|refine qv rfl (qp rfl) rfl rfl ?_|refine TL_nil ?_|refine T_seq ?_|refine T_region ?_|refine qcT rfl ?_|refine qcF rfl ?_|refine T_skip ?_|refine T_ret ?_|refine T_block ?_|refine E_then ?_|refine E_thenR ?_|refine E_blockN ?_|refine E_blockR ?_|refine qs rfl rfl rfl rfl rfl rfl ?_|((try refine qg rfl rfl rfl ?_);first|refine qv rfl (qp rfl) rfl rfl ?_|refine qv rfl (rr_eql (b := false) rfl rfl (decide_eq_false (by omega))) rfl rfl ?_|refine qv rfl (rr_eql (b := true) rfl rfl (decide_eq_true (by omega))) rfl rfl ?_|refine qv rfl (rr_loadN (cs := clsL c) TyC.ty rfl rfl (fun j v hj => at_blk (i := 0) rfl (cls_blk hj))) rfl rfl ?_|refine qv rfl (rr_gtr rfl rfl (qT (by omega))) rfl rfl ?_|refine qv rfl (rr_gtr rfl rfl (qF (by omega))) rfl rfl ?_|refine qv rfl (rr_eql rfl rfl (qT (by omega))) rfl rfl ?_|refine qv rfl (rr_eql rfl rfl (qF (by omega))) rfl rfl ?_|refine qv rfl (rr_not rfl rfl) rfl rfl ?_))
      refine TL_gcall (he2 EntersC.en rfl rfl rfl) (fun w' hm => hha w') rfl rfl rfl rfl rfl ?_
      intro _ _
      conv=>arg 8;simp only[zA,zB,zC,zD,zE,zF,zG,zH,zI,rowS,ret,id_eq]
      cases hm10 : c.mem 10 with
      | false =>
        rw [if_pos ⟨c2, rfl⟩]
        repeat(first|refine qv rfl (qp rfl) rfl rfl ?_|refine TL_nil ?_|refine T_seq ?_|refine T_region ?_|refine qcT rfl ?_|refine qcF rfl ?_|refine T_skip ?_|refine T_ret ?_|refine T_block ?_|refine E_then ?_|refine E_thenR ?_|refine E_blockN ?_|refine E_blockR ?_|refine qs rfl rfl rfl rfl rfl rfl ?_|((try refine qg rfl rfl rfl ?_);first|refine qv rfl (qp rfl) rfl rfl ?_|refine qv rfl (rr_gtr rfl rfl (qT (by omega))) rfl rfl ?_|refine qv rfl (rr_gtr rfl rfl (qF (by omega))) rfl rfl ?_|refine qv rfl (rr_eql rfl rfl (qT (by omega))) rfl rfl ?_|refine qv rfl (rr_eql rfl rfl (qF (by omega))) rfl rfl ?_|refine qv rfl (rr_not rfl rfl) rfl rfl ?_))
        exact E_ret1 rfl rfl fun w hm => hm.ret
      | true =>
        rw [if_neg (by rintro ⟨_, h⟩; cases h), if_pos (by omega)]
        repeat(first|refine qv rfl (qp rfl) rfl rfl ?_|refine TL_nil ?_|refine T_seq ?_|refine T_region ?_|refine qcT rfl ?_|refine qcF rfl ?_|refine T_skip ?_|refine T_ret ?_|refine T_block ?_|refine E_then ?_|refine E_thenR ?_|refine E_blockN ?_|refine E_blockR ?_|refine qs rfl rfl rfl rfl rfl rfl ?_|((try refine qg rfl rfl rfl ?_);first|refine qv rfl (qp rfl) rfl rfl ?_|refine qv rfl (rr_gtr (b := true) rfl rfl (decide_eq_true (by omega))) rfl rfl ?_|refine qv rfl (rr_loadN (cs := clsL c) TyC.ty rfl rfl (fun j v hj => at_blk (i := 0) rfl (cls_blk hj))) rfl rfl ?_|refine qv rfl (rr_gtr rfl rfl (qT (by omega))) rfl rfl ?_|refine qv rfl (rr_gtr rfl rfl (qF (by omega))) rfl rfl ?_|refine qv rfl (rr_eql rfl rfl (qT (by omega))) rfl rfl ?_|refine qv rfl (rr_eql rfl rfl (qF (by omega))) rfl rfl ?_|refine qv rfl (rr_not rfl rfl) rfl rfl ?_))
        refine TL_call (he1 EntersC.en rfl rfl) (fun w hm => notE c w) rfl rfl rfl ?_
        intro _ _
        conv=>arg 8;simp only[zA,zB,zC,zD,zE,zF,zG,zH,zI,rowS,ret,id_eq]
        repeat(first|refine qv rfl (qp rfl) rfl rfl ?_|refine TL_nil ?_|refine T_seq ?_|refine T_region ?_|refine qcT rfl ?_|refine qcF rfl ?_|refine T_skip ?_|refine T_ret ?_|refine T_block ?_|refine E_then ?_|refine E_thenR ?_|refine E_blockN ?_|refine E_blockR ?_|refine qs rfl rfl rfl rfl rfl rfl ?_|((try refine qg rfl rfl rfl ?_);first|refine qv rfl (qp rfl) rfl rfl ?_|refine qv rfl (rr_gtr rfl rfl (qT (by omega))) rfl rfl ?_|refine qv rfl (rr_gtr rfl rfl (qF (by omega))) rfl rfl ?_|refine qv rfl (rr_eql rfl rfl (qT (by omega))) rfl rfl ?_|refine qv rfl (rr_eql rfl rfl (qF (by omega))) rfl rfl ?_|refine qv rfl (rr_not rfl rfl) rfl rfl ?_))
        refine TL_call (he1 EntersC.en rfl rfl) (fun w' hm => hitn w' hm.below) rfl rfl rfl ?_
        intro _ _
        conv=>arg 8;simp only[zA,zB,zC,zD,zE,zF,zG,zH,zI,rowS,ret,id_eq]
        repeat(first|refine qv rfl (qp rfl) rfl rfl ?_|refine TL_nil ?_|refine T_seq ?_|refine T_region ?_|refine qcT rfl ?_|refine qcF rfl ?_|refine T_skip ?_|refine T_ret ?_|refine T_block ?_|refine E_then ?_|refine E_thenR ?_|refine E_blockN ?_|refine E_blockR ?_|refine qs rfl rfl rfl rfl rfl rfl ?_|((try refine qg rfl rfl rfl ?_);first|refine qv rfl (qp rfl) rfl rfl ?_|refine qv rfl (rr_stradd (l := [91, 94]) rfl rfl (by simp only [List.length_cons, List.length_nil]; omega)) rfl rfl ?_|refine qv rfl (rr_stradd (l' := [93]) rfl rfl (by simp only [List.length_append, List.length_cons, List.length_nil]; omega)) rfl rfl ?_|refine qv rfl (rr_gtr rfl rfl (qT (by omega))) rfl rfl ?_|refine qv rfl (rr_gtr rfl rfl (qF (by omega))) rfl rfl ?_|refine qv rfl (rr_eql rfl rfl (qT (by omega))) rfl rfl ?_|refine qv rfl (rr_eql rfl rfl (qF (by omega))) rfl rfl ?_|refine qv rfl (rr_not rfl rfl) rfl rfl ?_))
        exact E_ret1e rfl rfl (by simp)
    · rw [if_neg (by rintro ⟨h, _⟩; exact c2 h)]
      by_cases c3 : 128 < cnt c
      · rw [if_pos c3]
        repeat(first|refine qv rfl (qp rfl) rfl rfl ?_|refine TL_nil ?_|refine T_seq ?_|refine T_region ?_|refine qcT rfl ?_|refine qcF rfl ?_|refine T_skip ?_|refine T_ret ?_|refine T_block ?_|refine E_then ?_|refine E_thenR ?_|refine E_blockN ?_|refine E_blockR ?_|refine qs rfl rfl rfl rfl rfl rfl ?_|((try refine qg rfl rfl rfl ?_);first|refine qv rfl (qp rfl) rfl rfl ?_|refine qv rfl (rr_eql (b := false) rfl rfl (decide_eq_false (by omega))) rfl rfl ?_|refine qv rfl (rr_gtr (b := true) rfl rfl (decide_eq_true (by omega))) rfl rfl ?_|refine qv rfl (rr_loadN (cs := clsL c) TyC.ty rfl rfl (fun j v hj => at_blk (i := 0) rfl (cls_blk hj))) rfl rfl ?_|refine qv rfl (rr_gtr rfl rfl (qT (by omega))) rfl rfl ?_|refine qv rfl (rr_gtr rfl rfl (qF (by omega))) rfl rfl ?_|refine qv rfl (rr_eql rfl rfl (qT (by omega))) rfl rfl ?_|refine qv rfl (rr_eql rfl rfl (qF (by omega))) rfl rfl ?_|refine qv rfl (rr_not rfl rfl) rfl rfl ?_))
        refine TL_call (he1 EntersC.en rfl rfl) (fun w hm => notE c w) rfl rfl rfl ?_
        intro _ _
        conv=>arg 8;simp only[zA,zB,zC,zD,zE,zF,zG,zH,zI,rowS,ret,id_eq]
        repeat(first|refine qv rfl (qp rfl) rfl rfl ?_|refine TL_nil ?_|refine T_seq ?_|refine T_region ?_|refine qcT rfl ?_|refine qcF rfl ?_|refine T_skip ?_|refine T_ret ?_|refine T_block ?_|refine E_then ?_|refine E_thenR ?_|refine E_blockN ?_|refine E_blockR ?_|refine qs rfl rfl rfl rfl rfl rfl ?_|((try refine qg rfl rfl rfl ?_);first|refine qv rfl (qp rfl) rfl rfl ?_|refine qv rfl (rr_gtr rfl rfl (qT (by omega))) rfl rfl ?_|refine qv rfl (rr_gtr rfl rfl (qF (by omega))) rfl rfl ?_|refine qv rfl (rr_eql rfl rfl (qT (by omega))) rfl rfl ?_|refine qv rfl (rr_eql rfl rfl (qF (by omega))) rfl rfl ?_|refine qv rfl (rr_not rfl rfl) rfl rfl ?_))
        refine TL_call (he1 EntersC.en rfl rfl) (fun w' hm => hitn w' hm.below) rfl rfl rfl ?_
        intro _ _
        conv=>arg 8;simp only[zA,zB,zC,zD,zE,zF,zG,zH,zI,rowS,ret,id_eq]
        repeat(first|refine qv rfl (qp rfl) rfl rfl ?_|refine TL_nil ?_|refine T_seq ?_|refine T_region ?_|refine qcT rfl ?_|refine qcF rfl ?_|refine T_skip ?_|refine T_ret ?_|refine T_block ?_|refine E_then ?_|refine E_thenR ?_|refine E_blockN ?_|refine E_blockR ?_|refine qs rfl rfl rfl rfl rfl rfl ?_|((try refine qg rfl rfl rfl ?_);first|refine qv rfl (qp rfl) rfl rfl ?_|refine qv rfl (rr_stradd (l := [91, 94]) rfl rfl (by simp only [List.length_cons, List.length_nil]; omega)) rfl rfl ?_|refine qv rfl (rr_stradd (l' := [93]) rfl rfl (by simp only [List.length_append, List.length_cons, List.length_nil]; omega)) rfl rfl ?_|refine qv rfl (rr_gtr rfl rfl (qT (by omega))) rfl rfl ?_|refine qv rfl (rr_gtr rfl rfl (qF (by omega))) rfl rfl ?_|refine qv rfl (rr_eql rfl rfl (qT (by omega))) rfl rfl ?_|refine qv rfl (rr_eql rfl rfl (qF (by omega))) rfl rfl ?_|refine qv rfl (rr_not rfl rfl) rfl rfl ?_))
        exact E_ret1e rfl rfl (by simp)
      · rw [if_neg c3]
        repeat(first|refine qv rfl (qp rfl) rfl rfl ?_|refine TL_nil ?_|refine T_seq ?_|refine T_region ?_|refine qcT rfl ?_|refine qcF rfl ?_|refine T_skip ?_|refine T_ret ?_|refine T_block ?_|refine E_then ?_|refine E_thenR ?_|refine E_blockN ?_|refine E_blockR ?_|refine qs rfl rfl rfl rfl rfl rfl ?_|((try refine qg rfl rfl rfl ?_);first|refine qv rfl (qp rfl) rfl rfl ?_|refine qv rfl (rr_eql (b := false) rfl rfl (decide_eq_false (by omega))) rfl rfl ?_|refine qv rfl (rr_gtr (b := false) rfl rfl (decide_eq_false (by omega))) rfl rfl ?_|refine qv rfl (rr_loadN (cs := clsL c) TyC.ty rfl rfl (fun j v hj => at_blk (i := 0) rfl (cls_blk hj))) rfl rfl ?_|refine qv rfl (rr_gtr rfl rfl (qT (by omega))) rfl rfl ?_|refine qv rfl (rr_gtr rfl rfl (qF (by omega))) rfl rfl ?_|refine qv rfl (rr_eql rfl rfl (qT (by omega))) rfl rfl ?_|refine qv rfl (rr_eql rfl rfl (qF (by omega))) rfl rfl ?_|refine qv rfl (rr_not rfl rfl) rfl rfl ?_))
        refine TL_call (he1 EntersC.en rfl rfl) (fun w' hm => hit w' hm.below) rfl rfl rfl ?_
        intro _ _
        conv=>arg 8;simp only[zA,zB,zC,zD,zE,zF,zG,zH,zI,rowS,ret,id_eq]
        repeat(first|refine qv rfl (qp rfl) rfl rfl ?_|refine TL_nil ?_|refine T_seq ?_|refine T_region ?_|refine qcT rfl ?_|refine qcF rfl ?_|refine T_skip ?_|refine T_ret ?_|refine T_block ?_|refine E_then ?_|refine E_thenR ?_|refine E_blockN ?_|refine E_blockR ?_|refine qs rfl rfl rfl rfl rfl rfl ?_|((try refine qg rfl rfl rfl ?_);first|refine qv rfl (qp rfl) rfl rfl ?_|refine qv rfl (rr_stradd (l := [91]) rfl rfl (by simp only [List.length_cons, List.length_nil]; omega)) rfl rfl ?_|refine qv rfl (rr_stradd (l' := [93]) rfl rfl (by simp only [List.length_append, List.length_cons, List.length_nil]; omega)) rfl rfl ?_|refine qv rfl (rr_gtr rfl rfl (qT (by omega))) rfl rfl ?_|refine qv rfl (rr_gtr rfl rfl (qF (by omega))) rfl rfl ?_|refine qv rfl (rr_eql rfl rfl (qT (by omega))) rfl rfl ?_|refine qv rfl (rr_eql rfl rfl (qF (by omega))) rfl rfl ?_|refine qv rfl (rr_not rfl rfl) rfl rfl ?_))
        exact E_ret1e rfl rfl (by simp)
/-- brackets by a list of kinds -/
def brk (ks : List Int) (e : Re) : Bool := ks.any (· == e.kind)
theorem brk_0 (e : Re) : brk [] e = false := rfl
theorem brk_1 (e : Re) : brk [5] e = inBr 1 e := by unfold brk inBr; cases e <;> rfl
theorem brk_2 (e : Re) : brk [5, 4] e = inBr 2 e := by unfold brk inBr; cases e <;> rfl
theorem brk_3 (e : Re) : brk [4, 5, 6] e = inBr 3 e := by unfold brk inBr; cases e <;> rfl
theorem inBr0 (e : Re) : inBr 0 e = false := br0 e
theorem slnil (w : World) : Sl w (.slice none 0 0) ([] : List Int).length (([] : List Int).map (.int .i64)) := ⟨none, 0, rfl, Nat.le_refl _, by unfold maxLen; omega, fun h => by cases h⟩
set_option maxRecDepth 100000 in
set_option maxHeartbeats 16000000 in
theorem shown_calls : ∀ (N : Nat) (e : Re) (ks : List Int) (vk vks : Value) (w : World), 2 * e.size + (if ks = [] then 0 else 1) ≤ N → e.size ≤ 100 → TabW w → SlF rexS (Low w) w vk (e.kids.map emb) → Sl w vks ks.length (ks.map (.int .i64)) →
    Calls Tryd.prog 23 #[rexV e.kind e.cls vk, vks] w (Meets (ret (str (wrap (brk ks e) (body e)))) w)
  | 0, e, _, _, _, _, h, _, _, _, _ => by have := e.size_pos; omega
  | N + 1, e, ks, vk, vks, w, hN, hsz, hT, hk, hs => by
    have IH := shown_calls N
    have hup := fun w' (hg : Gr w w') => (by have hm : Mem (w : Base) [] w := .start w; exact hT.up (hm.gr hg) : TabW w')
    obtain ⟨bs, cs, rfl, hs1, hs2, hs3⟩ := hs
    unfold maxLen at hs2
    have hself := fun w' (hg : Gr w w') hm => IH e [] vk (.slice none 0 0) w' hm hsz (hup w' hg) ((hk.stay fun k hk => hg.block k hk).mono fun k hk => Nat.lt_of_lt_of_le hk hg.size) (slnil w')
    rw [brk_0] at hself
    obtain ⟨bk, ck, rfl, hck, hmk, hrk⟩ := hk
    unfold maxLen at hmk
    rw [List.length_map] at hck hself ⊢
    have hrk := fun h0 => hrk (by rw [List.length_map]; exact h0)
    have hbl := body_len e
    refine enter (args := [rexV e.kind e.cls (.slice bk e.kids.length ck), .slice bs ks.length cs]) (n := 70) Tryd.func23 rfl rfl rfl ?_
    refine T_seq (T_region (TL_box rfl rfl rfl fun g2 => ?_))
    conv=>arg 8;simp only[zA,zB,zC,zD,zE,zF,zG,zH,zI,rowS,ret,id_eq]
    repeat(first|refine qv rfl (qp rfl) rfl rfl ?_|refine TL_nil ?_|refine T_seq ?_|refine T_region ?_|refine qcT rfl ?_|refine qcF rfl ?_|refine T_skip ?_|refine T_exit ?_|refine T_ret ?_|refine T_block ?_|refine E_then ?_|refine E_thenX ?_|refine E_thenR ?_|refine E_blockN ?_|refine E_blockR ?_|refine E_blockX ?_|refine E_blockO rfl ?_|refine qv rfl (qlen Und.eq rfl) rfl rfl ?_|refine qv rfl (qfld FldC.fld rfl rfl) rfl rfl ?_|refine qv rfl (rr_lss rfl rfl (qT (by omega))) rfl rfl ?_|refine qv rfl (rr_lss rfl rfl (qF (by omega))) rfl rfl ?_|refine qv rfl (rr_eql rfl rfl (qT (by omega))) rfl rfl ?_|refine qv rfl (rr_eql rfl rfl (qF (by omega))) rfl rfl ?_|refine qv rfl (rr_add64 rfl rfl (by omega) (by omega) rfl) rfl rfl ?_)
    refine T_loop (ι := Nat) (fun j => j ≤ ks.length ∧ ∀ i (h : i < ks.length), i < j → ks[i] ≠ e.kind) (fun j => [(2, .pointer (some ⟨g2, 0, none⟩)), (7, .slice bs ks.length cs), (8, .int .i64 ks.length), (9, .int .i64 (j : Int))]) (fun _ => [blkO g2 (rexC e.kind e.cls (.slice bk e.kids.length ck)).toArray 39]) (fun j => ks.length - j) 0 ⟨Nat.zero_le _, fun i h h' => by omega⟩ (by repeat' (first | exact True.intro | refine And.intro rfl ?_)) rfl ?_
    rintro j ⟨i1, i2⟩
    by_cases c1 : j < ks.length
    · obtain ⟨b, off, rfl, hr⟩ := hs3 (by omega)
      have hat := fun L => at_rdm (L := L) hr c1
      have hne : ks ≠ [] := fun h => by rw [h] at c1; cases c1
      rw [if_neg hne] at hN
      have hany : ks[j] = e.kind → brk ks e = true := fun h => by
        unfold brk
        rw [List.any_eq_true]
        exact ⟨ks[j], List.getElem_mem c1, by simp [h]⟩
      by_cases c2 : ks[j] = e.kind
      · rw [hany c2]
        rw [c2] at hat
        clear hr hany IH hrk
        repeat(first|refine qv rfl (qp rfl) rfl rfl ?_|refine TL_nil ?_|refine T_seq ?_|refine T_region ?_|refine qcT rfl ?_|refine qcF rfl ?_|refine T_skip ?_|refine T_exit ?_|refine T_ret ?_|refine T_block ?_|refine E_then ?_|refine E_thenX ?_|refine E_thenR ?_|refine E_blockN ?_|refine E_blockR ?_|refine E_blockX ?_|refine E_blockO rfl ?_|refine qv rfl (rr_idx1 Und.eq TyC.ty rfl rfl c1) rfl rfl ?_|refine qv rfl (rr_load1 TyC.ty rfl (hat _)) rfl rfl ?_|refine qv rfl (rr_load1 (v := .int .i64 e.kind) TyC.ty rfl (at_blk (i := 0) rfl rfl)) rfl rfl ?_|refine qv rfl (rr_eql (b := true) rfl rfl (decide_eq_true rfl)) rfl rfl ?_|refine qv rfl (rr_loadB (i := 0) TyC.ty rfl rfl rfl) rfl rfl ?_|refine qv rfl (qlen Und.eq rfl) rfl rfl ?_|refine qv rfl (qfld FldC.fld rfl rfl) rfl rfl ?_|refine qv rfl (rr_lss rfl rfl (qT (by omega))) rfl rfl ?_|refine qv rfl (rr_lss rfl rfl (qF (by omega))) rfl rfl ?_|refine qv rfl (rr_eql rfl rfl (qT (by omega))) rfl rfl ?_|refine qv rfl (rr_eql rfl rfl (qF (by omega))) rfl rfl ?_|refine qv rfl (rr_add64 rfl rfl (by omega) (by omega) rfl) rfl rfl ?_)
        refine TL_call (he2 EntersC.en rfl rfl rfl) (fun w' hm => hself w' hm.below (by simp; omega)) rfl rfl rfl ?_
        intro _ _
        conv=>arg 8;simp only[zA,zB,zC,zD,zE,zF,zG,zH,zI,rowS,ret,id_eq]
        repeat(first|refine qv rfl (qp rfl) rfl rfl ?_|refine TL_nil ?_|refine T_seq ?_|refine T_region ?_|refine qcT rfl ?_|refine qcF rfl ?_|refine T_skip ?_|refine T_exit ?_|refine T_ret ?_|refine T_block ?_|refine E_then ?_|refine E_thenX ?_|refine E_thenR ?_|refine E_blockN ?_|refine E_blockR ?_|refine E_blockX ?_|refine E_blockO rfl ?_|refine qv rfl (rr_stradd (l := [40]) rfl rfl (by show 1 + (wrap false (body e)).length ≤ _; show 1 + (body e).length ≤ _; omega)) rfl rfl ?_|refine qv rfl (rr_stradd (l' := [41]) rfl rfl (by show ([40] ++ body e).length + 1 ≤ _; simp; omega)) rfl rfl ?_|refine qv rfl (qlen Und.eq rfl) rfl rfl ?_|refine qv rfl (qfld FldC.fld rfl rfl) rfl rfl ?_|refine qv rfl (rr_lss rfl rfl (qT (by omega))) rfl rfl ?_|refine qv rfl (rr_lss rfl rfl (qF (by omega))) rfl rfl ?_|refine qv rfl (rr_eql rfl rfl (qT (by omega))) rfl rfl ?_|refine qv rfl (rr_eql rfl rfl (qF (by omega))) rfl rfl ?_|refine qv rfl (rr_add64 rfl rfl (by omega) (by omega) rfl) rfl rfl ?_)
        exact E_ret1e rfl rfl (by simp [wrap])
      · repeat(first|refine qv rfl (qp rfl) rfl rfl ?_|refine TL_nil ?_|refine T_seq ?_|refine T_region ?_|refine qcT rfl ?_|refine qcF rfl ?_|refine T_skip ?_|refine T_exit ?_|refine T_ret ?_|refine T_block ?_|refine E_then ?_|refine E_thenX ?_|refine E_thenR ?_|refine E_blockN ?_|refine E_blockR ?_|refine E_blockX ?_|refine E_blockO rfl ?_|refine qv rfl (rr_idx1 Und.eq TyC.ty rfl rfl c1) rfl rfl ?_|refine qv rfl (rr_load1 TyC.ty rfl (hat _)) rfl rfl ?_|refine qv rfl (rr_load1 (v := .int .i64 e.kind) TyC.ty rfl (at_blk (i := 0) rfl rfl)) rfl rfl ?_|refine qv rfl (rr_eql (b := false) rfl rfl (decide_eq_false (fun h => c2 h.symm))) rfl rfl ?_|refine qv rfl (rr_add64 (r := ((j + 1 : Nat) : Int)) rfl rfl (by omega) (by omega) (by omega)) rfl rfl ?_|refine qv rfl (qlen Und.eq rfl) rfl rfl ?_|refine qv rfl (qfld FldC.fld rfl rfl) rfl rfl ?_|refine qv rfl (rr_lss rfl rfl (qT (by omega))) rfl rfl ?_|refine qv rfl (rr_lss rfl rfl (qF (by omega))) rfl rfl ?_|refine qv rfl (rr_eql rfl rfl (qT (by omega))) rfl rfl ?_|refine qv rfl (rr_eql rfl rfl (qF (by omega))) rfl rfl ?_|refine qv rfl (rr_add64 rfl rfl (by omega) (by omega) rfl) rfl rfl ?_)
        exact E_round (j + 1) ⟨c1, fun i h h' => if e' : i < j then i2 i h e' else (by obtain rfl : i = j := (by omega); exact c2)⟩ (by show ks.length - (j + 1) < ks.length - j; omega) (by repeat' (first | exact True.intro | refine And.intro rfl ?_)) rfl
    · have hb : brk ks e = false := by
        unfold brk
        rw [List.any_eq_false]
        intro x hx
        obtain ⟨i, hi, rfl⟩ := List.getElem_of_mem hx
        have := i2 i hi (by omega)
        simpa using this
      rw [hb]
      have hN2 : 2 * e.size ≤ N + 1 := by omega
      clear hs3 hself i2 hb hN
      rw [show wrap false (body e) = body e from rfl]
      cases e with
      | empty =>
        repeat(first|refine qv rfl (qp rfl) rfl rfl ?_|refine TL_nil ?_|refine T_seq ?_|refine T_region ?_|refine qcT rfl ?_|refine qcF rfl ?_|refine T_skip ?_|refine T_exit ?_|refine T_ret ?_|refine T_block ?_|refine E_then ?_|refine E_thenX ?_|refine E_thenR ?_|refine E_blockN ?_|refine E_blockR ?_|refine E_blockX ?_|refine E_blockO rfl ?_|refine qv rfl (rr_load1 (v := .int .i64 2) TyC.ty rfl (at_blk (i := 0) rfl rfl)) rfl rfl ?_|refine qv rfl (rr_eql (b := true) rfl rfl rfl) rfl rfl ?_|refine qv rfl (qlen Und.eq rfl) rfl rfl ?_|refine qv rfl (qfld FldC.fld rfl rfl) rfl rfl ?_|refine qv rfl (rr_lss rfl rfl (qT (by omega))) rfl rfl ?_|refine qv rfl (rr_lss rfl rfl (qF (by omega))) rfl rfl ?_|refine qv rfl (rr_eql rfl rfl (qT (by omega))) rfl rfl ?_|refine qv rfl (rr_eql rfl rfl (qF (by omega))) rfl rfl ?_|refine qv rfl (rr_add64 rfl rfl (by omega) (by omega) rfl) rfl rfl ?_)
        exact E_ret1 rfl rfl fun w hm => hm.ret
      | none =>
        repeat(first|refine qv rfl (qp rfl) rfl rfl ?_|refine TL_nil ?_|refine T_seq ?_|refine T_region ?_|refine qcT rfl ?_|refine qcF rfl ?_|refine T_skip ?_|refine T_exit ?_|refine T_ret ?_|refine T_block ?_|refine E_then ?_|refine E_thenX ?_|refine E_thenR ?_|refine E_blockN ?_|refine E_blockR ?_|refine E_blockX ?_|refine E_blockO rfl ?_|refine qv rfl (rr_load1 (v := .int .i64 1) TyC.ty rfl (at_blk (i := 0) rfl rfl)) rfl rfl ?_|refine qv rfl (rr_eql (b := false) rfl rfl rfl) rfl rfl ?_|refine qv rfl (rr_eql (b := true) rfl rfl rfl) rfl rfl ?_|refine qv rfl (qlen Und.eq rfl) rfl rfl ?_|refine qv rfl (qfld FldC.fld rfl rfl) rfl rfl ?_|refine qv rfl (rr_lss rfl rfl (qT (by omega))) rfl rfl ?_|refine qv rfl (rr_lss rfl rfl (qF (by omega))) rfl rfl ?_|refine qv rfl (rr_eql rfl rfl (qT (by omega))) rfl rfl ?_|refine qv rfl (rr_eql rfl rfl (qF (by omega))) rfl rfl ?_|refine qv rfl (rr_add64 rfl rfl (by omega) (by omega) rfl) rfl rfl ?_)
        exact E_ret1 rfl rfl fun w hm => hm.ret
      | byte c =>
        have hct := fun w' hg => rexClassText_calls c w' (hup w' hg)
        repeat(first|refine qv rfl (qp rfl) rfl rfl ?_|refine TL_nil ?_|refine T_seq ?_|refine T_region ?_|refine qcT rfl ?_|refine qcF rfl ?_|refine T_skip ?_|refine T_exit ?_|refine T_ret ?_|refine T_block ?_|refine E_then ?_|refine E_thenX ?_|refine E_thenR ?_|refine E_blockN ?_|refine E_blockR ?_|refine E_blockX ?_|refine E_blockO rfl ?_|refine qv rfl (rr_load1 (v := .int .i64 3) TyC.ty rfl (at_blk (i := 0) rfl rfl)) rfl rfl ?_|refine qv rfl (rr_eql (b := false) rfl rfl rfl) rfl rfl ?_|refine qv rfl (rr_eql (b := true) rfl rfl rfl) rfl rfl ?_|refine qv rfl (rr_loadN (cs := clsL c) TyC.ty rfl rfl (fun j v hj => at_blk (i := 0) rfl (rex_cls hj))) rfl rfl ?_|refine qv rfl (qlen Und.eq rfl) rfl rfl ?_|refine qv rfl (qfld FldC.fld rfl rfl) rfl rfl ?_|refine qv rfl (rr_lss rfl rfl (qT (by omega))) rfl rfl ?_|refine qv rfl (rr_lss rfl rfl (qF (by omega))) rfl rfl ?_|refine qv rfl (rr_eql rfl rfl (qT (by omega))) rfl rfl ?_|refine qv rfl (rr_eql rfl rfl (qF (by omega))) rfl rfl ?_|refine qv rfl (rr_add64 rfl rfl (by omega) (by omega) rfl) rfl rfl ?_)
        refine TL_call (he1 EntersC.en rfl rfl) (fun w' hm => hct w' hm.below) rfl rfl rfl ?_
        intro _ _
        conv=>arg 8;simp only[zA,zB,zC,zD,zE,zF,zG,zH,zI,rowS,ret,id_eq]
        repeat(first|refine qv rfl (qp rfl) rfl rfl ?_|refine TL_nil ?_|refine T_seq ?_|refine T_region ?_|refine qcT rfl ?_|refine qcF rfl ?_|refine T_skip ?_|refine T_exit ?_|refine T_ret ?_|refine T_block ?_|refine E_then ?_|refine E_thenX ?_|refine E_thenR ?_|refine E_blockN ?_|refine E_blockR ?_|refine E_blockX ?_|refine E_blockO rfl ?_|refine qv rfl (qlen Und.eq rfl) rfl rfl ?_|refine qv rfl (qfld FldC.fld rfl rfl) rfl rfl ?_|refine qv rfl (rr_lss rfl rfl (qT (by omega))) rfl rfl ?_|refine qv rfl (rr_lss rfl rfl (qF (by omega))) rfl rfl ?_|refine qv rfl (rr_eql rfl rfl (qT (by omega))) rfl rfl ?_|refine qv rfl (rr_eql rfl rfl (qF (by omega))) rfl rfl ?_|refine qv rfl (rr_add64 rfl rfl (by omega) (by omega) rfl) rfl rfl ?_)
        exact E_ret1 rfl rfl fun w hm => hm.ret
      | star a =>
        obtain ⟨bb, off, rfl, _, hr⟩ := hrk (by show 0 < 1; omega)
        have hka : ∃ base cap, Rd w bb (off + 0 * 6) (rexC a.kind a.cls (.slice base a.kids.length cap)) ∧ kit.okI64 a.kind ∧ SlF rexS (Low w) w (.slice base a.kids.length cap) (a.kids.map emb) := rkid_emb (l := [a]) hr (j := 0) (by show 0 < 1; omega)
        obtain ⟨bak, cak, hrdak, _, hksak⟩ := hka
        have hatak := fun (L : List Own) j v hj => at_oldR (W := w) (L := L) (Old.self w) hrdak j v hj
        have IHak := fun ks vks w' (hg : Gr w w') hm hs => IH a ks (.slice bak a.kids.length cak) vks w' hm (by simp only [Re.size] at hsz; omega) (hup w' hg) ((hksak.stay fun k hk => hg.block k hk).mono fun k hk => Nat.lt_of_lt_of_le hk hg.size) hs
        repeat(first|refine qv rfl (qp rfl) rfl rfl ?_|refine TL_nil ?_|refine T_seq ?_|refine T_region ?_|refine qcT rfl ?_|refine qcF rfl ?_|refine T_skip ?_|refine T_exit ?_|refine T_ret ?_|refine T_block ?_|refine E_then ?_|refine E_thenX ?_|refine E_thenR ?_|refine E_blockN ?_|refine E_blockR ?_|refine E_blockX ?_|refine E_blockO rfl ?_|refine qv rfl (rr_load1 (v := .int .i64 6) TyC.ty rfl (at_blk (i := 0) rfl rfl)) rfl rfl ?_|refine qv rfl (rr_eql (b := false) rfl rfl rfl) rfl rfl ?_|refine qv rfl (rr_eql (b := true) rfl rfl rfl) rfl rfl ?_|refine qv rfl (rr_load1 (v := .slice (some ⟨bb, off, none⟩) 1 ck) TyC.ty rfl (at_blk (i := 0) rfl rfl)) rfl rfl ?_|refine qv rfl (rr_idxc (j := 0) Und.eq TyC.ty rfl rfl (by decide)) rfl rfl ?_|refine qv rfl (rr_loadN (cs := rexC a.kind a.cls (.slice bak a.kids.length cak)) TyC.ty rfl rfl (hatak _)) rfl rfl ?_|refine qv rfl (qlen Und.eq rfl) rfl rfl ?_|refine qv rfl (qfld FldC.fld rfl rfl) rfl rfl ?_|refine qv rfl (rr_lss rfl rfl (qT (by omega))) rfl rfl ?_|refine qv rfl (rr_lss rfl rfl (qF (by omega))) rfl rfl ?_|refine qv rfl (rr_eql rfl rfl (qT (by omega))) rfl rfl ?_|refine qv rfl (rr_eql rfl rfl (qF (by omega))) rfl rfl ?_|refine qv rfl (rr_add64 rfl rfl (by omega) (by omega) rfl) rfl rfl ?_)
        refine TL_litV [.int .i64 4, .int .i64 5, .int .i64 6] rfl rfl rfl (by intro v hv; simp at hv; rcases hv with rfl | rfl | rfl <;> rfl) rfl rfl fun g39 => TL_toRow (i := 1) (m := 3) 1 rfl rfl (by omega) ?_
        conv=>arg 8;simp only[zA,zB,zC,zD,zE,zF,zG,zH,zI,rowS,ret,id_eq]
        repeat(first|refine qv rfl (qp rfl) rfl rfl ?_|refine TL_nil ?_|refine T_seq ?_|refine T_region ?_|refine qcT rfl ?_|refine qcF rfl ?_|refine T_skip ?_|refine T_exit ?_|refine T_ret ?_|refine T_block ?_|refine E_then ?_|refine E_thenX ?_|refine E_thenR ?_|refine E_blockN ?_|refine E_blockR ?_|refine E_blockX ?_|refine E_blockO rfl ?_|refine qv rfl (qlen Und.eq rfl) rfl rfl ?_|refine qv rfl (qfld FldC.fld rfl rfl) rfl rfl ?_|refine qv rfl (rr_lss rfl rfl (qT (by omega))) rfl rfl ?_|refine qv rfl (rr_lss rfl rfl (qF (by omega))) rfl rfl ?_|refine qv rfl (rr_eql rfl rfl (qT (by omega))) rfl rfl ?_|refine qv rfl (rr_eql rfl rfl (qF (by omega))) rfl rfl ?_|refine qv rfl (rr_add64 rfl rfl (by omega) (by omega) rfl) rfl rfl ?_)
        refine TL_call (he2 EntersC.en rfl rfl rfl) (fun w' hm => IHak [4, 5, 6] _ w' hm.below (by simp only [Re.size] at hN2; simp; omega) (Sl.of_own (hm.get (i := 1) rfl))) rfl rfl rfl ?_
        intro _ _
        conv=>arg 8;simp only[zA,zB,zC,zD,zE,zF,zG,zH,zI,rowS,ret,id_eq]
        repeat(first|refine qv rfl (qp rfl) rfl rfl ?_|refine TL_nil ?_|refine T_seq ?_|refine T_region ?_|refine qcT rfl ?_|refine qcF rfl ?_|refine T_skip ?_|refine T_exit ?_|refine T_ret ?_|refine T_block ?_|refine E_then ?_|refine E_thenX ?_|refine E_thenR ?_|refine E_blockN ?_|refine E_blockR ?_|refine E_blockX ?_|refine E_blockO rfl ?_|refine qv rfl (rr_stradd (l' := [42]) rfl rfl (by have h1 := wrap_len (brk [4, 5, 6] a) (body a); have h3 := body_len a; simp only [Re.size] at hsz; simp; omega)) rfl rfl ?_|refine qv rfl (qlen Und.eq rfl) rfl rfl ?_|refine qv rfl (qfld FldC.fld rfl rfl) rfl rfl ?_|refine qv rfl (rr_lss rfl rfl (qT (by omega))) rfl rfl ?_|refine qv rfl (rr_lss rfl rfl (qF (by omega))) rfl rfl ?_|refine qv rfl (rr_eql rfl rfl (qT (by omega))) rfl rfl ?_|refine qv rfl (rr_eql rfl rfl (qF (by omega))) rfl rfl ?_|refine qv rfl (rr_add64 rfl rfl (by omega) (by omega) rfl) rfl rfl ?_)
        exact E_ret1e rfl rfl (by rw [brk_3]; rfl)
      | cat a b =>
        obtain ⟨bb, off, rfl, _, hr⟩ := hrk (by show 0 < 2; omega)
        have hka : ∃ base cap, Rd w bb (off + 0 * 6) (rexC a.kind a.cls (.slice base a.kids.length cap)) ∧ kit.okI64 a.kind ∧ SlF rexS (Low w) w (.slice base a.kids.length cap) (a.kids.map emb) := rkid_emb (l := [a, b]) hr (j := 0) (by show 0 < 2; omega)
        obtain ⟨bak, cak, hrdak, _, hksak⟩ := hka
        have hatak := fun (L : List Own) j v hj => at_oldR (W := w) (L := L) (Old.self w) hrdak j v hj
        have IHak := fun ks vks w' (hg : Gr w w') hm hs => IH a ks (.slice bak a.kids.length cak) vks w' hm (by simp only [Re.size] at hsz; omega) (hup w' hg) ((hksak.stay fun k hk => hg.block k hk).mono fun k hk => Nat.lt_of_lt_of_le hk hg.size) hs
        have hkb : ∃ base cap, Rd w bb (off + 1 * 6) (rexC b.kind b.cls (.slice base b.kids.length cap)) ∧ kit.okI64 b.kind ∧ SlF rexS (Low w) w (.slice base b.kids.length cap) (b.kids.map emb) := rkid_emb (l := [a, b]) hr (j := 1) (by show 1 < 2; omega)
        obtain ⟨bbk, cbk, hrdbk, _, hksbk⟩ := hkb
        have hatbk := fun (L : List Own) j v hj => at_oldR (W := w) (L := L) (Old.self w) hrdbk j v hj
        have IHbk := fun ks vks w' (hg : Gr w w') hm hs => IH b ks (.slice bbk b.kids.length cbk) vks w' hm (by simp only [Re.size] at hsz; omega) (hup w' hg) ((hksbk.stay fun k hk => hg.block k hk).mono fun k hk => Nat.lt_of_lt_of_le hk hg.size) hs
        repeat(first|refine qv rfl (qp rfl) rfl rfl ?_|refine TL_nil ?_|refine T_seq ?_|refine T_region ?_|refine qcT rfl ?_|refine qcF rfl ?_|refine T_skip ?_|refine T_exit ?_|refine T_ret ?_|refine T_block ?_|refine E_then ?_|refine E_thenX ?_|refine E_thenR ?_|refine E_blockN ?_|refine E_blockR ?_|refine E_blockX ?_|refine E_blockO rfl ?_|refine qv rfl (rr_load1 (v := .int .i64 4) TyC.ty rfl (at_blk (i := 0) rfl rfl)) rfl rfl ?_|refine qv rfl (rr_eql (b := false) rfl rfl rfl) rfl rfl ?_|refine qv rfl (rr_eql (b := true) rfl rfl rfl) rfl rfl ?_|refine qv rfl (qlen Und.eq rfl) rfl rfl ?_|refine qv rfl (qfld FldC.fld rfl rfl) rfl rfl ?_|refine qv rfl (rr_lss rfl rfl (qT (by omega))) rfl rfl ?_|refine qv rfl (rr_lss rfl rfl (qF (by omega))) rfl rfl ?_|refine qv rfl (rr_eql rfl rfl (qT (by omega))) rfl rfl ?_|refine qv rfl (rr_eql rfl rfl (qF (by omega))) rfl rfl ?_|refine qv rfl (rr_add64 rfl rfl (by omega) (by omega) rfl) rfl rfl ?_)
        refine T_ord ([blkO g2 (rexC 4 C4.zero (.slice (some ⟨bb, off, none⟩) 2 ck)).toArray 39]) (.calm 0 (.calm 1 (.calm 2 (.calm 3 (.calm 6 (.calm 7 (.calm 8 (.calm 9 (.two 4 (.two 5 (.one 10 (.one 11 (.calm 12 (.calm 13 (.done))))) 10 (.one 5 (.one 11 (.calm 12 (.calm 13 (.done)))))) 10 (.one 4 (.one 5 (.one 11 (.calm 12 (.calm 13 (.done))))))))))))))) (sub_pick [0] (by decide) rfl) (by kernel_rfl) (by kernel_rfl) (by intro c a d v w h; cases d <;> exact h) ?_
        repeat(first|((first|refine TW_plain rfl rfl ?_|refine TW_gmet rfl rfl rfl rfl ?_);first|refine TN_val (qp rfl) rfl rfl ?_|refine TN_val (rr_load1 (v := .slice (some ⟨bb, off, none⟩) 2 ck) TyC.ty rfl (at_blk (i := 0) rfl rfl)) rfl rfl ?_|refine TN_val (rr_idxc (j := 0) Und.eq TyC.ty rfl rfl (by decide)) rfl rfl ?_|refine TN_val (rr_idxc (j := 1) Und.eq TyC.ty rfl rfl (by decide)) rfl rfl ?_|refine TN_val (rr_loadN (cs := rexC a.kind a.cls (.slice bak a.kids.length cak)) TyC.ty rfl rfl (hatak _)) rfl rfl ?_|refine TN_val (rr_loadN (cs := rexC b.kind b.cls (.slice bbk b.kids.length cbk)) TyC.ty rfl rfl (hatbk _)) rfl rfl ?_|refine TN_val (qlen Und.eq rfl) rfl rfl ?_|refine TN_val (qfld FldC.fld rfl rfl) rfl rfl ?_|refine TN_val (rr_lss rfl rfl (qT (by omega))) rfl rfl ?_|refine TN_val (rr_lss rfl rfl (qF (by omega))) rfl rfl ?_|refine TN_val (rr_eql rfl rfl (qT (by omega))) rfl rfl ?_|refine TN_val (rr_eql rfl rfl (qF (by omega))) rfl rfl ?_|refine TN_val (rr_add64 rfl rfl (by omega) (by omega) rfl) rfl rfl ?_)|refine TW_done ?_)
        refine TW_two rfl rfl ?_ ?_
        · refine TL_litV [.int .i64 5] rfl rfl rfl (by intro v hv; simp at hv; subst hv; rfl) rfl rfl fun g48 => TL_toRow (i := 1) (m := 1) 1 rfl rfl (by omega) (TW_on (sub_pick [0] (by decide) rfl) ?_)
          refine TW_two rfl rfl ?_ ?_
          · refine TL_call (he2 EntersC.en rfl rfl rfl) (fun w' hm => IHak [5] _ w' hm.below (by simp only [Re.size] at hN2; simp; omega) (Sl.of_own (hm.get (i := 1) rfl))) rfl rfl rfl ?_
            intro _ _
            conv=>arg 8;simp only[zA,zB,zC,zD,zE,zF,zG,zH,zI,rowS,ret,id_eq]
            refine TW_on (sub_pick [0] (by decide) rfl) ?_
            refine TW_one rfl (TL_litV [.int .i64 5, .int .i64 4] rfl rfl rfl (by intro v hv; simp at hv; rcases hv with rfl | rfl <;> rfl) rfl rfl fun g54 => TL_toRow (i := 2) (m := 2) 1 rfl rfl (by omega) (TW_on (sub_pick [0] (by decide) rfl) ?_))
            refine TW_one rfl (TL_call (he2 EntersC.en rfl rfl rfl) (fun w' hm => IHbk [5, 4] _ w' hm.below (by simp only [Re.size] at hN2; simp; omega) (Sl.of_own (hm.get (i := 2) rfl))) rfl rfl rfl ?_)
            intro _ _
            conv=>arg 8;simp only[zA,zB,zC,zD,zE,zF,zG,zH,zI,rowS,ret,id_eq]
            refine TW_on (sub_pick [0] (by decide) rfl) ?_
            repeat(first|((first|refine TW_plain rfl rfl ?_|refine TW_gmet rfl rfl rfl rfl ?_);first|refine TN_val (qp rfl) rfl rfl ?_|refine TN_val (rr_stradd rfl rfl (by have h1 := wrap_len (brk [5] a) (body a); have h2 := wrap_len (brk [5, 4] b) (body b); have h3 := body_len a; have h4 := body_len b; simp only [Re.size] at hsz; omega)) rfl rfl ?_|refine TN_val (qlen Und.eq rfl) rfl rfl ?_|refine TN_val (qfld FldC.fld rfl rfl) rfl rfl ?_|refine TN_val (rr_lss rfl rfl (qT (by omega))) rfl rfl ?_|refine TN_val (rr_lss rfl rfl (qF (by omega))) rfl rfl ?_|refine TN_val (rr_eql rfl rfl (qT (by omega))) rfl rfl ?_|refine TN_val (rr_eql rfl rfl (qF (by omega))) rfl rfl ?_|refine TN_val (rr_add64 rfl rfl (by omega) (by omega) rfl) rfl rfl ?_)|refine TW_done ?_)
            repeat(first|refine qv rfl (qp rfl) rfl rfl ?_|refine TL_nil ?_|refine T_seq ?_|refine T_region ?_|refine qcT rfl ?_|refine qcF rfl ?_|refine T_skip ?_|refine T_exit ?_|refine T_ret ?_|refine T_block ?_|refine E_then ?_|refine E_thenX ?_|refine E_thenR ?_|refine E_blockN ?_|refine E_blockR ?_|refine E_blockX ?_|refine E_blockO rfl ?_|refine qv rfl (qlen Und.eq rfl) rfl rfl ?_|refine qv rfl (qfld FldC.fld rfl rfl) rfl rfl ?_|refine qv rfl (rr_lss rfl rfl (qT (by omega))) rfl rfl ?_|refine qv rfl (rr_lss rfl rfl (qF (by omega))) rfl rfl ?_|refine qv rfl (rr_eql rfl rfl (qT (by omega))) rfl rfl ?_|refine qv rfl (rr_eql rfl rfl (qF (by omega))) rfl rfl ?_|refine qv rfl (rr_add64 rfl rfl (by omega) (by omega) rfl) rfl rfl ?_)
            exact E_ret1e rfl rfl (by rw [brk_1, brk_2]; rfl)
          · refine TL_litV [.int .i64 5, .int .i64 4] rfl rfl rfl (by intro v hv; simp at hv; rcases hv with rfl | rfl <;> rfl) rfl rfl fun g54 => TL_toRow (i := 2) (m := 2) 1 rfl rfl (by omega) (TW_on (sub_pick [0] (by decide) rfl) ?_)
            refine TW_one rfl (TL_call (he2 EntersC.en rfl rfl rfl) (fun w' hm => IHak [5] _ w' hm.below (by simp only [Re.size] at hN2; simp; omega) (Sl.of_own (hm.get (i := 1) rfl))) rfl rfl rfl ?_)
            intro _ _
            conv=>arg 8;simp only[zA,zB,zC,zD,zE,zF,zG,zH,zI,rowS,ret,id_eq]
            refine TW_on (sub_pick [0] (by decide) rfl) ?_
            refine TW_one rfl (TL_call (he2 EntersC.en rfl rfl rfl) (fun w' hm => IHbk [5, 4] _ w' hm.below (by simp only [Re.size] at hN2; simp; omega) (Sl.of_own (hm.get (i := 2) rfl))) rfl rfl rfl ?_)
            intro _ _
            conv=>arg 8;simp only[zA,zB,zC,zD,zE,zF,zG,zH,zI,rowS,ret,id_eq]
            refine TW_on (sub_pick [0] (by decide) rfl) ?_
            repeat(first|((first|refine TW_plain rfl rfl ?_|refine TW_gmet rfl rfl rfl rfl ?_);first|refine TN_val (qp rfl) rfl rfl ?_|refine TN_val (rr_stradd rfl rfl (by have h1 := wrap_len (brk [5] a) (body a); have h2 := wrap_len (brk [5, 4] b) (body b); have h3 := body_len a; have h4 := body_len b; simp only [Re.size] at hsz; omega)) rfl rfl ?_|refine TN_val (qlen Und.eq rfl) rfl rfl ?_|refine TN_val (qfld FldC.fld rfl rfl) rfl rfl ?_|refine TN_val (rr_lss rfl rfl (qT (by omega))) rfl rfl ?_|refine TN_val (rr_lss rfl rfl (qF (by omega))) rfl rfl ?_|refine TN_val (rr_eql rfl rfl (qT (by omega))) rfl rfl ?_|refine TN_val (rr_eql rfl rfl (qF (by omega))) rfl rfl ?_|refine TN_val (rr_add64 rfl rfl (by omega) (by omega) rfl) rfl rfl ?_)|refine TW_done ?_)
            repeat(first|refine qv rfl (qp rfl) rfl rfl ?_|refine TL_nil ?_|refine T_seq ?_|refine T_region ?_|refine qcT rfl ?_|refine qcF rfl ?_|refine T_skip ?_|refine T_exit ?_|refine T_ret ?_|refine T_block ?_|refine E_then ?_|refine E_thenX ?_|refine E_thenR ?_|refine E_blockN ?_|refine E_blockR ?_|refine E_blockX ?_|refine E_blockO rfl ?_|refine qv rfl (qlen Und.eq rfl) rfl rfl ?_|refine qv rfl (qfld FldC.fld rfl rfl) rfl rfl ?_|refine qv rfl (rr_lss rfl rfl (qT (by omega))) rfl rfl ?_|refine qv rfl (rr_lss rfl rfl (qF (by omega))) rfl rfl ?_|refine qv rfl (rr_eql rfl rfl (qT (by omega))) rfl rfl ?_|refine qv rfl (rr_eql rfl rfl (qF (by omega))) rfl rfl ?_|refine qv rfl (rr_add64 rfl rfl (by omega) (by omega) rfl) rfl rfl ?_)
            exact E_ret1e rfl rfl (by rw [brk_1, brk_2]; rfl)
        · refine TL_litV [.int .i64 5, .int .i64 4] rfl rfl rfl (by intro v hv; simp at hv; rcases hv with rfl | rfl <;> rfl) rfl rfl fun g54 => TL_toRow (i := 1) (m := 2) 1 rfl rfl (by omega) (TW_on (sub_pick [0] (by decide) rfl) ?_)
          refine TW_one rfl (TL_litV [.int .i64 5] rfl rfl rfl (by intro v hv; simp at hv; subst hv; rfl) rfl rfl fun g48 => TL_toRow (i := 2) (m := 1) 1 rfl rfl (by omega) (TW_on (sub_pick [0] (by decide) rfl) ?_))
          refine TW_one rfl (TL_call (he2 EntersC.en rfl rfl rfl) (fun w' hm => IHak [5] _ w' hm.below (by simp only [Re.size] at hN2; simp; omega) (Sl.of_own (hm.get (i := 2) rfl))) rfl rfl rfl ?_)
          intro _ _
          conv=>arg 8;simp only[zA,zB,zC,zD,zE,zF,zG,zH,zI,rowS,ret,id_eq]
          refine TW_on (sub_pick [0] (by decide) rfl) ?_
          refine TW_one rfl (TL_call (he2 EntersC.en rfl rfl rfl) (fun w' hm => IHbk [5, 4] _ w' hm.below (by simp only [Re.size] at hN2; simp; omega) (Sl.of_own (hm.get (i := 1) rfl))) rfl rfl rfl ?_)
          intro _ _
          conv=>arg 8;simp only[zA,zB,zC,zD,zE,zF,zG,zH,zI,rowS,ret,id_eq]
          refine TW_on (sub_pick [0] (by decide) rfl) ?_
          repeat(first|((first|refine TW_plain rfl rfl ?_|refine TW_gmet rfl rfl rfl rfl ?_);first|refine TN_val (qp rfl) rfl rfl ?_|refine TN_val (rr_stradd rfl rfl (by have h1 := wrap_len (brk [5] a) (body a); have h2 := wrap_len (brk [5, 4] b) (body b); have h3 := body_len a; have h4 := body_len b; simp only [Re.size] at hsz; omega)) rfl rfl ?_|refine TN_val (qlen Und.eq rfl) rfl rfl ?_|refine TN_val (qfld FldC.fld rfl rfl) rfl rfl ?_|refine TN_val (rr_lss rfl rfl (qT (by omega))) rfl rfl ?_|refine TN_val (rr_lss rfl rfl (qF (by omega))) rfl rfl ?_|refine TN_val (rr_eql rfl rfl (qT (by omega))) rfl rfl ?_|refine TN_val (rr_eql rfl rfl (qF (by omega))) rfl rfl ?_|refine TN_val (rr_add64 rfl rfl (by omega) (by omega) rfl) rfl rfl ?_)|refine TW_done ?_)
          repeat(first|refine qv rfl (qp rfl) rfl rfl ?_|refine TL_nil ?_|refine T_seq ?_|refine T_region ?_|refine qcT rfl ?_|refine qcF rfl ?_|refine T_skip ?_|refine T_exit ?_|refine T_ret ?_|refine T_block ?_|refine E_then ?_|refine E_thenX ?_|refine E_thenR ?_|refine E_blockN ?_|refine E_blockR ?_|refine E_blockX ?_|refine E_blockO rfl ?_|refine qv rfl (qlen Und.eq rfl) rfl rfl ?_|refine qv rfl (qfld FldC.fld rfl rfl) rfl rfl ?_|refine qv rfl (rr_lss rfl rfl (qT (by omega))) rfl rfl ?_|refine qv rfl (rr_lss rfl rfl (qF (by omega))) rfl rfl ?_|refine qv rfl (rr_eql rfl rfl (qT (by omega))) rfl rfl ?_|refine qv rfl (rr_eql rfl rfl (qF (by omega))) rfl rfl ?_|refine qv rfl (rr_add64 rfl rfl (by omega) (by omega) rfl) rfl rfl ?_)
          exact E_ret1e rfl rfl (by rw [brk_1, brk_2]; rfl)
      | alt a b =>
        obtain ⟨bb, off, rfl, _, hr⟩ := hrk (by show 0 < 2; omega)
        have hka : ∃ base cap, Rd w bb (off + 0 * 6) (rexC a.kind a.cls (.slice base a.kids.length cap)) ∧ kit.okI64 a.kind ∧ SlF rexS (Low w) w (.slice base a.kids.length cap) (a.kids.map emb) := rkid_emb (l := [a, b]) hr (j := 0) (by show 0 < 2; omega)
        obtain ⟨bak, cak, hrdak, _, hksak⟩ := hka
        have hatak := fun (L : List Own) j v hj => at_oldR (W := w) (L := L) (Old.self w) hrdak j v hj
        have IHak := fun ks vks w' (hg : Gr w w') hm hs => IH a ks (.slice bak a.kids.length cak) vks w' hm (by simp only [Re.size] at hsz; omega) (hup w' hg) ((hksak.stay fun k hk => hg.block k hk).mono fun k hk => Nat.lt_of_lt_of_le hk hg.size) hs
        have hkb : ∃ base cap, Rd w bb (off + 1 * 6) (rexC b.kind b.cls (.slice base b.kids.length cap)) ∧ kit.okI64 b.kind ∧ SlF rexS (Low w) w (.slice base b.kids.length cap) (b.kids.map emb) := rkid_emb (l := [a, b]) hr (j := 1) (by show 1 < 2; omega)
        obtain ⟨bbk, cbk, hrdbk, _, hksbk⟩ := hkb
        have hatbk := fun (L : List Own) j v hj => at_oldR (W := w) (L := L) (Old.self w) hrdbk j v hj
        have IHbk := fun ks vks w' (hg : Gr w w') hm hs => IH b ks (.slice bbk b.kids.length cbk) vks w' hm (by simp only [Re.size] at hsz; omega) (hup w' hg) ((hksbk.stay fun k hk => hg.block k hk).mono fun k hk => Nat.lt_of_lt_of_le hk hg.size) hs
        repeat(first|refine qv rfl (qp rfl) rfl rfl ?_|refine TL_nil ?_|refine T_seq ?_|refine T_region ?_|refine qcT rfl ?_|refine qcF rfl ?_|refine T_skip ?_|refine T_exit ?_|refine T_ret ?_|refine T_block ?_|refine E_then ?_|refine E_thenX ?_|refine E_thenR ?_|refine E_blockN ?_|refine E_blockR ?_|refine E_blockX ?_|refine E_blockO rfl ?_|refine qv rfl (rr_load1 (v := .int .i64 5) TyC.ty rfl (at_blk (i := 0) rfl rfl)) rfl rfl ?_|refine qv rfl (rr_eql (b := false) rfl rfl rfl) rfl rfl ?_|refine qv rfl (qlen Und.eq rfl) rfl rfl ?_|refine qv rfl (qfld FldC.fld rfl rfl) rfl rfl ?_|refine qv rfl (rr_lss rfl rfl (qT (by omega))) rfl rfl ?_|refine qv rfl (rr_lss rfl rfl (qF (by omega))) rfl rfl ?_|refine qv rfl (rr_eql rfl rfl (qT (by omega))) rfl rfl ?_|refine qv rfl (rr_eql rfl rfl (qF (by omega))) rfl rfl ?_|refine qv rfl (rr_add64 rfl rfl (by omega) (by omega) rfl) rfl rfl ?_)
        refine T_ord ([blkO g2 (rexC 5 C4.zero (.slice (some ⟨bb, off, none⟩) 2 ck)).toArray 39]) (.calm 0 (.calm 1 (.calm 2 (.calm 3 (.calm 4 (.calm 5 (.calm 6 (.calm 7 (.calm 8 (.calm 9 (.one 10 (.one 11 (.calm 12 (.calm 13 (.done))))))))))))))) (sub_pick [0] (by decide) rfl) (by kernel_rfl) (by kernel_rfl) (by intro c a d v w h; cases d <;> exact h) ?_
        repeat(first|((first|refine TW_plain rfl rfl ?_|refine TW_gmet rfl rfl rfl rfl ?_);first|refine TN_val (qp rfl) rfl rfl ?_|refine TN_val (rr_load1 (v := .slice (some ⟨bb, off, none⟩) 2 ck) TyC.ty rfl (at_blk (i := 0) rfl rfl)) rfl rfl ?_|refine TN_val (rr_idxc (j := 0) Und.eq TyC.ty rfl rfl (by decide)) rfl rfl ?_|refine TN_val (rr_loadN (cs := rexC a.kind a.cls (.slice bak a.kids.length cak)) TyC.ty rfl rfl (hatak _)) rfl rfl ?_|refine TN_val (qlen Und.eq rfl) rfl rfl ?_|refine TN_val (qfld FldC.fld rfl rfl) rfl rfl ?_|refine TN_val (rr_lss rfl rfl (qT (by omega))) rfl rfl ?_|refine TN_val (rr_lss rfl rfl (qF (by omega))) rfl rfl ?_|refine TN_val (rr_eql rfl rfl (qT (by omega))) rfl rfl ?_|refine TN_val (rr_eql rfl rfl (qF (by omega))) rfl rfl ?_|refine TN_val (rr_add64 rfl rfl (by omega) (by omega) rfl) rfl rfl ?_)|refine TW_done ?_)
        refine TW_call rfl (he2 EntersC.en rfl rfl rfl) (fun w hm => IHak [] _ w hm.below (by simp only [Re.size] at hN2; simp; omega) (slnil _)) rfl rfl rfl ?_
        repeat(first|((first|refine TW_plain rfl rfl ?_|refine TW_gmet rfl rfl rfl rfl ?_);first|refine TN_val (qp rfl) rfl rfl ?_|refine TN_val (rr_load1 (v := .slice (some ⟨bb, off, none⟩) 2 ck) TyC.ty rfl (at_blk (i := 0) rfl rfl)) rfl rfl ?_|refine TN_val (rr_idxc (j := 1) Und.eq TyC.ty rfl rfl (by decide)) rfl rfl ?_|refine TN_val (rr_loadN (cs := rexC b.kind b.cls (.slice bbk b.kids.length cbk)) TyC.ty rfl rfl (hatbk _)) rfl rfl ?_|refine TN_val (rr_stradd (l' := [124]) rfl rfl (by have h1 := wrap_len (brk [] a) (body a); have h3 := body_len a; simp only [Re.size] at hsz; simp; omega)) rfl rfl ?_|refine TN_val (qlen Und.eq rfl) rfl rfl ?_|refine TN_val (qfld FldC.fld rfl rfl) rfl rfl ?_|refine TN_val (rr_lss rfl rfl (qT (by omega))) rfl rfl ?_|refine TN_val (rr_lss rfl rfl (qF (by omega))) rfl rfl ?_|refine TN_val (rr_eql rfl rfl (qT (by omega))) rfl rfl ?_|refine TN_val (rr_eql rfl rfl (qF (by omega))) rfl rfl ?_|refine TN_val (rr_add64 rfl rfl (by omega) (by omega) rfl) rfl rfl ?_)|refine TW_done ?_)
        refine TW_one rfl (TL_litV [.int .i64 5] rfl rfl rfl (by intro v hv; simp at hv; subst hv; rfl) rfl rfl fun g67 => TL_toRow (i := 1) (m := 1) 1 rfl rfl (by omega) (TW_on (sub_pick [0] (by decide) rfl) ?_))
        refine TW_one rfl (TL_call (he2 EntersC.en rfl rfl rfl) (fun w' hm => IHbk [5] _ w' hm.below (by simp only [Re.size] at hN2; simp; omega) (Sl.of_own (hm.get (i := 1) rfl))) rfl rfl rfl ?_)
        intro _ _
        conv=>arg 8;simp only[zA,zB,zC,zD,zE,zF,zG,zH,zI,rowS,ret,id_eq]
        refine TW_on (sub_pick [0] (by decide) rfl) ?_
        repeat(first|((first|refine TW_plain rfl rfl ?_|refine TW_gmet rfl rfl rfl rfl ?_);first|refine TN_val (qp rfl) rfl rfl ?_|refine TN_val (rr_stradd rfl rfl (by have h1 := wrap_len (brk [] a) (body a); have h2 := wrap_len (brk [5] b) (body b); have h3 := body_len a; have h4 := body_len b; simp only [Re.size] at hsz; simp; omega)) rfl rfl ?_|refine TN_val (qlen Und.eq rfl) rfl rfl ?_|refine TN_val (qfld FldC.fld rfl rfl) rfl rfl ?_|refine TN_val (rr_lss rfl rfl (qT (by omega))) rfl rfl ?_|refine TN_val (rr_lss rfl rfl (qF (by omega))) rfl rfl ?_|refine TN_val (rr_eql rfl rfl (qT (by omega))) rfl rfl ?_|refine TN_val (rr_eql rfl rfl (qF (by omega))) rfl rfl ?_|refine TN_val (rr_add64 rfl rfl (by omega) (by omega) rfl) rfl rfl ?_)|refine TW_done ?_)
        repeat(first|refine qv rfl (qp rfl) rfl rfl ?_|refine TL_nil ?_|refine T_seq ?_|refine T_region ?_|refine qcT rfl ?_|refine qcF rfl ?_|refine T_skip ?_|refine T_exit ?_|refine T_ret ?_|refine T_block ?_|refine E_then ?_|refine E_thenX ?_|refine E_thenR ?_|refine E_blockN ?_|refine E_blockR ?_|refine E_blockX ?_|refine E_blockO rfl ?_|refine qv rfl (qlen Und.eq rfl) rfl rfl ?_|refine qv rfl (qfld FldC.fld rfl rfl) rfl rfl ?_|refine qv rfl (rr_lss rfl rfl (qT (by omega))) rfl rfl ?_|refine qv rfl (rr_lss rfl rfl (qF (by omega))) rfl rfl ?_|refine qv rfl (rr_eql rfl rfl (qT (by omega))) rfl rfl ?_|refine qv rfl (rr_eql rfl rfl (qF (by omega))) rfl rfl ?_|refine qv rfl (rr_add64 rfl rfl (by omega) (by omega) rfl) rfl rfl ?_)
        exact E_ret1e rfl rfl (by rw [brk_0, brk_1]; show str _ = str (wrap (inBr 0 a) (body a) ++ ([124] ++ wrap (inBr 1 b) (body b))); rw [inBr0]; simp [wrap])
end Go.Proofs.YtakiohldgcifeaaDoor.eng


/- RexZ -/
namespace Go.Proofs.YtakiohldgcifeaaDoor.eng
open Go.RowKit kit mix classL rexL classSets
def copySp (r : Rx) : Spec (Value × (Nat → Prop)) := ⟨fun _ => True, fun x => rexV r.kind r.cls x.1, fun x => [rkO x.2 x.1 r.kids]⟩
set_option maxRecDepth 100000 in
attribute [local irreducible] Instr.build in
set_option maxHeartbeats 16000000 in
theorem copy_calls : ∀ (N : Nat) (r : Rx), sizeX r ≤ N → ∀ (vk : Value) (w : World), kit.okI64 r.kind → SlF rexS (Low w) w vk r.kids → r.kids.length ≤ 1000000 →
    (∀ e, e ∈ r.kids → sizeX e ≤ 100000) → Calls Tryd.prog 75 #[rexV r.kind r.cls vk] w (Meets (copySp r) w)
  | 0, r, h, _, _, _, _, _, _ => by have := sizeX_pos r; omega
  | N + 1, r, hN, vk, w, hk64, hks, hkl, hke0 => by
    have IH := copy_calls N
    obtain ⟨bk, ck, rfl, hck, hmk, hrk⟩ := hks
    unfold maxLen at hmk
    have hszr : sizeX r = sizesX r.kids + 1 := by obtain ⟨k, c, l⟩ := r; rfl
    have hbc := build_rexKC r.kind r.cls
    refine enter (args := [rexV r.kind r.cls (.slice bk r.kids.length ck)]) (n := 27) Tryd.func75 rfl rfl rfl ?_
    refine T_seq (T_region (TL_box rfl rfl rfl fun g1 => TL_new rfl fun g2 => ?_))
    conv=>arg 8;simp only[zA,zB,zC,zD,zE,zF,zG,zH,zI,rowS,ret,id_eq]
    repeat(first|refine qv rfl (qp rfl) rfl rfl ?_|refine TL_nil ?_|refine T_seq ?_|refine T_region ?_|refine qcT rfl ?_|refine qcF rfl ?_|refine T_skip ?_|refine T_exit ?_|refine T_ret ?_|refine T_block ?_|refine E_then ?_|refine E_thenX ?_|refine E_thenR ?_|refine E_blockN ?_|refine E_blockR ?_|refine E_blockX ?_|refine E_blockO rfl ?_|refine qv rfl (rr_load1 (v := .int .i64 r.kind) TyC.ty rfl (at_blk (i := 0) rfl rfl)) rfl rfl ?_|refine qv rfl (rr_loadN (cs := clsL r.cls) TyC.ty rfl rfl (fun j v hj => at_blk (i := 0) rfl (rex_cls hj))) rfl rfl ?_|refine qv rfl (rr_build rfl hbc) rfl rfl ?_|refine qv rfl (qlen Und.eq rfl) rfl rfl ?_|refine qv rfl (qfld FldC.fld rfl rfl) rfl rfl ?_|refine qv rfl (rr_lss rfl rfl (qT (by omega))) rfl rfl ?_|refine qv rfl (rr_lss rfl rfl (qF (by omega))) rfl rfl ?_|refine qv rfl (rr_add64 rfl rfl (by omega) (by omega) rfl) rfl rfl ?_)
    refine TL_new rfl fun g3 => ?_
    conv=>arg 8;simp only[zA,zB,zC,zD,zE,zF,zG,zH,zI,rowS,ret,id_eq]
    refine TL_storeB (i := 2) (cs' := (rexC r.kind r.cls (.slice none 0 0)).toArray) rfl rfl rfl rfl rfl rfl ?_
    conv=>arg 8;simp only[zA,zB,zC,zD,zE,zF,zG,zH,zI,rowS,ret,id_eq]
    repeat(first|refine qv rfl (qp rfl) rfl rfl ?_|refine TL_nil ?_|refine T_seq ?_|refine T_region ?_|refine qcT rfl ?_|refine qcF rfl ?_|refine T_skip ?_|refine T_exit ?_|refine T_ret ?_|refine T_block ?_|refine E_then ?_|refine E_thenX ?_|refine E_thenR ?_|refine E_blockN ?_|refine E_blockR ?_|refine E_blockX ?_|refine E_blockO rfl ?_|refine qv rfl (rr_load1 (v := .slice bk r.kids.length ck) TyC.ty rfl (at_blk (i := 0) rfl rfl)) rfl rfl ?_|refine qv rfl (qlen Und.eq rfl) rfl rfl ?_|refine qv rfl (qfld FldC.fld rfl rfl) rfl rfl ?_|refine qv rfl (rr_lss rfl rfl (qT (by omega))) rfl rfl ?_|refine qv rfl (rr_lss rfl rfl (qF (by omega))) rfl rfl ?_|refine qv rfl (rr_add64 rfl rfl (by omega) (by omega) rfl) rfl rfl ?_)
    refine T_pick [1, 2] (by decide) rfl ?_
    refine T_nil 39 6 (T_extra (elsO rexS (fun _ => False) [] []) (fun k hk => hk.elim (fun h => by cases h) id) (fun w => els_nil) ?_)
    refine T_loop (ι := Nat × Value × List RC × (Nat → Prop)) (fun (j, v, xs, _) => j ≤ r.kids.length ∧ v.oneCell' = true ∧ xs.length = j) (fun (j, v, _, _) => [(2, .pointer (some ⟨g2, 0, none⟩)), (3, .pointer (some ⟨g3, 0, none⟩)), (12, .slice bk r.kids.length ck), (13, .int .i64 (r.kids.length : Int)), (14, .int .i64 (j : Int))])
      (fun (j, v, xs, F) => [blkO g2 (rexC 0 C4.zero (.slice none 0 0)).toArray 39, blkO g3 (rexC r.kind r.cls v).toArray 39, rowO 39 6 v j (xs.flatMap rcC), elsO rexS F (xs.map rcC) (r.kids.take j)]) (fun (j, _, _, _) => r.kids.length - j) (0, .slice none 0 0, [], fun _ => False) ⟨Nat.zero_le _, rfl, rfl⟩ (by repeat' (first | exact True.intro | refine And.intro rfl ?_)) rfl ?_
    rintro ⟨j, v, xs, F⟩ ⟨i1, i2, i3⟩
    dsimp only at i1 i2 i3 ⊢
    by_cases c1 : j < r.kids.length
    · obtain ⟨b, off, rfl, _, hr⟩ := hrk (by omega)
      obtain ⟨bj, cj, hrd, hkr⟩ := rkid_at hr c1
      have hat := fun (L : List Own) j v hj => at_oldR (W := w) (L := L) (Old.self w) hrd j v hj
      have htk : r.kids.take (j + 1) = r.kids.take j ++ [r.kids[j]] := List.take_succ_eq_append_getElem c1
      have hsz := sizesX_mem (List.getElem_mem c1)
      have hsz2 := hke0 _ (List.getElem_mem c1)
      generalize r.kids[j] = e at *
      obtain ⟨vq, hvq, hke, hkks⟩ := hkr
      have hvq' : vq = .slice bj e.kids.length cj := by
        have := congrArg (fun x => match x with | Value.agg cs => cs[5]? | _ => none) hvq
        simpa [rexV, rexC, clsL] using this.symm
      subst hvq'
      have hse : sizeX e = sizesX e.kids + 1 := by obtain ⟨k, c, l⟩ := e; rfl
      have hkl2 : ∀ l : List Rx, l.length ≤ sizesX l := fun l => by
        induction l with
        | nil => exact Nat.le_refl _
        | cons x l ih => rw [sizesX]; have := sizeX_pos x; simp; omega
      have IHk := fun w' (hg : Gr w w') => IH e (by omega) (.slice bj e.kids.length cj) w' hke ((hkks.stay fun k hk => hg.block k hk).mono fun k hk => Nat.lt_of_lt_of_le hk hg.size) (by have := hkl2 e.kids; omega) (fun q hq => by have := sizesX_mem hq; omega)
      clear hkl2
      have hmm : e.kids.length = e.kids.length := rfl
      generalize hm0 : e.kids.length = m at *
      repeat(first|refine qv rfl (qp rfl) rfl rfl ?_|refine TL_nil ?_|refine T_seq ?_|refine T_region ?_|refine qcT rfl ?_|refine qcF rfl ?_|refine T_skip ?_|refine T_exit ?_|refine T_ret ?_|refine T_block ?_|refine E_then ?_|refine E_thenX ?_|refine E_thenR ?_|refine E_blockN ?_|refine E_blockR ?_|refine E_blockX ?_|refine E_blockO rfl ?_|refine qv rfl (rr_idxc (j := j) Und.eq TyC.ty rfl rfl c1) rfl rfl ?_|refine qv rfl (rr_loadN TyC.ty rfl rfl (hat _)) rfl rfl ?_|refine qv rfl (qlen Und.eq rfl) rfl rfl ?_|refine qv rfl (qfld FldC.fld rfl rfl) rfl rfl ?_|refine qv rfl (rr_lss rfl rfl (qT (by omega))) rfl rfl ?_|refine qv rfl (rr_lss rfl rfl (qF (by omega))) rfl rfl ?_|refine qv rfl (rr_add64 rfl rfl (by omega) (by omega) rfl) rfl rfl ?_)
      refine TL_new rfl fun g5 => ?_
      conv=>arg 8;simp only[zA,zB,zC,zD,zE,zF,zG,zH,zI,rowS,ret,id_eq]
      refine TL_storeB (i := 4) (cs' := (rexC e.kind e.cls (.slice bj m cj)).toArray) rfl rfl rfl rfl rfl rfl ?_
      conv=>arg 8;simp only[zA,zB,zC,zD,zE,zF,zG,zH,zI,rowS,ret,id_eq]
      repeat(first|refine qv rfl (qp rfl) rfl rfl ?_|refine TL_nil ?_|refine T_seq ?_|refine T_region ?_|refine qcT rfl ?_|refine qcF rfl ?_|refine T_skip ?_|refine T_exit ?_|refine T_ret ?_|refine T_block ?_|refine E_then ?_|refine E_thenX ?_|refine E_thenR ?_|refine E_blockN ?_|refine E_blockR ?_|refine E_blockX ?_|refine E_blockO rfl ?_|refine qv rfl (qlen Und.eq rfl) rfl rfl ?_|refine qv rfl (qfld FldC.fld rfl rfl) rfl rfl ?_|refine qv rfl (rr_lss rfl rfl (qT (by omega))) rfl rfl ?_|refine qv rfl (rr_lss rfl rfl (qF (by omega))) rfl rfl ?_|refine qv rfl (rr_add64 rfl rfl (by omega) (by omega) rfl) rfl rfl ?_)
      (repeat refine T_seq ?_)
      refine T_ord ([blkO g5 (rexC e.kind e.cls (.slice bj m cj)).toArray 39]) (.calm 0 (.calm 2 (.two 1 (.one 3 (.one 4 (.one 5 (.calm 6 (.one 7 (.done)))))) 3 (.two 1 (.one 4 (.one 5 (.calm 6 (.one 7 (.done))))) 4 (.one 1 (.one 5 (.calm 6 (.one 7 (.done))))))))) (sub_pick [4] (by decide) rfl) (by kernel_rfl) (by kernel_rfl) (by intro c a d v w h; cases d <;> exact h) ?_
      repeat(first|((first|refine TW_plain rfl rfl ?_|refine TW_gmet rfl rfl rfl rfl ?_);first|refine TN_val (qp rfl) rfl rfl ?_|refine TN_val (rr_loadB (i := 0) TyC.ty rfl rfl rfl) rfl rfl ?_|refine TN_val (qlen Und.eq rfl) rfl rfl ?_|refine TN_val (qfld FldC.fld rfl rfl) rfl rfl ?_|refine TN_val (rr_lss rfl rfl (qT (by omega))) rfl rfl ?_|refine TN_val (rr_lss rfl rfl (qF (by omega))) rfl rfl ?_|refine TN_val (rr_add64 rfl rfl (by omega) (by omega) rfl) rfl rfl ?_)|refine TW_done ?_)
      refine TW_two rfl rfl ?_ ?_
      · refine TL_val (rr_load1 (v := v) TyC.ty rfl (at_blk (i := 1) rfl rfl)) rfl rfl rfl (TW_on (sub_pick [4] (by decide) rfl) ?_)
        refine TW_one rfl (TL_call (he1 EntersC.en rfl rfl) (fun w' hm => IHk w' hm.below) rfl rfl rfl ?_)
        rintro ⟨vm, F2⟩ _
        conv=>arg 8;simp only[zA,zB,zC,zD,zE,zF,zG,zH,zI,rowS,ret,id_eq, copySp]
        refine TL_know (i := 5) (φ := ∃ b n cap, vm = .slice b n cap) rfl (fun w h => rkO_form h) fun hvm => ?_
        obtain ⟨bm, nm, cm, rfl⟩ := hvm
        refine TW_on (sub_pick [4] (by decide) rfl) ?_
        refine TW_one rfl (TL_one (cs := (rcC (e.kind, e.cls, bm, nm, cm)).toArray) rfl rfl rfl rfl rfl fun g22 => ?_)
        conv=>arg 8;simp only[zA,zB,zC,zD,zE,zF,zG,zH,zI,rowS,ret,id_eq]
        refine TW_on (sub_pick [4] (by decide) rfl) ?_
        refine TW_one rfl ?_
        refine TL_app1 (i := 2) (q := 6) rfl rfl rfl rfl rfl (by rfl) (by omega) (by omega) rfl fun v' => ?_
        conv=>arg 8;simp only[zA,zB,zC,zD,zE,zF,zG,zH,zI,rowS,ret,id_eq]
        refine TL_slv (i := 2) rfl fun hv1 hv2 => ?_
        refine TW_on (sub_pick [4] (by decide) rfl) ?_
        repeat(first|((first|refine TW_plain rfl rfl ?_|refine TW_gmet rfl rfl rfl rfl ?_);first|refine TN_val (qp rfl) rfl rfl ?_|refine TN_val (qlen Und.eq rfl) rfl rfl ?_|refine TN_val (qfld FldC.fld rfl rfl) rfl rfl ?_|refine TN_val (rr_lss rfl rfl (qT (by omega))) rfl rfl ?_|refine TN_val (rr_lss rfl rfl (qF (by omega))) rfl rfl ?_|refine TN_val (rr_add64 rfl rfl (by omega) (by omega) rfl) rfl rfl ?_)|refine TW_done ?_)
        refine TW_one rfl (TL_store1 (i := 1) rfl rfl rfl hv1 hv2 rfl ?_)
        conv=>arg 8;simp only[zA,zB,zC,zD,zE,zF,zG,zH,zI,rowS,ret,id_eq]
        refine TW_on (sub_pick [4] (by decide) rfl) ?_
        repeat(first|((first|refine TW_plain rfl rfl ?_|refine TW_gmet rfl rfl rfl rfl ?_);first|refine TN_val (qp rfl) rfl rfl ?_|refine TN_val (qlen Und.eq rfl) rfl rfl ?_|refine TN_val (qfld FldC.fld rfl rfl) rfl rfl ?_|refine TN_val (rr_lss rfl rfl (qT (by omega))) rfl rfl ?_|refine TN_val (rr_lss rfl rfl (qF (by omega))) rfl rfl ?_|refine TN_val (rr_add64 rfl rfl (by omega) (by omega) rfl) rfl rfl ?_)|refine TW_done ?_)
        repeat(first|refine qv rfl (qp rfl) rfl rfl ?_|refine TL_nil ?_|refine T_seq ?_|refine T_region ?_|refine qcT rfl ?_|refine qcF rfl ?_|refine T_skip ?_|refine T_exit ?_|refine T_ret ?_|refine T_block ?_|refine E_then ?_|refine E_thenX ?_|refine E_thenR ?_|refine E_blockN ?_|refine E_blockR ?_|refine E_blockX ?_|refine E_blockO rfl ?_|refine qv rfl (qlen Und.eq rfl) rfl rfl ?_|refine qv rfl (qfld FldC.fld rfl rfl) rfl rfl ?_|refine qv rfl (rr_lss rfl rfl (qT (by omega))) rfl rfl ?_|refine qv rfl (rr_lss rfl rfl (qF (by omega))) rfl rfl ?_|refine qv rfl (rr_add64 rfl rfl (by omega) (by omega) rfl) rfl rfl ?_)
        refine E_merge (elsO rexS (fun k => F k ∨ F2 k) (xs.map rcC ++ [rcC (e.kind, e.cls, bm, nm, cm)]) (r.kids.take j ++ [e])) 5 3 [0, 1, 2] (by decide) rfl rfl rfl (fun k hk => (els_foot hk).elim (fun h => .inr (.inr h)) fun h => .inl (.inr h)) (fun w hk he => els_snoc he (rk_is hke hk) (rk_sl hk).2) ?_
        exact E_round (j + 1, v', xs ++ [(e.kind, e.cls, bm, nm, cm)], fun k => F k ∨ F2 k) ⟨by show j + 1 ≤ r.kids.length; omega, hv2, by rw [List.length_append, i3]; rfl⟩ (by show r.kids.length - (j + 1) < r.kids.length - j; omega) (by repeat' (first | exact True.intro | refine And.intro rfl ?_)) (by dsimp only; rw [htk, List.map_append, List.flatMap_append]; rfl)
      · refine TL_call (he1 EntersC.en rfl rfl) (fun w' hm => IHk w' hm.below) rfl rfl rfl ?_
        rintro ⟨vm, F2⟩ _
        conv=>arg 8;simp only[zA,zB,zC,zD,zE,zF,zG,zH,zI,rowS,ret,id_eq, copySp]
        refine TL_know (i := 5) (φ := ∃ b n cap, vm = .slice b n cap) rfl (fun w h => rkO_form h) fun hvm => ?_
        obtain ⟨bm, nm, cm, rfl⟩ := hvm
        refine TW_on (sub_pick [4] (by decide) rfl) ?_
        refine TW_two rfl rfl ?_ ?_
        · refine TL_val (rr_load1 (v := v) TyC.ty rfl (at_blk (i := 1) rfl rfl)) rfl rfl rfl (TW_on (sub_pick [4] (by decide) rfl) ?_)
          refine TW_one rfl (TL_one (cs := (rcC (e.kind, e.cls, bm, nm, cm)).toArray) rfl rfl rfl rfl rfl fun g22 => ?_)
          conv=>arg 8;simp only[zA,zB,zC,zD,zE,zF,zG,zH,zI,rowS,ret,id_eq]
          refine TW_on (sub_pick [4] (by decide) rfl) ?_
          refine TW_one rfl ?_
          refine TL_app1 (i := 2) (q := 6) rfl rfl rfl rfl rfl (by rfl) (by omega) (by omega) rfl fun v' => ?_
          conv=>arg 8;simp only[zA,zB,zC,zD,zE,zF,zG,zH,zI,rowS,ret,id_eq]
          refine TL_slv (i := 2) rfl fun hv1 hv2 => ?_
          refine TW_on (sub_pick [4] (by decide) rfl) ?_
          repeat(first|((first|refine TW_plain rfl rfl ?_|refine TW_gmet rfl rfl rfl rfl ?_);first|refine TN_val (qp rfl) rfl rfl ?_|refine TN_val (qlen Und.eq rfl) rfl rfl ?_|refine TN_val (qfld FldC.fld rfl rfl) rfl rfl ?_|refine TN_val (rr_lss rfl rfl (qT (by omega))) rfl rfl ?_|refine TN_val (rr_lss rfl rfl (qF (by omega))) rfl rfl ?_|refine TN_val (rr_add64 rfl rfl (by omega) (by omega) rfl) rfl rfl ?_)|refine TW_done ?_)
          refine TW_one rfl (TL_store1 (i := 1) rfl rfl rfl hv1 hv2 rfl ?_)
          conv=>arg 8;simp only[zA,zB,zC,zD,zE,zF,zG,zH,zI,rowS,ret,id_eq]
          refine TW_on (sub_pick [4] (by decide) rfl) ?_
          repeat(first|((first|refine TW_plain rfl rfl ?_|refine TW_gmet rfl rfl rfl rfl ?_);first|refine TN_val (qp rfl) rfl rfl ?_|refine TN_val (qlen Und.eq rfl) rfl rfl ?_|refine TN_val (qfld FldC.fld rfl rfl) rfl rfl ?_|refine TN_val (rr_lss rfl rfl (qT (by omega))) rfl rfl ?_|refine TN_val (rr_lss rfl rfl (qF (by omega))) rfl rfl ?_|refine TN_val (rr_add64 rfl rfl (by omega) (by omega) rfl) rfl rfl ?_)|refine TW_done ?_)
          repeat(first|refine qv rfl (qp rfl) rfl rfl ?_|refine TL_nil ?_|refine T_seq ?_|refine T_region ?_|refine qcT rfl ?_|refine qcF rfl ?_|refine T_skip ?_|refine T_exit ?_|refine T_ret ?_|refine T_block ?_|refine E_then ?_|refine E_thenX ?_|refine E_thenR ?_|refine E_blockN ?_|refine E_blockR ?_|refine E_blockX ?_|refine E_blockO rfl ?_|refine qv rfl (qlen Und.eq rfl) rfl rfl ?_|refine qv rfl (qfld FldC.fld rfl rfl) rfl rfl ?_|refine qv rfl (rr_lss rfl rfl (qT (by omega))) rfl rfl ?_|refine qv rfl (rr_lss rfl rfl (qF (by omega))) rfl rfl ?_|refine qv rfl (rr_add64 rfl rfl (by omega) (by omega) rfl) rfl rfl ?_)
          refine E_merge (elsO rexS (fun k => F k ∨ F2 k) (xs.map rcC ++ [rcC (e.kind, e.cls, bm, nm, cm)]) (r.kids.take j ++ [e])) 5 3 [0, 1, 2] (by decide) rfl rfl rfl (fun k hk => (els_foot hk).elim (fun h => .inr (.inr h)) fun h => .inl (.inr h)) (fun w hk he => els_snoc he (rk_is hke hk) (rk_sl hk).2) ?_
          exact E_round (j + 1, v', xs ++ [(e.kind, e.cls, bm, nm, cm)], fun k => F k ∨ F2 k) ⟨by show j + 1 ≤ r.kids.length; omega, hv2, by rw [List.length_append, i3]; rfl⟩ (by show r.kids.length - (j + 1) < r.kids.length - j; omega) (by repeat' (first | exact True.intro | refine And.intro rfl ?_)) (by dsimp only; rw [htk, List.map_append, List.flatMap_append]; rfl)
        · refine TL_one (cs := (rcC (e.kind, e.cls, bm, nm, cm)).toArray) rfl rfl rfl rfl rfl fun g22 => ?_
          conv=>arg 8;simp only[zA,zB,zC,zD,zE,zF,zG,zH,zI,rowS,ret,id_eq]
          refine TW_on (sub_pick [4] (by decide) rfl) ?_
          refine TW_one rfl (TL_val (rr_load1 (v := v) TyC.ty rfl (at_blk (i := 1) rfl rfl)) rfl rfl rfl (TW_on (sub_pick [4] (by decide) rfl) ?_))
          refine TW_one rfl ?_
          refine TL_app1 (i := 2) (q := 6) rfl rfl rfl rfl rfl (by rfl) (by omega) (by omega) rfl fun v' => ?_
          conv=>arg 8;simp only[zA,zB,zC,zD,zE,zF,zG,zH,zI,rowS,ret,id_eq]
          refine TL_slv (i := 2) rfl fun hv1 hv2 => ?_
          refine TW_on (sub_pick [4] (by decide) rfl) ?_
          repeat(first|((first|refine TW_plain rfl rfl ?_|refine TW_gmet rfl rfl rfl rfl ?_);first|refine TN_val (qp rfl) rfl rfl ?_|refine TN_val (qlen Und.eq rfl) rfl rfl ?_|refine TN_val (qfld FldC.fld rfl rfl) rfl rfl ?_|refine TN_val (rr_lss rfl rfl (qT (by omega))) rfl rfl ?_|refine TN_val (rr_lss rfl rfl (qF (by omega))) rfl rfl ?_|refine TN_val (rr_add64 rfl rfl (by omega) (by omega) rfl) rfl rfl ?_)|refine TW_done ?_)
          refine TW_one rfl (TL_store1 (i := 1) rfl rfl rfl hv1 hv2 rfl ?_)
          conv=>arg 8;simp only[zA,zB,zC,zD,zE,zF,zG,zH,zI,rowS,ret,id_eq]
          refine TW_on (sub_pick [4] (by decide) rfl) ?_
          repeat(first|((first|refine TW_plain rfl rfl ?_|refine TW_gmet rfl rfl rfl rfl ?_);first|refine TN_val (qp rfl) rfl rfl ?_|refine TN_val (qlen Und.eq rfl) rfl rfl ?_|refine TN_val (qfld FldC.fld rfl rfl) rfl rfl ?_|refine TN_val (rr_lss rfl rfl (qT (by omega))) rfl rfl ?_|refine TN_val (rr_lss rfl rfl (qF (by omega))) rfl rfl ?_|refine TN_val (rr_add64 rfl rfl (by omega) (by omega) rfl) rfl rfl ?_)|refine TW_done ?_)
          repeat(first|refine qv rfl (qp rfl) rfl rfl ?_|refine TL_nil ?_|refine T_seq ?_|refine T_region ?_|refine qcT rfl ?_|refine qcF rfl ?_|refine T_skip ?_|refine T_exit ?_|refine T_ret ?_|refine T_block ?_|refine E_then ?_|refine E_thenX ?_|refine E_thenR ?_|refine E_blockN ?_|refine E_blockR ?_|refine E_blockX ?_|refine E_blockO rfl ?_|refine qv rfl (qlen Und.eq rfl) rfl rfl ?_|refine qv rfl (qfld FldC.fld rfl rfl) rfl rfl ?_|refine qv rfl (rr_lss rfl rfl (qT (by omega))) rfl rfl ?_|refine qv rfl (rr_lss rfl rfl (qF (by omega))) rfl rfl ?_|refine qv rfl (rr_add64 rfl rfl (by omega) (by omega) rfl) rfl rfl ?_)
          refine E_merge (elsO rexS (fun k => F k ∨ F2 k) (xs.map rcC ++ [rcC (e.kind, e.cls, bm, nm, cm)]) (r.kids.take j ++ [e])) 5 3 [0, 1, 2] (by decide) rfl rfl rfl (fun k hk => (els_foot hk).elim (fun h => .inr (.inr h)) fun h => .inl (.inr h)) (fun w hk he => els_snoc he (rk_is hke hk) (rk_sl hk).2) ?_
          exact E_round (j + 1, v', xs ++ [(e.kind, e.cls, bm, nm, cm)], fun k => F k ∨ F2 k) ⟨by show j + 1 ≤ r.kids.length; omega, hv2, by rw [List.length_append, i3]; rfl⟩ (by show r.kids.length - (j + 1) < r.kids.length - j; omega) (by repeat' (first | exact True.intro | refine And.intro rfl ?_)) (by dsimp only; rw [htk, List.map_append, List.flatMap_append]; rfl)
    · subst i3
      have hjl : xs.length = r.kids.length := by omega
      rw [List.take_of_length_le (by omega)]
      repeat(first|refine qv rfl (qp rfl) rfl rfl ?_|refine TL_nil ?_|refine T_seq ?_|refine T_region ?_|refine qcT rfl ?_|refine qcF rfl ?_|refine T_skip ?_|refine T_exit ?_|refine T_ret ?_|refine T_block ?_|refine E_then ?_|refine E_thenX ?_|refine E_thenR ?_|refine E_blockN ?_|refine E_blockR ?_|refine E_blockX ?_|refine E_blockO rfl ?_|refine qv rfl (rr_loadB (i := 1) TyC.ty rfl rfl rfl) rfl rfl ?_|refine qv rfl (qlen Und.eq rfl) rfl rfl ?_|refine qv rfl (qfld FldC.fld rfl rfl) rfl rfl ?_|refine qv rfl (rr_lss rfl rfl (qT (by omega))) rfl rfl ?_|refine qv rfl (rr_lss rfl rfl (qF (by omega))) rfl rfl ?_|refine qv rfl (rr_add64 rfl rfl (by omega) (by omega) rfl) rfl rfl ?_)
      refine TL_storeB (i := 0) (cs' := (rexC r.kind r.cls v).toArray) rfl rfl rfl rfl (by show ((.int .i64 r.kind :: (clsL r.cls ++ [v])).all Value.oneCell') = true; simp [clsL, i2]; exact ⟨rfl, rfl, rfl, rfl, rfl⟩) rfl ?_
      conv=>arg 8;simp only[zA,zB,zC,zD,zE,zF,zG,zH,zI,rowS,ret,id_eq]
      repeat(first|refine qv rfl (qp rfl) rfl rfl ?_|refine TL_nil ?_|refine T_seq ?_|refine T_region ?_|refine qcT rfl ?_|refine qcF rfl ?_|refine T_skip ?_|refine T_exit ?_|refine T_ret ?_|refine T_block ?_|refine E_then ?_|refine E_thenX ?_|refine E_thenR ?_|refine E_blockN ?_|refine E_blockR ?_|refine E_blockX ?_|refine E_blockO rfl ?_|refine qv rfl (qlen Und.eq rfl) rfl rfl ?_|refine qv rfl (qfld FldC.fld rfl rfl) rfl rfl ?_|refine qv rfl (rr_lss rfl rfl (qT (by omega))) rfl rfl ?_|refine qv rfl (rr_lss rfl rfl (qF (by omega))) rfl rfl ?_|refine qv rfl (rr_add64 rfl rfl (by omega) (by omega) rfl) rfl rfl ?_)
      refine E_merge (rkO (Or1 F v) v r.kids) 3 2 [0, 1] (by decide) rfl rfl rfl (fun k hk => (rk_foot hk).elim (fun h => .inl (.inr h)) fun h => .inr (.inl h)) (fun w he hk => ?_) ?_
      · rw [hjl] at hk
        exact ⟨⟨v, rfl, slf_of (css := xs.map rcC) hk he (by decide)⟩, slO_lt (css := xs.map rcC) hk he⟩
      refine E_retc1 (i := 0) rfl rfl rfl rfl fun w hm => ?_
      exact hm.meets (S := copySp r) (v, Or1 F v) trivial [2] (by decide) rfl
end Go.Proofs.YtakiohldgcifeaaDoor.eng


/- RexSz -/
namespace Go.Proofs.YtakiohldgcifeaaDoor.rexL
open classL
def SzR (p0 : Nat) (x : Rx) (st : RS) : Prop := p0 ≤ st.p ∧ (st.e = 0 → sizeX x + 1 ≤ 200 * (st.p - p0)) ∧ (st.e ≠ 0 → sizeX x ≤ 200 * (st.p - p0) + 1)
section
variable {s : Txt}
theorem SzR.le {p0 : Nat} {x : Rx} {st : RS} (h : SzR p0 x st) : sizeX x ≤ 200 * (st.p - p0) + 1 := by
  by_cases e : st.e = 0
  · have := h.2.1 e; omega
  · exact h.2.2 e
theorem size_two (k : Int) (a b : Rx) : sizeX (twoX k a b) = sizeX a + sizeX b + 1 := by unfold twoX; simp [sizeX, sizesX]
theorem size_one (k : Int) (c : C4) : sizeX (.mk k c []) = 1 := by simp [sizeX, sizesX]
theorem size_star (a : Rx) : sizeX (.mk 6 C4.zero [a]) = sizeX a + 1 := by simp [sizeX, sizesX]
theorem size_plus (a : Rx) : sizeX (plusX a) ≤ sizeX a + 103 := by
  unfold plusX
  rw [size_two, size_star]
  split
  · omega
  · rw [size_one]; omega
theorem szr_two {k : Int} {p0 : Nat} {a b : Rx} {st st1 st2 : RS} (ha : SzR p0 a st) (h0 : st.e = 0) (h1 : st.p ≤ st1.p) (hb : SzR st1.p b st2) : SzR p0 (twoX k a b) st2 := by
  obtain ⟨a1, a2, a3⟩ := ha
  obtain ⟨b1, b2, b3⟩ := hb
  have a2 := a2 h0
  refine ⟨by omega, fun h => ?_, fun h => ?_⟩
  · have := b2 h; rw [size_two]; omega
  · have := b3 h; rw [size_two]; omega
theorem szr_up {p0 : Nat} {a b : Rx} {st : RS} (ha : SzR p0 a st) (h0 : st.e = 0) (h : sizeX b ≤ sizeX a + 103) : SzR p0 b st.up := by
  obtain ⟨a1, a2, a3⟩ := ha
  have a2 := a2 h0
  have e : st.up.p = st.p + 1 := rfl
  exact ⟨by omega, fun _ => by rw [e]; omega, fun h => absurd h0 h⟩
theorem szr_leaf {p0 : Nat} {st : RS} {k : Int} {c : C4} (h0 : p0 ≤ st.p) (h : st.e = 0 → p0 < st.p) : SzR p0 (.mk k c []) st :=
  ⟨h0, fun e => by have := h e; rw [size_one]; omega, fun _ => by rw [size_one]; omega⟩
def SzAt (s : Txt) (f : Nat) : Prop :=
  (∀ st R, altF s f st = some R → st.p ≤ s.length → st.e = 0 → SzR st.p R.1 R.2) ∧ (∀ p0 o st R, altL s f o st = some R → st.p ≤ s.length → SzR p0 o st → SzR p0 R.1 R.2) ∧
  (∀ st R, catF s f st = some R → st.p ≤ s.length → st.e = 0 → SzR st.p R.1 R.2) ∧ (∀ p0 o st R, catL s f o st = some R → st.p ≤ s.length → SzR p0 o st → SzR p0 R.1 R.2) ∧
  (∀ st R, repF s f st = some R → st.p ≤ s.length → st.e = 0 → SzR st.p R.1 R.2) ∧ (∀ p0 o st R, repL s f o st = some R → SzR p0 o st → SzR p0 R.1 R.2) ∧
  (∀ st R, atomF s f st = some R → st.p ≤ s.length → st.e = 0 → SzR st.p R.1 R.2) ∧ (∀ st R, brF s f st = some R → st.p < s.length → st.e = 0 → SzR st.p R.1 R.2)
theorem sz_at (s : Txt) : ∀ f, SzAt s f
  | 0 => ⟨fun _ _ h => by rw [altF] at h; (cases h), fun _ _ _ _ h => by rw [altL] at h; (cases h), fun _ _ h => by rw [catF] at h; (cases h), fun _ _ _ _ h => by rw [catL] at h; (cases h), fun _ _ h => by rw [repF] at h; (cases h), fun _ _ _ _ h => by rw [repL] at h; (cases h), fun _ _ h => by rw [atomF] at h; (cases h), fun _ _ h => by rw [brF] at h; (cases h)⟩
  | f + 1 => by
    obtain ⟨a1, a2, a3, a4, a5, a6, a7, a8⟩ := sz_at s f
    obtain ⟨b1, b2, b3, b4, b5, b6, b7, b8⟩ := goes_at s f
    refine ⟨fun st R h h0 he => ?_, fun p0 o st R h h0 ho => ?_, fun st R h h0 he => ?_, fun p0 o st R h h0 ho => ?_, fun st R h h0 he => ?_, fun p0 o st R h ho => ?_, fun st R h h0 he => ?_, fun st R h h0 he => ?_⟩
    · rw [altF] at h
      split at h
      · cases h
      · rename_i o st1 hc
        exact a2 _ _ _ _ h (b3 _ _ hc h0).le (a3 _ _ hc h0 he)
    · rw [altL] at h
      split at h
      · rename_i c
        have g0 := goes_up (isB_lt c).2.1
        split at h
        · cases h
        · rename_i o2 st2 hc
          exact a2 _ _ _ _ h (b3 _ _ hc g0.le).le (szr_two ho (isB_lt c).1 g0.ge (a3 _ _ hc g0.le (isB_lt c).1))
      · cases h; exact ho
    · rw [catF] at h
      split at h
      · cases h
      · rename_i o st1 hc
        exact a4 _ _ _ _ h (b5 _ _ hc h0).le (a5 _ _ hc h0 he)
    · rw [catL] at h
      split at h
      · cases h; exact ho
      · rename_i c
        have he : st.e = 0 := by
          unfold endsB at c
          simp only [Bool.or_eq_true, not_or, decide_eq_true_eq] at c
          simpa using c.1.1.1
        split at h
        · cases h
        · rename_i o2 st2 hc
          exact a4 _ _ _ _ h (b5 _ _ hc h0).le (szr_two ho he (Nat.le_refl _) (a5 _ _ hc h0 he))
    · rw [repF] at h
      split at h
      · cases h
      · rename_i o st1 hc
        exact a6 _ _ _ _ h (a7 _ _ hc h0 he)
    · rw [repL] at h
      split at h
      · cases h; exact ho
      · rename_i c
        have c : st.e = 0 := by simpa using c
        split at h
        · exact a6 _ _ _ _ h (szr_up ho c (by rw [size_star]; omega))
        · split at h
          · exact a6 _ _ _ _ h (szr_up ho c (size_plus o))
          · split at h
            · exact a6 _ _ _ _ h (szr_up ho c (by rw [size_two, size_one]; omega))
            · cases h; exact ho
    · rw [atomF] at h
      split at h
      · rename_i c; exact a8 _ _ h (isB_lt c).2.1 he
      · split at h
        · rename_i c
          have g0 := goes_up (isB_lt c).2.1
          split at h
          · cases h
            exact szr_leaf (by show st.p ≤ st.p + 1 + 1; omega) fun _ => by show st.p < st.p + 1 + 1; omega
          · split at h
            · cases h
            · rename_i c' st1 hc
              cases h
              have g1 : st.up.p ≤ st1.p := (class_goes hc g0.le).ge
              have e : st.up.p = st.p + 1 := rfl
              exact szr_leaf (by show st.p ≤ st1.p; omega) fun _ => by show st.p < st1.p; omega
        · split at h
          · cases h
            exact szr_leaf (by show st.p ≤ st.p + 1; omega) fun _ => by show st.p < st.p + 1; omega
          · cases h
            exact szr_leaf (char_goes h0).ge fun e => char_on h0 e
    · rw [brF] at h
      split at h
      · cases h
        refine szr_leaf (by show st.p ≤ (failS st 7).p; rw [(fail_p st 7).1]; exact Nat.le_refl _) fun e => ?_
        rw [show (Rx.mk 0 C4.zero [], failS st 7).2 = failS st 7 from rfl, fail_e he] at e; cases e
      · split at h
        · cases h
          exact szr_leaf (by show st.p ≤ st.p + 1 + 1; omega) fun _ => by show st.p < st.p + 1 + 1; omega
        · split at h
          · cases h
          · rename_i r st1 hc
            have g := a1 _ _ hc (by exact h0) he
            have hg := b1 _ _ hc (by exact h0)
            have e1 : ({ st.up with o := st.o + 1 } : RS).p = st.p + 1 := rfl
            rw [e1] at g
            obtain ⟨g1, g2, g3⟩ := g
            have hle : sizeX r ≤ 200 * (st1.p - (st.p + 1)) + 1 := SzR.le ⟨g1, g2, g3⟩
            cases h
            dsimp only at *
            split
            · refine ⟨?_, fun _ => ?_, fun _ => ?_⟩
              · show st.p ≤ st1.p + 1; omega
              · show sizeX r + 1 ≤ 200 * (st1.p + 1 - st.p); omega
              · show sizeX r ≤ 200 * (st1.p + 1 - st.p) + 1; omega
            · refine ⟨?_, fun _ => ?_, fun _ => ?_⟩
              · rw [(fail_p _ _).1]; show st.p ≤ st1.p; omega
              · rw [(fail_p _ _).1]; show sizeX r + 1 ≤ 200 * (st1.p - st.p); omega
              · rw [(fail_p _ _).1]; show sizeX r ≤ 200 * (st1.p - st.p) + 1; omega
end
end Go.Proofs.YtakiohldgcifeaaDoor.rexL

/- RexO -/
namespace Go.Proofs.YtakiohldgcifeaaDoor.eng
open Go.RowKit kit mix classL rexL classSets
def rxSp (g : Nat) (s : Txt) (R : Rx × RS) : Spec (Value × (Nat → Prop)) := ⟨fun _ => kit.okI64 R.1.kind, fun x => rexV R.1.kind R.1.cls x.1, fun x => [rkO x.2 x.1 R.1.kids, rdO g s R.2]⟩
abbrev rxB (g : Nat) (k : Int) (c : C4) (v : Value) : Own := blkO g (rexC k c v).toArray 39
/-- what holds of the reader's functions at so much fuel -/
structure RdAt (g : Nat) (s : Txt) (f : Nat) : Prop where
  alt : ∀ {st R w B}, altF s f st = some R → st.p ≤ s.length → st.e = 0 → st.o ≤ 30 → Mem B [rdO g s st] w → Calls Tryd.prog 41 #[.pointer (some ⟨g, 0, none⟩)] w (MeetsB (rxSp g s R) B)
  cat : ∀ {st R w B}, catF s f st = some R → st.p ≤ s.length → st.e = 0 → st.o ≤ 30 → Mem B [rdO g s st] w → Calls Tryd.prog 56 #[.pointer (some ⟨g, 0, none⟩)] w (MeetsB (rxSp g s R) B)
  rep : ∀ {st R w B}, repF s f st = some R → st.p ≤ s.length → st.e = 0 → st.o ≤ 30 → Mem B [rdO g s st] w → Calls Tryd.prog 67 #[.pointer (some ⟨g, 0, none⟩)] w (MeetsB (rxSp g s R) B)
  atom : ∀ {st R w B}, atomF s f st = some R → st.p ≤ s.length → st.e = 0 → st.o ≤ 30 → Mem B [rdO g s st] w → Calls Tryd.prog 73 #[.pointer (some ⟨g, 0, none⟩)] w (MeetsB (rxSp g s R) B)
  br : ∀ {st R w B}, brF s f st = some R → st.p < s.length → st.e = 0 → st.o ≤ 30 → Mem B [rdO g s st] w → Calls Tryd.prog 77 #[.pointer (some ⟨g, 0, none⟩)] w (MeetsB (rxSp g s R) B)
set_option maxRecDepth 100000 in
set_option maxHeartbeats 8000000 in
theorem rdAlt (g : Nat) (s : Txt) (hs : s.length ≤ 300) (N : Nat) (IH : ∀ f, f < N → RdAt g s f) {st0 : RS} {R : Rx × RS} {w : World} {B : Base} (h : altF s N st0 = some R) (hp : st0.p ≤ s.length) (he : st0.e = 0) (ho : st0.o ≤ 30) (hm : Mem B [rdO g s st0] w) :
    Calls Tryd.prog 41 #[.pointer (some ⟨g, 0, none⟩)] w (MeetsB (rxSp g s R) B) := by
  cases N with
  | zero => rw [altF] at h; cases h
  | succ N =>
  rw [altF] at h
  cases hc1 : catF s N st0 with
  | none => rw [hc1] at h; cases h
  | some X =>
  obtain ⟨o1, st1⟩ := X
  rw [hc1] at h
  dsimp only at h
  have hg1 := (goes_at s N).2.2.1 _ _ hc1 hp
  dsimp only at hg1
  refine enterB hm (args := [.pointer (some ⟨g, 0, none⟩)]) (n := 13) Tryd.func41 rfl rfl rfl ?_
  clear hm
  refine T_seq (T_region (TL_new rfl fun g2 => ?_))
  conv=>arg 8;simp only[zA,zB,zC,zD,zE,zF,zG,zH,zI,rowS,ret,id_eq]
  repeat(first|refine qv rfl (qp rfl) rfl rfl ?_|refine TL_nil ?_|refine T_seq ?_|refine T_region ?_|refine qcT rfl ?_|refine qcF rfl ?_|refine T_skip ?_|refine T_exit ?_|refine T_ret ?_|refine T_block ?_|refine E_then ?_|refine E_thenX ?_|refine E_thenR ?_|refine E_blockN ?_|refine E_blockR ?_|refine E_blockX ?_|refine E_blockO rfl ?_)
  refine TL_callB [0] [1] (by decide) rfl rfl (he1 EntersC.en rfl rfl) (fun w hm hb => (IH N (by omega)).cat hc1 hp he ho hb) rfl rfl rfl ?_
  rintro ⟨v1, F1⟩ hok1
  conv=>arg 8;simp only[zA,zB,zC,zD,zE,zF,zG,zH,zI,rowS,ret,id_eq, rxSp]
  conv => arg 7; simp only [rxSp]
  refine TL_know (i := 1) rfl (fun w h => rkO_form h) fun hv1 => ?_
  obtain ⟨b1, n1, c1, rfl⟩ := hv1
  refine TL_new rfl fun g3 => ?_
  conv=>arg 8;simp only[zA,zB,zC,zD,zE,zF,zG,zH,zI,rowS,ret,id_eq]
  refine TL_storeB (i := 3) (cs' := (rexC o1.kind o1.cls (.slice b1 n1 c1)).toArray) rfl rfl rfl rfl rfl rfl ?_
  conv=>arg 8;simp only[zA,zB,zC,zD,zE,zF,zG,zH,zI,rowS,ret,id_eq]
  repeat(first|refine qv rfl (qp rfl) rfl rfl ?_|refine TL_nil ?_|refine T_seq ?_|refine T_region ?_|refine qcT rfl ?_|refine qcF rfl ?_|refine T_skip ?_|refine T_exit ?_|refine T_ret ?_|refine T_block ?_|refine E_then ?_|refine E_thenX ?_|refine E_thenR ?_|refine E_blockN ?_|refine E_blockR ?_|refine E_blockX ?_|refine E_blockO rfl ?_)
  refine T_pick [0, 3, 1, 2] (by decide) rfl ?_
  refine T_loop (ι := Nat × Rx × RS × (Option Addr × Nat × Nat) × (Nat → Prop)) (fun (f, o, st, _, _) => altL s f o st = some R ∧ st.p ≤ s.length ∧ kit.okI64 o.kind ∧ f ≤ N ∧ st.o ≤ 30) (fun _ => [(0, .pointer (some ⟨g, 0, none⟩)), (2, .pointer (some ⟨g2, 0, none⟩)), (3, .pointer (some ⟨g3, 0, none⟩))])
    (fun (_, o, st, q, F) => [rxB g2 0 C4.zero (.slice none 0 0), rxB g3 o.kind o.cls (.slice q.1 q.2.1 q.2.2), rkO F (.slice q.1 q.2.1 q.2.2) o.kids, rdO g s st]) (fun (f, _, _, _, _) => f) (N, o1, st1, (b1, n1, c1), F1) ⟨h, hg1.le, hok1, Nat.le_refl _, (by have := hg1.o; omega)⟩ (by repeat' (first | exact True.intro | refine And.intro rfl ?_)) rfl ?_
  clear h hc1 hg1 hok1
  rintro ⟨f, o, st, ⟨b, n, c⟩, F⟩ ⟨i1, i2, hok, i4, i5⟩
  dsimp only at i1 i2 hok i4 i5 ⊢
  cases f with
  | zero => rw [altL] at i1; cases i1
  | succ f =>
  rw [altL] at i1
  repeat(first|refine qv rfl (qp rfl) rfl rfl ?_|refine TL_nil ?_|refine T_seq ?_|refine T_region ?_|refine qcT rfl ?_|refine qcF rfl ?_|refine T_skip ?_|refine T_exit ?_|refine T_ret ?_|refine T_block ?_|refine E_then ?_|refine E_thenX ?_|refine E_thenR ?_|refine E_blockN ?_|refine E_blockR ?_|refine E_blockX ?_|refine E_blockO rfl ?_)
  refine TL_callB [3] [0, 1, 2] (by decide) rfl rfl (he2 EntersC.en rfl rfl rfl) (fun w hm hb => rdTake_calls g s st 124 w _ (by omega) hb) rfl rfl rfl ?_
  intro _ _
  conv=>arg 8;simp only[zA,zB,zC,zD,zE,zF,zG,zH,zI,rowS,ret,id_eq]
  have htk : takeS s st 124 = if isB s st 124 = true then st.up else st := rfl
  rw [htk]
  cases hb : isB s st 124 with
  | true =>
    rw [if_pos hb] at i1
    rw [if_pos rfl]
    have hlt := isB_lt hb
    have hple : st.up.p ≤ s.length := hlt.2.1
    have he2 : st.up.e = 0 := hlt.1
    have ho2 : st.up.o ≤ 30 := i5
    cases hc2 : catF s f st.up with
    | none => rw [hc2] at i1; cases i1
    | some X2 =>
        obtain ⟨o2, st2⟩ := X2
        rw [hc2] at i1
        dsimp only at i1
        repeat(first|refine qv rfl (qp rfl) rfl rfl ?_|refine TL_nil ?_|refine T_seq ?_|refine T_region ?_|refine qcT rfl ?_|refine qcF rfl ?_|refine T_skip ?_|refine T_exit ?_|refine T_ret ?_|refine T_block ?_|refine E_then ?_|refine E_thenX ?_|refine E_thenR ?_|refine E_blockN ?_|refine E_blockR ?_|refine E_blockX ?_|refine E_blockO rfl ?_)
        have hg2 : Goes s _ _ := (goes_at s f).2.2.1 _ _ hc2 hple
        refine T_ord ([]) (.calm 1 (.two 0 (.one 2 (.one 3 (.one 4 (.done)))) 2 (.one 0 (.one 3 (.one 4 (.done)))))) (sub_pick [] (by decide) rfl) (by kernel_rfl) (by kernel_rfl) (by intro c a d v w h; cases d <;> exact h) ?_
        repeat(first|((first|refine TW_plain rfl rfl ?_|refine TW_gmet rfl rfl rfl rfl ?_);first|refine TN_val (qp rfl) rfl rfl ?_)|refine TW_done ?_)
        refine TW_two rfl rfl ?_ ?_
        · refine TL_val (rr_loadB (i := 1) TyC.ty rfl rfl rfl) rfl rfl rfl (TW_on (sub_pick [] (by decide) rfl) ?_)
          refine TW_one rfl (TL_callB [3] [0, 1, 2] (by decide) rfl rfl (he1 EntersC.en rfl rfl) (fun w hm hb => (IH f (by omega)).cat hc2 hple he2 ho2 hb) rfl rfl rfl ?_)
          rintro ⟨v2, F2⟩ hok2
          conv=>arg 8;simp only[zA,zB,zC,zD,zE,zF,zG,zH,zI,rowS,ret,id_eq, rxSp]
          conv => arg 7; simp only [rxSp]
          refine TL_know (i := 3) rfl (fun w h => rkO_form h) fun hv2 => ?_
          obtain ⟨b2, n2, c2, rfl⟩ := hv2
          refine TW_on (sub_pick [] (by decide) rfl) ?_
          refine TW_one rfl (TL_call (he3 EntersC.en rfl rfl rfl rfl) (fun w' hm => rexTwo_calls 5 o.kind o2.kind o.cls o2.cls b b2 n n2 c c2 w') rfl rfl rfl ?_)
          intro g11 _
          conv=>arg 8;simp only[zA,zB,zC,zD,zE,zF,zG,zH,zI,rowS,ret,id_eq, twoS]
          conv => arg 7; simp only [twoS]
          refine TL_mk2 (i := 2) (j := 3) (q := 5) [0, 1, 4] (by decide) hok hok2 rfl rfl rfl rfl ?_
          conv=>arg 8;simp only[zA,zB,zC,zD,zE,zF,zG,zH,zI,rowS,ret,id_eq, List.cons_append, List.nil_append]
          refine TW_on (sub_pick [] (by decide) rfl) ?_
          refine TW_one rfl (TL_storeB (i := 1) (cs' := (rexC 5 C4.zero (.slice (some ⟨g11, 0, none⟩) 2 2)).toArray) rfl rfl rfl rfl rfl rfl ?_)
          conv=>arg 8;simp only[zA,zB,zC,zD,zE,zF,zG,zH,zI,rowS,ret,id_eq]
          refine TW_on (sub_pick [] (by decide) rfl) ?_
          repeat(first|((first|refine TW_plain rfl rfl ?_|refine TW_gmet rfl rfl rfl rfl ?_);first|refine TN_val (qp rfl) rfl rfl ?_)|refine TW_done ?_)
          repeat(first|refine qv rfl (qp rfl) rfl rfl ?_|refine TL_nil ?_|refine T_seq ?_|refine T_region ?_|refine qcT rfl ?_|refine qcF rfl ?_|refine T_skip ?_|refine T_exit ?_|refine T_ret ?_|refine T_block ?_|refine E_then ?_|refine E_thenX ?_|refine E_thenR ?_|refine E_blockN ?_|refine E_blockR ?_|refine E_blockX ?_|refine E_blockO rfl ?_)
          refine E_pick [0, 1, 3, 2] (by decide) rfl ?_
          exact E_round (f, twoX 5 o o2, st2, (some ⟨g11, 0, none⟩, 2, 2), fun k => (F k ∨ F2 k) ∨ k = g11) ⟨i1, hg2.le, (by show kit.okI64 5; unfold kit.okI64; omega), (by omega), (by have h : st2.o = _ := hg2.o; show st2.o ≤ 30; omega)⟩ (by show f < f + 1; omega) (by repeat' (first | exact True.intro | refine And.intro rfl ?_)) rfl
        · refine TL_callB [3] [0, 1, 2] (by decide) rfl rfl (he1 EntersC.en rfl rfl) (fun w hm hb => (IH f (by omega)).cat hc2 hple he2 ho2 hb) rfl rfl rfl ?_
          rintro ⟨v2, F2⟩ hok2
          conv=>arg 8;simp only[zA,zB,zC,zD,zE,zF,zG,zH,zI,rowS,ret,id_eq, rxSp]
          conv => arg 7; simp only [rxSp]
          refine TL_know (i := 3) rfl (fun w h => rkO_form h) fun hv2 => ?_
          obtain ⟨b2, n2, c2, rfl⟩ := hv2
          refine TW_on (sub_pick [] (by decide) rfl) ?_
          refine TW_one rfl (TL_val (rr_loadB (i := 1) TyC.ty rfl rfl rfl) rfl rfl rfl (TW_on (sub_pick [] (by decide) rfl) ?_))
          refine TW_one rfl (TL_call (he3 EntersC.en rfl rfl rfl rfl) (fun w' hm => rexTwo_calls 5 o.kind o2.kind o.cls o2.cls b b2 n n2 c c2 w') rfl rfl rfl ?_)
          intro g11 _
          conv=>arg 8;simp only[zA,zB,zC,zD,zE,zF,zG,zH,zI,rowS,ret,id_eq, twoS]
          conv => arg 7; simp only [twoS]
          refine TL_mk2 (i := 2) (j := 3) (q := 5) [0, 1, 4] (by decide) hok hok2 rfl rfl rfl rfl ?_
          conv=>arg 8;simp only[zA,zB,zC,zD,zE,zF,zG,zH,zI,rowS,ret,id_eq, List.cons_append, List.nil_append]
          refine TW_on (sub_pick [] (by decide) rfl) ?_
          refine TW_one rfl (TL_storeB (i := 1) (cs' := (rexC 5 C4.zero (.slice (some ⟨g11, 0, none⟩) 2 2)).toArray) rfl rfl rfl rfl rfl rfl ?_)
          conv=>arg 8;simp only[zA,zB,zC,zD,zE,zF,zG,zH,zI,rowS,ret,id_eq]
          refine TW_on (sub_pick [] (by decide) rfl) ?_
          repeat(first|((first|refine TW_plain rfl rfl ?_|refine TW_gmet rfl rfl rfl rfl ?_);first|refine TN_val (qp rfl) rfl rfl ?_)|refine TW_done ?_)
          repeat(first|refine qv rfl (qp rfl) rfl rfl ?_|refine TL_nil ?_|refine T_seq ?_|refine T_region ?_|refine qcT rfl ?_|refine qcF rfl ?_|refine T_skip ?_|refine T_exit ?_|refine T_ret ?_|refine T_block ?_|refine E_then ?_|refine E_thenX ?_|refine E_thenR ?_|refine E_blockN ?_|refine E_blockR ?_|refine E_blockX ?_|refine E_blockO rfl ?_)
          refine E_pick [0, 1, 3, 2] (by decide) rfl ?_
          exact E_round (f, twoX 5 o o2, st2, (some ⟨g11, 0, none⟩, 2, 2), fun k => (F k ∨ F2 k) ∨ k = g11) ⟨i1, hg2.le, (by show kit.okI64 5; unfold kit.okI64; omega), (by omega), (by have h : st2.o = _ := hg2.o; show st2.o ≤ 30; omega)⟩ (by show f < f + 1; omega) (by repeat' (first | exact True.intro | refine And.intro rfl ?_)) rfl
  | false =>
        rw [if_neg (by rw [hb]; decide)] at i1
        cases i1
        rw [if_neg (by decide)]
        repeat(first|refine qv rfl (qp rfl) rfl rfl ?_|refine TL_nil ?_|refine T_seq ?_|refine T_region ?_|refine qcT rfl ?_|refine qcF rfl ?_|refine T_skip ?_|refine T_exit ?_|refine T_ret ?_|refine T_block ?_|refine E_then ?_|refine E_thenX ?_|refine E_thenR ?_|refine E_blockN ?_|refine E_blockR ?_|refine E_blockX ?_|refine E_blockO rfl ?_|refine qv rfl (rr_loadB (i := 1) TyC.ty rfl rfl rfl) rfl rfl ?_)
        refine TL_storeB (i := 0) (cs' := (rexC o.kind o.cls (.slice b n c)).toArray) rfl rfl rfl rfl rfl rfl ?_
        conv=>arg 8;simp only[zA,zB,zC,zD,zE,zF,zG,zH,zI,rowS,ret,id_eq]
        repeat(first|refine qv rfl (qp rfl) rfl rfl ?_|refine TL_nil ?_|refine T_seq ?_|refine T_region ?_|refine qcT rfl ?_|refine qcF rfl ?_|refine T_skip ?_|refine T_exit ?_|refine T_ret ?_|refine T_block ?_|refine E_then ?_|refine E_thenX ?_|refine E_thenR ?_|refine E_blockN ?_|refine E_blockR ?_|refine E_blockX ?_|refine E_blockO rfl ?_)
        exact E_retc1 (i := 0) rfl rfl rfl rfl fun w hm => hm.meetsB (S := rxSp g s (o, st)) (.slice b n c, F) hok [2, 3] (by decide) rfl
set_option maxRecDepth 100000 in
set_option maxHeartbeats 8000000 in
theorem rdCat (g : Nat) (s : Txt) (hs : s.length ≤ 300) (N : Nat) (IH : ∀ f, f < N → RdAt g s f) {st0 : RS} {R : Rx × RS} {w : World} {B : Base} (h : catF s N st0 = some R) (hp : st0.p ≤ s.length) (he : st0.e = 0) (ho : st0.o ≤ 30) (hm : Mem B [rdO g s st0] w) :
    Calls Tryd.prog 56 #[.pointer (some ⟨g, 0, none⟩)] w (MeetsB (rxSp g s R) B) := by
  cases N with
  | zero => rw [catF] at h; cases h
  | succ N =>
  rw [catF] at h
  cases hc1 : repF s N st0 with
  | none => rw [hc1] at h; cases h
  | some X =>
  obtain ⟨o1, st1⟩ := X
  rw [hc1] at h
  dsimp only at h
  have hg1 := (goes_at s N).2.2.2.2.1 _ _ hc1 hp
  dsimp only at hg1
  refine enterB hm (args := [.pointer (some ⟨g, 0, none⟩)]) (n := 14) Tryd.func56 rfl rfl rfl ?_
  clear hm
  refine T_seq (T_region (TL_new rfl fun g2 => ?_))
  conv=>arg 8;simp only[zA,zB,zC,zD,zE,zF,zG,zH,zI,rowS,ret,id_eq]
  repeat(first|refine qv rfl (qp rfl) rfl rfl ?_|refine TL_nil ?_|refine T_seq ?_|refine T_region ?_|refine qcT rfl ?_|refine qcF rfl ?_|refine T_skip ?_|refine T_exit ?_|refine T_ret ?_|refine T_block ?_|refine E_then ?_|refine E_thenX ?_|refine E_thenR ?_|refine E_blockN ?_|refine E_blockR ?_|refine E_blockX ?_|refine E_blockO rfl ?_|refine qv rfl (rr_not rfl rfl) rfl rfl ?_)
  refine TL_callB [0] [1] (by decide) rfl rfl (he1 EntersC.en rfl rfl) (fun w hm hb => (IH N (by omega)).rep hc1 hp he ho hb) rfl rfl rfl ?_
  rintro ⟨v1, F1⟩ hok1
  conv=>arg 8;simp only[zA,zB,zC,zD,zE,zF,zG,zH,zI,rowS,ret,id_eq, rxSp]
  conv => arg 7; simp only [rxSp]
  refine TL_know (i := 1) rfl (fun w h => rkO_form h) fun hv1 => ?_
  obtain ⟨b1, n1, c1, rfl⟩ := hv1
  refine TL_new rfl fun g3 => ?_
  conv=>arg 8;simp only[zA,zB,zC,zD,zE,zF,zG,zH,zI,rowS,ret,id_eq]
  refine TL_storeB (i := 3) (cs' := (rexC o1.kind o1.cls (.slice b1 n1 c1)).toArray) rfl rfl rfl rfl rfl rfl ?_
  conv=>arg 8;simp only[zA,zB,zC,zD,zE,zF,zG,zH,zI,rowS,ret,id_eq]
  repeat(first|refine qv rfl (qp rfl) rfl rfl ?_|refine TL_nil ?_|refine T_seq ?_|refine T_region ?_|refine qcT rfl ?_|refine qcF rfl ?_|refine T_skip ?_|refine T_exit ?_|refine T_ret ?_|refine T_block ?_|refine E_then ?_|refine E_thenX ?_|refine E_thenR ?_|refine E_blockN ?_|refine E_blockR ?_|refine E_blockX ?_|refine E_blockO rfl ?_|refine qv rfl (rr_not rfl rfl) rfl rfl ?_)
  refine T_pick [0, 3, 1, 2] (by decide) rfl ?_
  refine T_loop (ι := Nat × Rx × RS × (Option Addr × Nat × Nat) × (Nat → Prop)) (fun (f, o, st, _, _) => catL s f o st = some R ∧ st.p ≤ s.length ∧ kit.okI64 o.kind ∧ f ≤ N ∧ st.o ≤ 30) (fun _ => [(0, .pointer (some ⟨g, 0, none⟩)), (2, .pointer (some ⟨g2, 0, none⟩)), (3, .pointer (some ⟨g3, 0, none⟩))])
    (fun (_, o, st, q, F) => [rxB g2 0 C4.zero (.slice none 0 0), rxB g3 o.kind o.cls (.slice q.1 q.2.1 q.2.2), rkO F (.slice q.1 q.2.1 q.2.2) o.kids, rdO g s st]) (fun (f, _, _, _, _) => f) (N, o1, st1, (b1, n1, c1), F1) ⟨h, hg1.le, hok1, Nat.le_refl _, (by have := hg1.o; omega)⟩ (by repeat' (first | exact True.intro | refine And.intro rfl ?_)) rfl ?_
  clear h hc1 hg1 hok1
  rintro ⟨f, o, st, ⟨b, n, c⟩, F⟩ ⟨i1, i2, hok, i4, i5⟩
  dsimp only at i1 i2 hok i4 i5 ⊢
  cases f with
  | zero => rw [catL] at i1; cases i1
  | succ f =>
  rw [catL] at i1
  repeat(first|refine qv rfl (qp rfl) rfl rfl ?_|refine TL_nil ?_|refine T_seq ?_|refine T_region ?_|refine qcT rfl ?_|refine qcF rfl ?_|refine T_skip ?_|refine T_exit ?_|refine T_ret ?_|refine T_block ?_|refine E_then ?_|refine E_thenX ?_|refine E_thenR ?_|refine E_blockN ?_|refine E_blockR ?_|refine E_blockX ?_|refine E_blockO rfl ?_|refine qv rfl (rr_not rfl rfl) rfl rfl ?_)
  refine TL_call (he1 EntersC.en rfl rfl) (fun w hm => rdEnds_calls g s st w i2 (hm.get (i := 3) rfl)) rfl rfl rfl ?_
  intro _ _
  conv=>arg 8;simp only[zA,zB,zC,zD,zE,zF,zG,zH,zI,rowS,ret,id_eq]
  cases hb : endsB s st with
  | false =>
    rw [if_neg (by rw [hb]; decide)] at i1
    have he2 : st.e = 0 := by
      unfold endsB at hb
      simp only [Bool.or_eq_false_iff, decide_eq_false_iff_not] at hb
      simpa using hb.1.1.1
    have hple : st.p ≤ s.length := i2
    have ho2 : st.o ≤ 30 := i5
    cases hc2 : repF s f st with
    | none => rw [hc2] at i1; cases i1
    | some X2 =>
        obtain ⟨o2, st2⟩ := X2
        rw [hc2] at i1
        dsimp only at i1
        repeat(first|refine qv rfl (qp rfl) rfl rfl ?_|refine TL_nil ?_|refine T_seq ?_|refine T_region ?_|refine qcT rfl ?_|refine qcF rfl ?_|refine T_skip ?_|refine T_exit ?_|refine T_ret ?_|refine T_block ?_|refine E_then ?_|refine E_thenX ?_|refine E_thenR ?_|refine E_blockN ?_|refine E_blockR ?_|refine E_blockX ?_|refine E_blockO rfl ?_|refine qv rfl (rr_not rfl rfl) rfl rfl ?_)
        have hg2 : Goes s _ _ := (goes_at s f).2.2.2.2.1 _ _ hc2 hple
        refine T_ord ([]) (.calm 1 (.two 0 (.one 2 (.one 3 (.one 4 (.done)))) 2 (.one 0 (.one 3 (.one 4 (.done)))))) (sub_pick [] (by decide) rfl) (by kernel_rfl) (by kernel_rfl) (by intro c a d v w h; cases d <;> exact h) ?_
        repeat(first|((first|refine TW_plain rfl rfl ?_|refine TW_gmet rfl rfl rfl rfl ?_);first|refine TN_val (qp rfl) rfl rfl ?_|refine TN_val (rr_not rfl rfl) rfl rfl ?_)|refine TW_done ?_)
        refine TW_two rfl rfl ?_ ?_
        · refine TL_val (rr_loadB (i := 1) TyC.ty rfl rfl rfl) rfl rfl rfl (TW_on (sub_pick [] (by decide) rfl) ?_)
          refine TW_one rfl (TL_callB [3] [0, 1, 2] (by decide) rfl rfl (he1 EntersC.en rfl rfl) (fun w hm hb => (IH f (by omega)).rep hc2 hple he2 ho2 hb) rfl rfl rfl ?_)
          rintro ⟨v2, F2⟩ hok2
          conv=>arg 8;simp only[zA,zB,zC,zD,zE,zF,zG,zH,zI,rowS,ret,id_eq, rxSp]
          conv => arg 7; simp only [rxSp]
          refine TL_know (i := 3) rfl (fun w h => rkO_form h) fun hv2 => ?_
          obtain ⟨b2, n2, c2, rfl⟩ := hv2
          refine TW_on (sub_pick [] (by decide) rfl) ?_
          refine TW_one rfl (TL_call (he3 EntersC.en rfl rfl rfl rfl) (fun w' hm => rexTwo_calls 4 o.kind o2.kind o.cls o2.cls b b2 n n2 c c2 w') rfl rfl rfl ?_)
          intro g11 _
          conv=>arg 8;simp only[zA,zB,zC,zD,zE,zF,zG,zH,zI,rowS,ret,id_eq, twoS]
          conv => arg 7; simp only [twoS]
          refine TL_mk2 (i := 2) (j := 3) (q := 5) [0, 1, 4] (by decide) hok hok2 rfl rfl rfl rfl ?_
          conv=>arg 8;simp only[zA,zB,zC,zD,zE,zF,zG,zH,zI,rowS,ret,id_eq, List.cons_append, List.nil_append]
          refine TW_on (sub_pick [] (by decide) rfl) ?_
          refine TW_one rfl (TL_storeB (i := 1) (cs' := (rexC 4 C4.zero (.slice (some ⟨g11, 0, none⟩) 2 2)).toArray) rfl rfl rfl rfl rfl rfl ?_)
          conv=>arg 8;simp only[zA,zB,zC,zD,zE,zF,zG,zH,zI,rowS,ret,id_eq]
          refine TW_on (sub_pick [] (by decide) rfl) ?_
          repeat(first|((first|refine TW_plain rfl rfl ?_|refine TW_gmet rfl rfl rfl rfl ?_);first|refine TN_val (qp rfl) rfl rfl ?_|refine TN_val (rr_not rfl rfl) rfl rfl ?_)|refine TW_done ?_)
          repeat(first|refine qv rfl (qp rfl) rfl rfl ?_|refine TL_nil ?_|refine T_seq ?_|refine T_region ?_|refine qcT rfl ?_|refine qcF rfl ?_|refine T_skip ?_|refine T_exit ?_|refine T_ret ?_|refine T_block ?_|refine E_then ?_|refine E_thenX ?_|refine E_thenR ?_|refine E_blockN ?_|refine E_blockR ?_|refine E_blockX ?_|refine E_blockO rfl ?_|refine qv rfl (rr_not rfl rfl) rfl rfl ?_)
          refine E_pick [0, 1, 3, 2] (by decide) rfl ?_
          exact E_round (f, twoX 4 o o2, st2, (some ⟨g11, 0, none⟩, 2, 2), fun k => (F k ∨ F2 k) ∨ k = g11) ⟨i1, hg2.le, (by show kit.okI64 4; unfold kit.okI64; omega), (by omega), (by have h : st2.o = _ := hg2.o; show st2.o ≤ 30; omega)⟩ (by show f < f + 1; omega) (by repeat' (first | exact True.intro | refine And.intro rfl ?_)) rfl
        · refine TL_callB [3] [0, 1, 2] (by decide) rfl rfl (he1 EntersC.en rfl rfl) (fun w hm hb => (IH f (by omega)).rep hc2 hple he2 ho2 hb) rfl rfl rfl ?_
          rintro ⟨v2, F2⟩ hok2
          conv=>arg 8;simp only[zA,zB,zC,zD,zE,zF,zG,zH,zI,rowS,ret,id_eq, rxSp]
          conv => arg 7; simp only [rxSp]
          refine TL_know (i := 3) rfl (fun w h => rkO_form h) fun hv2 => ?_
          obtain ⟨b2, n2, c2, rfl⟩ := hv2
          refine TW_on (sub_pick [] (by decide) rfl) ?_
          refine TW_one rfl (TL_val (rr_loadB (i := 1) TyC.ty rfl rfl rfl) rfl rfl rfl (TW_on (sub_pick [] (by decide) rfl) ?_))
          refine TW_one rfl (TL_call (he3 EntersC.en rfl rfl rfl rfl) (fun w' hm => rexTwo_calls 4 o.kind o2.kind o.cls o2.cls b b2 n n2 c c2 w') rfl rfl rfl ?_)
          intro g11 _
          conv=>arg 8;simp only[zA,zB,zC,zD,zE,zF,zG,zH,zI,rowS,ret,id_eq, twoS]
          conv => arg 7; simp only [twoS]
          refine TL_mk2 (i := 2) (j := 3) (q := 5) [0, 1, 4] (by decide) hok hok2 rfl rfl rfl rfl ?_
          conv=>arg 8;simp only[zA,zB,zC,zD,zE,zF,zG,zH,zI,rowS,ret,id_eq, List.cons_append, List.nil_append]
          refine TW_on (sub_pick [] (by decide) rfl) ?_
          refine TW_one rfl (TL_storeB (i := 1) (cs' := (rexC 4 C4.zero (.slice (some ⟨g11, 0, none⟩) 2 2)).toArray) rfl rfl rfl rfl rfl rfl ?_)
          conv=>arg 8;simp only[zA,zB,zC,zD,zE,zF,zG,zH,zI,rowS,ret,id_eq]
          refine TW_on (sub_pick [] (by decide) rfl) ?_
          repeat(first|((first|refine TW_plain rfl rfl ?_|refine TW_gmet rfl rfl rfl rfl ?_);first|refine TN_val (qp rfl) rfl rfl ?_|refine TN_val (rr_not rfl rfl) rfl rfl ?_)|refine TW_done ?_)
          repeat(first|refine qv rfl (qp rfl) rfl rfl ?_|refine TL_nil ?_|refine T_seq ?_|refine T_region ?_|refine qcT rfl ?_|refine qcF rfl ?_|refine T_skip ?_|refine T_exit ?_|refine T_ret ?_|refine T_block ?_|refine E_then ?_|refine E_thenX ?_|refine E_thenR ?_|refine E_blockN ?_|refine E_blockR ?_|refine E_blockX ?_|refine E_blockO rfl ?_|refine qv rfl (rr_not rfl rfl) rfl rfl ?_)
          refine E_pick [0, 1, 3, 2] (by decide) rfl ?_
          exact E_round (f, twoX 4 o o2, st2, (some ⟨g11, 0, none⟩, 2, 2), fun k => (F k ∨ F2 k) ∨ k = g11) ⟨i1, hg2.le, (by show kit.okI64 4; unfold kit.okI64; omega), (by omega), (by have h : st2.o = _ := hg2.o; show st2.o ≤ 30; omega)⟩ (by show f < f + 1; omega) (by repeat' (first | exact True.intro | refine And.intro rfl ?_)) rfl
  | true =>
        rw [if_pos hb] at i1
        cases i1
        repeat(first|refine qv rfl (qp rfl) rfl rfl ?_|refine TL_nil ?_|refine T_seq ?_|refine T_region ?_|refine qcT rfl ?_|refine qcF rfl ?_|refine T_skip ?_|refine T_exit ?_|refine T_ret ?_|refine T_block ?_|refine E_then ?_|refine E_thenX ?_|refine E_thenR ?_|refine E_blockN ?_|refine E_blockR ?_|refine E_blockX ?_|refine E_blockO rfl ?_|refine qv rfl (rr_loadB (i := 1) TyC.ty rfl rfl rfl) rfl rfl ?_|refine qv rfl (rr_not rfl rfl) rfl rfl ?_)
        refine TL_storeB (i := 0) (cs' := (rexC o.kind o.cls (.slice b n c)).toArray) rfl rfl rfl rfl rfl rfl ?_
        conv=>arg 8;simp only[zA,zB,zC,zD,zE,zF,zG,zH,zI,rowS,ret,id_eq]
        repeat(first|refine qv rfl (qp rfl) rfl rfl ?_|refine TL_nil ?_|refine T_seq ?_|refine T_region ?_|refine qcT rfl ?_|refine qcF rfl ?_|refine T_skip ?_|refine T_exit ?_|refine T_ret ?_|refine T_block ?_|refine E_then ?_|refine E_thenX ?_|refine E_thenR ?_|refine E_blockN ?_|refine E_blockR ?_|refine E_blockX ?_|refine E_blockO rfl ?_|refine qv rfl (rr_not rfl rfl) rfl rfl ?_)
        exact E_retc1 (i := 0) rfl rfl rfl rfl fun w hm => hm.meetsB (S := rxSp g s (o, st)) (.slice b n c, F) hok [2, 3] (by decide) rfl
end Go.Proofs.YtakiohldgcifeaaDoor.eng


/- RexO2 -/
namespace Go.Proofs.YtakiohldgcifeaaDoor.eng
open Go.RowKit kit mix classL rexL classSets
set_option maxRecDepth 100000 in
set_option maxHeartbeats 8000000 in
theorem rdRep (g : Nat) (s : Txt) (hs : s.length ≤ 300) (N : Nat) (IH : ∀ f, f < N → RdAt g s f) {st0 : RS} {R : Rx × RS} {w : World} {B : Base} (h : repF s N st0 = some R) (hp : st0.p ≤ s.length) (he : st0.e = 0) (ho : st0.o ≤ 30) (hm : Mem B [rdO g s st0] w) :
    Calls Tryd.prog 67 #[.pointer (some ⟨g, 0, none⟩)] w (MeetsB (rxSp g s R) B) := by
  cases N with
  | zero => rw [repF] at h; cases h
  | succ N =>
  rw [repF] at h
  cases hc1 : atomF s N st0 with
  | none => rw [hc1] at h; cases h
  | some X =>
  obtain ⟨o1, st1⟩ := X
  rw [hc1] at h
  dsimp only at h
  have hg1 := (goes_at s N).2.2.2.2.2.2.1 _ _ hc1 hp
  dsimp only at hg1
  have hsz1 := (sz_at s N).2.2.2.2.2.2.1 _ _ hc1 hp he
  refine enterB hm (args := [.pointer (some ⟨g, 0, none⟩)]) (n := 40) Tryd.func67 rfl rfl rfl ?_
  clear hm
  refine T_seq (T_region (TL_new rfl fun g2 => ?_))
  conv=>arg 8;simp only[zA,zB,zC,zD,zE,zF,zG,zH,zI,rowS,ret,id_eq]
  repeat(first|refine qv rfl (qp rfl) rfl rfl ?_|refine TL_nil ?_|refine T_seq ?_|refine T_region ?_|refine qcT rfl ?_|refine qcF rfl ?_|refine T_skip ?_|refine T_exit ?_|refine T_ret ?_|refine T_block ?_|refine E_then ?_|refine E_thenX ?_|refine E_thenR ?_|refine E_blockN ?_|refine E_blockR ?_|refine E_blockX ?_|refine E_blockO rfl ?_|refine qv rfl (qfld FldC.fld rfl rfl) rfl rfl ?_|refine qv rfl (rr_nilc rfl) rfl rfl ?_|refine qv rfl (rr_leq rfl rfl (qT (by omega))) rfl rfl ?_|refine qv rfl (rr_leq rfl rfl (qF (by omega))) rfl rfl ?_|refine qv rfl (rr_eql rfl rfl (qT (by omega))) rfl rfl ?_|refine qv rfl (rr_eql rfl rfl (qF (by omega))) rfl rfl ?_)
  refine TL_callB [0] [1] (by decide) rfl rfl (he1 EntersC.en rfl rfl) (fun w hm hb => (IH N (by omega)).atom hc1 hp he ho hb) rfl rfl rfl ?_
  rintro ⟨v1, F1⟩ hok1
  conv=>arg 8;simp only[zA,zB,zC,zD,zE,zF,zG,zH,zI,rowS,ret,id_eq, rxSp]
  conv => arg 7; simp only [rxSp]
  refine TL_know (i := 1) rfl (fun w h => rkO_form h) fun hv1 => ?_
  obtain ⟨b1, n1, c1, rfl⟩ := hv1
  refine TL_new rfl fun g3 => ?_
  conv=>arg 8;simp only[zA,zB,zC,zD,zE,zF,zG,zH,zI,rowS,ret,id_eq]
  refine TL_storeB (i := 3) (cs' := (rexC o1.kind o1.cls (.slice b1 n1 c1)).toArray) rfl rfl rfl rfl rfl rfl ?_
  conv=>arg 8;simp only[zA,zB,zC,zD,zE,zF,zG,zH,zI,rowS,ret,id_eq]
  repeat(first|refine qv rfl (qp rfl) rfl rfl ?_|refine TL_nil ?_|refine T_seq ?_|refine T_region ?_|refine qcT rfl ?_|refine qcF rfl ?_|refine T_skip ?_|refine T_exit ?_|refine T_ret ?_|refine T_block ?_|refine E_then ?_|refine E_thenX ?_|refine E_thenR ?_|refine E_blockN ?_|refine E_blockR ?_|refine E_blockX ?_|refine E_blockO rfl ?_|refine qv rfl (qfld FldC.fld rfl rfl) rfl rfl ?_|refine qv rfl (rr_nilc rfl) rfl rfl ?_|refine qv rfl (rr_leq rfl rfl (qT (by omega))) rfl rfl ?_|refine qv rfl (rr_leq rfl rfl (qF (by omega))) rfl rfl ?_|refine qv rfl (rr_eql rfl rfl (qT (by omega))) rfl rfl ?_|refine qv rfl (rr_eql rfl rfl (qF (by omega))) rfl rfl ?_)
  refine T_pick [0, 3, 1, 2] (by decide) rfl ?_
  refine T_loop (ι := Nat × Rx × RS × (Option Addr × Nat × Nat) × (Nat → Prop)) (fun (f, o, st, _, _) => repL s f o st = some R ∧ st.p ≤ s.length ∧ kit.okI64 o.kind ∧ sizeX o ≤ 200 * st.p + 1) (fun _ => [(0, .pointer (some ⟨g, 0, none⟩)), (2, .pointer (some ⟨g2, 0, none⟩)), (3, .pointer (some ⟨g3, 0, none⟩))])
    (fun (_, o, st, q, F) => [rxB g2 0 C4.zero (.slice none 0 0), rxB g3 o.kind o.cls (.slice q.1 q.2.1 q.2.2), rkO F (.slice q.1 q.2.1 q.2.2) o.kids, rdO g s st]) (fun (f, _, _, _, _) => f) (N, o1, st1, (b1, n1, c1), F1) ⟨h, hg1.le, hok1, (by have := hsz1.le; dsimp only at this ⊢; omega)⟩ (by repeat' (first | exact True.intro | refine And.intro rfl ?_)) rfl ?_
  clear h hc1 hg1 hok1 hsz1
  rintro ⟨f, o, st, ⟨b, n, c⟩, F⟩ ⟨i1, i2, hok, i4⟩
  dsimp only at i1 i2 hok i4 ⊢
  cases f with
  | zero => rw [repL] at i1; cases i1
  | succ f =>
  rw [repL] at i1
  by_cases c0 : st.e = 0
  · rw [if_neg (by simpa using c0)] at i1
    repeat(first|refine qv rfl (qp rfl) rfl rfl ?_|refine TL_nil ?_|refine T_seq ?_|refine T_region ?_|refine qcT rfl ?_|refine qcF rfl ?_|refine T_skip ?_|refine T_exit ?_|refine T_ret ?_|refine T_block ?_|refine E_then ?_|refine E_thenX ?_|refine E_thenR ?_|refine E_blockN ?_|refine E_blockR ?_|refine E_blockX ?_|refine E_blockO rfl ?_|refine qv rfl (rr_nilc rfl) rfl rfl ?_|refine qv rfl (rr_load1 (v := .int .i64 st.e) TyC.ty rfl (at_blk (i := 3) rfl rfl)) rfl rfl ?_|refine qv rfl (rr_eql (b := true) rfl rfl (decide_eq_true c0)) rfl rfl ?_|refine qv rfl (qfld FldC.fld rfl rfl) rfl rfl ?_|refine qv rfl (rr_nilc rfl) rfl rfl ?_|refine qv rfl (rr_leq rfl rfl (qT (by omega))) rfl rfl ?_|refine qv rfl (rr_leq rfl rfl (qF (by omega))) rfl rfl ?_|refine qv rfl (rr_eql rfl rfl (qT (by omega))) rfl rfl ?_|refine qv rfl (rr_eql rfl rfl (qF (by omega))) rfl rfl ?_)
    refine TL_callB [3] [0, 1, 2] (by decide) rfl rfl (he2 EntersC.en rfl rfl rfl) (fun w hm hb => rdTake_calls g s st 42 w _ (by omega) hb) rfl rfl rfl ?_
    intro _ _
    conv=>arg 8;simp only[zA,zB,zC,zD,zE,zF,zG,zH,zI,rowS,ret,id_eq]
    rw [show takeS s st 42 = if isB s st 42 = true then st.up else st from rfl]
    cases h42 : isB s st 42 with
    | true =>
      rw [if_pos h42] at i1
      rw [if_pos rfl]
      have hup : st.up.p ≤ s.length := (isB_lt h42).2.1
      repeat(first|refine qv rfl (qp rfl) rfl rfl ?_|refine TL_nil ?_|refine T_seq ?_|refine T_region ?_|refine qcT rfl ?_|refine qcF rfl ?_|refine T_skip ?_|refine T_exit ?_|refine T_ret ?_|refine T_block ?_|refine E_then ?_|refine E_thenX ?_|refine E_thenR ?_|refine E_blockN ?_|refine E_blockR ?_|refine E_blockX ?_|refine E_blockO rfl ?_|refine qv rfl (rr_loadB (i := 1) TyC.ty rfl rfl rfl) rfl rfl ?_|refine qv rfl (qfld FldC.fld rfl rfl) rfl rfl ?_|refine qv rfl (rr_nilc rfl) rfl rfl ?_|refine qv rfl (rr_leq rfl rfl (qT (by omega))) rfl rfl ?_|refine qv rfl (rr_leq rfl rfl (qF (by omega))) rfl rfl ?_|refine qv rfl (rr_eql rfl rfl (qT (by omega))) rfl rfl ?_|refine qv rfl (rr_eql rfl rfl (qF (by omega))) rfl rfl ?_)
      refine TL_one (cs := [rexC o.kind o.cls (.slice b n c)].flatten.toArray) rfl rfl rfl rfl rfl fun gA => ?_
      conv=>arg 8;simp only[zA,zB,zC,zD,zE,zF,zG,zH,zI,rowS,ret,id_eq]
      repeat(first|refine qv rfl (qp rfl) rfl rfl ?_|refine TL_nil ?_|refine T_seq ?_|refine T_region ?_|refine qcT rfl ?_|refine qcF rfl ?_|refine T_skip ?_|refine T_exit ?_|refine T_ret ?_|refine T_block ?_|refine E_then ?_|refine E_thenX ?_|refine E_thenR ?_|refine E_blockN ?_|refine E_blockR ?_|refine E_blockX ?_|refine E_blockO rfl ?_|refine qv rfl (rr_build rfl (build_rexN 6 gA 1)) rfl rfl ?_|refine qv rfl (qfld FldC.fld rfl rfl) rfl rfl ?_|refine qv rfl (rr_nilc rfl) rfl rfl ?_|refine qv rfl (rr_leq rfl rfl (qT (by omega))) rfl rfl ?_|refine qv rfl (rr_leq rfl rfl (qF (by omega))) rfl rfl ?_|refine qv rfl (rr_eql rfl rfl (qT (by omega))) rfl rfl ?_|refine qv rfl (rr_eql rfl rfl (qF (by omega))) rfl rfl ?_)
      refine TL_mk1 (i := 2) (q := 4) (a := o) [0, 1, 3] (by decide) hok rfl rfl rfl ?_
      conv=>arg 8;simp only[zA,zB,zC,zD,zE,zF,zG,zH,zI,rowS,ret,id_eq, List.cons_append, List.nil_append]
      refine TL_storeB (i := 1) (cs' := (rexC 6 C4.zero (.slice (some ⟨gA, 0, none⟩) 1 1)).toArray) rfl rfl rfl rfl rfl rfl ?_
      conv=>arg 8;simp only[zA,zB,zC,zD,zE,zF,zG,zH,zI,rowS,ret,id_eq]
      repeat(first|refine qv rfl (qp rfl) rfl rfl ?_|refine TL_nil ?_|refine T_seq ?_|refine T_region ?_|refine qcT rfl ?_|refine qcF rfl ?_|refine T_skip ?_|refine T_exit ?_|refine T_ret ?_|refine T_block ?_|refine E_then ?_|refine E_thenX ?_|refine E_thenR ?_|refine E_blockN ?_|refine E_blockR ?_|refine E_blockX ?_|refine E_blockO rfl ?_|refine qv rfl (qfld FldC.fld rfl rfl) rfl rfl ?_|refine qv rfl (rr_nilc rfl) rfl rfl ?_|refine qv rfl (rr_leq rfl rfl (qT (by omega))) rfl rfl ?_|refine qv rfl (rr_leq rfl rfl (qF (by omega))) rfl rfl ?_|refine qv rfl (rr_eql rfl rfl (qT (by omega))) rfl rfl ?_|refine qv rfl (rr_eql rfl rfl (qF (by omega))) rfl rfl ?_)
      refine E_pick [0, 1, 3, 2] (by decide) rfl ?_
      exact E_round (f, .mk 6 C4.zero [o], st.up, (some ⟨gA, 0, none⟩, 1, 1), fun k => F k ∨ k = gA) ⟨i1, hup, (by show kit.okI64 6; unfold kit.okI64; omega), (by rw [size_star]; show sizeX o + 1 ≤ 200 * (st.p + 1) + 1; omega)⟩ (by show f < f + 1; omega) (by repeat' (first | exact True.intro | refine And.intro rfl ?_)) rfl
    | false =>
      rw [if_neg (by rw [h42]; decide)] at i1
      rw [if_neg (by decide)]
      repeat(first|refine qv rfl (qp rfl) rfl rfl ?_|refine TL_nil ?_|refine T_seq ?_|refine T_region ?_|refine qcT rfl ?_|refine qcF rfl ?_|refine T_skip ?_|refine T_exit ?_|refine T_ret ?_|refine T_block ?_|refine E_then ?_|refine E_thenX ?_|refine E_thenR ?_|refine E_blockN ?_|refine E_blockR ?_|refine E_blockX ?_|refine E_blockO rfl ?_|refine qv rfl (qfld FldC.fld rfl rfl) rfl rfl ?_|refine qv rfl (rr_nilc rfl) rfl rfl ?_|refine qv rfl (rr_leq rfl rfl (qT (by omega))) rfl rfl ?_|refine qv rfl (rr_leq rfl rfl (qF (by omega))) rfl rfl ?_|refine qv rfl (rr_eql rfl rfl (qT (by omega))) rfl rfl ?_|refine qv rfl (rr_eql rfl rfl (qF (by omega))) rfl rfl ?_)
      refine TL_callB [3] [0, 1, 2] (by decide) rfl rfl (he2 EntersC.en rfl rfl rfl) (fun w hm hb => rdTake_calls g s st 43 w _ (by omega) hb) rfl rfl rfl ?_
      intro _ _
      conv=>arg 8;simp only[zA,zB,zC,zD,zE,zF,zG,zH,zI,rowS,ret,id_eq]
      rw [show takeS s st 43 = if isB s st 43 = true then st.up else st from rfl]
      cases h43 : isB s st 43 with
      | true =>
        rw [if_pos h43] at i1
        rw [if_pos rfl]
        have hup : st.up.p ≤ s.length := (isB_lt h43).2.1
        have hszc := fun w' (h : RexR (Low w') w' (rexV o.kind o.cls (.slice b n c)) o) => rexSize_calls (sizeX o) o (Nat.le_refl _) _ w' (by omega) h
        repeat(first|refine qv rfl (qp rfl) rfl rfl ?_|refine TL_nil ?_|refine T_seq ?_|refine T_region ?_|refine qcT rfl ?_|refine qcF rfl ?_|refine T_skip ?_|refine T_exit ?_|refine T_ret ?_|refine T_block ?_|refine E_then ?_|refine E_thenX ?_|refine E_thenR ?_|refine E_blockN ?_|refine E_blockR ?_|refine E_blockX ?_|refine E_blockO rfl ?_|refine qv rfl (rr_build rfl (build_rexK 2)) rfl rfl ?_|refine qv rfl (qfld FldC.fld rfl rfl) rfl rfl ?_|refine qv rfl (rr_nilc rfl) rfl rfl ?_|refine qv rfl (rr_leq rfl rfl (qT (by omega))) rfl rfl ?_|refine qv rfl (rr_leq rfl rfl (qF (by omega))) rfl rfl ?_|refine qv rfl (rr_eql rfl rfl (qT (by omega))) rfl rfl ?_|refine qv rfl (rr_eql rfl rfl (qF (by omega))) rfl rfl ?_)
        refine TL_new rfl fun g4 => ?_
        conv=>arg 8;simp only[zA,zB,zC,zD,zE,zF,zG,zH,zI,rowS,ret,id_eq]
        refine TL_storeB (i := 4) (cs' := (rexC 2 C4.zero (.slice none 0 0)).toArray) rfl rfl rfl rfl rfl rfl ?_
        conv=>arg 8;simp only[zA,zB,zC,zD,zE,zF,zG,zH,zI,rowS,ret,id_eq]
        repeat(first|refine qv rfl (qp rfl) rfl rfl ?_|refine TL_nil ?_|refine T_seq ?_|refine T_region ?_|refine qcT rfl ?_|refine qcF rfl ?_|refine T_skip ?_|refine T_exit ?_|refine T_ret ?_|refine T_block ?_|refine E_then ?_|refine E_thenX ?_|refine E_thenR ?_|refine E_blockN ?_|refine E_blockR ?_|refine E_blockX ?_|refine E_blockO rfl ?_|refine qv rfl (rr_loadB (i := 1) TyC.ty rfl rfl rfl) rfl rfl ?_|refine qv rfl (qfld FldC.fld rfl rfl) rfl rfl ?_|refine qv rfl (rr_nilc rfl) rfl rfl ?_|refine qv rfl (rr_leq rfl rfl (qT (by omega))) rfl rfl ?_|refine qv rfl (rr_leq rfl rfl (qF (by omega))) rfl rfl ?_|refine qv rfl (rr_eql rfl rfl (qT (by omega))) rfl rfl ?_|refine qv rfl (rr_eql rfl rfl (qF (by omega))) rfl rfl ?_)
        refine TL_call (he1 EntersC.en rfl rfl) (fun w hm => hszc w (rk_rex hok (hm.get (i := 2) rfl))) rfl rfl rfl ?_
        intro _ _
        conv=>arg 8;simp only[zA,zB,zC,zD,zE,zF,zG,zH,zI,rowS,ret,id_eq]
        by_cases c1 : sizeX o ≤ 100
        · have hpx : plusX o = twoX 4 o (.mk 6 C4.zero [o]) := by unfold plusX; rw [if_pos c1]
          have hlen : ∀ l : List Rx, l.length ≤ sizesX l := fun l => by
            induction l with
            | nil => exact Nat.le_refl _
            | cons x l ih => rw [sizesX]; have := sizeX_pos x; simp; omega
          have hso : sizeX o = sizesX o.kids + 1 := by obtain ⟨k, c, l⟩ := o; rfl
          have hl1 := hlen o.kids
          have hcp := fun w' (h : SlF rexS (Low w') w' (.slice b n c) o.kids) => copy_calls (sizeX o) o (Nat.le_refl _) (.slice b n c) w' hok h (by omega) (fun e he => by have := sizesX_mem he; omega)
          clear hlen
          repeat(first|refine qv rfl (qp rfl) rfl rfl ?_|refine TL_nil ?_|refine T_seq ?_|refine T_region ?_|refine qcT rfl ?_|refine qcF rfl ?_|refine T_skip ?_|refine T_exit ?_|refine T_ret ?_|refine T_block ?_|refine E_then ?_|refine E_thenX ?_|refine E_thenR ?_|refine E_blockN ?_|refine E_blockR ?_|refine E_blockX ?_|refine E_blockO rfl ?_|refine qv rfl (rr_leq (b := true) rfl rfl (decide_eq_true (by omega))) rfl rfl ?_|refine qv rfl (rr_loadB (i := 1) TyC.ty rfl rfl rfl) rfl rfl ?_|refine qv rfl (qfld FldC.fld rfl rfl) rfl rfl ?_|refine qv rfl (rr_nilc rfl) rfl rfl ?_|refine qv rfl (rr_leq rfl rfl (qT (by omega))) rfl rfl ?_|refine qv rfl (rr_leq rfl rfl (qF (by omega))) rfl rfl ?_|refine qv rfl (rr_eql rfl rfl (qT (by omega))) rfl rfl ?_|refine qv rfl (rr_eql rfl rfl (qF (by omega))) rfl rfl ?_)
          refine TL_call (he1 EntersC.en rfl rfl) (fun w hm => hcp w (by have := rk_sl (hm.get (i := 2) rfl); exact this.1.mono this.2)) rfl rfl rfl ?_
          rintro ⟨v4, F4⟩ _
          conv=>arg 8;simp only[zA,zB,zC,zD,zE,zF,zG,zH,zI,rowS,ret,id_eq, copySp]
          conv => arg 7; simp only [copySp]
          refine TL_know (i := 5) rfl (fun w h => rkO_form h) fun hv4 => ?_
          obtain ⟨b4, n4, c4, rfl⟩ := hv4
          refine TL_storeB (i := 4) (cs' := (rexC o.kind o.cls (.slice b4 n4 c4)).toArray) rfl rfl rfl rfl rfl rfl ?_
          conv=>arg 8;simp only[zA,zB,zC,zD,zE,zF,zG,zH,zI,rowS,ret,id_eq]
          repeat(first|refine qv rfl (qp rfl) rfl rfl ?_|refine TL_nil ?_|refine T_seq ?_|refine T_region ?_|refine qcT rfl ?_|refine qcF rfl ?_|refine T_skip ?_|refine T_exit ?_|refine T_ret ?_|refine T_block ?_|refine E_then ?_|refine E_thenX ?_|refine E_thenR ?_|refine E_blockN ?_|refine E_blockR ?_|refine E_blockX ?_|refine E_blockO rfl ?_|refine qv rfl (qfld FldC.fld rfl rfl) rfl rfl ?_|refine qv rfl (rr_nilc rfl) rfl rfl ?_|refine qv rfl (rr_leq rfl rfl (qT (by omega))) rfl rfl ?_|refine qv rfl (rr_leq rfl rfl (qF (by omega))) rfl rfl ?_|refine qv rfl (rr_eql rfl rfl (qT (by omega))) rfl rfl ?_|refine qv rfl (rr_eql rfl rfl (qF (by omega))) rfl rfl ?_)
          repeat(first|refine qv rfl (qp rfl) rfl rfl ?_|refine TL_nil ?_|refine T_seq ?_|refine T_region ?_|refine qcT rfl ?_|refine qcF rfl ?_|refine T_skip ?_|refine T_exit ?_|refine T_ret ?_|refine T_block ?_|refine E_then ?_|refine E_thenX ?_|refine E_thenR ?_|refine E_blockN ?_|refine E_blockR ?_|refine E_blockX ?_|refine E_blockO rfl ?_|refine qv rfl (rr_loadB (i := 1) TyC.ty rfl rfl rfl) rfl rfl ?_|refine qv rfl (rr_loadB (i := 4) TyC.ty rfl rfl rfl) rfl rfl ?_|refine qv rfl (qfld FldC.fld rfl rfl) rfl rfl ?_|refine qv rfl (rr_nilc rfl) rfl rfl ?_|refine qv rfl (rr_leq rfl rfl (qT (by omega))) rfl rfl ?_|refine qv rfl (rr_leq rfl rfl (qF (by omega))) rfl rfl ?_|refine qv rfl (rr_eql rfl rfl (qT (by omega))) rfl rfl ?_|refine qv rfl (rr_eql rfl rfl (qF (by omega))) rfl rfl ?_)
          refine TL_one (cs := [rexC o.kind o.cls (.slice b4 n4 c4)].flatten.toArray) rfl rfl rfl rfl rfl fun gA => ?_
          conv=>arg 8;simp only[zA,zB,zC,zD,zE,zF,zG,zH,zI,rowS,ret,id_eq]
          repeat(first|refine qv rfl (qp rfl) rfl rfl ?_|refine TL_nil ?_|refine T_seq ?_|refine T_region ?_|refine qcT rfl ?_|refine qcF rfl ?_|refine T_skip ?_|refine T_exit ?_|refine T_ret ?_|refine T_block ?_|refine E_then ?_|refine E_thenX ?_|refine E_thenR ?_|refine E_blockN ?_|refine E_blockR ?_|refine E_blockX ?_|refine E_blockO rfl ?_|refine qv rfl (rr_build rfl (build_rexN 6 gA 1)) rfl rfl ?_|refine qv rfl (qfld FldC.fld rfl rfl) rfl rfl ?_|refine qv rfl (rr_nilc rfl) rfl rfl ?_|refine qv rfl (rr_leq rfl rfl (qT (by omega))) rfl rfl ?_|refine qv rfl (rr_leq rfl rfl (qF (by omega))) rfl rfl ?_|refine qv rfl (rr_eql rfl rfl (qT (by omega))) rfl rfl ?_|refine qv rfl (rr_eql rfl rfl (qF (by omega))) rfl rfl ?_)
          refine TL_call (he3 EntersC.en rfl rfl rfl rfl) (fun w' hm => rexTwo_calls 4 o.kind 6 o.cls C4.zero b (some ⟨gA, 0, none⟩) n 1 c 1 w') rfl rfl rfl ?_
          intro gB _
          conv=>arg 8;simp only[zA,zB,zC,zD,zE,zF,zG,zH,zI,rowS,ret,id_eq, twoS]
          conv => arg 7; simp only [twoS]
          refine TL_mk1 (i := 5) (q := 6) (a := o) [0, 1, 2, 3, 4, 7] (by decide) hok rfl rfl rfl ?_
          conv=>arg 8;simp only[zA,zB,zC,zD,zE,zF,zG,zH,zI,rowS,ret,id_eq, List.cons_append, List.nil_append]
          refine TL_mk2 (i := 2) (j := 6) (q := 5) (a := o) (b := .mk 6 C4.zero [o]) [0, 1, 3, 4] (by decide) hok (by show kit.okI64 6; unfold kit.okI64; omega) rfl rfl rfl rfl ?_
          conv=>arg 8;simp only[zA,zB,zC,zD,zE,zF,zG,zH,zI,rowS,ret,id_eq, List.cons_append, List.nil_append]
          refine TL_storeB (i := 1) (cs' := (rexC 4 C4.zero (.slice (some ⟨gB, 0, none⟩) 2 2)).toArray) rfl rfl rfl rfl rfl rfl ?_
          conv=>arg 8;simp only[zA,zB,zC,zD,zE,zF,zG,zH,zI,rowS,ret,id_eq]
          repeat(first|refine qv rfl (qp rfl) rfl rfl ?_|refine TL_nil ?_|refine T_seq ?_|refine T_region ?_|refine qcT rfl ?_|refine qcF rfl ?_|refine T_skip ?_|refine T_exit ?_|refine T_ret ?_|refine T_block ?_|refine E_then ?_|refine E_thenX ?_|refine E_thenR ?_|refine E_blockN ?_|refine E_blockR ?_|refine E_blockX ?_|refine E_blockO rfl ?_|refine qv rfl (qfld FldC.fld rfl rfl) rfl rfl ?_|refine qv rfl (rr_nilc rfl) rfl rfl ?_|refine qv rfl (rr_leq rfl rfl (qT (by omega))) rfl rfl ?_|refine qv rfl (rr_leq rfl rfl (qF (by omega))) rfl rfl ?_|refine qv rfl (rr_eql rfl rfl (qT (by omega))) rfl rfl ?_|refine qv rfl (rr_eql rfl rfl (qF (by omega))) rfl rfl ?_)
          refine E_pick [0, 1, 4, 2] (by decide) rfl ?_
          exact E_round (f, plusX o, st.up, (some ⟨gB, 0, none⟩, 2, 2), _) ⟨i1, hup, (by show kit.okI64 4; unfold kit.okI64; omega), (by have := size_plus o; show sizeX (plusX o) ≤ 200 * (st.p + 1) + 1; omega)⟩ (by show f < f + 1; omega) (by repeat' (first | exact True.intro | refine And.intro rfl ?_)) (by dsimp only; rw [hpx]; rfl)
        · have hpx : plusX o = twoX 4 o (.mk 6 C4.zero [.mk 2 C4.zero []]) := by unfold plusX; rw [if_neg c1]
          refine TL_extra (rkO (fun _ => False) (.slice none 0 0) []) (fun k hk => rk_foot hk) (fun w => rk_nil w) ?_
          conv=>arg 8;simp only[zA,zB,zC,zD,zE,zF,zG,zH,zI,rowS,ret,id_eq]
          repeat(first|refine qv rfl (qp rfl) rfl rfl ?_|refine TL_nil ?_|refine T_seq ?_|refine T_region ?_|refine qcT rfl ?_|refine qcF rfl ?_|refine T_skip ?_|refine T_exit ?_|refine T_ret ?_|refine T_block ?_|refine E_then ?_|refine E_thenX ?_|refine E_thenR ?_|refine E_blockN ?_|refine E_blockR ?_|refine E_blockX ?_|refine E_blockO rfl ?_|refine qv rfl (rr_leq (b := false) rfl rfl (decide_eq_false (by omega))) rfl rfl ?_|refine qv rfl (qfld FldC.fld rfl rfl) rfl rfl ?_|refine qv rfl (rr_nilc rfl) rfl rfl ?_|refine qv rfl (rr_leq rfl rfl (qT (by omega))) rfl rfl ?_|refine qv rfl (rr_leq rfl rfl (qF (by omega))) rfl rfl ?_|refine qv rfl (rr_eql rfl rfl (qT (by omega))) rfl rfl ?_|refine qv rfl (rr_eql rfl rfl (qF (by omega))) rfl rfl ?_)
          repeat(first|refine qv rfl (qp rfl) rfl rfl ?_|refine TL_nil ?_|refine T_seq ?_|refine T_region ?_|refine qcT rfl ?_|refine qcF rfl ?_|refine T_skip ?_|refine T_exit ?_|refine T_ret ?_|refine T_block ?_|refine E_then ?_|refine E_thenX ?_|refine E_thenR ?_|refine E_blockN ?_|refine E_blockR ?_|refine E_blockX ?_|refine E_blockO rfl ?_|refine qv rfl (rr_loadB (i := 1) TyC.ty rfl rfl rfl) rfl rfl ?_|refine qv rfl (rr_loadB (i := 4) TyC.ty rfl rfl rfl) rfl rfl ?_|refine qv rfl (qfld FldC.fld rfl rfl) rfl rfl ?_|refine qv rfl (rr_nilc rfl) rfl rfl ?_|refine qv rfl (rr_leq rfl rfl (qT (by omega))) rfl rfl ?_|refine qv rfl (rr_leq rfl rfl (qF (by omega))) rfl rfl ?_|refine qv rfl (rr_eql rfl rfl (qT (by omega))) rfl rfl ?_|refine qv rfl (rr_eql rfl rfl (qF (by omega))) rfl rfl ?_)
          refine TL_one (cs := [rexC 2 C4.zero (.slice none 0 0)].flatten.toArray) rfl rfl rfl rfl rfl fun gA => ?_
          conv=>arg 8;simp only[zA,zB,zC,zD,zE,zF,zG,zH,zI,rowS,ret,id_eq]
          repeat(first|refine qv rfl (qp rfl) rfl rfl ?_|refine TL_nil ?_|refine T_seq ?_|refine T_region ?_|refine qcT rfl ?_|refine qcF rfl ?_|refine T_skip ?_|refine T_exit ?_|refine T_ret ?_|refine T_block ?_|refine E_then ?_|refine E_thenX ?_|refine E_thenR ?_|refine E_blockN ?_|refine E_blockR ?_|refine E_blockX ?_|refine E_blockO rfl ?_|refine qv rfl (rr_build rfl (build_rexN 6 gA 1)) rfl rfl ?_|refine qv rfl (qfld FldC.fld rfl rfl) rfl rfl ?_|refine qv rfl (rr_nilc rfl) rfl rfl ?_|refine qv rfl (rr_leq rfl rfl (qT (by omega))) rfl rfl ?_|refine qv rfl (rr_leq rfl rfl (qF (by omega))) rfl rfl ?_|refine qv rfl (rr_eql rfl rfl (qT (by omega))) rfl rfl ?_|refine qv rfl (rr_eql rfl rfl (qF (by omega))) rfl rfl ?_)
          refine TL_call (he3 EntersC.en rfl rfl rfl rfl) (fun w' hm => rexTwo_calls 4 o.kind 6 o.cls C4.zero b (some ⟨gA, 0, none⟩) n 1 c 1 w') rfl rfl rfl ?_
          intro gB _
          conv=>arg 8;simp only[zA,zB,zC,zD,zE,zF,zG,zH,zI,rowS,ret,id_eq, twoS]
          conv => arg 7; simp only [twoS]
          refine TL_mk1 (i := 5) (q := 6) (a := .mk 2 C4.zero []) [0, 1, 2, 3, 4, 7] (by decide) (by show kit.okI64 2; unfold kit.okI64; omega) rfl rfl rfl ?_
          conv=>arg 8;simp only[zA,zB,zC,zD,zE,zF,zG,zH,zI,rowS,ret,id_eq, List.cons_append, List.nil_append]
          refine TL_mk2 (i := 2) (j := 6) (q := 5) (a := o) (b := .mk 6 C4.zero [.mk 2 C4.zero []]) [0, 1, 3, 4] (by decide) hok (by show kit.okI64 6; unfold kit.okI64; omega) rfl rfl rfl rfl ?_
          conv=>arg 8;simp only[zA,zB,zC,zD,zE,zF,zG,zH,zI,rowS,ret,id_eq, List.cons_append, List.nil_append]
          refine TL_storeB (i := 1) (cs' := (rexC 4 C4.zero (.slice (some ⟨gB, 0, none⟩) 2 2)).toArray) rfl rfl rfl rfl rfl rfl ?_
          conv=>arg 8;simp only[zA,zB,zC,zD,zE,zF,zG,zH,zI,rowS,ret,id_eq]
          repeat(first|refine qv rfl (qp rfl) rfl rfl ?_|refine TL_nil ?_|refine T_seq ?_|refine T_region ?_|refine qcT rfl ?_|refine qcF rfl ?_|refine T_skip ?_|refine T_exit ?_|refine T_ret ?_|refine T_block ?_|refine E_then ?_|refine E_thenX ?_|refine E_thenR ?_|refine E_blockN ?_|refine E_blockR ?_|refine E_blockX ?_|refine E_blockO rfl ?_|refine qv rfl (qfld FldC.fld rfl rfl) rfl rfl ?_|refine qv rfl (rr_nilc rfl) rfl rfl ?_|refine qv rfl (rr_leq rfl rfl (qT (by omega))) rfl rfl ?_|refine qv rfl (rr_leq rfl rfl (qF (by omega))) rfl rfl ?_|refine qv rfl (rr_eql rfl rfl (qT (by omega))) rfl rfl ?_|refine qv rfl (rr_eql rfl rfl (qF (by omega))) rfl rfl ?_)
          refine E_pick [0, 1, 4, 2] (by decide) rfl ?_
          exact E_round (f, plusX o, st.up, (some ⟨gB, 0, none⟩, 2, 2), _) ⟨i1, hup, (by show kit.okI64 4; unfold kit.okI64; omega), (by have := size_plus o; show sizeX (plusX o) ≤ 200 * (st.p + 1) + 1; omega)⟩ (by show f < f + 1; omega) (by repeat' (first | exact True.intro | refine And.intro rfl ?_)) (by dsimp only; rw [hpx]; rfl)
      | false =>
        rw [if_neg (by rw [h43]; decide)] at i1
        rw [if_neg (by decide)]
        repeat(first|refine qv rfl (qp rfl) rfl rfl ?_|refine TL_nil ?_|refine T_seq ?_|refine T_region ?_|refine qcT rfl ?_|refine qcF rfl ?_|refine T_skip ?_|refine T_exit ?_|refine T_ret ?_|refine T_block ?_|refine E_then ?_|refine E_thenX ?_|refine E_thenR ?_|refine E_blockN ?_|refine E_blockR ?_|refine E_blockX ?_|refine E_blockO rfl ?_|refine qv rfl (qfld FldC.fld rfl rfl) rfl rfl ?_|refine qv rfl (rr_nilc rfl) rfl rfl ?_|refine qv rfl (rr_leq rfl rfl (qT (by omega))) rfl rfl ?_|refine qv rfl (rr_leq rfl rfl (qF (by omega))) rfl rfl ?_|refine qv rfl (rr_eql rfl rfl (qT (by omega))) rfl rfl ?_|refine qv rfl (rr_eql rfl rfl (qF (by omega))) rfl rfl ?_)
        refine TL_callB [3] [0, 1, 2] (by decide) rfl rfl (he2 EntersC.en rfl rfl rfl) (fun w hm hb => rdTake_calls g s st 63 w _ (by omega) hb) rfl rfl rfl ?_
        intro _ _
        conv=>arg 8;simp only[zA,zB,zC,zD,zE,zF,zG,zH,zI,rowS,ret,id_eq]
        rw [show takeS s st 63 = if isB s st 63 = true then st.up else st from rfl]
        cases h63 : isB s st 63 with
        | true =>
          rw [if_pos h63] at i1
          rw [if_pos rfl]
          have hup : st.up.p ≤ s.length := (isB_lt h63).2.1
          refine TL_extra (rkO (fun _ => False) (.slice none 0 0) []) (fun k hk => rk_foot hk) (fun w => rk_nil w) ?_
          repeat(first|refine qv rfl (qp rfl) rfl rfl ?_|refine TL_nil ?_|refine T_seq ?_|refine T_region ?_|refine qcT rfl ?_|refine qcF rfl ?_|refine T_skip ?_|refine T_exit ?_|refine T_ret ?_|refine T_block ?_|refine E_then ?_|refine E_thenX ?_|refine E_thenR ?_|refine E_blockN ?_|refine E_blockR ?_|refine E_blockX ?_|refine E_blockO rfl ?_|refine qv rfl (rr_loadB (i := 1) TyC.ty rfl rfl rfl) rfl rfl ?_|refine qv rfl (rr_build rfl (build_rexK 2)) rfl rfl ?_|refine qv rfl (qfld FldC.fld rfl rfl) rfl rfl ?_|refine qv rfl (rr_nilc rfl) rfl rfl ?_|refine qv rfl (rr_leq rfl rfl (qT (by omega))) rfl rfl ?_|refine qv rfl (rr_leq rfl rfl (qF (by omega))) rfl rfl ?_|refine qv rfl (rr_eql rfl rfl (qT (by omega))) rfl rfl ?_|refine qv rfl (rr_eql rfl rfl (qF (by omega))) rfl rfl ?_)
          refine TL_call (he3 EntersC.en rfl rfl rfl rfl) (fun w' hm => rexTwo_calls 5 o.kind 2 o.cls C4.zero b none n 0 c 0 w') rfl rfl rfl ?_
          intro gB _
          conv=>arg 8;simp only[zA,zB,zC,zD,zE,zF,zG,zH,zI,rowS,ret,id_eq, twoS]
          conv => arg 7; simp only [twoS]
          refine TL_mk2 (i := 2) (j := 4) (q := 5) (a := o) (b := .mk 2 C4.zero []) [0, 1, 3] (by decide) hok (by show kit.okI64 2; unfold kit.okI64; omega) rfl rfl rfl rfl ?_
          conv=>arg 8;simp only[zA,zB,zC,zD,zE,zF,zG,zH,zI,rowS,ret,id_eq, List.cons_append, List.nil_append]
          refine TL_storeB (i := 1) (cs' := (rexC 5 C4.zero (.slice (some ⟨gB, 0, none⟩) 2 2)).toArray) rfl rfl rfl rfl rfl rfl ?_
          conv=>arg 8;simp only[zA,zB,zC,zD,zE,zF,zG,zH,zI,rowS,ret,id_eq]
          repeat(first|refine qv rfl (qp rfl) rfl rfl ?_|refine TL_nil ?_|refine T_seq ?_|refine T_region ?_|refine qcT rfl ?_|refine qcF rfl ?_|refine T_skip ?_|refine T_exit ?_|refine T_ret ?_|refine T_block ?_|refine E_then ?_|refine E_thenX ?_|refine E_thenR ?_|refine E_blockN ?_|refine E_blockR ?_|refine E_blockX ?_|refine E_blockO rfl ?_|refine qv rfl (qfld FldC.fld rfl rfl) rfl rfl ?_|refine qv rfl (rr_nilc rfl) rfl rfl ?_|refine qv rfl (rr_leq rfl rfl (qT (by omega))) rfl rfl ?_|refine qv rfl (rr_leq rfl rfl (qF (by omega))) rfl rfl ?_|refine qv rfl (rr_eql rfl rfl (qT (by omega))) rfl rfl ?_|refine qv rfl (rr_eql rfl rfl (qF (by omega))) rfl rfl ?_)
          refine E_pick [0, 1, 3, 2] (by decide) rfl ?_
          exact E_round (f, twoX 5 o (.mk 2 C4.zero []), st.up, (some ⟨gB, 0, none⟩, 2, 2), _) ⟨i1, hup, (by show kit.okI64 5; unfold kit.okI64; omega), (by rw [size_two, size_one]; show _ ≤ 200 * (st.p + 1) + 1; omega)⟩ (by show f < f + 1; omega) (by repeat' (first | exact True.intro | refine And.intro rfl ?_)) rfl
        | false =>
          rw [if_neg (by rw [h63]; decide)] at i1
          cases i1
          rw [if_neg (by decide)]
          repeat(first|refine qv rfl (qp rfl) rfl rfl ?_|refine TL_nil ?_|refine T_seq ?_|refine T_region ?_|refine qcT rfl ?_|refine qcF rfl ?_|refine T_skip ?_|refine T_exit ?_|refine T_ret ?_|refine T_block ?_|refine E_then ?_|refine E_thenX ?_|refine E_thenR ?_|refine E_blockN ?_|refine E_blockR ?_|refine E_blockX ?_|refine E_blockO rfl ?_|refine qv rfl (rr_loadB (i := 1) TyC.ty rfl rfl rfl) rfl rfl ?_|refine qv rfl (qfld FldC.fld rfl rfl) rfl rfl ?_|refine qv rfl (rr_nilc rfl) rfl rfl ?_|refine qv rfl (rr_leq rfl rfl (qT (by omega))) rfl rfl ?_|refine qv rfl (rr_leq rfl rfl (qF (by omega))) rfl rfl ?_|refine qv rfl (rr_eql rfl rfl (qT (by omega))) rfl rfl ?_|refine qv rfl (rr_eql rfl rfl (qF (by omega))) rfl rfl ?_)
          refine TL_storeB (i := 0) (cs' := (rexC o.kind o.cls (.slice b n c)).toArray) rfl rfl rfl rfl rfl rfl ?_
          conv=>arg 8;simp only[zA,zB,zC,zD,zE,zF,zG,zH,zI,rowS,ret,id_eq]
          repeat(first|refine qv rfl (qp rfl) rfl rfl ?_|refine TL_nil ?_|refine T_seq ?_|refine T_region ?_|refine qcT rfl ?_|refine qcF rfl ?_|refine T_skip ?_|refine T_exit ?_|refine T_ret ?_|refine T_block ?_|refine E_then ?_|refine E_thenX ?_|refine E_thenR ?_|refine E_blockN ?_|refine E_blockR ?_|refine E_blockX ?_|refine E_blockO rfl ?_|refine qv rfl (qfld FldC.fld rfl rfl) rfl rfl ?_|refine qv rfl (rr_nilc rfl) rfl rfl ?_|refine qv rfl (rr_leq rfl rfl (qT (by omega))) rfl rfl ?_|refine qv rfl (rr_leq rfl rfl (qF (by omega))) rfl rfl ?_|refine qv rfl (rr_eql rfl rfl (qT (by omega))) rfl rfl ?_|refine qv rfl (rr_eql rfl rfl (qF (by omega))) rfl rfl ?_)
          exact E_retc1 (i := 0) rfl rfl rfl rfl fun w hm => hm.meetsB (S := rxSp g s (o, st)) (.slice b n c, F) hok [2, 3] (by decide) rfl
  · rw [if_pos c0] at i1
    cases i1
    repeat(first|refine qv rfl (qp rfl) rfl rfl ?_|refine TL_nil ?_|refine T_seq ?_|refine T_region ?_|refine qcT rfl ?_|refine qcF rfl ?_|refine T_skip ?_|refine T_exit ?_|refine T_ret ?_|refine T_block ?_|refine E_then ?_|refine E_thenX ?_|refine E_thenR ?_|refine E_blockN ?_|refine E_blockR ?_|refine E_blockX ?_|refine E_blockO rfl ?_|refine qv rfl (rr_nilc rfl) rfl rfl ?_|refine qv rfl (rr_load1 (v := .int .i64 st.e) TyC.ty rfl (at_blk (i := 3) rfl rfl)) rfl rfl ?_|refine qv rfl (rr_eql (b := false) rfl rfl (decide_eq_false c0)) rfl rfl ?_|refine qv rfl (rr_loadB (i := 1) TyC.ty rfl rfl rfl) rfl rfl ?_|refine qv rfl (qfld FldC.fld rfl rfl) rfl rfl ?_|refine qv rfl (rr_nilc rfl) rfl rfl ?_|refine qv rfl (rr_leq rfl rfl (qT (by omega))) rfl rfl ?_|refine qv rfl (rr_leq rfl rfl (qF (by omega))) rfl rfl ?_|refine qv rfl (rr_eql rfl rfl (qT (by omega))) rfl rfl ?_|refine qv rfl (rr_eql rfl rfl (qF (by omega))) rfl rfl ?_)
    refine TL_storeB (i := 0) (cs' := (rexC o.kind o.cls (.slice b n c)).toArray) rfl rfl rfl rfl rfl rfl ?_
    conv=>arg 8;simp only[zA,zB,zC,zD,zE,zF,zG,zH,zI,rowS,ret,id_eq]
    repeat(first|refine qv rfl (qp rfl) rfl rfl ?_|refine TL_nil ?_|refine T_seq ?_|refine T_region ?_|refine qcT rfl ?_|refine qcF rfl ?_|refine T_skip ?_|refine T_exit ?_|refine T_ret ?_|refine T_block ?_|refine E_then ?_|refine E_thenX ?_|refine E_thenR ?_|refine E_blockN ?_|refine E_blockR ?_|refine E_blockX ?_|refine E_blockO rfl ?_|refine qv rfl (qfld FldC.fld rfl rfl) rfl rfl ?_|refine qv rfl (rr_nilc rfl) rfl rfl ?_|refine qv rfl (rr_leq rfl rfl (qT (by omega))) rfl rfl ?_|refine qv rfl (rr_leq rfl rfl (qF (by omega))) rfl rfl ?_|refine qv rfl (rr_eql rfl rfl (qT (by omega))) rfl rfl ?_|refine qv rfl (rr_eql rfl rfl (qF (by omega))) rfl rfl ?_)
    exact E_retc1 (i := 0) rfl rfl rfl rfl fun w hm => hm.meetsB (S := rxSp g s (o, st)) (.slice b n c, F) hok [2, 3] (by decide) rfl
end Go.Proofs.YtakiohldgcifeaaDoor.eng


/- RexO3 -/
namespace Go.Proofs.YtakiohldgcifeaaDoor.eng
open Go.RowKit kit mix classL rexL classSets
set_option maxRecDepth 100000 in
set_option maxHeartbeats 8000000 in
theorem rdAtom (g : Nat) (s : Txt) (hs : s.length ≤ 300) (N : Nat) (IH : ∀ f, f < N → RdAt g s f) {st : RS} {R : Rx × RS} {w : World} {B : Base} (h : atomF s N st = some R) (hp : st.p ≤ s.length) (he : st.e = 0) (ho : st.o ≤ 30) (hm : Mem B [rdO g s st] w) :
    Calls Tryd.prog 73 #[.pointer (some ⟨g, 0, none⟩)] w (MeetsB (rxSp g s R) B) := by
  cases N with
  | zero => rw [atomF] at h; cases h
  | succ N =>
  rw [atomF] at h
  have hz : rexC 0 C4.zero (.slice none 0 0) = rexC 0 C4.zero (.slice none 0 0) := rfl
  refine enterB hm (args := [.pointer (some ⟨g, 0, none⟩)]) (n := 31) Tryd.func73 rfl rfl rfl ?_
  clear hm hz
  refine T_seq (T_region (TL_new rfl fun g2 => ?_))
  conv=>arg 8;simp only[zA,zB,zC,zD,zE,zF,zG,zH,zI,rowS,ret,id_eq]
  refine TL_pick [1, 0] (by decide) rfl ?_
  repeat(first|refine qv rfl (qp rfl) rfl rfl ?_|refine TL_nil ?_|refine T_seq ?_|refine T_region ?_|refine qcT rfl ?_|refine qcF rfl ?_|refine T_skip ?_|refine T_ret ?_|refine T_block ?_|refine E_then ?_|refine E_thenR ?_|refine E_blockN ?_|refine E_blockR ?_)
  refine TL_call (he2 EntersC.en rfl rfl rfl) (fun w hm => rdIs_calls g s st 40 w (hm.get (i := 1) rfl)) rfl rfl rfl ?_
  intro _ _
  conv=>arg 8;simp only[zA,zB,zC,zD,zE,zF,zG,zH,zI,rowS,ret,id_eq]
  cases h40 : isB s st 40 with
  | true =>
    rw [if_pos h40] at h
    repeat(first|refine qv rfl (qp rfl) rfl rfl ?_|refine TL_nil ?_|refine T_seq ?_|refine T_region ?_|refine qcT rfl ?_|refine qcF rfl ?_|refine T_skip ?_|refine T_ret ?_|refine T_block ?_|refine E_then ?_|refine E_thenR ?_|refine E_blockN ?_|refine E_blockR ?_)
    refine TL_callB [1] [0] (by decide) rfl rfl (he1 EntersC.en rfl rfl) (fun w hm hb => (IH N (by omega)).br h (isB_lt h40).2.1 he ho hb) rfl rfl rfl ?_
    rintro ⟨v1, F1⟩ hok1
    obtain ⟨o, st1⟩ := R
    conv=>arg 8;simp only[zA,zB,zC,zD,zE,zF,zG,zH,zI,rowS,ret,id_eq, rxSp]
    conv => arg 7; simp only [rxSp]
    refine TL_know (i := 1) rfl (fun w h => rkO_form h) fun hv1 => ?_
    obtain ⟨b1, n1, c1, rfl⟩ := hv1
    refine TL_storeB (i := 0) (cs' := (rexC o.kind o.cls (.slice b1 n1 c1)).toArray) rfl rfl rfl rfl rfl rfl ?_
    conv=>arg 8;simp only[zA,zB,zC,zD,zE,zF,zG,zH,zI,rowS,ret,id_eq]
    repeat(first|refine qv rfl (qp rfl) rfl rfl ?_|refine TL_nil ?_|refine T_seq ?_|refine T_region ?_|refine qcT rfl ?_|refine qcF rfl ?_|refine T_skip ?_|refine T_ret ?_|refine T_block ?_|refine E_then ?_|refine E_thenR ?_|refine E_blockN ?_|refine E_blockR ?_)
    exact E_retc1 (i := 0) rfl rfl rfl rfl fun w hm => hm.meetsB (S := rxSp g s (o, st1)) (.slice b1 n1 c1, F1) hok1 [1, 2] (by decide) rfl
  | false =>
    rw [if_neg (by rw [h40]; decide)] at h
    repeat(first|refine qv rfl (qp rfl) rfl rfl ?_|refine TL_nil ?_|refine T_seq ?_|refine T_region ?_|refine qcT rfl ?_|refine qcF rfl ?_|refine T_skip ?_|refine T_ret ?_|refine T_block ?_|refine E_then ?_|refine E_thenR ?_|refine E_blockN ?_|refine E_blockR ?_)
    refine TL_callB [1] [0] (by decide) rfl rfl (he2 EntersC.en rfl rfl rfl) (fun w hm hb => rdTake_calls g s st 91 w _ (by omega) hb) rfl rfl rfl ?_
    intro _ _
    conv=>arg 8;simp only[zA,zB,zC,zD,zE,zF,zG,zH,zI,rowS,ret,id_eq]
    rw [show takeS s st 91 = if isB s st 91 = true then RS.up st else st from rfl]
    cases h91 : isB s st 91 with
    | true =>
      rw [if_pos h91] at h
      rw [if_pos rfl]
      have hup : st.up.p ≤ s.length := (isB_lt h91).2.1
      repeat(first|refine qv rfl (qp rfl) rfl rfl ?_|refine TL_nil ?_|refine T_seq ?_|refine T_region ?_|refine qcT rfl ?_|refine qcF rfl ?_|refine T_skip ?_|refine T_ret ?_|refine T_block ?_|refine E_then ?_|refine E_thenR ?_|refine E_blockN ?_|refine E_blockR ?_)
      refine TL_callB [1] [0] (by decide) rfl rfl (he2 EntersC.en rfl rfl rfl) (fun w hm hb => rdTake_calls g s st.up 93 w _ (by omega) hb) rfl rfl rfl ?_
      intro _ _
      conv=>arg 8;simp only[zA,zB,zC,zD,zE,zF,zG,zH,zI,rowS,ret,id_eq]
      rw [show takeS s st.up 93 = if isB s st.up 93 = true then RS.up st.up else st.up from rfl]
      cases h93 : isB s st.up 93 with
      | true =>
        rw [if_pos h93] at h
        rw [if_pos rfl]
        cases h
        repeat(first|refine qv rfl (qp rfl) rfl rfl ?_|refine TL_nil ?_|refine T_seq ?_|refine T_region ?_|refine qcT rfl ?_|refine qcF rfl ?_|refine T_skip ?_|refine T_ret ?_|refine T_block ?_|refine E_then ?_|refine E_thenR ?_|refine E_blockN ?_|refine E_blockR ?_|refine qv rfl (rr_build rfl (build_rexK 1)) rfl rfl ?_)
        refine TL_storeB (i := 0) (cs' := (rexC 1 C4.zero (.slice none 0 0)).toArray) rfl rfl rfl rfl rfl rfl ?_
        conv=>arg 8;simp only[zA,zB,zC,zD,zE,zF,zG,zH,zI,rowS,ret,id_eq]
        refine TL_extra (rkO (fun _ => False) (.slice none 0 0) []) (fun k hk => rk_foot hk) (fun w => rk_nil w) ?_
        conv=>arg 8;simp only[zA,zB,zC,zD,zE,zF,zG,zH,zI,rowS,ret,id_eq]
        repeat(first|refine qv rfl (qp rfl) rfl rfl ?_|refine TL_nil ?_|refine T_seq ?_|refine T_region ?_|refine qcT rfl ?_|refine qcF rfl ?_|refine T_skip ?_|refine T_ret ?_|refine T_block ?_|refine E_then ?_|refine E_thenR ?_|refine E_blockN ?_|refine E_blockR ?_)
        exact E_retc1 (i := 0) rfl rfl rfl rfl fun w hm => hm.meetsB (S := rxSp g s (.mk 1 C4.zero [], st.up.up)) (.slice none 0 0, fun _ => False) (by show kit.okI64 1; unfold kit.okI64; omega) [2, 1] (by decide) rfl
      | false =>
        rw [if_neg (by rw [h93]; decide)] at h
        rw [if_neg (by decide)]
        cases hc : classS s N st.up with
        | none => rw [hc] at h; cases h
        | some X =>
        rw [hc] at h
        obtain ⟨c, st1⟩ := X
        cases h
        repeat(first|refine qv rfl (qp rfl) rfl rfl ?_|refine TL_nil ?_|refine T_seq ?_|refine T_region ?_|refine qcT rfl ?_|refine qcF rfl ?_|refine T_skip ?_|refine T_ret ?_|refine T_block ?_|refine E_then ?_|refine E_thenR ?_|refine E_blockN ?_|refine E_blockR ?_)
        refine TL_callB [1] [0] (by decide) rfl rfl (he1 EntersC.en rfl rfl) (fun w hm hb => rdClass_calls g s N st.up (c, st1) hc w _ (by omega) hup hb) rfl rfl rfl ?_
        intro _ _
        conv=>arg 8;simp only[zA,zB,zC,zD,zE,zF,zG,zH,zI,rowS,ret,id_eq, clsSp]
        conv => arg 7; simp only [clsSp]
        repeat(first|refine qv rfl (qp rfl) rfl rfl ?_|refine TL_nil ?_|refine T_seq ?_|refine T_region ?_|refine qcT rfl ?_|refine qcF rfl ?_|refine T_skip ?_|refine T_ret ?_|refine T_block ?_|refine E_then ?_|refine E_thenR ?_|refine E_blockN ?_|refine E_blockR ?_|refine qv rfl (rr_build rfl (build_rexL c)) rfl rfl ?_)
        refine TL_storeB (i := 0) (cs' := (rexC 3 c (.slice none 0 0)).toArray) rfl rfl rfl rfl rfl rfl ?_
        conv=>arg 8;simp only[zA,zB,zC,zD,zE,zF,zG,zH,zI,rowS,ret,id_eq]
        refine TL_extra (rkO (fun _ => False) (.slice none 0 0) []) (fun k hk => rk_foot hk) (fun w => rk_nil w) ?_
        conv=>arg 8;simp only[zA,zB,zC,zD,zE,zF,zG,zH,zI,rowS,ret,id_eq]
        repeat(first|refine qv rfl (qp rfl) rfl rfl ?_|refine TL_nil ?_|refine T_seq ?_|refine T_region ?_|refine qcT rfl ?_|refine qcF rfl ?_|refine T_skip ?_|refine T_ret ?_|refine T_block ?_|refine E_then ?_|refine E_thenR ?_|refine E_blockN ?_|refine E_blockR ?_)
        exact E_retc1 (i := 0) rfl rfl rfl rfl fun w hm => hm.meetsB (S := rxSp g s (.mk 3 c [], st1)) (.slice none 0 0, fun _ => False) (by show kit.okI64 3; unfold kit.okI64; omega) [2, 1] (by decide) rfl
    | false =>
      rw [if_neg (by rw [h91]; decide)] at h
      rw [if_neg (by decide)]
      repeat(first|refine qv rfl (qp rfl) rfl rfl ?_|refine TL_nil ?_|refine T_seq ?_|refine T_region ?_|refine qcT rfl ?_|refine qcF rfl ?_|refine T_skip ?_|refine T_ret ?_|refine T_block ?_|refine E_then ?_|refine E_thenR ?_|refine E_blockN ?_|refine E_blockR ?_)
      refine TL_callB [1] [0] (by decide) rfl rfl (he2 EntersC.en rfl rfl rfl) (fun w hm hb => rdTake_calls g s st 46 w _ (by omega) hb) rfl rfl rfl ?_
      intro _ _
      conv=>arg 8;simp only[zA,zB,zC,zD,zE,zF,zG,zH,zI,rowS,ret,id_eq]
      rw [show takeS s st 46 = if isB s st 46 = true then RS.up st else st from rfl]
      cases h46 : isB s st 46 with
      | true =>
        rw [if_pos h46] at h
        rw [if_pos rfl]
        cases h
        have hr := fun w => rangeE 10 10 (by unfold okI64; omega) (by unfold okI64; omega) w
        generalize rangeF 10 10 = c at *
        repeat(first|refine qv rfl (qp rfl) rfl rfl ?_|refine TL_nil ?_|refine T_seq ?_|refine T_region ?_|refine qcT rfl ?_|refine qcF rfl ?_|refine T_skip ?_|refine T_ret ?_|refine T_block ?_|refine E_then ?_|refine E_thenR ?_|refine E_blockN ?_|refine E_blockR ?_)
        refine TL_call (he2 EntersC.en rfl rfl rfl) (fun w hm => hr w) rfl rfl rfl ?_
        intro _ _
        conv=>arg 8;simp only[zA,zB,zC,zD,zE,zF,zG,zH,zI,rowS,ret,id_eq]
        repeat(first|refine qv rfl (qp rfl) rfl rfl ?_|refine TL_nil ?_|refine T_seq ?_|refine T_region ?_|refine qcT rfl ?_|refine qcF rfl ?_|refine T_skip ?_|refine T_ret ?_|refine T_block ?_|refine E_then ?_|refine E_thenR ?_|refine E_blockN ?_|refine E_blockR ?_)
        refine TL_call (he1 EntersC.en rfl rfl) (fun w hm => notE c w) rfl rfl rfl ?_
        intro _ _
        conv=>arg 8;simp only[zA,zB,zC,zD,zE,zF,zG,zH,zI,rowS,ret,id_eq]
        repeat(first|refine qv rfl (qp rfl) rfl rfl ?_|refine TL_nil ?_|refine T_seq ?_|refine T_region ?_|refine qcT rfl ?_|refine qcF rfl ?_|refine T_skip ?_|refine T_ret ?_|refine T_block ?_|refine E_then ?_|refine E_thenR ?_|refine E_blockN ?_|refine E_blockR ?_|refine qv rfl (rr_build rfl (build_rexL c.not)) rfl rfl ?_)
        refine TL_storeB (i := 0) (cs' := (rexC 3 c.not (.slice none 0 0)).toArray) rfl rfl rfl rfl rfl rfl ?_
        conv=>arg 8;simp only[zA,zB,zC,zD,zE,zF,zG,zH,zI,rowS,ret,id_eq]
        refine TL_extra (rkO (fun _ => False) (.slice none 0 0) []) (fun k hk => rk_foot hk) (fun w => rk_nil w) ?_
        conv=>arg 8;simp only[zA,zB,zC,zD,zE,zF,zG,zH,zI,rowS,ret,id_eq]
        repeat(first|refine qv rfl (qp rfl) rfl rfl ?_|refine TL_nil ?_|refine T_seq ?_|refine T_region ?_|refine qcT rfl ?_|refine qcF rfl ?_|refine T_skip ?_|refine T_ret ?_|refine T_block ?_|refine E_then ?_|refine E_thenR ?_|refine E_blockN ?_|refine E_blockR ?_)
        exact E_retc1 (i := 0) rfl rfl rfl rfl fun w hm => hm.meetsB (S := rxSp g s (.mk 3 c.not [], st.up)) (.slice none 0 0, fun _ => False) (by show kit.okI64 3; unfold kit.okI64; omega) [2, 1] (by decide) rfl
      | false =>
        rw [if_neg (by rw [h46]; decide)] at h
        rw [if_neg (by decide)]
        cases h
        have hch := fun w B hm => rdChar_calls g s st w B (by omega) hp hm
        generalize charS s st = D at *
        obtain ⟨b, st1⟩ := D
        have hr := fun w => rangeE (b.toNat : Int) (b.toNat : Int) (okB b) (okB b) w
        dsimp only
        generalize rangeF (b.toNat : Int) (b.toNat : Int) = c at *
        repeat(first|refine qv rfl (qp rfl) rfl rfl ?_|refine TL_nil ?_|refine T_seq ?_|refine T_region ?_|refine qcT rfl ?_|refine qcF rfl ?_|refine T_skip ?_|refine T_ret ?_|refine T_block ?_|refine E_then ?_|refine E_thenR ?_|refine E_blockN ?_|refine E_blockR ?_)
        refine TL_callB [1] [0] (by decide) rfl rfl (he1 EntersC.en rfl rfl) (fun w hm hb => hch w _ hb) rfl rfl rfl ?_
        intro _ _
        conv=>arg 8;simp only[zA,zB,zC,zD,zE,zF,zG,zH,zI,rowS,ret,id_eq, byteSp]
        conv => arg 7; simp only [byteSp]
        repeat(first|refine qv rfl (qp rfl) rfl rfl ?_|refine TL_nil ?_|refine T_seq ?_|refine T_region ?_|refine qcT rfl ?_|refine qcF rfl ?_|refine T_skip ?_|refine T_ret ?_|refine T_block ?_|refine E_then ?_|refine E_thenR ?_|refine E_blockN ?_|refine E_blockR ?_|refine qv rfl (rr_conv Und.eq Und.eq rfl (u8i _)) rfl rfl ?_)
        refine TL_call (he2 EntersC.en rfl rfl rfl) (fun w hm => hr w) rfl rfl rfl ?_
        intro _ _
        conv=>arg 8;simp only[zA,zB,zC,zD,zE,zF,zG,zH,zI,rowS,ret,id_eq]
        repeat(first|refine qv rfl (qp rfl) rfl rfl ?_|refine TL_nil ?_|refine T_seq ?_|refine T_region ?_|refine qcT rfl ?_|refine qcF rfl ?_|refine T_skip ?_|refine T_ret ?_|refine T_block ?_|refine E_then ?_|refine E_thenR ?_|refine E_blockN ?_|refine E_blockR ?_|refine qv rfl (rr_build rfl (build_rexL c)) rfl rfl ?_)
        refine TL_storeB (i := 0) (cs' := (rexC 3 c (.slice none 0 0)).toArray) rfl rfl rfl rfl rfl rfl ?_
        conv=>arg 8;simp only[zA,zB,zC,zD,zE,zF,zG,zH,zI,rowS,ret,id_eq]
        refine TL_extra (rkO (fun _ => False) (.slice none 0 0) []) (fun k hk => rk_foot hk) (fun w => rk_nil w) ?_
        conv=>arg 8;simp only[zA,zB,zC,zD,zE,zF,zG,zH,zI,rowS,ret,id_eq]
        repeat(first|refine qv rfl (qp rfl) rfl rfl ?_|refine TL_nil ?_|refine T_seq ?_|refine T_region ?_|refine qcT rfl ?_|refine qcF rfl ?_|refine T_skip ?_|refine T_ret ?_|refine T_block ?_|refine E_then ?_|refine E_thenR ?_|refine E_blockN ?_|refine E_blockR ?_)
        exact E_retc1 (i := 0) rfl rfl rfl rfl fun w hm => hm.meetsB (S := rxSp g s (.mk 3 c [], st1)) (.slice none 0 0, fun _ => False) (by show kit.okI64 3; unfold kit.okI64; omega) [2, 1] (by decide) rfl
theorem build_rx0 (w : World) : (Instr.build 39 (#[] : Array (Nat × Value))).run Tryd.prog w = .ok (rexV 0 C4.zero (.slice none 0 0)) w := by kernel_rfl
set_option maxRecDepth 100000 in
set_option maxHeartbeats 8000000 in
theorem rdBr (g : Nat) (s : Txt) (hs : s.length ≤ 300) (N : Nat) (IH : ∀ f, f < N → RdAt g s f) {st : RS} {R : Rx × RS} {w : World} {B : Base} (h : brF s N st = some R) (hp : st.p < s.length) (he : st.e = 0) (ho : st.o ≤ 30) (hm : Mem B [rdO g s st] w) :
    Calls Tryd.prog 77 #[.pointer (some ⟨g, 0, none⟩)] w (MeetsB (rxSp g s R) B) := by
  cases N with
  | zero => rw [brF] at h; cases h
  | succ N =>
  rw [brF] at h
  have hb1 := fun r st1 (hc : altF s N { st.up with o := st.o + 1 } = some (r, st1)) => (goes_at s N).1 _ _ hc (by exact hp)
  obtain ⟨p, o, e⟩ := st
  dsimp only at he hp ho
  subst he
  dsimp only at h hb1
  refine enterB hm (args := [.pointer (some ⟨g, 0, none⟩)]) (n := 44) Tryd.func77 rfl rfl rfl ?_
  clear hm
  refine T_seq (T_region (TL_new rfl fun g2 => ?_))
  conv=>arg 8;simp only[zA,zB,zC,zD,zE,zF,zG,zH,zI,rowS,ret,id_eq]
  refine TL_pick [1, 0] (by decide) rfl ?_
  by_cases c0 : o = 30
  · subst c0
    rw [if_pos rfl] at h
    cases h
    repeat(first|refine qv rfl (qp rfl) rfl rfl ?_|refine TL_nil ?_|refine T_seq ?_|refine T_region ?_|refine qcT rfl ?_|refine qcF rfl ?_|refine T_skip ?_|refine T_ret ?_|refine E_then ?_|refine E_thenR ?_|refine qv rfl (rr_nilc rfl) rfl rfl ?_|refine qv rfl (rr_load1 (v := .int .i64 30) TyC.ty rfl (at_blk (i := 1) rfl rfl)) rfl rfl ?_|refine qv rfl (rr_eql (b := true) rfl rfl rfl) rfl rfl ?_|refine qv rfl (qfld FldC.fld rfl rfl) rfl rfl ?_|refine qv rfl (rr_not rfl rfl) rfl rfl ?_|refine qv rfl (rr_nilc rfl) rfl rfl ?_|refine qv rfl (rr_eql rfl rfl (qT (by omega))) rfl rfl ?_|refine qv rfl (rr_eql rfl rfl (qF (by omega))) rfl rfl ?_|refine qv rfl (rr_add64 rfl rfl (by omega) (by omega) rfl) rfl rfl ?_|refine qv rfl (rr_sub64 rfl rfl (by omega) (by omega) rfl) rfl rfl ?_)
    refine TL_callB [1] [0] (by decide) rfl rfl (he2 EntersC.en rfl rfl rfl) (fun w hm hb => rdFail_calls g s ⟨p, 30, 0⟩ 7 w _ hb) rfl rfl rfl ?_
    intro _ _
    conv=>arg 8;simp only[zA,zB,zC,zD,zE,zF,zG,zH,zI,rowS,ret,id_eq]
    repeat(first|refine qv rfl (qp rfl) rfl rfl ?_|refine TL_nil ?_|refine T_seq ?_|refine T_region ?_|refine qcT rfl ?_|refine qcF rfl ?_|refine T_skip ?_|refine T_ret ?_|refine E_then ?_|refine E_thenR ?_|refine qv rfl (rr_build rfl build_rx0) rfl rfl ?_|refine qv rfl (qfld FldC.fld rfl rfl) rfl rfl ?_|refine qv rfl (rr_not rfl rfl) rfl rfl ?_|refine qv rfl (rr_nilc rfl) rfl rfl ?_|refine qv rfl (rr_eql rfl rfl (qT (by omega))) rfl rfl ?_|refine qv rfl (rr_eql rfl rfl (qF (by omega))) rfl rfl ?_|refine qv rfl (rr_add64 rfl rfl (by omega) (by omega) rfl) rfl rfl ?_|refine qv rfl (rr_sub64 rfl rfl (by omega) (by omega) rfl) rfl rfl ?_)
    refine TL_storeB (i := 0) (cs' := (rexC 0 C4.zero (.slice none 0 0)).toArray) rfl rfl rfl rfl rfl rfl ?_
    conv=>arg 8;simp only[zA,zB,zC,zD,zE,zF,zG,zH,zI,rowS,ret,id_eq]
    refine TL_extra (rkO (fun _ => False) (.slice none 0 0) []) (fun k hk => rk_foot hk) (fun w => rk_nil w) ?_
    conv=>arg 8;simp only[zA,zB,zC,zD,zE,zF,zG,zH,zI,rowS,ret,id_eq]
    repeat(first|refine qv rfl (qp rfl) rfl rfl ?_|refine TL_nil ?_|refine T_seq ?_|refine T_region ?_|refine qcT rfl ?_|refine qcF rfl ?_|refine T_skip ?_|refine T_ret ?_|refine E_then ?_|refine E_thenR ?_|refine qv rfl (qfld FldC.fld rfl rfl) rfl rfl ?_|refine qv rfl (rr_not rfl rfl) rfl rfl ?_|refine qv rfl (rr_nilc rfl) rfl rfl ?_|refine qv rfl (rr_eql rfl rfl (qT (by omega))) rfl rfl ?_|refine qv rfl (rr_eql rfl rfl (qF (by omega))) rfl rfl ?_|refine qv rfl (rr_add64 rfl rfl (by omega) (by omega) rfl) rfl rfl ?_|refine qv rfl (rr_sub64 rfl rfl (by omega) (by omega) rfl) rfl rfl ?_)
    exact E_retc1 (i := 0) rfl rfl rfl rfl fun w hm => hm.meetsB (S := rxSp g s (.mk 0 C4.zero [], failS ⟨p, 30, 0⟩ 7)) (.slice none 0 0, fun _ => False) (by show kit.okI64 0; unfold kit.okI64; omega) [2, 1] (by decide) rfl
  · rw [if_neg c0] at h
    have hup : RS.up ⟨p, o, 0⟩ = ⟨p + 1, o, 0⟩ := rfl
    rw [hup] at h
    repeat(first|refine qv rfl (qp rfl) rfl rfl ?_|refine TL_nil ?_|refine T_seq ?_|refine T_region ?_|refine qcT rfl ?_|refine qcF rfl ?_|refine T_skip ?_|refine T_ret ?_|refine E_then ?_|refine E_thenR ?_|refine qv rfl (rr_nilc rfl) rfl rfl ?_|refine qv rfl (rr_load1 (v := .int .i64 (o : Int)) TyC.ty rfl (at_blk (i := 1) rfl rfl)) rfl rfl ?_|refine qv rfl (rr_eql (b := false) rfl rfl (decide_eq_false (by omega))) rfl rfl ?_|refine qv rfl (rr_load1 (v := .int .i64 (p : Int)) TyC.ty rfl (at_blk (i := 1) rfl rfl)) rfl rfl ?_|refine qv rfl (rr_add64 (r := ((p + 1 : Nat) : Int)) rfl rfl (by omega) (by omega) (by omega)) rfl rfl ?_|refine qv rfl (qfld FldC.fld rfl rfl) rfl rfl ?_|refine qv rfl (rr_not rfl rfl) rfl rfl ?_|refine qv rfl (rr_nilc rfl) rfl rfl ?_|refine qv rfl (rr_eql rfl rfl (qT (by omega))) rfl rfl ?_|refine qv rfl (rr_eql rfl rfl (qF (by omega))) rfl rfl ?_|refine qv rfl (rr_add64 rfl rfl (by omega) (by omega) rfl) rfl rfl ?_|refine qv rfl (rr_sub64 rfl rfl (by omega) (by omega) rfl) rfl rfl ?_)
    refine TL_store1 (i := 1) rfl rfl rfl rfl rfl rfl ?_
    rw [rd_up]
    conv=>arg 8;simp only[zA,zB,zC,zD,zE,zF,zG,zH,zI,rowS,ret,id_eq]
    repeat(first|refine qv rfl (qp rfl) rfl rfl ?_|refine TL_nil ?_|refine T_seq ?_|refine T_region ?_|refine qcT rfl ?_|refine qcF rfl ?_|refine T_skip ?_|refine T_ret ?_|refine E_then ?_|refine E_thenR ?_|refine qv rfl (qfld FldC.fld rfl rfl) rfl rfl ?_|refine qv rfl (rr_not rfl rfl) rfl rfl ?_|refine qv rfl (rr_nilc rfl) rfl rfl ?_|refine qv rfl (rr_eql rfl rfl (qT (by omega))) rfl rfl ?_|refine qv rfl (rr_eql rfl rfl (qF (by omega))) rfl rfl ?_|refine qv rfl (rr_add64 rfl rfl (by omega) (by omega) rfl) rfl rfl ?_|refine qv rfl (rr_sub64 rfl rfl (by omega) (by omega) rfl) rfl rfl ?_)
    refine TL_callB [1] [0] (by decide) rfl rfl (he2 EntersC.en rfl rfl rfl) (fun w hm hb => rdTake_calls g s ⟨p + 1, o, 0⟩ 41 w _ (by omega) hb) rfl rfl rfl ?_
    intro _ _
    conv=>arg 8;simp only[zA,zB,zC,zD,zE,zF,zG,zH,zI,rowS,ret,id_eq]
    rw [show takeS s ⟨p + 1, o, 0⟩ 41 = if isB s ⟨p + 1, o, 0⟩ 41 = true then RS.up ⟨p + 1, o, 0⟩ else ⟨p + 1, o, 0⟩ from rfl]
    cases h41 : isB s ⟨p + 1, o, 0⟩ 41 with
    | true =>
      rw [if_pos h41] at h
      rw [if_pos rfl]
      cases h
      repeat(first|refine qv rfl (qp rfl) rfl rfl ?_|refine TL_nil ?_|refine T_seq ?_|refine T_region ?_|refine qcT rfl ?_|refine qcF rfl ?_|refine T_skip ?_|refine T_ret ?_|refine E_then ?_|refine E_thenR ?_|refine qv rfl (rr_build rfl (build_rexK 2)) rfl rfl ?_|refine qv rfl (qfld FldC.fld rfl rfl) rfl rfl ?_|refine qv rfl (rr_not rfl rfl) rfl rfl ?_|refine qv rfl (rr_nilc rfl) rfl rfl ?_|refine qv rfl (rr_eql rfl rfl (qT (by omega))) rfl rfl ?_|refine qv rfl (rr_eql rfl rfl (qF (by omega))) rfl rfl ?_|refine qv rfl (rr_add64 rfl rfl (by omega) (by omega) rfl) rfl rfl ?_|refine qv rfl (rr_sub64 rfl rfl (by omega) (by omega) rfl) rfl rfl ?_)
      refine TL_storeB (i := 0) (cs' := (rexC 2 C4.zero (.slice none 0 0)).toArray) rfl rfl rfl rfl rfl rfl ?_
      conv=>arg 8;simp only[zA,zB,zC,zD,zE,zF,zG,zH,zI,rowS,ret,id_eq]
      refine TL_extra (rkO (fun _ => False) (.slice none 0 0) []) (fun k hk => rk_foot hk) (fun w => rk_nil w) ?_
      conv=>arg 8;simp only[zA,zB,zC,zD,zE,zF,zG,zH,zI,rowS,ret,id_eq]
      repeat(first|refine qv rfl (qp rfl) rfl rfl ?_|refine TL_nil ?_|refine T_seq ?_|refine T_region ?_|refine qcT rfl ?_|refine qcF rfl ?_|refine T_skip ?_|refine T_ret ?_|refine E_then ?_|refine E_thenR ?_|refine qv rfl (qfld FldC.fld rfl rfl) rfl rfl ?_|refine qv rfl (rr_not rfl rfl) rfl rfl ?_|refine qv rfl (rr_nilc rfl) rfl rfl ?_|refine qv rfl (rr_eql rfl rfl (qT (by omega))) rfl rfl ?_|refine qv rfl (rr_eql rfl rfl (qF (by omega))) rfl rfl ?_|refine qv rfl (rr_add64 rfl rfl (by omega) (by omega) rfl) rfl rfl ?_|refine qv rfl (rr_sub64 rfl rfl (by omega) (by omega) rfl) rfl rfl ?_)
      exact E_retc1 (i := 0) rfl rfl rfl rfl fun w hm => hm.meetsB (S := rxSp g s (.mk 2 C4.zero [], RS.up ⟨p + 1, o, 0⟩)) (.slice none 0 0, fun _ => False) (by show kit.okI64 2; unfold kit.okI64; omega) [2, 1] (by decide) rfl
    | false =>
      rw [if_neg (by rw [h41]; decide)] at h
      rw [if_neg (by decide)]
      dsimp only at h
      cases hc : altF s N ⟨p + 1, o + 1, 0⟩ with
      | none => rw [hc] at h; cases h
      | some X =>
      obtain ⟨r, st1⟩ := X
      rw [hc] at h
      have hg1 := hb1 _ _ hc
      have e1 : st1.o = o + 1 := hg1.o
      obtain ⟨p1, o1, e1'⟩ := st1
      dsimp only at h e1
      subst e1
      cases h
      rw [show o + 1 - 1 = o from rfl]
      repeat(first|refine qv rfl (qp rfl) rfl rfl ?_|refine TL_nil ?_|refine T_seq ?_|refine T_region ?_|refine qcT rfl ?_|refine qcF rfl ?_|refine T_skip ?_|refine T_ret ?_|refine E_then ?_|refine E_thenR ?_|refine qv rfl (rr_nilc rfl) rfl rfl ?_|refine qv rfl (rr_load1 (v := .int .i64 (o : Int)) TyC.ty rfl (at_blk (i := 1) rfl rfl)) rfl rfl ?_|refine qv rfl (rr_add64 (r := ((o + 1 : Nat) : Int)) rfl rfl (by omega) (by omega) (by omega)) rfl rfl ?_|refine qv rfl (qfld FldC.fld rfl rfl) rfl rfl ?_|refine qv rfl (rr_not rfl rfl) rfl rfl ?_|refine qv rfl (rr_nilc rfl) rfl rfl ?_|refine qv rfl (rr_eql rfl rfl (qT (by omega))) rfl rfl ?_|refine qv rfl (rr_eql rfl rfl (qF (by omega))) rfl rfl ?_|refine qv rfl (rr_add64 rfl rfl (by omega) (by omega) rfl) rfl rfl ?_|refine qv rfl (rr_sub64 rfl rfl (by omega) (by omega) rfl) rfl rfl ?_)
      refine TL_store1 (i := 1) rfl rfl rfl rfl rfl rfl ?_
      rw [show (rdC s ⟨p + 1, o, 0⟩).setIfInBounds (0 + 2) (.int .i64 ((o + 1 : Nat) : Int)) = rdC s ⟨p + 1, o + 1, 0⟩ from rfl]
      conv=>arg 8;simp only[zA,zB,zC,zD,zE,zF,zG,zH,zI,rowS,ret,id_eq]
      repeat(first|refine qv rfl (qp rfl) rfl rfl ?_|refine TL_nil ?_|refine T_seq ?_|refine T_region ?_|refine qcT rfl ?_|refine qcF rfl ?_|refine T_skip ?_|refine T_ret ?_|refine E_then ?_|refine E_thenR ?_|refine qv rfl (qfld FldC.fld rfl rfl) rfl rfl ?_|refine qv rfl (rr_not rfl rfl) rfl rfl ?_|refine qv rfl (rr_nilc rfl) rfl rfl ?_|refine qv rfl (rr_eql rfl rfl (qT (by omega))) rfl rfl ?_|refine qv rfl (rr_eql rfl rfl (qF (by omega))) rfl rfl ?_|refine qv rfl (rr_add64 rfl rfl (by omega) (by omega) rfl) rfl rfl ?_|refine qv rfl (rr_sub64 rfl rfl (by omega) (by omega) rfl) rfl rfl ?_)
      refine TL_callB [1] [0] (by decide) rfl rfl (he1 EntersC.en rfl rfl) (fun w hm hb => (IH N (by omega)).alt hc (by exact hp) rfl (by show o + 1 ≤ 30; omega) hb) rfl rfl rfl ?_
      rintro ⟨v1, F1⟩ hok1
      conv=>arg 8;simp only[zA,zB,zC,zD,zE,zF,zG,zH,zI,rowS,ret,id_eq, rxSp]
      conv => arg 7; simp only [rxSp]
      refine TL_know (i := 1) rfl (fun w h => rkO_form h) fun hv1 => ?_
      obtain ⟨b1, n1, c1, rfl⟩ := hv1
      refine TL_new rfl fun g3 => ?_
      conv=>arg 8;simp only[zA,zB,zC,zD,zE,zF,zG,zH,zI,rowS,ret,id_eq]
      refine TL_storeB (i := 3) (cs' := (rexC r.kind r.cls (.slice b1 n1 c1)).toArray) rfl rfl rfl rfl rfl rfl ?_
      conv=>arg 8;simp only[zA,zB,zC,zD,zE,zF,zG,zH,zI,rowS,ret,id_eq]
      repeat(first|refine qv rfl (qp rfl) rfl rfl ?_|refine TL_nil ?_|refine T_seq ?_|refine T_region ?_|refine qcT rfl ?_|refine qcF rfl ?_|refine T_skip ?_|refine T_ret ?_|refine E_then ?_|refine E_thenR ?_|refine qv rfl (rr_nilc rfl) rfl rfl ?_|refine qv rfl (rr_load1 (v := .int .i64 ((o + 1 : Nat) : Int)) TyC.ty rfl (at_blk (i := 2) rfl rfl)) rfl rfl ?_|refine qv rfl (rr_sub64 (r := (o : Int)) rfl rfl (by omega) (by omega) (by omega)) rfl rfl ?_|refine qv rfl (qfld FldC.fld rfl rfl) rfl rfl ?_|refine qv rfl (rr_not rfl rfl) rfl rfl ?_|refine qv rfl (rr_nilc rfl) rfl rfl ?_|refine qv rfl (rr_eql rfl rfl (qT (by omega))) rfl rfl ?_|refine qv rfl (rr_eql rfl rfl (qF (by omega))) rfl rfl ?_|refine qv rfl (rr_add64 rfl rfl (by omega) (by omega) rfl) rfl rfl ?_|refine qv rfl (rr_sub64 rfl rfl (by omega) (by omega) rfl) rfl rfl ?_)
      refine TL_store1 (i := 2) rfl rfl rfl rfl rfl rfl ?_
      rw [show (rdC s ⟨p1, o + 1, e1'⟩).setIfInBounds (0 + 2) (.int .i64 (o : Int)) = rdC s ⟨p1, o, e1'⟩ from rfl]
      conv=>arg 8;simp only[zA,zB,zC,zD,zE,zF,zG,zH,zI,rowS,ret,id_eq]
      repeat(first|refine qv rfl (qp rfl) rfl rfl ?_|refine TL_nil ?_|refine T_seq ?_|refine T_region ?_|refine qcT rfl ?_|refine qcF rfl ?_|refine T_skip ?_|refine T_ret ?_|refine E_then ?_|refine E_thenR ?_|refine qv rfl (qfld FldC.fld rfl rfl) rfl rfl ?_|refine qv rfl (rr_not rfl rfl) rfl rfl ?_|refine qv rfl (rr_nilc rfl) rfl rfl ?_|refine qv rfl (rr_eql rfl rfl (qT (by omega))) rfl rfl ?_|refine qv rfl (rr_eql rfl rfl (qF (by omega))) rfl rfl ?_|refine qv rfl (rr_add64 rfl rfl (by omega) (by omega) rfl) rfl rfl ?_|refine qv rfl (rr_sub64 rfl rfl (by omega) (by omega) rfl) rfl rfl ?_)
      refine TL_callB [2] [0, 1, 3] (by decide) rfl rfl (he2 EntersC.en rfl rfl rfl) (fun w hm hb => rdTake_calls g s ⟨p1, o, e1'⟩ 41 w _ (by omega) hb) rfl rfl rfl ?_
      intro _ _
      conv=>arg 8;simp only[zA,zB,zC,zD,zE,zF,zG,zH,zI,rowS,ret,id_eq]
      rw [show takeS s ⟨p1, o, e1'⟩ 41 = if isB s ⟨p1, o, e1'⟩ 41 = true then RS.up ⟨p1, o, e1'⟩ else ⟨p1, o, e1'⟩ from rfl]
      cases h41b : isB s ⟨p1, o, e1'⟩ 41 with
      | true =>
        rw [if_pos rfl, if_pos rfl]
        repeat(first|refine qv rfl (qp rfl) rfl rfl ?_|refine TL_nil ?_|refine T_seq ?_|refine T_region ?_|refine qcT rfl ?_|refine qcF rfl ?_|refine T_skip ?_|refine T_ret ?_|refine E_then ?_|refine E_thenR ?_|refine qv rfl (rr_loadB (i := 2) TyC.ty rfl rfl rfl) rfl rfl ?_|refine qv rfl (qfld FldC.fld rfl rfl) rfl rfl ?_|refine qv rfl (rr_not rfl rfl) rfl rfl ?_|refine qv rfl (rr_nilc rfl) rfl rfl ?_|refine qv rfl (rr_eql rfl rfl (qT (by omega))) rfl rfl ?_|refine qv rfl (rr_eql rfl rfl (qF (by omega))) rfl rfl ?_|refine qv rfl (rr_add64 rfl rfl (by omega) (by omega) rfl) rfl rfl ?_|refine qv rfl (rr_sub64 rfl rfl (by omega) (by omega) rfl) rfl rfl ?_)
        refine TL_storeB (i := 0) (cs' := (rexC r.kind r.cls (.slice b1 n1 c1)).toArray) rfl rfl rfl rfl rfl rfl ?_
        conv=>arg 8;simp only[zA,zB,zC,zD,zE,zF,zG,zH,zI,rowS,ret,id_eq]
        repeat(first|refine qv rfl (qp rfl) rfl rfl ?_|refine TL_nil ?_|refine T_seq ?_|refine T_region ?_|refine qcT rfl ?_|refine qcF rfl ?_|refine T_skip ?_|refine T_ret ?_|refine E_then ?_|refine E_thenR ?_|refine qv rfl (qfld FldC.fld rfl rfl) rfl rfl ?_|refine qv rfl (rr_not rfl rfl) rfl rfl ?_|refine qv rfl (rr_nilc rfl) rfl rfl ?_|refine qv rfl (rr_eql rfl rfl (qT (by omega))) rfl rfl ?_|refine qv rfl (rr_eql rfl rfl (qF (by omega))) rfl rfl ?_|refine qv rfl (rr_add64 rfl rfl (by omega) (by omega) rfl) rfl rfl ?_|refine qv rfl (rr_sub64 rfl rfl (by omega) (by omega) rfl) rfl rfl ?_)
        exact E_retc1 (i := 0) rfl rfl rfl rfl fun w hm => hm.meetsB (S := rxSp g s (r, RS.up ⟨p1, o, e1'⟩)) (.slice b1 n1 c1, F1) hok1 [1, 3] (by decide) rfl
      | false =>
        rw [if_neg (by decide), if_neg (by decide)]
        repeat(first|refine qv rfl (qp rfl) rfl rfl ?_|refine TL_nil ?_|refine T_seq ?_|refine T_region ?_|refine qcT rfl ?_|refine qcF rfl ?_|refine T_skip ?_|refine T_ret ?_|refine E_then ?_|refine E_thenR ?_|refine qv rfl (qfld FldC.fld rfl rfl) rfl rfl ?_|refine qv rfl (rr_not rfl rfl) rfl rfl ?_|refine qv rfl (rr_nilc rfl) rfl rfl ?_|refine qv rfl (rr_eql rfl rfl (qT (by omega))) rfl rfl ?_|refine qv rfl (rr_eql rfl rfl (qF (by omega))) rfl rfl ?_|refine qv rfl (rr_add64 rfl rfl (by omega) (by omega) rfl) rfl rfl ?_|refine qv rfl (rr_sub64 rfl rfl (by omega) (by omega) rfl) rfl rfl ?_)
        refine TL_callB [3] [0, 1, 2] (by decide) rfl rfl (he2 EntersC.en rfl rfl rfl) (fun w hm hb => rdFail_calls g s ⟨p1, o, e1'⟩ 6 w _ hb) rfl rfl rfl ?_
        intro _ _
        conv=>arg 8;simp only[zA,zB,zC,zD,zE,zF,zG,zH,zI,rowS,ret,id_eq]
        repeat(first|refine qv rfl (qp rfl) rfl rfl ?_|refine TL_nil ?_|refine T_seq ?_|refine T_region ?_|refine qcT rfl ?_|refine qcF rfl ?_|refine T_skip ?_|refine T_ret ?_|refine E_then ?_|refine E_thenR ?_|refine qv rfl (rr_loadB (i := 2) TyC.ty rfl rfl rfl) rfl rfl ?_|refine qv rfl (qfld FldC.fld rfl rfl) rfl rfl ?_|refine qv rfl (rr_not rfl rfl) rfl rfl ?_|refine qv rfl (rr_nilc rfl) rfl rfl ?_|refine qv rfl (rr_eql rfl rfl (qT (by omega))) rfl rfl ?_|refine qv rfl (rr_eql rfl rfl (qF (by omega))) rfl rfl ?_|refine qv rfl (rr_add64 rfl rfl (by omega) (by omega) rfl) rfl rfl ?_|refine qv rfl (rr_sub64 rfl rfl (by omega) (by omega) rfl) rfl rfl ?_)
        refine TL_storeB (i := 0) (cs' := (rexC r.kind r.cls (.slice b1 n1 c1)).toArray) rfl rfl rfl rfl rfl rfl ?_
        conv=>arg 8;simp only[zA,zB,zC,zD,zE,zF,zG,zH,zI,rowS,ret,id_eq]
        repeat(first|refine qv rfl (qp rfl) rfl rfl ?_|refine TL_nil ?_|refine T_seq ?_|refine T_region ?_|refine qcT rfl ?_|refine qcF rfl ?_|refine T_skip ?_|refine T_ret ?_|refine E_then ?_|refine E_thenR ?_|refine qv rfl (qfld FldC.fld rfl rfl) rfl rfl ?_|refine qv rfl (rr_not rfl rfl) rfl rfl ?_|refine qv rfl (rr_nilc rfl) rfl rfl ?_|refine qv rfl (rr_eql rfl rfl (qT (by omega))) rfl rfl ?_|refine qv rfl (rr_eql rfl rfl (qF (by omega))) rfl rfl ?_|refine qv rfl (rr_add64 rfl rfl (by omega) (by omega) rfl) rfl rfl ?_|refine qv rfl (rr_sub64 rfl rfl (by omega) (by omega) rfl) rfl rfl ?_)
        exact E_retc1 (i := 0) rfl rfl rfl rfl fun w hm => hm.meetsB (S := rxSp g s (r, failS ⟨p1, o, e1'⟩ 6)) (.slice b1 n1 c1, F1) hok1 [1, 3] (by decide) rfl
theorem rd_at (g : Nat) (s : Txt) (hs : s.length ≤ 300) : ∀ N f, f < N → RdAt g s f
  | 0, f, h => absurd h (Nat.not_lt_zero _)
  | N + 1, f, h => by
    have IH : ∀ f', f' < f → RdAt g s f' := fun f' h' => rd_at g s hs N f' (by omega)
    exact ⟨fun h hp he ho hm => rdAlt g s hs f IH h hp he ho hm, fun h hp he ho hm => rdCat g s hs f IH h hp he ho hm, fun h hp he ho hm => rdRep g s hs f IH h hp he ho hm, fun h hp he ho hm => rdAtom g s hs f IH h hp he ho hm, fun h hp he ho hm => rdBr g s hs f IH h hp he ho hm⟩
def parSp (R : Rx × Int × Int) : Spec (Value × (Nat → Prop)) := ⟨fun _ => kit.okI64 R.1.kind, fun x => .tuple #[rexV R.1.kind R.1.cls x.1, .int .i64 R.2.1, .int .i64 R.2.2], fun x => [rkO x.2 x.1 R.1.kids]⟩
theorem build_rd (s : Txt) (w : World) : (Instr.build 95 #[(0, str s)]).run Tryd.prog w = .ok (.agg (rdC s ⟨0, 0, 0⟩)) w := by
  unfold rdC str; go_simp
set_option maxRecDepth 100000 in
set_option maxHeartbeats 8000000 in
theorem rexParse_calls (s : Txt) (R : Rx × Int × Int) (hR : parseF s = some R) (w : World) : Calls Tryd.prog 34 #[str s] w (Meets (parSp R) w) := by
  unfold parseF at hR
  refine enter (args := [str s]) (n := 56) Tryd.func34 rfl rfl rfl ?_
  refine T_seq (T_region (TL_new rfl fun g2 => ?_))
  conv=>arg 8;simp only[zA,zB,zC,zD,zE,zF,zG,zH,zI,rowS,ret,id_eq]
  by_cases c0 : 300 < s.length
  · rw [if_pos c0] at hR
    cases hR
    repeat(first|refine qv rfl (qp rfl) rfl rfl ?_|refine TL_nil ?_|refine T_seq ?_|refine T_region ?_|refine qcT rfl ?_|refine qcF rfl ?_|refine T_skip ?_|refine T_ret ?_|refine E_then ?_|refine E_thenR ?_|refine qs rfl rfl rfl rfl rfl rfl ?_|((try refine qg rfl rfl rfl ?_);first|refine qv rfl (qp rfl) rfl rfl ?_|refine qv rfl (rr_build rfl build_rx0) rfl rfl ?_|refine qv rfl (rr_strlen Und.eq rfl) rfl rfl ?_|refine qv rfl (qfld FldC.fld rfl rfl) rfl rfl ?_|refine qv rfl (rr_nilc rfl) rfl rfl ?_|refine qv rfl (rr_gtr rfl rfl (qT (by omega))) rfl rfl ?_|refine qv rfl (rr_gtr rfl rfl (qF (by omega))) rfl rfl ?_|refine qv rfl (rr_eql rfl rfl (qT (by omega))) rfl rfl ?_|refine qv rfl (rr_eql rfl rfl (qF (by omega))) rfl rfl ?_|refine qv rfl (rr_neq rfl rfl (qT (by omega))) rfl rfl ?_|refine qv rfl (rr_neq rfl rfl (qF (by omega))) rfl rfl ?_|refine qv rfl (rr_lss rfl rfl (qT (by omega))) rfl rfl ?_|refine qv rfl (rr_lss rfl rfl (qF (by omega))) rfl rfl ?_))
    refine TL_storeB (i := 0) (cs' := (rexC 0 C4.zero (.slice none 0 0)).toArray) rfl rfl rfl rfl rfl rfl ?_
    conv=>arg 8;simp only[zA,zB,zC,zD,zE,zF,zG,zH,zI,rowS,ret,id_eq]
    refine TL_extra (rkO (fun _ => False) (.slice none 0 0) []) (fun k hk => rk_foot hk) (fun w => rk_nil w) ?_
    conv=>arg 8;simp only[zA,zB,zC,zD,zE,zF,zG,zH,zI,rowS,ret,id_eq]
    repeat(first|refine qv rfl (qp rfl) rfl rfl ?_|refine TL_nil ?_|refine T_seq ?_|refine T_region ?_|refine qcT rfl ?_|refine qcF rfl ?_|refine T_skip ?_|refine T_ret ?_|refine E_then ?_|refine E_thenR ?_|refine qs rfl rfl rfl rfl rfl rfl ?_|((try refine qg rfl rfl rfl ?_);first|refine qv rfl (qp rfl) rfl rfl ?_|refine qv rfl (rr_strlen Und.eq rfl) rfl rfl ?_|refine qv rfl (qfld FldC.fld rfl rfl) rfl rfl ?_|refine qv rfl (rr_nilc rfl) rfl rfl ?_|refine qv rfl (rr_gtr rfl rfl (qT (by omega))) rfl rfl ?_|refine qv rfl (rr_gtr rfl rfl (qF (by omega))) rfl rfl ?_|refine qv rfl (rr_eql rfl rfl (qT (by omega))) rfl rfl ?_|refine qv rfl (rr_eql rfl rfl (qF (by omega))) rfl rfl ?_|refine qv rfl (rr_neq rfl rfl (qT (by omega))) rfl rfl ?_|refine qv rfl (rr_neq rfl rfl (qF (by omega))) rfl rfl ?_|refine qv rfl (rr_lss rfl rfl (qT (by omega))) rfl rfl ?_|refine qv rfl (rr_lss rfl rfl (qF (by omega))) rfl rfl ?_))
    exact E_retc3 (i := 0) rfl rfl rfl rfl rfl rfl fun w hm => hm.meets (S := parSp (.mk 0 C4.zero [], 0, 2)) (.slice none 0 0, fun _ => False) (by show kit.okI64 0; unfold kit.okI64; omega) [1] (by decide) rfl
  · rw [if_neg c0] at hR
    cases hc : altF s (8 * s.length + 16) ⟨0, 0, 0⟩ with
    | none => rw [hc] at hR; cases hR
    | some X =>
    obtain ⟨r, st⟩ := X
    rw [hc] at hR
    have hg1 := (goes_at s _).1 _ _ hc (Nat.zero_le _)
    have hle : st.p ≤ s.length := hg1.le
    have halt := fun g w B (hm : Mem B [rdO g s ⟨0, 0, 0⟩] w) => (rd_at g s (by omega) _ (8 * s.length + 16) (Nat.lt_succ_self _)).alt hc (Nat.zero_le _) rfl (Nat.zero_le _) hm
    repeat(first|refine qv rfl (qp rfl) rfl rfl ?_|refine TL_nil ?_|refine T_seq ?_|refine T_region ?_|refine qcT rfl ?_|refine qcF rfl ?_|refine T_skip ?_|refine T_ret ?_|refine E_then ?_|refine E_thenR ?_|refine qs rfl rfl rfl rfl rfl rfl ?_|((try refine qg rfl rfl rfl ?_);first|refine qv rfl (qp rfl) rfl rfl ?_|refine qv rfl (rr_build rfl (build_rd s)) rfl rfl ?_|refine qv rfl (rr_strlen Und.eq rfl) rfl rfl ?_|refine qv rfl (qfld FldC.fld rfl rfl) rfl rfl ?_|refine qv rfl (rr_nilc rfl) rfl rfl ?_|refine qv rfl (rr_gtr rfl rfl (qT (by omega))) rfl rfl ?_|refine qv rfl (rr_gtr rfl rfl (qF (by omega))) rfl rfl ?_|refine qv rfl (rr_eql rfl rfl (qT (by omega))) rfl rfl ?_|refine qv rfl (rr_eql rfl rfl (qF (by omega))) rfl rfl ?_|refine qv rfl (rr_neq rfl rfl (qT (by omega))) rfl rfl ?_|refine qv rfl (rr_neq rfl rfl (qF (by omega))) rfl rfl ?_|refine qv rfl (rr_lss rfl rfl (qT (by omega))) rfl rfl ?_|refine qv rfl (rr_lss rfl rfl (qF (by omega))) rfl rfl ?_))
    refine TL_box rfl rfl rfl fun g5 => ?_
    conv=>arg 8;simp only[zA,zB,zC,zD,zE,zF,zG,zH,zI,rowS,ret,id_eq]
    repeat(first|refine qv rfl (qp rfl) rfl rfl ?_|refine TL_nil ?_|refine T_seq ?_|refine T_region ?_|refine qcT rfl ?_|refine qcF rfl ?_|refine T_skip ?_|refine T_ret ?_|refine E_then ?_|refine E_thenR ?_|refine qs rfl rfl rfl rfl rfl rfl ?_|((try refine qg rfl rfl rfl ?_);first|refine qv rfl (qp rfl) rfl rfl ?_|refine qv rfl (rr_strlen Und.eq rfl) rfl rfl ?_|refine qv rfl (qfld FldC.fld rfl rfl) rfl rfl ?_|refine qv rfl (rr_nilc rfl) rfl rfl ?_|refine qv rfl (rr_gtr rfl rfl (qT (by omega))) rfl rfl ?_|refine qv rfl (rr_gtr rfl rfl (qF (by omega))) rfl rfl ?_|refine qv rfl (rr_eql rfl rfl (qT (by omega))) rfl rfl ?_|refine qv rfl (rr_eql rfl rfl (qF (by omega))) rfl rfl ?_|refine qv rfl (rr_neq rfl rfl (qT (by omega))) rfl rfl ?_|refine qv rfl (rr_neq rfl rfl (qF (by omega))) rfl rfl ?_|refine qv rfl (rr_lss rfl rfl (qT (by omega))) rfl rfl ?_|refine qv rfl (rr_lss rfl rfl (qF (by omega))) rfl rfl ?_))
    refine TL_callB [1] [0] (by decide) rfl rfl (he1 EntersC.en rfl rfl) (fun w hm hb => halt g5 w _ hb) rfl rfl rfl ?_
    rintro ⟨v1, F1⟩ hok1
    conv=>arg 8;simp only[zA,zB,zC,zD,zE,zF,zG,zH,zI,rowS,ret,id_eq, rxSp]
    conv => arg 7; simp only [rxSp]
    refine TL_know (i := 1) rfl (fun w h => rkO_form h) fun hv1 => ?_
    obtain ⟨b1, n1, c1, rfl⟩ := hv1
    refine TL_new rfl fun g6 => ?_
    conv=>arg 8;simp only[zA,zB,zC,zD,zE,zF,zG,zH,zI,rowS,ret,id_eq]
    refine TL_storeB (i := 3) (cs' := (rexC r.kind r.cls (.slice b1 n1 c1)).toArray) rfl rfl rfl rfl rfl rfl ?_
    conv=>arg 8;simp only[zA,zB,zC,zD,zE,zF,zG,zH,zI,rowS,ret,id_eq]
    clear hc hg1 halt
    have hchk := fun w (h : RexR (Low w) w (rexV r.kind r.cls (.slice b1 n1 c1)) r) => rexCheck_calls _ r w h
    unfold chkX at hchk
    dsimp only at hR
    obtain ⟨p, o, e⟩ := st
    dsimp only at hR hle
    by_cases c1' : e = 0
    · subst c1'
      by_cases c2 : p < s.length
      · rw [if_pos (show (0 : Int) = 0 ∧ p < s.length from ⟨rfl, c2⟩), failS_0, if_pos (show (6 : Int) ≠ 0 by decide)] at hR
        cases hR
        repeat(first|refine qv rfl (qp rfl) rfl rfl ?_|refine TL_nil ?_|refine T_seq ?_|refine T_region ?_|refine qcT rfl ?_|refine qcF rfl ?_|refine T_skip ?_|refine T_ret ?_|refine E_then ?_|refine E_thenR ?_|refine qs rfl rfl rfl rfl rfl rfl ?_|((try refine qg rfl rfl rfl ?_);first|refine qv rfl (qp rfl) rfl rfl ?_|refine qv rfl (rr_nilc rfl) rfl rfl ?_|refine qv rfl (rr_load1 (v := .int .i64 0) TyC.ty rfl (at_blk (i := 2) rfl rfl)) rfl rfl ?_|refine qv rfl (rr_eql (b := true) rfl rfl rfl) rfl rfl ?_|refine qv rfl (rr_load1 (v := .int .i64 (p : Int)) TyC.ty rfl (at_blk (i := 2) rfl rfl)) rfl rfl ?_|refine qv rfl (rr_strlen Und.eq rfl) rfl rfl ?_|refine qv rfl (qfld FldC.fld rfl rfl) rfl rfl ?_|refine qv rfl (rr_nilc rfl) rfl rfl ?_|refine qv rfl (rr_gtr rfl rfl (qT (by omega))) rfl rfl ?_|refine qv rfl (rr_gtr rfl rfl (qF (by omega))) rfl rfl ?_|refine qv rfl (rr_eql rfl rfl (qT (by omega))) rfl rfl ?_|refine qv rfl (rr_eql rfl rfl (qF (by omega))) rfl rfl ?_|refine qv rfl (rr_neq rfl rfl (qT (by omega))) rfl rfl ?_|refine qv rfl (rr_neq rfl rfl (qF (by omega))) rfl rfl ?_|refine qv rfl (rr_lss rfl rfl (qT (by omega))) rfl rfl ?_|refine qv rfl (rr_lss rfl rfl (qF (by omega))) rfl rfl ?_))
        refine TL_callB [2] [0, 1, 3] (by decide) rfl rfl (he2 EntersC.en rfl rfl rfl) (fun w hm hb => rdFail_calls g5 s ⟨p, o, 0⟩ 6 w _ hb) rfl rfl rfl ?_
        intro _ _
        rw [failS_0]
        conv=>arg 8;simp only[zA,zB,zC,zD,zE,zF,zG,zH,zI,rowS,ret,id_eq]
        repeat(first|refine qv rfl (qp rfl) rfl rfl ?_|refine TL_nil ?_|refine T_seq ?_|refine T_region ?_|refine qcT rfl ?_|refine qcF rfl ?_|refine T_skip ?_|refine T_ret ?_|refine E_then ?_|refine E_thenR ?_|refine qs rfl rfl rfl rfl rfl rfl ?_|((try refine qg rfl rfl rfl ?_);first|refine qv rfl (qp rfl) rfl rfl ?_|refine qv rfl (rr_nilc rfl) rfl rfl ?_|refine qv rfl (rr_load1 (v := .int .i64 6) TyC.ty rfl (at_blk (i := 3) rfl rfl)) rfl rfl ?_|refine qv rfl (rr_strlen Und.eq rfl) rfl rfl ?_|refine qv rfl (qfld FldC.fld rfl rfl) rfl rfl ?_|refine qv rfl (rr_nilc rfl) rfl rfl ?_|refine qv rfl (rr_gtr rfl rfl (qT (by omega))) rfl rfl ?_|refine qv rfl (rr_gtr rfl rfl (qF (by omega))) rfl rfl ?_|refine qv rfl (rr_eql rfl rfl (qT (by omega))) rfl rfl ?_|refine qv rfl (rr_eql rfl rfl (qF (by omega))) rfl rfl ?_|refine qv rfl (rr_neq rfl rfl (qT (by omega))) rfl rfl ?_|refine qv rfl (rr_neq rfl rfl (qF (by omega))) rfl rfl ?_|refine qv rfl (rr_lss rfl rfl (qT (by omega))) rfl rfl ?_|refine qv rfl (rr_lss rfl rfl (qF (by omega))) rfl rfl ?_))
        refine T_ord ([rdO g5 s ⟨p, o, 6⟩]) (.calm 0 (.calm 1 (.calm 2 (.calm 3 (.calm 4 (.calm 5 (.calm 6 (.calm 7 (.calm 8 (.one 9 (.calm 10 (.calm 11 (.done))))))))))))) (sub_pick [3] (by decide) rfl) (by kernel_rfl) (by kernel_rfl) (by intro c a d v w h; cases d <;> exact h) ?_
        repeat(first|((first|refine TW_plain rfl rfl ?_|refine TW_gmet rfl rfl rfl rfl ?_);first|refine TN_val (qp rfl) rfl rfl ?_|refine TN_val (rr_nilc rfl) rfl rfl ?_|refine TN_val (rr_load1 (v := .int .i64 6) TyC.ty rfl (at_blk (i := 0) rfl rfl)) rfl rfl ?_|refine TN_val (rr_load1 (v := .int .i64 (p : Int)) TyC.ty rfl (at_blk (i := 0) rfl rfl)) rfl rfl ?_|refine TN_val (rr_build rfl build_rx0) rfl rfl ?_|refine TN_val (rr_strlen Und.eq rfl) rfl rfl ?_|refine TN_val (qfld FldC.fld rfl rfl) rfl rfl ?_|refine TN_val (rr_nilc rfl) rfl rfl ?_|refine TN_val (rr_gtr rfl rfl (qT (by omega))) rfl rfl ?_|refine TN_val (rr_gtr rfl rfl (qF (by omega))) rfl rfl ?_|refine TN_val (rr_eql rfl rfl (qT (by omega))) rfl rfl ?_|refine TN_val (rr_eql rfl rfl (qF (by omega))) rfl rfl ?_|refine TN_val (rr_neq rfl rfl (qT (by omega))) rfl rfl ?_|refine TN_val (rr_neq rfl rfl (qF (by omega))) rfl rfl ?_|refine TN_val (rr_lss rfl rfl (qT (by omega))) rfl rfl ?_|refine TN_val (rr_lss rfl rfl (qF (by omega))) rfl rfl ?_)|refine TW_skip rfl rfl rfl rfl rfl rfl rfl ?_|refine TW_done ?_)
        refine TW_one rfl (TL_storeB (i := 0) (cs' := (rexC 0 C4.zero (.slice none 0 0)).toArray) rfl rfl rfl rfl rfl rfl (TW_on (sub_pick [3] (by decide) rfl) ?_))
        repeat(first|((first|refine TW_plain rfl rfl ?_|refine TW_gmet rfl rfl rfl rfl ?_);first|refine TN_val (qp rfl) rfl rfl ?_|refine TN_val (rr_strlen Und.eq rfl) rfl rfl ?_|refine TN_val (qfld FldC.fld rfl rfl) rfl rfl ?_|refine TN_val (rr_nilc rfl) rfl rfl ?_|refine TN_val (rr_gtr rfl rfl (qT (by omega))) rfl rfl ?_|refine TN_val (rr_gtr rfl rfl (qF (by omega))) rfl rfl ?_|refine TN_val (rr_eql rfl rfl (qT (by omega))) rfl rfl ?_|refine TN_val (rr_eql rfl rfl (qF (by omega))) rfl rfl ?_|refine TN_val (rr_neq rfl rfl (qT (by omega))) rfl rfl ?_|refine TN_val (rr_neq rfl rfl (qF (by omega))) rfl rfl ?_|refine TN_val (rr_lss rfl rfl (qT (by omega))) rfl rfl ?_|refine TN_val (rr_lss rfl rfl (qF (by omega))) rfl rfl ?_)|refine TW_skip rfl rfl rfl rfl rfl rfl rfl ?_|refine TW_done ?_)
        refine E_extra (rkO (fun _ => False) (.slice none 0 0) []) (fun k hk => rk_foot hk) (fun w => rk_nil w) ?_
        repeat(first|refine qv rfl (qp rfl) rfl rfl ?_|refine TL_nil ?_|refine T_seq ?_|refine T_region ?_|refine qcT rfl ?_|refine qcF rfl ?_|refine T_skip ?_|refine T_ret ?_|refine E_then ?_|refine E_thenR ?_|refine qs rfl rfl rfl rfl rfl rfl ?_|((try refine qg rfl rfl rfl ?_);first|refine qv rfl (qp rfl) rfl rfl ?_|refine qv rfl (rr_strlen Und.eq rfl) rfl rfl ?_|refine qv rfl (qfld FldC.fld rfl rfl) rfl rfl ?_|refine qv rfl (rr_nilc rfl) rfl rfl ?_|refine qv rfl (rr_gtr rfl rfl (qT (by omega))) rfl rfl ?_|refine qv rfl (rr_gtr rfl rfl (qF (by omega))) rfl rfl ?_|refine qv rfl (rr_eql rfl rfl (qT (by omega))) rfl rfl ?_|refine qv rfl (rr_eql rfl rfl (qF (by omega))) rfl rfl ?_|refine qv rfl (rr_neq rfl rfl (qT (by omega))) rfl rfl ?_|refine qv rfl (rr_neq rfl rfl (qF (by omega))) rfl rfl ?_|refine qv rfl (rr_lss rfl rfl (qT (by omega))) rfl rfl ?_|refine qv rfl (rr_lss rfl rfl (qF (by omega))) rfl rfl ?_))
        exact E_retc3 (i := 0) rfl rfl rfl rfl rfl rfl fun w hm => hm.meets (S := parSp (.mk 0 C4.zero [], (p : Int), 6)) (.slice none 0 0, fun _ => False) (by show kit.okI64 0; unfold kit.okI64; omega) [4] (by decide) rfl
      · rw [if_neg (show ¬ ((0 : Int) = 0 ∧ p < s.length) by rintro ⟨_, h⟩; exact c2 h), if_neg (show ¬ ((0 : Int) ≠ 0) by decide)] at hR
        repeat(first|refine qv rfl (qp rfl) rfl rfl ?_|refine TL_nil ?_|refine T_seq ?_|refine T_region ?_|refine qcT rfl ?_|refine qcF rfl ?_|refine T_skip ?_|refine T_ret ?_|refine E_then ?_|refine E_thenR ?_|refine qs rfl rfl rfl rfl rfl rfl ?_|((try refine qg rfl rfl rfl ?_);first|refine qv rfl (qp rfl) rfl rfl ?_|refine qv rfl (rr_nilc rfl) rfl rfl ?_|refine qv rfl (rr_load1 (v := .int .i64 0) TyC.ty rfl (at_blk (i := 2) rfl rfl)) rfl rfl ?_|refine qv rfl (rr_eql (b := true) rfl rfl rfl) rfl rfl ?_|refine qv rfl (rr_load1 (v := .int .i64 (p : Int)) TyC.ty rfl (at_blk (i := 2) rfl rfl)) rfl rfl ?_|refine qv rfl (rr_neq (b := false) rfl rfl rfl) rfl rfl ?_|refine qv rfl (rr_loadB (i := 3) TyC.ty rfl rfl rfl) rfl rfl ?_|refine qv rfl (rr_strlen Und.eq rfl) rfl rfl ?_|refine qv rfl (qfld FldC.fld rfl rfl) rfl rfl ?_|refine qv rfl (rr_nilc rfl) rfl rfl ?_|refine qv rfl (rr_gtr rfl rfl (qT (by omega))) rfl rfl ?_|refine qv rfl (rr_gtr rfl rfl (qF (by omega))) rfl rfl ?_|refine qv rfl (rr_eql rfl rfl (qT (by omega))) rfl rfl ?_|refine qv rfl (rr_eql rfl rfl (qF (by omega))) rfl rfl ?_|refine qv rfl (rr_neq rfl rfl (qT (by omega))) rfl rfl ?_|refine qv rfl (rr_neq rfl rfl (qF (by omega))) rfl rfl ?_|refine qv rfl (rr_lss rfl rfl (qT (by omega))) rfl rfl ?_|refine qv rfl (rr_lss rfl rfl (qF (by omega))) rfl rfl ?_))
        refine TL_call (he1 EntersC.en rfl rfl) (fun w hm => hchk w (rk_rex hok1 (hm.get (i := 1) rfl))) rfl rfl rfl ?_
        intro _ _
        conv=>arg 8;simp only[zA,zB,zC,zD,zE,zF,zG,zH,zI,rowS,ret,id_eq]
        generalize (chk r 1 0).1 = ec at *
        by_cases c3 : ec ≠ 0
        · rw [if_pos c3] at hR
          cases hR
          repeat(first|refine qv rfl (qp rfl) rfl rfl ?_|refine TL_nil ?_|refine T_seq ?_|refine T_region ?_|refine qcT rfl ?_|refine qcF rfl ?_|refine T_skip ?_|refine T_ret ?_|refine E_then ?_|refine E_thenR ?_|refine qs rfl rfl rfl rfl rfl rfl ?_|((try refine qg rfl rfl rfl ?_);first|refine qv rfl (qp rfl) rfl rfl ?_|refine qv rfl (rr_neq (b := true) rfl rfl (decide_eq_true c3)) rfl rfl ?_|refine qv rfl (rr_build rfl build_rx0) rfl rfl ?_|refine qv rfl (rr_strlen Und.eq rfl) rfl rfl ?_|refine qv rfl (qfld FldC.fld rfl rfl) rfl rfl ?_|refine qv rfl (rr_nilc rfl) rfl rfl ?_|refine qv rfl (rr_gtr rfl rfl (qT (by omega))) rfl rfl ?_|refine qv rfl (rr_gtr rfl rfl (qF (by omega))) rfl rfl ?_|refine qv rfl (rr_eql rfl rfl (qT (by omega))) rfl rfl ?_|refine qv rfl (rr_eql rfl rfl (qF (by omega))) rfl rfl ?_|refine qv rfl (rr_neq rfl rfl (qT (by omega))) rfl rfl ?_|refine qv rfl (rr_neq rfl rfl (qF (by omega))) rfl rfl ?_|refine qv rfl (rr_lss rfl rfl (qT (by omega))) rfl rfl ?_|refine qv rfl (rr_lss rfl rfl (qF (by omega))) rfl rfl ?_))
          refine TL_storeB (i := 0) (cs' := (rexC 0 C4.zero (.slice none 0 0)).toArray) rfl rfl rfl rfl rfl rfl ?_
          conv=>arg 8;simp only[zA,zB,zC,zD,zE,zF,zG,zH,zI,rowS,ret,id_eq]
          refine TL_extra (rkO (fun _ => False) (.slice none 0 0) []) (fun k hk => rk_foot hk) (fun w => rk_nil w) ?_
          conv=>arg 8;simp only[zA,zB,zC,zD,zE,zF,zG,zH,zI,rowS,ret,id_eq]
          repeat(first|refine qv rfl (qp rfl) rfl rfl ?_|refine TL_nil ?_|refine T_seq ?_|refine T_region ?_|refine qcT rfl ?_|refine qcF rfl ?_|refine T_skip ?_|refine T_ret ?_|refine E_then ?_|refine E_thenR ?_|refine qs rfl rfl rfl rfl rfl rfl ?_|((try refine qg rfl rfl rfl ?_);first|refine qv rfl (qp rfl) rfl rfl ?_|refine qv rfl (rr_strlen Und.eq rfl) rfl rfl ?_|refine qv rfl (qfld FldC.fld rfl rfl) rfl rfl ?_|refine qv rfl (rr_nilc rfl) rfl rfl ?_|refine qv rfl (rr_gtr rfl rfl (qT (by omega))) rfl rfl ?_|refine qv rfl (rr_gtr rfl rfl (qF (by omega))) rfl rfl ?_|refine qv rfl (rr_eql rfl rfl (qT (by omega))) rfl rfl ?_|refine qv rfl (rr_eql rfl rfl (qF (by omega))) rfl rfl ?_|refine qv rfl (rr_neq rfl rfl (qT (by omega))) rfl rfl ?_|refine qv rfl (rr_neq rfl rfl (qF (by omega))) rfl rfl ?_|refine qv rfl (rr_lss rfl rfl (qT (by omega))) rfl rfl ?_|refine qv rfl (rr_lss rfl rfl (qF (by omega))) rfl rfl ?_))
          exact E_retc3 (i := 0) rfl rfl rfl rfl rfl rfl fun w hm => hm.meets (S := parSp (.mk 0 C4.zero [], (s.length : Int), ec)) (.slice none 0 0, fun _ => False) (by show kit.okI64 0; unfold kit.okI64; omega) [4] (by decide) rfl
        · rw [if_neg c3] at hR
          cases hR
          repeat(first|refine qv rfl (qp rfl) rfl rfl ?_|refine TL_nil ?_|refine T_seq ?_|refine T_region ?_|refine qcT rfl ?_|refine qcF rfl ?_|refine T_skip ?_|refine T_ret ?_|refine E_then ?_|refine E_thenR ?_|refine qs rfl rfl rfl rfl rfl rfl ?_|((try refine qg rfl rfl rfl ?_);first|refine qv rfl (qp rfl) rfl rfl ?_|refine qv rfl (rr_neq (b := false) rfl rfl (decide_eq_false c3)) rfl rfl ?_|refine qv rfl (rr_loadB (i := 3) TyC.ty rfl rfl rfl) rfl rfl ?_|refine qv rfl (rr_strlen Und.eq rfl) rfl rfl ?_|refine qv rfl (qfld FldC.fld rfl rfl) rfl rfl ?_|refine qv rfl (rr_nilc rfl) rfl rfl ?_|refine qv rfl (rr_gtr rfl rfl (qT (by omega))) rfl rfl ?_|refine qv rfl (rr_gtr rfl rfl (qF (by omega))) rfl rfl ?_|refine qv rfl (rr_eql rfl rfl (qT (by omega))) rfl rfl ?_|refine qv rfl (rr_eql rfl rfl (qF (by omega))) rfl rfl ?_|refine qv rfl (rr_neq rfl rfl (qT (by omega))) rfl rfl ?_|refine qv rfl (rr_neq rfl rfl (qF (by omega))) rfl rfl ?_|refine qv rfl (rr_lss rfl rfl (qT (by omega))) rfl rfl ?_|refine qv rfl (rr_lss rfl rfl (qF (by omega))) rfl rfl ?_))
          refine TL_storeB (i := 0) (cs' := (rexC r.kind r.cls (.slice b1 n1 c1)).toArray) rfl rfl rfl rfl rfl rfl ?_
          conv=>arg 8;simp only[zA,zB,zC,zD,zE,zF,zG,zH,zI,rowS,ret,id_eq]
          repeat(first|refine qv rfl (qp rfl) rfl rfl ?_|refine TL_nil ?_|refine T_seq ?_|refine T_region ?_|refine qcT rfl ?_|refine qcF rfl ?_|refine T_skip ?_|refine T_ret ?_|refine E_then ?_|refine E_thenR ?_|refine qs rfl rfl rfl rfl rfl rfl ?_|((try refine qg rfl rfl rfl ?_);first|refine qv rfl (qp rfl) rfl rfl ?_|refine qv rfl (rr_strlen Und.eq rfl) rfl rfl ?_|refine qv rfl (qfld FldC.fld rfl rfl) rfl rfl ?_|refine qv rfl (rr_nilc rfl) rfl rfl ?_|refine qv rfl (rr_gtr rfl rfl (qT (by omega))) rfl rfl ?_|refine qv rfl (rr_gtr rfl rfl (qF (by omega))) rfl rfl ?_|refine qv rfl (rr_eql rfl rfl (qT (by omega))) rfl rfl ?_|refine qv rfl (rr_eql rfl rfl (qF (by omega))) rfl rfl ?_|refine qv rfl (rr_neq rfl rfl (qT (by omega))) rfl rfl ?_|refine qv rfl (rr_neq rfl rfl (qF (by omega))) rfl rfl ?_|refine qv rfl (rr_lss rfl rfl (qT (by omega))) rfl rfl ?_|refine qv rfl (rr_lss rfl rfl (qF (by omega))) rfl rfl ?_))
          exact E_retc3 (i := 0) rfl rfl rfl rfl rfl rfl fun w hm => hm.meets (S := parSp (r, 0, 0)) (.slice b1 n1 c1, F1) hok1 [1] (by decide) rfl
    · rw [if_neg (show ¬ (e = 0 ∧ p < s.length) by rintro ⟨h, _⟩; exact c1' h), if_pos (show e ≠ 0 from c1')] at hR
      cases hR
      repeat(first|refine qv rfl (qp rfl) rfl rfl ?_|refine TL_nil ?_|refine T_seq ?_|refine T_region ?_|refine qcT rfl ?_|refine qcF rfl ?_|refine T_skip ?_|refine T_ret ?_|refine E_then ?_|refine E_thenR ?_|refine qs rfl rfl rfl rfl rfl rfl ?_|((try refine qg rfl rfl rfl ?_);first|refine qv rfl (qp rfl) rfl rfl ?_|refine qv rfl (rr_nilc rfl) rfl rfl ?_|refine qv rfl (rr_load1 (v := .int .i64 e) TyC.ty rfl (at_blk (i := 2) rfl rfl)) rfl rfl ?_|refine qv rfl (rr_eql (b := false) rfl rfl (decide_eq_false c1')) rfl rfl ?_|refine qv rfl (rr_neq (b := true) rfl rfl (decide_eq_true c1')) rfl rfl ?_|refine qv rfl (rr_strlen Und.eq rfl) rfl rfl ?_|refine qv rfl (qfld FldC.fld rfl rfl) rfl rfl ?_|refine qv rfl (rr_nilc rfl) rfl rfl ?_|refine qv rfl (rr_gtr rfl rfl (qT (by omega))) rfl rfl ?_|refine qv rfl (rr_gtr rfl rfl (qF (by omega))) rfl rfl ?_|refine qv rfl (rr_eql rfl rfl (qT (by omega))) rfl rfl ?_|refine qv rfl (rr_eql rfl rfl (qF (by omega))) rfl rfl ?_|refine qv rfl (rr_neq rfl rfl (qT (by omega))) rfl rfl ?_|refine qv rfl (rr_neq rfl rfl (qF (by omega))) rfl rfl ?_|refine qv rfl (rr_lss rfl rfl (qT (by omega))) rfl rfl ?_|refine qv rfl (rr_lss rfl rfl (qF (by omega))) rfl rfl ?_))
      refine T_ord ([rdO g5 s ⟨p, o, e⟩]) (.calm 0 (.calm 1 (.calm 2 (.calm 3 (.calm 4 (.calm 5 (.calm 6 (.calm 7 (.calm 8 (.one 9 (.calm 10 (.calm 11 (.done))))))))))))) (sub_pick [2] (by decide) rfl) (by kernel_rfl) (by kernel_rfl) (by intro c a d v w h; cases d <;> exact h) ?_
      repeat(first|((first|refine TW_plain rfl rfl ?_|refine TW_gmet rfl rfl rfl rfl ?_);first|refine TN_val (qp rfl) rfl rfl ?_|refine TN_val (rr_nilc rfl) rfl rfl ?_|refine TN_val (rr_load1 (v := .int .i64 e) TyC.ty rfl (at_blk (i := 0) rfl rfl)) rfl rfl ?_|refine TN_val (rr_load1 (v := .int .i64 (p : Int)) TyC.ty rfl (at_blk (i := 0) rfl rfl)) rfl rfl ?_|refine TN_val (rr_build rfl build_rx0) rfl rfl ?_|refine TN_val (rr_strlen Und.eq rfl) rfl rfl ?_|refine TN_val (qfld FldC.fld rfl rfl) rfl rfl ?_|refine TN_val (rr_nilc rfl) rfl rfl ?_|refine TN_val (rr_gtr rfl rfl (qT (by omega))) rfl rfl ?_|refine TN_val (rr_gtr rfl rfl (qF (by omega))) rfl rfl ?_|refine TN_val (rr_eql rfl rfl (qT (by omega))) rfl rfl ?_|refine TN_val (rr_eql rfl rfl (qF (by omega))) rfl rfl ?_|refine TN_val (rr_neq rfl rfl (qT (by omega))) rfl rfl ?_|refine TN_val (rr_neq rfl rfl (qF (by omega))) rfl rfl ?_|refine TN_val (rr_lss rfl rfl (qT (by omega))) rfl rfl ?_|refine TN_val (rr_lss rfl rfl (qF (by omega))) rfl rfl ?_)|refine TW_skip rfl rfl rfl rfl rfl rfl rfl ?_|refine TW_done ?_)
      refine TW_one rfl (TL_storeB (i := 0) (cs' := (rexC 0 C4.zero (.slice none 0 0)).toArray) rfl rfl rfl rfl rfl rfl (TW_on (sub_pick [2] (by decide) rfl) ?_))
      repeat(first|((first|refine TW_plain rfl rfl ?_|refine TW_gmet rfl rfl rfl rfl ?_);first|refine TN_val (qp rfl) rfl rfl ?_|refine TN_val (rr_strlen Und.eq rfl) rfl rfl ?_|refine TN_val (qfld FldC.fld rfl rfl) rfl rfl ?_|refine TN_val (rr_nilc rfl) rfl rfl ?_|refine TN_val (rr_gtr rfl rfl (qT (by omega))) rfl rfl ?_|refine TN_val (rr_gtr rfl rfl (qF (by omega))) rfl rfl ?_|refine TN_val (rr_eql rfl rfl (qT (by omega))) rfl rfl ?_|refine TN_val (rr_eql rfl rfl (qF (by omega))) rfl rfl ?_|refine TN_val (rr_neq rfl rfl (qT (by omega))) rfl rfl ?_|refine TN_val (rr_neq rfl rfl (qF (by omega))) rfl rfl ?_|refine TN_val (rr_lss rfl rfl (qT (by omega))) rfl rfl ?_|refine TN_val (rr_lss rfl rfl (qF (by omega))) rfl rfl ?_)|refine TW_skip rfl rfl rfl rfl rfl rfl rfl ?_|refine TW_done ?_)
      refine E_extra (rkO (fun _ => False) (.slice none 0 0) []) (fun k hk => rk_foot hk) (fun w => rk_nil w) ?_
      repeat(first|refine qv rfl (qp rfl) rfl rfl ?_|refine TL_nil ?_|refine T_seq ?_|refine T_region ?_|refine qcT rfl ?_|refine qcF rfl ?_|refine T_skip ?_|refine T_ret ?_|refine E_then ?_|refine E_thenR ?_|refine qs rfl rfl rfl rfl rfl rfl ?_|((try refine qg rfl rfl rfl ?_);first|refine qv rfl (qp rfl) rfl rfl ?_|refine qv rfl (rr_strlen Und.eq rfl) rfl rfl ?_|refine qv rfl (qfld FldC.fld rfl rfl) rfl rfl ?_|refine qv rfl (rr_nilc rfl) rfl rfl ?_|refine qv rfl (rr_gtr rfl rfl (qT (by omega))) rfl rfl ?_|refine qv rfl (rr_gtr rfl rfl (qF (by omega))) rfl rfl ?_|refine qv rfl (rr_eql rfl rfl (qT (by omega))) rfl rfl ?_|refine qv rfl (rr_eql rfl rfl (qF (by omega))) rfl rfl ?_|refine qv rfl (rr_neq rfl rfl (qT (by omega))) rfl rfl ?_|refine qv rfl (rr_neq rfl rfl (qF (by omega))) rfl rfl ?_|refine qv rfl (rr_lss rfl rfl (qT (by omega))) rfl rfl ?_|refine qv rfl (rr_lss rfl rfl (qF (by omega))) rfl rfl ?_))
      exact E_retc3 (i := 0) rfl rfl rfl rfl rfl rfl fun w hm => hm.meets (S := parSp (.mk 0 C4.zero [], (p : Int), e)) (.slice none 0 0, fun _ => False) (by show kit.okI64 0; unfold kit.okI64; omega) [4] (by decide) rfl
end Go.Proofs.YtakiohldgcifeaaDoor.eng


/- RexPt -/
namespace Go.Proofs.YtakiohldgcifeaaDoor.eng
open Go.RowKit kit mix classL rexL classSets
theorem chkX_re {r : Rx} (h : chkX r = 0) : ∃ e : Re, r = emb e ∧ Fit e 1 0 := by
  unfold chkX at h
  obtain ⟨e, h1, h2, _⟩ := chk_fit (sizeX r) r 1 0 (chk r 1 0).2 (Nat.le_refl _) (by rw [← h])
  exact ⟨e, h1, h2⟩
theorem re_chkX {e : Re} (h : Fit e 1 0) : chkX (emb e) = 0 := by unfold chkX; rw [fit_chk e 1 0 h]
set_option maxHeartbeats 4000000 in
theorem print_calls (v : Value) (e : Re) (w : World) (hT : TabW w) (hv : RexR (Low w) w v (emb e)) (h : Fit e 1 0) : Calls Tryd.prog 11 #[v] w (Meets (ret (.tuple #[str (body e), .int .i64 0])) w) := by
  have hup := fun w' (hg : Gr w w') => (by have hm : Mem (w : Base) [] w := .start w; exact hT.up (hm.gr hg) : TabW w')
  have hck := fun w' (hg : Gr w w') => rexCheck_calls v (emb e) w' (hv.gr hg)
  rw [re_chkX h] at hck
  have hsz := h.sz
  rw [emb_eq] at hv
  obtain ⟨vk, hvk, hk1, hks⟩ := hv
  have hvk : v = rexV e.kind e.cls vk := hvk
  have hks : SlF rexS (Low w) w vk (e.kids.map emb) := hks
  subst hvk
  have hsh := fun w' (hg : Gr w w') => shown_calls (2 * e.size) e [] vk (.slice none 0 0) w' (by simp) (by omega) (hup w' hg) ((hks.stay fun k hk => hg.block k hk).mono fun k hk => Nat.lt_of_lt_of_le hk hg.size) (slnil w')
  rw [brk_0] at hsh
  obtain ⟨br, capr, rfl, -⟩ := hks
  generalize (e.kids.map emb).length = m at *
  refine enter (args := [rexV e.kind e.cls (.slice br m capr)]) (n := 12) Tryd.func11 rfl rfl rfl ?_
  refine T_seq (T_region (TL_box rfl rfl rfl fun g1 => ?_))
  conv=>arg 8;simp only[zA,zB,zC,zD,zE,zF,zG,zH,zI,rowS,ret,id_eq]
  repeat(first|refine qv rfl (qp rfl) rfl rfl ?_|refine TL_nil ?_|refine T_seq ?_|refine T_region ?_|refine qcT rfl ?_|refine qcF rfl ?_|refine T_skip ?_|refine T_ret ?_|refine E_then ?_|refine E_thenR ?_|refine qv rfl (rr_loadB (i := 0) TyC.ty rfl rfl rfl) rfl rfl ?_|refine qv rfl (rr_neq rfl rfl (qT (by omega))) rfl rfl ?_|refine qv rfl (rr_neq rfl rfl (qF (by omega))) rfl rfl ?_)
  refine TL_call (he1 EntersC.en rfl rfl) (fun w hm => hck _ hm.below) rfl rfl rfl ?_
  intro _ _
  conv=>arg 8;simp only[zA,zB,zC,zD,zE,zF,zG,zH,zI,rowS,ret,id_eq]
  repeat(first|refine qv rfl (qp rfl) rfl rfl ?_|refine TL_nil ?_|refine T_seq ?_|refine T_region ?_|refine qcT rfl ?_|refine qcF rfl ?_|refine T_skip ?_|refine T_ret ?_|refine E_then ?_|refine E_thenR ?_|refine qv rfl (rr_loadB (i := 0) TyC.ty rfl rfl rfl) rfl rfl ?_|refine qv rfl (rr_neq rfl rfl (qT (by omega))) rfl rfl ?_|refine qv rfl (rr_neq rfl rfl (qF (by omega))) rfl rfl ?_)
  refine TL_call (he2 EntersC.en rfl rfl rfl) (fun w hm => hsh _ hm.below) rfl rfl rfl ?_
  intro _ _
  conv=>arg 8;simp only[zA,zB,zC,zD,zE,zF,zG,zH,zI,rowS,ret,id_eq]
  repeat(first|refine qv rfl (qp rfl) rfl rfl ?_|refine TL_nil ?_|refine T_seq ?_|refine T_region ?_|refine qcT rfl ?_|refine qcF rfl ?_|refine T_skip ?_|refine T_ret ?_|refine E_then ?_|refine E_thenR ?_|refine qv rfl (rr_neq rfl rfl (qT (by omega))) rfl rfl ?_|refine qv rfl (rr_neq rfl rfl (qF (by omega))) rfl rfl ?_)
  exact E_ret2 rfl rfl rfl fun w hm => hm.ret
set_option maxRecDepth 100000 in
set_option maxHeartbeats 8000000 in
theorem sameRex_calls : ∀ (N : Nat) (r : Rx), sizeX r ≤ N → ∀ (va vb : Value) (w : World), RexR (Low w) w va r → RexR (Low w) w vb r → Calls Tryd.prog 26 #[va, vb] w (Meets (ret (.bool true)) w)
  | 0, r, h, _, _, _, _, _ => by have := sizeX_pos r; omega
  | N + 1, .mk k c kids, h, va, vb, w, ha, hb => by
    have IH := sameRex_calls N
    obtain ⟨vka, rfl, hk1, hksa⟩ := ha
    obtain ⟨vkb, rfl, _, hksb⟩ := hb
    obtain ⟨ba, ca, rfl, _, hma, hra⟩ := hksa
    obtain ⟨bb, cb, rfl, _, hmb, hrb⟩ := hksb
    unfold maxLen at hma hmb
    rw [sizeX] at h
    have hmem := fun {r} hr => @sizesX_mem kids r hr
    dsimp only [Rx.kids, Rx.kind, Rx.cls] at *
    refine enter (args := [rexV k c (.slice ba kids.length ca), rexV k c (.slice bb kids.length cb)]) (n := 46) Tryd.func26 rfl rfl rfl ?_
    refine T_seq (T_region (TL_box rfl rfl rfl fun g2 => TL_box rfl rfl rfl fun g3 => ?_))
    conv=>arg 8;simp only[zA,zB,zC,zD,zE,zF,zG,zH,zI,rowS,ret,id_eq]
    repeat(first|refine qv rfl (qp rfl) rfl rfl ?_|refine TL_nil ?_|refine T_seq ?_|refine T_region ?_|refine qcT rfl ?_|refine qcF rfl ?_|refine T_skip ?_|refine T_exit ?_|refine T_ret ?_|refine T_block ?_|refine E_then ?_|refine E_thenX ?_|refine E_thenR ?_|refine E_blockN ?_|refine E_blockR ?_|refine E_blockX ?_|refine E_blockO rfl ?_|refine qs rfl rfl rfl rfl rfl rfl ?_|((try refine qg rfl rfl rfl ?_);first|refine qv rfl (qp rfl) rfl rfl ?_|refine qv rfl (rr_load1 (v := .int .i64 k) TyC.ty rfl (at_blk (i := 0) rfl rfl)) rfl rfl ?_|refine qv rfl (rr_load1 (v := .int .i64 k) TyC.ty rfl (at_blk (i := 1) rfl rfl)) rfl rfl ?_|refine qv rfl (rr_neq (b := false) rfl rfl (decide_eq_false (by simp))) rfl rfl ?_|refine qv rfl (rr_loadN (cs := clsL c) TyC.ty rfl rfl (fun j v hj => at_blk (i := 0) rfl (rex_cls hj))) rfl rfl ?_|refine qv rfl (rr_loadN (cs := clsL c) TyC.ty rfl rfl (fun j v hj => at_blk (i := 1) rfl (rex_cls hj))) rfl rfl ?_|refine qv rfl (rr_load1 (v := .slice ba kids.length ca) TyC.ty rfl (at_blk (i := 0) rfl rfl)) rfl rfl ?_|refine qv rfl (rr_load1 (v := .slice bb kids.length cb) TyC.ty rfl (at_blk (i := 1) rfl rfl)) rfl rfl ?_|refine qv rfl (qlen Und.eq rfl) rfl rfl ?_|refine qv rfl (qfld FldC.fld rfl rfl) rfl rfl ?_|refine qv rfl (rr_not rfl rfl) rfl rfl ?_|refine qv rfl (rr_lss rfl rfl (qT (by omega))) rfl rfl ?_|refine qv rfl (rr_lss rfl rfl (qF (by omega))) rfl rfl ?_|refine qv rfl (rr_neq rfl rfl (qT (by omega))) rfl rfl ?_|refine qv rfl (rr_neq rfl rfl (qF (by omega))) rfl rfl ?_|refine qv rfl (rr_add64 rfl rfl (by omega) (by omega) rfl) rfl rfl ?_|refine qv rfl (rr_aggne (b := true) (c := false) rfl rfl (by kernel_rfl) (cls_aeq (a := c) (b := c) (decide_eq_true rfl)) rfl) rfl rfl ?_))
    refine T_loop (ι := Nat) (fun j => j ≤ kids.length) (fun j => [(2, .pointer (some ⟨g2, 0, none⟩)), (3, .pointer (some ⟨g3, 0, none⟩)), (5, .int .i64 (j : Int))]) (fun _ => [rxB g2 k c (.slice ba kids.length ca), rxB g3 k c (.slice bb kids.length cb)]) (fun j => kids.length - j) 0 (Nat.zero_le _) (by repeat' (first | exact True.intro | refine And.intro rfl ?_)) rfl ?_
    intro j i1
    by_cases c1 : j < kids.length
    · obtain ⟨b1, off1, rfl, _, hr1⟩ := hra (by omega)
      obtain ⟨b2, off2, rfl, _, hr2⟩ := hrb (by omega)
      obtain ⟨bj, cj, hrd1, hkr1⟩ := rkid_at hr1 c1
      obtain ⟨bj2, cj2, hrd2, hkr2⟩ := rkid_at hr2 c1
      have hat1 := fun (L : List Own) j v hj => at_oldR (W := w) (L := L) (Old.self w) hrd1 j v hj
      have hat2 := fun (L : List Own) j v hj => at_oldR (W := w) (L := L) (Old.self w) hrd2 j v hj
      have hm0 := hmem (List.getElem_mem c1)
      generalize kids[j] = r at *
      have IHr := fun w' (hg : Gr w w') => IH r (by omega) _ _ w' (hkr1.gr hg) (hkr2.gr hg)
      clear hr1 hr2 hra hrb hrd1 hrd2
      repeat(first|refine qv rfl (qp rfl) rfl rfl ?_|refine TL_nil ?_|refine T_seq ?_|refine T_region ?_|refine qcT rfl ?_|refine qcF rfl ?_|refine T_skip ?_|refine T_exit ?_|refine T_ret ?_|refine T_block ?_|refine E_then ?_|refine E_thenX ?_|refine E_thenR ?_|refine E_blockN ?_|refine E_blockR ?_|refine E_blockX ?_|refine E_blockO rfl ?_|refine qs rfl rfl rfl rfl rfl rfl ?_|((try refine qg rfl rfl rfl ?_);first|refine qv rfl (qp rfl) rfl rfl ?_|refine qv rfl (rr_load1 (v := .slice (some ⟨b1, off1, none⟩) kids.length ca) TyC.ty rfl (at_blk (i := 0) rfl rfl)) rfl rfl ?_|refine qv rfl (qlen Und.eq rfl) rfl rfl ?_|refine qv rfl (qfld FldC.fld rfl rfl) rfl rfl ?_|refine qv rfl (rr_not rfl rfl) rfl rfl ?_|refine qv rfl (rr_lss rfl rfl (qT (by omega))) rfl rfl ?_|refine qv rfl (rr_lss rfl rfl (qF (by omega))) rfl rfl ?_|refine qv rfl (rr_neq rfl rfl (qT (by omega))) rfl rfl ?_|refine qv rfl (rr_neq rfl rfl (qF (by omega))) rfl rfl ?_|refine qv rfl (rr_add64 rfl rfl (by omega) (by omega) rfl) rfl rfl ?_))
      refine T_ord ([rxB g2 k c (.slice (some ⟨b1, off1, none⟩) kids.length ca), rxB g3 k c (.slice (some ⟨b2, off2, none⟩) kids.length cb)]) (.calm 0 (.calm 1 (.calm 2 (.calm 3 (.calm 4 (.calm 5 (.calm 6 (.calm 7 (.calm 8 (.calm 9 (.calm 10 (.calm 11 (.done))))))))))))) (fun _ h => h) (by kernel_rfl) (by kernel_rfl) (by intro c a d v w h; cases d <;> exact h) ?_
      repeat(first|((first|refine TW_plain rfl rfl ?_|refine TW_gmet rfl rfl rfl rfl ?_);first|refine TN_val (qp rfl) rfl rfl ?_|refine TN_val (rr_load1 (v := .slice (some ⟨b1, off1, none⟩) kids.length ca) TyC.ty rfl (at_blk (i := 0) rfl rfl)) rfl rfl ?_|refine TN_val (rr_load1 (v := .slice (some ⟨b2, off2, none⟩) kids.length cb) TyC.ty rfl (at_blk (i := 1) rfl rfl)) rfl rfl ?_|refine TN_val (rr_idxc (j := j) Und.eq TyC.ty rfl rfl c1) rfl rfl ?_|refine TN_val (rr_loadN TyC.ty rfl rfl (hat1 _)) rfl rfl ?_|refine TN_val (rr_loadN TyC.ty rfl rfl (hat2 _)) rfl rfl ?_|refine TN_val (qlen Und.eq rfl) rfl rfl ?_|refine TN_val (qfld FldC.fld rfl rfl) rfl rfl ?_|refine TN_val (rr_not rfl rfl) rfl rfl ?_|refine TN_val (rr_lss rfl rfl (qT (by omega))) rfl rfl ?_|refine TN_val (rr_lss rfl rfl (qF (by omega))) rfl rfl ?_|refine TN_val (rr_neq rfl rfl (qT (by omega))) rfl rfl ?_|refine TN_val (rr_neq rfl rfl (qF (by omega))) rfl rfl ?_|refine TN_val (rr_add64 rfl rfl (by omega) (by omega) rfl) rfl rfl ?_)|refine TW_skip rfl rfl rfl rfl rfl rfl rfl ?_|refine TW_done ?_)
      refine TW_call rfl (he2 EntersC.en rfl rfl rfl) (fun w hm => IHr _ hm.below) rfl rfl rfl ?_
      repeat(first|((first|refine TW_plain rfl rfl ?_|refine TW_gmet rfl rfl rfl rfl ?_);first|refine TN_val (qp rfl) rfl rfl ?_|refine TN_val (qlen Und.eq rfl) rfl rfl ?_|refine TN_val (qfld FldC.fld rfl rfl) rfl rfl ?_|refine TN_val (rr_not rfl rfl) rfl rfl ?_|refine TN_val (rr_lss rfl rfl (qT (by omega))) rfl rfl ?_|refine TN_val (rr_lss rfl rfl (qF (by omega))) rfl rfl ?_|refine TN_val (rr_neq rfl rfl (qT (by omega))) rfl rfl ?_|refine TN_val (rr_neq rfl rfl (qF (by omega))) rfl rfl ?_|refine TN_val (rr_add64 rfl rfl (by omega) (by omega) rfl) rfl rfl ?_)|refine TW_skip rfl rfl rfl rfl rfl rfl rfl ?_|refine TW_done ?_)
      repeat(first|refine qv rfl (qp rfl) rfl rfl ?_|refine TL_nil ?_|refine T_seq ?_|refine T_region ?_|refine qcT rfl ?_|refine qcF rfl ?_|refine T_skip ?_|refine T_exit ?_|refine T_ret ?_|refine T_block ?_|refine E_then ?_|refine E_thenX ?_|refine E_thenR ?_|refine E_blockN ?_|refine E_blockR ?_|refine E_blockX ?_|refine E_blockO rfl ?_|refine qs rfl rfl rfl rfl rfl rfl ?_|((try refine qg rfl rfl rfl ?_);first|refine qv rfl (qp rfl) rfl rfl ?_|refine qv rfl (rr_add64 (r := ((j + 1 : Nat) : Int)) rfl rfl (by omega) (by omega) (by omega)) rfl rfl ?_|refine qv rfl (qlen Und.eq rfl) rfl rfl ?_|refine qv rfl (qfld FldC.fld rfl rfl) rfl rfl ?_|refine qv rfl (rr_not rfl rfl) rfl rfl ?_|refine qv rfl (rr_lss rfl rfl (qT (by omega))) rfl rfl ?_|refine qv rfl (rr_lss rfl rfl (qF (by omega))) rfl rfl ?_|refine qv rfl (rr_neq rfl rfl (qT (by omega))) rfl rfl ?_|refine qv rfl (rr_neq rfl rfl (qF (by omega))) rfl rfl ?_|refine qv rfl (rr_add64 rfl rfl (by omega) (by omega) rfl) rfl rfl ?_))
      exact E_round (j + 1) c1 (by omega) (by repeat' (first | exact True.intro | refine And.intro rfl ?_)) rfl
    · repeat(first|refine qv rfl (qp rfl) rfl rfl ?_|refine TL_nil ?_|refine T_seq ?_|refine T_region ?_|refine qcT rfl ?_|refine qcF rfl ?_|refine T_skip ?_|refine T_exit ?_|refine T_ret ?_|refine T_block ?_|refine E_then ?_|refine E_thenX ?_|refine E_thenR ?_|refine E_blockN ?_|refine E_blockR ?_|refine E_blockX ?_|refine E_blockO rfl ?_|refine qs rfl rfl rfl rfl rfl rfl ?_|((try refine qg rfl rfl rfl ?_);first|refine qv rfl (qp rfl) rfl rfl ?_|refine qv rfl (rr_load1 (v := .slice ba kids.length ca) TyC.ty rfl (at_blk (i := 0) rfl rfl)) rfl rfl ?_|refine qv rfl (qlen Und.eq rfl) rfl rfl ?_|refine qv rfl (qfld FldC.fld rfl rfl) rfl rfl ?_|refine qv rfl (rr_not rfl rfl) rfl rfl ?_|refine qv rfl (rr_lss rfl rfl (qT (by omega))) rfl rfl ?_|refine qv rfl (rr_lss rfl rfl (qF (by omega))) rfl rfl ?_|refine qv rfl (rr_neq rfl rfl (qT (by omega))) rfl rfl ?_|refine qv rfl (rr_neq rfl rfl (qF (by omega))) rfl rfl ?_|refine qv rfl (rr_add64 rfl rfl (by omega) (by omega) rfl) rfl rfl ?_))
      exact E_ret1 rfl rfl fun w hm => hm.ret
end Go.Proofs.YtakiohldgcifeaaDoor.eng


/- GramL -/
namespace Go.Proofs.YtakiohldgcifeaaDoor.gramL
abbrev Sym := Int × Int
abbrev Prod := Int × List Sym
/-- is it a symbol of the grammar? -/
def right (terms nons : Int) (x : Sym) : Bool := if x.1 = 1 then decide (0 ≤ x.2) && decide (x.2 < terms) else if x.1 = 2 then decide (0 ≤ x.2) && decide (x.2 < nons) else false
def prodE (terms nons : Int) (p : Prod) : Int := if 8 < p.2.length then 2 else if p.1 < 0 then 1 else if nons ≤ p.1 then 1 else if p.2.any (fun x => !right terms nons x) = true then 1 else 0
theorem prodE_ok {t n : Int} {p : Prod} (h : prodE t n p = 0) : p.2.length ≤ 8 ∧ 0 ≤ p.1 ∧ p.1 < n ∧ ∀ x ∈ p.2, right t n x = true := by
  unfold prodE at h
  split at h; · simp at h
  split at h; · simp at h
  split at h; · simp at h
  split at h; · simp at h
  rename_i a b c d
  refine ⟨by omega, by omega, by omega, fun x hx => ?_⟩
  simp only [List.any_eq_true, not_exists, not_and, Bool.not_eq_true', Bool.not_eq_false] at d
  simpa using d x hx
end Go.Proofs.YtakiohldgcifeaaDoor.gramL

/- CfgL -/
namespace Go.Proofs.YtakiohldgcifeaaDoor.gramL
abbrev Tx := List UInt8
/-- a number from 0 to 99, written -/
def dec (n : Nat) : Tx := if n < 10 then [UInt8.ofNat (48 + n)] else [UInt8.ofNat (48 + n / 10), UInt8.ofNat (48 + n % 10)]
def isDig (b : UInt8) : Bool := decide (48 ≤ b.toNat) && decide (b.toNat ≤ 57)
/-- the digits' number; none: something else stands there -/
def digs : Tx → Nat → Option Nat
  | [], n => some n
  | b :: r, n => if isDig b then digs r (10 * n + (b.toNat - 48)) else none
def numOk (s : Tx) : Bool := !(decide (s = []) || decide (9 < s.length) || (decide (s.head? = some 48) && decide (1 < s.length)))
def numF (s : Tx) : Int × Bool := if numOk s then (match digs s 0 with | some n => ((n : Int), true) | none => (0, false)) else (0, false)
def symF : Tx → Sym × Bool
  | [] => ((0, 0), false)
  | b :: r => if b = 116 then ((1, (numF r).1), (numF r).2) else if b = 110 then ((2, (numF r).1), (numF r).2) else ((0, 0), false)
/-- up to the first c, and behind it -/
def cutF (c : UInt8) : Tx → Tx × Tx × Bool
  | [] => ([], [], false)
  | b :: r => if b = c then ([], r, true) else (b :: (cutF c r).1, (cutF c r).2.1, (cutF c r).2.2)
/-- a word up to the next space, what comes from there on -/
def wordF : Tx → Tx × Tx
  | [] => ([], [])
  | b :: r => if b = 32 then ([], b :: r) else (b :: (wordF r).1, (wordF r).2)
/-- symbols of a body; none: it isn't one -/
def bodyF : Nat → Tx → List Sym → Option (List Sym)
  | _, [], out => some out
  | 0, _ :: _, _ => none
  | f + 1, b :: r, out => if b ≠ 32 then none else if (symF (wordF r).1).2 then bodyF f (wordF r).2 (out ++ [(symF (wordF r).1).1]) else none
def prodF (line : Tx) : Prod × Bool :=
  if (cutF 58 line).2.2 = true ∧ (numF (cutF 58 line).1).2 = true then
    match bodyF line.length (cutF 58 line).2.1 [] with
    | some b => (((numF (cutF 58 line).1).1, b), true)
    | none => ((0, []), false)
  else ((0, []), false)
/-- productions, line by line -/
def linesF : Nat → Tx → Int → List Prod → List Prod × Int
  | _, [], _, out => (out, 0)
  | 0, _ :: _, at_, out => (out, at_)
  | f + 1, b :: r, at_, out =>
    if (cutF 10 (b :: r)).2.2 = true ∧ (prodF (cutF 10 (b :: r)).1).2 = true then linesF f (cutF 10 (b :: r)).2.1 (at_ + 1) (out ++ [(prodF (cutF 10 (b :: r)).1).1]) else (out, at_)
def symT (x : Sym) : Tx := 32 :: (if x.1 = 1 then 116 else 110) :: dec x.2.toNat
def prodT (p : Prod) : Tx := dec p.1.toNat ++ (58 :: (p.2.flatMap symT ++ [10]))
theorem dec_num : ∀ n, n < 100 → numF (dec n) = ((n : Int), true) := by decide
theorem dec_bytes : ∀ n, n < 100 → (dec n).all isDig = true := by decide
theorem dec_len (n : Nat) : 0 < (dec n).length ∧ (dec n).length ≤ 2 := by unfold dec; split <;> simp
/-! ### cuts -/
theorem cut_app {c : UInt8} : ∀ {a : Tx} (b : Tx), (∀ x ∈ a, x ≠ c) → cutF c (a ++ c :: b) = (a, b, true)
  | [], b, _ => by rw [List.nil_append, cutF, if_pos rfl]
  | x :: a, b, h => by
    rw [List.cons_append, cutF, if_neg (h x (List.mem_cons_self ..)), cut_app b fun y hy => h y (List.mem_cons_of_mem _ hy)]
theorem cut_eq {c : UInt8} : ∀ {s : Tx}, (cutF c s).2.2 = true → s = (cutF c s).1 ++ c :: (cutF c s).2.1
  | [], h => by cases h
  | b :: r, h => by
    rw [cutF] at h ⊢
    split at h
    · rename_i e; rw [if_pos e, e]; rfl
    · rename_i e
      rw [if_neg e]
      show b :: r = b :: ((cutF c r).1 ++ c :: (cutF c r).2.1)
      rw [← cut_eq (s := r) h]
theorem cut_len {c : UInt8} {s : Tx} (h : (cutF c s).2.2 = true) : (cutF c s).1.length + (cutF c s).2.1.length + 1 = s.length := by
  have := congrArg List.length (cut_eq h)
  rw [List.length_append, List.length_cons] at this
  omega
theorem word_app : ∀ {a : Tx} {b : Tx}, (∀ x ∈ a, x ≠ 32) → (b = [] ∨ ∃ r, b = 32 :: r) → wordF (a ++ b) = (a, b)
  | [], b, _, hb => by
    rcases hb with rfl | ⟨r, rfl⟩
    · rfl
    · rw [List.nil_append, wordF, if_pos rfl]
  | x :: a, b, h, hb => by
    rw [List.cons_append, wordF, if_neg (h x (List.mem_cons_self ..)), word_app (fun y hy => h y (List.mem_cons_of_mem _ hy)) hb]
theorem dig_ne {n : Nat} (hn : n < 100) {c : UInt8} (hc : c.toNat < 48 ∨ 57 < c.toNat) : ∀ x ∈ dec n, x ≠ c := by
  intro x hx e
  have := List.all_eq_true.1 (dec_bytes n hn) x hx
  subst e
  unfold isDig at this
  simp only [Bool.and_eq_true, decide_eq_true_eq] at this
  omega
/-! ### there and back -/
theorem sym_back {t n : Int} {x : Sym} (h : right t n x = true) (ht : t ≤ 30) (hn : n ≤ 20) : symF ((if x.1 = 1 then 116 else 110) :: dec x.2.toNat) = (x, true) ∧ 0 ≤ x.2 ∧ x.2 < 100 := by
  obtain ⟨k, m⟩ := x
  unfold right at h
  dsimp only at h ⊢
  by_cases c1 : k = 1
  · subst c1
    rw [if_pos rfl] at h
    simp only [Bool.and_eq_true, decide_eq_true_eq] at h
    rw [if_pos rfl, symF, if_pos rfl, dec_num _ (by omega)]
    exact ⟨by dsimp only; rw [Int.toNat_of_nonneg h.1], h.1, by omega⟩
  · rw [if_neg c1] at h
    by_cases c2 : k = 2
    · subst c2
      rw [if_pos rfl] at h
      simp only [Bool.and_eq_true, decide_eq_true_eq] at h
      rw [if_neg c1, symF, if_neg (by decide), if_pos rfl, dec_num _ (by omega)]
      exact ⟨by dsimp only; rw [Int.toNat_of_nonneg h.1], h.1, by omega⟩
    · rw [if_neg c2] at h; cases h
theorem body_back {t n : Int} (ht : t ≤ 30) (hn : n ≤ 20) : ∀ (l : List Sym) (f : Nat) (out : List Sym), (∀ x ∈ l, right t n x = true) → l.length ≤ f → bodyF f (l.flatMap symT) out = some (out ++ l)
  | [], f, out, _, _ => by rw [List.flatMap_nil, bodyF, List.append_nil]
  | x :: l, 0, out, _, h => by simp at h
  | x :: l, f + 1, out, hx, h => by
    obtain ⟨h1, h2, h3⟩ := sym_back (hx x (List.mem_cons_self ..)) ht hn
    have hl : l.flatMap symT = [] ∨ ∃ r, l.flatMap symT = 32 :: r := by
      cases l with
      | nil => exact .inl rfl
      | cons y l => exact .inr ⟨_, rfl⟩
    rw [List.flatMap_cons, symT, List.cons_append, List.cons_append, bodyF, if_neg (by simp)]
    have hw : wordF ((if x.1 = 1 then 116 else 110) :: (dec x.2.toNat ++ l.flatMap symT)) = ((if x.1 = 1 then 116 else 110) :: dec x.2.toNat, l.flatMap symT) := by
      rw [← List.cons_append]
      refine word_app (fun y hy => ?_) hl
      rcases List.mem_cons.1 hy with rfl | hy
      · split <;> decide
      · exact dig_ne (by omega) (by decide) y hy
    rw [hw]
    dsimp only
    rw [h1, if_pos rfl, body_back ht hn l f _ (fun y hy => hx y (List.mem_cons_of_mem _ hy)) (by simp at h; omega), List.append_assoc]
    rfl
theorem sym_no10 {t n : Int} {x : Sym} (h : right t n x = true) (ht : t ≤ 30) (hn : n ≤ 20) : ∀ y ∈ symT x, y ≠ 10 := by
  obtain ⟨_, h2, h3⟩ := sym_back h ht hn
  intro y hy
  unfold symT at hy
  rcases List.mem_cons.1 hy with rfl | hy
  · decide
  · rcases List.mem_cons.1 hy with rfl | hy
    · split <;> decide
    · exact dig_ne (by omega) (by decide) y hy
theorem sym_len (x : Sym) : 0 < (symT x).length ∧ (symT x).length ≤ 4 := by have := dec_len x.2.toNat; unfold symT; simp; omega
theorem syms_len : ∀ l : List Sym, l.length ≤ (l.flatMap symT).length ∧ (l.flatMap symT).length ≤ 4 * l.length
  | [] => ⟨Nat.le_refl _, Nat.le_refl _⟩
  | x :: l => by
    have h1 := sym_len x
    have h2 := syms_len l
    rw [List.flatMap_cons, List.length_append, List.length_cons]
    omega
theorem prod_back {t n : Int} (ht : t ≤ 30) (hn : n ≤ 20) {p : Prod} (h : prodE t n p = 0) : prodF (dec p.1.toNat ++ (58 :: p.2.flatMap symT)) = (p, true) ∧ (∀ y ∈ dec p.1.toNat ++ (58 :: p.2.flatMap symT), y ≠ 10) := by
  obtain ⟨h1, h2, h3, h4⟩ := prodE_ok h
  have hp : p.1.toNat < 100 := by omega
  refine ⟨?_, fun y hy => ?_⟩
  · unfold prodF
    rw [cut_app _ (dig_ne hp (by decide)), dec_num _ hp]
    dsimp only
    rw [if_pos ⟨rfl, rfl⟩, body_back ht hn p.2 _ [] h4 (by have := (syms_len p.2).1; rw [List.length_append, List.length_cons]; omega)]
    dsimp only
    rw [Int.toNat_of_nonneg h2]; rfl
  · rcases List.mem_append.1 hy with hy | hy
    · exact dig_ne hp (by decide) y hy
    · rcases List.mem_cons.1 hy with rfl | hy
      · decide
      · obtain ⟨x, hx, hy⟩ := List.mem_flatMap.1 hy
        exact sym_no10 (h4 x hx) ht hn y hy
theorem lines_back {t n : Int} (ht : t ≤ 30) (hn : n ≤ 20) : ∀ (l : List Prod) (f : Nat) (a : Int) (out : List Prod), (∀ p ∈ l, prodE t n p = 0) → l.length ≤ f → linesF f (l.flatMap prodT) a out = (out ++ l, 0)
  | [], f, a, out, _, _ => by rw [List.flatMap_nil, linesF, List.append_nil]
  | p :: l, 0, a, out, _, h => by simp at h
  | p :: l, f + 1, a, out, hp, h => by
    obtain ⟨h1, h2⟩ := prod_back ht hn (hp p (List.mem_cons_self ..))
    have e : (p :: l).flatMap prodT = (dec p.1.toNat ++ (58 :: p.2.flatMap symT)) ++ 10 :: l.flatMap prodT := by
      rw [List.flatMap_cons, prodT]; simp
    rw [e]
    have hc := cut_app (l.flatMap prodT) h2
    have hne : ∃ b r, (dec p.1.toNat ++ (58 :: p.2.flatMap symT)) ++ 10 :: l.flatMap prodT = b :: r := by
      cases hd : dec p.1.toNat with
      | nil => have := (dec_len p.1.toNat).1; rw [hd] at this; cases this
      | cons b r => exact ⟨b, _, rfl⟩
    obtain ⟨b, r, hbr⟩ := hne
    rw [hbr] at hc ⊢
    rw [linesF, hc]
    dsimp only
    rw [h1, if_pos ⟨rfl, rfl⟩, lines_back ht hn l f _ _ (fun q hq => hp q (List.mem_cons_of_mem _ hq)) (by simp at h; omega), List.append_assoc]
    rfl
end Go.Proofs.YtakiohldgcifeaaDoor.gramL

/- SpecL -/
namespace Go.Proofs.YtakiohldgcifeaaDoor.specL
open classL rexL
open gramL (cutF cut_app)
abbrev Bs := List UInt8
abbrev Wd := Bs × Rx
abbrev Rl := Bs × List Bs
structure Sp where
  words : List Wd
  rules : List Rl
/-- is it a name? -/
def nameL (b : UInt8) : Bool := decide (97 ≤ b.toNat) && decide (b.toNat ≤ 122)
def namedB (s : Bs) : Bool := decide (s ≠ []) && decide (s.length ≤ 12) && s.all nameL
def wordsF : List Wd → List Bs → Int × List Bs
  | [], of => (0, of)
  | w :: r, of => if w.1 ≠ [] ∧ namedB w.1 = false then (1, of) else if eng.chkX w.2 ≠ 0 then (eng.chkX w.2, of) else if w.1 ∈ of then (11, of) else wordsF r (if w.1 = [] then of else of ++ [w.1])
def headsF : List Rl → List Bs → Int
  | [], _ => 0
  | r :: l, of => if namedB r.1 = false then 1 else if r.1 ∈ of then 11 else headsF l of
def bodyOk (of hd : List Bs) (l : List Bs) : Bool := l.all fun x => decide (x ∈ of) || decide (x ∈ hd)
def bodiesOk (of hd : List Bs) (l : List Rl) : Bool := l.all fun r => bodyOk of hd r.2
/-- what Check says -/
def checkS (s : Sp) : Int :=
  if 60 < s.words.length ∨ 60 < s.words.length + s.rules.length then 2
  else if (wordsF s.words []).1 ≠ 0 then (wordsF s.words []).1
  else if headsF s.rules (wordsF s.words []).2 ≠ 0 then headsF s.rules (wordsF s.words []).2
  else if bodiesOk (wordsF s.words []).2 (s.rules.map (·.1)) s.rules = true then 0 else 11
/-- an expression's text -/
noncomputable def txtX (r : Rx) : Bs := open Classical in if h : ∃ e, r = emb e then body h.choose else []
theorem txt_emb (e : Re) : txtX (emb e) = body e := by
  have h : ∃ e', emb e = emb e' := ⟨e, rfl⟩
  unfold txtX
  rw [dif_pos h]
  rw [eng.emb_inj h.choose_spec.symm]
def skT : Bs := [115, 107, 105, 112, 32]
def tkT : Bs := [116, 111, 107, 101, 110, 32]
def ruT : Bs := [114, 117, 108, 101, 32]
noncomputable def lineW (w : Wd) : Bs := if w.1 = [] then skT ++ txtX w.2 else tkT ++ (w.1 ++ (32 :: txtX w.2))
def lineR (r : Rl) : Bs := ruT ++ (r.1 ++ ([32, 61] ++ r.2.flatMap (32 :: ·)))
noncomputable def writeS (s : Sp) : Bs := s.words.flatMap (fun w => lineW w ++ [10]) ++ s.rules.flatMap fun r => lineR r ++ [10]
/-- without what it begins with -/
def preF (p s : Bs) : Bs × Bool := if s.take p.length = p then (s.drop p.length, true) else (s, false)
def zX : Rx := .mk 0 C4.zero []
def parseT (s : Bs) : Rx × Int × Int := (parseF s).getD (zX, 0, 0)
def spWord (line : Bs) : Wd × Bool × Int :=
  if (preF skT line).2 = true then (([], (parseT (preF skT line).1).1), true, (parseT (preF skT line).1).2.2)
  else if (preF tkT line).2 = true then
    if (cutF 32 (preF tkT line).1).2.2 = true ∧ namedB (cutF 32 (preF tkT line).1).1 = true then
      (((cutF 32 (preF tkT line).1).1, (parseT (cutF 32 (preF tkT line).1).2.1).1), true, (parseT (cutF 32 (preF tkT line).1).2.1).2.2)
    else (([], zX), true, 6)
  else (([], zX), false, 0)
def splitF : Bs → List Bs
  | [] => [[]]
  | b :: r => if b = 32 then [] :: splitF r else match splitF r with
    | [] => [[b]]
    | h :: t => (b :: h) :: t
def spBody (b : Bs) : Option (List Bs) :=
  match b with
  | [] => some []
  | x :: r => if x ≠ 32 then none else if (splitF r).all namedB = true then some (splitF r) else none
def cutE (s : Bs) : Bs × Bs × Bool := Lib.cut s [32, 61]
def spRule (line : Bs) : Rl × Bool :=
  if (preF ruT line).2 = true ∧ (cutE (preF ruT line).1).2.2 = true ∧ namedB (cutE (preF ruT line).1).1 = true then
    match spBody (cutE (preF ruT line).1).2.1 with
    | some l => (((cutE (preF ruT line).1).1, l), true)
    | none => (([], []), false)
  else (([], []), false)
/-- what a line's word says, where so many rules stand ahead -/
def errW (line : Bs) (n : Nat) : Int := if (spWord line).2.1 = true ∧ 0 < n then 6 else (spWord line).2.2
def spLines : Nat → Bs → Int → List Wd → List Rl → (List Wd × List Rl) × Int × Int
  | _, [], at_, ws, rs => ((ws, rs), at_, 0)
  | 0, _ :: _, at_, ws, rs => ((ws, rs), at_, 6)
  | f + 1, b :: r, at_, ws, rs =>
    if (cutF 10 (b :: r)).2.2 = false then ((ws, rs), at_, 6)
    else if errW (cutF 10 (b :: r)).1 rs.length ≠ 0 then ((ws, rs), at_, errW (cutF 10 (b :: r)).1 rs.length)
    else if (spWord (cutF 10 (b :: r)).1).2.1 = true then spLines f (cutF 10 (b :: r)).2.1 (at_ + 1) (ws ++ [(spWord (cutF 10 (b :: r)).1).1]) rs
    else if (spRule (cutF 10 (b :: r)).1).2 = true then spLines f (cutF 10 (b :: r)).2.1 (at_ + 1) ws (rs ++ [(spRule (cutF 10 (b :: r)).1).1])
    else ((ws, rs), at_, 6)
/-- what Read says -/
def readS (s : Bs) : Sp × Int × Int :=
  if 4096 < s.length then (⟨[], []⟩, 0, 2)
  else if (spLines s.length s 1 [] []).2.2 ≠ 0 then (⟨[], []⟩, (spLines s.length s 1 [] []).2)
  else if checkS ⟨(spLines s.length s 1 [] []).1.1, (spLines s.length s 1 [] []).1.2⟩ ≠ 0 then (⟨[], []⟩, 0, checkS ⟨(spLines s.length s 1 [] []).1.1, (spLines s.length s 1 [] []).1.2⟩)
  else (⟨(spLines s.length s 1 [] []).1.1, (spLines s.length s 1 [] []).1.2⟩, 0, 0)

/-! ### no line's end within a line -/
theorem name_ne {s : Bs} (h : namedB s = true) {c : UInt8} (hc : c.toNat < 97) : ∀ x ∈ s, x ≠ c := fun x hx e => by
  unfold namedB at h
  simp only [Bool.and_eq_true, List.all_eq_true] at h
  have := h.2 x hx
  unfold nameL at this
  simp only [Bool.and_eq_true, decide_eq_true_eq] at this
  subst e; omega
theorem hex_ne : ∀ n, hexD n ≠ 10 := fun n => by
  unfold hexD
  by_cases h : n < 16
  · have : ∀ n, n < 16 → hexL.getD n 0 ≠ 10 := by decide
    exact this n h
  · rw [List.getD_eq_getElem?_getD, List.getElem?_eq_none (by show 16 ≤ n; omega)]; decide
theorem char_no (b : UInt8) : ∀ x ∈ charT b, x ≠ 10 := fun x hx e => by
  subst e
  unfold charT at hx
  split at hx
  · revert hx; decide
  · rename_i h
    split at hx
    · revert hx; decide
    · split at hx
      · revert hx; decide
      · split at hx
        · simp only [List.mem_cons, List.not_mem_nil, or_false] at hx
          rcases hx with hx | hx | hx | hx
          · revert hx; decide
          · revert hx; decide
          · exact hex_ne _ hx.symm
          · exact hex_ne _ hx.symm
        · split at hx
          · simp only [List.mem_cons, List.not_mem_nil, or_false] at hx
            rcases hx with hx | hx
            · revert hx; decide
            · exact h hx.symm
          · simp only [List.mem_cons, List.not_mem_nil, or_false] at hx
            exact h hx.symm
theorem item_no (b k : Nat) : ∀ x ∈ itemT b k, x ≠ 10 := fun x hx => by
  unfold itemT at hx
  simp only [List.mem_append] at hx
  rcases hx with hx | hx | hx
  · exact char_no _ x hx
  · split at hx
    · simp at hx; subst hx; decide
    · cases hx
  · split at hx
    · exact char_no _ x hx
    · cases hx
theorem items_no : ∀ (f : Nat) (l : List Nat), ∀ x ∈ itemsT f l, x ≠ 10
  | 0, _, _, hx => by cases hx
  | _ + 1, [], _, hx => by cases hx
  | f + 1, b :: r, x, hx => by
    rw [itemsT] at hx
    rcases List.mem_append.1 hx with hx | hx
    · exact item_no _ _ x hx
    · exact items_no f _ x hx
theorem class_no (c : C4) : ∀ x ∈ classT c, x ≠ 10 := fun x hx => by
  unfold classT at hx
  split at hx
  · exact char_no _ x hx
  · split at hx
    · simp at hx; subst hx; decide
    · split at hx
      · simp only [List.mem_append, List.mem_cons, List.not_mem_nil, or_false] at hx
        rcases hx with (rfl | rfl) | hx | rfl
        · decide
        · decide
        · exact items_no _ _ x hx
        · decide
      · simp only [List.mem_append, List.mem_cons, List.not_mem_nil, or_false] at hx
        rcases hx with rfl | hx | rfl
        · decide
        · exact items_no _ _ x hx
        · decide
theorem wrap_no {b : Bool} {t : Bs} (h : ∀ x ∈ t, x ≠ 10) : ∀ x ∈ wrap b t, x ≠ 10 := fun x hx => by
  unfold wrap at hx
  split at hx
  · simp only [List.mem_append, List.mem_cons, List.not_mem_nil, or_false] at hx
    rcases hx with rfl | hx | rfl
    · decide
    · exact h x hx
    · decide
  · exact h x hx
theorem body_no : ∀ (e : Re), ∀ x ∈ body e, x ≠ 10
  | .empty, x, hx => by simp [body] at hx; rcases hx with rfl | rfl <;> decide
  | .none, x, hx => by simp [body] at hx; rcases hx with rfl | rfl <;> decide
  | .byte c, x, hx => class_no c x hx
  | .star a, x, hx => by
    simp only [body, List.mem_append, List.mem_cons, List.not_mem_nil, or_false] at hx
    rcases hx with hx | rfl
    · exact wrap_no (body_no a) x hx
    · decide
  | .cat a b, x, hx => by
    simp only [body, List.mem_append] at hx
    rcases hx with hx | hx
    · exact wrap_no (body_no a) x hx
    · exact wrap_no (body_no b) x hx
  | .alt a b, x, hx => by
    simp only [body, List.mem_append, List.mem_cons, List.not_mem_nil, or_false] at hx
    rcases hx with hx | rfl | hx
    · exact wrap_no (body_no a) x hx
    · decide
    · exact wrap_no (body_no b) x hx
/-! ### a line is read as it was -/
theorem pre_app (p s : Bs) : preF p (p ++ s) = (s, true) := by
  unfold preF
  rw [List.take_left', if_pos rfl, List.drop_left'] <;> rfl
theorem pre_tk (s : Bs) : (preF skT (tkT ++ s)).2 = false := by unfold preF; rw [if_neg (by intro h; cases h)]
theorem pre_ru (s : Bs) : (preF skT (ruT ++ s)).2 = false ∧ (preF tkT (ruT ++ s)).2 = false := by
  unfold preF
  constructor <;> rw [if_neg (by intro h; cases h)]
theorem parse_txt {r : Rx} (h : eng.chkX r = 0) : parseT (txtX r) = if 300 < (txtX r).length then (zX, 0, 2) else (r, 0, 0) := by
  obtain ⟨e, rfl, hf⟩ := eng.chkX_re h
  rw [txt_emb]
  unfold parseT
  rw [parse_back hf]
  rfl
/-- what is known of a word that Check takes -/
def okW (w : Wd) : Prop := (w.1 = [] ∨ namedB w.1 = true) ∧ eng.chkX w.2 = 0
theorem words_ok : ∀ {l : List Wd} {of : List Bs}, (wordsF l of).1 = 0 → ∀ w ∈ l, okW w
  | [], _, _, _, hw => by cases hw
  | w :: r, of, h, u, hu => by
    rw [wordsF] at h
    split at h
    · cases h
    · rename_i c1
      split at h
      · rename_i c2; exact absurd h c2
      · rename_i c2
        split at h
        · cases h
        · rcases List.mem_cons.1 hu with rfl | hu
          · refine ⟨?_, Classical.not_not.1 c2⟩
            by_cases e : u.1 = []
            · exact .inl e
            · right
              cases hb : namedB u.1 with
              | true => rfl
              | false => exact absurd ⟨e, hb⟩ c1
          · exact words_ok h u hu
theorem words_names : ∀ {l : List Wd} {of : List Bs}, (wordsF l of).1 = 0 → (∀ x ∈ of, namedB x = true) → ∀ x ∈ (wordsF l of).2, namedB x = true
  | [], _, _, h, x, hx => h x hx
  | w :: r, of, h, ho, x, hx => by
    have hw := words_ok h w (List.mem_cons_self ..)
    rw [wordsF] at h hx
    split at h
    · cases h
    · rename_i c1
      rw [if_neg c1] at hx
      split at h
      · rename_i c2; exact absurd h c2
      · rename_i c2
        rw [if_neg c2] at hx
        split at h
        · cases h
        · rename_i c3
          rw [if_neg c3] at hx
          refine words_names h (fun y hy => ?_) x hx
          split at hy
          · exact ho y hy
          · rename_i c4
            rcases List.mem_append.1 hy with hy | hy
            · exact ho y hy
            · simp at hy; subst hy; exact hw.1.resolve_left c4
theorem heads_named : ∀ {l : List Rl} {of : List Bs}, headsF l of = 0 → ∀ r ∈ l, namedB r.1 = true
  | [], _, _, _, h => by cases h
  | r :: l, of, h, u, hu => by
    rw [headsF] at h
    split at h
    · cases h
    · rename_i c1
      split at h
      · cases h
      · rcases List.mem_cons.1 hu with rfl | hu
        · simpa using c1
        · exact heads_named h u hu
theorem word_line {w : Wd} (h : okW w) : spWord (lineW w) = if 300 < (txtX w.2).length then ((w.1, zX), true, 2) else (w, true, 0) := by
  obtain ⟨n, r⟩ := w
  obtain ⟨h1, h2⟩ := h
  have hp := parse_txt h2
  dsimp only at *
  unfold spWord lineW
  by_cases e : n = []
  · subst e
    simp only [if_true, pre_app, hp]
    split <;> rfl
  · simp only [if_neg e]
    rw [pre_tk]
    have hn := h1.resolve_left e
    simp only [Bool.false_eq_true, if_false, pre_app, if_true, cut_app (c := 32) (a := n) (txtX r) (name_ne hn (by decide)), hn, and_self, hp]
    split <;> rfl
theorem split_flat : ∀ {l : List Bs} {n : Bs}, (∀ x ∈ n, x ≠ 32) → (∀ m ∈ l, ∀ x ∈ m, x ≠ 32) → splitF (n ++ l.flatMap (32 :: ·)) = n :: l
  | l, b :: n, hn, hl => by
    rw [List.cons_append, splitF, if_neg (hn b (List.mem_cons_self ..)), split_flat (n := n) (fun x hx => hn x (List.mem_cons_of_mem _ hx)) hl]
  | [], [], _, _ => rfl
  | m :: l, [], _, hl => by
    rw [List.nil_append, List.flatMap_cons, List.cons_append, splitF, if_pos rfl, split_flat (hl m (List.mem_cons_self ..)) fun q hq => hl q (List.mem_cons_of_mem _ hq)]
theorem index_app : ∀ {a : Bs} (b : Bs), (∀ x ∈ a, x ≠ 32) → Lib.index (a ++ (32 :: 61 :: b)) [32, 61] = (a.length : Int)
  | [], b, _ => by simp [Lib.index, List.isPrefixOf]
  | c :: a, b, h => by
    have ih := index_app (a := a) b fun x hx => h x (List.mem_cons_of_mem _ hx)
    have hc := h c (List.mem_cons_self ..)
    rw [List.cons_append, Lib.index, ih]
    have h1 : List.isPrefixOf [32, 61] (c :: (a ++ 32 :: 61 :: b)) = false := by
      simp only [List.isPrefixOf, Bool.and_eq_false_imp, beq_iff_eq]
      intro e; exact absurd e.symm hc
    have h2 : ((a.length : Int) == -1) = false := by rw [beq_eq_false_iff_ne]; omega
    rw [h1, h2]
    simp
theorem cutE_app {a : Bs} (b : Bs) (h : ∀ x ∈ a, x ≠ 32) : cutE (a ++ (32 :: 61 :: b)) = (a, b, true) := by
  unfold cutE Lib.cut
  rw [index_app b h, if_pos (Int.natCast_nonneg _), Int.toNat_natCast]
  rw [List.take_left' rfl]
  have : (a ++ 32 :: 61 :: b).drop (a.length + [(32 : UInt8), 61].length) = b := by
    rw [← List.drop_drop, List.drop_left' rfl]; rfl
  rw [this]
def okR (r : Rl) : Prop := namedB r.1 = true ∧ ∀ x ∈ r.2, namedB x = true
theorem rule_line {r : Rl} (h : okR r) : spRule (lineR r) = (r, true) ∧ spWord (lineR r) = (([], zX), false, 0) := by
  obtain ⟨n, l⟩ := r
  obtain ⟨h1, h2⟩ := h
  dsimp only at *
  constructor
  · unfold spRule lineR
    have hc : cutE (n ++ ([32, 61] ++ l.flatMap (32 :: ·))) = (n, l.flatMap (32 :: ·), true) := cutE_app _ (name_ne h1 (by decide))
    simp only [pre_app, hc, h1, and_self, if_true]
    cases l with
    | nil => rfl
    | cons m l =>
      have hs := split_flat (n := m) (l := l) (name_ne (h2 m (List.mem_cons_self ..)) (by decide)) fun q hq => name_ne (h2 q (List.mem_cons_of_mem _ hq)) (by decide)
      have hall : (m :: l).all namedB = true := List.all_eq_true.2 h2
      have hb : spBody ((m :: l).flatMap (32 :: ·)) = some (m :: l) := by
        show (if (32 : UInt8) ≠ 32 then none else if (splitF (m ++ l.flatMap (32 :: ·))).all namedB = true then some (splitF (m ++ l.flatMap (32 :: ·))) else none) = some (m :: l)
        rw [hs, if_neg (by decide), if_pos hall]
      rw [hb]
  · unfold spWord lineR
    rw [(pre_ru _).1, (pre_ru _).2]
    simp
theorem sk_no : ∀ x ∈ skT, x ≠ 10 := by unfold skT; decide
theorem tk_no : ∀ x ∈ tkT, x ≠ 10 := by unfold tkT; decide
theorem ru_no : ∀ x ∈ ruT, x ≠ 10 := by unfold ruT; decide
theorem lineW_no {w : Wd} (h : okW w) : ∀ x ∈ lineW w, x ≠ 10 := fun x hx => by
  obtain ⟨e, he, -⟩ := eng.chkX_re h.2
  have ht : ∀ x ∈ txtX w.2, x ≠ 10 := by rw [he, txt_emb]; exact body_no e
  unfold lineW at hx
  split at hx
  · rcases List.mem_append.1 hx with hx | hx
    · exact sk_no x hx
    · exact ht x hx
  · rename_i hn
    rcases List.mem_append.1 hx with hx | hx
    · exact tk_no x hx
    · rcases List.mem_append.1 hx with hx | hx
      · exact name_ne (h.1.resolve_left hn) (by decide) x hx
      · rcases List.mem_cons.1 hx with rfl | hx
        · decide
        · exact ht x hx
theorem lineR_no {r : Rl} (h : okR r) : ∀ x ∈ lineR r, x ≠ 10 := fun x hx => by
  unfold lineR at hx
  rcases List.mem_append.1 hx with hx | hx
  · exact ru_no x hx
  · rcases List.mem_append.1 hx with hx | hx
    · exact name_ne h.1 (by decide) x hx
    · rcases List.mem_append.1 hx with hx | hx
      · simp only [List.mem_cons, List.not_mem_nil, or_false] at hx
        rcases hx with rfl | rfl <;> decide
      · obtain ⟨m, hm, hx⟩ := List.mem_flatMap.1 hx
        rcases List.mem_cons.1 hx with rfl | hx
        · decide
        · exact name_ne (h.2 m hm) (by decide) x hx
theorem lineW_pos (w : Wd) : ∃ b r, lineW w = b :: r := by
  unfold lineW
  split
  · exact ⟨_, _, rfl⟩
  · exact ⟨_, _, rfl⟩
/-- rules, one a line -/
theorem rules_back : ∀ {l : List Rl} {f : Nat} {a : Int} {ws : List Wd} {rs : List Rl}, (∀ r ∈ l, okR r) → (l.flatMap fun r => lineR r ++ [10]).length ≤ f → (spLines f (l.flatMap fun r => lineR r ++ [10]) a ws rs).1 = (ws, rs ++ l) ∧ (spLines f (l.flatMap fun r => lineR r ++ [10]) a ws rs).2.2 = 0
  | [], f, a, ws, rs, _, _ => by cases f <;> simp [spLines]
  | r :: l, f, a, ws, rs, h, hf => by
    have hr := h r (List.mem_cons_self ..)
    have hc := cut_app (c := 10) (a := lineR r) (l.flatMap fun r => lineR r ++ [10]) (lineR_no hr)
    have he : (r :: l).flatMap (fun r => lineR r ++ [10]) = 114 :: (lineR r ++ 10 :: l.flatMap fun r => lineR r ++ [10]).tail := by
      rw [List.flatMap_cons, List.append_assoc]; rfl
    have he2 : 114 :: (lineR r ++ 10 :: l.flatMap fun r => lineR r ++ [10]).tail = lineR r ++ 10 :: l.flatMap fun r => lineR r ++ [10] := rfl
    rw [he] at hf ⊢
    obtain ⟨f, rfl⟩ : ∃ k, f = k + 1 := ⟨f - 1, by simp only [List.length_cons] at hf; omega⟩
    rw [spLines, he2, hc]
    obtain ⟨h1, h2⟩ := rule_line hr
    have hE : errW (lineR r) rs.length = 0 := by unfold errW; rw [h2]; simp
    simp only [hE, h1, h2]
    simp only [Bool.true_eq_false, if_false, ne_eq, not_true_eq_false, Bool.false_eq_true, if_true]
    have := rules_back (l := l) (f := f) (a := a + 1) (ws := ws) (rs := rs ++ [r]) (fun q hq => h q (List.mem_cons_of_mem _ hq)) (by
      rw [he2] at hf
      simp only [List.length_append, List.length_cons] at hf; omega)
    rwa [List.append_assoc] at this
/-- words, one a line, then rules -/
theorem lines_back {rl : List Rl} (hR : ∀ r ∈ rl, okR r) : ∀ {l : List Wd} {f : Nat} {a : Int} {ws : List Wd}, (∀ w ∈ l, okW w) → ((l.flatMap fun w => lineW w ++ [10]) ++ rl.flatMap fun r => lineR r ++ [10]).length ≤ f →
    ((spLines f ((l.flatMap fun w => lineW w ++ [10]) ++ rl.flatMap fun r => lineR r ++ [10]) a ws []).1 = (ws ++ l, rl) ∧ (spLines f ((l.flatMap fun w => lineW w ++ [10]) ++ rl.flatMap fun r => lineR r ++ [10]) a ws []).2.2 = 0) ∨
    ((spLines f ((l.flatMap fun w => lineW w ++ [10]) ++ rl.flatMap fun r => lineR r ++ [10]) a ws []).2.2 = 2 ∧ ∃ w ∈ l, 300 < (txtX w.2).length)
  | [], f, a, ws, _, hf => by
    left
    rw [List.flatMap_nil, List.nil_append] at hf ⊢
    have := rules_back (l := rl) (f := f) (a := a) (ws := ws) (rs := []) hR hf
    rw [List.append_nil]
    rwa [List.nil_append] at this
  | w :: l, f, a, ws, h, hf => by
    have hw := h w (List.mem_cons_self ..)
    obtain ⟨b, t, hb⟩ := lineW_pos w
    have hc := cut_app (c := 10) (a := lineW w) ((l.flatMap fun w => lineW w ++ [10]) ++ rl.flatMap fun r => lineR r ++ [10]) (lineW_no hw)
    have he : ((w :: l).flatMap fun w => lineW w ++ [10]) ++ (rl.flatMap fun r => lineR r ++ [10]) = b :: (t ++ 10 :: ((l.flatMap fun w => lineW w ++ [10]) ++ rl.flatMap fun r => lineR r ++ [10])) := by
      rw [List.flatMap_cons, hb]; simp
    have he2 : b :: (t ++ 10 :: ((l.flatMap fun w => lineW w ++ [10]) ++ rl.flatMap fun r => lineR r ++ [10])) = lineW w ++ 10 :: ((l.flatMap fun w => lineW w ++ [10]) ++ rl.flatMap fun r => lineR r ++ [10]) := by rw [hb]; rfl
    rw [he] at hf ⊢
    obtain ⟨f, rfl⟩ : ∃ k, f = k + 1 := ⟨f - 1, by simp only [List.length_cons] at hf; omega⟩
    rw [spLines, he2, hc]
    have h1 := word_line hw
    by_cases c : 300 < (txtX w.2).length
    · right
      rw [if_pos c] at h1
      have hE : errW (lineW w) ([] : List Rl).length = 2 := by unfold errW; rw [h1]; simp
      simp only [hE]
      exact ⟨by simp, w, List.mem_cons_self .., c⟩
    · rw [if_neg c] at h1
      have hE : errW (lineW w) ([] : List Rl).length = 0 := by unfold errW; rw [h1]; simp
      simp only [hE, h1]
      simp only [Bool.true_eq_false, if_false, ne_eq, not_true_eq_false, if_true]
      have := lines_back hR (l := l) (f := f) (a := a + 1) (ws := ws ++ [w]) (fun q hq => h q (List.mem_cons_of_mem _ hq)) (by
        rw [he2] at hf
        simp only [List.length_append, List.length_cons] at hf ⊢; omega)
      rw [List.append_assoc, List.singleton_append] at this
      exact this.imp id fun ⟨a1, u, hu, a2⟩ => ⟨a1, u, List.mem_cons_of_mem _ hu, a2⟩
/-- what Check takes -/
theorem check_ok {s : Sp} (h : checkS s = 0) : s.words.length ≤ 60 ∧ s.words.length + s.rules.length ≤ 60 ∧ (∀ w ∈ s.words, okW w) ∧ (∀ r ∈ s.rules, okR r) := by
  unfold checkS at h
  split at h
  · cases h
  · rename_i c0
    split at h
    · rename_i c1; exact absurd h c1
    · rename_i c1
      have c1 := Classical.not_not.1 c1
      split at h
      · rename_i c2; exact absurd h c2
      · rename_i c2
        have c2 := Classical.not_not.1 c2
        split at h
        · rename_i c3
          refine ⟨by omega, by omega, words_ok c1, fun r hr => ⟨heads_named c2 r hr, fun x hx => ?_⟩⟩
          have h3 := List.all_eq_true.1 (List.all_eq_true.1 c3 r hr) x hx
          simp only [Bool.or_eq_true, decide_eq_true_eq] at h3
          rcases h3 with h3 | h3
          · exact words_names c1 (fun _ h => by cases h) x h3
          · obtain ⟨q, hq, rfl⟩ := List.mem_map.1 h3
            exact heads_named c2 q hq
        · cases h
/-- what is written is read as it was, if it isn't too long -/
theorem spec_back {s : Sp} (h : checkS s = 0) : readS (writeS s) = (s, 0, 0) ∨ (∃ a, readS (writeS s) = (⟨[], []⟩, a, 2) ∧ ((∃ w ∈ s.words, 300 < (txtX w.2).length) ∨ 4096 < (writeS s).length)) := by
  obtain ⟨-, -, hw, hr⟩ := check_ok h
  unfold readS
  by_cases c : 4096 < (writeS s).length
  · rw [if_pos c]; exact .inr ⟨_, rfl, .inr c⟩
  · rw [if_neg c]
    rcases lines_back hr (l := s.words) (f := (writeS s).length) (a := 1) (ws := []) hw (Nat.le_refl _) with ⟨h1, h2⟩ | ⟨h1, h2⟩
    · left
      have h1 : (spLines (writeS s).length (writeS s) 1 [] []).1 = ([] ++ s.words, s.rules) := h1
      have h2 : (spLines (writeS s).length (writeS s) 1 [] []).2.2 = 0 := h2
      rw [if_neg (by simpa using h2), h1]
      simp only [List.nil_append]
      rw [if_neg (by simpa using h)]
    · right
      have h1 : (spLines (writeS s).length (writeS s) 1 [] []).2.2 = 2 := h1
      rw [if_pos (by rw [h1]; decide)]
      refine ⟨(spLines (writeS s).length (writeS s) 1 [] []).2.1, ?_, .inl h2⟩
      rw [← h1]
theorem read_ok {t : Bs} {s : Sp} {a : Int} (h : readS t = (s, a, 0)) : checkS s = 0 ∧ a = 0 := by
  unfold readS at h
  split at h
  · cases h
  · split at h
    · rename_i c
      have := (Prod.mk.inj h).2
      rw [this] at c
      exact absurd rfl c
    · split at h
      · rename_i c
        have := (Prod.mk.inj (Prod.mk.inj h).2).2
        exact absurd this c
      · rename_i c
        obtain ⟨h1, h2⟩ := Prod.mk.inj h
        exact ⟨by rw [← h1]; exact Classical.not_not.1 c, (Prod.mk.inj h2).1.symm⟩
theorem read_no {t : Bs} {s : Sp} {a e : Int} (h : readS t = (s, a, e)) (he : e ≠ 0) : s = ⟨[], []⟩ := by
  unfold readS at h
  split at h
  · exact (Prod.mk.inj h).1.symm
  · split at h
    · exact (Prod.mk.inj h).1.symm
    · split at h
      · exact (Prod.mk.inj h).1.symm
      · exact absurd (Prod.mk.inj (Prod.mk.inj h).2).2.symm he
end Go.Proofs.YtakiohldgcifeaaDoor.specL


