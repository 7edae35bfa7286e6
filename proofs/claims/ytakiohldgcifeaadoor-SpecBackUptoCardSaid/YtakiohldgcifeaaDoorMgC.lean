/- Part 3 of what SpecBackUpto needs: RexX, RexPr, RexH, RexV, RexT, MixX, RexY. -/
import Derived.Test.YtakiohldgcifeaaDoorMgB
import Derived.WalkKit
import Derived.WalkSpells
import Derived.WalkLawsBesides
import Derived.Deep.RegionLaw
import Derived.Deep.AppendLies
import Derived.Deep.QuietTactic
import Derived.BigQuiet
import Derived.Deep.DeepCutAuto
import Derived.Lib.Hide
import Derived.Test.YtakiohldgcifeaaDoorRows
import Derived.ProofKit
import Derived.OpenShut
import Derived.ShutString
import Derived.SizedLaws
import Derived.JoinedCond
import Derived.Deep.CondSized
import Derived.Deep.Quiet
import Derived.StillTail
import Derived.Deep.LoopGhost
import Derived.Laws.BitsLemmas
import Derived.Laws.BytesString
import Derived.Test.YtakiohldgcifeaaDoorProg
import Derived.Laws.Entries
import Derived.Laws.BitsAllLaws
import Derived.Laws.StructEq
import Derived.ChangeKeysEq
import Derived.Lib.TrailingZeros
import Derived.Laws.MakeOwn
import Derived.Laws.AppendOwn
import Derived.Laws.Bits64b
import Derived.Shelf.Strings.Builder1
import Derived.Shelf.Small.Wraps
import Derived.Shelf.Strings.Cut
import Derived.Shelf.LaysM
import Derived.Shelf.Strings.Shaped
import Derived.Shelf.Strings.Split
import Derived.Lib.Strings
import Derived.Lib.Slices
import Derived.Lib.Walk
import Derived.Lib.Bytealg
import Derived.Maps.OwnSet
import Derived.DeepKeys4
import Derived.WideKeyEntry
/- RexX -/
namespace Go.Proofs.YtakiohldgcifeaaDoor.eng
open Go.RowKit kit mix classL rexL classSets
theorem u8lt {a b : UInt8} {c : Bool} (h : decide (a < b) = c) : decide ((a.toNat : Int) < (b.toNat : Int)) = c := by
  rw [← h]
  apply decide_eq_decide.2
  rw [UInt8.lt_iff_toNat_lt]
  omega
set_option maxHeartbeats 4000000 in
theorem rdChar_calls (g : Nat) (s : Txt) (st : RS) (w : World) (B : Base) (hs : s.length ≤ 1000000) (hp : st.p ≤ s.length) (hm : Mem B [rdO g s st] w) :
    Calls Tryd.prog 79 #[.pointer (some ⟨g, 0, none⟩)] w (MeetsB (byteSp g s (charS s st)) B) := by
  obtain ⟨p, o, e⟩ := st
  dsimp only at hp
  unfold charS
  dsimp only
  have hf := fun w B hm => rdFail_calls g s ⟨p, o, e⟩ 6 w B hm
  refine enterB hm (args := [.pointer (some ⟨g, 0, none⟩)]) (n := 64) Tryd.func79 rfl rfl rfl ?_
  clear hm
  repeat(first|refine qv rfl (qp rfl) rfl rfl ?_|refine TL_nil ?_|refine T_seq ?_|refine T_region ?_|refine qcT rfl ?_|refine qcF rfl ?_|refine T_skip ?_|refine T_ret ?_|refine E_then ?_|refine E_thenR ?_|refine qs rfl rfl rfl rfl rfl rfl ?_|((try refine qg rfl rfl rfl ?_);first|refine qv rfl (qp rfl) rfl rfl ?_|refine qv rfl (qfld FldC.fld rfl rfl) rfl rfl ?_|refine qv rfl (rr_nilc rfl) rfl rfl ?_|refine qv rfl (rr_lss rfl rfl (qT (by omega))) rfl rfl ?_|refine qv rfl (rr_lss rfl rfl (qF (by omega))) rfl rfl ?_|refine qv rfl (rr_eql rfl rfl (qT (by omega))) rfl rfl ?_|refine qv rfl (rr_eql rfl rfl (qF (by omega))) rfl rfl ?_|refine qv rfl (rr_neq rfl rfl (qT (by omega))) rfl rfl ?_|refine qv rfl (rr_neq rfl rfl (qF (by omega))) rfl rfl ?_|refine qv rfl (rr_add64 rfl rfl (by omega) (by omega) rfl) rfl rfl ?_|refine qv rfl (rr_strlen Und.eq rfl) rfl rfl ?_|refine qv rfl (rr_gtr rfl rfl (qT (by omega))) rfl rfl ?_|refine qv rfl (rr_gtr rfl rfl (qF (by omega))) rfl rfl ?_|refine qv rfl (rr_geq rfl rfl (qT (by omega))) rfl rfl ?_|refine qv rfl (rr_geq rfl rfl (qF (by omega))) rfl rfl ?_))
  by_cases c0 : e = 0
  · subst c0
    rw [if_neg (by simp)]
    by_cases c1 : p < s.length
    · have hx : s[p]? = some s[p] := List.getElem?_eq_getElem c1
      rw [List.getElem?_eq_getElem c1]
      generalize s[p] = x at *
      dsimp only
      refine T_ord ([rdO g s ⟨p, o, 0⟩]) (.calm 0 (.calm 1 (.calm 2 (.calm 3 (.calm 4 (.calm 5 (.calm 6 (.calm 7 (.calm 8 (.calm 9 (.calm 10 (.calm 11 (.calm 12 (.calm 13 (.calm 14 (.calm 15 (.calm 16 (.done)))))))))))))))))) (fun _ h => h) (by kernel_rfl) (by kernel_rfl) (by intro c a d v w h; cases d <;> exact h) ?_
      repeat(first|((first|refine TW_plain rfl rfl ?_|refine TW_gmet rfl rfl rfl rfl ?_);first|refine TN_val (qp rfl) rfl rfl ?_|refine TN_val (rr_nilc rfl) rfl rfl ?_|refine TN_val (rr_load1 (v := .int .i64 0) TyC.ty rfl (at_blk (i := 0) rfl rfl)) rfl rfl ?_|refine TN_val (rr_load1 (v := .int .i64 (p : Int)) TyC.ty rfl (at_blk (i := 0) rfl rfl)) rfl rfl ?_|refine TN_val (rr_load1 (v := str s) TyC.ty rfl (at_blk (i := 0) rfl rfl)) rfl rfl ?_|refine TN_val (rr_neq (b := false) rfl rfl rfl) rfl rfl ?_|refine TN_val (qfld FldC.fld rfl rfl) rfl rfl ?_|refine TN_val (rr_nilc rfl) rfl rfl ?_|refine TN_val (rr_lss rfl rfl (qT (by omega))) rfl rfl ?_|refine TN_val (rr_lss rfl rfl (qF (by omega))) rfl rfl ?_|refine TN_val (rr_eql rfl rfl (qT (by omega))) rfl rfl ?_|refine TN_val (rr_eql rfl rfl (qF (by omega))) rfl rfl ?_|refine TN_val (rr_neq rfl rfl (qT (by omega))) rfl rfl ?_|refine TN_val (rr_neq rfl rfl (qF (by omega))) rfl rfl ?_|refine TN_val (rr_add64 rfl rfl (by omega) (by omega) rfl) rfl rfl ?_|refine TN_val (rr_strlen Und.eq rfl) rfl rfl ?_|refine TN_val (rr_gtr rfl rfl (qT (by omega))) rfl rfl ?_|refine TN_val (rr_gtr rfl rfl (qF (by omega))) rfl rfl ?_|refine TN_val (rr_geq rfl rfl (qT (by omega))) rfl rfl ?_|refine TN_val (rr_geq rfl rfl (qF (by omega))) rfl rfl ?_)|refine TW_skip rfl rfl rfl rfl rfl rfl rfl ?_|refine TW_done ?_)
      repeat(first|refine qv rfl (qp rfl) rfl rfl ?_|refine TL_nil ?_|refine T_seq ?_|refine T_region ?_|refine qcT rfl ?_|refine qcF rfl ?_|refine T_skip ?_|refine T_ret ?_|refine E_then ?_|refine E_thenR ?_|refine qs rfl rfl rfl rfl rfl rfl ?_|((try refine qg rfl rfl rfl ?_);first|refine qv rfl (qp rfl) rfl rfl ?_|refine qv rfl (qfld FldC.fld rfl rfl) rfl rfl ?_|refine qv rfl (rr_nilc rfl) rfl rfl ?_|refine qv rfl (rr_lss rfl rfl (qT (by omega))) rfl rfl ?_|refine qv rfl (rr_lss rfl rfl (qF (by omega))) rfl rfl ?_|refine qv rfl (rr_eql rfl rfl (qT (by omega))) rfl rfl ?_|refine qv rfl (rr_eql rfl rfl (qF (by omega))) rfl rfl ?_|refine qv rfl (rr_neq rfl rfl (qT (by omega))) rfl rfl ?_|refine qv rfl (rr_neq rfl rfl (qF (by omega))) rfl rfl ?_|refine qv rfl (rr_add64 rfl rfl (by omega) (by omega) rfl) rfl rfl ?_|refine qv rfl (rr_strlen Und.eq rfl) rfl rfl ?_|refine qv rfl (rr_gtr rfl rfl (qT (by omega))) rfl rfl ?_|refine qv rfl (rr_gtr rfl rfl (qF (by omega))) rfl rfl ?_|refine qv rfl (rr_geq rfl rfl (qT (by omega))) rfl rfl ?_|refine qv rfl (rr_geq rfl rfl (qF (by omega))) rfl rfl ?_))
      refine T_ord ([rdO g s ⟨p, o, 0⟩]) (.calm 0 (.calm 1 (.calm 2 (.calm 3 (.calm 4 (.calm 5 (.calm 6 (.calm 7 (.calm 8 (.calm 9 (.done))))))))))) (fun _ h => h) (by kernel_rfl) (by kernel_rfl) (by intro c a d v w h; cases d <;> exact h) ?_
      repeat(first|((first|refine TW_plain rfl rfl ?_|refine TW_gmet rfl rfl rfl rfl ?_);first|refine TN_val (qp rfl) rfl rfl ?_|refine TN_val (rr_nilc rfl) rfl rfl ?_|refine TN_val (rr_load1 (v := .int .i64 (p : Int)) TyC.ty rfl (at_blk (i := 0) rfl rfl)) rfl rfl ?_|refine TN_val (rr_load1 (v := str s) TyC.ty rfl (at_blk (i := 0) rfl rfl)) rfl rfl ?_|refine TN_val (rr_stridx Und.eq rfl rfl (by omega) (by rw [Int.toNat_natCast]; exact hx)) rfl rfl ?_|refine TN_val (qfld FldC.fld rfl rfl) rfl rfl ?_|refine TN_val (rr_nilc rfl) rfl rfl ?_|refine TN_val (rr_lss rfl rfl (qT (by omega))) rfl rfl ?_|refine TN_val (rr_lss rfl rfl (qF (by omega))) rfl rfl ?_|refine TN_val (rr_eql rfl rfl (qT (by omega))) rfl rfl ?_|refine TN_val (rr_eql rfl rfl (qF (by omega))) rfl rfl ?_|refine TN_val (rr_neq rfl rfl (qT (by omega))) rfl rfl ?_|refine TN_val (rr_neq rfl rfl (qF (by omega))) rfl rfl ?_|refine TN_val (rr_add64 rfl rfl (by omega) (by omega) rfl) rfl rfl ?_|refine TN_val (rr_strlen Und.eq rfl) rfl rfl ?_|refine TN_val (rr_gtr rfl rfl (qT (by omega))) rfl rfl ?_|refine TN_val (rr_gtr rfl rfl (qF (by omega))) rfl rfl ?_|refine TN_val (rr_geq rfl rfl (qT (by omega))) rfl rfl ?_|refine TN_val (rr_geq rfl rfl (qF (by omega))) rfl rfl ?_)|refine TW_skip rfl rfl rfl rfl rfl rfl rfl ?_|refine TW_done ?_)
      repeat(first|refine qv rfl (qp rfl) rfl rfl ?_|refine TL_nil ?_|refine T_seq ?_|refine T_region ?_|refine qcT rfl ?_|refine qcF rfl ?_|refine T_skip ?_|refine T_ret ?_|refine E_then ?_|refine E_thenR ?_|refine qs rfl rfl rfl rfl rfl rfl ?_|((try refine qg rfl rfl rfl ?_);first|refine qv rfl (qp rfl) rfl rfl ?_|refine qv rfl (qfld FldC.fld rfl rfl) rfl rfl ?_|refine qv rfl (rr_nilc rfl) rfl rfl ?_|refine qv rfl (rr_lss rfl rfl (qT (by omega))) rfl rfl ?_|refine qv rfl (rr_lss rfl rfl (qF (by omega))) rfl rfl ?_|refine qv rfl (rr_eql rfl rfl (qT (by omega))) rfl rfl ?_|refine qv rfl (rr_eql rfl rfl (qF (by omega))) rfl rfl ?_|refine qv rfl (rr_neq rfl rfl (qT (by omega))) rfl rfl ?_|refine qv rfl (rr_neq rfl rfl (qF (by omega))) rfl rfl ?_|refine qv rfl (rr_add64 rfl rfl (by omega) (by omega) rfl) rfl rfl ?_|refine qv rfl (rr_strlen Und.eq rfl) rfl rfl ?_|refine qv rfl (rr_gtr rfl rfl (qT (by omega))) rfl rfl ?_|refine qv rfl (rr_gtr rfl rfl (qF (by omega))) rfl rfl ?_|refine qv rfl (rr_geq rfl rfl (qT (by omega))) rfl rfl ?_|refine qv rfl (rr_geq rfl rfl (qF (by omega))) rfl rfl ?_))
      by_cases c2 : x = 92
      · subst c2
        rw [if_pos rfl]
        have hup : RS.up ⟨p, o, 0⟩ = ⟨p + 1, o, 0⟩ := rfl
        rw [hup]
        have hd := fun w B hm => rdTurned_calls g s ⟨p + 1, o, 0⟩ w B hs (by exact c1) hm
        generalize turnedS s ⟨p + 1, o, 0⟩ = D at *
        obtain ⟨h1, s1⟩ := D
        repeat(first|refine qv rfl (qp rfl) rfl rfl ?_|refine TL_nil ?_|refine T_seq ?_|refine T_region ?_|refine qcT rfl ?_|refine qcF rfl ?_|refine T_skip ?_|refine T_ret ?_|refine E_then ?_|refine E_thenR ?_|refine qs rfl rfl rfl rfl rfl rfl ?_|((try refine qg rfl rfl rfl ?_);first|refine qv rfl (qp rfl) rfl rfl ?_|refine qv rfl (rr_eql (b := true) rfl rfl rfl) rfl rfl ?_|refine qv rfl (rr_nilc rfl) rfl rfl ?_|refine qv rfl (rr_load1 (v := .int .i64 (p : Int)) TyC.ty rfl (at_blk (i := 0) rfl rfl)) rfl rfl ?_|refine qv rfl (rr_add64 (r := ((p + 1 : Nat) : Int)) rfl rfl (by omega) (by omega) (by omega)) rfl rfl ?_|refine qv rfl (qfld FldC.fld rfl rfl) rfl rfl ?_|refine qv rfl (rr_nilc rfl) rfl rfl ?_|refine qv rfl (rr_lss rfl rfl (qT (by omega))) rfl rfl ?_|refine qv rfl (rr_lss rfl rfl (qF (by omega))) rfl rfl ?_|refine qv rfl (rr_eql rfl rfl (qT (by omega))) rfl rfl ?_|refine qv rfl (rr_eql rfl rfl (qF (by omega))) rfl rfl ?_|refine qv rfl (rr_neq rfl rfl (qT (by omega))) rfl rfl ?_|refine qv rfl (rr_neq rfl rfl (qF (by omega))) rfl rfl ?_|refine qv rfl (rr_add64 rfl rfl (by omega) (by omega) rfl) rfl rfl ?_|refine qv rfl (rr_strlen Und.eq rfl) rfl rfl ?_|refine qv rfl (rr_gtr rfl rfl (qT (by omega))) rfl rfl ?_|refine qv rfl (rr_gtr rfl rfl (qF (by omega))) rfl rfl ?_|refine qv rfl (rr_geq rfl rfl (qT (by omega))) rfl rfl ?_|refine qv rfl (rr_geq rfl rfl (qF (by omega))) rfl rfl ?_))
        refine TL_store1 (i := 0) rfl rfl rfl rfl rfl rfl ?_
        rw [rd_up]
        conv=>arg 8;simp only[zA,zB,zC,zD,zE,zF,zG,zH,zI,rowS,ret,id_eq]
        repeat(first|refine qv rfl (qp rfl) rfl rfl ?_|refine TL_nil ?_|refine T_seq ?_|refine T_region ?_|refine qcT rfl ?_|refine qcF rfl ?_|refine T_skip ?_|refine T_ret ?_|refine E_then ?_|refine E_thenR ?_|refine qs rfl rfl rfl rfl rfl rfl ?_|((try refine qg rfl rfl rfl ?_);first|refine qv rfl (qp rfl) rfl rfl ?_|refine qv rfl (qfld FldC.fld rfl rfl) rfl rfl ?_|refine qv rfl (rr_nilc rfl) rfl rfl ?_|refine qv rfl (rr_lss rfl rfl (qT (by omega))) rfl rfl ?_|refine qv rfl (rr_lss rfl rfl (qF (by omega))) rfl rfl ?_|refine qv rfl (rr_eql rfl rfl (qT (by omega))) rfl rfl ?_|refine qv rfl (rr_eql rfl rfl (qF (by omega))) rfl rfl ?_|refine qv rfl (rr_neq rfl rfl (qT (by omega))) rfl rfl ?_|refine qv rfl (rr_neq rfl rfl (qF (by omega))) rfl rfl ?_|refine qv rfl (rr_add64 rfl rfl (by omega) (by omega) rfl) rfl rfl ?_|refine qv rfl (rr_strlen Und.eq rfl) rfl rfl ?_|refine qv rfl (rr_gtr rfl rfl (qT (by omega))) rfl rfl ?_|refine qv rfl (rr_gtr rfl rfl (qF (by omega))) rfl rfl ?_|refine qv rfl (rr_geq rfl rfl (qT (by omega))) rfl rfl ?_|refine qv rfl (rr_geq rfl rfl (qF (by omega))) rfl rfl ?_))
        refine TL_callB [0] [] (by decide) rfl rfl (he1 EntersC.en rfl rfl) (fun w hm hb => hd w _ hb) rfl rfl rfl ?_
        intro _ _
        conv=>arg 8;simp only[zA,zB,zC,zD,zE,zF,zG,zH,zI,rowS,ret,id_eq, byteSp, List.nil_append]
        conv => arg 7; simp only [byteSp]
        repeat(first|refine qv rfl (qp rfl) rfl rfl ?_|refine TL_nil ?_|refine T_seq ?_|refine T_region ?_|refine qcT rfl ?_|refine qcF rfl ?_|refine T_skip ?_|refine T_ret ?_|refine E_then ?_|refine E_thenR ?_|refine qs rfl rfl rfl rfl rfl rfl ?_|((try refine qg rfl rfl rfl ?_);first|refine qv rfl (qp rfl) rfl rfl ?_|refine qv rfl (qfld FldC.fld rfl rfl) rfl rfl ?_|refine qv rfl (rr_nilc rfl) rfl rfl ?_|refine qv rfl (rr_lss rfl rfl (qT (by omega))) rfl rfl ?_|refine qv rfl (rr_lss rfl rfl (qF (by omega))) rfl rfl ?_|refine qv rfl (rr_eql rfl rfl (qT (by omega))) rfl rfl ?_|refine qv rfl (rr_eql rfl rfl (qF (by omega))) rfl rfl ?_|refine qv rfl (rr_neq rfl rfl (qT (by omega))) rfl rfl ?_|refine qv rfl (rr_neq rfl rfl (qF (by omega))) rfl rfl ?_|refine qv rfl (rr_add64 rfl rfl (by omega) (by omega) rfl) rfl rfl ?_|refine qv rfl (rr_strlen Und.eq rfl) rfl rfl ?_|refine qv rfl (rr_gtr rfl rfl (qT (by omega))) rfl rfl ?_|refine qv rfl (rr_gtr rfl rfl (qF (by omega))) rfl rfl ?_|refine qv rfl (rr_geq rfl rfl (qT (by omega))) rfl rfl ?_|refine qv rfl (rr_geq rfl rfl (qF (by omega))) rfl rfl ?_))
        exact E_ret1 rfl rfl fun w hm => hm.meetsB (S := byteSp g s (h1, s1)) () trivial [0] (by decide) rfl
      · rw [if_neg c2]
        have hcl2 := fun w => idxB_calls signsL x w
        have hmem := idx_mem signsL x
        generalize Lib.indexByte signsL x = r at *
        by_cases c3 : x < 33
        · rw [if_pos (Or.inl c3)]
          repeat(first|refine qv rfl (qp rfl) rfl rfl ?_|refine TL_nil ?_|refine T_seq ?_|refine T_region ?_|refine qcT rfl ?_|refine qcF rfl ?_|refine T_skip ?_|refine T_ret ?_|refine E_then ?_|refine E_thenR ?_|refine qs rfl rfl rfl rfl rfl rfl ?_|((try refine qg rfl rfl rfl ?_);first|refine qv rfl (qp rfl) rfl rfl ?_|refine qv rfl (rr_eql (b := false) rfl rfl (u8eq (b := 92) (decide_eq_false c2))) rfl rfl ?_|refine qv rfl (rr_lss (b := true) rfl rfl (u8lt (b := 33) (decide_eq_true c3))) rfl rfl ?_|refine qv rfl (qfld FldC.fld rfl rfl) rfl rfl ?_|refine qv rfl (rr_nilc rfl) rfl rfl ?_|refine qv rfl (rr_lss rfl rfl (qT (by omega))) rfl rfl ?_|refine qv rfl (rr_lss rfl rfl (qF (by omega))) rfl rfl ?_|refine qv rfl (rr_eql rfl rfl (qT (by omega))) rfl rfl ?_|refine qv rfl (rr_eql rfl rfl (qF (by omega))) rfl rfl ?_|refine qv rfl (rr_neq rfl rfl (qT (by omega))) rfl rfl ?_|refine qv rfl (rr_neq rfl rfl (qF (by omega))) rfl rfl ?_|refine qv rfl (rr_add64 rfl rfl (by omega) (by omega) rfl) rfl rfl ?_|refine qv rfl (rr_strlen Und.eq rfl) rfl rfl ?_|refine qv rfl (rr_gtr rfl rfl (qT (by omega))) rfl rfl ?_|refine qv rfl (rr_gtr rfl rfl (qF (by omega))) rfl rfl ?_|refine qv rfl (rr_geq rfl rfl (qT (by omega))) rfl rfl ?_|refine qv rfl (rr_geq rfl rfl (qF (by omega))) rfl rfl ?_))
          refine TL_callB [0] [] (by decide) rfl rfl (he2 EntersC.en rfl rfl rfl) (fun w hm hb => hf w _ hb) rfl rfl rfl ?_
          intro _ _
          conv=>arg 8;simp only[zA,zB,zC,zD,zE,zF,zG,zH,zI,rowS,ret,id_eq, List.nil_append]
          repeat(first|refine qv rfl (qp rfl) rfl rfl ?_|refine TL_nil ?_|refine T_seq ?_|refine T_region ?_|refine qcT rfl ?_|refine qcF rfl ?_|refine T_skip ?_|refine T_ret ?_|refine E_then ?_|refine E_thenR ?_|refine qs rfl rfl rfl rfl rfl rfl ?_|((try refine qg rfl rfl rfl ?_);first|refine qv rfl (qp rfl) rfl rfl ?_|refine qv rfl (qfld FldC.fld rfl rfl) rfl rfl ?_|refine qv rfl (rr_nilc rfl) rfl rfl ?_|refine qv rfl (rr_lss rfl rfl (qT (by omega))) rfl rfl ?_|refine qv rfl (rr_lss rfl rfl (qF (by omega))) rfl rfl ?_|refine qv rfl (rr_eql rfl rfl (qT (by omega))) rfl rfl ?_|refine qv rfl (rr_eql rfl rfl (qF (by omega))) rfl rfl ?_|refine qv rfl (rr_neq rfl rfl (qT (by omega))) rfl rfl ?_|refine qv rfl (rr_neq rfl rfl (qF (by omega))) rfl rfl ?_|refine qv rfl (rr_add64 rfl rfl (by omega) (by omega) rfl) rfl rfl ?_|refine qv rfl (rr_strlen Und.eq rfl) rfl rfl ?_|refine qv rfl (rr_gtr rfl rfl (qT (by omega))) rfl rfl ?_|refine qv rfl (rr_gtr rfl rfl (qF (by omega))) rfl rfl ?_|refine qv rfl (rr_geq rfl rfl (qT (by omega))) rfl rfl ?_|refine qv rfl (rr_geq rfl rfl (qF (by omega))) rfl rfl ?_))
          exact E_ret1 rfl rfl fun w hm => hm.meetsB (S := byteSp g s (0, ⟨p, o, 6⟩)) () trivial [0] (by decide) rfl
        · by_cases c4 : 126 < x
          · rw [if_pos (Or.inr (Or.inl c4))]
            repeat(first|refine qv rfl (qp rfl) rfl rfl ?_|refine TL_nil ?_|refine T_seq ?_|refine T_region ?_|refine qcT rfl ?_|refine qcF rfl ?_|refine T_skip ?_|refine T_ret ?_|refine E_then ?_|refine E_thenR ?_|refine qs rfl rfl rfl rfl rfl rfl ?_|((try refine qg rfl rfl rfl ?_);first|refine qv rfl (qp rfl) rfl rfl ?_|refine qv rfl (rr_eql (b := false) rfl rfl (u8eq (b := 92) (decide_eq_false c2))) rfl rfl ?_|refine qv rfl (rr_lss (b := false) rfl rfl (u8lt (b := 33) (decide_eq_false c3))) rfl rfl ?_|refine qv rfl (qfld FldC.fld rfl rfl) rfl rfl ?_|refine qv rfl (rr_nilc rfl) rfl rfl ?_|refine qv rfl (rr_lss rfl rfl (qT (by omega))) rfl rfl ?_|refine qv rfl (rr_lss rfl rfl (qF (by omega))) rfl rfl ?_|refine qv rfl (rr_eql rfl rfl (qT (by omega))) rfl rfl ?_|refine qv rfl (rr_eql rfl rfl (qF (by omega))) rfl rfl ?_|refine qv rfl (rr_neq rfl rfl (qT (by omega))) rfl rfl ?_|refine qv rfl (rr_neq rfl rfl (qF (by omega))) rfl rfl ?_|refine qv rfl (rr_add64 rfl rfl (by omega) (by omega) rfl) rfl rfl ?_|refine qv rfl (rr_gtr (b := true) rfl rfl (u8lt (a := 126) (decide_eq_true c4))) rfl rfl ?_|refine qv rfl (rr_strlen Und.eq rfl) rfl rfl ?_|refine qv rfl (rr_gtr rfl rfl (qT (by omega))) rfl rfl ?_|refine qv rfl (rr_gtr rfl rfl (qF (by omega))) rfl rfl ?_|refine qv rfl (rr_geq rfl rfl (qT (by omega))) rfl rfl ?_|refine qv rfl (rr_geq rfl rfl (qF (by omega))) rfl rfl ?_))
            refine TL_callB [0] [] (by decide) rfl rfl (he2 EntersC.en rfl rfl rfl) (fun w hm hb => hf w _ hb) rfl rfl rfl ?_
            intro _ _
            conv=>arg 8;simp only[zA,zB,zC,zD,zE,zF,zG,zH,zI,rowS,ret,id_eq, List.nil_append]
            repeat(first|refine qv rfl (qp rfl) rfl rfl ?_|refine TL_nil ?_|refine T_seq ?_|refine T_region ?_|refine qcT rfl ?_|refine qcF rfl ?_|refine T_skip ?_|refine T_ret ?_|refine E_then ?_|refine E_thenR ?_|refine qs rfl rfl rfl rfl rfl rfl ?_|((try refine qg rfl rfl rfl ?_);first|refine qv rfl (qp rfl) rfl rfl ?_|refine qv rfl (qfld FldC.fld rfl rfl) rfl rfl ?_|refine qv rfl (rr_nilc rfl) rfl rfl ?_|refine qv rfl (rr_lss rfl rfl (qT (by omega))) rfl rfl ?_|refine qv rfl (rr_lss rfl rfl (qF (by omega))) rfl rfl ?_|refine qv rfl (rr_eql rfl rfl (qT (by omega))) rfl rfl ?_|refine qv rfl (rr_eql rfl rfl (qF (by omega))) rfl rfl ?_|refine qv rfl (rr_neq rfl rfl (qT (by omega))) rfl rfl ?_|refine qv rfl (rr_neq rfl rfl (qF (by omega))) rfl rfl ?_|refine qv rfl (rr_add64 rfl rfl (by omega) (by omega) rfl) rfl rfl ?_|refine qv rfl (rr_strlen Und.eq rfl) rfl rfl ?_|refine qv rfl (rr_gtr rfl rfl (qT (by omega))) rfl rfl ?_|refine qv rfl (rr_gtr rfl rfl (qF (by omega))) rfl rfl ?_|refine qv rfl (rr_geq rfl rfl (qT (by omega))) rfl rfl ?_|refine qv rfl (rr_geq rfl rfl (qF (by omega))) rfl rfl ?_))
            exact E_ret1 rfl rfl fun w hm => hm.meetsB (S := byteSp g s (0, ⟨p, o, 6⟩)) () trivial [0] (by decide) rfl
          · by_cases c5 : x ∈ signsL
            · rw [if_pos (Or.inr (Or.inr c5))]
              rw [decide_eq_true c5] at hmem
              repeat(first|refine qv rfl (qp rfl) rfl rfl ?_|refine TL_nil ?_|refine T_seq ?_|refine T_region ?_|refine qcT rfl ?_|refine qcF rfl ?_|refine T_skip ?_|refine T_ret ?_|refine E_then ?_|refine E_thenR ?_|refine qs rfl rfl rfl rfl rfl rfl ?_|((try refine qg rfl rfl rfl ?_);first|refine qv rfl (qp rfl) rfl rfl ?_|refine qv rfl (rr_eql (b := false) rfl rfl (u8eq (b := 92) (decide_eq_false c2))) rfl rfl ?_|refine qv rfl (rr_lss (b := false) rfl rfl (u8lt (b := 33) (decide_eq_false c3))) rfl rfl ?_|refine qv rfl (qfld FldC.fld rfl rfl) rfl rfl ?_|refine qv rfl (rr_nilc rfl) rfl rfl ?_|refine qv rfl (rr_lss rfl rfl (qT (by omega))) rfl rfl ?_|refine qv rfl (rr_lss rfl rfl (qF (by omega))) rfl rfl ?_|refine qv rfl (rr_eql rfl rfl (qT (by omega))) rfl rfl ?_|refine qv rfl (rr_eql rfl rfl (qF (by omega))) rfl rfl ?_|refine qv rfl (rr_neq rfl rfl (qT (by omega))) rfl rfl ?_|refine qv rfl (rr_neq rfl rfl (qF (by omega))) rfl rfl ?_|refine qv rfl (rr_add64 rfl rfl (by omega) (by omega) rfl) rfl rfl ?_|refine qv rfl (rr_gtr (b := false) rfl rfl (u8lt (a := 126) (decide_eq_false c4))) rfl rfl ?_|refine qv rfl (rr_strlen Und.eq rfl) rfl rfl ?_|refine qv rfl (rr_gtr rfl rfl (qT (by omega))) rfl rfl ?_|refine qv rfl (rr_gtr rfl rfl (qF (by omega))) rfl rfl ?_|refine qv rfl (rr_geq rfl rfl (qT (by omega))) rfl rfl ?_|refine qv rfl (rr_geq rfl rfl (qF (by omega))) rfl rfl ?_))
              refine TL_gcall (he2 EntersC.en rfl rfl rfl) (fun w hm => hcl2 w) rfl rfl rfl rfl rfl ?_
              intro _ _
              conv=>arg 8;simp only[zA,zB,zC,zD,zE,zF,zG,zH,zI,rowS,ret,id_eq]
              repeat(first|refine qv rfl (qp rfl) rfl rfl ?_|refine TL_nil ?_|refine T_seq ?_|refine T_region ?_|refine qcT rfl ?_|refine qcF rfl ?_|refine T_skip ?_|refine T_ret ?_|refine E_then ?_|refine E_thenR ?_|refine qs rfl rfl rfl rfl rfl rfl ?_|((try refine qg rfl rfl rfl ?_);first|refine qv rfl (qp rfl) rfl rfl ?_|refine qv rfl (qfld FldC.fld rfl rfl) rfl rfl ?_|refine qv rfl (rr_nilc rfl) rfl rfl ?_|refine qv rfl (rr_lss rfl rfl (qT (by omega))) rfl rfl ?_|refine qv rfl (rr_lss rfl rfl (qF (by omega))) rfl rfl ?_|refine qv rfl (rr_eql rfl rfl (qT (by omega))) rfl rfl ?_|refine qv rfl (rr_eql rfl rfl (qF (by omega))) rfl rfl ?_|refine qv rfl (rr_neq rfl rfl (qT (by omega))) rfl rfl ?_|refine qv rfl (rr_neq rfl rfl (qF (by omega))) rfl rfl ?_|refine qv rfl (rr_add64 rfl rfl (by omega) (by omega) rfl) rfl rfl ?_|refine qv rfl (rr_geq rfl rfl hmem) rfl rfl ?_|refine qv rfl (rr_strlen Und.eq rfl) rfl rfl ?_|refine qv rfl (rr_gtr rfl rfl (qT (by omega))) rfl rfl ?_|refine qv rfl (rr_gtr rfl rfl (qF (by omega))) rfl rfl ?_|refine qv rfl (rr_geq rfl rfl (qT (by omega))) rfl rfl ?_|refine qv rfl (rr_geq rfl rfl (qF (by omega))) rfl rfl ?_))
              refine TL_callB [0] [] (by decide) rfl rfl (he2 EntersC.en rfl rfl rfl) (fun w hm hb => hf w _ hb) rfl rfl rfl ?_
              intro _ _
              conv=>arg 8;simp only[zA,zB,zC,zD,zE,zF,zG,zH,zI,rowS,ret,id_eq, List.nil_append]
              repeat(first|refine qv rfl (qp rfl) rfl rfl ?_|refine TL_nil ?_|refine T_seq ?_|refine T_region ?_|refine qcT rfl ?_|refine qcF rfl ?_|refine T_skip ?_|refine T_ret ?_|refine E_then ?_|refine E_thenR ?_|refine qs rfl rfl rfl rfl rfl rfl ?_|((try refine qg rfl rfl rfl ?_);first|refine qv rfl (qp rfl) rfl rfl ?_|refine qv rfl (qfld FldC.fld rfl rfl) rfl rfl ?_|refine qv rfl (rr_nilc rfl) rfl rfl ?_|refine qv rfl (rr_lss rfl rfl (qT (by omega))) rfl rfl ?_|refine qv rfl (rr_lss rfl rfl (qF (by omega))) rfl rfl ?_|refine qv rfl (rr_eql rfl rfl (qT (by omega))) rfl rfl ?_|refine qv rfl (rr_eql rfl rfl (qF (by omega))) rfl rfl ?_|refine qv rfl (rr_neq rfl rfl (qT (by omega))) rfl rfl ?_|refine qv rfl (rr_neq rfl rfl (qF (by omega))) rfl rfl ?_|refine qv rfl (rr_add64 rfl rfl (by omega) (by omega) rfl) rfl rfl ?_|refine qv rfl (rr_strlen Und.eq rfl) rfl rfl ?_|refine qv rfl (rr_gtr rfl rfl (qT (by omega))) rfl rfl ?_|refine qv rfl (rr_gtr rfl rfl (qF (by omega))) rfl rfl ?_|refine qv rfl (rr_geq rfl rfl (qT (by omega))) rfl rfl ?_|refine qv rfl (rr_geq rfl rfl (qF (by omega))) rfl rfl ?_))
              exact E_ret1 rfl rfl fun w hm => hm.meetsB (S := byteSp g s (0, ⟨p, o, 6⟩)) () trivial [0] (by decide) rfl
            · rw [if_neg (by rintro (h | h | h); exact c3 h; exact c4 h; exact c5 h)]
              rw [decide_eq_false c5] at hmem
              repeat(first|refine qv rfl (qp rfl) rfl rfl ?_|refine TL_nil ?_|refine T_seq ?_|refine T_region ?_|refine qcT rfl ?_|refine qcF rfl ?_|refine T_skip ?_|refine T_ret ?_|refine E_then ?_|refine E_thenR ?_|refine qs rfl rfl rfl rfl rfl rfl ?_|((try refine qg rfl rfl rfl ?_);first|refine qv rfl (qp rfl) rfl rfl ?_|refine qv rfl (rr_eql (b := false) rfl rfl (u8eq (b := 92) (decide_eq_false c2))) rfl rfl ?_|refine qv rfl (rr_lss (b := false) rfl rfl (u8lt (b := 33) (decide_eq_false c3))) rfl rfl ?_|refine qv rfl (qfld FldC.fld rfl rfl) rfl rfl ?_|refine qv rfl (rr_nilc rfl) rfl rfl ?_|refine qv rfl (rr_lss rfl rfl (qT (by omega))) rfl rfl ?_|refine qv rfl (rr_lss rfl rfl (qF (by omega))) rfl rfl ?_|refine qv rfl (rr_eql rfl rfl (qT (by omega))) rfl rfl ?_|refine qv rfl (rr_eql rfl rfl (qF (by omega))) rfl rfl ?_|refine qv rfl (rr_neq rfl rfl (qT (by omega))) rfl rfl ?_|refine qv rfl (rr_neq rfl rfl (qF (by omega))) rfl rfl ?_|refine qv rfl (rr_add64 rfl rfl (by omega) (by omega) rfl) rfl rfl ?_|refine qv rfl (rr_gtr (b := false) rfl rfl (u8lt (a := 126) (decide_eq_false c4))) rfl rfl ?_|refine qv rfl (rr_strlen Und.eq rfl) rfl rfl ?_|refine qv rfl (rr_gtr rfl rfl (qT (by omega))) rfl rfl ?_|refine qv rfl (rr_gtr rfl rfl (qF (by omega))) rfl rfl ?_|refine qv rfl (rr_geq rfl rfl (qT (by omega))) rfl rfl ?_|refine qv rfl (rr_geq rfl rfl (qF (by omega))) rfl rfl ?_))
              refine TL_gcall (he2 EntersC.en rfl rfl rfl) (fun w hm => hcl2 w) rfl rfl rfl rfl rfl ?_
              intro _ _
              conv=>arg 8;simp only[zA,zB,zC,zD,zE,zF,zG,zH,zI,rowS,ret,id_eq]
              repeat(first|refine qv rfl (qp rfl) rfl rfl ?_|refine TL_nil ?_|refine T_seq ?_|refine T_region ?_|refine qcT rfl ?_|refine qcF rfl ?_|refine T_skip ?_|refine T_ret ?_|refine E_then ?_|refine E_thenR ?_|refine qs rfl rfl rfl rfl rfl rfl ?_|((try refine qg rfl rfl rfl ?_);first|refine qv rfl (qp rfl) rfl rfl ?_|refine qv rfl (rr_nilc rfl) rfl rfl ?_|refine qv rfl (rr_load1 (v := .int .i64 (p : Int)) TyC.ty rfl (at_blk (i := 0) rfl rfl)) rfl rfl ?_|refine qv rfl (rr_add64 (r := ((p + 1 : Nat) : Int)) rfl rfl (by omega) (by omega) (by omega)) rfl rfl ?_|refine qv rfl (qfld FldC.fld rfl rfl) rfl rfl ?_|refine qv rfl (rr_nilc rfl) rfl rfl ?_|refine qv rfl (rr_lss rfl rfl (qT (by omega))) rfl rfl ?_|refine qv rfl (rr_lss rfl rfl (qF (by omega))) rfl rfl ?_|refine qv rfl (rr_eql rfl rfl (qT (by omega))) rfl rfl ?_|refine qv rfl (rr_eql rfl rfl (qF (by omega))) rfl rfl ?_|refine qv rfl (rr_neq rfl rfl (qT (by omega))) rfl rfl ?_|refine qv rfl (rr_neq rfl rfl (qF (by omega))) rfl rfl ?_|refine qv rfl (rr_add64 rfl rfl (by omega) (by omega) rfl) rfl rfl ?_|refine qv rfl (rr_geq rfl rfl hmem) rfl rfl ?_|refine qv rfl (rr_strlen Und.eq rfl) rfl rfl ?_|refine qv rfl (rr_gtr rfl rfl (qT (by omega))) rfl rfl ?_|refine qv rfl (rr_gtr rfl rfl (qF (by omega))) rfl rfl ?_|refine qv rfl (rr_geq rfl rfl (qT (by omega))) rfl rfl ?_|refine qv rfl (rr_geq rfl rfl (qF (by omega))) rfl rfl ?_))
              refine TL_store1 (i := 0) rfl rfl rfl rfl rfl rfl ?_
              rw [rd_up]
              conv=>arg 8;simp only[zA,zB,zC,zD,zE,zF,zG,zH,zI,rowS,ret,id_eq]
              repeat(first|refine qv rfl (qp rfl) rfl rfl ?_|refine TL_nil ?_|refine T_seq ?_|refine T_region ?_|refine qcT rfl ?_|refine qcF rfl ?_|refine T_skip ?_|refine T_ret ?_|refine E_then ?_|refine E_thenR ?_|refine qs rfl rfl rfl rfl rfl rfl ?_|((try refine qg rfl rfl rfl ?_);first|refine qv rfl (qp rfl) rfl rfl ?_|refine qv rfl (qfld FldC.fld rfl rfl) rfl rfl ?_|refine qv rfl (rr_nilc rfl) rfl rfl ?_|refine qv rfl (rr_lss rfl rfl (qT (by omega))) rfl rfl ?_|refine qv rfl (rr_lss rfl rfl (qF (by omega))) rfl rfl ?_|refine qv rfl (rr_eql rfl rfl (qT (by omega))) rfl rfl ?_|refine qv rfl (rr_eql rfl rfl (qF (by omega))) rfl rfl ?_|refine qv rfl (rr_neq rfl rfl (qT (by omega))) rfl rfl ?_|refine qv rfl (rr_neq rfl rfl (qF (by omega))) rfl rfl ?_|refine qv rfl (rr_add64 rfl rfl (by omega) (by omega) rfl) rfl rfl ?_|refine qv rfl (rr_strlen Und.eq rfl) rfl rfl ?_|refine qv rfl (rr_gtr rfl rfl (qT (by omega))) rfl rfl ?_|refine qv rfl (rr_gtr rfl rfl (qF (by omega))) rfl rfl ?_|refine qv rfl (rr_geq rfl rfl (qT (by omega))) rfl rfl ?_|refine qv rfl (rr_geq rfl rfl (qF (by omega))) rfl rfl ?_))
              exact E_ret1 rfl rfl fun w hm => hm.meetsB (S := byteSp g s (x, ⟨p + 1, o, 0⟩)) () trivial [0] (by decide) rfl
    · obtain rfl : p = s.length := by omega
      rw [List.getElem?_eq_none (Nat.le_refl _)]
      dsimp only
      refine T_ord ([rdO g s ⟨s.length, o, 0⟩]) (.calm 0 (.calm 1 (.calm 2 (.calm 3 (.calm 4 (.calm 5 (.calm 6 (.calm 7 (.calm 8 (.calm 9 (.calm 10 (.calm 11 (.calm 12 (.calm 13 (.calm 14 (.calm 15 (.calm 16 (.done)))))))))))))))))) (fun _ h => h) (by kernel_rfl) (by kernel_rfl) (by intro c a d v w h; cases d <;> exact h) ?_
      repeat(first|((first|refine TW_plain rfl rfl ?_|refine TW_gmet rfl rfl rfl rfl ?_);first|refine TN_val (qp rfl) rfl rfl ?_|refine TN_val (rr_nilc rfl) rfl rfl ?_|refine TN_val (rr_load1 (v := .int .i64 0) TyC.ty rfl (at_blk (i := 0) rfl rfl)) rfl rfl ?_|refine TN_val (rr_load1 (v := .int .i64 (s.length : Int)) TyC.ty rfl (at_blk (i := 0) rfl rfl)) rfl rfl ?_|refine TN_val (rr_load1 (v := str s) TyC.ty rfl (at_blk (i := 0) rfl rfl)) rfl rfl ?_|refine TN_val (rr_neq (b := false) rfl rfl rfl) rfl rfl ?_|refine TN_val (qfld FldC.fld rfl rfl) rfl rfl ?_|refine TN_val (rr_nilc rfl) rfl rfl ?_|refine TN_val (rr_lss rfl rfl (qT (by omega))) rfl rfl ?_|refine TN_val (rr_lss rfl rfl (qF (by omega))) rfl rfl ?_|refine TN_val (rr_eql rfl rfl (qT (by omega))) rfl rfl ?_|refine TN_val (rr_eql rfl rfl (qF (by omega))) rfl rfl ?_|refine TN_val (rr_neq rfl rfl (qT (by omega))) rfl rfl ?_|refine TN_val (rr_neq rfl rfl (qF (by omega))) rfl rfl ?_|refine TN_val (rr_add64 rfl rfl (by omega) (by omega) rfl) rfl rfl ?_|refine TN_val (rr_strlen Und.eq rfl) rfl rfl ?_|refine TN_val (rr_gtr rfl rfl (qT (by omega))) rfl rfl ?_|refine TN_val (rr_gtr rfl rfl (qF (by omega))) rfl rfl ?_|refine TN_val (rr_geq rfl rfl (qT (by omega))) rfl rfl ?_|refine TN_val (rr_geq rfl rfl (qF (by omega))) rfl rfl ?_)|refine TW_skip rfl rfl rfl rfl rfl rfl rfl ?_|refine TW_done ?_)
      repeat(first|refine qv rfl (qp rfl) rfl rfl ?_|refine TL_nil ?_|refine T_seq ?_|refine T_region ?_|refine qcT rfl ?_|refine qcF rfl ?_|refine T_skip ?_|refine T_ret ?_|refine E_then ?_|refine E_thenR ?_|refine qs rfl rfl rfl rfl rfl rfl ?_|((try refine qg rfl rfl rfl ?_);first|refine qv rfl (qp rfl) rfl rfl ?_|refine qv rfl (qfld FldC.fld rfl rfl) rfl rfl ?_|refine qv rfl (rr_nilc rfl) rfl rfl ?_|refine qv rfl (rr_lss rfl rfl (qT (by omega))) rfl rfl ?_|refine qv rfl (rr_lss rfl rfl (qF (by omega))) rfl rfl ?_|refine qv rfl (rr_eql rfl rfl (qT (by omega))) rfl rfl ?_|refine qv rfl (rr_eql rfl rfl (qF (by omega))) rfl rfl ?_|refine qv rfl (rr_neq rfl rfl (qT (by omega))) rfl rfl ?_|refine qv rfl (rr_neq rfl rfl (qF (by omega))) rfl rfl ?_|refine qv rfl (rr_add64 rfl rfl (by omega) (by omega) rfl) rfl rfl ?_|refine qv rfl (rr_strlen Und.eq rfl) rfl rfl ?_|refine qv rfl (rr_gtr rfl rfl (qT (by omega))) rfl rfl ?_|refine qv rfl (rr_gtr rfl rfl (qF (by omega))) rfl rfl ?_|refine qv rfl (rr_geq rfl rfl (qT (by omega))) rfl rfl ?_|refine qv rfl (rr_geq rfl rfl (qF (by omega))) rfl rfl ?_))
      refine TL_callB [0] [] (by decide) rfl rfl (he2 EntersC.en rfl rfl rfl) (fun w hm hb => hf w _ hb) rfl rfl rfl ?_
      intro _ _
      conv=>arg 8;simp only[zA,zB,zC,zD,zE,zF,zG,zH,zI,rowS,ret,id_eq, List.nil_append]
      repeat(first|refine qv rfl (qp rfl) rfl rfl ?_|refine TL_nil ?_|refine T_seq ?_|refine T_region ?_|refine qcT rfl ?_|refine qcF rfl ?_|refine T_skip ?_|refine T_ret ?_|refine E_then ?_|refine E_thenR ?_|refine qs rfl rfl rfl rfl rfl rfl ?_|((try refine qg rfl rfl rfl ?_);first|refine qv rfl (qp rfl) rfl rfl ?_|refine qv rfl (qfld FldC.fld rfl rfl) rfl rfl ?_|refine qv rfl (rr_nilc rfl) rfl rfl ?_|refine qv rfl (rr_lss rfl rfl (qT (by omega))) rfl rfl ?_|refine qv rfl (rr_lss rfl rfl (qF (by omega))) rfl rfl ?_|refine qv rfl (rr_eql rfl rfl (qT (by omega))) rfl rfl ?_|refine qv rfl (rr_eql rfl rfl (qF (by omega))) rfl rfl ?_|refine qv rfl (rr_neq rfl rfl (qT (by omega))) rfl rfl ?_|refine qv rfl (rr_neq rfl rfl (qF (by omega))) rfl rfl ?_|refine qv rfl (rr_add64 rfl rfl (by omega) (by omega) rfl) rfl rfl ?_|refine qv rfl (rr_strlen Und.eq rfl) rfl rfl ?_|refine qv rfl (rr_gtr rfl rfl (qT (by omega))) rfl rfl ?_|refine qv rfl (rr_gtr rfl rfl (qF (by omega))) rfl rfl ?_|refine qv rfl (rr_geq rfl rfl (qT (by omega))) rfl rfl ?_|refine qv rfl (rr_geq rfl rfl (qF (by omega))) rfl rfl ?_))
      exact E_ret1 rfl rfl fun w hm => hm.meetsB (S := byteSp g s (0, ⟨s.length, o, 6⟩)) () trivial [0] (by decide) rfl
  · rw [if_pos c0]
    rw [failS_ne c0] at hf
    refine T_ord ([rdO g s ⟨p, o, e⟩]) (.calm 0 (.calm 1 (.calm 2 (.calm 3 (.calm 4 (.calm 5 (.calm 6 (.calm 7 (.calm 8 (.calm 9 (.calm 10 (.calm 11 (.calm 12 (.calm 13 (.calm 14 (.calm 15 (.calm 16 (.done)))))))))))))))))) (fun _ h => h) (by kernel_rfl) (by kernel_rfl) (by intro c a d v w h; cases d <;> exact h) ?_
    repeat(first|((first|refine TW_plain rfl rfl ?_|refine TW_gmet rfl rfl rfl rfl ?_);first|refine TN_val (qp rfl) rfl rfl ?_|refine TN_val (rr_nilc rfl) rfl rfl ?_|refine TN_val (rr_load1 (v := .int .i64 e) TyC.ty rfl (at_blk (i := 0) rfl rfl)) rfl rfl ?_|refine TN_val (rr_neq (b := true) rfl rfl (decide_eq_true c0)) rfl rfl ?_|refine TN_val (qfld FldC.fld rfl rfl) rfl rfl ?_|refine TN_val (rr_nilc rfl) rfl rfl ?_|refine TN_val (rr_lss rfl rfl (qT (by omega))) rfl rfl ?_|refine TN_val (rr_lss rfl rfl (qF (by omega))) rfl rfl ?_|refine TN_val (rr_eql rfl rfl (qT (by omega))) rfl rfl ?_|refine TN_val (rr_eql rfl rfl (qF (by omega))) rfl rfl ?_|refine TN_val (rr_neq rfl rfl (qT (by omega))) rfl rfl ?_|refine TN_val (rr_neq rfl rfl (qF (by omega))) rfl rfl ?_|refine TN_val (rr_add64 rfl rfl (by omega) (by omega) rfl) rfl rfl ?_|refine TN_val (rr_strlen Und.eq rfl) rfl rfl ?_|refine TN_val (rr_gtr rfl rfl (qT (by omega))) rfl rfl ?_|refine TN_val (rr_gtr rfl rfl (qF (by omega))) rfl rfl ?_|refine TN_val (rr_geq rfl rfl (qT (by omega))) rfl rfl ?_|refine TN_val (rr_geq rfl rfl (qF (by omega))) rfl rfl ?_)|refine TW_skip rfl rfl rfl rfl rfl rfl rfl ?_|refine TW_done ?_)
    repeat(first|refine qv rfl (qp rfl) rfl rfl ?_|refine TL_nil ?_|refine T_seq ?_|refine T_region ?_|refine qcT rfl ?_|refine qcF rfl ?_|refine T_skip ?_|refine T_ret ?_|refine E_then ?_|refine E_thenR ?_|refine qs rfl rfl rfl rfl rfl rfl ?_|((try refine qg rfl rfl rfl ?_);first|refine qv rfl (qp rfl) rfl rfl ?_|refine qv rfl (qfld FldC.fld rfl rfl) rfl rfl ?_|refine qv rfl (rr_nilc rfl) rfl rfl ?_|refine qv rfl (rr_lss rfl rfl (qT (by omega))) rfl rfl ?_|refine qv rfl (rr_lss rfl rfl (qF (by omega))) rfl rfl ?_|refine qv rfl (rr_eql rfl rfl (qT (by omega))) rfl rfl ?_|refine qv rfl (rr_eql rfl rfl (qF (by omega))) rfl rfl ?_|refine qv rfl (rr_neq rfl rfl (qT (by omega))) rfl rfl ?_|refine qv rfl (rr_neq rfl rfl (qF (by omega))) rfl rfl ?_|refine qv rfl (rr_add64 rfl rfl (by omega) (by omega) rfl) rfl rfl ?_|refine qv rfl (rr_strlen Und.eq rfl) rfl rfl ?_|refine qv rfl (rr_gtr rfl rfl (qT (by omega))) rfl rfl ?_|refine qv rfl (rr_gtr rfl rfl (qF (by omega))) rfl rfl ?_|refine qv rfl (rr_geq rfl rfl (qT (by omega))) rfl rfl ?_|refine qv rfl (rr_geq rfl rfl (qF (by omega))) rfl rfl ?_))
    refine TL_callB [0] [] (by decide) rfl rfl (he2 EntersC.en rfl rfl rfl) (fun w hm hb => hf w _ hb) rfl rfl rfl ?_
    intro _ _
    conv=>arg 8;simp only[zA,zB,zC,zD,zE,zF,zG,zH,zI,rowS,ret,id_eq, List.nil_append]
    repeat(first|refine qv rfl (qp rfl) rfl rfl ?_|refine TL_nil ?_|refine T_seq ?_|refine T_region ?_|refine qcT rfl ?_|refine qcF rfl ?_|refine T_skip ?_|refine T_ret ?_|refine E_then ?_|refine E_thenR ?_|refine qs rfl rfl rfl rfl rfl rfl ?_|((try refine qg rfl rfl rfl ?_);first|refine qv rfl (qp rfl) rfl rfl ?_|refine qv rfl (qfld FldC.fld rfl rfl) rfl rfl ?_|refine qv rfl (rr_nilc rfl) rfl rfl ?_|refine qv rfl (rr_lss rfl rfl (qT (by omega))) rfl rfl ?_|refine qv rfl (rr_lss rfl rfl (qF (by omega))) rfl rfl ?_|refine qv rfl (rr_eql rfl rfl (qT (by omega))) rfl rfl ?_|refine qv rfl (rr_eql rfl rfl (qF (by omega))) rfl rfl ?_|refine qv rfl (rr_neq rfl rfl (qT (by omega))) rfl rfl ?_|refine qv rfl (rr_neq rfl rfl (qF (by omega))) rfl rfl ?_|refine qv rfl (rr_add64 rfl rfl (by omega) (by omega) rfl) rfl rfl ?_|refine qv rfl (rr_strlen Und.eq rfl) rfl rfl ?_|refine qv rfl (rr_gtr rfl rfl (qT (by omega))) rfl rfl ?_|refine qv rfl (rr_gtr rfl rfl (qF (by omega))) rfl rfl ?_|refine qv rfl (rr_geq rfl rfl (qT (by omega))) rfl rfl ?_|refine qv rfl (rr_geq rfl rfl (qF (by omega))) rfl rfl ?_))
    exact E_ret1 rfl rfl fun w hm => hm.meetsB (S := byteSp g s (0, ⟨p, o, e⟩)) () trivial [0] (by decide) rfl
theorem cls_aeq {a b : C4} {c : Bool} (h : decide (a = b) = c) (w : World) : (Op.equalIn 10000 36 (clsV a) (clsV b)).run Tryd.prog w = .ok c w := by rw [eqCls, h]
theorem cls_blk {c : C4} {j : Nat} {v : Value} (h : (clsL c)[j]? = some v) : (clsL c).toArray[0 + j]? = some v := by rw [Nat.zero_add]; simpa using h
def clsSp (g : Nat) (s : Txt) (R : C4 × RS) : Spec Unit := ⟨fun _ => True, fun _ => clsV R.1, fun _ => [rdO g s R.2]⟩
theorem u8i (b : UInt8) : IntKind.i64.wrap (b.toNat : Int) = (b.toNat : Int) := by
  have := b.toNat_lt
  exact wrap_in (by omega) (by omega)
theorem okB (b : UInt8) : okI64 (b.toNat : Int) := by have := b.toNat_lt; unfold okI64; omega
set_option maxRecDepth 100000 in
set_option maxHeartbeats 8000000 in
theorem rdClass_calls (g : Nat) (s : Txt) (f : Nat) (st : RS) (R : C4 × RS) (hR : classS s f st = some R) (w : World) (B : Base) (hs : s.length ≤ 1000000) (hp : st.p ≤ s.length) (hm : Mem B [rdO g s st] w) :
    Calls Tryd.prog 78 #[.pointer (some ⟨g, 0, none⟩)] w (MeetsB (clsSp g s R) B) := by
  unfold classS at hR
  have ht := fun w B hm => rdTake_calls g s st 94 w B hs hm
  have g0 := goes_take (s := s) hp 94
  generalize hneg : isB s st 94 = neg at *
  generalize takeS s st 94 = st0 at *
  refine enterB hm (args := [.pointer (some ⟨g, 0, none⟩)]) (n := 75) Tryd.func78 rfl rfl rfl ?_
  clear hm
  refine T_seq (T_region (TL_new rfl fun g2 => ?_))
  conv=>arg 8;simp only[zA,zB,zC,zD,zE,zF,zG,zH,zI,rowS,ret,id_eq]
  repeat(first|refine qv rfl (qp rfl) rfl rfl ?_|refine TL_nil ?_|refine T_seq ?_|refine T_region ?_|refine qcT rfl ?_|refine qcF rfl ?_|refine T_skip ?_|refine T_exit ?_|refine T_ret ?_|refine T_block ?_|refine E_then ?_|refine E_thenX ?_|refine E_thenR ?_|refine E_blockN ?_|refine E_blockR ?_|refine E_blockX ?_|refine E_blockO rfl ?_|refine qs rfl rfl rfl rfl rfl rfl ?_|((try refine qg rfl rfl rfl ?_);first|refine qv rfl (qp rfl) rfl rfl ?_|refine qv rfl (qfld FldC.fld rfl rfl) rfl rfl ?_|refine qv rfl (rr_nilc rfl) rfl rfl ?_|refine qv rfl (rr_eql rfl rfl (qT (by omega))) rfl rfl ?_|refine qv rfl (rr_eql rfl rfl (qF (by omega))) rfl rfl ?_|refine qv rfl (rr_add64 rfl rfl (by omega) (by omega) rfl) rfl rfl ?_|refine qv rfl (rr_not rfl rfl) rfl rfl ?_|refine qv rfl (rr_lss rfl rfl (qT (by omega))) rfl rfl ?_|refine qv rfl (rr_lss rfl rfl (qF (by omega))) rfl rfl ?_|refine qv rfl (rr_gtr rfl rfl (qT (by omega))) rfl rfl ?_|refine qv rfl (rr_gtr rfl rfl (qF (by omega))) rfl rfl ?_))
  refine TL_new rfl fun g3 => ?_
  conv=>arg 8;simp only[zA,zB,zC,zD,zE,zF,zG,zH,zI,rowS,ret,id_eq]
  repeat(first|refine qv rfl (qp rfl) rfl rfl ?_|refine TL_nil ?_|refine T_seq ?_|refine T_region ?_|refine qcT rfl ?_|refine qcF rfl ?_|refine T_skip ?_|refine T_exit ?_|refine T_ret ?_|refine T_block ?_|refine E_then ?_|refine E_thenX ?_|refine E_thenR ?_|refine E_blockN ?_|refine E_blockR ?_|refine E_blockX ?_|refine E_blockO rfl ?_|refine qs rfl rfl rfl rfl rfl rfl ?_|((try refine qg rfl rfl rfl ?_);first|refine qv rfl (qp rfl) rfl rfl ?_|refine qv rfl (qfld FldC.fld rfl rfl) rfl rfl ?_|refine qv rfl (rr_nilc rfl) rfl rfl ?_|refine qv rfl (rr_eql rfl rfl (qT (by omega))) rfl rfl ?_|refine qv rfl (rr_eql rfl rfl (qF (by omega))) rfl rfl ?_|refine qv rfl (rr_add64 rfl rfl (by omega) (by omega) rfl) rfl rfl ?_|refine qv rfl (rr_not rfl rfl) rfl rfl ?_|refine qv rfl (rr_lss rfl rfl (qT (by omega))) rfl rfl ?_|refine qv rfl (rr_lss rfl rfl (qF (by omega))) rfl rfl ?_|refine qv rfl (rr_gtr rfl rfl (qT (by omega))) rfl rfl ?_|refine qv rfl (rr_gtr rfl rfl (qF (by omega))) rfl rfl ?_))
  refine TL_callB [0] [1, 2] (by decide) rfl rfl (he2 EntersC.en rfl rfl rfl) (fun w hm hb => ht w _ hb) rfl rfl rfl ?_
  intro _ _
  conv=>arg 8;simp only[zA,zB,zC,zD,zE,zF,zG,zH,zI,rowS,ret,id_eq]
  repeat(first|refine qv rfl (qp rfl) rfl rfl ?_|refine TL_nil ?_|refine T_seq ?_|refine T_region ?_|refine qcT rfl ?_|refine qcF rfl ?_|refine T_skip ?_|refine T_exit ?_|refine T_ret ?_|refine T_block ?_|refine E_then ?_|refine E_thenX ?_|refine E_thenR ?_|refine E_blockN ?_|refine E_blockR ?_|refine E_blockX ?_|refine E_blockO rfl ?_|refine qs rfl rfl rfl rfl rfl rfl ?_|((try refine qg rfl rfl rfl ?_);first|refine qv rfl (qp rfl) rfl rfl ?_|refine qv rfl (qfld FldC.fld rfl rfl) rfl rfl ?_|refine qv rfl (rr_nilc rfl) rfl rfl ?_|refine qv rfl (rr_eql rfl rfl (qT (by omega))) rfl rfl ?_|refine qv rfl (rr_eql rfl rfl (qF (by omega))) rfl rfl ?_|refine qv rfl (rr_add64 rfl rfl (by omega) (by omega) rfl) rfl rfl ?_|refine qv rfl (rr_not rfl rfl) rfl rfl ?_|refine qv rfl (rr_lss rfl rfl (qT (by omega))) rfl rfl ?_|refine qv rfl (rr_lss rfl rfl (qF (by omega))) rfl rfl ?_|refine qv rfl (rr_gtr rfl rfl (qT (by omega))) rfl rfl ?_|refine qv rfl (rr_gtr rfl rfl (qF (by omega))) rfl rfl ?_))
  clear ht
  cases hgo : clsGo s neg f 0 C4.zero st0 with
  | none => rw [hgo] at hR; cases hR
  | some X =>
  rw [hgo] at hR
  clear hneg
  refine T_loop (ι := Nat × Nat × C4 × RS) (fun (f, n, c, st) => clsGo s neg f n c st = some X ∧ st.p ≤ s.length ∧ n ≤ st.p + 1 ∧ (st.e = 0 → n ≤ st.p)) (fun (f, n, c, st) => [(0, .pointer (some ⟨g, 0, none⟩)), (2, .pointer (some ⟨g2, 0, none⟩)), (3, .pointer (some ⟨g3, 0, none⟩)), (4, .bool neg), (5, .int .i64 (n : Int))])
    (fun (f, n, c, st) => [blkO g2 (clsL C4.zero).toArray 36, blkO g3 (clsL c).toArray 36, rdO g s st]) (fun (f, _, _, _) => f) (f, 0, C4.zero, st0) ⟨hgo, g0.le, Nat.zero_le _, fun _ => Nat.zero_le _⟩ (by repeat' (first | exact True.intro | refine And.intro rfl ?_)) rfl ?_
  rintro ⟨f, n, c, st⟩ ⟨i1, i2, i3, i4⟩
  dsimp only at i1 i2 i3 i4 ⊢
  cases f with
  | zero => cases i1
  | succ f =>
  rw [clsGo] at i1
  have hcont : (st.e = 0 ∧ ¬ (isB s st 93 = true ∧ (0 < n ∨ neg = true))) ↔ (decide (st.e = 0) && !(isB s st 93 && (decide (0 < n) || neg))) = true := by
    cases isB s st 93 <;> cases neg <;> simp
  (repeat refine T_seq ?_)
  refine T_midq (ι := Unit) (fun _ => True) (fun _ => [(0, .pointer (some ⟨g, 0, none⟩)), (2, .pointer (some ⟨g2, 0, none⟩)), (3, .pointer (some ⟨g3, 0, none⟩)), (4, .bool neg), (5, .int .i64 (n : Int)), (27, .bool (decide (st.e = 0) && !(isB s st 93 && (decide (0 < n) || neg))))])
    (fun _ => [blkO g2 (clsL C4.zero).toArray 36, blkO g3 (clsL c).toArray 36, rdO g s st]) ?_ ?_
  · clear i1 hcont hR
    have hcl := fun w h => rdIs_calls g s st 93 w h
    by_cases c0 : st.e = 0
    · rw [decide_eq_true c0]
      repeat(first|refine qv rfl (qp rfl) rfl rfl ?_|refine TL_nil ?_|refine T_seq ?_|refine T_region ?_|refine qcT rfl ?_|refine qcF rfl ?_|refine T_skip ?_|refine T_exit ?_|refine T_ret ?_|refine T_block ?_|refine E_then ?_|refine E_thenX ?_|refine E_thenR ?_|refine E_blockN ?_|refine E_blockR ?_|refine E_blockX ?_|refine E_blockO rfl ?_|refine qs rfl rfl rfl rfl rfl rfl ?_|((try refine qg rfl rfl rfl ?_);first|refine qv rfl (qp rfl) rfl rfl ?_|refine qv rfl (rr_nilc rfl) rfl rfl ?_|refine qv rfl (rr_load1 (v := .int .i64 st.e) TyC.ty rfl (at_blk (i := 2) rfl rfl)) rfl rfl ?_|refine qv rfl (rr_eql (b := true) rfl rfl (decide_eq_true c0)) rfl rfl ?_|refine qv rfl (qfld FldC.fld rfl rfl) rfl rfl ?_|refine qv rfl (rr_nilc rfl) rfl rfl ?_|refine qv rfl (rr_eql rfl rfl (qT (by omega))) rfl rfl ?_|refine qv rfl (rr_eql rfl rfl (qF (by omega))) rfl rfl ?_|refine qv rfl (rr_add64 rfl rfl (by omega) (by omega) rfl) rfl rfl ?_|refine qv rfl (rr_not rfl rfl) rfl rfl ?_|refine qv rfl (rr_lss rfl rfl (qT (by omega))) rfl rfl ?_|refine qv rfl (rr_lss rfl rfl (qF (by omega))) rfl rfl ?_|refine qv rfl (rr_gtr rfl rfl (qT (by omega))) rfl rfl ?_|refine qv rfl (rr_gtr rfl rfl (qF (by omega))) rfl rfl ?_))
      refine TL_gcall (he2 EntersC.en rfl rfl rfl) (fun w hm => hcl w (hm.get (i := 2) rfl)) rfl rfl rfl rfl rfl ?_
      intro _ _
      conv=>arg 8;simp only[zA,zB,zC,zD,zE,zF,zG,zH,zI,rowS,ret,id_eq]
      cases isB s st 93 with
      | false =>
        repeat(first|refine qv rfl (qp rfl) rfl rfl ?_|refine TL_nil ?_|refine T_seq ?_|refine T_region ?_|refine qcT rfl ?_|refine qcF rfl ?_|refine T_skip ?_|refine T_exit ?_|refine T_ret ?_|refine T_block ?_|refine E_then ?_|refine E_thenX ?_|refine E_thenR ?_|refine E_blockN ?_|refine E_blockR ?_|refine E_blockX ?_|refine E_blockO rfl ?_|refine qs rfl rfl rfl rfl rfl rfl ?_|((try refine qg rfl rfl rfl ?_);first|refine qv rfl (qp rfl) rfl rfl ?_|refine qv rfl (qfld FldC.fld rfl rfl) rfl rfl ?_|refine qv rfl (rr_nilc rfl) rfl rfl ?_|refine qv rfl (rr_eql rfl rfl (qT (by omega))) rfl rfl ?_|refine qv rfl (rr_eql rfl rfl (qF (by omega))) rfl rfl ?_|refine qv rfl (rr_add64 rfl rfl (by omega) (by omega) rfl) rfl rfl ?_|refine qv rfl (rr_not rfl rfl) rfl rfl ?_|refine qv rfl (rr_lss rfl rfl (qT (by omega))) rfl rfl ?_|refine qv rfl (rr_lss rfl rfl (qF (by omega))) rfl rfl ?_|refine qv rfl (rr_gtr rfl rfl (qT (by omega))) rfl rfl ?_|refine qv rfl (rr_gtr rfl rfl (qF (by omega))) rfl rfl ?_))
        exact E_mid () trivial (by repeat' (first | exact True.intro | refine And.intro rfl ?_)) rfl
      | true =>
        by_cases c1 : 0 < n
        · rw [decide_eq_true c1]
          repeat(first|refine qv rfl (qp rfl) rfl rfl ?_|refine TL_nil ?_|refine T_seq ?_|refine T_region ?_|refine qcT rfl ?_|refine qcF rfl ?_|refine T_skip ?_|refine T_exit ?_|refine T_ret ?_|refine T_block ?_|refine E_then ?_|refine E_thenX ?_|refine E_thenR ?_|refine E_blockN ?_|refine E_blockR ?_|refine E_blockX ?_|refine E_blockO rfl ?_|refine qs rfl rfl rfl rfl rfl rfl ?_|((try refine qg rfl rfl rfl ?_);first|refine qv rfl (qp rfl) rfl rfl ?_|refine qv rfl (qfld FldC.fld rfl rfl) rfl rfl ?_|refine qv rfl (rr_nilc rfl) rfl rfl ?_|refine qv rfl (rr_eql rfl rfl (qT (by omega))) rfl rfl ?_|refine qv rfl (rr_eql rfl rfl (qF (by omega))) rfl rfl ?_|refine qv rfl (rr_add64 rfl rfl (by omega) (by omega) rfl) rfl rfl ?_|refine qv rfl (rr_not rfl rfl) rfl rfl ?_|refine qv rfl (rr_lss rfl rfl (qT (by omega))) rfl rfl ?_|refine qv rfl (rr_lss rfl rfl (qF (by omega))) rfl rfl ?_|refine qv rfl (rr_gtr rfl rfl (qT (by omega))) rfl rfl ?_|refine qv rfl (rr_gtr rfl rfl (qF (by omega))) rfl rfl ?_))
          exact E_mid () trivial (by repeat' (first | exact True.intro | refine And.intro rfl ?_)) rfl
        · rw [decide_eq_false c1]
          cases neg <;>
          · repeat(first|refine qv rfl (qp rfl) rfl rfl ?_|refine TL_nil ?_|refine T_seq ?_|refine T_region ?_|refine qcT rfl ?_|refine qcF rfl ?_|refine T_skip ?_|refine T_exit ?_|refine T_ret ?_|refine T_block ?_|refine E_then ?_|refine E_thenX ?_|refine E_thenR ?_|refine E_blockN ?_|refine E_blockR ?_|refine E_blockX ?_|refine E_blockO rfl ?_|refine qs rfl rfl rfl rfl rfl rfl ?_|((try refine qg rfl rfl rfl ?_);first|refine qv rfl (qp rfl) rfl rfl ?_|refine qv rfl (qfld FldC.fld rfl rfl) rfl rfl ?_|refine qv rfl (rr_nilc rfl) rfl rfl ?_|refine qv rfl (rr_eql rfl rfl (qT (by omega))) rfl rfl ?_|refine qv rfl (rr_eql rfl rfl (qF (by omega))) rfl rfl ?_|refine qv rfl (rr_add64 rfl rfl (by omega) (by omega) rfl) rfl rfl ?_|refine qv rfl (rr_not rfl rfl) rfl rfl ?_|refine qv rfl (rr_lss rfl rfl (qT (by omega))) rfl rfl ?_|refine qv rfl (rr_lss rfl rfl (qF (by omega))) rfl rfl ?_|refine qv rfl (rr_gtr rfl rfl (qT (by omega))) rfl rfl ?_|refine qv rfl (rr_gtr rfl rfl (qF (by omega))) rfl rfl ?_))
            exact E_mid () trivial (by repeat' (first | exact True.intro | refine And.intro rfl ?_)) rfl
    · rw [decide_eq_false c0]
      repeat(first|refine qv rfl (qp rfl) rfl rfl ?_|refine TL_nil ?_|refine T_seq ?_|refine T_region ?_|refine qcT rfl ?_|refine qcF rfl ?_|refine T_skip ?_|refine T_exit ?_|refine T_ret ?_|refine T_block ?_|refine E_then ?_|refine E_thenX ?_|refine E_thenR ?_|refine E_blockN ?_|refine E_blockR ?_|refine E_blockX ?_|refine E_blockO rfl ?_|refine qs rfl rfl rfl rfl rfl rfl ?_|((try refine qg rfl rfl rfl ?_);first|refine qv rfl (qp rfl) rfl rfl ?_|refine qv rfl (rr_nilc rfl) rfl rfl ?_|refine qv rfl (rr_load1 (v := .int .i64 st.e) TyC.ty rfl (at_blk (i := 2) rfl rfl)) rfl rfl ?_|refine qv rfl (rr_eql (b := false) rfl rfl (decide_eq_false c0)) rfl rfl ?_|refine qv rfl (qfld FldC.fld rfl rfl) rfl rfl ?_|refine qv rfl (rr_nilc rfl) rfl rfl ?_|refine qv rfl (rr_eql rfl rfl (qT (by omega))) rfl rfl ?_|refine qv rfl (rr_eql rfl rfl (qF (by omega))) rfl rfl ?_|refine qv rfl (rr_add64 rfl rfl (by omega) (by omega) rfl) rfl rfl ?_|refine qv rfl (rr_not rfl rfl) rfl rfl ?_|refine qv rfl (rr_lss rfl rfl (qT (by omega))) rfl rfl ?_|refine qv rfl (rr_lss rfl rfl (qF (by omega))) rfl rfl ?_|refine qv rfl (rr_gtr rfl rfl (qT (by omega))) rfl rfl ?_|refine qv rfl (rr_gtr rfl rfl (qF (by omega))) rfl rfl ?_))
      exact E_mid () trivial (by repeat' (first | exact True.intro | refine And.intro rfl ?_)) rfl
  · intro _ _
    cases hk : (decide (st.e = 0) && !(isB s st 93 && (decide (0 < n) || neg))) with
    | true =>
      rw [if_pos (hcont.2 hk)] at i1
      have g1 := char_goes (s := s) i2
      have he := (hcont.2 hk).1
      have hon := fun h => item_on (s := s) (c := c) i2 h
      have hig := item_goes (s := s) (c := c) i2
      clear hcont hk hR
      have hch := fun w B hm => rdChar_calls g s st w B hs i2 hm
      unfold itemS at i1 hon hig
      generalize charS s st = D1 at *
      obtain ⟨lo, s1⟩ := D1
      dsimp only at i1 g1 hon hig
      repeat(first|refine qv rfl (qp rfl) rfl rfl ?_|refine TL_nil ?_|refine T_seq ?_|refine T_region ?_|refine qcT rfl ?_|refine qcF rfl ?_|refine T_skip ?_|refine T_exit ?_|refine T_ret ?_|refine T_block ?_|refine E_then ?_|refine E_thenX ?_|refine E_thenR ?_|refine E_blockN ?_|refine E_blockR ?_|refine E_blockX ?_|refine E_blockO rfl ?_|refine qs rfl rfl rfl rfl rfl rfl ?_|((try refine qg rfl rfl rfl ?_);first|refine qv rfl (qp rfl) rfl rfl ?_|refine qv rfl (qfld FldC.fld rfl rfl) rfl rfl ?_|refine qv rfl (rr_nilc rfl) rfl rfl ?_|refine qv rfl (rr_eql rfl rfl (qT (by omega))) rfl rfl ?_|refine qv rfl (rr_eql rfl rfl (qF (by omega))) rfl rfl ?_|refine qv rfl (rr_add64 rfl rfl (by omega) (by omega) rfl) rfl rfl ?_|refine qv rfl (rr_not rfl rfl) rfl rfl ?_|refine qv rfl (rr_lss rfl rfl (qT (by omega))) rfl rfl ?_|refine qv rfl (rr_lss rfl rfl (qF (by omega))) rfl rfl ?_|refine qv rfl (rr_gtr rfl rfl (qT (by omega))) rfl rfl ?_|refine qv rfl (rr_gtr rfl rfl (qF (by omega))) rfl rfl ?_))
      refine TL_callB [2] [0, 1] (by decide) rfl rfl (he1 EntersC.en rfl rfl) (fun w hm hb => hch w _ hb) rfl rfl rfl ?_
      intro _ _
      conv=>arg 8;simp only[zA,zB,zC,zD,zE,zF,zG,zH,zI,rowS,ret,id_eq, byteSp]
      conv => arg 7; simp only [byteSp]
      repeat(first|refine qv rfl (qp rfl) rfl rfl ?_|refine TL_nil ?_|refine T_seq ?_|refine T_region ?_|refine qcT rfl ?_|refine qcF rfl ?_|refine T_skip ?_|refine T_exit ?_|refine T_ret ?_|refine T_block ?_|refine E_then ?_|refine E_thenX ?_|refine E_thenR ?_|refine E_blockN ?_|refine E_blockR ?_|refine E_blockX ?_|refine E_blockO rfl ?_|refine qs rfl rfl rfl rfl rfl rfl ?_|((try refine qg rfl rfl rfl ?_);first|refine qv rfl (qp rfl) rfl rfl ?_|refine qv rfl (qfld FldC.fld rfl rfl) rfl rfl ?_|refine qv rfl (rr_nilc rfl) rfl rfl ?_|refine qv rfl (rr_eql rfl rfl (qT (by omega))) rfl rfl ?_|refine qv rfl (rr_eql rfl rfl (qF (by omega))) rfl rfl ?_|refine qv rfl (rr_add64 rfl rfl (by omega) (by omega) rfl) rfl rfl ?_|refine qv rfl (rr_not rfl rfl) rfl rfl ?_|refine qv rfl (rr_lss rfl rfl (qT (by omega))) rfl rfl ?_|refine qv rfl (rr_lss rfl rfl (qF (by omega))) rfl rfl ?_|refine qv rfl (rr_gtr rfl rfl (qT (by omega))) rfl rfl ?_|refine qv rfl (rr_gtr rfl rfl (qF (by omega))) rfl rfl ?_))
      refine TL_callB [2] [0, 1] (by decide) rfl rfl (he2 EntersC.en rfl rfl rfl) (fun w hm hb => rdTake_calls g s s1 45 w _ hs hb) rfl rfl rfl ?_
      intro _ _
      conv=>arg 8;simp only[zA,zB,zC,zD,zE,zF,zG,zH,zI,rowS,ret,id_eq]
      have i5 := i4 he
      have htk : takeS s s1 45 = if isB s s1 45 = true then s1.up else s1 := rfl
      rw [htk]
      cases hb : isB s s1 45 with
      | false =>
        simp only [hb, Bool.false_eq_true, if_false] at i1 hon hig
        rw [if_neg (by decide)]
        repeat(first|refine qv rfl (qp rfl) rfl rfl ?_|refine TL_nil ?_|refine T_seq ?_|refine T_region ?_|refine qcT rfl ?_|refine qcF rfl ?_|refine T_skip ?_|refine T_exit ?_|refine T_ret ?_|refine T_block ?_|refine E_then ?_|refine E_thenX ?_|refine E_thenR ?_|refine E_blockN ?_|refine E_blockR ?_|refine E_blockX ?_|refine E_blockO rfl ?_|refine qs rfl rfl rfl rfl rfl rfl ?_|((try refine qg rfl rfl rfl ?_);first|refine qv rfl (qp rfl) rfl rfl ?_|refine qv rfl (qfld FldC.fld rfl rfl) rfl rfl ?_|refine qv rfl (rr_nilc rfl) rfl rfl ?_|refine qv rfl (rr_eql rfl rfl (qT (by omega))) rfl rfl ?_|refine qv rfl (rr_eql rfl rfl (qF (by omega))) rfl rfl ?_|refine qv rfl (rr_add64 rfl rfl (by omega) (by omega) rfl) rfl rfl ?_|refine qv rfl (rr_not rfl rfl) rfl rfl ?_|refine qv rfl (rr_lss rfl rfl (qT (by omega))) rfl rfl ?_|refine qv rfl (rr_lss rfl rfl (qF (by omega))) rfl rfl ?_|refine qv rfl (rr_gtr rfl rfl (qT (by omega))) rfl rfl ?_|refine qv rfl (rr_gtr rfl rfl (qF (by omega))) rfl rfl ?_))
        refine T_ord ([]) (.calm 1 (.calm 2 (.calm 3 (.calm 4 (.calm 5 (.one 0 (.calm 6 (.one 7 (.done))))))))) (sub_pick [] (by decide) rfl) (by kernel_rfl) (by kernel_rfl) (by intro c a d v w h; cases d <;> exact h) ?_
        repeat(first|((first|refine TW_plain rfl rfl ?_|refine TW_gmet rfl rfl rfl rfl ?_);first|refine TN_val (qp rfl) rfl rfl ?_|refine TN_val (rr_conv Und.eq Und.eq rfl (u8i _)) rfl rfl ?_|refine TN_val (qfld FldC.fld rfl rfl) rfl rfl ?_|refine TN_val (rr_nilc rfl) rfl rfl ?_|refine TN_val (rr_eql rfl rfl (qT (by omega))) rfl rfl ?_|refine TN_val (rr_eql rfl rfl (qF (by omega))) rfl rfl ?_|refine TN_val (rr_add64 rfl rfl (by omega) (by omega) rfl) rfl rfl ?_|refine TN_val (rr_not rfl rfl) rfl rfl ?_|refine TN_val (rr_lss rfl rfl (qT (by omega))) rfl rfl ?_|refine TN_val (rr_lss rfl rfl (qF (by omega))) rfl rfl ?_|refine TN_val (rr_gtr rfl rfl (qT (by omega))) rfl rfl ?_|refine TN_val (rr_gtr rfl rfl (qF (by omega))) rfl rfl ?_)|refine TW_skip rfl rfl rfl rfl rfl rfl rfl ?_|refine TW_done ?_)
        refine TW_call rfl (he2 EntersC.en rfl rfl rfl) (fun w hm => rangeE (lo.toNat : Int) (lo.toNat : Int) (okB _) (okB _) w) rfl rfl rfl ?_
        refine TW_one rfl (TL_val (rr_loadN (cs := clsL c) TyC.ty rfl rfl (fun j v hj => at_blk (i := 1) rfl (cls_blk hj))) rfl rfl rfl (TW_on (sub_pick [] (by decide) rfl) ?_))
        refine TW_call rfl (he2 EntersC.en rfl rfl rfl) (fun w hm => joinE c (rangeF (lo.toNat : Int) (lo.toNat : Int)) w) rfl rfl rfl ?_
        repeat(first|((first|refine TW_plain rfl rfl ?_|refine TW_gmet rfl rfl rfl rfl ?_);first|refine TN_val (qp rfl) rfl rfl ?_|refine TN_val (qfld FldC.fld rfl rfl) rfl rfl ?_|refine TN_val (rr_nilc rfl) rfl rfl ?_|refine TN_val (rr_eql rfl rfl (qT (by omega))) rfl rfl ?_|refine TN_val (rr_eql rfl rfl (qF (by omega))) rfl rfl ?_|refine TN_val (rr_add64 rfl rfl (by omega) (by omega) rfl) rfl rfl ?_|refine TN_val (rr_not rfl rfl) rfl rfl ?_|refine TN_val (rr_lss rfl rfl (qT (by omega))) rfl rfl ?_|refine TN_val (rr_lss rfl rfl (qF (by omega))) rfl rfl ?_|refine TN_val (rr_gtr rfl rfl (qT (by omega))) rfl rfl ?_|refine TN_val (rr_gtr rfl rfl (qF (by omega))) rfl rfl ?_)|refine TW_skip rfl rfl rfl rfl rfl rfl rfl ?_|refine TW_done ?_)
        refine TW_one rfl (TL_storeB (i := 1) (cs' := (clsL (c.join (rangeF (lo.toNat : Int) (lo.toNat : Int)))).toArray) rfl rfl rfl rfl rfl rfl (TW_on (sub_pick [] (by decide) rfl) ?_))
        repeat(first|((first|refine TW_plain rfl rfl ?_|refine TW_gmet rfl rfl rfl rfl ?_);first|refine TN_val (qp rfl) rfl rfl ?_|refine TN_val (qfld FldC.fld rfl rfl) rfl rfl ?_|refine TN_val (rr_nilc rfl) rfl rfl ?_|refine TN_val (rr_eql rfl rfl (qT (by omega))) rfl rfl ?_|refine TN_val (rr_eql rfl rfl (qF (by omega))) rfl rfl ?_|refine TN_val (rr_add64 rfl rfl (by omega) (by omega) rfl) rfl rfl ?_|refine TN_val (rr_not rfl rfl) rfl rfl ?_|refine TN_val (rr_lss rfl rfl (qT (by omega))) rfl rfl ?_|refine TN_val (rr_lss rfl rfl (qF (by omega))) rfl rfl ?_|refine TN_val (rr_gtr rfl rfl (qT (by omega))) rfl rfl ?_|refine TN_val (rr_gtr rfl rfl (qF (by omega))) rfl rfl ?_)|refine TW_skip rfl rfl rfl rfl rfl rfl rfl ?_|refine TW_done ?_)
        repeat(first|refine qv rfl (qp rfl) rfl rfl ?_|refine TL_nil ?_|refine T_seq ?_|refine T_region ?_|refine qcT rfl ?_|refine qcF rfl ?_|refine T_skip ?_|refine T_exit ?_|refine T_ret ?_|refine T_block ?_|refine E_then ?_|refine E_thenX ?_|refine E_thenR ?_|refine E_blockN ?_|refine E_blockR ?_|refine E_blockX ?_|refine E_blockO rfl ?_|refine qs rfl rfl rfl rfl rfl rfl ?_|((try refine qg rfl rfl rfl ?_);first|refine qv rfl (qp rfl) rfl rfl ?_|refine qv rfl (rr_add64 (r := ((n + 1 : Nat) : Int)) rfl rfl (by omega) (by omega) (by omega)) rfl rfl ?_|refine qv rfl (qfld FldC.fld rfl rfl) rfl rfl ?_|refine qv rfl (rr_nilc rfl) rfl rfl ?_|refine qv rfl (rr_eql rfl rfl (qT (by omega))) rfl rfl ?_|refine qv rfl (rr_eql rfl rfl (qF (by omega))) rfl rfl ?_|refine qv rfl (rr_add64 rfl rfl (by omega) (by omega) rfl) rfl rfl ?_|refine qv rfl (rr_not rfl rfl) rfl rfl ?_|refine qv rfl (rr_lss rfl rfl (qT (by omega))) rfl rfl ?_|refine qv rfl (rr_lss rfl rfl (qF (by omega))) rfl rfl ?_|refine qv rfl (rr_gtr rfl rfl (qT (by omega))) rfl rfl ?_|refine qv rfl (rr_gtr rfl rfl (qF (by omega))) rfl rfl ?_))
        exact E_round (f, n + 1, c.join (rangeF (lo.toNat : Int) (lo.toNat : Int)), s1) ⟨i1, hig.le, (by have := hig.ge; dsimp only at this ⊢; omega), fun h => by have := hon h; dsimp only at this ⊢; omega⟩ (by show f < f + 1; omega) (by repeat' (first | exact True.intro | refine And.intro rfl ?_)) rfl
      | true =>
        simp only [hb, if_true] at i1 hon hig
        rw [if_pos rfl]
        have hlt := (isB_lt hb).2.1
        have hch2 := fun w B hm => rdChar_calls g s s1.up w B hs (by exact hlt) hm
        have g2c := char_goes (s := s) (st := s1.up) (by exact hlt)
        generalize charS s s1.up = D2 at *
        obtain ⟨hi, p2, o2, e2⟩ := D2
        obtain ⟨p1, o1, e1⟩ := s1
        have hup : RS.up ⟨p1, o1, e1⟩ = ⟨p1 + 1, o1, e1⟩ := rfl
        rw [hup] at hch2 g2c ⊢
        dsimp only at i1 hon hig g2c hlt
        repeat(first|refine qv rfl (qp rfl) rfl rfl ?_|refine TL_nil ?_|refine T_seq ?_|refine T_region ?_|refine qcT rfl ?_|refine qcF rfl ?_|refine T_skip ?_|refine T_exit ?_|refine T_ret ?_|refine T_block ?_|refine E_then ?_|refine E_thenX ?_|refine E_thenR ?_|refine E_blockN ?_|refine E_blockR ?_|refine E_blockX ?_|refine E_blockO rfl ?_|refine qs rfl rfl rfl rfl rfl rfl ?_|((try refine qg rfl rfl rfl ?_);first|refine qv rfl (qp rfl) rfl rfl ?_|refine qv rfl (rr_nilc rfl) rfl rfl ?_|refine qv rfl (rr_load1 (v := .int .i64 ((p1 + 1 : Nat) : Int)) TyC.ty rfl (at_blk (i := 2) rfl rfl)) rfl rfl ?_|refine qv rfl (qfld FldC.fld rfl rfl) rfl rfl ?_|refine qv rfl (rr_nilc rfl) rfl rfl ?_|refine qv rfl (rr_eql rfl rfl (qT (by omega))) rfl rfl ?_|refine qv rfl (rr_eql rfl rfl (qF (by omega))) rfl rfl ?_|refine qv rfl (rr_add64 rfl rfl (by omega) (by omega) rfl) rfl rfl ?_|refine qv rfl (rr_not rfl rfl) rfl rfl ?_|refine qv rfl (rr_lss rfl rfl (qT (by omega))) rfl rfl ?_|refine qv rfl (rr_lss rfl rfl (qF (by omega))) rfl rfl ?_|refine qv rfl (rr_gtr rfl rfl (qT (by omega))) rfl rfl ?_|refine qv rfl (rr_gtr rfl rfl (qF (by omega))) rfl rfl ?_))
        refine TL_callB [2] [0, 1] (by decide) rfl rfl (he1 EntersC.en rfl rfl) (fun w hm hb => hch2 w _ hb) rfl rfl rfl ?_
        intro _ _
        conv=>arg 8;simp only[zA,zB,zC,zD,zE,zF,zG,zH,zI,rowS,ret,id_eq, byteSp]
        conv => arg 7; simp only [byteSp]
        by_cases c5 : e2 = 0 ∧ hi < lo
        · rw [if_pos c5] at i1 hon hig
          obtain ⟨rfl, c6⟩ := c5
          repeat(first|refine qv rfl (qp rfl) rfl rfl ?_|refine TL_nil ?_|refine T_seq ?_|refine T_region ?_|refine qcT rfl ?_|refine qcF rfl ?_|refine T_skip ?_|refine T_exit ?_|refine T_ret ?_|refine T_block ?_|refine E_then ?_|refine E_thenX ?_|refine E_thenR ?_|refine E_blockN ?_|refine E_blockR ?_|refine E_blockX ?_|refine E_blockO rfl ?_|refine qs rfl rfl rfl rfl rfl rfl ?_|((try refine qg rfl rfl rfl ?_);first|refine qv rfl (qp rfl) rfl rfl ?_|refine qv rfl (rr_nilc rfl) rfl rfl ?_|refine qv rfl (rr_load1 (v := .int .i64 0) TyC.ty rfl (at_blk (i := 2) rfl rfl)) rfl rfl ?_|refine qv rfl (rr_eql (b := true) rfl rfl rfl) rfl rfl ?_|refine qv rfl (qfld FldC.fld rfl rfl) rfl rfl ?_|refine qv rfl (rr_nilc rfl) rfl rfl ?_|refine qv rfl (rr_eql rfl rfl (qT (by omega))) rfl rfl ?_|refine qv rfl (rr_eql rfl rfl (qF (by omega))) rfl rfl ?_|refine qv rfl (rr_add64 rfl rfl (by omega) (by omega) rfl) rfl rfl ?_|refine qv rfl (rr_lss (b := true) rfl rfl (u8lt (decide_eq_true c6))) rfl rfl ?_|refine qv rfl (rr_not rfl rfl) rfl rfl ?_|refine qv rfl (rr_lss rfl rfl (qT (by omega))) rfl rfl ?_|refine qv rfl (rr_lss rfl rfl (qF (by omega))) rfl rfl ?_|refine qv rfl (rr_gtr rfl rfl (qT (by omega))) rfl rfl ?_|refine qv rfl (rr_gtr rfl rfl (qF (by omega))) rfl rfl ?_))
          refine TL_store1 (i := 2) rfl rfl rfl rfl rfl rfl ?_
          rw [show (rdC s ⟨p2, o2, 0⟩).setIfInBounds (0 + 1) (.int .i64 ((p1 + 1 : Nat) : Int)) = rdC s ⟨p1 + 1, o2, 0⟩ from rfl]
          conv=>arg 8;simp only[zA,zB,zC,zD,zE,zF,zG,zH,zI,rowS,ret,id_eq]
          repeat(first|refine qv rfl (qp rfl) rfl rfl ?_|refine TL_nil ?_|refine T_seq ?_|refine T_region ?_|refine qcT rfl ?_|refine qcF rfl ?_|refine T_skip ?_|refine T_exit ?_|refine T_ret ?_|refine T_block ?_|refine E_then ?_|refine E_thenX ?_|refine E_thenR ?_|refine E_blockN ?_|refine E_blockR ?_|refine E_blockX ?_|refine E_blockO rfl ?_|refine qs rfl rfl rfl rfl rfl rfl ?_|((try refine qg rfl rfl rfl ?_);first|refine qv rfl (qp rfl) rfl rfl ?_|refine qv rfl (qfld FldC.fld rfl rfl) rfl rfl ?_|refine qv rfl (rr_nilc rfl) rfl rfl ?_|refine qv rfl (rr_eql rfl rfl (qT (by omega))) rfl rfl ?_|refine qv rfl (rr_eql rfl rfl (qF (by omega))) rfl rfl ?_|refine qv rfl (rr_add64 rfl rfl (by omega) (by omega) rfl) rfl rfl ?_|refine qv rfl (rr_not rfl rfl) rfl rfl ?_|refine qv rfl (rr_lss rfl rfl (qT (by omega))) rfl rfl ?_|refine qv rfl (rr_lss rfl rfl (qF (by omega))) rfl rfl ?_|refine qv rfl (rr_gtr rfl rfl (qT (by omega))) rfl rfl ?_|refine qv rfl (rr_gtr rfl rfl (qF (by omega))) rfl rfl ?_))
          refine TL_callB [2] [0, 1] (by decide) rfl rfl (he2 EntersC.en rfl rfl rfl) (fun w hm hb => rdFail_calls g s ⟨p1 + 1, o2, 0⟩ 6 w _ hb) rfl rfl rfl ?_
          intro _ _
          conv=>arg 8;simp only[zA,zB,zC,zD,zE,zF,zG,zH,zI,rowS,ret,id_eq]
          rw [failS_0] at i1 hon hig ⊢
          repeat(first|refine qv rfl (qp rfl) rfl rfl ?_|refine TL_nil ?_|refine T_seq ?_|refine T_region ?_|refine qcT rfl ?_|refine qcF rfl ?_|refine T_skip ?_|refine T_exit ?_|refine T_ret ?_|refine T_block ?_|refine E_then ?_|refine E_thenX ?_|refine E_thenR ?_|refine E_blockN ?_|refine E_blockR ?_|refine E_blockX ?_|refine E_blockO rfl ?_|refine qs rfl rfl rfl rfl rfl rfl ?_|((try refine qg rfl rfl rfl ?_);first|refine qv rfl (qp rfl) rfl rfl ?_|refine qv rfl (qfld FldC.fld rfl rfl) rfl rfl ?_|refine qv rfl (rr_nilc rfl) rfl rfl ?_|refine qv rfl (rr_eql rfl rfl (qT (by omega))) rfl rfl ?_|refine qv rfl (rr_eql rfl rfl (qF (by omega))) rfl rfl ?_|refine qv rfl (rr_add64 rfl rfl (by omega) (by omega) rfl) rfl rfl ?_|refine qv rfl (rr_not rfl rfl) rfl rfl ?_|refine qv rfl (rr_lss rfl rfl (qT (by omega))) rfl rfl ?_|refine qv rfl (rr_lss rfl rfl (qF (by omega))) rfl rfl ?_|refine qv rfl (rr_gtr rfl rfl (qT (by omega))) rfl rfl ?_|refine qv rfl (rr_gtr rfl rfl (qF (by omega))) rfl rfl ?_))
          refine T_ord ([]) (.calm 1 (.calm 2 (.calm 3 (.calm 4 (.calm 5 (.one 0 (.calm 6 (.one 7 (.done))))))))) (sub_pick [] (by decide) rfl) (by kernel_rfl) (by kernel_rfl) (by intro c a d v w h; cases d <;> exact h) ?_
          repeat(first|((first|refine TW_plain rfl rfl ?_|refine TW_gmet rfl rfl rfl rfl ?_);first|refine TN_val (qp rfl) rfl rfl ?_|refine TN_val (rr_conv Und.eq Und.eq rfl (u8i _)) rfl rfl ?_|refine TN_val (qfld FldC.fld rfl rfl) rfl rfl ?_|refine TN_val (rr_nilc rfl) rfl rfl ?_|refine TN_val (rr_eql rfl rfl (qT (by omega))) rfl rfl ?_|refine TN_val (rr_eql rfl rfl (qF (by omega))) rfl rfl ?_|refine TN_val (rr_add64 rfl rfl (by omega) (by omega) rfl) rfl rfl ?_|refine TN_val (rr_not rfl rfl) rfl rfl ?_|refine TN_val (rr_lss rfl rfl (qT (by omega))) rfl rfl ?_|refine TN_val (rr_lss rfl rfl (qF (by omega))) rfl rfl ?_|refine TN_val (rr_gtr rfl rfl (qT (by omega))) rfl rfl ?_|refine TN_val (rr_gtr rfl rfl (qF (by omega))) rfl rfl ?_)|refine TW_skip rfl rfl rfl rfl rfl rfl rfl ?_|refine TW_done ?_)
          refine TW_call rfl (he2 EntersC.en rfl rfl rfl) (fun w hm => rangeE (lo.toNat : Int) (hi.toNat : Int) (okB _) (okB _) w) rfl rfl rfl ?_
          refine TW_one rfl (TL_val (rr_loadN (cs := clsL c) TyC.ty rfl rfl (fun j v hj => at_blk (i := 1) rfl (cls_blk hj))) rfl rfl rfl (TW_on (sub_pick [] (by decide) rfl) ?_))
          refine TW_call rfl (he2 EntersC.en rfl rfl rfl) (fun w hm => joinE c (rangeF (lo.toNat : Int) (hi.toNat : Int)) w) rfl rfl rfl ?_
          repeat(first|((first|refine TW_plain rfl rfl ?_|refine TW_gmet rfl rfl rfl rfl ?_);first|refine TN_val (qp rfl) rfl rfl ?_|refine TN_val (qfld FldC.fld rfl rfl) rfl rfl ?_|refine TN_val (rr_nilc rfl) rfl rfl ?_|refine TN_val (rr_eql rfl rfl (qT (by omega))) rfl rfl ?_|refine TN_val (rr_eql rfl rfl (qF (by omega))) rfl rfl ?_|refine TN_val (rr_add64 rfl rfl (by omega) (by omega) rfl) rfl rfl ?_|refine TN_val (rr_not rfl rfl) rfl rfl ?_|refine TN_val (rr_lss rfl rfl (qT (by omega))) rfl rfl ?_|refine TN_val (rr_lss rfl rfl (qF (by omega))) rfl rfl ?_|refine TN_val (rr_gtr rfl rfl (qT (by omega))) rfl rfl ?_|refine TN_val (rr_gtr rfl rfl (qF (by omega))) rfl rfl ?_)|refine TW_skip rfl rfl rfl rfl rfl rfl rfl ?_|refine TW_done ?_)
          refine TW_one rfl (TL_storeB (i := 1) (cs' := (clsL (c.join (rangeF (lo.toNat : Int) (hi.toNat : Int)))).toArray) rfl rfl rfl rfl rfl rfl (TW_on (sub_pick [] (by decide) rfl) ?_))
          repeat(first|((first|refine TW_plain rfl rfl ?_|refine TW_gmet rfl rfl rfl rfl ?_);first|refine TN_val (qp rfl) rfl rfl ?_|refine TN_val (qfld FldC.fld rfl rfl) rfl rfl ?_|refine TN_val (rr_nilc rfl) rfl rfl ?_|refine TN_val (rr_eql rfl rfl (qT (by omega))) rfl rfl ?_|refine TN_val (rr_eql rfl rfl (qF (by omega))) rfl rfl ?_|refine TN_val (rr_add64 rfl rfl (by omega) (by omega) rfl) rfl rfl ?_|refine TN_val (rr_not rfl rfl) rfl rfl ?_|refine TN_val (rr_lss rfl rfl (qT (by omega))) rfl rfl ?_|refine TN_val (rr_lss rfl rfl (qF (by omega))) rfl rfl ?_|refine TN_val (rr_gtr rfl rfl (qT (by omega))) rfl rfl ?_|refine TN_val (rr_gtr rfl rfl (qF (by omega))) rfl rfl ?_)|refine TW_skip rfl rfl rfl rfl rfl rfl rfl ?_|refine TW_done ?_)
          repeat(first|refine qv rfl (qp rfl) rfl rfl ?_|refine TL_nil ?_|refine T_seq ?_|refine T_region ?_|refine qcT rfl ?_|refine qcF rfl ?_|refine T_skip ?_|refine T_exit ?_|refine T_ret ?_|refine T_block ?_|refine E_then ?_|refine E_thenX ?_|refine E_thenR ?_|refine E_blockN ?_|refine E_blockR ?_|refine E_blockX ?_|refine E_blockO rfl ?_|refine qs rfl rfl rfl rfl rfl rfl ?_|((try refine qg rfl rfl rfl ?_);first|refine qv rfl (qp rfl) rfl rfl ?_|refine qv rfl (rr_add64 (r := ((n + 1 : Nat) : Int)) rfl rfl (by omega) (by omega) (by omega)) rfl rfl ?_|refine qv rfl (qfld FldC.fld rfl rfl) rfl rfl ?_|refine qv rfl (rr_nilc rfl) rfl rfl ?_|refine qv rfl (rr_eql rfl rfl (qT (by omega))) rfl rfl ?_|refine qv rfl (rr_eql rfl rfl (qF (by omega))) rfl rfl ?_|refine qv rfl (rr_add64 rfl rfl (by omega) (by omega) rfl) rfl rfl ?_|refine qv rfl (rr_not rfl rfl) rfl rfl ?_|refine qv rfl (rr_lss rfl rfl (qT (by omega))) rfl rfl ?_|refine qv rfl (rr_lss rfl rfl (qF (by omega))) rfl rfl ?_|refine qv rfl (rr_gtr rfl rfl (qT (by omega))) rfl rfl ?_|refine qv rfl (rr_gtr rfl rfl (qF (by omega))) rfl rfl ?_))
          exact E_round (f, n + 1, c.join (rangeF (lo.toNat : Int) (hi.toNat : Int)), ⟨p1 + 1, o2, 6⟩) ⟨i1, hig.le, (by have := hig.ge; dsimp only at this ⊢; omega), fun h => by have := hon h; dsimp only at this ⊢; omega⟩ (by show f < f + 1; omega) (by repeat' (first | exact True.intro | refine And.intro rfl ?_)) rfl
        · rw [if_neg c5] at i1 hon hig
          by_cases c6 : e2 = 0
          · subst c6
            have c7 : ¬ hi < lo := fun h => c5 ⟨rfl, h⟩
            repeat(first|refine qv rfl (qp rfl) rfl rfl ?_|refine TL_nil ?_|refine T_seq ?_|refine T_region ?_|refine qcT rfl ?_|refine qcF rfl ?_|refine T_skip ?_|refine T_exit ?_|refine T_ret ?_|refine T_block ?_|refine E_then ?_|refine E_thenX ?_|refine E_thenR ?_|refine E_blockN ?_|refine E_blockR ?_|refine E_blockX ?_|refine E_blockO rfl ?_|refine qs rfl rfl rfl rfl rfl rfl ?_|((try refine qg rfl rfl rfl ?_);first|refine qv rfl (qp rfl) rfl rfl ?_|refine qv rfl (rr_nilc rfl) rfl rfl ?_|refine qv rfl (rr_load1 (v := .int .i64 0) TyC.ty rfl (at_blk (i := 2) rfl rfl)) rfl rfl ?_|refine qv rfl (rr_eql (b := true) rfl rfl rfl) rfl rfl ?_|refine qv rfl (qfld FldC.fld rfl rfl) rfl rfl ?_|refine qv rfl (rr_nilc rfl) rfl rfl ?_|refine qv rfl (rr_eql rfl rfl (qT (by omega))) rfl rfl ?_|refine qv rfl (rr_eql rfl rfl (qF (by omega))) rfl rfl ?_|refine qv rfl (rr_add64 rfl rfl (by omega) (by omega) rfl) rfl rfl ?_|refine qv rfl (rr_lss (b := false) rfl rfl (u8lt (decide_eq_false c7))) rfl rfl ?_|refine qv rfl (rr_not rfl rfl) rfl rfl ?_|refine qv rfl (rr_lss rfl rfl (qT (by omega))) rfl rfl ?_|refine qv rfl (rr_lss rfl rfl (qF (by omega))) rfl rfl ?_|refine qv rfl (rr_gtr rfl rfl (qT (by omega))) rfl rfl ?_|refine qv rfl (rr_gtr rfl rfl (qF (by omega))) rfl rfl ?_))
            refine T_ord ([]) (.calm 1 (.calm 2 (.calm 3 (.calm 4 (.calm 5 (.one 0 (.calm 6 (.one 7 (.done))))))))) (sub_pick [] (by decide) rfl) (by kernel_rfl) (by kernel_rfl) (by intro c a d v w h; cases d <;> exact h) ?_
            repeat(first|((first|refine TW_plain rfl rfl ?_|refine TW_gmet rfl rfl rfl rfl ?_);first|refine TN_val (qp rfl) rfl rfl ?_|refine TN_val (rr_conv Und.eq Und.eq rfl (u8i _)) rfl rfl ?_|refine TN_val (qfld FldC.fld rfl rfl) rfl rfl ?_|refine TN_val (rr_nilc rfl) rfl rfl ?_|refine TN_val (rr_eql rfl rfl (qT (by omega))) rfl rfl ?_|refine TN_val (rr_eql rfl rfl (qF (by omega))) rfl rfl ?_|refine TN_val (rr_add64 rfl rfl (by omega) (by omega) rfl) rfl rfl ?_|refine TN_val (rr_not rfl rfl) rfl rfl ?_|refine TN_val (rr_lss rfl rfl (qT (by omega))) rfl rfl ?_|refine TN_val (rr_lss rfl rfl (qF (by omega))) rfl rfl ?_|refine TN_val (rr_gtr rfl rfl (qT (by omega))) rfl rfl ?_|refine TN_val (rr_gtr rfl rfl (qF (by omega))) rfl rfl ?_)|refine TW_skip rfl rfl rfl rfl rfl rfl rfl ?_|refine TW_done ?_)
            refine TW_call rfl (he2 EntersC.en rfl rfl rfl) (fun w hm => rangeE (lo.toNat : Int) (hi.toNat : Int) (okB _) (okB _) w) rfl rfl rfl ?_
            refine TW_one rfl (TL_val (rr_loadN (cs := clsL c) TyC.ty rfl rfl (fun j v hj => at_blk (i := 1) rfl (cls_blk hj))) rfl rfl rfl (TW_on (sub_pick [] (by decide) rfl) ?_))
            refine TW_call rfl (he2 EntersC.en rfl rfl rfl) (fun w hm => joinE c (rangeF (lo.toNat : Int) (hi.toNat : Int)) w) rfl rfl rfl ?_
            repeat(first|((first|refine TW_plain rfl rfl ?_|refine TW_gmet rfl rfl rfl rfl ?_);first|refine TN_val (qp rfl) rfl rfl ?_|refine TN_val (qfld FldC.fld rfl rfl) rfl rfl ?_|refine TN_val (rr_nilc rfl) rfl rfl ?_|refine TN_val (rr_eql rfl rfl (qT (by omega))) rfl rfl ?_|refine TN_val (rr_eql rfl rfl (qF (by omega))) rfl rfl ?_|refine TN_val (rr_add64 rfl rfl (by omega) (by omega) rfl) rfl rfl ?_|refine TN_val (rr_not rfl rfl) rfl rfl ?_|refine TN_val (rr_lss rfl rfl (qT (by omega))) rfl rfl ?_|refine TN_val (rr_lss rfl rfl (qF (by omega))) rfl rfl ?_|refine TN_val (rr_gtr rfl rfl (qT (by omega))) rfl rfl ?_|refine TN_val (rr_gtr rfl rfl (qF (by omega))) rfl rfl ?_)|refine TW_skip rfl rfl rfl rfl rfl rfl rfl ?_|refine TW_done ?_)
            refine TW_one rfl (TL_storeB (i := 1) (cs' := (clsL (c.join (rangeF (lo.toNat : Int) (hi.toNat : Int)))).toArray) rfl rfl rfl rfl rfl rfl (TW_on (sub_pick [] (by decide) rfl) ?_))
            repeat(first|((first|refine TW_plain rfl rfl ?_|refine TW_gmet rfl rfl rfl rfl ?_);first|refine TN_val (qp rfl) rfl rfl ?_|refine TN_val (qfld FldC.fld rfl rfl) rfl rfl ?_|refine TN_val (rr_nilc rfl) rfl rfl ?_|refine TN_val (rr_eql rfl rfl (qT (by omega))) rfl rfl ?_|refine TN_val (rr_eql rfl rfl (qF (by omega))) rfl rfl ?_|refine TN_val (rr_add64 rfl rfl (by omega) (by omega) rfl) rfl rfl ?_|refine TN_val (rr_not rfl rfl) rfl rfl ?_|refine TN_val (rr_lss rfl rfl (qT (by omega))) rfl rfl ?_|refine TN_val (rr_lss rfl rfl (qF (by omega))) rfl rfl ?_|refine TN_val (rr_gtr rfl rfl (qT (by omega))) rfl rfl ?_|refine TN_val (rr_gtr rfl rfl (qF (by omega))) rfl rfl ?_)|refine TW_skip rfl rfl rfl rfl rfl rfl rfl ?_|refine TW_done ?_)
            repeat(first|refine qv rfl (qp rfl) rfl rfl ?_|refine TL_nil ?_|refine T_seq ?_|refine T_region ?_|refine qcT rfl ?_|refine qcF rfl ?_|refine T_skip ?_|refine T_exit ?_|refine T_ret ?_|refine T_block ?_|refine E_then ?_|refine E_thenX ?_|refine E_thenR ?_|refine E_blockN ?_|refine E_blockR ?_|refine E_blockX ?_|refine E_blockO rfl ?_|refine qs rfl rfl rfl rfl rfl rfl ?_|((try refine qg rfl rfl rfl ?_);first|refine qv rfl (qp rfl) rfl rfl ?_|refine qv rfl (rr_add64 (r := ((n + 1 : Nat) : Int)) rfl rfl (by omega) (by omega) (by omega)) rfl rfl ?_|refine qv rfl (qfld FldC.fld rfl rfl) rfl rfl ?_|refine qv rfl (rr_nilc rfl) rfl rfl ?_|refine qv rfl (rr_eql rfl rfl (qT (by omega))) rfl rfl ?_|refine qv rfl (rr_eql rfl rfl (qF (by omega))) rfl rfl ?_|refine qv rfl (rr_add64 rfl rfl (by omega) (by omega) rfl) rfl rfl ?_|refine qv rfl (rr_not rfl rfl) rfl rfl ?_|refine qv rfl (rr_lss rfl rfl (qT (by omega))) rfl rfl ?_|refine qv rfl (rr_lss rfl rfl (qF (by omega))) rfl rfl ?_|refine qv rfl (rr_gtr rfl rfl (qT (by omega))) rfl rfl ?_|refine qv rfl (rr_gtr rfl rfl (qF (by omega))) rfl rfl ?_))
            exact E_round (f, n + 1, c.join (rangeF (lo.toNat : Int) (hi.toNat : Int)), ⟨p2, o2, 0⟩) ⟨i1, hig.le, (by have := hig.ge; dsimp only at this ⊢; omega), fun h => by have := hon h; dsimp only at this ⊢; omega⟩ (by show f < f + 1; omega) (by repeat' (first | exact True.intro | refine And.intro rfl ?_)) rfl
          · repeat(first|refine qv rfl (qp rfl) rfl rfl ?_|refine TL_nil ?_|refine T_seq ?_|refine T_region ?_|refine qcT rfl ?_|refine qcF rfl ?_|refine T_skip ?_|refine T_exit ?_|refine T_ret ?_|refine T_block ?_|refine E_then ?_|refine E_thenX ?_|refine E_thenR ?_|refine E_blockN ?_|refine E_blockR ?_|refine E_blockX ?_|refine E_blockO rfl ?_|refine qs rfl rfl rfl rfl rfl rfl ?_|((try refine qg rfl rfl rfl ?_);first|refine qv rfl (qp rfl) rfl rfl ?_|refine qv rfl (rr_nilc rfl) rfl rfl ?_|refine qv rfl (rr_load1 (v := .int .i64 e2) TyC.ty rfl (at_blk (i := 2) rfl rfl)) rfl rfl ?_|refine qv rfl (rr_eql (b := false) rfl rfl (decide_eq_false c6)) rfl rfl ?_|refine qv rfl (qfld FldC.fld rfl rfl) rfl rfl ?_|refine qv rfl (rr_nilc rfl) rfl rfl ?_|refine qv rfl (rr_eql rfl rfl (qT (by omega))) rfl rfl ?_|refine qv rfl (rr_eql rfl rfl (qF (by omega))) rfl rfl ?_|refine qv rfl (rr_add64 rfl rfl (by omega) (by omega) rfl) rfl rfl ?_|refine qv rfl (rr_not rfl rfl) rfl rfl ?_|refine qv rfl (rr_lss rfl rfl (qT (by omega))) rfl rfl ?_|refine qv rfl (rr_lss rfl rfl (qF (by omega))) rfl rfl ?_|refine qv rfl (rr_gtr rfl rfl (qT (by omega))) rfl rfl ?_|refine qv rfl (rr_gtr rfl rfl (qF (by omega))) rfl rfl ?_))
            refine T_ord ([]) (.calm 1 (.calm 2 (.calm 3 (.calm 4 (.calm 5 (.one 0 (.calm 6 (.one 7 (.done))))))))) (sub_pick [] (by decide) rfl) (by kernel_rfl) (by kernel_rfl) (by intro c a d v w h; cases d <;> exact h) ?_
            repeat(first|((first|refine TW_plain rfl rfl ?_|refine TW_gmet rfl rfl rfl rfl ?_);first|refine TN_val (qp rfl) rfl rfl ?_|refine TN_val (rr_conv Und.eq Und.eq rfl (u8i _)) rfl rfl ?_|refine TN_val (qfld FldC.fld rfl rfl) rfl rfl ?_|refine TN_val (rr_nilc rfl) rfl rfl ?_|refine TN_val (rr_eql rfl rfl (qT (by omega))) rfl rfl ?_|refine TN_val (rr_eql rfl rfl (qF (by omega))) rfl rfl ?_|refine TN_val (rr_add64 rfl rfl (by omega) (by omega) rfl) rfl rfl ?_|refine TN_val (rr_not rfl rfl) rfl rfl ?_|refine TN_val (rr_lss rfl rfl (qT (by omega))) rfl rfl ?_|refine TN_val (rr_lss rfl rfl (qF (by omega))) rfl rfl ?_|refine TN_val (rr_gtr rfl rfl (qT (by omega))) rfl rfl ?_|refine TN_val (rr_gtr rfl rfl (qF (by omega))) rfl rfl ?_)|refine TW_skip rfl rfl rfl rfl rfl rfl rfl ?_|refine TW_done ?_)
            refine TW_call rfl (he2 EntersC.en rfl rfl rfl) (fun w hm => rangeE (lo.toNat : Int) (hi.toNat : Int) (okB _) (okB _) w) rfl rfl rfl ?_
            refine TW_one rfl (TL_val (rr_loadN (cs := clsL c) TyC.ty rfl rfl (fun j v hj => at_blk (i := 1) rfl (cls_blk hj))) rfl rfl rfl (TW_on (sub_pick [] (by decide) rfl) ?_))
            refine TW_call rfl (he2 EntersC.en rfl rfl rfl) (fun w hm => joinE c (rangeF (lo.toNat : Int) (hi.toNat : Int)) w) rfl rfl rfl ?_
            repeat(first|((first|refine TW_plain rfl rfl ?_|refine TW_gmet rfl rfl rfl rfl ?_);first|refine TN_val (qp rfl) rfl rfl ?_|refine TN_val (qfld FldC.fld rfl rfl) rfl rfl ?_|refine TN_val (rr_nilc rfl) rfl rfl ?_|refine TN_val (rr_eql rfl rfl (qT (by omega))) rfl rfl ?_|refine TN_val (rr_eql rfl rfl (qF (by omega))) rfl rfl ?_|refine TN_val (rr_add64 rfl rfl (by omega) (by omega) rfl) rfl rfl ?_|refine TN_val (rr_not rfl rfl) rfl rfl ?_|refine TN_val (rr_lss rfl rfl (qT (by omega))) rfl rfl ?_|refine TN_val (rr_lss rfl rfl (qF (by omega))) rfl rfl ?_|refine TN_val (rr_gtr rfl rfl (qT (by omega))) rfl rfl ?_|refine TN_val (rr_gtr rfl rfl (qF (by omega))) rfl rfl ?_)|refine TW_skip rfl rfl rfl rfl rfl rfl rfl ?_|refine TW_done ?_)
            refine TW_one rfl (TL_storeB (i := 1) (cs' := (clsL (c.join (rangeF (lo.toNat : Int) (hi.toNat : Int)))).toArray) rfl rfl rfl rfl rfl rfl (TW_on (sub_pick [] (by decide) rfl) ?_))
            repeat(first|((first|refine TW_plain rfl rfl ?_|refine TW_gmet rfl rfl rfl rfl ?_);first|refine TN_val (qp rfl) rfl rfl ?_|refine TN_val (qfld FldC.fld rfl rfl) rfl rfl ?_|refine TN_val (rr_nilc rfl) rfl rfl ?_|refine TN_val (rr_eql rfl rfl (qT (by omega))) rfl rfl ?_|refine TN_val (rr_eql rfl rfl (qF (by omega))) rfl rfl ?_|refine TN_val (rr_add64 rfl rfl (by omega) (by omega) rfl) rfl rfl ?_|refine TN_val (rr_not rfl rfl) rfl rfl ?_|refine TN_val (rr_lss rfl rfl (qT (by omega))) rfl rfl ?_|refine TN_val (rr_lss rfl rfl (qF (by omega))) rfl rfl ?_|refine TN_val (rr_gtr rfl rfl (qT (by omega))) rfl rfl ?_|refine TN_val (rr_gtr rfl rfl (qF (by omega))) rfl rfl ?_)|refine TW_skip rfl rfl rfl rfl rfl rfl rfl ?_|refine TW_done ?_)
            repeat(first|refine qv rfl (qp rfl) rfl rfl ?_|refine TL_nil ?_|refine T_seq ?_|refine T_region ?_|refine qcT rfl ?_|refine qcF rfl ?_|refine T_skip ?_|refine T_exit ?_|refine T_ret ?_|refine T_block ?_|refine E_then ?_|refine E_thenX ?_|refine E_thenR ?_|refine E_blockN ?_|refine E_blockR ?_|refine E_blockX ?_|refine E_blockO rfl ?_|refine qs rfl rfl rfl rfl rfl rfl ?_|((try refine qg rfl rfl rfl ?_);first|refine qv rfl (qp rfl) rfl rfl ?_|refine qv rfl (rr_add64 (r := ((n + 1 : Nat) : Int)) rfl rfl (by omega) (by omega) (by omega)) rfl rfl ?_|refine qv rfl (qfld FldC.fld rfl rfl) rfl rfl ?_|refine qv rfl (rr_nilc rfl) rfl rfl ?_|refine qv rfl (rr_eql rfl rfl (qT (by omega))) rfl rfl ?_|refine qv rfl (rr_eql rfl rfl (qF (by omega))) rfl rfl ?_|refine qv rfl (rr_add64 rfl rfl (by omega) (by omega) rfl) rfl rfl ?_|refine qv rfl (rr_not rfl rfl) rfl rfl ?_|refine qv rfl (rr_lss rfl rfl (qT (by omega))) rfl rfl ?_|refine qv rfl (rr_lss rfl rfl (qF (by omega))) rfl rfl ?_|refine qv rfl (rr_gtr rfl rfl (qT (by omega))) rfl rfl ?_|refine qv rfl (rr_gtr rfl rfl (qF (by omega))) rfl rfl ?_))
            exact E_round (f, n + 1, c.join (rangeF (lo.toNat : Int) (hi.toNat : Int)), ⟨p2, o2, e2⟩) ⟨i1, hig.le, (by have := hig.ge; dsimp only at this ⊢; omega), fun h => by have := hon h; dsimp only at this ⊢; omega⟩ (by show f < f + 1; omega) (by repeat' (first | exact True.intro | refine And.intro rfl ?_)) rfl
    | false =>
      rw [if_neg (fun h => by rw [hcont.1 h] at hk; cases hk)] at i1
      cases i1
      clear hcont hk
      dsimp only at hR
      cases neg with
      | false =>
        rw [if_neg (by decide)] at hR
        by_cases cz : c = C4.zero
        · rw [if_pos cz] at hR
          cases hR
          repeat(first|refine qv rfl (qp rfl) rfl rfl ?_|refine TL_nil ?_|refine T_seq ?_|refine T_region ?_|refine qcT rfl ?_|refine qcF rfl ?_|refine T_skip ?_|refine T_exit ?_|refine T_ret ?_|refine T_block ?_|refine E_then ?_|refine E_thenX ?_|refine E_thenR ?_|refine E_blockN ?_|refine E_blockR ?_|refine E_blockX ?_|refine E_blockO rfl ?_|refine qs rfl rfl rfl rfl rfl rfl ?_|((try refine qg rfl rfl rfl ?_);first|refine qv rfl (qp rfl) rfl rfl ?_|refine qv rfl (rr_loadN (cs := clsL c) TyC.ty rfl rfl (fun j v hj => at_blk (i := 1) rfl (cls_blk hj))) rfl rfl ?_|refine qv rfl (rr_build rfl build_cz) rfl rfl ?_|refine qv rfl (rr_aggeq (b := true) rfl rfl (by kernel_rfl) (cls_aeq (decide_eq_true cz))) rfl rfl ?_|refine qv rfl (qfld FldC.fld rfl rfl) rfl rfl ?_|refine qv rfl (rr_nilc rfl) rfl rfl ?_|refine qv rfl (rr_eql rfl rfl (qT (by omega))) rfl rfl ?_|refine qv rfl (rr_eql rfl rfl (qF (by omega))) rfl rfl ?_|refine qv rfl (rr_add64 rfl rfl (by omega) (by omega) rfl) rfl rfl ?_|refine qv rfl (rr_not rfl rfl) rfl rfl ?_|refine qv rfl (rr_lss rfl rfl (qT (by omega))) rfl rfl ?_|refine qv rfl (rr_lss rfl rfl (qF (by omega))) rfl rfl ?_|refine qv rfl (rr_gtr rfl rfl (qT (by omega))) rfl rfl ?_|refine qv rfl (rr_gtr rfl rfl (qF (by omega))) rfl rfl ?_))
          repeat(first|refine qv rfl (qp rfl) rfl rfl ?_|refine TL_nil ?_|refine T_seq ?_|refine T_region ?_|refine qcT rfl ?_|refine qcF rfl ?_|refine T_skip ?_|refine T_exit ?_|refine T_ret ?_|refine T_block ?_|refine E_then ?_|refine E_thenX ?_|refine E_thenR ?_|refine E_blockN ?_|refine E_blockR ?_|refine E_blockX ?_|refine E_blockO rfl ?_|refine qs rfl rfl rfl rfl rfl rfl ?_|((try refine qg rfl rfl rfl ?_);first|refine qv rfl (qp rfl) rfl rfl ?_|refine qv rfl (qfld FldC.fld rfl rfl) rfl rfl ?_|refine qv rfl (rr_nilc rfl) rfl rfl ?_|refine qv rfl (rr_eql rfl rfl (qT (by omega))) rfl rfl ?_|refine qv rfl (rr_eql rfl rfl (qF (by omega))) rfl rfl ?_|refine qv rfl (rr_add64 rfl rfl (by omega) (by omega) rfl) rfl rfl ?_|refine qv rfl (rr_not rfl rfl) rfl rfl ?_|refine qv rfl (rr_lss rfl rfl (qT (by omega))) rfl rfl ?_|refine qv rfl (rr_lss rfl rfl (qF (by omega))) rfl rfl ?_|refine qv rfl (rr_gtr rfl rfl (qT (by omega))) rfl rfl ?_|refine qv rfl (rr_gtr rfl rfl (qF (by omega))) rfl rfl ?_))
          refine TL_callB [2] [0, 1] (by decide) rfl rfl (he2 EntersC.en rfl rfl rfl) (fun w hm hb => rdFail_calls g s st 6 w _ hb) rfl rfl rfl ?_
          intro _ _
          conv=>arg 8;simp only[zA,zB,zC,zD,zE,zF,zG,zH,zI,rowS,ret,id_eq]
          repeat(first|refine qv rfl (qp rfl) rfl rfl ?_|refine TL_nil ?_|refine T_seq ?_|refine T_region ?_|refine qcT rfl ?_|refine qcF rfl ?_|refine T_skip ?_|refine T_exit ?_|refine T_ret ?_|refine T_block ?_|refine E_then ?_|refine E_thenX ?_|refine E_thenR ?_|refine E_blockN ?_|refine E_blockR ?_|refine E_blockX ?_|refine E_blockO rfl ?_|refine qs rfl rfl rfl rfl rfl rfl ?_|((try refine qg rfl rfl rfl ?_);first|refine qv rfl (qp rfl) rfl rfl ?_|refine qv rfl (qfld FldC.fld rfl rfl) rfl rfl ?_|refine qv rfl (rr_nilc rfl) rfl rfl ?_|refine qv rfl (rr_eql rfl rfl (qT (by omega))) rfl rfl ?_|refine qv rfl (rr_eql rfl rfl (qF (by omega))) rfl rfl ?_|refine qv rfl (rr_add64 rfl rfl (by omega) (by omega) rfl) rfl rfl ?_|refine qv rfl (rr_not rfl rfl) rfl rfl ?_|refine qv rfl (rr_lss rfl rfl (qT (by omega))) rfl rfl ?_|refine qv rfl (rr_lss rfl rfl (qF (by omega))) rfl rfl ?_|refine qv rfl (rr_gtr rfl rfl (qT (by omega))) rfl rfl ?_|refine qv rfl (rr_gtr rfl rfl (qF (by omega))) rfl rfl ?_))
          refine TL_callB [2] [0, 1] (by decide) rfl rfl (he2 EntersC.en rfl rfl rfl) (fun w hm hb => rdTake_calls g s _ 93 w _ hs hb) rfl rfl rfl ?_
          intro _ _
          conv=>arg 8;simp only[zA,zB,zC,zD,zE,zF,zG,zH,zI,rowS,ret,id_eq]
          repeat(first|refine qv rfl (qp rfl) rfl rfl ?_|refine TL_nil ?_|refine T_seq ?_|refine T_region ?_|refine qcT rfl ?_|refine qcF rfl ?_|refine T_skip ?_|refine T_exit ?_|refine T_ret ?_|refine T_block ?_|refine E_then ?_|refine E_thenX ?_|refine E_thenR ?_|refine E_blockN ?_|refine E_blockR ?_|refine E_blockX ?_|refine E_blockO rfl ?_|refine qs rfl rfl rfl rfl rfl rfl ?_|((try refine qg rfl rfl rfl ?_);first|refine qv rfl (qp rfl) rfl rfl ?_|refine qv rfl (rr_loadN (cs := clsL c) TyC.ty rfl rfl (fun j v hj => at_blk (i := 1) rfl (cls_blk hj))) rfl rfl ?_|refine qv rfl (qfld FldC.fld rfl rfl) rfl rfl ?_|refine qv rfl (rr_nilc rfl) rfl rfl ?_|refine qv rfl (rr_eql rfl rfl (qT (by omega))) rfl rfl ?_|refine qv rfl (rr_eql rfl rfl (qF (by omega))) rfl rfl ?_|refine qv rfl (rr_add64 rfl rfl (by omega) (by omega) rfl) rfl rfl ?_|refine qv rfl (rr_not rfl rfl) rfl rfl ?_|refine qv rfl (rr_lss rfl rfl (qT (by omega))) rfl rfl ?_|refine qv rfl (rr_lss rfl rfl (qF (by omega))) rfl rfl ?_|refine qv rfl (rr_gtr rfl rfl (qT (by omega))) rfl rfl ?_|refine qv rfl (rr_gtr rfl rfl (qF (by omega))) rfl rfl ?_))
          refine TL_storeB (i := 0) (cs' := (clsL c).toArray) rfl rfl rfl rfl rfl rfl ?_
          conv=>arg 8;simp only[zA,zB,zC,zD,zE,zF,zG,zH,zI,rowS,ret,id_eq]
          repeat(first|refine qv rfl (qp rfl) rfl rfl ?_|refine TL_nil ?_|refine T_seq ?_|refine T_region ?_|refine qcT rfl ?_|refine qcF rfl ?_|refine T_skip ?_|refine T_exit ?_|refine T_ret ?_|refine T_block ?_|refine E_then ?_|refine E_thenX ?_|refine E_thenR ?_|refine E_blockN ?_|refine E_blockR ?_|refine E_blockX ?_|refine E_blockO rfl ?_|refine qs rfl rfl rfl rfl rfl rfl ?_|((try refine qg rfl rfl rfl ?_);first|refine qv rfl (qp rfl) rfl rfl ?_|refine qv rfl (qfld FldC.fld rfl rfl) rfl rfl ?_|refine qv rfl (rr_nilc rfl) rfl rfl ?_|refine qv rfl (rr_eql rfl rfl (qT (by omega))) rfl rfl ?_|refine qv rfl (rr_eql rfl rfl (qF (by omega))) rfl rfl ?_|refine qv rfl (rr_add64 rfl rfl (by omega) (by omega) rfl) rfl rfl ?_|refine qv rfl (rr_not rfl rfl) rfl rfl ?_|refine qv rfl (rr_lss rfl rfl (qT (by omega))) rfl rfl ?_|refine qv rfl (rr_lss rfl rfl (qF (by omega))) rfl rfl ?_|refine qv rfl (rr_gtr rfl rfl (qT (by omega))) rfl rfl ?_|refine qv rfl (rr_gtr rfl rfl (qF (by omega))) rfl rfl ?_))
          exact E_retc1 (i := 0) rfl rfl rfl rfl fun w hm => hm.meetsB (S := clsSp g s (c, takeS s (failS st 6) 93)) () trivial [2] (by decide) rfl
        · rw [if_neg cz] at hR
          cases hR
          repeat(first|refine qv rfl (qp rfl) rfl rfl ?_|refine TL_nil ?_|refine T_seq ?_|refine T_region ?_|refine qcT rfl ?_|refine qcF rfl ?_|refine T_skip ?_|refine T_exit ?_|refine T_ret ?_|refine T_block ?_|refine E_then ?_|refine E_thenX ?_|refine E_thenR ?_|refine E_blockN ?_|refine E_blockR ?_|refine E_blockX ?_|refine E_blockO rfl ?_|refine qs rfl rfl rfl rfl rfl rfl ?_|((try refine qg rfl rfl rfl ?_);first|refine qv rfl (qp rfl) rfl rfl ?_|refine qv rfl (rr_loadN (cs := clsL c) TyC.ty rfl rfl (fun j v hj => at_blk (i := 1) rfl (cls_blk hj))) rfl rfl ?_|refine qv rfl (rr_build rfl build_cz) rfl rfl ?_|refine qv rfl (rr_aggeq (b := false) rfl rfl (by kernel_rfl) (cls_aeq (decide_eq_false cz))) rfl rfl ?_|refine qv rfl (qfld FldC.fld rfl rfl) rfl rfl ?_|refine qv rfl (rr_nilc rfl) rfl rfl ?_|refine qv rfl (rr_eql rfl rfl (qT (by omega))) rfl rfl ?_|refine qv rfl (rr_eql rfl rfl (qF (by omega))) rfl rfl ?_|refine qv rfl (rr_add64 rfl rfl (by omega) (by omega) rfl) rfl rfl ?_|refine qv rfl (rr_not rfl rfl) rfl rfl ?_|refine qv rfl (rr_lss rfl rfl (qT (by omega))) rfl rfl ?_|refine qv rfl (rr_lss rfl rfl (qF (by omega))) rfl rfl ?_|refine qv rfl (rr_gtr rfl rfl (qT (by omega))) rfl rfl ?_|refine qv rfl (rr_gtr rfl rfl (qF (by omega))) rfl rfl ?_))
          repeat(first|refine qv rfl (qp rfl) rfl rfl ?_|refine TL_nil ?_|refine T_seq ?_|refine T_region ?_|refine qcT rfl ?_|refine qcF rfl ?_|refine T_skip ?_|refine T_exit ?_|refine T_ret ?_|refine T_block ?_|refine E_then ?_|refine E_thenX ?_|refine E_thenR ?_|refine E_blockN ?_|refine E_blockR ?_|refine E_blockX ?_|refine E_blockO rfl ?_|refine qs rfl rfl rfl rfl rfl rfl ?_|((try refine qg rfl rfl rfl ?_);first|refine qv rfl (qp rfl) rfl rfl ?_|refine qv rfl (qfld FldC.fld rfl rfl) rfl rfl ?_|refine qv rfl (rr_nilc rfl) rfl rfl ?_|refine qv rfl (rr_eql rfl rfl (qT (by omega))) rfl rfl ?_|refine qv rfl (rr_eql rfl rfl (qF (by omega))) rfl rfl ?_|refine qv rfl (rr_add64 rfl rfl (by omega) (by omega) rfl) rfl rfl ?_|refine qv rfl (rr_not rfl rfl) rfl rfl ?_|refine qv rfl (rr_lss rfl rfl (qT (by omega))) rfl rfl ?_|refine qv rfl (rr_lss rfl rfl (qF (by omega))) rfl rfl ?_|refine qv rfl (rr_gtr rfl rfl (qT (by omega))) rfl rfl ?_|refine qv rfl (rr_gtr rfl rfl (qF (by omega))) rfl rfl ?_))
          refine TL_callB [2] [0, 1] (by decide) rfl rfl (he2 EntersC.en rfl rfl rfl) (fun w hm hb => rdTake_calls g s _ 93 w _ hs hb) rfl rfl rfl ?_
          intro _ _
          conv=>arg 8;simp only[zA,zB,zC,zD,zE,zF,zG,zH,zI,rowS,ret,id_eq]
          repeat(first|refine qv rfl (qp rfl) rfl rfl ?_|refine TL_nil ?_|refine T_seq ?_|refine T_region ?_|refine qcT rfl ?_|refine qcF rfl ?_|refine T_skip ?_|refine T_exit ?_|refine T_ret ?_|refine T_block ?_|refine E_then ?_|refine E_thenX ?_|refine E_thenR ?_|refine E_blockN ?_|refine E_blockR ?_|refine E_blockX ?_|refine E_blockO rfl ?_|refine qs rfl rfl rfl rfl rfl rfl ?_|((try refine qg rfl rfl rfl ?_);first|refine qv rfl (qp rfl) rfl rfl ?_|refine qv rfl (rr_loadN (cs := clsL c) TyC.ty rfl rfl (fun j v hj => at_blk (i := 1) rfl (cls_blk hj))) rfl rfl ?_|refine qv rfl (qfld FldC.fld rfl rfl) rfl rfl ?_|refine qv rfl (rr_nilc rfl) rfl rfl ?_|refine qv rfl (rr_eql rfl rfl (qT (by omega))) rfl rfl ?_|refine qv rfl (rr_eql rfl rfl (qF (by omega))) rfl rfl ?_|refine qv rfl (rr_add64 rfl rfl (by omega) (by omega) rfl) rfl rfl ?_|refine qv rfl (rr_not rfl rfl) rfl rfl ?_|refine qv rfl (rr_lss rfl rfl (qT (by omega))) rfl rfl ?_|refine qv rfl (rr_lss rfl rfl (qF (by omega))) rfl rfl ?_|refine qv rfl (rr_gtr rfl rfl (qT (by omega))) rfl rfl ?_|refine qv rfl (rr_gtr rfl rfl (qF (by omega))) rfl rfl ?_))
          refine TL_storeB (i := 0) (cs' := (clsL c).toArray) rfl rfl rfl rfl rfl rfl ?_
          conv=>arg 8;simp only[zA,zB,zC,zD,zE,zF,zG,zH,zI,rowS,ret,id_eq]
          repeat(first|refine qv rfl (qp rfl) rfl rfl ?_|refine TL_nil ?_|refine T_seq ?_|refine T_region ?_|refine qcT rfl ?_|refine qcF rfl ?_|refine T_skip ?_|refine T_exit ?_|refine T_ret ?_|refine T_block ?_|refine E_then ?_|refine E_thenX ?_|refine E_thenR ?_|refine E_blockN ?_|refine E_blockR ?_|refine E_blockX ?_|refine E_blockO rfl ?_|refine qs rfl rfl rfl rfl rfl rfl ?_|((try refine qg rfl rfl rfl ?_);first|refine qv rfl (qp rfl) rfl rfl ?_|refine qv rfl (qfld FldC.fld rfl rfl) rfl rfl ?_|refine qv rfl (rr_nilc rfl) rfl rfl ?_|refine qv rfl (rr_eql rfl rfl (qT (by omega))) rfl rfl ?_|refine qv rfl (rr_eql rfl rfl (qF (by omega))) rfl rfl ?_|refine qv rfl (rr_add64 rfl rfl (by omega) (by omega) rfl) rfl rfl ?_|refine qv rfl (rr_not rfl rfl) rfl rfl ?_|refine qv rfl (rr_lss rfl rfl (qT (by omega))) rfl rfl ?_|refine qv rfl (rr_lss rfl rfl (qF (by omega))) rfl rfl ?_|refine qv rfl (rr_gtr rfl rfl (qT (by omega))) rfl rfl ?_|refine qv rfl (rr_gtr rfl rfl (qF (by omega))) rfl rfl ?_))
          exact E_retc1 (i := 0) rfl rfl rfl rfl fun w hm => hm.meetsB (S := clsSp g s (c, takeS s st 93)) () trivial [2] (by decide) rfl
      | true =>
        rw [if_pos rfl] at hR
        repeat(first|refine qv rfl (qp rfl) rfl rfl ?_|refine TL_nil ?_|refine T_seq ?_|refine T_region ?_|refine qcT rfl ?_|refine qcF rfl ?_|refine T_skip ?_|refine T_exit ?_|refine T_ret ?_|refine T_block ?_|refine E_then ?_|refine E_thenX ?_|refine E_thenR ?_|refine E_blockN ?_|refine E_blockR ?_|refine E_blockX ?_|refine E_blockO rfl ?_|refine qs rfl rfl rfl rfl rfl rfl ?_|((try refine qg rfl rfl rfl ?_);first|refine qv rfl (qp rfl) rfl rfl ?_|refine qv rfl (rr_loadN (cs := clsL c) TyC.ty rfl rfl (fun j v hj => at_blk (i := 1) rfl (cls_blk hj))) rfl rfl ?_|refine qv rfl (qfld FldC.fld rfl rfl) rfl rfl ?_|refine qv rfl (rr_nilc rfl) rfl rfl ?_|refine qv rfl (rr_eql rfl rfl (qT (by omega))) rfl rfl ?_|refine qv rfl (rr_eql rfl rfl (qF (by omega))) rfl rfl ?_|refine qv rfl (rr_add64 rfl rfl (by omega) (by omega) rfl) rfl rfl ?_|refine qv rfl (rr_not rfl rfl) rfl rfl ?_|refine qv rfl (rr_lss rfl rfl (qT (by omega))) rfl rfl ?_|refine qv rfl (rr_lss rfl rfl (qF (by omega))) rfl rfl ?_|refine qv rfl (rr_gtr rfl rfl (qT (by omega))) rfl rfl ?_|refine qv rfl (rr_gtr rfl rfl (qF (by omega))) rfl rfl ?_))
        refine TL_call (he1 EntersC.en rfl rfl) (fun w hm => notE c w) rfl rfl rfl ?_
        intro _ _
        conv=>arg 8;simp only[zA,zB,zC,zD,zE,zF,zG,zH,zI,rowS,ret,id_eq]
        refine TL_storeB (i := 1) (cs' := (clsL c.not).toArray) rfl rfl rfl rfl rfl rfl ?_
        conv=>arg 8;simp only[zA,zB,zC,zD,zE,zF,zG,zH,zI,rowS,ret,id_eq]
        by_cases cz : c.not = C4.zero
        · rw [if_pos cz] at hR
          cases hR
          repeat(first|refine qv rfl (qp rfl) rfl rfl ?_|refine TL_nil ?_|refine T_seq ?_|refine T_region ?_|refine qcT rfl ?_|refine qcF rfl ?_|refine T_skip ?_|refine T_exit ?_|refine T_ret ?_|refine T_block ?_|refine E_then ?_|refine E_thenX ?_|refine E_thenR ?_|refine E_blockN ?_|refine E_blockR ?_|refine E_blockX ?_|refine E_blockO rfl ?_|refine qs rfl rfl rfl rfl rfl rfl ?_|((try refine qg rfl rfl rfl ?_);first|refine qv rfl (qp rfl) rfl rfl ?_|refine qv rfl (rr_loadN (cs := clsL c.not) TyC.ty rfl rfl (fun j v hj => at_blk (i := 1) rfl (cls_blk hj))) rfl rfl ?_|refine qv rfl (rr_build rfl build_cz) rfl rfl ?_|refine qv rfl (rr_aggeq (b := true) rfl rfl (by kernel_rfl) (cls_aeq (decide_eq_true cz))) rfl rfl ?_|refine qv rfl (qfld FldC.fld rfl rfl) rfl rfl ?_|refine qv rfl (rr_nilc rfl) rfl rfl ?_|refine qv rfl (rr_eql rfl rfl (qT (by omega))) rfl rfl ?_|refine qv rfl (rr_eql rfl rfl (qF (by omega))) rfl rfl ?_|refine qv rfl (rr_add64 rfl rfl (by omega) (by omega) rfl) rfl rfl ?_|refine qv rfl (rr_not rfl rfl) rfl rfl ?_|refine qv rfl (rr_lss rfl rfl (qT (by omega))) rfl rfl ?_|refine qv rfl (rr_lss rfl rfl (qF (by omega))) rfl rfl ?_|refine qv rfl (rr_gtr rfl rfl (qT (by omega))) rfl rfl ?_|refine qv rfl (rr_gtr rfl rfl (qF (by omega))) rfl rfl ?_))
          repeat(first|refine qv rfl (qp rfl) rfl rfl ?_|refine TL_nil ?_|refine T_seq ?_|refine T_region ?_|refine qcT rfl ?_|refine qcF rfl ?_|refine T_skip ?_|refine T_exit ?_|refine T_ret ?_|refine T_block ?_|refine E_then ?_|refine E_thenX ?_|refine E_thenR ?_|refine E_blockN ?_|refine E_blockR ?_|refine E_blockX ?_|refine E_blockO rfl ?_|refine qs rfl rfl rfl rfl rfl rfl ?_|((try refine qg rfl rfl rfl ?_);first|refine qv rfl (qp rfl) rfl rfl ?_|refine qv rfl (qfld FldC.fld rfl rfl) rfl rfl ?_|refine qv rfl (rr_nilc rfl) rfl rfl ?_|refine qv rfl (rr_eql rfl rfl (qT (by omega))) rfl rfl ?_|refine qv rfl (rr_eql rfl rfl (qF (by omega))) rfl rfl ?_|refine qv rfl (rr_add64 rfl rfl (by omega) (by omega) rfl) rfl rfl ?_|refine qv rfl (rr_not rfl rfl) rfl rfl ?_|refine qv rfl (rr_lss rfl rfl (qT (by omega))) rfl rfl ?_|refine qv rfl (rr_lss rfl rfl (qF (by omega))) rfl rfl ?_|refine qv rfl (rr_gtr rfl rfl (qT (by omega))) rfl rfl ?_|refine qv rfl (rr_gtr rfl rfl (qF (by omega))) rfl rfl ?_))
          refine TL_callB [2] [0, 1] (by decide) rfl rfl (he2 EntersC.en rfl rfl rfl) (fun w hm hb => rdFail_calls g s st 6 w _ hb) rfl rfl rfl ?_
          intro _ _
          conv=>arg 8;simp only[zA,zB,zC,zD,zE,zF,zG,zH,zI,rowS,ret,id_eq]
          repeat(first|refine qv rfl (qp rfl) rfl rfl ?_|refine TL_nil ?_|refine T_seq ?_|refine T_region ?_|refine qcT rfl ?_|refine qcF rfl ?_|refine T_skip ?_|refine T_exit ?_|refine T_ret ?_|refine T_block ?_|refine E_then ?_|refine E_thenX ?_|refine E_thenR ?_|refine E_blockN ?_|refine E_blockR ?_|refine E_blockX ?_|refine E_blockO rfl ?_|refine qs rfl rfl rfl rfl rfl rfl ?_|((try refine qg rfl rfl rfl ?_);first|refine qv rfl (qp rfl) rfl rfl ?_|refine qv rfl (qfld FldC.fld rfl rfl) rfl rfl ?_|refine qv rfl (rr_nilc rfl) rfl rfl ?_|refine qv rfl (rr_eql rfl rfl (qT (by omega))) rfl rfl ?_|refine qv rfl (rr_eql rfl rfl (qF (by omega))) rfl rfl ?_|refine qv rfl (rr_add64 rfl rfl (by omega) (by omega) rfl) rfl rfl ?_|refine qv rfl (rr_not rfl rfl) rfl rfl ?_|refine qv rfl (rr_lss rfl rfl (qT (by omega))) rfl rfl ?_|refine qv rfl (rr_lss rfl rfl (qF (by omega))) rfl rfl ?_|refine qv rfl (rr_gtr rfl rfl (qT (by omega))) rfl rfl ?_|refine qv rfl (rr_gtr rfl rfl (qF (by omega))) rfl rfl ?_))
          refine TL_callB [2] [0, 1] (by decide) rfl rfl (he2 EntersC.en rfl rfl rfl) (fun w hm hb => rdTake_calls g s _ 93 w _ hs hb) rfl rfl rfl ?_
          intro _ _
          conv=>arg 8;simp only[zA,zB,zC,zD,zE,zF,zG,zH,zI,rowS,ret,id_eq]
          repeat(first|refine qv rfl (qp rfl) rfl rfl ?_|refine TL_nil ?_|refine T_seq ?_|refine T_region ?_|refine qcT rfl ?_|refine qcF rfl ?_|refine T_skip ?_|refine T_exit ?_|refine T_ret ?_|refine T_block ?_|refine E_then ?_|refine E_thenX ?_|refine E_thenR ?_|refine E_blockN ?_|refine E_blockR ?_|refine E_blockX ?_|refine E_blockO rfl ?_|refine qs rfl rfl rfl rfl rfl rfl ?_|((try refine qg rfl rfl rfl ?_);first|refine qv rfl (qp rfl) rfl rfl ?_|refine qv rfl (rr_loadN (cs := clsL c.not) TyC.ty rfl rfl (fun j v hj => at_blk (i := 1) rfl (cls_blk hj))) rfl rfl ?_|refine qv rfl (qfld FldC.fld rfl rfl) rfl rfl ?_|refine qv rfl (rr_nilc rfl) rfl rfl ?_|refine qv rfl (rr_eql rfl rfl (qT (by omega))) rfl rfl ?_|refine qv rfl (rr_eql rfl rfl (qF (by omega))) rfl rfl ?_|refine qv rfl (rr_add64 rfl rfl (by omega) (by omega) rfl) rfl rfl ?_|refine qv rfl (rr_not rfl rfl) rfl rfl ?_|refine qv rfl (rr_lss rfl rfl (qT (by omega))) rfl rfl ?_|refine qv rfl (rr_lss rfl rfl (qF (by omega))) rfl rfl ?_|refine qv rfl (rr_gtr rfl rfl (qT (by omega))) rfl rfl ?_|refine qv rfl (rr_gtr rfl rfl (qF (by omega))) rfl rfl ?_))
          refine TL_storeB (i := 0) (cs' := (clsL c.not).toArray) rfl rfl rfl rfl rfl rfl ?_
          conv=>arg 8;simp only[zA,zB,zC,zD,zE,zF,zG,zH,zI,rowS,ret,id_eq]
          repeat(first|refine qv rfl (qp rfl) rfl rfl ?_|refine TL_nil ?_|refine T_seq ?_|refine T_region ?_|refine qcT rfl ?_|refine qcF rfl ?_|refine T_skip ?_|refine T_exit ?_|refine T_ret ?_|refine T_block ?_|refine E_then ?_|refine E_thenX ?_|refine E_thenR ?_|refine E_blockN ?_|refine E_blockR ?_|refine E_blockX ?_|refine E_blockO rfl ?_|refine qs rfl rfl rfl rfl rfl rfl ?_|((try refine qg rfl rfl rfl ?_);first|refine qv rfl (qp rfl) rfl rfl ?_|refine qv rfl (qfld FldC.fld rfl rfl) rfl rfl ?_|refine qv rfl (rr_nilc rfl) rfl rfl ?_|refine qv rfl (rr_eql rfl rfl (qT (by omega))) rfl rfl ?_|refine qv rfl (rr_eql rfl rfl (qF (by omega))) rfl rfl ?_|refine qv rfl (rr_add64 rfl rfl (by omega) (by omega) rfl) rfl rfl ?_|refine qv rfl (rr_not rfl rfl) rfl rfl ?_|refine qv rfl (rr_lss rfl rfl (qT (by omega))) rfl rfl ?_|refine qv rfl (rr_lss rfl rfl (qF (by omega))) rfl rfl ?_|refine qv rfl (rr_gtr rfl rfl (qT (by omega))) rfl rfl ?_|refine qv rfl (rr_gtr rfl rfl (qF (by omega))) rfl rfl ?_))
          exact E_retc1 (i := 0) rfl rfl rfl rfl fun w hm => hm.meetsB (S := clsSp g s (c.not, takeS s (failS st 6) 93)) () trivial [2] (by decide) rfl
        · rw [if_neg cz] at hR
          cases hR
          repeat(first|refine qv rfl (qp rfl) rfl rfl ?_|refine TL_nil ?_|refine T_seq ?_|refine T_region ?_|refine qcT rfl ?_|refine qcF rfl ?_|refine T_skip ?_|refine T_exit ?_|refine T_ret ?_|refine T_block ?_|refine E_then ?_|refine E_thenX ?_|refine E_thenR ?_|refine E_blockN ?_|refine E_blockR ?_|refine E_blockX ?_|refine E_blockO rfl ?_|refine qs rfl rfl rfl rfl rfl rfl ?_|((try refine qg rfl rfl rfl ?_);first|refine qv rfl (qp rfl) rfl rfl ?_|refine qv rfl (rr_loadN (cs := clsL c.not) TyC.ty rfl rfl (fun j v hj => at_blk (i := 1) rfl (cls_blk hj))) rfl rfl ?_|refine qv rfl (rr_build rfl build_cz) rfl rfl ?_|refine qv rfl (rr_aggeq (b := false) rfl rfl (by kernel_rfl) (cls_aeq (decide_eq_false cz))) rfl rfl ?_|refine qv rfl (qfld FldC.fld rfl rfl) rfl rfl ?_|refine qv rfl (rr_nilc rfl) rfl rfl ?_|refine qv rfl (rr_eql rfl rfl (qT (by omega))) rfl rfl ?_|refine qv rfl (rr_eql rfl rfl (qF (by omega))) rfl rfl ?_|refine qv rfl (rr_add64 rfl rfl (by omega) (by omega) rfl) rfl rfl ?_|refine qv rfl (rr_not rfl rfl) rfl rfl ?_|refine qv rfl (rr_lss rfl rfl (qT (by omega))) rfl rfl ?_|refine qv rfl (rr_lss rfl rfl (qF (by omega))) rfl rfl ?_|refine qv rfl (rr_gtr rfl rfl (qT (by omega))) rfl rfl ?_|refine qv rfl (rr_gtr rfl rfl (qF (by omega))) rfl rfl ?_))
          repeat(first|refine qv rfl (qp rfl) rfl rfl ?_|refine TL_nil ?_|refine T_seq ?_|refine T_region ?_|refine qcT rfl ?_|refine qcF rfl ?_|refine T_skip ?_|refine T_exit ?_|refine T_ret ?_|refine T_block ?_|refine E_then ?_|refine E_thenX ?_|refine E_thenR ?_|refine E_blockN ?_|refine E_blockR ?_|refine E_blockX ?_|refine E_blockO rfl ?_|refine qs rfl rfl rfl rfl rfl rfl ?_|((try refine qg rfl rfl rfl ?_);first|refine qv rfl (qp rfl) rfl rfl ?_|refine qv rfl (qfld FldC.fld rfl rfl) rfl rfl ?_|refine qv rfl (rr_nilc rfl) rfl rfl ?_|refine qv rfl (rr_eql rfl rfl (qT (by omega))) rfl rfl ?_|refine qv rfl (rr_eql rfl rfl (qF (by omega))) rfl rfl ?_|refine qv rfl (rr_add64 rfl rfl (by omega) (by omega) rfl) rfl rfl ?_|refine qv rfl (rr_not rfl rfl) rfl rfl ?_|refine qv rfl (rr_lss rfl rfl (qT (by omega))) rfl rfl ?_|refine qv rfl (rr_lss rfl rfl (qF (by omega))) rfl rfl ?_|refine qv rfl (rr_gtr rfl rfl (qT (by omega))) rfl rfl ?_|refine qv rfl (rr_gtr rfl rfl (qF (by omega))) rfl rfl ?_))
          refine TL_callB [2] [0, 1] (by decide) rfl rfl (he2 EntersC.en rfl rfl rfl) (fun w hm hb => rdTake_calls g s _ 93 w _ hs hb) rfl rfl rfl ?_
          intro _ _
          conv=>arg 8;simp only[zA,zB,zC,zD,zE,zF,zG,zH,zI,rowS,ret,id_eq]
          repeat(first|refine qv rfl (qp rfl) rfl rfl ?_|refine TL_nil ?_|refine T_seq ?_|refine T_region ?_|refine qcT rfl ?_|refine qcF rfl ?_|refine T_skip ?_|refine T_exit ?_|refine T_ret ?_|refine T_block ?_|refine E_then ?_|refine E_thenX ?_|refine E_thenR ?_|refine E_blockN ?_|refine E_blockR ?_|refine E_blockX ?_|refine E_blockO rfl ?_|refine qs rfl rfl rfl rfl rfl rfl ?_|((try refine qg rfl rfl rfl ?_);first|refine qv rfl (qp rfl) rfl rfl ?_|refine qv rfl (rr_loadN (cs := clsL c.not) TyC.ty rfl rfl (fun j v hj => at_blk (i := 1) rfl (cls_blk hj))) rfl rfl ?_|refine qv rfl (qfld FldC.fld rfl rfl) rfl rfl ?_|refine qv rfl (rr_nilc rfl) rfl rfl ?_|refine qv rfl (rr_eql rfl rfl (qT (by omega))) rfl rfl ?_|refine qv rfl (rr_eql rfl rfl (qF (by omega))) rfl rfl ?_|refine qv rfl (rr_add64 rfl rfl (by omega) (by omega) rfl) rfl rfl ?_|refine qv rfl (rr_not rfl rfl) rfl rfl ?_|refine qv rfl (rr_lss rfl rfl (qT (by omega))) rfl rfl ?_|refine qv rfl (rr_lss rfl rfl (qF (by omega))) rfl rfl ?_|refine qv rfl (rr_gtr rfl rfl (qT (by omega))) rfl rfl ?_|refine qv rfl (rr_gtr rfl rfl (qF (by omega))) rfl rfl ?_))
          refine TL_storeB (i := 0) (cs' := (clsL c.not).toArray) rfl rfl rfl rfl rfl rfl ?_
          conv=>arg 8;simp only[zA,zB,zC,zD,zE,zF,zG,zH,zI,rowS,ret,id_eq]
          repeat(first|refine qv rfl (qp rfl) rfl rfl ?_|refine TL_nil ?_|refine T_seq ?_|refine T_region ?_|refine qcT rfl ?_|refine qcF rfl ?_|refine T_skip ?_|refine T_exit ?_|refine T_ret ?_|refine T_block ?_|refine E_then ?_|refine E_thenX ?_|refine E_thenR ?_|refine E_blockN ?_|refine E_blockR ?_|refine E_blockX ?_|refine E_blockO rfl ?_|refine qs rfl rfl rfl rfl rfl rfl ?_|((try refine qg rfl rfl rfl ?_);first|refine qv rfl (qp rfl) rfl rfl ?_|refine qv rfl (qfld FldC.fld rfl rfl) rfl rfl ?_|refine qv rfl (rr_nilc rfl) rfl rfl ?_|refine qv rfl (rr_eql rfl rfl (qT (by omega))) rfl rfl ?_|refine qv rfl (rr_eql rfl rfl (qF (by omega))) rfl rfl ?_|refine qv rfl (rr_add64 rfl rfl (by omega) (by omega) rfl) rfl rfl ?_|refine qv rfl (rr_not rfl rfl) rfl rfl ?_|refine qv rfl (rr_lss rfl rfl (qT (by omega))) rfl rfl ?_|refine qv rfl (rr_lss rfl rfl (qF (by omega))) rfl rfl ?_|refine qv rfl (rr_gtr rfl rfl (qT (by omega))) rfl rfl ?_|refine qv rfl (rr_gtr rfl rfl (qF (by omega))) rfl rfl ?_))
          exact E_retc1 (i := 0) rfl rfl rfl rfl fun w hm => hm.meetsB (S := clsSp g s (c.not, takeS s st 93)) () trivial [2] (by decide) rfl
end Go.Proofs.YtakiohldgcifeaaDoor.eng


/- RexPr -/
namespace Go.Proofs.YtakiohldgcifeaaDoor.eng
open Go.RowKit kit mix classL rexL classSets
section
variable {P : Program} {n : Nat} {W : Base} {fr : Fr} {L : List Own} {dst : Option Tmp} {ty : TypeId} {pos : String} {after : Array Edge} {guard : Option (Nat × Bool)}
set_option maxRecDepth 100000 in
theorem rune_ascii : ∀ m : Nat, m < 128 → Utf8.encode (m : Int) = ⟨#[UInt8.ofNat m]⟩ := by decide
/-- 'string(rune(b))' of an ASCII byte -/
theorem rr_rune {t u : TypeId} {x : Operand} {k' : IntKind} {b : UInt8} (hs : P.underlying t = some (.int k')) (hd : P.underlying u = some .string) (hx : ev fr x = some (.int k' (b.toNat : Int))) (h : b.toNat < 128) : RR P n W ⟨dst, .convert t u x, ty, pos, after, guard⟩ fr L (str [b]) := .mk fun a w hr _ => by
  simp only [execOp, hr.ev hx, convert, run_underlying hs, run_underlying hd, Conv.intToString, rune_ascii b.toNat h, UInt8.ofNat_toNat, Sem.run_bind, Result.andThen_ok, Sem.run_pure]
  rfl
end
set_option maxRecDepth 100000 in
theorem i32b (b : UInt8) : IntKind.i32.wrap (b.toNat : Int) = (b.toNat : Int) := by
  have : ∀ m : Nat, m < 256 → IntKind.i32.wrap (m : Int) = (m : Int) := by decide
  exact this _ b.toNat_lt
theorem shr_u8 (b : Nat) (h : b < 256) (w : World) : (Op.shift .shr .u8 (b : Int) .u64 4).run Tryd.prog w = .ok (.int .u8 ((b / 16 : Nat) : Int)) w := shrU b 4 8 .u8 .u64 rfl (by omega) w
set_option maxRecDepth 100000 in
theorem and15 : ∀ b : Nat, b < 256 → bits .and .u8 (b : Int) 15 = ((b % 16 : Nat) : Int) := by decide
set_option maxRecDepth 100000 in
theorem u8p1 {m : Nat} (h : m < 255) : IntKind.u8.wrap ((m : Int) + 1) = ((m + 1 : Nat) : Int) := by
  have : ∀ m : Nat, m < 255 → IntKind.u8.wrap ((m : Int) + 1) = ((m + 1 : Nat) : Int) := by decide
  exact this m h
set_option maxRecDepth 100000 in
theorem hex_cut {k : Nat} (h : k < 16) : (hexL.drop k).take (k + 1 - k) = [hexD k] := by
  have : ∀ k, k < 16 → (hexL.drop k).take (k + 1 - k) = [hexD k] := by decide
  exact this k h
theorem charT_len (b : UInt8) : (charT b).length ≤ 4 := by
  unfold charT; split; · decide
  split; · decide
  split; · decide
  split; · simp
  split <;> simp
set_option maxHeartbeats 4000000 in
theorem rexChar_calls (b : UInt8) (w : World) : Calls Tryd.prog 46 #[.int .u8 (b.toNat : Int)] w (Meets (ret (str (charT b))) w) := by
  have hlt : b.toNat < 256 := b.toNat_lt
  unfold charT
  refine enter (args := [.int .u8 (b.toNat : Int)]) (n := 44) Tryd.func46 rfl rfl rfl ?_
  repeat(first|refine qv rfl (qp rfl) rfl rfl ?_|refine TL_nil ?_|refine T_seq ?_|refine T_region ?_|refine qcT rfl ?_|refine qcF rfl ?_|refine T_skip ?_|refine T_ret ?_|refine T_block ?_|refine E_then ?_|refine E_thenR ?_|refine E_blockN ?_|refine E_blockR ?_|refine qs rfl rfl rfl rfl rfl rfl ?_|((try refine qg rfl rfl rfl ?_);first|refine qv rfl (qp rfl) rfl rfl ?_|refine qv rfl (rr_lss rfl rfl (qT (by omega))) rfl rfl ?_|refine qv rfl (rr_lss rfl rfl (qF (by omega))) rfl rfl ?_|refine qv rfl (rr_geq rfl rfl (qT (by omega))) rfl rfl ?_|refine qv rfl (rr_geq rfl rfl (qF (by omega))) rfl rfl ?_|refine qv rfl (rr_eql rfl rfl (qT (by omega))) rfl rfl ?_|refine qv rfl (rr_eql rfl rfl (qF (by omega))) rfl rfl ?_|refine qv rfl (rr_gtr rfl rfl (qT (by omega))) rfl rfl ?_|refine qv rfl (rr_gtr rfl rfl (qF (by omega))) rfl rfl ?_))
  by_cases c1 : b = 10
  · subst c1
    rw [if_pos rfl]
    repeat(first|refine qv rfl (qp rfl) rfl rfl ?_|refine TL_nil ?_|refine T_seq ?_|refine T_region ?_|refine qcT rfl ?_|refine qcF rfl ?_|refine T_skip ?_|refine T_ret ?_|refine T_block ?_|refine E_then ?_|refine E_thenR ?_|refine E_blockN ?_|refine E_blockR ?_|refine qs rfl rfl rfl rfl rfl rfl ?_|((try refine qg rfl rfl rfl ?_);first|refine qv rfl (qp rfl) rfl rfl ?_|refine qv rfl (rr_eql (b := true) rfl rfl rfl) rfl rfl ?_|refine qv rfl (rr_lss rfl rfl (qT (by omega))) rfl rfl ?_|refine qv rfl (rr_lss rfl rfl (qF (by omega))) rfl rfl ?_|refine qv rfl (rr_geq rfl rfl (qT (by omega))) rfl rfl ?_|refine qv rfl (rr_geq rfl rfl (qF (by omega))) rfl rfl ?_|refine qv rfl (rr_eql rfl rfl (qT (by omega))) rfl rfl ?_|refine qv rfl (rr_eql rfl rfl (qF (by omega))) rfl rfl ?_|refine qv rfl (rr_gtr rfl rfl (qT (by omega))) rfl rfl ?_|refine qv rfl (rr_gtr rfl rfl (qF (by omega))) rfl rfl ?_))
    exact E_ret1 rfl rfl fun w hm => hm.ret
  rw [if_neg c1]
  by_cases c2 : b = 9
  · subst c2
    rw [if_pos rfl]
    repeat(first|refine qv rfl (qp rfl) rfl rfl ?_|refine TL_nil ?_|refine T_seq ?_|refine T_region ?_|refine qcT rfl ?_|refine qcF rfl ?_|refine T_skip ?_|refine T_ret ?_|refine T_block ?_|refine E_then ?_|refine E_thenR ?_|refine E_blockN ?_|refine E_blockR ?_|refine qs rfl rfl rfl rfl rfl rfl ?_|((try refine qg rfl rfl rfl ?_);first|refine qv rfl (qp rfl) rfl rfl ?_|refine qv rfl (rr_eql (b := false) rfl rfl (u8eq (b := 10) (decide_eq_false c1))) rfl rfl ?_|refine qv rfl (rr_eql (b := true) rfl rfl rfl) rfl rfl ?_|refine qv rfl (rr_lss rfl rfl (qT (by omega))) rfl rfl ?_|refine qv rfl (rr_lss rfl rfl (qF (by omega))) rfl rfl ?_|refine qv rfl (rr_geq rfl rfl (qT (by omega))) rfl rfl ?_|refine qv rfl (rr_geq rfl rfl (qF (by omega))) rfl rfl ?_|refine qv rfl (rr_eql rfl rfl (qT (by omega))) rfl rfl ?_|refine qv rfl (rr_eql rfl rfl (qF (by omega))) rfl rfl ?_|refine qv rfl (rr_gtr rfl rfl (qT (by omega))) rfl rfl ?_|refine qv rfl (rr_gtr rfl rfl (qF (by omega))) rfl rfl ?_))
    exact E_ret1 rfl rfl fun w hm => hm.ret
  rw [if_neg c2]
  by_cases c3 : b = 32
  · subst c3
    rw [if_pos rfl]
    repeat(first|refine qv rfl (qp rfl) rfl rfl ?_|refine TL_nil ?_|refine T_seq ?_|refine T_region ?_|refine qcT rfl ?_|refine qcF rfl ?_|refine T_skip ?_|refine T_ret ?_|refine T_block ?_|refine E_then ?_|refine E_thenR ?_|refine E_blockN ?_|refine E_blockR ?_|refine qs rfl rfl rfl rfl rfl rfl ?_|((try refine qg rfl rfl rfl ?_);first|refine qv rfl (qp rfl) rfl rfl ?_|refine qv rfl (rr_eql (b := false) rfl rfl (u8eq (b := 10) (decide_eq_false c1))) rfl rfl ?_|refine qv rfl (rr_eql (b := false) rfl rfl (u8eq (b := 9) (decide_eq_false c2))) rfl rfl ?_|refine qv rfl (rr_eql (b := true) rfl rfl rfl) rfl rfl ?_|refine qv rfl (rr_lss rfl rfl (qT (by omega))) rfl rfl ?_|refine qv rfl (rr_lss rfl rfl (qF (by omega))) rfl rfl ?_|refine qv rfl (rr_geq rfl rfl (qT (by omega))) rfl rfl ?_|refine qv rfl (rr_geq rfl rfl (qF (by omega))) rfl rfl ?_|refine qv rfl (rr_eql rfl rfl (qT (by omega))) rfl rfl ?_|refine qv rfl (rr_eql rfl rfl (qF (by omega))) rfl rfl ?_|refine qv rfl (rr_gtr rfl rfl (qT (by omega))) rfl rfl ?_|refine qv rfl (rr_gtr rfl rfl (qF (by omega))) rfl rfl ?_))
    exact E_ret1 rfl rfl fun w hm => hm.ret
  rw [if_neg c3]
  by_cases c4 : b < 33 ∨ 126 < b
  · rw [if_pos c4]
    have h1 : b.toNat / 16 < 16 := by omega
    have h2 : b.toNat % 16 < 16 := Nat.mod_lt _ (by omega)
    by_cases c5 : b < 33
    · repeat(first|refine qv rfl (qp rfl) rfl rfl ?_|refine TL_nil ?_|refine T_seq ?_|refine T_region ?_|refine qcT rfl ?_|refine qcF rfl ?_|refine T_skip ?_|refine T_ret ?_|refine T_block ?_|refine E_then ?_|refine E_thenR ?_|refine E_blockN ?_|refine E_blockR ?_|refine qs rfl rfl rfl rfl rfl rfl ?_|((try refine qg rfl rfl rfl ?_);first|refine qv rfl (qp rfl) rfl rfl ?_|refine qv rfl (rr_eql (b := false) rfl rfl (u8eq (b := 10) (decide_eq_false c1))) rfl rfl ?_|refine qv rfl (rr_eql (b := false) rfl rfl (u8eq (b := 9) (decide_eq_false c2))) rfl rfl ?_|refine qv rfl (rr_eql (b := false) rfl rfl (u8eq (b := 32) (decide_eq_false c3))) rfl rfl ?_|refine qv rfl (rr_lss (b := true) rfl rfl (u8lt (b := 33) (decide_eq_true c5))) rfl rfl ?_|refine qv rfl (rr_lss rfl rfl (qT (by omega))) rfl rfl ?_|refine qv rfl (rr_lss rfl rfl (qF (by omega))) rfl rfl ?_|refine qv rfl (rr_geq rfl rfl (qT (by omega))) rfl rfl ?_|refine qv rfl (rr_geq rfl rfl (qF (by omega))) rfl rfl ?_|refine qv rfl (rr_eql rfl rfl (qT (by omega))) rfl rfl ?_|refine qv rfl (rr_eql rfl rfl (qF (by omega))) rfl rfl ?_|refine qv rfl (rr_gtr rfl rfl (qT (by omega))) rfl rfl ?_|refine qv rfl (rr_gtr rfl rfl (qF (by omega))) rfl rfl ?_))
      refine T_ord ([]) (.calm 0 (.calm 1 (.calm 2 (.calm 3 (.calm 4 (.calm 5 (.calm 6 (.calm 7 (.calm 8 (.calm 9 (.calm 10 (.calm 11 (.calm 12 (.calm 13 (.calm 14 (.done)))))))))))))))) (fun _ h => h) (by kernel_rfl) (by kernel_rfl) (by intro c a d v w h; cases d <;> exact h) ?_
      repeat(first|((first|refine TW_plain rfl rfl ?_|refine TW_gmet rfl rfl rfl rfl ?_);first|refine TN_val (qp rfl) rfl rfl ?_|refine TN_val (rr_shr rfl rfl (shr_u8 _ hlt)) rfl rfl ?_|refine TN_val (rr_and rfl rfl (and15 _ hlt)) rfl rfl ?_|refine TN_val (rr_addw rfl rfl (u8p1 (by omega))) rfl rfl ?_|refine TN_val (rr_strsub (l := hexL) (i := b.toNat / 16) (j := b.toNat / 16 + 1) Und.eq rfl rfl rfl (by omega) (by show b.toNat / 16 + 1 ≤ 16; omega)) rfl rfl ?_|refine TN_val (rr_strsub (l := hexL) (i := b.toNat % 16) (j := b.toNat % 16 + 1) Und.eq rfl rfl rfl (by omega) (by show b.toNat % 16 + 1 ≤ 16; omega)) rfl rfl ?_|refine TN_val (rr_stradd (l := [92, 120]) rfl rfl (by rw [hex_cut h1]; show 2 + 1 ≤ 9223372036854775807; omega)) rfl rfl ?_|refine TN_val (rr_stradd rfl rfl (by rw [hex_cut h1, hex_cut h2]; show 3 + 1 ≤ 9223372036854775807; omega)) rfl rfl ?_|refine TN_val (rr_lss rfl rfl (qT (by omega))) rfl rfl ?_|refine TN_val (rr_lss rfl rfl (qF (by omega))) rfl rfl ?_|refine TN_val (rr_geq rfl rfl (qT (by omega))) rfl rfl ?_|refine TN_val (rr_geq rfl rfl (qF (by omega))) rfl rfl ?_|refine TN_val (rr_eql rfl rfl (qT (by omega))) rfl rfl ?_|refine TN_val (rr_eql rfl rfl (qF (by omega))) rfl rfl ?_|refine TN_val (rr_gtr rfl rfl (qT (by omega))) rfl rfl ?_|refine TN_val (rr_gtr rfl rfl (qF (by omega))) rfl rfl ?_)|refine TW_skip rfl rfl rfl rfl rfl rfl rfl ?_|refine TW_done ?_)
      repeat(first|refine qv rfl (qp rfl) rfl rfl ?_|refine TL_nil ?_|refine T_seq ?_|refine T_region ?_|refine qcT rfl ?_|refine qcF rfl ?_|refine T_skip ?_|refine T_ret ?_|refine T_block ?_|refine E_then ?_|refine E_thenR ?_|refine E_blockN ?_|refine E_blockR ?_|refine qs rfl rfl rfl rfl rfl rfl ?_|((try refine qg rfl rfl rfl ?_);first|refine qv rfl (qp rfl) rfl rfl ?_|refine qv rfl (rr_lss rfl rfl (qT (by omega))) rfl rfl ?_|refine qv rfl (rr_lss rfl rfl (qF (by omega))) rfl rfl ?_|refine qv rfl (rr_geq rfl rfl (qT (by omega))) rfl rfl ?_|refine qv rfl (rr_geq rfl rfl (qF (by omega))) rfl rfl ?_|refine qv rfl (rr_eql rfl rfl (qT (by omega))) rfl rfl ?_|refine qv rfl (rr_eql rfl rfl (qF (by omega))) rfl rfl ?_|refine qv rfl (rr_gtr rfl rfl (qT (by omega))) rfl rfl ?_|refine qv rfl (rr_gtr rfl rfl (qF (by omega))) rfl rfl ?_))
      exact E_ret1e rfl rfl (by rw [hex_cut h1, hex_cut h2]; rfl)
    · have c6 := c4.resolve_left c5
      repeat(first|refine qv rfl (qp rfl) rfl rfl ?_|refine TL_nil ?_|refine T_seq ?_|refine T_region ?_|refine qcT rfl ?_|refine qcF rfl ?_|refine T_skip ?_|refine T_ret ?_|refine T_block ?_|refine E_then ?_|refine E_thenR ?_|refine E_blockN ?_|refine E_blockR ?_|refine qs rfl rfl rfl rfl rfl rfl ?_|((try refine qg rfl rfl rfl ?_);first|refine qv rfl (qp rfl) rfl rfl ?_|refine qv rfl (rr_eql (b := false) rfl rfl (u8eq (b := 10) (decide_eq_false c1))) rfl rfl ?_|refine qv rfl (rr_eql (b := false) rfl rfl (u8eq (b := 9) (decide_eq_false c2))) rfl rfl ?_|refine qv rfl (rr_eql (b := false) rfl rfl (u8eq (b := 32) (decide_eq_false c3))) rfl rfl ?_|refine qv rfl (rr_lss (b := false) rfl rfl (u8lt (b := 33) (decide_eq_false c5))) rfl rfl ?_|refine qv rfl (rr_lss rfl rfl (qT (by omega))) rfl rfl ?_|refine qv rfl (rr_lss rfl rfl (qF (by omega))) rfl rfl ?_|refine qv rfl (rr_geq rfl rfl (qT (by omega))) rfl rfl ?_|refine qv rfl (rr_geq rfl rfl (qF (by omega))) rfl rfl ?_|refine qv rfl (rr_eql rfl rfl (qT (by omega))) rfl rfl ?_|refine qv rfl (rr_eql rfl rfl (qF (by omega))) rfl rfl ?_|refine qv rfl (rr_gtr (b := true) rfl rfl (u8lt (a := 126) (decide_eq_true c6))) rfl rfl ?_|refine qv rfl (rr_gtr rfl rfl (qT (by omega))) rfl rfl ?_|refine qv rfl (rr_gtr rfl rfl (qF (by omega))) rfl rfl ?_))
      refine T_ord ([]) (.calm 0 (.calm 1 (.calm 2 (.calm 3 (.calm 4 (.calm 5 (.calm 6 (.calm 7 (.calm 8 (.calm 9 (.calm 10 (.calm 11 (.calm 12 (.calm 13 (.calm 14 (.done)))))))))))))))) (fun _ h => h) (by kernel_rfl) (by kernel_rfl) (by intro c a d v w h; cases d <;> exact h) ?_
      repeat(first|((first|refine TW_plain rfl rfl ?_|refine TW_gmet rfl rfl rfl rfl ?_);first|refine TN_val (qp rfl) rfl rfl ?_|refine TN_val (rr_shr rfl rfl (shr_u8 _ hlt)) rfl rfl ?_|refine TN_val (rr_and rfl rfl (and15 _ hlt)) rfl rfl ?_|refine TN_val (rr_addw rfl rfl (u8p1 (by omega))) rfl rfl ?_|refine TN_val (rr_strsub (l := hexL) (i := b.toNat / 16) (j := b.toNat / 16 + 1) Und.eq rfl rfl rfl (by omega) (by show b.toNat / 16 + 1 ≤ 16; omega)) rfl rfl ?_|refine TN_val (rr_strsub (l := hexL) (i := b.toNat % 16) (j := b.toNat % 16 + 1) Und.eq rfl rfl rfl (by omega) (by show b.toNat % 16 + 1 ≤ 16; omega)) rfl rfl ?_|refine TN_val (rr_stradd (l := [92, 120]) rfl rfl (by rw [hex_cut h1]; show 2 + 1 ≤ 9223372036854775807; omega)) rfl rfl ?_|refine TN_val (rr_stradd rfl rfl (by rw [hex_cut h1, hex_cut h2]; show 3 + 1 ≤ 9223372036854775807; omega)) rfl rfl ?_|refine TN_val (rr_lss rfl rfl (qT (by omega))) rfl rfl ?_|refine TN_val (rr_lss rfl rfl (qF (by omega))) rfl rfl ?_|refine TN_val (rr_geq rfl rfl (qT (by omega))) rfl rfl ?_|refine TN_val (rr_geq rfl rfl (qF (by omega))) rfl rfl ?_|refine TN_val (rr_eql rfl rfl (qT (by omega))) rfl rfl ?_|refine TN_val (rr_eql rfl rfl (qF (by omega))) rfl rfl ?_|refine TN_val (rr_gtr rfl rfl (qT (by omega))) rfl rfl ?_|refine TN_val (rr_gtr rfl rfl (qF (by omega))) rfl rfl ?_)|refine TW_skip rfl rfl rfl rfl rfl rfl rfl ?_|refine TW_done ?_)
      repeat(first|refine qv rfl (qp rfl) rfl rfl ?_|refine TL_nil ?_|refine T_seq ?_|refine T_region ?_|refine qcT rfl ?_|refine qcF rfl ?_|refine T_skip ?_|refine T_ret ?_|refine T_block ?_|refine E_then ?_|refine E_thenR ?_|refine E_blockN ?_|refine E_blockR ?_|refine qs rfl rfl rfl rfl rfl rfl ?_|((try refine qg rfl rfl rfl ?_);first|refine qv rfl (qp rfl) rfl rfl ?_|refine qv rfl (rr_lss rfl rfl (qT (by omega))) rfl rfl ?_|refine qv rfl (rr_lss rfl rfl (qF (by omega))) rfl rfl ?_|refine qv rfl (rr_geq rfl rfl (qT (by omega))) rfl rfl ?_|refine qv rfl (rr_geq rfl rfl (qF (by omega))) rfl rfl ?_|refine qv rfl (rr_eql rfl rfl (qT (by omega))) rfl rfl ?_|refine qv rfl (rr_eql rfl rfl (qF (by omega))) rfl rfl ?_|refine qv rfl (rr_gtr rfl rfl (qT (by omega))) rfl rfl ?_|refine qv rfl (rr_gtr rfl rfl (qF (by omega))) rfl rfl ?_))
      exact E_ret1e rfl rfl (by rw [hex_cut h1, hex_cut h2]; rfl)
  · rw [if_neg c4]
    have c5 : ¬ b < 33 := fun h => c4 (.inl h)
    have c6 : ¬ 126 < b := fun h => c4 (.inr h)
    have h128 : b.toNat < 128 := by
      rw [UInt8.lt_iff_toNat_lt] at c6
      have : (126 : UInt8).toNat = 126 := rfl
      omega
    have hcl := fun w => idxB_calls signsL b w
    have hmem := idx_mem signsL b
    generalize Lib.indexByte signsL b = r at *
    repeat(first|refine qv rfl (qp rfl) rfl rfl ?_|refine TL_nil ?_|refine T_seq ?_|refine T_region ?_|refine qcT rfl ?_|refine qcF rfl ?_|refine T_skip ?_|refine T_ret ?_|refine T_block ?_|refine E_then ?_|refine E_thenR ?_|refine E_blockN ?_|refine E_blockR ?_|refine qs rfl rfl rfl rfl rfl rfl ?_|((try refine qg rfl rfl rfl ?_);first|refine qv rfl (qp rfl) rfl rfl ?_|refine qv rfl (rr_eql (b := false) rfl rfl (u8eq (b := 10) (decide_eq_false c1))) rfl rfl ?_|refine qv rfl (rr_eql (b := false) rfl rfl (u8eq (b := 9) (decide_eq_false c2))) rfl rfl ?_|refine qv rfl (rr_eql (b := false) rfl rfl (u8eq (b := 32) (decide_eq_false c3))) rfl rfl ?_|refine qv rfl (rr_lss (b := false) rfl rfl (u8lt (b := 33) (decide_eq_false c5))) rfl rfl ?_|refine qv rfl (rr_lss rfl rfl (qT (by omega))) rfl rfl ?_|refine qv rfl (rr_lss rfl rfl (qF (by omega))) rfl rfl ?_|refine qv rfl (rr_geq rfl rfl (qT (by omega))) rfl rfl ?_|refine qv rfl (rr_geq rfl rfl (qF (by omega))) rfl rfl ?_|refine qv rfl (rr_eql rfl rfl (qT (by omega))) rfl rfl ?_|refine qv rfl (rr_eql rfl rfl (qF (by omega))) rfl rfl ?_|refine qv rfl (rr_gtr (b := false) rfl rfl (u8lt (a := 126) (decide_eq_false c6))) rfl rfl ?_|refine qv rfl (rr_gtr rfl rfl (qT (by omega))) rfl rfl ?_|refine qv rfl (rr_gtr rfl rfl (qF (by omega))) rfl rfl ?_))
    refine TL_call (he2 EntersC.en rfl rfl rfl) (fun w hm => hcl w) rfl rfl rfl ?_
    intro _ _
    conv=>arg 8;simp only[zA,zB,zC,zD,zE,zF,zG,zH,zI,rowS,ret,id_eq]
    by_cases c7 : b ∈ signsL
    · rw [if_pos c7]
      rw [decide_eq_true c7] at hmem
      repeat(first|refine qv rfl (qp rfl) rfl rfl ?_|refine TL_nil ?_|refine T_seq ?_|refine T_region ?_|refine qcT rfl ?_|refine qcF rfl ?_|refine T_skip ?_|refine T_ret ?_|refine T_block ?_|refine E_then ?_|refine E_thenR ?_|refine E_blockN ?_|refine E_blockR ?_|refine qs rfl rfl rfl rfl rfl rfl ?_|((try refine qg rfl rfl rfl ?_);first|refine qv rfl (qp rfl) rfl rfl ?_|refine qv rfl (rr_geq rfl rfl hmem) rfl rfl ?_|refine qv rfl (rr_conv Und.eq Und.eq rfl (i32b b)) rfl rfl ?_|refine qv rfl (rr_rune Und.eq Und.eq rfl h128) rfl rfl ?_|refine qv rfl (rr_stradd (l := [92]) rfl rfl (by simp)) rfl rfl ?_|refine qv rfl (rr_lss rfl rfl (qT (by omega))) rfl rfl ?_|refine qv rfl (rr_lss rfl rfl (qF (by omega))) rfl rfl ?_|refine qv rfl (rr_geq rfl rfl (qT (by omega))) rfl rfl ?_|refine qv rfl (rr_geq rfl rfl (qF (by omega))) rfl rfl ?_|refine qv rfl (rr_eql rfl rfl (qT (by omega))) rfl rfl ?_|refine qv rfl (rr_eql rfl rfl (qF (by omega))) rfl rfl ?_|refine qv rfl (rr_gtr rfl rfl (qT (by omega))) rfl rfl ?_|refine qv rfl (rr_gtr rfl rfl (qF (by omega))) rfl rfl ?_))
      exact E_ret1 rfl rfl fun w hm => hm.ret
    · rw [if_neg c7]
      rw [decide_eq_false c7] at hmem
      repeat(first|refine qv rfl (qp rfl) rfl rfl ?_|refine TL_nil ?_|refine T_seq ?_|refine T_region ?_|refine qcT rfl ?_|refine qcF rfl ?_|refine T_skip ?_|refine T_ret ?_|refine T_block ?_|refine E_then ?_|refine E_thenR ?_|refine E_blockN ?_|refine E_blockR ?_|refine qs rfl rfl rfl rfl rfl rfl ?_|((try refine qg rfl rfl rfl ?_);first|refine qv rfl (qp rfl) rfl rfl ?_|refine qv rfl (rr_geq rfl rfl hmem) rfl rfl ?_|refine qv rfl (rr_conv Und.eq Und.eq rfl (i32b b)) rfl rfl ?_|refine qv rfl (rr_rune Und.eq Und.eq rfl h128) rfl rfl ?_|refine qv rfl (rr_lss rfl rfl (qT (by omega))) rfl rfl ?_|refine qv rfl (rr_lss rfl rfl (qF (by omega))) rfl rfl ?_|refine qv rfl (rr_geq rfl rfl (qT (by omega))) rfl rfl ?_|refine qv rfl (rr_geq rfl rfl (qF (by omega))) rfl rfl ?_|refine qv rfl (rr_eql rfl rfl (qT (by omega))) rfl rfl ?_|refine qv rfl (rr_eql rfl rfl (qF (by omega))) rfl rfl ?_|refine qv rfl (rr_gtr rfl rfl (qT (by omega))) rfl rfl ?_|refine qv rfl (rr_gtr rfl rfl (qF (by omega))) rfl rfl ?_))
      exact E_ret1 rfl rfl fun w hm => hm.ret
/-! ### runs -/
theorem run_get : ∀ (b : Nat) (r : List Nat) (j : Nat), j ≤ runL b r → (b :: r)[j]? = some (b + j)
  | b, [], j, h => by
    rw [runL] at h
    obtain rfl : j = 0 := by omega
    rfl
  | b, x :: r, 0, h => rfl
  | b, x :: r, j + 1, h => by
    rw [runL] at h
    split at h
    · rename_i c
      subst c
      rw [List.getElem?_cons_succ, run_get (b + 1) r j (by omega)]
      congr 1; omega
    · omega
theorem run_stop : ∀ (b : Nat) (r : List Nat), (b :: r)[runL b r + 1]? ≠ some (b + runL b r + 1)
  | b, [] => by rw [runL]; simp
  | b, x :: r => by
    rw [runL]
    split
    · rename_i c
      subst c
      rw [List.getElem?_cons_succ]
      have := run_stop (b + 1) r
      rwa [show b + (runL (b + 1) r + 1) + 1 = b + 1 + runL (b + 1) r + 1 by omega]
    · rename_i c
      simp
      exact c
theorem itemT_len (b k : Nat) : (itemT b k).length ≤ 9 := by
  have h1 := charT_len (UInt8.ofNat b)
  have h2 := charT_len (UInt8.ofNat (b + k))
  unfold itemT
  rw [List.length_append, List.length_append]
  split <;> split <;> simp only [List.length_cons, List.length_nil] <;> omega
theorem itemsT_len : ∀ (f : Nat) (l : List Nat), (itemsT f l).length ≤ 9 * l.length
  | 0, l => by rw [itemsT]; simp
  | f + 1, [] => by rw [itemsT]; simp
  | f + 1, b :: r => by
    have h1 := itemT_len b (runL b r)
    have h2 := itemsT_len f (r.drop (runL b r))
    rw [itemsT, List.length_append, List.length_cons]
    rw [List.length_drop] at h2
    omega
def b8 (l : List Nat) : Txt := l.map UInt8.ofNat
theorem b8_get {l : List Nat} {i : Nat} {x : Nat} (h : l[i]? = some x) : (b8 l)[i]? = some (UInt8.ofNat x) := by unfold b8; rw [List.getElem?_map, h]; rfl
theorem b8_at {l : List Nat} {i x : Nat} {m : Int} (hm : m = (i : Int)) (h : l[i]? = some x) : (b8 l)[m.toNat]? = some (UInt8.ofNat x) := by rw [hm, Int.toNat_natCast]; exact b8_get h
theorem u8n {x : Nat} (h : x < 256) : (UInt8.ofNat x).toNat = x := by rw [UInt8.toNat_ofNat']; exact Nat.mod_eq_of_lt (by omega)
theorem drop_cons_get {l : List Nat} {i b : Nat} {r : List Nat} (h : l.drop i = b :: r) (j : Nat) : l[i + j]? = (b :: r)[j]? := by rw [← h, List.getElem?_drop]
set_option maxHeartbeats 8000000 in
theorem rexItems_calls (c : C4) (w : World) (hT : TabW w) : Calls Tryd.prog 49 #[clsV c] w (Meets (ret (str (itemsT 256 (bytesL c)))) w) := by
  have hby := fun w' (hg : Gr w w') => bytes_calls c w' (by have hm : Mem (w : Base) [] w := .start w; exact hT.up (hm.gr hg))
  have hs := bytes_sorted c
  have hlen : (bytesL c).length ≤ 256 := cnt_le c
  have hm256 : ∀ x ∈ bytesL c, x < 256 := fun x hx => (mem_bytes.1 hx).1
  have hil := itemsT_len 256 (bytesL c)
  refine enter (args := [clsV c]) (n := 56) Tryd.func49 rfl rfl rfl ?_
  refine T_seq (T_region (TL_box rfl rfl rfl fun g1 => ?_))
  conv=>arg 8;simp only[zA,zB,zC,zD,zE,zF,zG,zH,zI,rowS,ret,id_eq]
  repeat(first|refine qv rfl (qp rfl) rfl rfl ?_|refine TL_nil ?_|refine T_seq ?_|refine T_region ?_|refine qcT rfl ?_|refine qcF rfl ?_|refine T_skip ?_|refine T_exit ?_|refine T_ret ?_|refine T_block ?_|refine E_then ?_|refine E_thenX ?_|refine E_thenR ?_|refine E_blockN ?_|refine E_blockR ?_|refine E_blockX ?_|refine E_blockO rfl ?_|refine qs rfl rfl rfl rfl rfl rfl ?_|((try refine qg rfl rfl rfl ?_);first|refine qv rfl (qp rfl) rfl rfl ?_|refine qv rfl (rr_loadN (cs := clsL c) TyC.ty rfl rfl (fun j v hj => at_blk (i := 0) rfl (cls_blk hj))) rfl rfl ?_|refine qv rfl (rr_strlen Und.eq rfl) rfl rfl ?_|refine qv rfl (rr_lss rfl rfl (qT (by omega))) rfl rfl ?_|refine qv rfl (rr_lss rfl rfl (qF (by omega))) rfl rfl ?_|refine qv rfl (rr_gtr rfl rfl (qT (by omega))) rfl rfl ?_|refine qv rfl (rr_gtr rfl rfl (qF (by omega))) rfl rfl ?_|refine qv rfl (rr_add64 rfl rfl (by omega) (by omega) rfl) rfl rfl ?_|refine qv rfl (rr_eql rfl rfl (qT (by omega))) rfl rfl ?_|refine qv rfl (rr_eql rfl rfl (qF (by omega))) rfl rfl ?_))
  refine TL_call (he1 EntersC.en rfl rfl) (fun w' hm => hby w' hm.below) rfl rfl rfl ?_
  intro _ _
  rw [show strL c = b8 (bytesL c) from rfl]
  conv=>arg 8;simp only[zA,zB,zC,zD,zE,zF,zG,zH,zI,rowS,ret,id_eq]
  clear hby
  repeat(first|refine qv rfl (qp rfl) rfl rfl ?_|refine TL_nil ?_|refine T_seq ?_|refine T_region ?_|refine qcT rfl ?_|refine qcF rfl ?_|refine T_skip ?_|refine T_exit ?_|refine T_ret ?_|refine T_block ?_|refine E_then ?_|refine E_thenX ?_|refine E_thenR ?_|refine E_blockN ?_|refine E_blockR ?_|refine E_blockX ?_|refine E_blockO rfl ?_|refine qs rfl rfl rfl rfl rfl rfl ?_|((try refine qg rfl rfl rfl ?_);first|refine qv rfl (qp rfl) rfl rfl ?_|refine qv rfl (rr_strlen Und.eq rfl) rfl rfl ?_|refine qv rfl (rr_lss rfl rfl (qT (by omega))) rfl rfl ?_|refine qv rfl (rr_lss rfl rfl (qF (by omega))) rfl rfl ?_|refine qv rfl (rr_gtr rfl rfl (qT (by omega))) rfl rfl ?_|refine qv rfl (rr_gtr rfl rfl (qF (by omega))) rfl rfl ?_|refine qv rfl (rr_add64 rfl rfl (by omega) (by omega) rfl) rfl rfl ?_|refine qv rfl (rr_eql rfl rfl (qT (by omega))) rfl rfl ?_|refine qv rfl (rr_eql rfl rfl (qF (by omega))) rfl rfl ?_))
  refine T_pick [] (by decide) rfl ?_
  generalize hR : itemsT 256 (bytesL c) = R at *
  generalize bytesL c = l at *
  have hb8 : (b8 l).length = l.length := by unfold b8; simp
  refine T_loop (ι := Nat × Nat × Txt) (fun (f, i, out) => i ≤ l.length ∧ out ++ itemsT f (l.drop i) = R ∧ l.length - i ≤ f) (fun (_, i, out) => [(3, str (b8 l)), (4, str out), (5, .int .i64 (i : Int))]) (fun _ => []) (fun (f, _, _) => f) (256, 0, []) ⟨Nat.zero_le _, by rw [List.drop_zero, List.nil_append]; exact hR, by omega⟩ (by repeat' (first | exact True.intro | refine And.intro rfl ?_)) rfl ?_
  clear hR
  rintro ⟨f, i, out⟩ ⟨i1, i2, i3⟩
  dsimp only at i1 i2 i3 ⊢
  by_cases c1 : i < l.length
  · obtain ⟨f, rfl⟩ : ∃ f', f = f' + 1 := ⟨f - 1, by omega⟩
    have hd := List.drop_eq_getElem_cons c1
    generalize hb : l[i] = b at hd
    generalize hr : l.drop (i + 1) = r at hd
    rw [hd, itemsT] at i2
    have hk := run_le b r
    have hrl : r.length = l.length - (i + 1) := by rw [← hr, List.length_drop]
    have hget := fun j h => (drop_cons_get hd j).trans (run_get b r j h)
    have hstop : l[i + (runL b r + 1)]? ≠ some (b + runL b r + 1) := by rw [drop_cons_get hd]; exact run_stop b r
    have hrd : r.drop (runL b r) = l.drop (i + runL b r + 1) := by rw [← hr, List.drop_drop]; congr 1; omega
    rw [hrd] at i2
    generalize runL b r = K at *
    have hbK : b + K < 256 := hm256 _ (List.mem_of_getElem? (hget K (Nat.le_refl _)))
    have hlK : i + K < l.length := (List.getElem?_eq_some_iff.1 (hget K (Nat.le_refl _))).1
    have hol : out.length + (itemT b K).length ≤ R.length := by rw [← i2, List.length_append, List.length_append]; omega
    have hRl : R.length ≤ 9 * 256 := by omega
    clear hd hr hb hrd hil hk hrl
    repeat(first|refine qv rfl (qp rfl) rfl rfl ?_|refine TL_nil ?_|refine T_seq ?_|refine T_region ?_|refine qcT rfl ?_|refine qcF rfl ?_|refine T_skip ?_|refine T_exit ?_|refine T_ret ?_|refine T_block ?_|refine E_then ?_|refine E_thenX ?_|refine E_thenR ?_|refine E_blockN ?_|refine E_blockR ?_|refine E_blockX ?_|refine E_blockO rfl ?_|refine qs rfl rfl rfl rfl rfl rfl ?_|((try refine qg rfl rfl rfl ?_);first|refine qv rfl (qp rfl) rfl rfl ?_|refine qv rfl (rr_strlen Und.eq rfl) rfl rfl ?_|refine qv rfl (rr_lss (b := true) rfl rfl (decide_eq_true (by rw [hb8]; omega))) rfl rfl ?_|refine qv rfl (rr_strlen Und.eq rfl) rfl rfl ?_|refine qv rfl (rr_lss rfl rfl (qT (by omega))) rfl rfl ?_|refine qv rfl (rr_lss rfl rfl (qF (by omega))) rfl rfl ?_|refine qv rfl (rr_gtr rfl rfl (qT (by omega))) rfl rfl ?_|refine qv rfl (rr_gtr rfl rfl (qF (by omega))) rfl rfl ?_|refine qv rfl (rr_add64 rfl rfl (by omega) (by omega) rfl) rfl rfl ?_|refine qv rfl (rr_eql rfl rfl (qT (by omega))) rfl rfl ?_|refine qv rfl (rr_eql rfl rfl (qF (by omega))) rfl rfl ?_))
    refine T_loop (ι := Nat) (fun j => j ≤ K) (fun j => [(3, str (b8 l)), (4, str out), (5, .int .i64 (i : Int)), (6, .int .i64 ((i + j : Nat) : Int))]) (fun _ => []) (fun j => K - j) 0 (Nat.zero_le _) (by repeat' (first | exact True.intro | refine And.intro rfl ?_)) rfl ?_
    intro j hj
    have hgj := hget j hj
    by_cases c2 : j < K
    · have hgj1 := hget (j + 1) c2
      rw [← Nat.add_assoc] at hgj1
      have hl1 : i + j + 1 < l.length := (List.getElem?_eq_some_iff.1 hgj1).1
      (repeat refine T_seq ?_)
      refine T_ord ([]) (.calm 0 (.calm 1 (.calm 2 (.calm 3 (.calm 4 (.calm 5 (.calm 6 (.calm 7 (.calm 8 (.calm 9 (.calm 10 (.calm 11 (.calm 12 (.calm 13 (.calm 14 (.calm 15 (.done))))))))))))))))) (fun _ h => h) (by kernel_rfl) (by kernel_rfl) (by intro c a d v w h; cases d <;> exact h) ?_
      repeat(first|((first|refine TW_plain rfl rfl ?_|refine TW_gmet rfl rfl rfl rfl ?_);first|refine TN_val (qp rfl) rfl rfl ?_|refine TN_val (rr_add64 (r := ((i + j + 1 : Nat) : Int)) rfl rfl (by omega) (by omega) (by omega)) rfl rfl ?_|refine TN_val (rr_strlen Und.eq rfl) rfl rfl ?_|refine TN_val (rr_lss (b := true) rfl rfl (decide_eq_true (by rw [hb8]; omega))) rfl rfl ?_|refine TN_val (rr_stridx (b := UInt8.ofNat (b + (j + 1))) Und.eq rfl rfl (by omega) (b8_at (i := i + j + 1) rfl hgj1)) rfl rfl ?_|refine TN_val (rr_stridx (b := UInt8.ofNat (b + j)) Und.eq rfl rfl (by omega) (b8_at (i := i + j) rfl hgj)) rfl rfl ?_|refine TN_val (rr_addw (r := ((b + j + 1 : Nat) : Int)) rfl rfl (by rw [u8n (by omega)]; exact u8p1 (by omega))) rfl rfl ?_|refine TN_val (rr_strlen Und.eq rfl) rfl rfl ?_|refine TN_val (rr_lss rfl rfl (qT (by omega))) rfl rfl ?_|refine TN_val (rr_lss rfl rfl (qF (by omega))) rfl rfl ?_|refine TN_val (rr_gtr rfl rfl (qT (by omega))) rfl rfl ?_|refine TN_val (rr_gtr rfl rfl (qF (by omega))) rfl rfl ?_|refine TN_val (rr_add64 rfl rfl (by omega) (by omega) rfl) rfl rfl ?_|refine TN_val (rr_eql (b := true) rfl rfl (decide_eq_true (by rw [u8n (by omega)]; omega))) rfl rfl ?_|refine TN_val (rr_eql rfl rfl (qT (by omega))) rfl rfl ?_|refine TN_val (rr_eql rfl rfl (qF (by omega))) rfl rfl ?_)|refine TW_skip rfl rfl rfl rfl rfl rfl rfl ?_|refine TW_done ?_)
      repeat(first|refine qv rfl (qp rfl) rfl rfl ?_|refine TL_nil ?_|refine T_seq ?_|refine T_region ?_|refine qcT rfl ?_|refine qcF rfl ?_|refine T_skip ?_|refine T_exit ?_|refine T_ret ?_|refine T_block ?_|refine E_then ?_|refine E_thenX ?_|refine E_thenR ?_|refine E_blockN ?_|refine E_blockR ?_|refine E_blockX ?_|refine E_blockO rfl ?_|refine qs rfl rfl rfl rfl rfl rfl ?_|((try refine qg rfl rfl rfl ?_);first|refine qv rfl (qp rfl) rfl rfl ?_|refine qv rfl (rr_add64 (r := ((i + (j + 1) : Nat) : Int)) rfl rfl (by omega) (by omega) (by omega)) rfl rfl ?_|refine qv rfl (rr_strlen Und.eq rfl) rfl rfl ?_|refine qv rfl (rr_lss rfl rfl (qT (by omega))) rfl rfl ?_|refine qv rfl (rr_lss rfl rfl (qF (by omega))) rfl rfl ?_|refine qv rfl (rr_gtr rfl rfl (qT (by omega))) rfl rfl ?_|refine qv rfl (rr_gtr rfl rfl (qF (by omega))) rfl rfl ?_|refine qv rfl (rr_add64 rfl rfl (by omega) (by omega) rfl) rfl rfl ?_|refine qv rfl (rr_eql rfl rfl (qT (by omega))) rfl rfl ?_|refine qv rfl (rr_eql rfl rfl (qF (by omega))) rfl rfl ?_))
      exact E_round (j + 1) c2 (by omega) (by repeat' (first | exact True.intro | refine And.intro rfl ?_)) rfl
    · obtain rfl : j = K := by omega
      rw [← Nat.add_assoc] at hstop
      (repeat refine T_seq ?_)
      refine T_midq (ι := Unit) (fun _ => True) (fun _ => [(3, str (b8 l)), (4, str out), (5, .int .i64 (i : Int)), (6, .int .i64 ((i + j : Nat) : Int)), (29, .bool false)]) (fun _ => []) ?_ ?_
      · by_cases c3 : i + j + 1 < l.length
        · have hx := List.getElem?_eq_getElem c3
          generalize l[i + j + 1] = x at *
          rw [hx] at hstop
          have hxm : x < 256 := hm256 _ (List.mem_of_getElem? hx)
          have hne : x ≠ b + j + 1 := fun e => hstop (by rw [e])
          have hgt : b + j < x := by
            have h1 := (List.getElem?_eq_some_iff.1 hgj).2
            have h2 := (List.getElem?_eq_some_iff.1 hx).2
            have := List.pairwise_iff_getElem.1 hs (i + j) (i + j + 1) hlK c3 (by omega)
            omega
          refine T_ord ([]) (.calm 0 (.calm 1 (.calm 2 (.calm 3 (.calm 4 (.calm 5 (.calm 6 (.calm 7 (.calm 8 (.calm 9 (.calm 10 (.calm 11 (.calm 12 (.calm 13 (.calm 14 (.calm 15 (.done))))))))))))))))) (fun _ h => h) (by kernel_rfl) (by kernel_rfl) (by intro c a d v w h; cases d <;> exact h) ?_
          repeat(first|((first|refine TW_plain rfl rfl ?_|refine TW_gmet rfl rfl rfl rfl ?_);first|refine TN_val (qp rfl) rfl rfl ?_|refine TN_val (rr_add64 (r := ((i + j + 1 : Nat) : Int)) rfl rfl (by omega) (by omega) (by omega)) rfl rfl ?_|refine TN_val (rr_strlen Und.eq rfl) rfl rfl ?_|refine TN_val (rr_lss (b := true) rfl rfl (decide_eq_true (by rw [hb8]; omega))) rfl rfl ?_|refine TN_val (rr_stridx (b := UInt8.ofNat x) Und.eq rfl rfl (by omega) (b8_at (i := i + j + 1) rfl hx)) rfl rfl ?_|refine TN_val (rr_stridx (b := UInt8.ofNat (b + j)) Und.eq rfl rfl (by omega) (b8_at (i := i + j) rfl hgj)) rfl rfl ?_|refine TN_val (rr_addw (r := ((b + j + 1 : Nat) : Int)) rfl rfl (by rw [u8n (by omega)]; exact u8p1 (by omega))) rfl rfl ?_|refine TN_val (rr_strlen Und.eq rfl) rfl rfl ?_|refine TN_val (rr_lss rfl rfl (qT (by omega))) rfl rfl ?_|refine TN_val (rr_lss rfl rfl (qF (by omega))) rfl rfl ?_|refine TN_val (rr_gtr rfl rfl (qT (by omega))) rfl rfl ?_|refine TN_val (rr_gtr rfl rfl (qF (by omega))) rfl rfl ?_|refine TN_val (rr_add64 rfl rfl (by omega) (by omega) rfl) rfl rfl ?_|refine TN_val (rr_eql (b := false) rfl rfl (decide_eq_false (by rw [u8n (by omega)]; omega))) rfl rfl ?_|refine TN_val (rr_eql rfl rfl (qT (by omega))) rfl rfl ?_|refine TN_val (rr_eql rfl rfl (qF (by omega))) rfl rfl ?_)|refine TW_skip rfl rfl rfl rfl rfl rfl rfl ?_|refine TW_done ?_)
          exact E_mid () trivial (by repeat' (first | exact True.intro | refine And.intro rfl ?_)) rfl
        · refine T_ord ([]) (.calm 0 (.calm 1 (.calm 2 (.calm 3 (.calm 4 (.calm 5 (.calm 6 (.calm 7 (.calm 8 (.calm 9 (.calm 10 (.calm 11 (.calm 12 (.calm 13 (.calm 14 (.calm 15 (.done))))))))))))))))) (fun _ h => h) (by kernel_rfl) (by kernel_rfl) (by intro c a d v w h; cases d <;> exact h) ?_
          repeat(first|((first|refine TW_plain rfl rfl ?_|refine TW_gmet rfl rfl rfl rfl ?_);first|refine TN_val (qp rfl) rfl rfl ?_|refine TN_val (rr_add64 (r := ((i + j + 1 : Nat) : Int)) rfl rfl (by omega) (by omega) (by omega)) rfl rfl ?_|refine TN_val (rr_strlen Und.eq rfl) rfl rfl ?_|refine TN_val (rr_lss (b := false) rfl rfl (decide_eq_false (by rw [hb8]; omega))) rfl rfl ?_|refine TN_val (rr_strlen Und.eq rfl) rfl rfl ?_|refine TN_val (rr_lss rfl rfl (qT (by omega))) rfl rfl ?_|refine TN_val (rr_lss rfl rfl (qF (by omega))) rfl rfl ?_|refine TN_val (rr_gtr rfl rfl (qT (by omega))) rfl rfl ?_|refine TN_val (rr_gtr rfl rfl (qF (by omega))) rfl rfl ?_|refine TN_val (rr_add64 rfl rfl (by omega) (by omega) rfl) rfl rfl ?_|refine TN_val (rr_eql rfl rfl (qT (by omega))) rfl rfl ?_|refine TN_val (rr_eql rfl rfl (qF (by omega))) rfl rfl ?_)|refine TW_skip rfl rfl rfl rfl rfl rfl rfl ?_|refine TW_done ?_)
          exact E_mid () trivial (by repeat' (first | exact True.intro | refine And.intro rfl ?_)) rfl
      · intro _ _
        have hg0 := hget 0 (Nat.zero_le _)
        rw [Nat.add_zero] at hg0
        have hch := fun (x : Nat) w => rexChar_calls (UInt8.ofNat x) w
        unfold itemT at i2 hol
        have hl1 := charT_len (UInt8.ofNat b)
        have hl2 := charT_len (UInt8.ofNat (b + j))
        repeat(first|refine qv rfl (qp rfl) rfl rfl ?_|refine TL_nil ?_|refine T_seq ?_|refine T_region ?_|refine qcT rfl ?_|refine qcF rfl ?_|refine T_skip ?_|refine T_exit ?_|refine T_ret ?_|refine T_block ?_|refine E_then ?_|refine E_thenX ?_|refine E_thenR ?_|refine E_blockN ?_|refine E_blockR ?_|refine E_blockX ?_|refine E_blockO rfl ?_|refine qs rfl rfl rfl rfl rfl rfl ?_|((try refine qg rfl rfl rfl ?_);first|refine qv rfl (qp rfl) rfl rfl ?_|refine qv rfl (rr_stridx (b := UInt8.ofNat b) Und.eq rfl rfl (by omega) (b8_at (i := i) rfl hg0)) rfl rfl ?_|refine qv rfl (rr_strlen Und.eq rfl) rfl rfl ?_|refine qv rfl (rr_lss rfl rfl (qT (by omega))) rfl rfl ?_|refine qv rfl (rr_lss rfl rfl (qF (by omega))) rfl rfl ?_|refine qv rfl (rr_gtr rfl rfl (qT (by omega))) rfl rfl ?_|refine qv rfl (rr_gtr rfl rfl (qF (by omega))) rfl rfl ?_|refine qv rfl (rr_add64 rfl rfl (by omega) (by omega) rfl) rfl rfl ?_|refine qv rfl (rr_eql rfl rfl (qT (by omega))) rfl rfl ?_|refine qv rfl (rr_eql rfl rfl (qF (by omega))) rfl rfl ?_))
        refine TL_call (he1 EntersC.en rfl rfl) (fun w' hm => hch b w') rfl rfl rfl ?_
        intro _ _
        conv=>arg 8;simp only[zA,zB,zC,zD,zE,zF,zG,zH,zI,rowS,ret,id_eq]
        by_cases c4 : 1 < j
        · rw [if_pos c4, if_pos (show 0 < j by omega)] at i2 hol
          simp only [List.length_append, List.length_cons, List.length_nil] at hol
          repeat(first|refine qv rfl (qp rfl) rfl rfl ?_|refine TL_nil ?_|refine T_seq ?_|refine T_region ?_|refine qcT rfl ?_|refine qcF rfl ?_|refine T_skip ?_|refine T_exit ?_|refine T_ret ?_|refine T_block ?_|refine E_then ?_|refine E_thenX ?_|refine E_thenR ?_|refine E_blockN ?_|refine E_blockR ?_|refine E_blockX ?_|refine E_blockO rfl ?_|refine qs rfl rfl rfl rfl rfl rfl ?_|((try refine qg rfl rfl rfl ?_);first|refine qv rfl (qp rfl) rfl rfl ?_|refine qv rfl (rr_stradd rfl rfl (by omega)) rfl rfl ?_|refine qv rfl (rr_add64 rfl rfl (by omega) (by omega) rfl) rfl rfl ?_|refine qv rfl (rr_stradd (l' := [45]) rfl rfl (by simp only [List.length_append, List.length_cons, List.length_nil]; omega)) rfl rfl ?_|refine qv rfl (rr_stridx (b := UInt8.ofNat (b + j)) Und.eq rfl rfl (by omega) (b8_at (i := i + j) rfl hgj)) rfl rfl ?_|refine qv rfl (rr_strlen Und.eq rfl) rfl rfl ?_|refine qv rfl (rr_lss rfl rfl (qT (by omega))) rfl rfl ?_|refine qv rfl (rr_lss rfl rfl (qF (by omega))) rfl rfl ?_|refine qv rfl (rr_gtr rfl rfl (qT (by omega))) rfl rfl ?_|refine qv rfl (rr_gtr rfl rfl (qF (by omega))) rfl rfl ?_|refine qv rfl (rr_add64 rfl rfl (by omega) (by omega) rfl) rfl rfl ?_|refine qv rfl (rr_eql rfl rfl (qT (by omega))) rfl rfl ?_|refine qv rfl (rr_eql rfl rfl (qF (by omega))) rfl rfl ?_))
          refine TL_call (he1 EntersC.en rfl rfl) (fun w' hm => hch (b + j) w') rfl rfl rfl ?_
          intro _ _
          conv=>arg 8;simp only[zA,zB,zC,zD,zE,zF,zG,zH,zI,rowS,ret,id_eq]
          repeat(first|refine qv rfl (qp rfl) rfl rfl ?_|refine TL_nil ?_|refine T_seq ?_|refine T_region ?_|refine qcT rfl ?_|refine qcF rfl ?_|refine T_skip ?_|refine T_exit ?_|refine T_ret ?_|refine T_block ?_|refine E_then ?_|refine E_thenX ?_|refine E_thenR ?_|refine E_blockN ?_|refine E_blockR ?_|refine E_blockX ?_|refine E_blockO rfl ?_|refine qs rfl rfl rfl rfl rfl rfl ?_|((try refine qg rfl rfl rfl ?_);first|refine qv rfl (qp rfl) rfl rfl ?_|refine qv rfl (rr_stradd rfl rfl (by simp only [List.length_append, List.length_cons, List.length_nil]; omega)) rfl rfl ?_|refine qv rfl (rr_add64 (r := ((i + j + 1 : Nat) : Int)) rfl rfl (by omega) (by omega) (by omega)) rfl rfl ?_|refine qv rfl (rr_strlen Und.eq rfl) rfl rfl ?_|refine qv rfl (rr_lss rfl rfl (qT (by omega))) rfl rfl ?_|refine qv rfl (rr_lss rfl rfl (qF (by omega))) rfl rfl ?_|refine qv rfl (rr_gtr rfl rfl (qT (by omega))) rfl rfl ?_|refine qv rfl (rr_gtr rfl rfl (qF (by omega))) rfl rfl ?_|refine qv rfl (rr_add64 rfl rfl (by omega) (by omega) rfl) rfl rfl ?_|refine qv rfl (rr_eql rfl rfl (qT (by omega))) rfl rfl ?_|refine qv rfl (rr_eql rfl rfl (qF (by omega))) rfl rfl ?_))
          exact E_round (f, i + j + 1, out ++ charT (UInt8.ofNat b) ++ [45] ++ charT (UInt8.ofNat (b + j))) ⟨hlK, (by rw [← i2]; simp), (by show l.length - (i + j + 1) ≤ f; omega)⟩ (by show f < f + 1; omega) (by repeat' (first | exact True.intro | refine And.intro rfl ?_)) rfl
        · rw [if_neg c4] at i2 hol
          by_cases c5 : 0 < j
          · obtain rfl : j = 1 := by omega
            rw [if_pos (show 0 < 1 by omega)] at i2 hol
            simp only [List.length_append, List.length_nil] at hol
            repeat(first|refine qv rfl (qp rfl) rfl rfl ?_|refine TL_nil ?_|refine T_seq ?_|refine T_region ?_|refine qcT rfl ?_|refine qcF rfl ?_|refine T_skip ?_|refine T_exit ?_|refine T_ret ?_|refine T_block ?_|refine E_then ?_|refine E_thenX ?_|refine E_thenR ?_|refine E_blockN ?_|refine E_blockR ?_|refine E_blockX ?_|refine E_blockO rfl ?_|refine qs rfl rfl rfl rfl rfl rfl ?_|((try refine qg rfl rfl rfl ?_);first|refine qv rfl (qp rfl) rfl rfl ?_|refine qv rfl (rr_stradd rfl rfl (by omega)) rfl rfl ?_|refine qv rfl (rr_add64 (r := ((i + 1 : Nat) : Int)) rfl rfl (by omega) (by omega) (by omega)) rfl rfl ?_|refine qv rfl (rr_stridx (b := UInt8.ofNat (b + 1)) Und.eq rfl rfl (by omega) (b8_at (i := i + 1) rfl hgj)) rfl rfl ?_|refine qv rfl (rr_strlen Und.eq rfl) rfl rfl ?_|refine qv rfl (rr_lss rfl rfl (qT (by omega))) rfl rfl ?_|refine qv rfl (rr_lss rfl rfl (qF (by omega))) rfl rfl ?_|refine qv rfl (rr_gtr rfl rfl (qT (by omega))) rfl rfl ?_|refine qv rfl (rr_gtr rfl rfl (qF (by omega))) rfl rfl ?_|refine qv rfl (rr_add64 rfl rfl (by omega) (by omega) rfl) rfl rfl ?_|refine qv rfl (rr_eql rfl rfl (qT (by omega))) rfl rfl ?_|refine qv rfl (rr_eql rfl rfl (qF (by omega))) rfl rfl ?_))
            refine TL_call (he1 EntersC.en rfl rfl) (fun w' hm => hch (b + 1) w') rfl rfl rfl ?_
            intro _ _
            conv=>arg 8;simp only[zA,zB,zC,zD,zE,zF,zG,zH,zI,rowS,ret,id_eq]
            repeat(first|refine qv rfl (qp rfl) rfl rfl ?_|refine TL_nil ?_|refine T_seq ?_|refine T_region ?_|refine qcT rfl ?_|refine qcF rfl ?_|refine T_skip ?_|refine T_exit ?_|refine T_ret ?_|refine T_block ?_|refine E_then ?_|refine E_thenX ?_|refine E_thenR ?_|refine E_blockN ?_|refine E_blockR ?_|refine E_blockX ?_|refine E_blockO rfl ?_|refine qs rfl rfl rfl rfl rfl rfl ?_|((try refine qg rfl rfl rfl ?_);first|refine qv rfl (qp rfl) rfl rfl ?_|refine qv rfl (rr_stradd rfl rfl (by simp only [List.length_append]; omega)) rfl rfl ?_|refine qv rfl (rr_add64 (r := ((i + 1 + 1 : Nat) : Int)) rfl rfl (by omega) (by omega) (by omega)) rfl rfl ?_|refine qv rfl (rr_strlen Und.eq rfl) rfl rfl ?_|refine qv rfl (rr_lss rfl rfl (qT (by omega))) rfl rfl ?_|refine qv rfl (rr_lss rfl rfl (qF (by omega))) rfl rfl ?_|refine qv rfl (rr_gtr rfl rfl (qT (by omega))) rfl rfl ?_|refine qv rfl (rr_gtr rfl rfl (qF (by omega))) rfl rfl ?_|refine qv rfl (rr_add64 rfl rfl (by omega) (by omega) rfl) rfl rfl ?_|refine qv rfl (rr_eql rfl rfl (qT (by omega))) rfl rfl ?_|refine qv rfl (rr_eql rfl rfl (qF (by omega))) rfl rfl ?_))
            exact E_round (f, i + 1 + 1, out ++ charT (UInt8.ofNat b) ++ charT (UInt8.ofNat (b + 1))) ⟨hlK, (by rw [← i2]; simp), (by show l.length - (i + 1 + 1) ≤ f; omega)⟩ (by show f < f + 1; omega) (by repeat' (first | exact True.intro | refine And.intro rfl ?_)) rfl
          · obtain rfl : j = 0 := by omega
            rw [if_neg c5] at i2 hol
            simp only [List.length_append, List.length_nil] at hol
            repeat(first|refine qv rfl (qp rfl) rfl rfl ?_|refine TL_nil ?_|refine T_seq ?_|refine T_region ?_|refine qcT rfl ?_|refine qcF rfl ?_|refine T_skip ?_|refine T_exit ?_|refine T_ret ?_|refine T_block ?_|refine E_then ?_|refine E_thenX ?_|refine E_thenR ?_|refine E_blockN ?_|refine E_blockR ?_|refine E_blockX ?_|refine E_blockO rfl ?_|refine qs rfl rfl rfl rfl rfl rfl ?_|((try refine qg rfl rfl rfl ?_);first|refine qv rfl (qp rfl) rfl rfl ?_|refine qv rfl (rr_stradd rfl rfl (by omega)) rfl rfl ?_|refine qv rfl (rr_add64 (r := ((i + 1 : Nat) : Int)) rfl rfl (by omega) (by omega) (by omega)) rfl rfl ?_|refine qv rfl (rr_strlen Und.eq rfl) rfl rfl ?_|refine qv rfl (rr_lss rfl rfl (qT (by omega))) rfl rfl ?_|refine qv rfl (rr_lss rfl rfl (qF (by omega))) rfl rfl ?_|refine qv rfl (rr_gtr rfl rfl (qT (by omega))) rfl rfl ?_|refine qv rfl (rr_gtr rfl rfl (qF (by omega))) rfl rfl ?_|refine qv rfl (rr_add64 rfl rfl (by omega) (by omega) rfl) rfl rfl ?_|refine qv rfl (rr_eql rfl rfl (qT (by omega))) rfl rfl ?_|refine qv rfl (rr_eql rfl rfl (qF (by omega))) rfl rfl ?_))
            exact E_round (f, i + 1, out ++ charT (UInt8.ofNat b)) ⟨c1, (by rw [← i2]; simp), (by show l.length - (i + 1) ≤ f; omega)⟩ (by show f < f + 1; omega) (by repeat' (first | exact True.intro | refine And.intro rfl ?_)) rfl
  · rw [List.drop_of_length_le (by omega)] at i2
    have e0 : itemsT f [] = [] := by cases f <;> rfl
    rw [e0, List.append_nil] at i2
    subst i2
    repeat(first|refine qv rfl (qp rfl) rfl rfl ?_|refine TL_nil ?_|refine T_seq ?_|refine T_region ?_|refine qcT rfl ?_|refine qcF rfl ?_|refine T_skip ?_|refine T_exit ?_|refine T_ret ?_|refine T_block ?_|refine E_then ?_|refine E_thenX ?_|refine E_thenR ?_|refine E_blockN ?_|refine E_blockR ?_|refine E_blockX ?_|refine E_blockO rfl ?_|refine qs rfl rfl rfl rfl rfl rfl ?_|((try refine qg rfl rfl rfl ?_);first|refine qv rfl (qp rfl) rfl rfl ?_|refine qv rfl (rr_strlen Und.eq rfl) rfl rfl ?_|refine qv rfl (rr_lss (b := false) rfl rfl (decide_eq_false (by rw [hb8]; omega))) rfl rfl ?_|refine qv rfl (rr_strlen Und.eq rfl) rfl rfl ?_|refine qv rfl (rr_lss rfl rfl (qT (by omega))) rfl rfl ?_|refine qv rfl (rr_lss rfl rfl (qF (by omega))) rfl rfl ?_|refine qv rfl (rr_gtr rfl rfl (qT (by omega))) rfl rfl ?_|refine qv rfl (rr_gtr rfl rfl (qF (by omega))) rfl rfl ?_|refine qv rfl (rr_add64 rfl rfl (by omega) (by omega) rfl) rfl rfl ?_|refine qv rfl (rr_eql rfl rfl (qT (by omega))) rfl rfl ?_|refine qv rfl (rr_eql rfl rfl (qF (by omega))) rfl rfl ?_))
    exact E_ret1 rfl rfl fun w hm => hm.ret
end Go.Proofs.YtakiohldgcifeaaDoor.eng


/- RexH -/
namespace Go.Proofs.YtakiohldgcifeaaDoor.rexL
open classL
section
variable {s : Txt}
/-! ### more fuel changes nothing -/
theorem clsGo_mono {neg : Bool} : ∀ {f n : Nat} {c : C4} {st : RS} {R : C4 × RS}, clsGo s neg f n c st = some R → clsGo s neg (f + 1) n c st = some R
  | 0, _, _, _, _, h => nomatch h
  | f + 1, n, c, st, R, h => by
    rw [clsGo] at h ⊢
    split at h
    · rename_i c1; rw [if_pos c1]; exact clsGo_mono h
    · rename_i c1; rw [if_neg c1]; exact h
theorem classS_mono {f : Nat} {st : RS} {R : C4 × RS} (h : classS s f st = some R) : classS s (f + 1) st = some R := by
  unfold classS at h ⊢
  cases hc : clsGo s (isB s st 94) f 0 C4.zero (takeS s st 94) with
  | none => rw [hc] at h; cases h
  | some x => rw [hc] at h; rw [clsGo_mono hc]; exact h
def MonoAt (s : Txt) (f : Nat) : Prop :=
  (∀ {st R}, altF s f st = some R → altF s (f + 1) st = some R) ∧ (∀ {o st R}, altL s f o st = some R → altL s (f + 1) o st = some R) ∧
  (∀ {st R}, catF s f st = some R → catF s (f + 1) st = some R) ∧ (∀ {o st R}, catL s f o st = some R → catL s (f + 1) o st = some R) ∧
  (∀ {st R}, repF s f st = some R → repF s (f + 1) st = some R) ∧ (∀ {o st R}, repL s f o st = some R → repL s (f + 1) o st = some R) ∧
  (∀ {st R}, atomF s f st = some R → atomF s (f + 1) st = some R) ∧ (∀ {st R}, brF s f st = some R → brF s (f + 1) st = some R)
theorem mono_at (s : Txt) : ∀ f, MonoAt s f
  | 0 => ⟨fun h => by rw [altF] at h; (cases h), fun h => by rw [altL] at h; (cases h), fun h => by rw [catF] at h; (cases h), fun h => by rw [catL] at h; (cases h), fun h => by rw [repF] at h; (cases h), fun h => by rw [repL] at h; (cases h), fun h => by rw [atomF] at h; (cases h), fun h => by rw [brF] at h; (cases h)⟩
  | f + 1 => by
    obtain ⟨a1, a2, a3, a4, a5, a6, a7, a8⟩ := mono_at s f
    refine ⟨fun {st R} h => ?_, fun {o st R} h => ?_, fun {st R} h => ?_, fun {o st R} h => ?_, fun {st R} h => ?_, fun {o st R} h => ?_, fun {st R} h => ?_, fun {st R} h => ?_⟩
    · rw [altF] at h ⊢
      cases hc : catF s f st with
      | none => rw [hc] at h; cases h
      | some x => rw [hc] at h; rw [a3 hc]; exact a2 h
    · rw [altL] at h ⊢
      split at h
      · rename_i c; rw [if_pos c]
        cases hc : catF s f st.up with
        | none => rw [hc] at h; cases h
        | some x => rw [hc] at h; rw [a3 hc]; exact a2 h
      · rename_i c; rw [if_neg c]; exact h
    · rw [catF] at h ⊢
      cases hc : repF s f st with
      | none => rw [hc] at h; cases h
      | some x => rw [hc] at h; rw [a5 hc]; exact a4 h
    · rw [catL] at h ⊢
      split at h
      · rename_i c; rw [if_pos c]; exact h
      · rename_i c; rw [if_neg c]
        cases hc : repF s f st with
        | none => rw [hc] at h; cases h
        | some x => rw [hc] at h; rw [a5 hc]; exact a4 h
    · rw [repF] at h ⊢
      cases hc : atomF s f st with
      | none => rw [hc] at h; cases h
      | some x => rw [hc] at h; rw [a7 hc]; exact a6 h
    · rw [repL] at h ⊢
      split at h
      · rename_i c; rw [if_pos c]; exact h
      · rename_i c; rw [if_neg c]
        split at h
        · rename_i c; rw [if_pos c]; exact a6 h
        · rename_i c; rw [if_neg c]
          split at h
          · rename_i c; rw [if_pos c]; exact a6 h
          · rename_i c; rw [if_neg c]
            split at h
            · rename_i c; rw [if_pos c]; exact a6 h
            · rename_i c; rw [if_neg c]; exact h
    · rw [atomF] at h ⊢
      split at h
      · rename_i c; rw [if_pos c]; exact a8 h
      · rename_i c; rw [if_neg c]
        split at h
        · rename_i c; rw [if_pos c]
          split at h
          · rename_i c; rw [if_pos c]; exact h
          · rename_i c; rw [if_neg c]
            cases hc : classS s f st.up with
            | none => rw [hc] at h; cases h
            | some x => rw [hc] at h; rw [classS_mono hc]; exact h
        · rename_i c; rw [if_neg c]; exact h
    · rw [brF] at h ⊢
      split at h
      · rename_i c; rw [if_pos c]; exact h
      · rename_i c; rw [if_neg c]
        split at h
        · rename_i c; rw [if_pos c]; exact h
        · rename_i c; rw [if_neg c]
          cases hc : altF s f { st.up with o := st.o + 1 } with
          | none => rw [hc] at h; cases h
          | some x => rw [hc] at h; rw [a1 hc]; exact h
theorem up_le {α : Type} {F : Nat → Option α} (hm : ∀ {f R}, F f = some R → F (f + 1) = some R) {f f' : Nat} {R : α} (h : F f = some R) (hl : f ≤ f') : F f' = some R := by
  induction hl with
  | refl => exact h
  | step _ ih => exact hm ih
theorem both {α : Type} {F : Nat → Option α} (hm : ∀ {f R}, F f = some R → F (f + 1) = some R) {f f' : Nat} {R R' : α} (h : F f = some R) (h' : F f' = some R') : R = R' := by
  have h1 := up_le (F := F) (fun {f R} => hm) h (Nat.le_max_left f f')
  have h2 := up_le (F := F) (fun {f R} => hm) h' (Nat.le_max_right f f')
  rw [h1] at h2; exact Option.some.inj h2
/-! ### the parts of a text -/
def NoRep (t : Txt) : Prop := ∀ x r, t = x :: r → x ≠ 42 ∧ x ≠ 43 ∧ x ≠ 63
def EndsP (t : Txt) : Prop := t = [] ∨ ∃ x r, t = x :: r ∧ (x = 124 ∨ x = 41)
/-- where a part may begin -/
def Head (t : Txt) : Prop := ∃ x r, t = x :: r ∧ x ≠ 41 ∧ x ≠ 124 ∧ x ≠ 42 ∧ x ≠ 43 ∧ x ≠ 63
def AtomOk (s t : Txt) (x : Rx) (o : Nat) : Prop := ∀ p post, s.drop p = t ++ post → ∃ f, atomF s f ⟨p, o, 0⟩ = some (x, ⟨p + t.length, o, 0⟩)
def RepOk (s t : Txt) (x : Rx) (o : Nat) : Prop := ∀ p post R, s.drop p = t ++ post → (∃ f, repL s f x ⟨p + t.length, o, 0⟩ = some R) → ∃ f, repF s f ⟨p, o, 0⟩ = some R
def CatOk (s t : Txt) (x : Rx) (o : Nat) : Prop := ∀ p post R, s.drop p = t ++ post → NoRep post → (∃ f, catL s f x ⟨p + t.length, o, 0⟩ = some R) → ∃ f, catF s f ⟨p, o, 0⟩ = some R
def AltOk (s t : Txt) (x : Rx) (o : Nat) : Prop := ∀ p post R, s.drop p = t ++ post → EndsP post → (∃ f, altL s f x ⟨p + t.length, o, 0⟩ = some R) → ∃ f, altF s f ⟨p, o, 0⟩ = some R
theorem isB_no {p o : Nat} {b : UInt8} {post : Txt} (h : s.drop p = post) (hn : ∀ x r, post = x :: r → x ≠ b) : isB s ⟨p, o, 0⟩ b = false := by
  cases post with
  | nil => exact isB_nil h
  | cons x r => rw [isB_is h]; exact decide_eq_false (hn x r rfl)
theorem ends_norep {t : Txt} (h : EndsP t) : NoRep t := by
  rintro x r rfl
  rcases h with h | ⟨y, q, h, h2⟩
  · cases h
  · cases h
    rcases h2 with rfl | rfl <;> exact ⟨by decide, by decide, by decide⟩
theorem head_norep {t post : Txt} (h : Head t) : NoRep (t ++ post) := by
  obtain ⟨x, r, rfl, h⟩ := h
  intro y q e
  cases e
  exact h.2.2
theorem ends_is {p o : Nat} {post : Txt} (h : s.drop p = post) (hp : p ≤ s.length) (he : EndsP post) : endsB s ⟨p, o, 0⟩ = true := by
  unfold endsB
  rcases he with rfl | ⟨x, r, rfl, h2⟩
  · have : p = s.length := by have := List.length_drop (i := p) (l := s); rw [h] at this; simp at this; omega
    simp [this]
  · rw [isB_is h, isB_is h]
    rcases h2 with rfl | rfl <;> simp
theorem ends_not {p o : Nat} {t post : Txt} (h : s.drop p = t ++ post) (hh : Head t) : endsB s ⟨p, o, 0⟩ = false := by
  obtain ⟨x, r, rfl, h1, h2, _⟩ := hh
  unfold endsB
  have hp : p < s.length := by
    rcases Nat.lt_or_ge p s.length with h' | h'
    · exact h'
    · rw [List.drop_of_length_le h'] at h; cases h
  rw [isB_is h, isB_is h]
  simp [h1, h2]
  omega
theorem drop_le {p : Nat} {t post : Txt} (h : s.drop p = t ++ post) (h0 : t ≠ []) : p + t.length ≤ s.length := by
  have := List.length_drop (i := p) (l := s)
  rw [h, List.length_append] at this
  cases t with
  | nil => exact absurd rfl h0
  | cons x r => simp at this ⊢; omega
theorem atom_rep {t : Txt} {x : Rx} {o : Nat} (h : AtomOk s t x o) : RepOk s t x o := by
  rintro p post R e ⟨f, hf⟩
  obtain ⟨f2, h2⟩ := h p post e
  refine ⟨max f f2 + 1, ?_⟩
  rw [repF, up_le (F := fun f => atomF s f ⟨p, o, 0⟩) (fun {f R} => (mono_at s f).2.2.2.2.2.2.1) h2 (Nat.le_max_right f f2)]
  exact up_le (F := fun f => repL s f x ⟨p + t.length, o, 0⟩) (fun {f R} => (mono_at s f).2.2.2.2.2.1) hf (Nat.le_max_left f f2)
theorem rep_cat {t : Txt} {x : Rx} {o : Nat} (h : RepOk s t x o) : CatOk s t x o := by
  rintro p post R e hn ⟨f, hf⟩
  have e2 := drop_app e
  obtain ⟨f2, h2⟩ := h p post (x, ⟨p + t.length, o, 0⟩) e ⟨1, by
    rw [repL, if_neg (by simp), isB_no e2 fun y r h => (hn y r h).1, isB_no e2 fun y r h => (hn y r h).2.1, isB_no e2 fun y r h => (hn y r h).2.2]; rfl⟩
  refine ⟨max f f2 + 1, ?_⟩
  rw [catF, up_le (F := fun f => repF s f ⟨p, o, 0⟩) (fun {f R} => (mono_at s f).2.2.2.2.1) h2 (Nat.le_max_right f f2)]
  exact up_le (F := fun f => catL s f x ⟨p + t.length, o, 0⟩) (fun {f R} => (mono_at s f).2.2.2.1) hf (Nat.le_max_left f f2)
theorem cat_alt {t : Txt} {x : Rx} {o : Nat} (h : CatOk s t x o) (h0 : t ≠ []) : AltOk s t x o := by
  rintro p post R e hn ⟨f, hf⟩
  have e2 := drop_app e
  obtain ⟨f2, h2⟩ := h p post (x, ⟨p + t.length, o, 0⟩) e (ends_norep hn) ⟨1, by rw [catL, if_pos (ends_is e2 (drop_le e h0) hn)]⟩
  refine ⟨max f f2 + 1, ?_⟩
  rw [altF, up_le (F := fun f => catF s f ⟨p, o, 0⟩) (fun {f R} => (mono_at s f).2.2.1) h2 (Nat.le_max_right f f2)]
  exact up_le (F := fun f => altL s f x ⟨p + t.length, o, 0⟩) (fun {f R} => (mono_at s f).2.1) hf (Nat.le_max_left f f2)
theorem wrap_atom {t : Txt} {x : Rx} {o : Nat} (h : AltOk s t x (o + 1)) (ho : o < 30) (hh : Head t) : AtomOk s ([40] ++ (t ++ [41])) x o := by
  intro p post e
  rw [List.append_assoc, List.append_assoc] at e
  obtain ⟨e1, e2⟩ := at_of e
  have e2 : s.drop (p + 1) = t ++ (41 :: post) := e2
  have e3 := drop_app e2
  obtain ⟨f, hf⟩ := h (p + 1) (41 :: post) (x, ⟨p + 1 + t.length, o + 1, 0⟩) e2 (.inr ⟨41, post, rfl, .inr rfl⟩) ⟨1, by rw [altL, isB_is e3]; rfl⟩
  refine ⟨f + 1 + 1, ?_⟩
  have hh2 := hh
  obtain ⟨y, r, rfl, hy, _⟩ := hh2
  rw [atomF, isB_is e]
  rw [if_pos (by decide), brF, if_neg (by show o ≠ 30; omega)]
  have e4 : isB s (RS.up ⟨p, o, 0⟩) 41 = false := by
    rw [show RS.up ⟨p, o, 0⟩ = ⟨p + 1, o, 0⟩ from rfl, isB_is e2]; exact decide_eq_false hy
  rw [e4, if_neg (by decide)]
  rw [show ({ RS.up ⟨p, o, 0⟩ with o := (⟨p, o, 0⟩ : RS).o + 1 } : RS) = ⟨p + 1, o + 1, 0⟩ from rfl, hf]
  dsimp only
  rw [show o + 1 - 1 = o from rfl, isB_is e3, if_pos (by decide)]
  unfold RS.up
  simp only [List.length_append, List.length_cons, List.length_nil]
  congr 3
  omega
theorem star_rep {t : Txt} {x : Rx} {o : Nat} (h : AtomOk s t x o) : RepOk s (t ++ [42]) (.mk 6 C4.zero [x]) o := by
  rintro p post R e ⟨f, hf⟩
  rw [List.append_assoc] at e
  refine atom_rep h p _ R e ⟨f + 1, ?_⟩
  have e2 := drop_app e
  rw [repL, if_neg (by simp), isB_is e2, if_pos (by decide)]
  rw [List.length_append] at hf
  exact hf
theorem cat_cat {ta tb : Txt} {xa xb : Rx} {o : Nat} (ha : CatOk s ta xa o) (hb : RepOk s tb xb o) (hh : Head tb) : CatOk s (ta ++ tb) (twoX 4 xa xb) o := by
  rintro p post R e hn ⟨f, hf⟩
  rw [List.append_assoc] at e
  have e2 := drop_app e
  have e3 := drop_app e2
  obtain ⟨f2, h2⟩ := hb (p + ta.length) post (xb, ⟨p + ta.length + tb.length, o, 0⟩) e2 ⟨1, by
    rw [repL, if_neg (by simp), isB_no e3 fun y r h => (hn y r h).1, isB_no e3 fun y r h => (hn y r h).2.1, isB_no e3 fun y r h => (hn y r h).2.2]; rfl⟩
  refine ha p _ R e (head_norep hh) ⟨max f f2 + 1, ?_⟩
  rw [catL, ends_not e2 hh, if_neg (by decide), up_le (F := fun f => repF s f ⟨p + ta.length, o, 0⟩) (fun {f R} => (mono_at s f).2.2.2.2.1) h2 (Nat.le_max_right f f2)]
  rw [List.length_append, ← Nat.add_assoc] at hf
  exact up_le (F := fun f => catL s f (twoX 4 xa xb) ⟨p + ta.length + tb.length, o, 0⟩) (fun {f R} => (mono_at s f).2.2.2.1) hf (Nat.le_max_left f f2)
theorem alt_alt {ta tb : Txt} {xa xb : Rx} {o : Nat} (ha : AltOk s ta xa o) (hb : CatOk s tb xb o) (h0 : tb ≠ []) : AltOk s (ta ++ ([124] ++ tb)) (twoX 5 xa xb) o := by
  rintro p post R e hn ⟨f, hf⟩
  rw [List.append_assoc, List.append_assoc] at e
  have e2 : s.drop (p + ta.length) = 124 :: (tb ++ post) := drop_app e
  have e3 := (at_of e2).2
  have e4 := drop_app e3
  obtain ⟨f2, h2⟩ := hb (p + ta.length + 1) post (xb, ⟨p + ta.length + 1 + tb.length, o, 0⟩) e3 (ends_norep hn) ⟨1, by rw [catL, if_pos (ends_is e4 (drop_le e3 h0) hn)]⟩
  refine ha p _ R e (.inr ⟨124, _, rfl, .inl rfl⟩) ⟨max f f2 + 1, ?_⟩
  rw [altL, isB_is e2, if_pos (by decide)]
  rw [show RS.up ⟨p + ta.length, o, 0⟩ = ⟨p + ta.length + 1, o, 0⟩ from rfl, up_le (F := fun f => catF s f ⟨p + ta.length + 1, o, 0⟩) (fun {f R} => (mono_at s f).2.2.1) h2 (Nat.le_max_right f f2)]
  rw [List.length_append, List.length_append, show p + (ta.length + (([124] : Txt).length + tb.length)) = p + ta.length + 1 + tb.length by simp; omega] at hf
  exact up_le (F := fun f => altL s f (twoX 5 xa xb) ⟨p + ta.length + 1 + tb.length, o, 0⟩) (fun {f R} => (mono_at s f).2.1) hf (Nat.le_max_left f f2)
/-! ### classes -/
theorem cls_of {x : C4} {l : List Nat} (h : ∀ i, i < 256 → x.mem i = decide (i ∈ l)) {y : C4} (hy : bytesL y = l) : x = y := ext_mem fun i hi => by
  rw [h i hi, ← hy]
  have := @mem_bytes y i
  cases hm : y.mem i with
  | true => rw [decide_eq_true_eq, this]; exact ⟨hi, hm⟩
  | false => rw [decide_eq_false_iff_not, this, hm]; simp
theorem one_cls {c : C4} {n : Nat} (h1 : cnt c = 1) (hn : n < 256) (hm : c.mem n = true) : c = rangeF (n : Int) (n : Int) := by
  unfold cnt at h1
  obtain ⟨b, hb⟩ := List.length_eq_one_iff.1 h1
  have : n ∈ bytesL c := mem_bytes.2 ⟨hn, hm⟩
  rw [hb, List.mem_singleton] at this
  subst this
  exact (cls_of (l := [n]) (fun i hi => by
    rw [range_mem _ _ _ hi, decide_eq_decide, List.mem_singleton]; omega) hb).symm
theorem class_back {c : C4} (hc : c ≠ C4.zero) (o : Nat) : AtomOk s (classT c) (.mk 3 c []) o := by
  intro p post e
  unfold classT at e ⊢
  by_cases c1 : cnt c = 1
  · rw [if_pos c1] at e ⊢
    obtain ⟨b, hb⟩ := List.length_eq_one_iff.1 c1
    have hm : b < 256 ∧ c.mem b = true := mem_bytes.1 (by rw [hb]; exact List.mem_singleton.2 rfl)
    rw [hb] at e ⊢
    rw [show [b].getD 0 0 = b from rfl] at e ⊢
    obtain ⟨x, r, hx, h1, h2, h3, h4, h5, h6, h7, h8, _⟩ := char_head (UInt8.ofNat b)
    have e' := e
    rw [hx] at e'
    have e' : s.drop p = x :: (r ++ post) := e'
    refine ⟨1, ?_⟩
    rw [atomF, isB_is e', isB_is e', isB_is e', if_neg (by simpa using h6), if_neg (by simpa using h7), if_neg (by simpa using h8), char_back e]
    dsimp only
    have hb1 : (UInt8.ofNat b).toNat = b := by rw [UInt8.toNat_ofNat']; exact Nat.mod_eq_of_lt hm.1
    rw [hb1, ← one_cls c1 hm.1 hm.2]
  · rw [if_neg c1] at e ⊢
    by_cases c2 : cnt c = 255 ∧ c.mem 10 = false
    · rw [if_pos c2] at e ⊢
      have : c.not = rangeF ((10 : Nat) : Int) ((10 : Nat) : Int) := one_cls (by rw [cnt_not, c2.1]) (by omega) (by rw [not_mem, c2.2]; rfl)
      refine ⟨1, ?_⟩
      have e : s.drop p = 46 :: post := e
      rw [atomF, isB_is e, isB_is e, isB_is e, if_neg (by decide), if_neg (by decide), if_pos (by decide)]
      rw [show rangeF 10 10 = c.not from this.symm, law2]; rfl
    · rw [if_neg c2] at e ⊢
      by_cases c3 : 128 < cnt c
      · rw [if_pos c3] at e ⊢
        have e0 : s.drop p = 91 :: 94 :: (itemsT 256 (bytesL c.not) ++ 93 :: post) := by rw [e]; simp
        have e1 := (at_of e0).2
        have e2 := (at_of e1).2
        have hl : (bytesL c.not).length ≤ 256 := cnt_le c.not
        obtain ⟨c', h1, h2⟩ := items_back (neg := true) 256 (bytesL c.not) (p + 1 + 1) o 0 C4.zero post 600 hl (fun x hx => (mem_bytes.1 hx).1) (.inr (.inl rfl)) e2 (by omega)
        have e3 := drop_app e2
        have hc' : c' = c.not := cls_of (l := bytesL c.not) (fun i hi => by rw [h2 i hi, zero_mem, Bool.false_or]) rfl
        subst hc'
        refine ⟨601, ?_⟩
        rw [atomF, isB_is e0, isB_is e0, if_neg (by decide), if_pos (by decide)]
        rw [show RS.up ⟨p, o, 0⟩ = ⟨p + 1, o, 0⟩ from rfl, isB_is e1, if_neg (by decide)]
        unfold classS takeS
        rw [isB_is e1]
        rw [show decide ((94 : UInt8) = 94) = true by decide, if_pos rfl, show RS.up ⟨p + 1, o, 0⟩ = ⟨p + 1 + 1, o, 0⟩ from rfl, h1]
        dsimp only
        rw [if_pos rfl, law2, if_neg hc, isB_is e3, if_pos (by decide)]
        unfold RS.up
        simp only [List.length_append, List.length_cons, List.length_nil]
        congr 3
        omega
      · rw [if_neg c3] at e ⊢
        have hl : (bytesL c).length ≤ 256 := cnt_le c
        have hne : bytesL c ≠ [] := fun h => hc (cls_of (x := C4.zero) (l := []) (fun i _ => by rw [zero_mem]; simp) h).symm
        have e0 : s.drop p = 91 :: (itemsT 256 (bytesL c) ++ 93 :: post) := by rw [e]; simp
        have e1 := (at_of e0).2
        obtain ⟨c', h1, h2⟩ := items_back (neg := false) 256 (bytesL c) (p + 1) o 0 C4.zero post 600 hl (fun x hx => (mem_bytes.1 hx).1) (.inr (.inr hne)) e1 (by omega)
        have e3 := drop_app e1
        have hc' : c' = c := cls_of (l := bytesL c) (fun i hi => by rw [h2 i hi, zero_mem, Bool.false_or]) rfl
        subst hc'
        have hh : ∃ x r, itemsT 256 (bytesL c') ++ 93 :: post = x :: r ∧ x ≠ 93 ∧ x ≠ 94 := by
          rcases hb : bytesL c' with _ | ⟨b, r⟩
          · exact absurd hb hne
          · obtain ⟨x, q, k1, k2, k3, _⟩ := itemT_head b (runL b r)
            rw [itemsT, k1]
            exact ⟨x, _, rfl, k2, k3⟩
        obtain ⟨x, r, hx, k1, k2⟩ := hh
        have e1' := e1
        rw [hx] at e1'
        refine ⟨601, ?_⟩
        rw [atomF, isB_is e0, isB_is e0, if_neg (by decide), if_pos (by decide)]
        rw [show RS.up ⟨p, o, 0⟩ = ⟨p + 1, o, 0⟩ from rfl, isB_is e1', if_neg (by simpa using k1)]
        unfold classS takeS
        rw [isB_is e1', decide_eq_false k2, if_neg (by decide), h1]
        dsimp only
        rw [if_neg (by decide), if_neg hc, isB_is e3, if_pos (by decide)]
        unfold RS.up
        simp only [List.length_append, List.length_cons, List.length_nil]
        congr 3
        omega
theorem class_head (c : C4) : Head (classT c) := by
  unfold classT
  split
  · obtain ⟨x, r, hx, h1, h2, h3, h4, h5, h6, h7, h8, h9, h10, h11⟩ := char_head (UInt8.ofNat ((bytesL c).getD 0 0))
    exact ⟨x, r, hx, h5, h4, h9, h10, h11⟩
  · split
    · exact ⟨46, [], rfl, by decide, by decide, by decide, by decide, by decide⟩
    · split
      · exact ⟨91, _, rfl, by decide, by decide, by decide, by decide, by decide⟩
      · exact ⟨91, _, rfl, by decide, by decide, by decide, by decide, by decide⟩
theorem head_app {t post : Txt} (h : Head t) : Head (t ++ post) := by
  obtain ⟨x, r, rfl, h⟩ := h
  exact ⟨x, r ++ post, rfl, h⟩
theorem wrap_head {b : Bool} {t : Txt} (h : Head t) : Head (wrap b t) := by
  unfold wrap
  split
  · exact ⟨40, _, rfl, by decide, by decide, by decide, by decide, by decide⟩
  · exact h
theorem body_head : ∀ e : Re, Head (body e)
  | .empty => ⟨40, [41], rfl, by decide, by decide, by decide, by decide, by decide⟩
  | .none => ⟨91, [93], rfl, by decide, by decide, by decide, by decide, by decide⟩
  | .byte c => class_head c
  | .star a => head_app (wrap_head (body_head a))
  | .cat a b => head_app (wrap_head (body_head a))
  | .alt a b => head_app (wrap_head (body_head a))
theorem head_ne {t : Txt} (h : Head t) : t ≠ [] := by
  obtain ⟨x, r, rfl, _⟩ := h; simp
/-! ### all of it -/
structure BodyOk (s : Txt) (e : Re) (o : Nat) : Prop where
  atom : e.kind ≠ 4 → e.kind ≠ 5 → e.kind ≠ 6 → AtomOk s (body e) (emb e) o
  rep : e.kind ≠ 4 → e.kind ≠ 5 → RepOk s (body e) (emb e) o
  cat : e.kind ≠ 5 → CatOk s (body e) (emb e) o
  alt : AltOk s (body e) (emb e) o
theorem ok_leaf {e : Re} {o : Nat} (h : AtomOk s (body e) (emb e) o) : BodyOk s e o :=
  ⟨fun _ _ _ => h, fun _ _ => atom_rep h, fun _ => rep_cat (atom_rep h), cat_alt (rep_cat (atom_rep h)) (head_ne (body_head e))⟩
theorem par_atom {e : Re} {o : Nat} (h : ∀ o', o' + e.hgt ≤ 30 → BodyOk s e o') (ho : o + 1 + e.hgt ≤ 30) : AtomOk s (wrap (inBr 3 e) (body e)) (emb e) o := by
  unfold wrap
  cases hb : inBr 3 e with
  | true => rw [if_pos rfl]; exact wrap_atom (h (o + 1) ho).alt (by omega) (body_head e)
  | false =>
    rw [if_neg (by decide)]
    unfold inBr at hb
    rw [decide_eq_false_iff_not] at hb
    exact (h o (by omega)).atom (by omega) (by omega) (by omega)
theorem par_rep {e : Re} {o : Nat} (h : ∀ o', o' + e.hgt ≤ 30 → BodyOk s e o') (ho : o + 1 + e.hgt ≤ 30) : RepOk s (wrap (inBr 2 e) (body e)) (emb e) o := by
  unfold wrap
  cases hb : inBr 2 e with
  | true => rw [if_pos rfl]; exact atom_rep (wrap_atom (h (o + 1) ho).alt (by omega) (body_head e))
  | false =>
    rw [if_neg (by decide)]
    unfold inBr at hb
    rw [decide_eq_false_iff_not] at hb
    exact (h o (by omega)).rep (by omega) (by omega)
theorem par_cat {e : Re} {o : Nat} (h : ∀ o', o' + e.hgt ≤ 30 → BodyOk s e o') (ho : o + 1 + e.hgt ≤ 30) : CatOk s (wrap (inBr 1 e) (body e)) (emb e) o := by
  unfold wrap
  cases hb : inBr 1 e with
  | true => rw [if_pos rfl]; exact rep_cat (atom_rep (wrap_atom (h (o + 1) ho).alt (by omega) (body_head e)))
  | false =>
    rw [if_neg (by decide)]
    unfold inBr at hb
    rw [decide_eq_false_iff_not] at hb
    exact (h o (by omega)).cat (by omega)
theorem br0 (e : Re) : inBr 0 e = false := by unfold inBr; rw [decide_eq_false_iff_not]; omega
theorem body_ok : ∀ (e : Re), e.nz → ∀ o, o + e.hgt ≤ 30 → BodyOk s e o
  | .empty, _, o, ho => ok_leaf fun p post e => by
    have e : s.drop p = 40 :: 41 :: post := e
    have e1 := (at_of e).2
    have ho : o + 1 ≤ 30 := ho
    refine ⟨2, ?_⟩
    rw [atomF, isB_is e, if_pos (by decide), brF, if_neg (by show o ≠ 30; omega), show RS.up ⟨p, o, 0⟩ = ⟨p + 1, o, 0⟩ from rfl, isB_is e1, if_pos (by decide)]
    rfl
  | .none, _, o, _ => ok_leaf fun p post e => by
    have e : s.drop p = 91 :: 93 :: post := e
    have e1 := (at_of e).2
    refine ⟨1, ?_⟩
    rw [atomF, isB_is e, isB_is e, if_neg (by decide), if_pos (by decide), show RS.up ⟨p, o, 0⟩ = ⟨p + 1, o, 0⟩ from rfl, isB_is e1, if_pos (by decide)]
    rfl
  | .byte c, h, o, _ => ok_leaf (class_back h o)
  | .star a, h, o, ho => by
    have ho : o + (a.hgt + 1) ≤ 30 := ho
    have hr : RepOk s (body (.star a)) (emb (.star a)) o := star_rep (par_atom (fun o' h' => body_ok a h o' h') (by omega))
    exact ⟨fun _ _ h => absurd rfl h, fun _ _ => hr, fun _ => rep_cat hr, cat_alt (rep_cat hr) (head_ne (body_head _))⟩
  | .cat a b, h, o, ho => by
    have ho : o + (max a.hgt b.hgt + 1) ≤ 30 := ho
    have hc : CatOk s (body (.cat a b)) (emb (.cat a b)) o := cat_cat (par_cat (fun o' h' => body_ok a h.1 o' h') (by omega)) (par_rep (fun o' h' => body_ok b h.2 o' h') (by omega)) (wrap_head (body_head b))
    exact ⟨fun h => absurd rfl h, fun h => absurd rfl h, fun _ => hc, cat_alt hc (head_ne (body_head _))⟩
  | .alt a b, h, o, ho => by
    have ho : o + (max a.hgt b.hgt + 1) ≤ 30 := ho
    have hc : AltOk s (body (.alt a b)) (emb (.alt a b)) o := by
      refine alt_alt (ta := wrap (inBr 0 a) (body a)) ?_ (par_cat (fun o' h' => body_ok b h.2 o' h') (by omega)) (head_ne (wrap_head (body_head b)))
      rw [br0]
      exact (body_ok a h.1 o (by omega)).alt
    exact ⟨fun _ h => absurd rfl h, fun _ h => absurd rfl h, fun h => absurd rfl h, hc⟩
end
/-- what is printed is read as it was -/
theorem parse_back {e : Re} (h : Fit e 1 0) : parseF (body e) = some (if 300 < (body e).length then (.mk 0 C4.zero [], 0, 2) else (emb e, 0, 0)) := by
  have hd := h.dp
  obtain ⟨f, hf⟩ := (body_ok (s := body e) e h.nz 0 (by omega)).alt 0 [] (emb e, ⟨0 + (body e).length, 0, 0⟩) (by rw [List.drop_zero, List.append_nil]) (.inl rfl) ⟨1, by
    rw [altL, isB_nil (by rw [Nat.zero_add, List.drop_length])]; rfl⟩
  unfold parseF
  by_cases c : 300 < (body e).length
  · rw [if_pos c, if_pos c]
  · rw [if_neg c, if_neg c]
    obtain ⟨R, hR⟩ := (some_at (body e) (8 * (body e).length + 16)).1 ⟨0, 0, 0⟩ (Nat.zero_le _) (by show 8 * ((body e).length - 0) + 6 < _; omega)
    have := both (F := fun f => altF (body e) f ⟨0, 0, 0⟩) (fun {f R} => (mono_at (body e) f).1) hf hR
    subst this
    rw [hR]
    dsimp only
    rw [if_neg (show ¬ ((0 : Int) = 0 ∧ 0 + (body e).length < (body e).length) by rintro ⟨_, h⟩; omega), if_neg (show ¬ ((0 : Int) ≠ 0) by decide), fit_chk e 1 0 h, if_neg (show ¬ ((0 : Int) ≠ 0) by decide)]
end Go.Proofs.YtakiohldgcifeaaDoor.rexL

/- RexV -/
namespace Go.Proofs.YtakiohldgcifeaaDoor.eng
open Go.RowKit kit mix classL rexL classSets
/-- on the way through a text's cuts, from k on -/
def Cut (x y : Re) (s : List UInt8) (k i : Nat) (want : Bool) : Prop := want = true ↔ ∃ j, k ≤ j ∧ j < i ∧ j ≤ s.length ∧ Lang x (s.take j) ∧ Lang y (s.drop j)
end Go.Proofs.YtakiohldgcifeaaDoor.eng


/- RexT -/
namespace Go.Proofs.YtakiohldgcifeaaDoor.rexL
open classL
end Go.Proofs.YtakiohldgcifeaaDoor.rexL
namespace Go.Proofs.YtakiohldgcifeaaDoor.eng
open Go.RowKit kit mix classL rexL classSets
/-- cells of an expression whose kids lie somewhere -/
abbrev RC := Int × C4 × Option Addr × Nat × Nat
def rcC (x : RC) : List Value := rexC x.1 x.2.1 (.slice x.2.2.1 x.2.2.2.1 x.2.2.2.2)
/-- kids of an expression, owned -/
def rkO (F : Nat → Prop) (v : Value) (l : List Rx) : Own := shpO (sliceS rexS) F [v] l
theorem rkO_form {F : Nat → Prop} {v : Value} {l : List Rx} {w : World} (h : (rkO F v l).holds w) : ∃ b n cap, v = .slice b n cap := by
  obtain ⟨⟨v', hv, h3⟩, h4⟩ := h
  simp only [List.cons.injEq, and_true] at hv
  subst hv
  obtain ⟨b, c, rfl, _⟩ := h3
  exact ⟨b, _, c, rfl⟩
theorem build_rexKC (k : Int) (c : C4) (w : World) : (Instr.build 39 #[(0, .int .i64 k), (1, .agg (clsL c).toArray)]).run Tryd.prog w = .ok (rexV k c (.slice none 0 0)) w := by kernel_rfl
end Go.Proofs.YtakiohldgcifeaaDoor.eng


/- MixX -/
namespace Go.Proofs.YtakiohldgcifeaaDoor.eng
open Go.RowKit kit mix
theorem OwnsP.perm {p : Nat → Prop} {w : World} {L L' : List Own} (h : OwnsP p w L) (hp : L.Perm L') : OwnsP p w L' := by
  have hpw : L.Pairwise (fun o o' => ∀ k, o.foot k → ¬ o'.foot k) := List.pairwise_iff_getElem.2 fun i j hi hj hij => h.apart i j _ _ (by omega) (List.getElem?_eq_getElem hi) (List.getElem?_eq_getElem hj)
  have hpw' := List.pairwise_iff_getElem.1 ((hp.pairwise_iff (fun hxy k h1 h2 => hxy k h2 h1)).1 hpw)
  refine ⟨fun i o hi => ?_, fun i j o o' hij hi hj k h1 h2 => ?_⟩
  · obtain ⟨j, hj⟩ := List.getElem?_of_mem (hp.symm.subset (List.mem_of_getElem? hi))
    exact h.all j o hj
  · obtain ⟨hi', rfl⟩ := List.getElem?_eq_some_iff.1 hi
    obtain ⟨hj', rfl⟩ := List.getElem?_eq_some_iff.1 hj
    rcases Nat.lt_or_gt_of_ne hij with h3 | h3
    · exact hpw' i j hi' hj' h3 k h1 h2
    · exact hpw' j i hj' hi' h3 k h2 h1
theorem Mem.perm {W : Base} {w : World} {L L' : List Own} (h : Mem W L w) (hp : L.Perm L') : Mem W L' w := ⟨h.low, h.owns.perm hp⟩
theorem look_perm {l l' : Fr} (hp : l.Perm l') : (l.map (·.1)).Nodup → ∀ (fr : Fr) (i : Nat), look (l ++ fr) i = look (l' ++ fr) i := by
  induction hp with
  | nil => intro _ _ _; rfl
  | cons x _ ih =>
    intro hn fr i
    rw [List.map_cons, List.nodup_cons] at hn
    obtain ⟨k, v⟩ := x
    show (bif Nat.beq k i then some v else _) = (bif Nat.beq k i then some v else _)
    have e := ih hn.2 fr i
    exact congrArg (fun z => bif Nat.beq k i then some v else z) e
  | swap x y l =>
    intro hn fr i
    obtain ⟨k, v⟩ := x
    obtain ⟨k2, v2⟩ := y
    simp only [List.map_cons, List.nodup_cons, List.mem_cons, not_or] at hn
    show (bif Nat.beq k2 i then some v2 else bif Nat.beq k i then some v else _) = (bif Nat.beq k i then some v else bif Nat.beq k2 i then some v2 else _)
    cases e : Nat.beq k2 i
    · rfl
    · cases e2 : Nat.beq k i
      · rfl
      · have a := Nat.eq_of_beq_eq_true e
        have b := Nat.eq_of_beq_eq_true e2
        exact absurd (a.trans b.symm) hn.1.1
  | trans h1 _ ih1 ih2 =>
    intro hn fr i
    rw [ih1 hn, ih2 ((h1.map _).nodup_iff.1 hn)]
section
variable {P : Program} {n : Nat} {W : Base} {Q : Exit → Act → World → Prop} {fr : Fr} {L L0 : List Own} {ops : Array Oper}
theorem Rep.perm {a : Act} {l l' : Fr} (h : Rep n a (l ++ fr)) (hp : l.Perm l') (hn : (l.map (·.1)).Nodup) : Rep n a (l' ++ fr) :=
  ⟨h.size, h.defers, fun i v hl => h.get i v (by rw [look_perm hp hn fr i]; exact hl)⟩
end
end Go.Proofs.YtakiohldgcifeaaDoor.eng

/- RexY -/
namespace Go.Proofs.YtakiohldgcifeaaDoor.eng
open Go.RowKit kit mix classL rexL classSets
theorem rexTwo_calls (q k k' : Int) (c c' : C4) (b b' : Option Addr) (l l' cap cap' : Nat) (w : World) : Calls Tryd.prog 58 #[.int .i64 q, rexV k c (.slice b l cap), rexV k' c' (.slice b' l' cap')] w (Meets (twoS q (rexC k c (.slice b l cap)) (rexC k' c' (.slice b' l' cap'))) w) := by
  refine enter (args := [.int .i64 q, rexV k c (.slice b l cap), rexV k' c' (.slice b' l' cap')]) (n := 12) Tryd.func58 rfl rfl rfl ?_
  refine T_seq (T_region (TL_box rfl rfl rfl fun g4 => TL_box rfl rfl rfl fun g5 => TL_new rfl fun g6 => ?_))
  conv=>arg 8;simp only[zA,zB,zC,zD,zE,zF,zG,zH,zI,rowS,ret,id_eq]
  repeat(first|refine qv rfl (qp rfl) rfl rfl ?_|refine TL_nil ?_|refine T_seq ?_|refine T_region ?_|refine T_ret ?_|refine E_then ?_|refine E_thenR ?_|refine qv rfl (rr_loadB (i := 0) TyC.ty rfl rfl rfl) rfl rfl ?_|refine qv rfl (rr_loadB (i := 1) TyC.ty rfl rfl rfl) rfl rfl ?_)
  refine TL_litN (cs := [rexC k c (.slice b l cap), rexC k' c' (.slice b' l' cap')].flatten.toArray) [rexV k c (.slice b l cap), rexV k' c' (.slice b' l' cap')] rfl rfl rfl (by intro v hv; simp only [List.mem_cons, List.not_mem_nil, or_false] at hv; rcases hv with rfl | rfl <;> rfl) rfl rfl rfl fun g10 => ?_
  conv=>arg 8;simp only[zA,zB,zC,zD,zE,zF,zG,zH,zI,rowS,ret,id_eq]
  repeat(first|refine qv rfl (qp rfl) rfl rfl ?_|refine TL_nil ?_|refine T_seq ?_|refine T_region ?_|refine T_ret ?_|refine E_then ?_|refine E_thenR ?_|refine qv rfl (rr_build rfl (build_rexN q g10 2)) rfl rfl ?_)
  refine TL_storeB (i := 2) (cs' := (rexC q C4.zero (.slice (some ⟨g10, 0, none⟩) 2 2)).toArray) rfl rfl rfl rfl rfl rfl ?_
  conv=>arg 8;simp only[zA,zB,zC,zD,zE,zF,zG,zH,zI,rowS,ret,id_eq]
  repeat(first|refine qv rfl (qp rfl) rfl rfl ?_|refine TL_nil ?_|refine T_seq ?_|refine T_region ?_|refine T_ret ?_|refine E_then ?_|refine E_thenR ?_)
  refine E_retc1 (i := 2) rfl rfl rfl rfl fun w hm => ?_
  exact hm.meets (S := twoS q (rexC k c (.slice b l cap)) (rexC k' c' (.slice b' l' cap'))) g10 trivial [3] (by decide) rfl
/-! ### what is owned -/
theorem rk_sl {F : Nat → Prop} {v : Value} {l : List Rx} {w : World} (h : (rkO F v l).holds w) : SlF rexS F w v l ∧ ∀ k, F k → k < w.heap.size := by
  obtain ⟨⟨v', hv, h1⟩, h2⟩ := h
  simp only [List.cons.injEq, and_true] at hv
  subst hv
  exact ⟨h1, h2⟩
theorem rk_rex {F : Nat → Prop} {v : Value} {r : Rx} {w : World} (hk : kit.okI64 r.kind) (h : (rkO F v r.kids).holds w) : RexR (Low w) w (rexV r.kind r.cls v) r :=
  ⟨v, rfl, hk, (rk_sl h).1.mono (rk_sl h).2⟩
theorem rk_is {F : Nat → Prop} {v : Value} {r : Rx} {w : World} (hk : kit.okI64 r.kind) (h : (rkO F v r.kids).holds w) : RexIs F w (rexC r.kind r.cls v) r := by
  obtain ⟨k, c, l⟩ := r
  exact rex_iff.2 ⟨v, rfl, hk, (rk_sl h).1⟩
theorem rk_nil (w : World) : (rkO (fun _ => False) (.slice none 0 0) []).holds w := ⟨⟨_, rfl, SlF.nil⟩, fun k h => h.elim⟩
/-- elements and their block -/
theorem rk_blk {F : Nat → Prop} {css : List (List Value)} {l : List Rx} {g : Nat} {w : World} (hc : ∀ x ∈ css, x.length = 6) (hn : l.length ≤ 100) (he : (elsO rexS F css l).holds w) (hb : (kidO g css).holds w) : (rkO (fun k => F k ∨ k = g) (.slice (some ⟨g, 0, none⟩) l.length l.length) l).holds w := by
  have hb : w.heap[g]? = some (.cells css.flatten.toArray 39 (0, 0)) := hb
  obtain ⟨⟨h1, h2⟩, h3⟩ := he
  have hg : g < w.heap.size := (Array.getElem?_eq_some_iff.1 hb).1
  refine ⟨⟨_, rfl, some ⟨g, 0, none⟩, l.length, rfl, Nat.le_refl _, by unfold maxLen; omega, fun _ => ⟨g, 0, rfl, .inr rfl, fun i hi => ⟨css[i]'(by omega), rexS.mono (h2 i hi (by omega)) fun k h => .inl h, fun j u hj => ?_⟩⟩⟩, fun k hk => hk.elim (h3 k) fun e => by rw [e]; exact hg⟩
  rw [cell_of_row w g _ _ _ _ hb, List.getElem?_toArray, Nat.zero_add]
  have hj6 : j < 6 := by
    have h5 := (List.getElem?_eq_some_iff.1 hj).1
    rw [hc _ (List.getElem_mem (by omega))] at h5; exact h5
  have := flatten_get (c := 6) css hc i j (by omega) hj6
  show css.flatten[i * 6 + j]? = some u
  rw [this]; exact hj
theorem els_two {Fa Fb : Nat → Prop} {va vb : Value} {a b : Rx} {w : World} (ka : kit.okI64 a.kind) (kb : kit.okI64 b.kind) (ha : (rkO Fa va a.kids).holds w) (hb : (rkO Fb vb b.kids).holds w) :
    (elsO rexS (fun k => Fa k ∨ Fb k) [rexC a.kind a.cls va, rexC b.kind b.cls vb] [a, b]).holds w := by
  have h1 : (elsO rexS (fun k => False ∨ Fa k) ([] ++ [rexC a.kind a.cls va]) ([] ++ [a])).holds w := els_snoc els_nil (rk_is ka ha) (rk_sl ha).2
  have h2 := els_snoc h1 (rk_is kb hb) (rk_sl hb).2
  exact ⟨⟨h2.1.1, fun i hi hi' => rexS.mono (h2.1.2 i hi hi') fun k h => h.elim (fun h => h.elim False.elim .inl) .inr⟩, fun k h => h.elim ((rk_sl ha).2 k) ((rk_sl hb).2 k)⟩
theorem els_one {Fa : Nat → Prop} {va : Value} {a : Rx} {w : World} (ka : kit.okI64 a.kind) (ha : (rkO Fa va a.kids).holds w) : (elsO rexS Fa [rexC a.kind a.cls va] [a]).holds w :=
  ⟨⟨rfl, fun i hi hi' => by
    obtain rfl : i = 0 := by simp at hi; exact hi
    exact rk_is ka ha⟩, (rk_sl ha).2⟩
section
variable {P : Program} {n : Nat} {W : Base} {fr : Fr} {L : List Own} {Q : Exit → Act → World → Prop} {ops : Array Oper} {rest : List Oper}
theorem els_foot {F : Nat → Prop} {css : List (List Value)} {l : List Rx} {k : Nat} (h : (elsO rexS F css l).foot k) : F k := h.elim (fun h => by cases h) id
theorem rk_foot {F : Nat → Prop} {v : Value} {l : List Rx} {k : Nat} (h : (rkO F v l).foot k) : F k := h.elim (fun h => by cases h) id
/-- two expressions and their new block -/
theorem TL_mk2 {i j q g : Nat} {Fa Fb : Nat → Prop} {va vb : Value} {a b : Rx} {R : List Own} (js : List Nat) (hn : ([i, j, q] ++ js).Nodup) (ka : kit.okI64 a.kind) (kb : kit.okI64 b.kind) (hi : L[i]? = some (rkO Fa va a.kids)) (hj : L[j]? = some (rkO Fb vb b.kids)) (hq : L[q]? = some (kidO g [rexC a.kind a.cls va, rexC b.kind b.cls vb])) (hR : R = js.filterMap fun i => L[i]?)
    (h : TL P n W ops Q rest fr (R ++ [rkO (fun k => (Fa k ∨ Fb k) ∨ k = g) (.slice (some ⟨g, 0, none⟩) 2 2) [a, b]])) : TL P n W ops Q rest fr L := .mk fun act w hr hm => by
  simp only [List.cons_append, List.nil_append, List.nodup_cons, List.mem_cons, not_or] at hn
  have h1 := hm.merge2 (elsO rexS (fun k => Fa k ∨ Fb k) [rexC a.kind a.cls va, rexC b.kind b.cls vb] [a, b]) i j (q :: js) (by simp only [List.cons_append, List.nil_append, List.nodup_cons, List.mem_cons, not_or]; exact ⟨⟨hn.1.1, hn.1.2.1, hn.1.2.2⟩, ⟨hn.2.1.1, hn.2.1.2⟩, hn.2.2⟩) hi hj rfl (fun k hk => (els_foot hk).elim (fun h => .inl (.inr h)) fun h => .inr (.inr h)) (fun w => els_two ka kb)
  have hl : (List.filterMap (fun i => L[i]?) (q :: js)) = kidO g [rexC a.kind a.cls va, rexC b.kind b.cls vb] :: R := by rw [List.filterMap_cons, hq, hR]
  rw [hl] at h1
  have h2 := h1.perm (show (kidO g [rexC a.kind a.cls va, rexC b.kind b.cls vb] :: R ++ [elsO rexS (fun k => Fa k ∨ Fb k) [rexC a.kind a.cls va, rexC b.kind b.cls vb] [a, b]]).Perm ([elsO rexS (fun k => Fa k ∨ Fb k) [rexC a.kind a.cls va, rexC b.kind b.cls vb] [a, b], kidO g [rexC a.kind a.cls va, rexC b.kind b.cls vb]] ++ R) from List.perm_append_comm.trans (by exact List.Perm.refl _))
  exact h.go act w hr (h2.merge _ (fun k hk => (rk_foot hk).elim (fun h => .inl (.inr h)) fun e => .inr (.inl (by rw [e]; rfl))) fun he hb => rk_blk (l := [a, b]) (by intro x hx; simp only [List.mem_cons, List.not_mem_nil, or_false] at hx; rcases hx with rfl | rfl <;> rfl) (Nat.le_of_ble_eq_true rfl) he hb)
/-- one expression and its new block -/
theorem TL_mk1 {i q g : Nat} {Fa : Nat → Prop} {va : Value} {a : Rx} {R : List Own} (js : List Nat) (hn : ([i, q] ++ js).Nodup) (ka : kit.okI64 a.kind) (hi : L[i]? = some (rkO Fa va a.kids)) (hq : L[q]? = some (kidO g [rexC a.kind a.cls va])) (hR : R = js.filterMap fun i => L[i]?)
    (h : TL P n W ops Q rest fr (R ++ [rkO (fun k => Fa k ∨ k = g) (.slice (some ⟨g, 0, none⟩) 1 1) [a]])) : TL P n W ops Q rest fr L := .mk fun act w hr hm =>
  h.go act w hr (hm.merge2 _ i q js hn hi hq hR (fun k hk => (rk_foot hk).elim (fun h => .inl (.inr h)) fun e => .inr (.inl (by rw [e]; rfl))) fun w ha hb => rk_blk (l := [a]) (by intro x hx; simp only [List.mem_cons, List.not_mem_nil, or_false] at hx; rcases hx with rfl; rfl) (Nat.le_of_ble_eq_true rfl) (els_one ka ha) hb)
end
set_option maxHeartbeats 4000000 in
theorem rexSize_calls : ∀ (N : Nat) (r : Rx), sizeX r ≤ N → ∀ (v : Value) (w : World), N ≤ 1000000000 → RexR (Low w) w v r → Calls Tryd.prog 74 #[v] w (Meets (ret (.int .i64 (sizeX r : Int))) w)
  | 0, r, h, _, _, _, _ => by have := sizeX_pos r; omega
  | N + 1, .mk k c kids, h, v, w, hN, hv => by
    have IH := rexSize_calls N
    obtain ⟨vk, rfl, _, hs⟩ := hv
    obtain ⟨bk, ck, rfl, hck, hmk, hrk⟩ := hs
    unfold maxLen at hmk
    rw [sizeX] at h ⊢
    dsimp only [Rx.kids, Rx.kind, Rx.cls] at *
    have hmem := fun {r} hr => @sizesX_mem kids r hr
    refine enter (args := [rexV k c (.slice bk kids.length ck)]) (n := 19) Tryd.func74 rfl rfl rfl ?_
    refine T_seq (T_region (TL_box rfl rfl rfl fun g1 => ?_))
    conv=>arg 8;simp only[zA,zB,zC,zD,zE,zF,zG,zH,zI,rowS,ret,id_eq]
    repeat(first|refine qv rfl (qp rfl) rfl rfl ?_|refine TL_nil ?_|refine T_seq ?_|refine T_region ?_|refine qcT rfl ?_|refine qcF rfl ?_|refine T_skip ?_|refine T_exit ?_|refine T_ret ?_|refine T_block ?_|refine E_then ?_|refine E_thenX ?_|refine E_thenR ?_|refine E_blockN ?_|refine E_blockR ?_|refine E_blockX ?_|refine E_blockO rfl ?_|refine qv rfl (rr_load1 (v := .slice bk kids.length ck) TyC.ty rfl (at_blk (i := 0) rfl rfl)) rfl rfl ?_|refine qv rfl (qlen Und.eq rfl) rfl rfl ?_|refine qv rfl (qfld FldC.fld rfl rfl) rfl rfl ?_|refine qv rfl (rr_lss rfl rfl (qT (by omega))) rfl rfl ?_|refine qv rfl (rr_lss rfl rfl (qF (by omega))) rfl rfl ?_|refine qv rfl (rr_add64 rfl rfl (by omega) (by omega) rfl) rfl rfl ?_)
    refine T_pick [] (by decide) rfl ?_
    refine T_loop (ι := Nat × Nat) (fun (j, a) => j ≤ kids.length ∧ a + sizesX (kids.drop j) = sizesX kids + 1) (fun (j, a) => [(3, .int .i64 (a : Int)), (7, .slice bk kids.length ck), (8, .int .i64 kids.length), (9, .int .i64 (j : Int))]) (fun _ => []) (fun (j, _) => kids.length - j) (0, 1) ⟨Nat.zero_le _, by rw [List.drop_zero]; omega⟩ (by repeat' (first | exact True.intro | refine And.intro rfl ?_)) rfl ?_
    rintro ⟨j, a⟩ ⟨i1, i2⟩
    dsimp only at i1 i2 ⊢
    by_cases c1 : j < kids.length
    · obtain ⟨b, off, rfl, _, hr⟩ := hrk (by omega)
      obtain ⟨bj, cj, hrd, hkr⟩ := rkid_at hr c1
      have hat := fun (L : List Own) j v hj => at_oldR (W := w) (L := L) (Old.self w) hrd j v hj
      have hm0 := hmem (List.getElem_mem c1)
      rw [List.drop_eq_getElem_cons c1, sizesX] at i2
      generalize kids[j] = r at *
      have IHr := fun w' (hg : Gr w w') => IH r (by omega) _ w' (by omega) (hkr.gr hg)
      repeat(first|refine qv rfl (qp rfl) rfl rfl ?_|refine TL_nil ?_|refine T_seq ?_|refine T_region ?_|refine qcT rfl ?_|refine qcF rfl ?_|refine T_skip ?_|refine T_exit ?_|refine T_ret ?_|refine T_block ?_|refine E_then ?_|refine E_thenX ?_|refine E_thenR ?_|refine E_blockN ?_|refine E_blockR ?_|refine E_blockX ?_|refine E_blockO rfl ?_|refine qv rfl (rr_idxc (j := j) Und.eq TyC.ty rfl rfl c1) rfl rfl ?_|refine qv rfl (rr_loadN TyC.ty rfl rfl (hat _)) rfl rfl ?_|refine qv rfl (qlen Und.eq rfl) rfl rfl ?_|refine qv rfl (qfld FldC.fld rfl rfl) rfl rfl ?_|refine qv rfl (rr_lss rfl rfl (qT (by omega))) rfl rfl ?_|refine qv rfl (rr_lss rfl rfl (qF (by omega))) rfl rfl ?_|refine qv rfl (rr_add64 rfl rfl (by omega) (by omega) rfl) rfl rfl ?_)
      refine TL_new rfl fun g5 => ?_
      conv=>arg 8;simp only[zA,zB,zC,zD,zE,zF,zG,zH,zI,rowS,ret,id_eq]
      refine TL_storeB (i := 0) (cs' := (rexC r.kind r.cls (.slice bj r.kids.length cj)).toArray) rfl rfl rfl rfl rfl rfl ?_
      conv=>arg 8;simp only[zA,zB,zC,zD,zE,zF,zG,zH,zI,rowS,ret,id_eq]
      repeat(first|refine qv rfl (qp rfl) rfl rfl ?_|refine TL_nil ?_|refine T_seq ?_|refine T_region ?_|refine qcT rfl ?_|refine qcF rfl ?_|refine T_skip ?_|refine T_exit ?_|refine T_ret ?_|refine T_block ?_|refine E_then ?_|refine E_thenX ?_|refine E_thenR ?_|refine E_blockN ?_|refine E_blockR ?_|refine E_blockX ?_|refine E_blockO rfl ?_|refine qv rfl (rr_loadB (i := 0) TyC.ty rfl rfl rfl) rfl rfl ?_|refine qv rfl (qlen Und.eq rfl) rfl rfl ?_|refine qv rfl (qfld FldC.fld rfl rfl) rfl rfl ?_|refine qv rfl (rr_lss rfl rfl (qT (by omega))) rfl rfl ?_|refine qv rfl (rr_lss rfl rfl (qF (by omega))) rfl rfl ?_|refine qv rfl (rr_add64 rfl rfl (by omega) (by omega) rfl) rfl rfl ?_)
      refine TL_call (he1 EntersC.en rfl rfl) (fun w hm => IHr _ hm.below) rfl rfl rfl ?_
      intro _ _
      conv=>arg 8;simp only[zA,zB,zC,zD,zE,zF,zG,zH,zI,rowS,ret,id_eq]
      repeat(first|refine qv rfl (qp rfl) rfl rfl ?_|refine TL_nil ?_|refine T_seq ?_|refine T_region ?_|refine qcT rfl ?_|refine qcF rfl ?_|refine T_skip ?_|refine T_exit ?_|refine T_ret ?_|refine T_block ?_|refine E_then ?_|refine E_thenX ?_|refine E_thenR ?_|refine E_blockN ?_|refine E_blockR ?_|refine E_blockX ?_|refine E_blockO rfl ?_|refine qv rfl (rr_add64 (r := ((a + sizeX r : Nat) : Int)) rfl rfl (by omega) (by omega) (by omega)) rfl rfl ?_|refine qv rfl (qlen Und.eq rfl) rfl rfl ?_|refine qv rfl (qfld FldC.fld rfl rfl) rfl rfl ?_|refine qv rfl (rr_lss rfl rfl (qT (by omega))) rfl rfl ?_|refine qv rfl (rr_lss rfl rfl (qF (by omega))) rfl rfl ?_|refine qv rfl (rr_add64 rfl rfl (by omega) (by omega) rfl) rfl rfl ?_)
      refine E_pick [] (by decide) rfl ?_
      exact E_round (j + 1, a + sizeX r) ⟨by omega, (by show a + sizeX r + sizesX (kids.drop (j + 1)) = sizesX kids + 1; omega)⟩ (by show kids.length - (j + 1) < kids.length - j; omega) (by repeat' (first | exact True.intro | refine And.intro rfl ?_)) rfl
    · rw [List.drop_of_length_le (by omega), sizesX] at i2
      obtain rfl : a = sizesX kids + 1 := by omega
      repeat(first|refine qv rfl (qp rfl) rfl rfl ?_|refine TL_nil ?_|refine T_seq ?_|refine T_region ?_|refine qcT rfl ?_|refine qcF rfl ?_|refine T_skip ?_|refine T_exit ?_|refine T_ret ?_|refine T_block ?_|refine E_then ?_|refine E_thenX ?_|refine E_thenR ?_|refine E_blockN ?_|refine E_blockR ?_|refine E_blockX ?_|refine E_blockO rfl ?_|refine qv rfl (qlen Und.eq rfl) rfl rfl ?_|refine qv rfl (qfld FldC.fld rfl rfl) rfl rfl ?_|refine qv rfl (rr_lss rfl rfl (qT (by omega))) rfl rfl ?_|refine qv rfl (rr_lss rfl rfl (qF (by omega))) rfl rfl ?_|refine qv rfl (rr_add64 rfl rfl (by omega) (by omega) rfl) rfl rfl ?_)
      exact E_ret1 rfl rfl fun w hm => hm.ret
end Go.Proofs.YtakiohldgcifeaaDoor.eng


