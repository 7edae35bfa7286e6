/- Part 3 of what ClimbSoon needs: ClimbA, TdS, SymS, Gram, MixX, TreeS, FactsA, FactsB, FactsC. -/
import Derived.Test.YtkkiopmdcolobaaMgB
import Derived.WalkKit
import Derived.WalkSpells
import Derived.WalkLawsBesides
import Derived.Deep.RegionLaw
import Derived.Deep.AppendLies
import Derived.Deep.QuietTactic
import Derived.BigQuiet
import Derived.Deep.DeepCutAuto
import Derived.Lib.Hide
import Derived.Test.YtkkiopmdcolobaaRows
import Derived.ProofKit
import Derived.OpenShut
import Derived.ShutString
import Derived.SizedLaws
import Derived.JoinedCond
import Derived.Deep.CondSized
import Derived.Deep.Quiet
import Derived.StillTail
import Derived.Deep.LoopGhost
import Derived.Laws.BitsLemmas
import Derived.Laws.BytesString
import Derived.Test.YtkkiopmdcolobaaProg
import Derived.Laws.StructEq
import Derived.Laws.MakeOwn
import Derived.Laws.AppendOwn
import Derived.Laws.Entries
import Derived.Maps.OwnSet
import Derived.DeepKeys4
import Derived.WideKeyEntry
/- ClimbA -/
namespace Go.Proofs.Ytkkiopmdcolobaa.eng
open Go.RowKit kit mix gramL treeL climbL
attribute [local irreducible] Instr.build in
theorem act_calls (gw : Nat) (t n : Int) (vp vt vo : Value) (out : List Sym) (acts : Nat) (kd m : Int) (w : World) (B : Base) (h1 : out.length ≤ 100000) (h2 : acts ≤ 100000) (hm : Mem B [cwO gw t n vp vt vo acts, evO vo out] w) :
    Calls Try.prog 33 #[.pointer (some ⟨gw, 0, none⟩), .int .i64 kd, .int .i64 m] w (MeetsB ⟨fun (_ : Value) => True, fun _ => .bool (decide (((acts + 1 : Nat) : Int) ≤ 2000)), fun vo' => [cwO gw t n vp vt vo' (acts + 1), evO vo' (out ++ [(kd, m)])]⟩ B) := by
  refine enterB hm (args := [.pointer (some ⟨gw, 0, none⟩), .int .i64 kd, .int .i64 m]) (n := 31) Try.func33 rfl rfl rfl ?_
  refine T_slv (i := 1) rfl fun hv1 hv2 => ?_
  repeat (first
    | refine qv rfl (qp rfl) rfl rfl ?_ | refine TL_nil ?_ | refine T_seq ?_ | refine T_region ?_ | refine T_ret ?_ | refine E_then ?_ | refine E_thenR ?_
    | refine qv rfl (rr_load1 TyC.ty rfl (at_blk (i := 0) rfl rfl)) rfl rfl ?_
    | refine qv rfl (rr_add64 (r := ((acts + 1 : Nat) : Int)) rfl rfl (by omega) (by omega) (by omega)) rfl rfl ?_
    | refine qv rfl (qfld FldC.fld rfl rfl) rfl rfl ?_ | refine qv rfl (rr_nilc rfl) rfl rfl ?_ | refine qv rfl (rr_leq rfl rfl (qT (by omega))) rfl rfl ?_
    | refine qv rfl (rr_leq rfl rfl (qF (by omega))) rfl rfl ?_ | refine qv rfl (rr_add64 rfl rfl (by omega) (by omega) rfl) rfl rfl ?_)
  refine TL_store1 (i := 0) rfl rfl rfl rfl rfl rfl ?_
  rw [show (cwV t n vp vt vo acts).setIfInBounds (0 + 5) (.int .i64 ((acts + 1 : Nat) : Int)) = cwV t n vp vt vo (acts + 1) from rfl]
  conv => arg 8; simp only [zA, zB, zC, zD, zE, zF, zG, zH, zI, rowS, ret, id_eq]
  repeat (first
    | refine qv rfl (qp rfl) rfl rfl ?_ | refine TL_nil ?_ | refine T_seq ?_ | refine T_region ?_ | refine T_ret ?_ | refine E_then ?_ | refine E_thenR ?_
    | refine qv rfl (rr_load1 TyC.ty rfl (at_blk (i := 0) rfl rfl)) rfl rfl ?_ | refine qv rfl (rr_build rfl (build_evn _ _)) rfl rfl ?_
    | refine qv rfl (qfld FldC.fld rfl rfl) rfl rfl ?_ | refine qv rfl (rr_nilc rfl) rfl rfl ?_ | refine qv rfl (rr_leq rfl rfl (qT (by omega))) rfl rfl ?_
    | refine qv rfl (rr_leq rfl rfl (qF (by omega))) rfl rfl ?_ | refine qv rfl (rr_add64 rfl rfl (by omega) (by omega) rfl) rfl rfl ?_)
  refine TL_pushN (i := 1) rfl rfl rfl rfl rfl rfl rfl (fun z h => by cases h; rfl) (by omega) (by omega) rfl fun z' v' => ?_
  conv => arg 8; simp only [zA, zB, zC, zD, zE, zF, zG, zH, zI, rowS, ret, id_eq]
  refine TL_slv (i := 1) rfl fun hv1 hv2 => ?_
  repeat (first
    | refine qv rfl (qp rfl) rfl rfl ?_ | refine TL_nil ?_ | refine T_seq ?_ | refine T_region ?_ | refine T_ret ?_ | refine E_then ?_ | refine E_thenR ?_
    | refine qv rfl (qfld FldC.fld rfl rfl) rfl rfl ?_ | refine qv rfl (rr_nilc rfl) rfl rfl ?_ | refine qv rfl (rr_leq rfl rfl (qT (by omega))) rfl rfl ?_
    | refine qv rfl (rr_leq rfl rfl (qF (by omega))) rfl rfl ?_ | refine qv rfl (rr_add64 rfl rfl (by omega) (by omega) rfl) rfl rfl ?_)
  refine TL_store1 (i := 0) rfl rfl rfl hv1 hv2 rfl ?_
  rw [show (cwV t n vp vt vo (acts + 1)).setIfInBounds (0 + 4) v' = cwV t n vp vt v' (acts + 1) from rfl]
  conv => arg 8; simp only [zA, zB, zC, zD, zE, zF, zG, zH, zI, rowS, ret, id_eq]
  repeat (first
    | refine qv rfl (qp rfl) rfl rfl ?_ | refine TL_nil ?_ | refine T_seq ?_ | refine T_region ?_ | refine T_ret ?_ | refine E_then ?_ | refine E_thenR ?_
    | refine qv rfl (rr_load1 (v := .int .i64 ((acts + 1 : Nat) : Int)) TyC.ty rfl (at_blk (i := 0) rfl rfl)) rfl rfl ?_
    | refine qv rfl (rr_leq rfl rfl rfl) rfl rfl ?_ | refine qv rfl (qfld FldC.fld rfl rfl) rfl rfl ?_ | refine qv rfl (rr_nilc rfl) rfl rfl ?_
    | refine qv rfl (rr_leq rfl rfl (qT (by omega))) rfl rfl ?_ | refine qv rfl (rr_leq rfl rfl (qF (by omega))) rfl rfl ?_
    | refine qv rfl (rr_add64 rfl rfl (by omega) (by omega) rfl) rfl rfl ?_)
  exact E_ret1 rfl rfl fun w hm => hm.meetsB (S := ⟨fun (_ : Value) => True, fun _ => .bool (decide (((acts + 1 : Nat) : Int) ≤ 2000)), fun vo' => [cwO gw t n vp vt vo' (acts + 1), evO vo' (out ++ [(kd, m)])]⟩) v' trivial [0, 1] (by decide) (by simp [cwO, evO])
theorem td_at {B : Base} {L : List Own} {i g cap : Nat} {d : TD} {r : List TD} (hi : L[i]? = some (tdO (.slice (some ⟨g, 0, none⟩) (r.length + 1) cap) (d :: r))) (j : Nat) (u : Value) (hu : (tdC d)[j]? = some u) : At B L ⟨g, 0 + r.length * 4 + j, none⟩ u :=
  at_rowel tdC_len hi (k := r.length) (by simp) j u (by simpa using hu)
theorem td_less {d : TD} {r : List TD} {g cap : Nat} {w : World} (h : (tdO (.slice (some ⟨g, 0, none⟩) (r.length + 1) cap) (d :: r)).holds w) : (tdO (.slice (some ⟨g, 0, none⟩) r.length cap) r).holds w := by
  obtain ⟨h1, h2⟩ := h
  refine ⟨by rw [len_el tdC_len]; simp, ?_⟩
  rcases h2 with ⟨h2, _⟩ | ⟨g', cap', cur, e, h3, h4, h5, h6, h7, h8⟩
  · cases h2
  · cases e
    refine .inr ⟨g, cap, cur, rfl, h3, h4, by simp at h5; omega, h6, h7, ?_⟩
    have : (cur.toList.take ((d :: r).length * 4)).take (r.length * 4) = ((d :: r).reverse.flatMap tdC).take (r.length * 4) := by rw [h8]
    rw [List.take_take, Nat.min_eq_left (by simp; omega), List.reverse_cons, List.flatMap_append, List.take_left' (by rw [len_el tdC_len]; simp)] at this
    exact this
attribute [local irreducible] Instr.build in
theorem pop_calls (gw : Nat) (t n : Int) (vp vt vo : Value) (d : TD) (r : List TD) (acts : Nat) (w : World) (B : Base) (h1 : r.length ≤ 100000) (hm : Mem B [cwO gw t n vp vt vo acts, tdO vt (d :: r)] w) :
    Calls Try.prog 32 #[.pointer (some ⟨gw, 0, none⟩)] w (MeetsB ⟨fun (_ : Value) => True, fun _ => tdV d, fun vt' => [cwO gw t n vp vt' vo acts, tdO vt' r]⟩ B) := by
  refine enterB hm (args := [.pointer (some ⟨gw, 0, none⟩)]) (n := 31) Try.func32 rfl rfl rfl ?_
  refine T_rowN (i := 1) rfl (by simp) fun g cap hv q1 q2 => ?_
  subst hv
  simp only [List.length_cons] at *
  refine T_seq (T_region (TL_new rfl fun g2 => ?_))
  conv => arg 8; simp only [zA, zB, zC, zD, zE, zF, zG, zH, zI, rowS, ret, id_eq]
  repeat (first
    | refine qv rfl (qp rfl) rfl rfl ?_ | refine TL_nil ?_ | refine T_seq ?_ | refine T_region ?_ | refine T_ret ?_ | refine E_then ?_ | refine E_thenR ?_
    | refine qv rfl (qlen Und.eq rfl) rfl rfl ?_ | refine qv rfl (qfld FldC.fld rfl rfl) rfl rfl ?_ | refine qv rfl (rr_nilc rfl) rfl rfl ?_
    | refine qv rfl (rr_sub64 rfl rfl (by omega) (by omega) rfl) rfl rfl ?_)
  refine T_ord ([cwO gw t n vp (.slice (some ⟨g, 0, none⟩) (r.length + 1) cap) vo acts, tdO (.slice (some ⟨g, 0, none⟩) (r.length + 1) cap) (d :: r)]) (.calm 0 (.calm 1 (.calm 2 (.calm 3 (.calm 4 (.calm 5 (.calm 6 (.calm 7 (.calm 8 (.calm 9 (.calm 10 (.calm 11 (.one 12 (.one 13 (.done))))))))))))))) (sub_pick [0, 1] (by decide) rfl) (by kernel_rfl) (by kernel_rfl) (by intro c a d v w h; cases d <;> exact h) ?_
  repeat (first
    | ((first | refine TW_plain rfl rfl ?_ | refine TW_gmet rfl rfl rfl rfl ?_); first | refine TN_val (qp rfl) rfl rfl ?_ | refine TN_val (rr_load1 (v := .slice (some ⟨g, 0, none⟩) (r.length + 1) cap) TyC.ty rfl (at_blk (i := 0) rfl rfl)) rfl rfl ?_ | refine TN_val (rr_sub64 (r := (r.length : Int)) rfl rfl (by omega) (by omega) (by omega)) rfl rfl ?_ | refine TN_val (rr_idxc (j := r.length) Und.eq TyC.ty rfl rfl (by omega)) rfl rfl ?_ | refine TN_val (rr_loadN TyC.ty rfl rfl (td_at (i := 1) rfl)) rfl rfl ?_ | refine TN_val (qlen Und.eq rfl) rfl rfl ?_ | refine TN_val (qfld FldC.fld rfl rfl) rfl rfl ?_ | refine TN_val (rr_nilc rfl) rfl rfl ?_ | refine TN_val (rr_sub64 rfl rfl (by omega) (by omega) rfl) rfl rfl ?_)
    | refine TW_done ?_)
  refine TW_one rfl (TL_new rfl fun g3 => ?_)
  refine TW_on (sub_pick [0, 1] (by decide) rfl) ?_
  refine TW_one rfl (TL_storeB (i := 3) (cs' := (tdC d).toArray) rfl rfl rfl rfl rfl rfl (TW_on (sub_pick [0, 1] (by decide) rfl) ?_))
  repeat (first
    | ((first | refine TW_plain rfl rfl ?_ | refine TW_gmet rfl rfl rfl rfl ?_); first | refine TN_val (qp rfl) rfl rfl ?_ | refine TN_val (qlen Und.eq rfl) rfl rfl ?_ | refine TN_val (qfld FldC.fld rfl rfl) rfl rfl ?_ | refine TN_val (rr_nilc rfl) rfl rfl ?_ | refine TN_val (rr_sub64 rfl rfl (by omega) (by omega) rfl) rfl rfl ?_)
    | refine TW_done ?_)
  repeat (first
    | refine qv rfl (qp rfl) rfl rfl ?_ | refine TL_nil ?_ | refine T_seq ?_ | refine T_region ?_ | refine T_ret ?_ | refine E_then ?_ | refine E_thenR ?_
    | refine qv rfl (qlen Und.eq rfl) rfl rfl ?_ | refine qv rfl (qfld FldC.fld rfl rfl) rfl rfl ?_ | refine qv rfl (rr_nilc rfl) rfl rfl ?_
    | refine qv rfl (rr_sub64 rfl rfl (by omega) (by omega) rfl) rfl rfl ?_)
  refine T_ord ([]) (.calm 0 (.calm 1 (.calm 2 (.calm 3 (.calm 5 (.calm 6 (.calm 7 (.two 4 (.one 8 (.calm 9 (.calm 10 (.calm 11 (.calm 12 (.calm 13 (.one 14 (.done)))))))) 8 (.calm 9 (.calm 10 (.one 4 (.calm 11 (.calm 12 (.calm 13 (.one 14 (.done)))))))))))))))) (sub_pick [] (by decide) rfl) (by kernel_rfl) (by kernel_rfl) (by intro c a d v w h; cases d <;> exact h) ?_
  repeat (first
    | ((first | refine TW_plain rfl rfl ?_ | refine TW_gmet rfl rfl rfl rfl ?_); first | refine TN_val (qp rfl) rfl rfl ?_ | refine TN_val (qlen Und.eq rfl) rfl rfl ?_ | refine TN_val (qfld FldC.fld rfl rfl) rfl rfl ?_ | refine TN_val (rr_nilc rfl) rfl rfl ?_ | refine TN_val (rr_sub64 rfl rfl (by omega) (by omega) rfl) rfl rfl ?_)
    | refine TW_done ?_)
  refine TW_two rfl rfl ?_ ?_
  · refine TL_val (rr_load1 (v := .slice (some ⟨g, 0, none⟩) (r.length + 1) cap) TyC.ty rfl (at_blk (i := 0) rfl rfl)) rfl rfl rfl (TW_on (sub_pick [] (by decide) rfl) ?_)
    refine TW_one rfl (TL_val (rr_load1 (v := .slice (some ⟨g, 0, none⟩) (r.length + 1) cap) TyC.ty rfl (at_blk (i := 0) rfl rfl)) rfl rfl rfl (TW_on (sub_pick [] (by decide) rfl) ?_))
    repeat (first
      | ((first | refine TW_plain rfl rfl ?_ | refine TW_gmet rfl rfl rfl rfl ?_); first | refine TN_val (qp rfl) rfl rfl ?_ | refine TN_val (rr_sub64 (r := (r.length : Int)) rfl rfl (by omega) (by omega) (by omega)) rfl rfl ?_ | refine TN_val (rr_slpre (j := r.length) Und.eq TyC.ty rfl rfl (by omega)) rfl rfl ?_ | refine TN_val (qlen Und.eq rfl) rfl rfl ?_ | refine TN_val (qfld FldC.fld rfl rfl) rfl rfl ?_ | refine TN_val (rr_nilc rfl) rfl rfl ?_ | refine TN_val (rr_sub64 rfl rfl (by omega) (by omega) rfl) rfl rfl ?_)
      | refine TW_done ?_)
    refine TW_one rfl (TL_store1 (i := 0) rfl rfl rfl rfl rfl rfl (TW_on (sub_pick [] (by decide) rfl) ?_))
    rw [show (cwV t n vp (.slice (some ⟨g, 0, none⟩) (r.length + 1) cap) vo acts).setIfInBounds (0 + 3) (.slice (some ⟨g, 0, none⟩) r.length cap) = cwV t n vp (.slice (some ⟨g, 0, none⟩) r.length cap) vo acts from rfl]
    repeat (first
      | ((first | refine TW_plain rfl rfl ?_ | refine TW_gmet rfl rfl rfl rfl ?_); first | refine TN_val (qp rfl) rfl rfl ?_ | refine TN_val (qlen Und.eq rfl) rfl rfl ?_ | refine TN_val (qfld FldC.fld rfl rfl) rfl rfl ?_ | refine TN_val (rr_nilc rfl) rfl rfl ?_ | refine TN_val (rr_sub64 rfl rfl (by omega) (by omega) rfl) rfl rfl ?_)
      | refine TW_done ?_)
    repeat (first
      | refine qv rfl (qp rfl) rfl rfl ?_ | refine TL_nil ?_ | refine T_seq ?_ | refine T_region ?_ | refine T_ret ?_ | refine E_then ?_ | refine E_thenR ?_
      | refine qv rfl (rr_loadB (i := 3) TyC.ty rfl rfl rfl) rfl rfl ?_ | refine qv rfl (qlen Und.eq rfl) rfl rfl ?_
      | refine qv rfl (qfld FldC.fld rfl rfl) rfl rfl ?_ | refine qv rfl (rr_nilc rfl) rfl rfl ?_
      | refine qv rfl (rr_sub64 rfl rfl (by omega) (by omega) rfl) rfl rfl ?_)
    refine TL_storeB (i := 2) (cs' := (tdC d).toArray) rfl rfl rfl rfl rfl rfl ?_
    conv => arg 8; simp only [zA, zB, zC, zD, zE, zF, zG, zH, zI, rowS, ret, id_eq]
    repeat (first
      | refine qv rfl (qp rfl) rfl rfl ?_ | refine TL_nil ?_ | refine T_seq ?_ | refine T_region ?_ | refine T_ret ?_ | refine E_then ?_ | refine E_thenR ?_
      | refine qv rfl (qlen Und.eq rfl) rfl rfl ?_ | refine qv rfl (qfld FldC.fld rfl rfl) rfl rfl ?_ | refine qv rfl (rr_nilc rfl) rfl rfl ?_
      | refine qv rfl (rr_sub64 rfl rfl (by omega) (by omega) rfl) rfl rfl ?_)
    refine E_reown (i := 1) (tdO (.slice (some ⟨g, 0, none⟩) r.length cap) r) rfl (fun w h => td_less h) (fun k hk => hk) ?_
    exact E_retc1 (i := 2) rfl rfl rfl rfl fun w hm => hm.meetsB (S := ⟨fun (_ : Value) => True, fun _ => tdV d, fun vt' => [cwO gw t n vp vt' vo acts, tdO vt' r]⟩) (.slice (some ⟨g, 0, none⟩) r.length cap) trivial [0, 1] (by decide) rfl
  · refine TL_val (rr_load1 (v := .slice (some ⟨g, 0, none⟩) (r.length + 1) cap) TyC.ty rfl (at_blk (i := 0) rfl rfl)) rfl rfl rfl (TW_on (sub_pick [] (by decide) rfl) ?_)
    repeat (first
      | ((first | refine TW_plain rfl rfl ?_ | refine TW_gmet rfl rfl rfl rfl ?_); first | refine TN_val (qp rfl) rfl rfl ?_ | refine TN_val (rr_sub64 (r := (r.length : Int)) rfl rfl (by omega) (by omega) (by omega)) rfl rfl ?_ | refine TN_val (qlen Und.eq rfl) rfl rfl ?_ | refine TN_val (qfld FldC.fld rfl rfl) rfl rfl ?_ | refine TN_val (rr_nilc rfl) rfl rfl ?_ | refine TN_val (rr_sub64 rfl rfl (by omega) (by omega) rfl) rfl rfl ?_)
      | refine TW_done ?_)
    refine TW_one rfl (TL_val (rr_load1 (v := .slice (some ⟨g, 0, none⟩) (r.length + 1) cap) TyC.ty rfl (at_blk (i := 0) rfl rfl)) rfl rfl rfl (TW_on (sub_pick [] (by decide) rfl) ?_))
    repeat (first
      | ((first | refine TW_plain rfl rfl ?_ | refine TW_gmet rfl rfl rfl rfl ?_); first | refine TN_val (qp rfl) rfl rfl ?_ | refine TN_val (rr_slpre (j := r.length) Und.eq TyC.ty rfl rfl (by omega)) rfl rfl ?_ | refine TN_val (qlen Und.eq rfl) rfl rfl ?_ | refine TN_val (qfld FldC.fld rfl rfl) rfl rfl ?_ | refine TN_val (rr_nilc rfl) rfl rfl ?_ | refine TN_val (rr_sub64 rfl rfl (by omega) (by omega) rfl) rfl rfl ?_)
      | refine TW_done ?_)
    refine TW_one rfl (TL_store1 (i := 0) rfl rfl rfl rfl rfl rfl (TW_on (sub_pick [] (by decide) rfl) ?_))
    rw [show (cwV t n vp (.slice (some ⟨g, 0, none⟩) (r.length + 1) cap) vo acts).setIfInBounds (0 + 3) (.slice (some ⟨g, 0, none⟩) r.length cap) = cwV t n vp (.slice (some ⟨g, 0, none⟩) r.length cap) vo acts from rfl]
    repeat (first
      | ((first | refine TW_plain rfl rfl ?_ | refine TW_gmet rfl rfl rfl rfl ?_); first | refine TN_val (qp rfl) rfl rfl ?_ | refine TN_val (qlen Und.eq rfl) rfl rfl ?_ | refine TN_val (qfld FldC.fld rfl rfl) rfl rfl ?_ | refine TN_val (rr_nilc rfl) rfl rfl ?_ | refine TN_val (rr_sub64 rfl rfl (by omega) (by omega) rfl) rfl rfl ?_)
      | refine TW_done ?_)
    repeat (first
      | refine qv rfl (qp rfl) rfl rfl ?_ | refine TL_nil ?_ | refine T_seq ?_ | refine T_region ?_ | refine T_ret ?_ | refine E_then ?_ | refine E_thenR ?_
      | refine qv rfl (rr_loadB (i := 3) TyC.ty rfl rfl rfl) rfl rfl ?_ | refine qv rfl (qlen Und.eq rfl) rfl rfl ?_
      | refine qv rfl (qfld FldC.fld rfl rfl) rfl rfl ?_ | refine qv rfl (rr_nilc rfl) rfl rfl ?_
      | refine qv rfl (rr_sub64 rfl rfl (by omega) (by omega) rfl) rfl rfl ?_)
    refine TL_storeB (i := 2) (cs' := (tdC d).toArray) rfl rfl rfl rfl rfl rfl ?_
    conv => arg 8; simp only [zA, zB, zC, zD, zE, zF, zG, zH, zI, rowS, ret, id_eq]
    repeat (first
      | refine qv rfl (qp rfl) rfl rfl ?_ | refine TL_nil ?_ | refine T_seq ?_ | refine T_region ?_ | refine T_ret ?_ | refine E_then ?_ | refine E_thenR ?_
      | refine qv rfl (qlen Und.eq rfl) rfl rfl ?_ | refine qv rfl (qfld FldC.fld rfl rfl) rfl rfl ?_ | refine qv rfl (rr_nilc rfl) rfl rfl ?_
      | refine qv rfl (rr_sub64 rfl rfl (by omega) (by omega) rfl) rfl rfl ?_)
    refine E_reown (i := 1) (tdO (.slice (some ⟨g, 0, none⟩) r.length cap) r) rfl (fun w h => td_less h) (fun k hk => hk) ?_
    exact E_retc1 (i := 2) rfl rfl rfl rfl fun w hm => hm.meetsB (S := ⟨fun (_ : Value) => True, fun _ => tdV d, fun vt' => [cwO gw t n vp vt' vo acts, tdO vt' r]⟩) (.slice (some ⟨g, 0, none⟩) r.length cap) trivial [0, 1] (by decide) rfl
theorem closes_nil (out : List Sym) (a : Nat) : closesF [] out a = ([], out, a, true) := rfl
theorem closes_sym (x : Sym) (r : List TD) (out : List Sym) (a : Nat) : closesF (.sym x :: r) out a = (.sym x :: r, out, a, true) := rfl
theorem closes_yes (p : Int) (r : List TD) (out : List Sym) {a : Nat} (h : a + 1 ≤ 2000) : closesF (.close p :: r) out a = closesF r (out ++ [(3, p)]) (a + 1) := by rw [closesF, if_pos h]
theorem closes_no (p : Int) (r : List TD) (out : List Sym) {a : Nat} (h : ¬ a + 1 ≤ 2000) : closesF (.close p :: r) out a = (r, out ++ [(3, p)], a + 1, false) := by rw [closesF, if_neg h]
def clS (gw : Nat) (t n : Int) (vp : Value) (c : List TD × List Sym × Nat × Bool) : Spec (Value × Value) := ⟨fun _ => True, fun _ => .bool c.2.2.2, fun x => [cwO gw t n vp x.1 x.2 c.2.2.1, tdO x.1 c.1, evO x.2 c.2.1]⟩
set_option maxHeartbeats 2000000 in
theorem workCloses_calls (gw : Nat) (t n : Int) (vp vt0 vo0 : Value) (st0 : List TD) (out0 : List Sym) (acts0 : Nat) (w : World) (B : Base) (h1 : st0.length ≤ 100000) (h2 : acts0 ≤ 2000) (h3 : out0.length = acts0) (hm : Mem B [cwO gw t n vp vt0 vo0 acts0, tdO vt0 st0, evO vo0 out0] w) :
    Calls Try.prog 34 #[.pointer (some ⟨gw, 0, none⟩)] w (MeetsB (clS gw t n vp (closesF st0 out0 acts0)) B) := by
  refine enterB hm (args := [.pointer (some ⟨gw, 0, none⟩)]) (n := 30) Try.func34 rfl rfl rfl ?_
  clear hm
  repeat (first
    | refine qv rfl (qp rfl) rfl rfl ?_ | refine TL_nil ?_ | refine T_seq ?_ | refine T_region ?_ | refine qcT rfl ?_ | refine qcF rfl ?_ | refine T_skip ?_
    | refine T_exit ?_ | refine T_ret ?_ | refine T_block ?_ | refine E_then ?_ | refine E_thenX ?_ | refine E_thenR ?_ | refine E_blockN ?_
    | refine E_blockR ?_ | refine E_blockX ?_ | refine E_blockO rfl ?_ | refine qs rfl rfl rfl rfl rfl rfl ?_
    | ((try refine qg rfl rfl rfl ?_); first | refine qv rfl (qp rfl) rfl rfl ?_ | refine qv rfl (qlen Und.eq rfl) rfl rfl ?_ | refine qv rfl (qfld FldC.fld rfl rfl) rfl rfl ?_ | refine qv rfl (rr_not rfl rfl) rfl rfl ?_ | refine qv rfl (rr_nilc rfl) rfl rfl ?_ | refine qv rfl (rr_gtr rfl rfl (qT (by omega))) rfl rfl ?_ | refine qv rfl (rr_gtr rfl rfl (qF (by omega))) rfl rfl ?_ | refine qv rfl (rr_sub64 rfl rfl (by omega) (by omega) rfl) rfl rfl ?_))
  generalize hC : closesF st0 out0 acts0 = C
  refine T_loop (ι := List TD × List Sym × Nat × Value × Value) (fun (st, out, acts, _, _) => closesF st out acts = C ∧ st.length ≤ 100000 ∧ acts ≤ 2000 ∧ out.length = acts) (fun _ => [(0, .pointer (some ⟨gw, 0, none⟩))]) (fun (st, out, acts, vt, vo) => [cwO gw t n vp vt vo acts, tdO vt st, evO vo out]) (fun (st, _, _, _, _) => st.length) (st0, out0, acts0, vt0, vo0) ⟨hC, h1, h2, h3⟩ (by repeat' (first | exact True.intro | refine And.intro rfl ?_)) rfl ?_
  clear h1 h2 h3 hC
  rintro ⟨st, out, acts, vt, vo⟩ ⟨hC, h1, h2, h3⟩
  dsimp only at hC h1 h2 h3 ⊢
  cases st with
  | nil =>
    rw [closes_nil] at hC
    subst hC
    (repeat refine T_seq ?_)
    refine T_ord ([cwO gw t n vp vt vo acts, tdO vt []]) (.calm 0 (.calm 1 (.calm 2 (.calm 3 (.calm 4 (.calm 5 (.calm 6 (.calm 7 (.calm 8 (.calm 9 (.calm 10 (.calm 11 (.calm 12 (.calm 13 (.calm 14 (.calm 15 (.calm 16 (.calm 17 (.calm 18 (.calm 19 (.calm 20 (.done)))))))))))))))))))))) (sub_pick [0, 1] (by decide) rfl) (by kernel_rfl) (by kernel_rfl) (by intro c a d v w h; cases d <;> exact h) ?_
    repeat (first
      | ((first | refine TW_plain rfl rfl ?_ | refine TW_gmet rfl rfl rfl rfl ?_); first | refine TN_val (qp rfl) rfl rfl ?_ | refine TN_val (rr_load1 (v := vt) TyC.ty rfl (at_blk (i := 0) rfl rfl)) rfl rfl ?_ | refine TN_val (rr_rowlen (i := 1) Und.eq rfl rfl) rfl rfl ?_ | refine TN_val (rr_gtr (b := false) rfl rfl rfl) rfl rfl ?_ | refine TN_val (qlen Und.eq rfl) rfl rfl ?_ | refine TN_val (qfld FldC.fld rfl rfl) rfl rfl ?_ | refine TN_val (rr_not rfl rfl) rfl rfl ?_ | refine TN_val (rr_nilc rfl) rfl rfl ?_ | refine TN_val (rr_gtr rfl rfl (qT (by omega))) rfl rfl ?_ | refine TN_val (rr_gtr rfl rfl (qF (by omega))) rfl rfl ?_ | refine TN_val (rr_sub64 rfl rfl (by omega) (by omega) rfl) rfl rfl ?_)
      | refine TW_skip rfl rfl rfl rfl rfl rfl rfl ?_ | refine TW_done ?_)
    repeat (first
      | refine qv rfl (qp rfl) rfl rfl ?_ | refine TL_nil ?_ | refine T_seq ?_ | refine T_region ?_ | refine qcT rfl ?_ | refine qcF rfl ?_ | refine T_skip ?_
      | refine T_exit ?_ | refine T_ret ?_ | refine T_block ?_ | refine E_then ?_ | refine E_thenX ?_ | refine E_thenR ?_ | refine E_blockN ?_
      | refine E_blockR ?_ | refine E_blockX ?_ | refine E_blockO rfl ?_ | refine qs rfl rfl rfl rfl rfl rfl ?_
      | ((try refine qg rfl rfl rfl ?_); first | refine qv rfl (qp rfl) rfl rfl ?_ | refine qv rfl (qlen Und.eq rfl) rfl rfl ?_ | refine qv rfl (qfld FldC.fld rfl rfl) rfl rfl ?_ | refine qv rfl (rr_not rfl rfl) rfl rfl ?_ | refine qv rfl (rr_nilc rfl) rfl rfl ?_ | refine qv rfl (rr_gtr rfl rfl (qT (by omega))) rfl rfl ?_ | refine qv rfl (rr_gtr rfl rfl (qF (by omega))) rfl rfl ?_ | refine qv rfl (rr_sub64 rfl rfl (by omega) (by omega) rfl) rfl rfl ?_))
    exact E_ret1 rfl rfl fun w hm => hm.meetsB (S := clS gw t n vp ([], out, acts, true)) (vt, vo) trivial [0, 1, 2] (by decide) rfl
  | cons d r =>
    simp only [List.length_cons] at h1
    refine T_rowN (i := 1) rfl (by simp) fun g cap hv q1 q2 => ?_
    subst hv
    simp only [List.length_cons] at *
    cases d with
    | sym x =>
      rw [closes_sym] at hC
      subst hC
      (repeat refine T_seq ?_)
      refine T_ord ([cwO gw t n vp (.slice (some ⟨g, 0, none⟩) (r.length + 1) cap) vo acts, tdO (.slice (some ⟨g, 0, none⟩) (r.length + 1) cap) (.sym x :: r)]) (.calm 0 (.calm 1 (.calm 2 (.calm 3 (.calm 4 (.calm 5 (.calm 6 (.calm 7 (.calm 8 (.calm 9 (.calm 10 (.calm 11 (.calm 12 (.calm 13 (.calm 14 (.calm 15 (.calm 16 (.calm 17 (.calm 18 (.calm 19 (.calm 20 (.done)))))))))))))))))))))) (sub_pick [0, 1] (by decide) rfl) (by kernel_rfl) (by kernel_rfl) (by intro c a d v w h; cases d <;> exact h) ?_
      repeat (first
        | ((first | refine TW_plain rfl rfl ?_ | refine TW_gmet rfl rfl rfl rfl ?_); first | refine TN_val (qp rfl) rfl rfl ?_ | refine TN_val (rr_load1 (v := .slice (some ⟨g, 0, none⟩) (r.length + 1) cap) TyC.ty rfl (at_blk (i := 0) rfl rfl)) rfl rfl ?_ | refine TN_val (rr_load1 (v := .bool false) TyC.ty rfl (td_at (i := 1) rfl 0 _ rfl)) rfl rfl ?_ | refine TN_val (qlen Und.eq rfl) rfl rfl ?_ | refine TN_val (qfld FldC.fld rfl rfl) rfl rfl ?_ | refine TN_val (rr_not rfl rfl) rfl rfl ?_ | refine TN_val (rr_nilc rfl) rfl rfl ?_ | refine TN_val (rr_gtr rfl rfl (qT (by omega))) rfl rfl ?_ | refine TN_val (rr_gtr rfl rfl (qF (by omega))) rfl rfl ?_ | refine TN_val (rr_sub64 (r := (r.length : Int)) rfl rfl (by omega) (by omega) (by omega)) rfl rfl ?_ | refine TN_val (rr_idxc (j := r.length) Und.eq TyC.ty rfl rfl (by omega)) rfl rfl ?_ | refine TN_val (rr_sub64 rfl rfl (by omega) (by omega) rfl) rfl rfl ?_)
        | refine TW_skip rfl rfl rfl rfl rfl rfl rfl ?_ | refine TW_done ?_)
      repeat (first
        | refine qv rfl (qp rfl) rfl rfl ?_ | refine TL_nil ?_ | refine T_seq ?_ | refine T_region ?_ | refine qcT rfl ?_ | refine qcF rfl ?_ | refine T_skip ?_
        | refine T_exit ?_ | refine T_ret ?_ | refine T_block ?_ | refine E_then ?_ | refine E_thenX ?_ | refine E_thenR ?_ | refine E_blockN ?_
        | refine E_blockR ?_ | refine E_blockX ?_ | refine E_blockO rfl ?_ | refine qs rfl rfl rfl rfl rfl rfl ?_
        | ((try refine qg rfl rfl rfl ?_); first | refine qv rfl (qp rfl) rfl rfl ?_ | refine qv rfl (qlen Und.eq rfl) rfl rfl ?_ | refine qv rfl (qfld FldC.fld rfl rfl) rfl rfl ?_ | refine qv rfl (rr_not rfl rfl) rfl rfl ?_ | refine qv rfl (rr_nilc rfl) rfl rfl ?_ | refine qv rfl (rr_gtr rfl rfl (qT (by omega))) rfl rfl ?_ | refine qv rfl (rr_gtr rfl rfl (qF (by omega))) rfl rfl ?_ | refine qv rfl (rr_sub64 rfl rfl (by omega) (by omega) rfl) rfl rfl ?_))
      exact E_ret1 rfl rfl fun w hm => hm.meetsB (S := clS gw t n vp (.sym x :: r, out, acts, true)) (_, vo) trivial [0, 1, 2] (by decide) rfl
    | close p =>
      (repeat refine T_seq ?_)
      refine T_ord ([cwO gw t n vp (.slice (some ⟨g, 0, none⟩) (r.length + 1) cap) vo acts, tdO (.slice (some ⟨g, 0, none⟩) (r.length + 1) cap) (.close p :: r)]) (.calm 0 (.calm 1 (.calm 2 (.calm 3 (.calm 4 (.calm 5 (.calm 6 (.calm 7 (.calm 8 (.calm 9 (.calm 10 (.calm 11 (.calm 12 (.calm 13 (.calm 14 (.calm 15 (.calm 16 (.calm 17 (.calm 18 (.calm 19 (.calm 20 (.done)))))))))))))))))))))) (sub_pick [0, 1] (by decide) rfl) (by kernel_rfl) (by kernel_rfl) (by intro c a d v w h; cases d <;> exact h) ?_
      repeat (first
        | ((first | refine TW_plain rfl rfl ?_ | refine TW_gmet rfl rfl rfl rfl ?_); first | refine TN_val (qp rfl) rfl rfl ?_ | refine TN_val (rr_load1 (v := .slice (some ⟨g, 0, none⟩) (r.length + 1) cap) TyC.ty rfl (at_blk (i := 0) rfl rfl)) rfl rfl ?_ | refine TN_val (rr_load1 (v := .bool true) TyC.ty rfl (td_at (i := 1) rfl 0 _ rfl)) rfl rfl ?_ | refine TN_val (qlen Und.eq rfl) rfl rfl ?_ | refine TN_val (qfld FldC.fld rfl rfl) rfl rfl ?_ | refine TN_val (rr_not rfl rfl) rfl rfl ?_ | refine TN_val (rr_nilc rfl) rfl rfl ?_ | refine TN_val (rr_gtr rfl rfl (qT (by omega))) rfl rfl ?_ | refine TN_val (rr_gtr rfl rfl (qF (by omega))) rfl rfl ?_ | refine TN_val (rr_sub64 (r := (r.length : Int)) rfl rfl (by omega) (by omega) (by omega)) rfl rfl ?_ | refine TN_val (rr_idxc (j := r.length) Und.eq TyC.ty rfl rfl (by omega)) rfl rfl ?_ | refine TN_val (rr_sub64 rfl rfl (by omega) (by omega) rfl) rfl rfl ?_)
        | refine TW_skip rfl rfl rfl rfl rfl rfl rfl ?_ | refine TW_done ?_)
      repeat (first
        | refine qv rfl (qp rfl) rfl rfl ?_ | refine TL_nil ?_ | refine T_seq ?_ | refine T_region ?_ | refine qcT rfl ?_ | refine qcF rfl ?_ | refine T_skip ?_
        | refine T_exit ?_ | refine T_ret ?_ | refine T_block ?_ | refine E_then ?_ | refine E_thenX ?_ | refine E_thenR ?_ | refine E_blockN ?_
        | refine E_blockR ?_ | refine E_blockX ?_ | refine E_blockO rfl ?_ | refine qs rfl rfl rfl rfl rfl rfl ?_
        | ((try refine qg rfl rfl rfl ?_); first | refine qv rfl (qp rfl) rfl rfl ?_ | refine qv rfl (qlen Und.eq rfl) rfl rfl ?_ | refine qv rfl (qfld FldC.fld rfl rfl) rfl rfl ?_ | refine qv rfl (rr_not rfl rfl) rfl rfl ?_ | refine qv rfl (rr_nilc rfl) rfl rfl ?_ | refine qv rfl (rr_gtr rfl rfl (qT (by omega))) rfl rfl ?_ | refine qv rfl (rr_gtr rfl rfl (qF (by omega))) rfl rfl ?_ | refine qv rfl (rr_sub64 rfl rfl (by omega) (by omega) rfl) rfl rfl ?_))
      refine TL_callB [0, 1] [2] (by decide) rfl rfl (he1 EntersC.en rfl rfl) (fun w hm hb => pop_calls gw t n vp _ vo (.close p) r acts w _ (by omega) hb) rfl rfl rfl ?_
      intro vt' _
      conv => arg 8; simp only [zA, zB, zC, zD, zE, zF, zG, zH, zI, rowS, ret, id_eq]
      dsimp only
      repeat (first
        | refine qv rfl (qp rfl) rfl rfl ?_ | refine TL_nil ?_ | refine T_seq ?_ | refine T_region ?_ | refine qcT rfl ?_ | refine qcF rfl ?_ | refine T_skip ?_
        | refine T_exit ?_ | refine T_ret ?_ | refine T_block ?_ | refine E_then ?_ | refine E_thenX ?_ | refine E_thenR ?_ | refine E_blockN ?_
        | refine E_blockR ?_ | refine E_blockX ?_ | refine E_blockO rfl ?_ | refine qs rfl rfl rfl rfl rfl rfl ?_
        | ((try refine qg rfl rfl rfl ?_); first | refine qv rfl (qp rfl) rfl rfl ?_ | refine qv rfl (rr_vfld rfl (field_td1 (.close p))) rfl rfl ?_ | refine qv rfl (qlen Und.eq rfl) rfl rfl ?_ | refine qv rfl (qfld FldC.fld rfl rfl) rfl rfl ?_ | refine qv rfl (rr_not rfl rfl) rfl rfl ?_ | refine qv rfl (rr_nilc rfl) rfl rfl ?_ | refine qv rfl (rr_gtr rfl rfl (qT (by omega))) rfl rfl ?_ | refine qv rfl (rr_gtr rfl rfl (qF (by omega))) rfl rfl ?_ | refine qv rfl (rr_sub64 rfl rfl (by omega) (by omega) rfl) rfl rfl ?_))
      refine TL_callB [1, 0] [2] (by decide) rfl rfl (he3 EntersC.en rfl rfl rfl rfl) (fun w hm hb => act_calls gw t n vp vt' vo out acts 3 p w _ (by omega) (by omega) hb) rfl rfl rfl ?_
      intro vo' _
      conv => arg 8; simp only [zA, zB, zC, zD, zE, zF, zG, zH, zI, rowS, ret, id_eq]
      dsimp only
      by_cases c : acts + 1 ≤ 2000
      · rw [closes_yes p r out c] at hC
        rw [decide_eq_true (show ((acts + 1 : Nat) : Int) ≤ 2000 by omega)]
        repeat (first
          | refine qv rfl (qp rfl) rfl rfl ?_ | refine TL_nil ?_ | refine T_seq ?_ | refine T_region ?_ | refine qcT rfl ?_ | refine qcF rfl ?_ | refine T_skip ?_
          | refine T_exit ?_ | refine T_ret ?_ | refine T_block ?_ | refine E_then ?_ | refine E_thenX ?_ | refine E_thenR ?_ | refine E_blockN ?_
          | refine E_blockR ?_ | refine E_blockX ?_ | refine E_blockO rfl ?_ | refine qs rfl rfl rfl rfl rfl rfl ?_
          | ((try refine qg rfl rfl rfl ?_); first | refine qv rfl (qp rfl) rfl rfl ?_ | refine qv rfl (qlen Und.eq rfl) rfl rfl ?_ | refine qv rfl (qfld FldC.fld rfl rfl) rfl rfl ?_ | refine qv rfl (rr_not rfl rfl) rfl rfl ?_ | refine qv rfl (rr_nilc rfl) rfl rfl ?_ | refine qv rfl (rr_gtr rfl rfl (qT (by omega))) rfl rfl ?_ | refine qv rfl (rr_gtr rfl rfl (qF (by omega))) rfl rfl ?_ | refine qv rfl (rr_sub64 rfl rfl (by omega) (by omega) rfl) rfl rfl ?_))
        refine E_pick [1, 0, 2] (by decide) rfl ?_
        exact E_round (r, out ++ [(3, p)], acts + 1, vt', vo') ⟨hC, (by show r.length ≤ 100000; omega), c, by simp [h3]⟩ (by show r.length < r.length + 1; omega) (by repeat' (first | exact True.intro | refine And.intro rfl ?_)) rfl
      · rw [closes_no p r out c] at hC
        subst hC
        rw [decide_eq_false (show ¬ ((acts + 1 : Nat) : Int) ≤ 2000 by omega)]
        repeat (first
          | refine qv rfl (qp rfl) rfl rfl ?_ | refine TL_nil ?_ | refine T_seq ?_ | refine T_region ?_ | refine qcT rfl ?_ | refine qcF rfl ?_ | refine T_skip ?_
          | refine T_exit ?_ | refine T_ret ?_ | refine T_block ?_ | refine E_then ?_ | refine E_thenX ?_ | refine E_thenR ?_ | refine E_blockN ?_
          | refine E_blockR ?_ | refine E_blockX ?_ | refine E_blockO rfl ?_ | refine qs rfl rfl rfl rfl rfl rfl ?_
          | ((try refine qg rfl rfl rfl ?_); first | refine qv rfl (qp rfl) rfl rfl ?_ | refine qv rfl (qlen Und.eq rfl) rfl rfl ?_ | refine qv rfl (qfld FldC.fld rfl rfl) rfl rfl ?_ | refine qv rfl (rr_not rfl rfl) rfl rfl ?_ | refine qv rfl (rr_nilc rfl) rfl rfl ?_ | refine qv rfl (rr_gtr rfl rfl (qT (by omega))) rfl rfl ?_ | refine qv rfl (rr_gtr rfl rfl (qF (by omega))) rfl rfl ?_ | refine qv rfl (rr_sub64 rfl rfl (by omega) (by omega) rfl) rfl rfl ?_))
        exact E_ret1 rfl rfl fun w hm => hm.meetsB (S := clS gw t n vp (r, out ++ [(3, p)], acts + 1, false)) (vt', vo') trivial [1, 0, 2] (by decide) rfl
theorem td_push (r : List TD) (d : TD) : (r.reverse.flatMap tdC) ++ tdC d = (d :: r).reverse.flatMap tdC := by simp
/-- how far a production is opened -/
def stO (p : Nat) (r : List TD) (body : List Sym) (j : Nat) : List TD := (body.drop (body.length - j)).map .sym ++ .close (p : Int) :: r
theorem stO_0 (p : Nat) (r : List TD) (body : List Sym) : stO p r body 0 = .close (p : Int) :: r := by unfold stO; rw [Nat.sub_zero, List.drop_length]; rfl
theorem stO_end (p : Nat) (r : List TD) (body : List Sym) : stO p r body body.length = body.map .sym ++ .close (p : Int) :: r := by unfold stO; rw [Nat.sub_self, List.drop_zero]
theorem stO_step (p : Nat) (r : List TD) {body : List Sym} {k : Nat} (hk : k < body.length) : stO p r body (body.length - k) = .sym body[k] :: stO p r body (body.length - k - 1) := by
  unfold stO
  rw [show body.length - (body.length - k) = k by omega, show body.length - (body.length - k - 1) = k + 1 by omega, List.drop_eq_getElem_cons hk]; rfl
def opS (gw : Nat) (t n : Int) (vp : Value) (st : List TD) (out : List Sym) (acts : Nat) : Spec (Value × Value) := ⟨fun _ => True, fun _ => .bool (decide (acts ≤ 2000 ∧ st.length ≤ 60)), fun x => [cwO gw t n vp x.1 x.2 acts, tdO x.1 st, evO x.2 out]⟩
set_option maxHeartbeats 2000000 in
attribute [local irreducible] Instr.build in
theorem open_calls (w0 : World) (gw : Nat) (t n : Int) (vp : Value) (prods : List gramL.Prod) (hG : SlF prodS (fun k => k < w0.heap.size) w0 vp prods) (hlen : prods.length ≤ 100000) (p : Nat) (hp : p < prods.length) (h8 : prods[p].2.length ≤ 8) (vt vo : Value) (d : TD) (r : List TD) (out : List Sym) (acts : Nat) (w : World) (B : Base) (h1 : r.length ≤ 100) (h2 : acts ≤ 2000) (h3 : out.length = acts) (ho : Old w0 B) (hm : Mem B [cwO gw t n vp vt vo acts, tdO vt (d :: r), evO vo out] w) :
    Calls Try.prog 57 #[.pointer (some ⟨gw, 0, none⟩), .int .i64 (p : Int)] w (MeetsB (opS gw t n vp (opened prods p r) (out ++ [(1, (p : Int))]) (acts + 1)) B) := by
  obtain ⟨bp, cp, rfl, hcp, hmp, hrp⟩ := hG
  unfold maxLen at hmp
  obtain ⟨b, off, rfl, _, hr⟩ := hrp (by omega)
  obtain ⟨bb, cb, y1, y2, y3⟩ := prod_at hr hp
  have hopen : opened prods (p : Int) r = prods[p].2.map .sym ++ .close (p : Int) :: r := by unfold opened prodAt; rw [Int.toNat_natCast, List.getD_eq_getElem?_getD, List.getElem?_eq_getElem hp]; rfl
  rw [hopen]
  clear hopen hrp hr
  have hat1 : ∀ (L : List Own), At B L ⟨b, off + p * 2 + 1, none⟩ (.slice bb prods[p].2.length cb) := fun L => at_old0 ho (y1 1 _ rfl)
  have hfl := y3.flat (by decide)
  generalize prods[p].2 = body at *
  clear y1 y2 y3
  obtain ⟨b2, cb2, he, hb4, hb5, hb6⟩ := hfl
  simp only [Value.slice.injEq, true_and] at he
  obtain ⟨rfl, rfl⟩ := he
  refine enterB hm (args := [.pointer (some ⟨gw, 0, none⟩), .int .i64 (p : Int)]) (n := 61) Try.func57 rfl rfl rfl ?_
  clear hm
  repeat (first
    | refine qv rfl (qp rfl) rfl rfl ?_ | refine TL_nil ?_ | refine T_seq ?_ | refine T_region ?_ | refine qcT rfl ?_ | refine qcF rfl ?_ | refine T_skip ?_
    | refine T_exit ?_ | refine T_ret ?_ | refine T_block ?_ | refine E_then ?_ | refine E_thenX ?_ | refine E_thenR ?_ | refine E_blockN ?_
    | refine E_blockR ?_ | refine E_blockX ?_ | refine E_blockO rfl ?_ | refine qs rfl rfl rfl rfl rfl rfl ?_
    | ((try refine qg rfl rfl rfl ?_); first | refine qv rfl (qp rfl) rfl rfl ?_ | refine qv rfl (qlen Und.eq rfl) rfl rfl ?_ | refine qv rfl (qfld FldC.fld rfl rfl) rfl rfl ?_ | refine qv rfl (rr_nilc rfl) rfl rfl ?_ | refine qv rfl (rr_geq rfl rfl (qT (by omega))) rfl rfl ?_ | refine qv rfl (rr_geq rfl rfl (qF (by omega))) rfl rfl ?_ | refine qv rfl (rr_sub64 rfl rfl (by omega) (by omega) rfl) rfl rfl ?_ | refine qv rfl (rr_leq rfl rfl (qT (by omega))) rfl rfl ?_ | refine qv rfl (rr_leq rfl rfl (qF (by omega))) rfl rfl ?_))
  refine TL_callB [0, 1] [2] (by decide) rfl rfl (he1 EntersC.en rfl rfl) (fun w hm hb => pop_calls gw t n _ vt vo d r acts w _ (by omega) hb) rfl rfl rfl ?_
  intro vt1 _
  conv => arg 8; simp only [zA, zB, zC, zD, zE, zF, zG, zH, zI, rowS, ret, id_eq]
  dsimp only
  refine TL_slv (i := 2) rfl fun hv1 hv2 => ?_
  repeat (first
    | refine qv rfl (qp rfl) rfl rfl ?_ | refine TL_nil ?_ | refine T_seq ?_ | refine T_region ?_ | refine qcT rfl ?_ | refine qcF rfl ?_ | refine T_skip ?_
    | refine T_exit ?_ | refine T_ret ?_ | refine T_block ?_ | refine E_then ?_ | refine E_thenX ?_ | refine E_thenR ?_ | refine E_blockN ?_
    | refine E_blockR ?_ | refine E_blockX ?_ | refine E_blockO rfl ?_ | refine qs rfl rfl rfl rfl rfl rfl ?_
    | ((try refine qg rfl rfl rfl ?_); first | refine qv rfl (qp rfl) rfl rfl ?_ | refine qv rfl (rr_load1 TyC.ty rfl (at_blk (i := 1) rfl rfl)) rfl rfl ?_ | refine qv rfl (rr_build rfl (build_tdC _)) rfl rfl ?_ | refine qv rfl (qlen Und.eq rfl) rfl rfl ?_ | refine qv rfl (qfld FldC.fld rfl rfl) rfl rfl ?_ | refine qv rfl (rr_nilc rfl) rfl rfl ?_ | refine qv rfl (rr_geq rfl rfl (qT (by omega))) rfl rfl ?_ | refine qv rfl (rr_geq rfl rfl (qF (by omega))) rfl rfl ?_ | refine qv rfl (rr_sub64 rfl rfl (by omega) (by omega) rfl) rfl rfl ?_ | refine qv rfl (rr_leq rfl rfl (qT (by omega))) rfl rfl ?_ | refine qv rfl (rr_leq rfl rfl (qF (by omega))) rfl rfl ?_))
  refine TL_pushN (i := 2) rfl rfl rfl rfl rfl rfl rfl (fun z h => by cases h; rfl) (by omega) (by omega) rfl fun z' vt2 => ?_
  conv => arg 8; simp only [zA, zB, zC, zD, zE, zF, zG, zH, zI, rowS, ret, id_eq]
  refine TL_slv (i := 2) rfl fun hv1 hv2 => ?_
  repeat (first
    | refine qv rfl (qp rfl) rfl rfl ?_ | refine TL_nil ?_ | refine T_seq ?_ | refine T_region ?_ | refine qcT rfl ?_ | refine qcF rfl ?_ | refine T_skip ?_
    | refine T_exit ?_ | refine T_ret ?_ | refine T_block ?_ | refine E_then ?_ | refine E_thenX ?_ | refine E_thenR ?_ | refine E_blockN ?_
    | refine E_blockR ?_ | refine E_blockX ?_ | refine E_blockO rfl ?_ | refine qs rfl rfl rfl rfl rfl rfl ?_
    | ((try refine qg rfl rfl rfl ?_); first | refine qv rfl (qp rfl) rfl rfl ?_ | refine qv rfl (qlen Und.eq rfl) rfl rfl ?_ | refine qv rfl (qfld FldC.fld rfl rfl) rfl rfl ?_ | refine qv rfl (rr_nilc rfl) rfl rfl ?_ | refine qv rfl (rr_geq rfl rfl (qT (by omega))) rfl rfl ?_ | refine qv rfl (rr_geq rfl rfl (qF (by omega))) rfl rfl ?_ | refine qv rfl (rr_sub64 rfl rfl (by omega) (by omega) rfl) rfl rfl ?_ | refine qv rfl (rr_leq rfl rfl (qT (by omega))) rfl rfl ?_ | refine qv rfl (rr_leq rfl rfl (qF (by omega))) rfl rfl ?_))
  refine TL_store1 (i := 1) rfl rfl rfl hv1 hv2 rfl ?_
  rw [show (cwV t n (.slice (some ⟨b, off, none⟩) prods.length cp) vt1 vo acts).setIfInBounds (0 + 3) vt2 = cwV t n (.slice (some ⟨b, off, none⟩) prods.length cp) vt2 vo acts from rfl]
  conv => arg 8; simp only [zA, zB, zC, zD, zE, zF, zG, zH, zI, rowS, ret, id_eq]
  repeat (first
    | refine qv rfl (qp rfl) rfl rfl ?_ | refine TL_nil ?_ | refine T_seq ?_ | refine T_region ?_ | refine qcT rfl ?_ | refine qcF rfl ?_ | refine T_skip ?_
    | refine T_exit ?_ | refine T_ret ?_ | refine T_block ?_ | refine E_then ?_ | refine E_thenX ?_ | refine E_thenR ?_ | refine E_blockN ?_
    | refine E_blockR ?_ | refine E_blockX ?_ | refine E_blockO rfl ?_ | refine qs rfl rfl rfl rfl rfl rfl ?_
    | ((try refine qg rfl rfl rfl ?_); first | refine qv rfl (qp rfl) rfl rfl ?_ | refine qv rfl (rr_load1 (v := .slice (some ⟨b, off, none⟩) prods.length cp) TyC.ty rfl (at_blk (i := 1) rfl rfl)) rfl rfl ?_ | refine qv rfl (rr_idxc Und.eq TyC.ty rfl rfl hp) rfl rfl ?_ | refine qv rfl (rr_load1 TyC.ty rfl (hat1 _)) rfl rfl ?_ | refine qv rfl (rr_sub64 (r := (body.length : Int) - 1) rfl rfl (by omega) (by omega) rfl) rfl rfl ?_ | refine qv rfl (qlen Und.eq rfl) rfl rfl ?_ | refine qv rfl (qfld FldC.fld rfl rfl) rfl rfl ?_ | refine qv rfl (rr_nilc rfl) rfl rfl ?_ | refine qv rfl (rr_geq rfl rfl (qT (by omega))) rfl rfl ?_ | refine qv rfl (rr_geq rfl rfl (qF (by omega))) rfl rfl ?_ | refine qv rfl (rr_sub64 rfl rfl (by omega) (by omega) rfl) rfl rfl ?_ | refine qv rfl (rr_leq rfl rfl (qT (by omega))) rfl rfl ?_ | refine qv rfl (rr_leq rfl rfl (qF (by omega))) rfl rfl ?_))
  rw [td_push r (.close (p : Int))]
  refine T_loop (ι := Nat × Value) (fun (j, _) => j ≤ body.length) (fun (j, _) => [(0, .pointer (some ⟨gw, 0, none⟩)), (1, .int .i64 (p : Int)), (5, .slice bb body.length cb), (6, .int .i64 (((body.length - j : Nat) : Int) - 1))])
    (fun (j, vt) => [evO vo out, cwO gw t n (.slice (some ⟨b, off, none⟩) prods.length cp) vt vo acts, rowO 88 4 vt (r.length + 1 + j) ((stO p r body j).reverse.flatMap tdC)]) (fun (j, _) => body.length - j) (0, vt2) (Nat.zero_le _) (by repeat' (first | exact True.intro | refine And.intro rfl ?_)) (by dsimp only; rw [stO_0]) ?_
  rintro ⟨j, vt3⟩ hj
  dsimp only at hj ⊢
  by_cases c : j < body.length
  · obtain ⟨b4, off4, rfl, hr4⟩ := hb6 (by omega)
    have hk : body.length - 1 - j < body.length := by omega
    have hatx := fun L => at_elL (W := B) (L := L) (f := symC) (c := 2) (fun _ => rfl) (fun q x hq => at_old0 ho (hr4 q x hq)) hk
    have hst := stO_step p r hk
    rw [show body.length - (body.length - 1 - j) = j + 1 by omega, Nat.add_sub_cancel] at hst
    rw [show (((body.length - j : Nat) : Int) - 1) = ((body.length - 1 - j : Nat) : Int) by omega]
    generalize body[body.length - 1 - j] = x at *
    obtain ⟨xq, xm⟩ := x
    refine T_slv (i := 2) rfl fun hv1 hv2 => ?_
    repeat (first
      | refine qv rfl (qp rfl) rfl rfl ?_ | refine TL_nil ?_ | refine T_seq ?_ | refine T_region ?_ | refine qcT rfl ?_ | refine qcF rfl ?_ | refine T_skip ?_
      | refine T_exit ?_ | refine T_ret ?_ | refine T_block ?_ | refine E_then ?_ | refine E_thenX ?_ | refine E_thenR ?_ | refine E_blockN ?_
      | refine E_blockR ?_ | refine E_blockX ?_ | refine E_blockO rfl ?_ | refine qs rfl rfl rfl rfl rfl rfl ?_
      | ((try refine qg rfl rfl rfl ?_); first | refine qv rfl (qp rfl) rfl rfl ?_ | refine qv rfl (rr_geq (b := true) rfl rfl (decide_eq_true (by omega))) rfl rfl ?_ | refine qv rfl (qlen Und.eq rfl) rfl rfl ?_ | refine qv rfl (qfld FldC.fld rfl rfl) rfl rfl ?_ | refine qv rfl (rr_nilc rfl) rfl rfl ?_ | refine qv rfl (rr_geq rfl rfl (qT (by omega))) rfl rfl ?_ | refine qv rfl (rr_geq rfl rfl (qF (by omega))) rfl rfl ?_ | refine qv rfl (rr_sub64 rfl rfl (by omega) (by omega) rfl) rfl rfl ?_ | refine qv rfl (rr_leq rfl rfl (qT (by omega))) rfl rfl ?_ | refine qv rfl (rr_leq rfl rfl (qF (by omega))) rfl rfl ?_))
    refine T_ord ([]) (.calm 0 (.calm 1 (.calm 2 (.calm 3 (.calm 5 (.calm 6 (.calm 7 (.calm 8 (.calm 9 (.two 4 (.one 10 (.one 11 (.calm 12 (.calm 13 (.one 14 (.done)))))) 10 (.one 4 (.one 11 (.calm 12 (.calm 13 (.one 14 (.done)))))))))))))))) (sub_pick [] (by decide) rfl) (by kernel_rfl) (by kernel_rfl) (by intro c a d v w h; cases d <;> exact h) ?_
    repeat (first
      | ((first | refine TW_plain rfl rfl ?_ | refine TW_gmet rfl rfl rfl rfl ?_); first | refine TN_val (qp rfl) rfl rfl ?_ | refine TN_val (rr_idxc (j := body.length - 1 - j) Und.eq TyC.ty rfl rfl hk) rfl rfl ?_ | refine TN_val (rr_loadN TyC.ty rfl rfl (hatx _)) rfl rfl ?_ | refine TN_val (rr_build rfl (build_tdS (xq, xm))) rfl rfl ?_ | refine TN_val (qlen Und.eq rfl) rfl rfl ?_ | refine TN_val (qfld FldC.fld rfl rfl) rfl rfl ?_ | refine TN_val (rr_nilc rfl) rfl rfl ?_ | refine TN_val (rr_geq rfl rfl (qT (by omega))) rfl rfl ?_ | refine TN_val (rr_geq rfl rfl (qF (by omega))) rfl rfl ?_ | refine TN_val (rr_sub64 rfl rfl (by omega) (by omega) rfl) rfl rfl ?_ | refine TN_val (rr_leq rfl rfl (qT (by omega))) rfl rfl ?_ | refine TN_val (rr_leq rfl rfl (qF (by omega))) rfl rfl ?_)
      | refine TW_skip rfl rfl rfl rfl rfl rfl rfl ?_ | refine TW_done ?_)
    refine TW_two rfl rfl ?_ ?_
    · refine TL_val (rr_load1 (v := vt3) TyC.ty rfl (at_blk (i := 1) rfl rfl)) rfl rfl rfl (TW_on (sub_pick [] (by decide) rfl) ?_)
      refine TW_one rfl (TL_litN (cs := (tdC (.sym (xq, xm))).toArray) [tdV (.sym (xq, xm))] rfl rfl rfl (by intro v hv; simp at hv; subst hv; rfl) rfl rfl rfl fun g46 => (TW_on (sub_pick [] (by decide) rfl) ?_))
      refine TW_one rfl (TL_appSl (i := 2) (k := 1) (ys := tdC (.sym (xq, xm))) rfl (sl_blk (i := 3) rfl (fun j u h => by simpa using h) (Nat.le_refl 1) (by decide)) rfl rfl rfl (fun u hu => tdC_all [.sym (xq, xm)] u (by simpa using hu)) (by omega) (by omega) rfl fun v' => (TW_on (sub_pick [] (by decide) rfl) ?_))
      repeat (first
        | ((first | refine TW_plain rfl rfl ?_ | refine TW_gmet rfl rfl rfl rfl ?_); first | refine TN_val (qp rfl) rfl rfl ?_ | refine TN_val (qlen Und.eq rfl) rfl rfl ?_ | refine TN_val (qfld FldC.fld rfl rfl) rfl rfl ?_ | refine TN_val (rr_nilc rfl) rfl rfl ?_ | refine TN_val (rr_geq rfl rfl (qT (by omega))) rfl rfl ?_ | refine TN_val (rr_geq rfl rfl (qF (by omega))) rfl rfl ?_ | refine TN_val (rr_sub64 rfl rfl (by omega) (by omega) rfl) rfl rfl ?_ | refine TN_val (rr_leq rfl rfl (qT (by omega))) rfl rfl ?_ | refine TN_val (rr_leq rfl rfl (qF (by omega))) rfl rfl ?_)
        | refine TW_skip rfl rfl rfl rfl rfl rfl rfl ?_ | refine TW_done ?_)
      refine TW_one rfl (TL_slv (i := 2) rfl fun hv1 hv2 => TL_store1 (i := 1) rfl rfl rfl hv1 hv2 rfl (TW_on (sub_pick [] (by decide) rfl) ?_))
      rw [show (cwV t n (.slice (some ⟨b, off, none⟩) prods.length cp) vt3 vo acts).setIfInBounds (0 + 3) v' = cwV t n (.slice (some ⟨b, off, none⟩) prods.length cp) v' vo acts from rfl]
      repeat (first
        | ((first | refine TW_plain rfl rfl ?_ | refine TW_gmet rfl rfl rfl rfl ?_); first | refine TN_val (qp rfl) rfl rfl ?_ | refine TN_val (qlen Und.eq rfl) rfl rfl ?_ | refine TN_val (qfld FldC.fld rfl rfl) rfl rfl ?_ | refine TN_val (rr_nilc rfl) rfl rfl ?_ | refine TN_val (rr_geq rfl rfl (qT (by omega))) rfl rfl ?_ | refine TN_val (rr_geq rfl rfl (qF (by omega))) rfl rfl ?_ | refine TN_val (rr_sub64 rfl rfl (by omega) (by omega) rfl) rfl rfl ?_ | refine TN_val (rr_leq rfl rfl (qT (by omega))) rfl rfl ?_ | refine TN_val (rr_leq rfl rfl (qF (by omega))) rfl rfl ?_)
        | refine TW_skip rfl rfl rfl rfl rfl rfl rfl ?_ | refine TW_done ?_)
      repeat (first
        | refine qv rfl (qp rfl) rfl rfl ?_ | refine TL_nil ?_ | refine T_seq ?_ | refine T_region ?_ | refine qcT rfl ?_ | refine qcF rfl ?_ | refine T_skip ?_
        | refine T_exit ?_ | refine T_ret ?_ | refine T_block ?_ | refine E_then ?_ | refine E_thenX ?_ | refine E_thenR ?_ | refine E_blockN ?_
        | refine E_blockR ?_ | refine E_blockX ?_ | refine E_blockO rfl ?_ | refine qs rfl rfl rfl rfl rfl rfl ?_
        | ((try refine qg rfl rfl rfl ?_); first | refine qv rfl (qp rfl) rfl rfl ?_ | refine qv rfl (rr_sub64 (r := ((body.length - (j + 1) : Nat) : Int) - 1) rfl rfl (by omega) (by omega) (by omega)) rfl rfl ?_ | refine qv rfl (qlen Und.eq rfl) rfl rfl ?_ | refine qv rfl (qfld FldC.fld rfl rfl) rfl rfl ?_ | refine qv rfl (rr_nilc rfl) rfl rfl ?_ | refine qv rfl (rr_geq rfl rfl (qT (by omega))) rfl rfl ?_ | refine qv rfl (rr_geq rfl rfl (qF (by omega))) rfl rfl ?_ | refine qv rfl (rr_sub64 rfl rfl (by omega) (by omega) rfl) rfl rfl ?_ | refine qv rfl (rr_leq rfl rfl (qT (by omega))) rfl rfl ?_ | refine qv rfl (rr_leq rfl rfl (qF (by omega))) rfl rfl ?_))
      refine E_pick [0, 1, 2] (by decide) rfl ?_
      exact E_round (j + 1, v') (by show j + 1 ≤ body.length; omega) (by show body.length - (j + 1) < body.length - j; omega) (by repeat' (first | exact True.intro | refine And.intro rfl ?_)) (by dsimp only; rw [hst, ← td_push]; rfl)
    · refine TL_litN (cs := (tdC (.sym (xq, xm))).toArray) [tdV (.sym (xq, xm))] rfl rfl rfl (by intro v hv; simp at hv; subst hv; rfl) rfl rfl rfl fun g46 => (TW_on (sub_pick [] (by decide) rfl) ?_)
      refine TW_one rfl (TL_val (rr_load1 (v := vt3) TyC.ty rfl (at_blk (i := 1) rfl rfl)) rfl rfl rfl (TW_on (sub_pick [] (by decide) rfl) ?_))
      refine TW_one rfl (TL_appSl (i := 2) (k := 1) (ys := tdC (.sym (xq, xm))) rfl (sl_blk (i := 3) rfl (fun j u h => by simpa using h) (Nat.le_refl 1) (by decide)) rfl rfl rfl (fun u hu => tdC_all [.sym (xq, xm)] u (by simpa using hu)) (by omega) (by omega) rfl fun v' => (TW_on (sub_pick [] (by decide) rfl) ?_))
      repeat (first
        | ((first | refine TW_plain rfl rfl ?_ | refine TW_gmet rfl rfl rfl rfl ?_); first | refine TN_val (qp rfl) rfl rfl ?_ | refine TN_val (qlen Und.eq rfl) rfl rfl ?_ | refine TN_val (qfld FldC.fld rfl rfl) rfl rfl ?_ | refine TN_val (rr_nilc rfl) rfl rfl ?_ | refine TN_val (rr_geq rfl rfl (qT (by omega))) rfl rfl ?_ | refine TN_val (rr_geq rfl rfl (qF (by omega))) rfl rfl ?_ | refine TN_val (rr_sub64 rfl rfl (by omega) (by omega) rfl) rfl rfl ?_ | refine TN_val (rr_leq rfl rfl (qT (by omega))) rfl rfl ?_ | refine TN_val (rr_leq rfl rfl (qF (by omega))) rfl rfl ?_)
        | refine TW_skip rfl rfl rfl rfl rfl rfl rfl ?_ | refine TW_done ?_)
      refine TW_one rfl (TL_slv (i := 2) rfl fun hv1 hv2 => TL_store1 (i := 1) rfl rfl rfl hv1 hv2 rfl (TW_on (sub_pick [] (by decide) rfl) ?_))
      rw [show (cwV t n (.slice (some ⟨b, off, none⟩) prods.length cp) vt3 vo acts).setIfInBounds (0 + 3) v' = cwV t n (.slice (some ⟨b, off, none⟩) prods.length cp) v' vo acts from rfl]
      repeat (first
        | ((first | refine TW_plain rfl rfl ?_ | refine TW_gmet rfl rfl rfl rfl ?_); first | refine TN_val (qp rfl) rfl rfl ?_ | refine TN_val (qlen Und.eq rfl) rfl rfl ?_ | refine TN_val (qfld FldC.fld rfl rfl) rfl rfl ?_ | refine TN_val (rr_nilc rfl) rfl rfl ?_ | refine TN_val (rr_geq rfl rfl (qT (by omega))) rfl rfl ?_ | refine TN_val (rr_geq rfl rfl (qF (by omega))) rfl rfl ?_ | refine TN_val (rr_sub64 rfl rfl (by omega) (by omega) rfl) rfl rfl ?_ | refine TN_val (rr_leq rfl rfl (qT (by omega))) rfl rfl ?_ | refine TN_val (rr_leq rfl rfl (qF (by omega))) rfl rfl ?_)
        | refine TW_skip rfl rfl rfl rfl rfl rfl rfl ?_ | refine TW_done ?_)
      repeat (first
        | refine qv rfl (qp rfl) rfl rfl ?_ | refine TL_nil ?_ | refine T_seq ?_ | refine T_region ?_ | refine qcT rfl ?_ | refine qcF rfl ?_ | refine T_skip ?_
        | refine T_exit ?_ | refine T_ret ?_ | refine T_block ?_ | refine E_then ?_ | refine E_thenX ?_ | refine E_thenR ?_ | refine E_blockN ?_
        | refine E_blockR ?_ | refine E_blockX ?_ | refine E_blockO rfl ?_ | refine qs rfl rfl rfl rfl rfl rfl ?_
        | ((try refine qg rfl rfl rfl ?_); first | refine qv rfl (qp rfl) rfl rfl ?_ | refine qv rfl (rr_sub64 (r := ((body.length - (j + 1) : Nat) : Int) - 1) rfl rfl (by omega) (by omega) (by omega)) rfl rfl ?_ | refine qv rfl (qlen Und.eq rfl) rfl rfl ?_ | refine qv rfl (qfld FldC.fld rfl rfl) rfl rfl ?_ | refine qv rfl (rr_nilc rfl) rfl rfl ?_ | refine qv rfl (rr_geq rfl rfl (qT (by omega))) rfl rfl ?_ | refine qv rfl (rr_geq rfl rfl (qF (by omega))) rfl rfl ?_ | refine qv rfl (rr_sub64 rfl rfl (by omega) (by omega) rfl) rfl rfl ?_ | refine qv rfl (rr_leq rfl rfl (qT (by omega))) rfl rfl ?_ | refine qv rfl (rr_leq rfl rfl (qF (by omega))) rfl rfl ?_))
      refine E_pick [0, 1, 2] (by decide) rfl ?_
      exact E_round (j + 1, v') (by show j + 1 ≤ body.length; omega) (by show body.length - (j + 1) < body.length - j; omega) (by repeat' (first | exact True.intro | refine And.intro rfl ?_)) (by dsimp only; rw [hst, ← td_push]; rfl)
  · obtain rfl : j = body.length := by omega
    rw [stO_end]
    have hlen2 : (body.map TD.sym ++ .close (p : Int) :: r).length = r.length + 1 + body.length := by simp; omega
    repeat (first
      | refine qv rfl (qp rfl) rfl rfl ?_ | refine TL_nil ?_ | refine T_seq ?_ | refine T_region ?_ | refine qcT rfl ?_ | refine qcF rfl ?_ | refine T_skip ?_
      | refine T_exit ?_ | refine T_ret ?_ | refine T_block ?_ | refine E_then ?_ | refine E_thenX ?_ | refine E_thenR ?_ | refine E_blockN ?_
      | refine E_blockR ?_ | refine E_blockX ?_ | refine E_blockO rfl ?_ | refine qs rfl rfl rfl rfl rfl rfl ?_
      | ((try refine qg rfl rfl rfl ?_); first | refine qv rfl (qp rfl) rfl rfl ?_ | refine qv rfl (rr_geq (b := false) rfl rfl (decide_eq_false (by omega))) rfl rfl ?_ | refine qv rfl (qlen Und.eq rfl) rfl rfl ?_ | refine qv rfl (qfld FldC.fld rfl rfl) rfl rfl ?_ | refine qv rfl (rr_nilc rfl) rfl rfl ?_ | refine qv rfl (rr_geq rfl rfl (qT (by omega))) rfl rfl ?_ | refine qv rfl (rr_geq rfl rfl (qF (by omega))) rfl rfl ?_ | refine qv rfl (rr_sub64 rfl rfl (by omega) (by omega) rfl) rfl rfl ?_ | refine qv rfl (rr_leq rfl rfl (qT (by omega))) rfl rfl ?_ | refine qv rfl (rr_leq rfl rfl (qF (by omega))) rfl rfl ?_))
    refine TL_callB [1, 0] [2] (by decide) rfl rfl (he3 EntersC.en rfl rfl rfl rfl) (fun w hm hb => act_calls gw t n _ vt3 vo out acts 1 (p : Int) w _ (by omega) (by omega) hb) rfl rfl rfl ?_
    intro vo' _
    conv => arg 8; simp only [zA, zB, zC, zD, zE, zF, zG, zH, zI, rowS, ret, id_eq]
    dsimp only
    have fin : ∀ (x : Bool), x = decide (acts + 1 ≤ 2000 ∧ (body.map TD.sym ++ .close (p : Int) :: r).length ≤ 60) → (Value.bool x) = (opS gw t n (.slice (some ⟨b, off, none⟩) prods.length cp) (body.map .sym ++ .close (p : Int) :: r) (out ++ [(1, (p : Int))]) (acts + 1)).val (vt3, vo') := fun x h => by rw [h]; rfl
    rw [hlen2] at fin
    by_cases c2 : acts + 1 ≤ 2000
    · rw [decide_eq_true (show ((acts + 1 : Nat) : Int) ≤ 2000 by omega)]
      by_cases c3 : r.length + 1 + body.length ≤ 60
      · repeat (first
          | refine qv rfl (qp rfl) rfl rfl ?_ | refine TL_nil ?_ | refine T_seq ?_ | refine T_region ?_ | refine qcT rfl ?_ | refine qcF rfl ?_ | refine T_skip ?_
          | refine T_exit ?_ | refine T_ret ?_ | refine T_block ?_ | refine E_then ?_ | refine E_thenX ?_ | refine E_thenR ?_ | refine E_blockN ?_
          | refine E_blockR ?_ | refine E_blockX ?_ | refine E_blockO rfl ?_ | refine qs rfl rfl rfl rfl rfl rfl ?_
          | ((try refine qg rfl rfl rfl ?_); first | refine qv rfl (qp rfl) rfl rfl ?_ | refine qv rfl (rr_load1 (v := vt3) TyC.ty rfl (at_blk (i := 1) rfl rfl)) rfl rfl ?_ | refine qv rfl (rr_rowlen (i := 0) Und.eq rfl rfl) rfl rfl ?_ | refine qv rfl (qlen Und.eq rfl) rfl rfl ?_ | refine qv rfl (qfld FldC.fld rfl rfl) rfl rfl ?_ | refine qv rfl (rr_nilc rfl) rfl rfl ?_ | refine qv rfl (rr_geq rfl rfl (qT (by omega))) rfl rfl ?_ | refine qv rfl (rr_geq rfl rfl (qF (by omega))) rfl rfl ?_ | refine qv rfl (rr_sub64 rfl rfl (by omega) (by omega) rfl) rfl rfl ?_ | refine qv rfl (rr_leq (b := true) rfl rfl (decide_eq_true (by omega))) rfl rfl ?_ | refine qv rfl (rr_leq rfl rfl (qT (by omega))) rfl rfl ?_ | refine qv rfl (rr_leq rfl rfl (qF (by omega))) rfl rfl ?_))
        refine E_ret1 rfl rfl fun w hm => ?_
        rw [fin true (by simp [c2, c3])]
        exact hm.meetsB (S := opS gw t n (.slice (some ⟨b, off, none⟩) prods.length cp) (body.map .sym ++ .close (p : Int) :: r) (out ++ [(1, (p : Int))]) (acts + 1)) (vt3, vo') trivial [1, 0, 2] (by decide) (by rw [← hlen2]; rfl)
      · repeat (first
          | refine qv rfl (qp rfl) rfl rfl ?_ | refine TL_nil ?_ | refine T_seq ?_ | refine T_region ?_ | refine qcT rfl ?_ | refine qcF rfl ?_ | refine T_skip ?_
          | refine T_exit ?_ | refine T_ret ?_ | refine T_block ?_ | refine E_then ?_ | refine E_thenX ?_ | refine E_thenR ?_ | refine E_blockN ?_
          | refine E_blockR ?_ | refine E_blockX ?_ | refine E_blockO rfl ?_ | refine qs rfl rfl rfl rfl rfl rfl ?_
          | ((try refine qg rfl rfl rfl ?_); first | refine qv rfl (qp rfl) rfl rfl ?_ | refine qv rfl (rr_load1 (v := vt3) TyC.ty rfl (at_blk (i := 1) rfl rfl)) rfl rfl ?_ | refine qv rfl (rr_rowlen (i := 0) Und.eq rfl rfl) rfl rfl ?_ | refine qv rfl (qlen Und.eq rfl) rfl rfl ?_ | refine qv rfl (qfld FldC.fld rfl rfl) rfl rfl ?_ | refine qv rfl (rr_nilc rfl) rfl rfl ?_ | refine qv rfl (rr_geq rfl rfl (qT (by omega))) rfl rfl ?_ | refine qv rfl (rr_geq rfl rfl (qF (by omega))) rfl rfl ?_ | refine qv rfl (rr_sub64 rfl rfl (by omega) (by omega) rfl) rfl rfl ?_ | refine qv rfl (rr_leq (b := false) rfl rfl (decide_eq_false (by omega))) rfl rfl ?_ | refine qv rfl (rr_leq rfl rfl (qT (by omega))) rfl rfl ?_ | refine qv rfl (rr_leq rfl rfl (qF (by omega))) rfl rfl ?_))
        refine E_ret1 rfl rfl fun w hm => ?_
        rw [fin false (by simp [c3])]
        exact hm.meetsB (S := opS gw t n (.slice (some ⟨b, off, none⟩) prods.length cp) (body.map .sym ++ .close (p : Int) :: r) (out ++ [(1, (p : Int))]) (acts + 1)) (vt3, vo') trivial [1, 0, 2] (by decide) (by rw [← hlen2]; rfl)
    · rw [decide_eq_false (show ¬ ((acts + 1 : Nat) : Int) ≤ 2000 by omega)]
      repeat (first
        | refine qv rfl (qp rfl) rfl rfl ?_ | refine TL_nil ?_ | refine T_seq ?_ | refine T_region ?_ | refine qcT rfl ?_ | refine qcF rfl ?_ | refine T_skip ?_
        | refine T_exit ?_ | refine T_ret ?_ | refine T_block ?_ | refine E_then ?_ | refine E_thenX ?_ | refine E_thenR ?_ | refine E_blockN ?_
        | refine E_blockR ?_ | refine E_blockX ?_ | refine E_blockO rfl ?_ | refine qs rfl rfl rfl rfl rfl rfl ?_
        | ((try refine qg rfl rfl rfl ?_); first | refine qv rfl (qp rfl) rfl rfl ?_ | refine qv rfl (qlen Und.eq rfl) rfl rfl ?_ | refine qv rfl (qfld FldC.fld rfl rfl) rfl rfl ?_ | refine qv rfl (rr_nilc rfl) rfl rfl ?_ | refine qv rfl (rr_geq rfl rfl (qT (by omega))) rfl rfl ?_ | refine qv rfl (rr_geq rfl rfl (qF (by omega))) rfl rfl ?_ | refine qv rfl (rr_sub64 rfl rfl (by omega) (by omega) rfl) rfl rfl ?_ | refine qv rfl (rr_leq rfl rfl (qT (by omega))) rfl rfl ?_ | refine qv rfl (rr_leq rfl rfl (qF (by omega))) rfl rfl ?_))
      refine E_ret1 rfl rfl fun w hm => ?_
      rw [fin false (by simp [c2])]
      exact hm.meetsB (S := opS gw t n (.slice (some ⟨b, off, none⟩) prods.length cp) (body.map .sym ++ .close (p : Int) :: r) (out ++ [(1, (p : Int))]) (acts + 1)) (vt3, vo') trivial [1, 0, 2] (by decide) (by rw [← hlen2]; rfl)
end Go.Proofs.Ytkkiopmdcolobaa.eng

/- TdS -/
namespace Go.Proofs.Ytkkiopmdcolobaa.eng
open Go.RowKit kit mix climbL
theorem TdS_len (a : climbL.TD) : (tdC a).length = 4 := rfl
set_option maxHeartbeats 2000000 in
theorem indexFuncTdS_calls (v : Value) (l : List climbL.TD) (w : World) (hs : Sl w v l.length (l.flatMap tdC)) (fid : FuncId) (first cp : Array Value) (p : climbL.TD → Bool) (hen : Enters Try.prog fid)
    (hp : ∀ a ∈ l, ∀ w', Gr w w' → Calls Try.prog fid (first ++ #[(.agg (tdC a).toArray)] ++ cp) w' (Meets (ret (.bool (p a))) w')) :
    Calls Try.prog 69 #[v, .func (.func fid) first cp] w (Meets (ret (.int .i64 (idxF p l))) w) := by
  obtain ⟨base, cap, rfl, hcap, hmax, hrd⟩ := hs
  unfold maxLen at hmax
  refine enter (args := [.slice base l.length cap, .func (.func fid) first cp]) (n := 19) Try.func69 rfl rfl rfl ?_
  repeat (first
    | refine qv rfl (qp rfl) rfl rfl ?_ | refine TL_nil ?_ | refine T_seq ?_ | refine T_region ?_ | refine qcT rfl ?_ | refine qcF rfl ?_ | refine T_skip ?_
    | refine T_exit ?_ | refine T_ret ?_ | refine T_block ?_ | refine E_then ?_ | refine E_thenX ?_ | refine E_thenR ?_ | refine E_blockN ?_
    | refine E_blockR ?_ | refine E_blockX ?_ | refine E_blockO rfl ?_ | refine qv rfl (qlen Und.eq rfl) rfl rfl ?_
    | refine qv rfl (rr_lss rfl rfl (qT (by omega))) rfl rfl ?_ | refine qv rfl (rr_lss rfl rfl (qF (by omega))) rfl rfl ?_
    | refine qv rfl (rr_add64 rfl rfl (by omega) (by omega) rfl) rfl rfl ?_)
  refine T_loop (ι := Nat) (fun k => k ≤ l.length ∧ ∀ j (hj : j < l.length), j < k → p l[j] = false) (fun k => [(0, .slice base l.length cap), (1, .func (.func fid) first cp), (7, .int .i64 l.length), (8, .int .i64 (k : Int))]) (fun _ => []) (fun k => l.length - k) 0 ⟨by omega, fun j hj h => by omega⟩ (by repeat' (first | exact True.intro | refine And.intro rfl ?_)) rfl ?_
  rintro k ⟨h1, h2⟩
  by_cases c2 : k < l.length
  · obtain ⟨b, off, rfl, hr⟩ := hrd (by omega)
    have hat := at_el (L := ([] : List Own)) TdS_len hr c2
    have hcl := hp l[k] (List.getElem_mem c2)
    by_cases c3 : p l[k] = true
    · rw [idxF_some c2 c3 h2]
      rw [c3] at hcl
      clear hp h2 hrd
      repeat (first
        | refine qv rfl (qp rfl) rfl rfl ?_ | refine TL_nil ?_ | refine T_seq ?_ | refine T_region ?_ | refine qcT rfl ?_ | refine qcF rfl ?_ | refine T_skip ?_
        | refine T_exit ?_ | refine T_ret ?_ | refine T_block ?_ | refine E_then ?_ | refine E_thenX ?_ | refine E_thenR ?_ | refine E_blockN ?_
        | refine E_blockR ?_ | refine E_blockX ?_ | refine E_blockO rfl ?_ | refine qv rfl (rr_idxc Und.eq TyC.ty rfl rfl c2) rfl rfl ?_
        | refine qv rfl (rr_loadN TyC.ty rfl rfl hat) rfl rfl ?_ | refine qv rfl (qlen Und.eq rfl) rfl rfl ?_
        | refine qv rfl (rr_lss rfl rfl (qT (by omega))) rfl rfl ?_ | refine qv rfl (rr_lss rfl rfl (qF (by omega))) rfl rfl ?_
        | refine qv rfl (rr_add64 rfl rfl (by omega) (by omega) rfl) rfl rfl ?_)
      refine TL_call (he1c hen rfl rfl) (fun w hm => hcl w hm.below) rfl rfl rfl ?_
      intro _ _
      repeat (first
        | refine qv rfl (qp rfl) rfl rfl ?_ | refine TL_nil ?_ | refine T_seq ?_ | refine T_region ?_ | refine qcT rfl ?_ | refine qcF rfl ?_ | refine T_skip ?_
        | refine T_exit ?_ | refine T_ret ?_ | refine T_block ?_ | refine E_then ?_ | refine E_thenX ?_ | refine E_thenR ?_ | refine E_blockN ?_
        | refine E_blockR ?_ | refine E_blockX ?_ | refine E_blockO rfl ?_ | refine qv rfl (qlen Und.eq rfl) rfl rfl ?_
        | refine qv rfl (rr_lss rfl rfl (qT (by omega))) rfl rfl ?_ | refine qv rfl (rr_lss rfl rfl (qF (by omega))) rfl rfl ?_
        | refine qv rfl (rr_add64 rfl rfl (by omega) (by omega) rfl) rfl rfl ?_)
      exact E_ret1 rfl rfl fun w hm => hm.ret
    · have c3' : p l[k] = false := by simpa using c3
      rw [c3'] at hcl
      clear hp hrd c3
      repeat (first
        | refine qv rfl (qp rfl) rfl rfl ?_ | refine TL_nil ?_ | refine T_seq ?_ | refine T_region ?_ | refine qcT rfl ?_ | refine qcF rfl ?_ | refine T_skip ?_
        | refine T_exit ?_ | refine T_ret ?_ | refine T_block ?_ | refine E_then ?_ | refine E_thenX ?_ | refine E_thenR ?_ | refine E_blockN ?_
        | refine E_blockR ?_ | refine E_blockX ?_ | refine E_blockO rfl ?_ | refine qv rfl (rr_idxc Und.eq TyC.ty rfl rfl c2) rfl rfl ?_
        | refine qv rfl (rr_loadN TyC.ty rfl rfl hat) rfl rfl ?_ | refine qv rfl (qlen Und.eq rfl) rfl rfl ?_
        | refine qv rfl (rr_lss rfl rfl (qT (by omega))) rfl rfl ?_ | refine qv rfl (rr_lss rfl rfl (qF (by omega))) rfl rfl ?_
        | refine qv rfl (rr_add64 rfl rfl (by omega) (by omega) rfl) rfl rfl ?_)
      refine TL_call (he1c hen rfl rfl) (fun w hm => hcl w hm.below) rfl rfl rfl ?_
      intro _ _
      repeat (first
        | refine qv rfl (qp rfl) rfl rfl ?_ | refine TL_nil ?_ | refine T_seq ?_ | refine T_region ?_ | refine qcT rfl ?_ | refine qcF rfl ?_ | refine T_skip ?_
        | refine T_exit ?_ | refine T_ret ?_ | refine T_block ?_ | refine E_then ?_ | refine E_thenX ?_ | refine E_thenR ?_ | refine E_blockN ?_
        | refine E_blockR ?_ | refine E_blockX ?_ | refine E_blockO rfl ?_ | refine qv rfl (qlen Und.eq rfl) rfl rfl ?_
        | refine qv rfl (rr_lss rfl rfl (qT (by omega))) rfl rfl ?_ | refine qv rfl (rr_lss rfl rfl (qF (by omega))) rfl rfl ?_
        | refine qv rfl (rr_add64 rfl rfl (by omega) (by omega) rfl) rfl rfl ?_)
      exact E_round (k + 1) ⟨by omega, fun j hj h => if e : j < k then h2 j hj e else (by obtain rfl : j = k := (by omega); exact c3')⟩ (by show l.length - (k + 1) < l.length - k; omega) (by repeat' (first | exact True.intro | refine And.intro rfl ?_)) rfl
  · rw [idxF_none fun j hj => h2 j hj (by omega)]
    clear hp h2 hrd
    repeat (first
      | refine qv rfl (qp rfl) rfl rfl ?_ | refine TL_nil ?_ | refine T_seq ?_ | refine T_region ?_ | refine qcT rfl ?_ | refine qcF rfl ?_ | refine T_skip ?_
      | refine T_exit ?_ | refine T_ret ?_ | refine T_block ?_ | refine E_then ?_ | refine E_thenX ?_ | refine E_thenR ?_ | refine E_blockN ?_
      | refine E_blockR ?_ | refine E_blockX ?_ | refine E_blockO rfl ?_ | refine qv rfl (qlen Und.eq rfl) rfl rfl ?_
      | refine qv rfl (rr_lss rfl rfl (qT (by omega))) rfl rfl ?_ | refine qv rfl (rr_lss rfl rfl (qF (by omega))) rfl rfl ?_
      | refine qv rfl (rr_add64 rfl rfl (by omega) (by omega) rfl) rfl rfl ?_)
    exact E_ret1 rfl rfl fun w hm => hm.ret
theorem containsFuncTdS_calls (v : Value) (l : List climbL.TD) (w : World) (hs : Sl w v l.length (l.flatMap tdC)) (fid : FuncId) (first cp : Array Value) (p : climbL.TD → Bool) (hen : Enters Try.prog fid)
    (hp : ∀ a ∈ l, ∀ w', Gr w w' → Calls Try.prog fid (first ++ #[(.agg (tdC a).toArray)] ++ cp) w' (Meets (ret (.bool (p a))) w')) :
    Calls Try.prog 53 #[v, .func (.func fid) first cp] w (Meets (ret (.bool (l.any p))) w) := by
  refine enter (args := [v, .func (.func fid) first cp]) (n := 9) Try.func53 rfl rfl rfl ?_
  have hh := fun w' (hg : Gr w w') => indexFuncTdS_calls v l w' (hs.gr hg) fid first cp p hen fun a ha w'' hg' => hp a ha w'' (hg.trans hg')
  have hr := idxF_range p l
  rw [← idxF_any p l]
  generalize idxF p l = r at *
  repeat (first
    | refine qv rfl (qp rfl) rfl rfl ?_ | refine TL_nil ?_ | refine T_seq ?_ | refine T_region ?_ | refine T_ret ?_ | refine E_then ?_ | refine E_thenR ?_
    | refine qv rfl (rr_geq rfl rfl (qT (by omega))) rfl rfl ?_ | refine qv rfl (rr_geq rfl rfl (qF (by omega))) rfl rfl ?_)
  refine TL_call (he2 EntersC.en rfl rfl rfl) (fun w hm => hh _ hm.below) rfl rfl rfl ?_
  intro _ _
  repeat (first
    | refine qv rfl (qp rfl) rfl rfl ?_ | refine TL_nil ?_ | refine T_seq ?_ | refine T_region ?_ | refine T_ret ?_ | refine E_then ?_ | refine E_thenR ?_
    | refine qv rfl (rr_geq rfl rfl rfl) rfl rfl ?_ | refine qv rfl (rr_geq rfl rfl (qT (by omega))) rfl rfl ?_
    | refine qv rfl (rr_geq rfl rfl (qF (by omega))) rfl rfl ?_)
  exact E_ret1 rfl rfl fun w hm => hm.ret
set_option maxHeartbeats 2000000 in
theorem cloneTdS_calls (v : Value) (l : List climbL.TD) (w : World) (hs : Sl w v l.length (l.flatMap tdC)) (hl : l.length * 40 ≤ 140737488355328) :
    Calls Try.prog 56 #[v] w (Meets (rowS 88 4 l.length (l.flatMap tdC) id) w) := by
  obtain ⟨base, cap, rfl, hcap, hmax, hrd⟩ := hs
  unfold maxLen at hmax
  refine enter (args := [.slice base l.length cap]) (n := 8) Try.func56 rfl rfl rfl ?_
  have hsl : ∀ w', Gr w w' → Sl w' (.slice base l.length cap) l.length (l.flatMap tdC) := fun w' hg => Sl.gr ⟨base, cap, rfl, hcap, hmax, hrd⟩ hg
  clear hrd
  cases base with
  | none =>
    repeat (first
      | refine qv rfl (qp rfl) rfl rfl ?_ | refine TL_nil ?_ | refine T_seq ?_ | refine T_region ?_ | refine qcT rfl ?_ | refine qcF rfl ?_ | refine T_skip ?_
      | refine T_ret ?_ | refine E_then ?_ | refine E_thenR ?_ | refine qv rfl (rr_slnil Und.eq rfl rfl rfl) rfl rfl ?_)
    have h0 : l = [] := by
      cases l with
      | nil => rfl
      | cons x l => obtain ⟨_, _, h, _, _, h2⟩ := hsl w (Gr.refl w); simp only [Value.slice.injEq] at h; obtain ⟨rfl, _⟩ := h; obtain ⟨b, off, h, _⟩ := h2 (by simp); cases h
    subst h0
    refine E_nilrow 88 4 ?_
    exact E_ret1 rfl rfl fun w hm => hm.meets (S := rowS 88 4 0 [] id) _ trivial [0] (by decide) rfl
  | some p =>
    repeat (first
      | refine qv rfl (qp rfl) rfl rfl ?_ | refine TL_nil ?_ | refine T_seq ?_ | refine T_region ?_ | refine qcT rfl ?_ | refine qcF rfl ?_ | refine T_skip ?_
      | refine T_ret ?_ | refine E_then ?_ | refine E_thenR ?_ | refine qv rfl (rr_slnil Und.eq rfl rfl rfl) rfl rfl ?_)
    refine TL_lit0 rfl fun g => ?_
    repeat (first
      | refine qv rfl (qp rfl) rfl rfl ?_ | refine TL_nil ?_ | refine T_seq ?_ | refine T_region ?_ | refine qcT rfl ?_ | refine qcF rfl ?_ | refine T_skip ?_
      | refine T_ret ?_ | refine E_then ?_ | refine E_thenR ?_)
    refine TL_appSl (i := 0) rfl (fun w' hm => hsl w' hm.below) rfl rfl (len_el TdS_len l) (tdC_all l) (by omega) (by omega) rfl fun v' => ?_
    rw [List.nil_append]
    repeat (first
      | refine qv rfl (qp rfl) rfl rfl ?_ | refine TL_nil ?_ | refine T_seq ?_ | refine T_region ?_ | refine qcT rfl ?_ | refine qcF rfl ?_ | refine T_skip ?_
      | refine T_ret ?_ | refine E_then ?_ | refine E_thenR ?_)
    refine E_ret1 rfl rfl fun w hm => ?_
    exact hm.meets (S := rowS 88 4 l.length (l.flatMap tdC) id) v' trivial [0] (by decide) (by simp [rowS])
end Go.Proofs.Ytkkiopmdcolobaa.eng

/- SymS -/
namespace Go.Proofs.Ytkkiopmdcolobaa.eng
open Go.RowKit kit mix gramL
theorem SymS_len (a : Sym) : (symC a).length = 2 := rfl
set_option maxHeartbeats 2000000 in
theorem indexFuncSymS_calls (v : Value) (l : List Sym) (w : World) (hs : Sl w v l.length (l.flatMap symC)) (fid : FuncId) (first cp : Array Value) (p : Sym → Bool) (hen : Enters Try.prog fid)
    (hp : ∀ a ∈ l, ∀ w', Gr w w' → Calls Try.prog fid (first ++ #[(.agg (symC a).toArray)] ++ cp) w' (Meets (ret (.bool (p a))) w')) :
    Calls Try.prog 70 #[v, .func (.func fid) first cp] w (Meets (ret (.int .i64 (idxF p l))) w) := by
  obtain ⟨base, cap, rfl, hcap, hmax, hrd⟩ := hs
  unfold maxLen at hmax
  refine enter (args := [.slice base l.length cap, .func (.func fid) first cp]) (n := 19) Try.func70 rfl rfl rfl ?_
  repeat (first
    | refine qv rfl (qp rfl) rfl rfl ?_ | refine TL_nil ?_ | refine T_seq ?_ | refine T_region ?_ | refine qcT rfl ?_ | refine qcF rfl ?_ | refine T_skip ?_
    | refine T_exit ?_ | refine T_ret ?_ | refine T_block ?_ | refine E_then ?_ | refine E_thenX ?_ | refine E_thenR ?_ | refine E_blockN ?_
    | refine E_blockR ?_ | refine E_blockX ?_ | refine E_blockO rfl ?_ | refine qv rfl (qlen Und.eq rfl) rfl rfl ?_
    | refine qv rfl (rr_lss rfl rfl (qT (by omega))) rfl rfl ?_ | refine qv rfl (rr_lss rfl rfl (qF (by omega))) rfl rfl ?_
    | refine qv rfl (rr_add64 rfl rfl (by omega) (by omega) rfl) rfl rfl ?_)
  refine T_loop (ι := Nat) (fun k => k ≤ l.length ∧ ∀ j (hj : j < l.length), j < k → p l[j] = false) (fun k => [(0, .slice base l.length cap), (1, .func (.func fid) first cp), (7, .int .i64 l.length), (8, .int .i64 (k : Int))]) (fun _ => []) (fun k => l.length - k) 0 ⟨by omega, fun j hj h => by omega⟩ (by repeat' (first | exact True.intro | refine And.intro rfl ?_)) rfl ?_
  rintro k ⟨h1, h2⟩
  by_cases c2 : k < l.length
  · obtain ⟨b, off, rfl, hr⟩ := hrd (by omega)
    have hat := at_el (L := ([] : List Own)) SymS_len hr c2
    have hcl := hp l[k] (List.getElem_mem c2)
    by_cases c3 : p l[k] = true
    · rw [idxF_some c2 c3 h2]
      rw [c3] at hcl
      clear hp h2 hrd
      repeat (first
        | refine qv rfl (qp rfl) rfl rfl ?_ | refine TL_nil ?_ | refine T_seq ?_ | refine T_region ?_ | refine qcT rfl ?_ | refine qcF rfl ?_ | refine T_skip ?_
        | refine T_exit ?_ | refine T_ret ?_ | refine T_block ?_ | refine E_then ?_ | refine E_thenX ?_ | refine E_thenR ?_ | refine E_blockN ?_
        | refine E_blockR ?_ | refine E_blockX ?_ | refine E_blockO rfl ?_ | refine qv rfl (rr_idxc Und.eq TyC.ty rfl rfl c2) rfl rfl ?_
        | refine qv rfl (rr_loadN TyC.ty rfl rfl hat) rfl rfl ?_ | refine qv rfl (qlen Und.eq rfl) rfl rfl ?_
        | refine qv rfl (rr_lss rfl rfl (qT (by omega))) rfl rfl ?_ | refine qv rfl (rr_lss rfl rfl (qF (by omega))) rfl rfl ?_
        | refine qv rfl (rr_add64 rfl rfl (by omega) (by omega) rfl) rfl rfl ?_)
      refine TL_call (he1c hen rfl rfl) (fun w hm => hcl w hm.below) rfl rfl rfl ?_
      intro _ _
      repeat (first
        | refine qv rfl (qp rfl) rfl rfl ?_ | refine TL_nil ?_ | refine T_seq ?_ | refine T_region ?_ | refine qcT rfl ?_ | refine qcF rfl ?_ | refine T_skip ?_
        | refine T_exit ?_ | refine T_ret ?_ | refine T_block ?_ | refine E_then ?_ | refine E_thenX ?_ | refine E_thenR ?_ | refine E_blockN ?_
        | refine E_blockR ?_ | refine E_blockX ?_ | refine E_blockO rfl ?_ | refine qv rfl (qlen Und.eq rfl) rfl rfl ?_
        | refine qv rfl (rr_lss rfl rfl (qT (by omega))) rfl rfl ?_ | refine qv rfl (rr_lss rfl rfl (qF (by omega))) rfl rfl ?_
        | refine qv rfl (rr_add64 rfl rfl (by omega) (by omega) rfl) rfl rfl ?_)
      exact E_ret1 rfl rfl fun w hm => hm.ret
    · have c3' : p l[k] = false := by simpa using c3
      rw [c3'] at hcl
      clear hp hrd c3
      repeat (first
        | refine qv rfl (qp rfl) rfl rfl ?_ | refine TL_nil ?_ | refine T_seq ?_ | refine T_region ?_ | refine qcT rfl ?_ | refine qcF rfl ?_ | refine T_skip ?_
        | refine T_exit ?_ | refine T_ret ?_ | refine T_block ?_ | refine E_then ?_ | refine E_thenX ?_ | refine E_thenR ?_ | refine E_blockN ?_
        | refine E_blockR ?_ | refine E_blockX ?_ | refine E_blockO rfl ?_ | refine qv rfl (rr_idxc Und.eq TyC.ty rfl rfl c2) rfl rfl ?_
        | refine qv rfl (rr_loadN TyC.ty rfl rfl hat) rfl rfl ?_ | refine qv rfl (qlen Und.eq rfl) rfl rfl ?_
        | refine qv rfl (rr_lss rfl rfl (qT (by omega))) rfl rfl ?_ | refine qv rfl (rr_lss rfl rfl (qF (by omega))) rfl rfl ?_
        | refine qv rfl (rr_add64 rfl rfl (by omega) (by omega) rfl) rfl rfl ?_)
      refine TL_call (he1c hen rfl rfl) (fun w hm => hcl w hm.below) rfl rfl rfl ?_
      intro _ _
      repeat (first
        | refine qv rfl (qp rfl) rfl rfl ?_ | refine TL_nil ?_ | refine T_seq ?_ | refine T_region ?_ | refine qcT rfl ?_ | refine qcF rfl ?_ | refine T_skip ?_
        | refine T_exit ?_ | refine T_ret ?_ | refine T_block ?_ | refine E_then ?_ | refine E_thenX ?_ | refine E_thenR ?_ | refine E_blockN ?_
        | refine E_blockR ?_ | refine E_blockX ?_ | refine E_blockO rfl ?_ | refine qv rfl (qlen Und.eq rfl) rfl rfl ?_
        | refine qv rfl (rr_lss rfl rfl (qT (by omega))) rfl rfl ?_ | refine qv rfl (rr_lss rfl rfl (qF (by omega))) rfl rfl ?_
        | refine qv rfl (rr_add64 rfl rfl (by omega) (by omega) rfl) rfl rfl ?_)
      exact E_round (k + 1) ⟨by omega, fun j hj h => if e : j < k then h2 j hj e else (by obtain rfl : j = k := (by omega); exact c3')⟩ (by show l.length - (k + 1) < l.length - k; omega) (by repeat' (first | exact True.intro | refine And.intro rfl ?_)) rfl
  · rw [idxF_none fun j hj => h2 j hj (by omega)]
    clear hp h2 hrd
    repeat (first
      | refine qv rfl (qp rfl) rfl rfl ?_ | refine TL_nil ?_ | refine T_seq ?_ | refine T_region ?_ | refine qcT rfl ?_ | refine qcF rfl ?_ | refine T_skip ?_
      | refine T_exit ?_ | refine T_ret ?_ | refine T_block ?_ | refine E_then ?_ | refine E_thenX ?_ | refine E_thenR ?_ | refine E_blockN ?_
      | refine E_blockR ?_ | refine E_blockX ?_ | refine E_blockO rfl ?_ | refine qv rfl (qlen Und.eq rfl) rfl rfl ?_
      | refine qv rfl (rr_lss rfl rfl (qT (by omega))) rfl rfl ?_ | refine qv rfl (rr_lss rfl rfl (qF (by omega))) rfl rfl ?_
      | refine qv rfl (rr_add64 rfl rfl (by omega) (by omega) rfl) rfl rfl ?_)
    exact E_ret1 rfl rfl fun w hm => hm.ret
theorem containsFuncSymS_calls (v : Value) (l : List Sym) (w : World) (hs : Sl w v l.length (l.flatMap symC)) (fid : FuncId) (first cp : Array Value) (p : Sym → Bool) (hen : Enters Try.prog fid)
    (hp : ∀ a ∈ l, ∀ w', Gr w w' → Calls Try.prog fid (first ++ #[(.agg (symC a).toArray)] ++ cp) w' (Meets (ret (.bool (p a))) w')) :
    Calls Try.prog 58 #[v, .func (.func fid) first cp] w (Meets (ret (.bool (l.any p))) w) := by
  refine enter (args := [v, .func (.func fid) first cp]) (n := 9) Try.func58 rfl rfl rfl ?_
  have hh := fun w' (hg : Gr w w') => indexFuncSymS_calls v l w' (hs.gr hg) fid first cp p hen fun a ha w'' hg' => hp a ha w'' (hg.trans hg')
  have hr := idxF_range p l
  rw [← idxF_any p l]
  generalize idxF p l = r at *
  repeat (first
    | refine qv rfl (qp rfl) rfl rfl ?_ | refine TL_nil ?_ | refine T_seq ?_ | refine T_region ?_ | refine T_ret ?_ | refine E_then ?_ | refine E_thenR ?_
    | refine qv rfl (rr_geq rfl rfl (qT (by omega))) rfl rfl ?_ | refine qv rfl (rr_geq rfl rfl (qF (by omega))) rfl rfl ?_)
  refine TL_call (he2 EntersC.en rfl rfl rfl) (fun w hm => hh _ hm.below) rfl rfl rfl ?_
  intro _ _
  repeat (first
    | refine qv rfl (qp rfl) rfl rfl ?_ | refine TL_nil ?_ | refine T_seq ?_ | refine T_region ?_ | refine T_ret ?_ | refine E_then ?_ | refine E_thenR ?_
    | refine qv rfl (rr_geq rfl rfl rfl) rfl rfl ?_ | refine qv rfl (rr_geq rfl rfl (qT (by omega))) rfl rfl ?_
    | refine qv rfl (rr_geq rfl rfl (qF (by omega))) rfl rfl ?_)
  exact E_ret1 rfl rfl fun w hm => hm.ret
end Go.Proofs.Ytkkiopmdcolobaa.eng

/- Gram -/
namespace Go.Proofs.Ytkkiopmdcolobaa.eng
open Go.RowKit kit mix gramL
theorem right_calls (t n : Int) (vp : Value) (x : Sym) (w : World) : Calls Try.prog 60 #[graV t n vp, .agg (symC x).toArray] w (Meets (ret (.bool (right t n x))) w) := by
  obtain ⟨k, q⟩ := x
  refine enter (args := [graV t n vp, .agg (symC (k, q)).toArray]) (n := 31) Try.func60 rfl rfl rfl ?_
  refine T_seq (T_region (TL_box rfl rfl rfl fun g0 => TL_box rfl rfl rfl fun g1 => ?_))
  repeat' (first
    | refine qv rfl (qp rfl) rfl rfl ?_
    | refine TL_nil ?_
    | refine T_seq ?_
    | refine T_region ?_
    | refine qcT rfl ?_
    | refine qcF rfl ?_
    | refine T_skip ?_
    | refine T_ret ?_
    | refine T_block ?_
    | refine E_then ?_
    | refine E_thenR ?_
    | refine E_blockN ?_
    | refine E_blockR ?_
    | refine qs rfl rfl rfl rfl rfl rfl ?_
    | (((try refine qg rfl rfl rfl ?_); first | refine qv rfl (qp rfl) rfl rfl ?_ | refine qv rfl (rr_load1 TyC.ty rfl (at_blk (i := 0) rfl rfl)) rfl rfl ?_ | refine qv rfl (rr_load1 TyC.ty rfl (at_blk (i := 1) rfl rfl)) rfl rfl ?_ | refine qv rfl (qfld FldC.fld rfl rfl) rfl rfl ?_ | refine qv rfl (rr_geq rfl rfl (qT (by omega))) rfl rfl ?_ | refine qv rfl (rr_geq rfl rfl (qF (by omega))) rfl rfl ?_ | refine qv rfl (rr_eql rfl rfl (qT (by omega))) rfl rfl ?_ | refine qv rfl (rr_eql rfl rfl (qF (by omega))) rfl rfl ?_ | refine qv rfl (rr_lss rfl rfl (qT (by omega))) rfl rfl ?_ | refine qv rfl (rr_lss rfl rfl (qF (by omega))) rfl rfl ?_))
    | refine TL_gsplitv (rr_lss rfl rfl rfl) rfl rfl rfl rfl rfl (fun h => ?_) (fun h => ?_)
    | refine TL_split (rr_geq rfl rfl rfl) rfl rfl rfl (fun h => ?_) (fun h => ?_)
    | refine TL_split (rr_eql rfl rfl rfl) rfl rfl rfl (fun h => ?_) (fun h => ?_)
    | ((fail_if_success (refine T_condT rfl ?_)); (fail_if_success (refine T_condF rfl ?_)); refine T_condS rfl (fun h => ?_) (fun h => ?_))
    | ((fail_if_success (refine TL_isT rfl rfl rfl ?_)); (fail_if_success (refine TL_isF rfl rfl rfl ?_)); refine TL_gsplit rfl rfl rfl (fun h => ?_) (fun h => ?_)))
  all_goals (refine E_ret1e rfl rfl ?_; congr 1; unfold right; dsimp only at *; repeat (first | rw [if_pos (by omega)] | rw [if_neg (by omega)] | rw [decide_eq_true (by assumption)] | rw [decide_eq_false (by assumption)]); try rfl)
/-- Check's own question -/
theorem check1_calls (t n : Int) (vp : Value) (x : Sym) (g : Nat) (w : World) (hg : w.heap[g]? = some (.cells (graV t n vp).cells 24 (0, 0))) :
    Calls Try.prog 59 #[.agg (symC x).toArray, .pointer (some ⟨g, 0, none⟩)] w (Meets (ret (.bool (!right t n x))) w) := by
  have hcell : ∀ (L : List Own) (j : Nat) (v : Value), ([.int .i64 t, .int .i64 n, vp] : List Value)[j]? = some v → At w L ⟨g, 0 + j, none⟩ v := fun L j v hj => at_old (by
    rw [cell_of_row w g (0 + j) _ _ _ hg, Nat.zero_add]
    show (#[.int .i64 t, .int .i64 n, vp] : Array Value)[j]? = some v
    simpa using hj)
  have hr := right_calls t n vp x
  refine enter (args := [.agg (symC x).toArray, .pointer (some ⟨g, 0, none⟩)]) (n := 8) Try.func59 rfl rfl rfl ?_
  refine T_seq (T_region (TL_box rfl rfl rfl fun g0 => ?_))
  repeat (first
    | refine qv rfl (qp rfl) rfl rfl ?_ | refine TL_nil ?_ | refine T_seq ?_ | refine T_region ?_ | refine T_ret ?_ | refine E_then ?_ | refine E_thenR ?_
    | refine qv rfl (rr_loadN TyC.ty rfl rfl (hcell _)) rfl rfl ?_ | refine qv rfl (rr_loadB (i := 0) TyC.ty rfl rfl rfl) rfl rfl ?_
    | refine qv rfl (rr_not rfl rfl) rfl rfl ?_)
  refine TL_call (he2 EntersC.en rfl rfl rfl) (fun w hm => hr w) rfl rfl rfl ?_
  intro _ _
  repeat (first
    | refine qv rfl (qp rfl) rfl rfl ?_ | refine TL_nil ?_ | refine T_seq ?_ | refine T_region ?_ | refine T_ret ?_ | refine E_then ?_ | refine E_thenR ?_
    | refine qv rfl (rr_not rfl rfl) rfl rfl ?_)
  exact E_ret1 rfl rfl fun w hm => hm.ret
theorem prodsE_drop {t n : Int} {l : List gramL.Prod} {k : Nat} (h : k < l.length) (h0 : prodE t n l[k] = 0) : prodsE t n (l.drop k) = prodsE t n (l.drop (k + 1)) := by
  rw [List.drop_eq_getElem_cons h, prodsE, if_neg (by simp [h0])]
theorem prodsE_stop {t n : Int} {l : List gramL.Prod} {k : Nat} (h : k < l.length) (h0 : prodE t n l[k] ≠ 0) : prodsE t n (l.drop k) = prodE t n l[k] := by
  rw [List.drop_eq_getElem_cons h, prodsE, if_pos h0]
set_option maxHeartbeats 2000000 in
theorem checkG_calls (v : Value) (g : Gram) (w : World) (h : GraR (fun k => k < w.heap.size) w v g) :
    Calls Try.prog 35 #[v] w (Meets (ret (.int .i64 (checkG g))) w) := by
  obtain ⟨vp, rfl, h1, _⟩ := h
  obtain ⟨bp, cp, rfl, hcp, hmp, hrp⟩ := h1
  unfold maxLen at hmp
  obtain ⟨t, n, prods⟩ := g
  dsimp only at *
  refine enter (args := [graV t n (.slice bp prods.length cp)]) (n := 57) Try.func35 rfl rfl rfl ?_
  refine T_seq (T_region (TL_box rfl rfl rfl fun g0 => ?_))
  unfold checkG
  dsimp only
  by_cases c1 : t < 0
  · rw [if_pos c1]
    repeat (first
      | refine qv rfl (qp rfl) rfl rfl ?_ | refine TL_nil ?_ | refine T_seq ?_ | refine T_region ?_ | refine qcT rfl ?_ | refine qcF rfl ?_ | refine T_skip ?_
      | refine T_exit ?_ | refine T_ret ?_ | refine T_block ?_ | refine E_then ?_ | refine E_thenX ?_ | refine E_thenR ?_ | refine E_blockN ?_
      | refine E_blockR ?_ | refine E_blockX ?_ | refine E_blockO rfl ?_ | refine qs rfl rfl rfl rfl rfl rfl ?_
      | ((try refine qg rfl rfl rfl ?_); first | refine qv rfl (qp rfl) rfl rfl ?_ | refine qv rfl (rr_load1 TyC.ty rfl (at_blk (i := 0) rfl rfl)) rfl rfl ?_ | refine qv rfl (qlen Und.eq rfl) rfl rfl ?_ | refine qv rfl (qfld FldC.fld rfl rfl) rfl rfl ?_ | refine qv rfl (rr_lss rfl rfl (qT (by omega))) rfl rfl ?_ | refine qv rfl (rr_lss rfl rfl (qF (by omega))) rfl rfl ?_ | refine qv rfl (rr_gtr rfl rfl (qT (by omega))) rfl rfl ?_ | refine qv rfl (rr_gtr rfl rfl (qF (by omega))) rfl rfl ?_ | refine qv rfl (rr_add64 rfl rfl (by omega) (by omega) rfl) rfl rfl ?_ | refine qv rfl (rr_geq rfl rfl (qT (by omega))) rfl rfl ?_ | refine qv rfl (rr_geq rfl rfl (qF (by omega))) rfl rfl ?_))
    exact E_ret1 rfl rfl fun w hm => hm.ret
  rw [if_neg c1]
  by_cases c2 : 30 < t
  · rw [if_pos c2]
    repeat (first
      | refine qv rfl (qp rfl) rfl rfl ?_ | refine TL_nil ?_ | refine T_seq ?_ | refine T_region ?_ | refine qcT rfl ?_ | refine qcF rfl ?_ | refine T_skip ?_
      | refine T_exit ?_ | refine T_ret ?_ | refine T_block ?_ | refine E_then ?_ | refine E_thenX ?_ | refine E_thenR ?_ | refine E_blockN ?_
      | refine E_blockR ?_ | refine E_blockX ?_ | refine E_blockO rfl ?_ | refine qs rfl rfl rfl rfl rfl rfl ?_
      | ((try refine qg rfl rfl rfl ?_); first | refine qv rfl (qp rfl) rfl rfl ?_ | refine qv rfl (rr_load1 TyC.ty rfl (at_blk (i := 0) rfl rfl)) rfl rfl ?_ | refine qv rfl (qlen Und.eq rfl) rfl rfl ?_ | refine qv rfl (qfld FldC.fld rfl rfl) rfl rfl ?_ | refine qv rfl (rr_lss rfl rfl (qT (by omega))) rfl rfl ?_ | refine qv rfl (rr_lss rfl rfl (qF (by omega))) rfl rfl ?_ | refine qv rfl (rr_gtr rfl rfl (qT (by omega))) rfl rfl ?_ | refine qv rfl (rr_gtr rfl rfl (qF (by omega))) rfl rfl ?_ | refine qv rfl (rr_add64 rfl rfl (by omega) (by omega) rfl) rfl rfl ?_ | refine qv rfl (rr_geq rfl rfl (qT (by omega))) rfl rfl ?_ | refine qv rfl (rr_geq rfl rfl (qF (by omega))) rfl rfl ?_))
    exact E_ret1 rfl rfl fun w hm => hm.ret
  rw [if_neg c2]
  by_cases c3 : n < 1
  · rw [if_pos c3]
    repeat (first
      | refine qv rfl (qp rfl) rfl rfl ?_ | refine TL_nil ?_ | refine T_seq ?_ | refine T_region ?_ | refine qcT rfl ?_ | refine qcF rfl ?_ | refine T_skip ?_
      | refine T_exit ?_ | refine T_ret ?_ | refine T_block ?_ | refine E_then ?_ | refine E_thenX ?_ | refine E_thenR ?_ | refine E_blockN ?_
      | refine E_blockR ?_ | refine E_blockX ?_ | refine E_blockO rfl ?_ | refine qs rfl rfl rfl rfl rfl rfl ?_
      | ((try refine qg rfl rfl rfl ?_); first | refine qv rfl (qp rfl) rfl rfl ?_ | refine qv rfl (rr_load1 TyC.ty rfl (at_blk (i := 0) rfl rfl)) rfl rfl ?_ | refine qv rfl (qlen Und.eq rfl) rfl rfl ?_ | refine qv rfl (qfld FldC.fld rfl rfl) rfl rfl ?_ | refine qv rfl (rr_lss rfl rfl (qT (by omega))) rfl rfl ?_ | refine qv rfl (rr_lss rfl rfl (qF (by omega))) rfl rfl ?_ | refine qv rfl (rr_gtr rfl rfl (qT (by omega))) rfl rfl ?_ | refine qv rfl (rr_gtr rfl rfl (qF (by omega))) rfl rfl ?_ | refine qv rfl (rr_add64 rfl rfl (by omega) (by omega) rfl) rfl rfl ?_ | refine qv rfl (rr_geq rfl rfl (qT (by omega))) rfl rfl ?_ | refine qv rfl (rr_geq rfl rfl (qF (by omega))) rfl rfl ?_))
    exact E_ret1 rfl rfl fun w hm => hm.ret
  rw [if_neg c3]
  by_cases c4 : 20 < n
  · rw [if_pos c4]
    repeat (first
      | refine qv rfl (qp rfl) rfl rfl ?_ | refine TL_nil ?_ | refine T_seq ?_ | refine T_region ?_ | refine qcT rfl ?_ | refine qcF rfl ?_ | refine T_skip ?_
      | refine T_exit ?_ | refine T_ret ?_ | refine T_block ?_ | refine E_then ?_ | refine E_thenX ?_ | refine E_thenR ?_ | refine E_blockN ?_
      | refine E_blockR ?_ | refine E_blockX ?_ | refine E_blockO rfl ?_ | refine qs rfl rfl rfl rfl rfl rfl ?_
      | ((try refine qg rfl rfl rfl ?_); first | refine qv rfl (qp rfl) rfl rfl ?_ | refine qv rfl (rr_load1 TyC.ty rfl (at_blk (i := 0) rfl rfl)) rfl rfl ?_ | refine qv rfl (qlen Und.eq rfl) rfl rfl ?_ | refine qv rfl (qfld FldC.fld rfl rfl) rfl rfl ?_ | refine qv rfl (rr_lss rfl rfl (qT (by omega))) rfl rfl ?_ | refine qv rfl (rr_lss rfl rfl (qF (by omega))) rfl rfl ?_ | refine qv rfl (rr_gtr rfl rfl (qT (by omega))) rfl rfl ?_ | refine qv rfl (rr_gtr rfl rfl (qF (by omega))) rfl rfl ?_ | refine qv rfl (rr_add64 rfl rfl (by omega) (by omega) rfl) rfl rfl ?_ | refine qv rfl (rr_geq rfl rfl (qT (by omega))) rfl rfl ?_ | refine qv rfl (rr_geq rfl rfl (qF (by omega))) rfl rfl ?_))
    exact E_ret1 rfl rfl fun w hm => hm.ret
  rw [if_neg c4]
  by_cases c5 : 40 < prods.length
  · rw [if_pos c5]
    repeat (first
      | refine qv rfl (qp rfl) rfl rfl ?_ | refine TL_nil ?_ | refine T_seq ?_ | refine T_region ?_ | refine qcT rfl ?_ | refine qcF rfl ?_ | refine T_skip ?_
      | refine T_exit ?_ | refine T_ret ?_ | refine T_block ?_ | refine E_then ?_ | refine E_thenX ?_ | refine E_thenR ?_ | refine E_blockN ?_
      | refine E_blockR ?_ | refine E_blockX ?_ | refine E_blockO rfl ?_ | refine qs rfl rfl rfl rfl rfl rfl ?_
      | ((try refine qg rfl rfl rfl ?_); first | refine qv rfl (qp rfl) rfl rfl ?_ | refine qv rfl (rr_load1 TyC.ty rfl (at_blk (i := 0) rfl rfl)) rfl rfl ?_ | refine qv rfl (qlen Und.eq rfl) rfl rfl ?_ | refine qv rfl (qfld FldC.fld rfl rfl) rfl rfl ?_ | refine qv rfl (rr_lss rfl rfl (qT (by omega))) rfl rfl ?_ | refine qv rfl (rr_lss rfl rfl (qF (by omega))) rfl rfl ?_ | refine qv rfl (rr_gtr rfl rfl (qT (by omega))) rfl rfl ?_ | refine qv rfl (rr_gtr rfl rfl (qF (by omega))) rfl rfl ?_ | refine qv rfl (rr_add64 rfl rfl (by omega) (by omega) rfl) rfl rfl ?_ | refine qv rfl (rr_geq rfl rfl (qT (by omega))) rfl rfl ?_ | refine qv rfl (rr_geq rfl rfl (qF (by omega))) rfl rfl ?_))
    exact E_ret1 rfl rfl fun w hm => hm.ret
  rw [if_neg c5]
  repeat (first
    | refine qv rfl (qp rfl) rfl rfl ?_ | refine TL_nil ?_ | refine T_seq ?_ | refine T_region ?_ | refine qcT rfl ?_ | refine qcF rfl ?_ | refine T_skip ?_
    | refine T_exit ?_ | refine T_ret ?_ | refine T_block ?_ | refine E_then ?_ | refine E_thenX ?_ | refine E_thenR ?_ | refine E_blockN ?_
    | refine E_blockR ?_ | refine E_blockX ?_ | refine E_blockO rfl ?_ | refine qs rfl rfl rfl rfl rfl rfl ?_
    | ((try refine qg rfl rfl rfl ?_); first | refine qv rfl (qp rfl) rfl rfl ?_ | refine qv rfl (rr_load1 TyC.ty rfl (at_blk (i := 0) rfl rfl)) rfl rfl ?_ | refine qv rfl (qlen Und.eq rfl) rfl rfl ?_ | refine qv rfl (qfld FldC.fld rfl rfl) rfl rfl ?_ | refine qv rfl (rr_lss rfl rfl (qT (by omega))) rfl rfl ?_ | refine qv rfl (rr_lss rfl rfl (qF (by omega))) rfl rfl ?_ | refine qv rfl (rr_gtr rfl rfl (qT (by omega))) rfl rfl ?_ | refine qv rfl (rr_gtr rfl rfl (qF (by omega))) rfl rfl ?_ | refine qv rfl (rr_add64 rfl rfl (by omega) (by omega) rfl) rfl rfl ?_ | refine qv rfl (rr_geq rfl rfl (qT (by omega))) rfl rfl ?_ | refine qv rfl (rr_geq rfl rfl (qF (by omega))) rfl rfl ?_))
  refine T_loop (ι := Nat) (fun k => k ≤ prods.length ∧ prodsE t n prods = prodsE t n (prods.drop k)) (fun k => [(1, .pointer (some ⟨g0, 0, none⟩)), (30, .slice bp prods.length cp), (31, .int .i64 prods.length), (32, .int .i64 (k : Int))]) (fun _ => [blkO g0 (graV t n (.slice bp prods.length cp)).cells 24]) (fun k => prods.length - k) 0 ⟨Nat.zero_le _, rfl⟩ (by repeat' (first | exact True.intro | refine And.intro rfl ?_)) rfl ?_
  rintro k ⟨i1, i2⟩
  rw [i2]
  clear i2
  by_cases c6 : k < prods.length
  · obtain ⟨b, off, rfl, _, hr⟩ := hrp (by omega)
    obtain ⟨bb, cb, q1, q2, q3⟩ := prod_at hr c6
    have hstop := prodsE_stop (t := t) (n := n) c6
    have hdrop := prodsE_drop (t := t) (n := n) c6
    have hat : ∀ (L : List Own) (j : Nat) (v : Value), ([.int .i64 prods[k].1, .slice bb prods[k].2.length cb] : List Value)[j]? = some v → At w L ⟨b, off + k * 2 + j, none⟩ v := fun L j v hj => at_rd q1 hj
    clear hr hrp q1
    generalize prods[k] = p at *
    obtain ⟨hd, body⟩ := p
    have hco := fun w' (hg : Gr w w') (hb : w'.heap[g0]? = some (.cells (graV t n (.slice (some ⟨b, off, none⟩) prods.length cp)).cells 24 (0, 0))) => containsFuncSymS_calls (.slice bb body.length cb) body w' ((q3.flat (by decide)).gr hg) 59 #[] #[.pointer (some ⟨g0, 0, none⟩)] (fun x => !right t n x) EntersC.en (fun a _ w'' hg' => check1_calls t n _ a g0 w'' (by rw [hg'.block g0 (Array.getElem?_eq_some_iff.1 hb).1]; exact hb))
    dsimp only at *
    repeat (first
      | refine qv rfl (qp rfl) rfl rfl ?_ | refine TL_nil ?_ | refine T_seq ?_ | refine T_region ?_ | refine qcT rfl ?_ | refine qcF rfl ?_ | refine T_skip ?_
      | refine T_exit ?_ | refine T_ret ?_ | refine T_block ?_ | refine E_then ?_ | refine E_thenX ?_ | refine E_thenR ?_ | refine E_blockN ?_
      | refine E_blockR ?_ | refine E_blockX ?_ | refine E_blockO rfl ?_ | refine qs rfl rfl rfl rfl rfl rfl ?_
      | ((try refine qg rfl rfl rfl ?_); first | refine qv rfl (qp rfl) rfl rfl ?_ | refine qv rfl (rr_idxc Und.eq TyC.ty rfl rfl c6) rfl rfl ?_ | refine qv rfl (rr_loadN TyC.ty rfl rfl (hat _)) rfl rfl ?_ | refine qv rfl (qlen Und.eq rfl) rfl rfl ?_ | refine qv rfl (qfld FldC.fld rfl rfl) rfl rfl ?_ | refine qv rfl (rr_lss rfl rfl (qT (by omega))) rfl rfl ?_ | refine qv rfl (rr_lss rfl rfl (qF (by omega))) rfl rfl ?_ | refine qv rfl (rr_gtr rfl rfl (qT (by omega))) rfl rfl ?_ | refine qv rfl (rr_gtr rfl rfl (qF (by omega))) rfl rfl ?_ | refine qv rfl (rr_add64 rfl rfl (by omega) (by omega) rfl) rfl rfl ?_ | refine qv rfl (rr_geq rfl rfl (qT (by omega))) rfl rfl ?_ | refine qv rfl (rr_geq rfl rfl (qF (by omega))) rfl rfl ?_))
    clear hat
    refine TL_new rfl fun g4 => ?_
    refine TL_storeB (i := 1) rfl rfl rfl rfl rfl rfl ?_
    conv => arg 8; simp only [zA, zB, zC, zD, zE, zF, zG, zH, zI, rowS, ret, id_eq]
    unfold prodE at hstop hdrop
    dsimp only at hstop hdrop
    by_cases c7 : 8 < body.length
    · rw [if_pos c7] at hstop
      rw [hstop (by decide)]
      repeat (first
        | refine qv rfl (qp rfl) rfl rfl ?_ | refine TL_nil ?_ | refine T_seq ?_ | refine T_region ?_ | refine qcT rfl ?_ | refine qcF rfl ?_ | refine T_skip ?_
        | refine T_exit ?_ | refine T_ret ?_ | refine T_block ?_ | refine E_then ?_ | refine E_thenX ?_ | refine E_thenR ?_ | refine E_blockN ?_
        | refine E_blockR ?_ | refine E_blockX ?_ | refine E_blockO rfl ?_ | refine qs rfl rfl rfl rfl rfl rfl ?_
        | ((try refine qg rfl rfl rfl ?_); first | refine qv rfl (qp rfl) rfl rfl ?_ | refine qv rfl (rr_load1 TyC.ty rfl (at_blk (i := 1) rfl rfl)) rfl rfl ?_ | refine qv rfl (qlen Und.eq rfl) rfl rfl ?_ | refine qv rfl (qfld FldC.fld rfl rfl) rfl rfl ?_ | refine qv rfl (rr_lss rfl rfl (qT (by omega))) rfl rfl ?_ | refine qv rfl (rr_lss rfl rfl (qF (by omega))) rfl rfl ?_ | refine qv rfl (rr_gtr rfl rfl (qT (by omega))) rfl rfl ?_ | refine qv rfl (rr_gtr rfl rfl (qF (by omega))) rfl rfl ?_ | refine qv rfl (rr_add64 rfl rfl (by omega) (by omega) rfl) rfl rfl ?_ | refine qv rfl (rr_geq rfl rfl (qT (by omega))) rfl rfl ?_ | refine qv rfl (rr_geq rfl rfl (qF (by omega))) rfl rfl ?_))
      exact E_ret1 rfl rfl fun w hm => hm.ret
    rw [if_neg c7] at hstop hdrop
    by_cases c8 : hd < 0
    · rw [if_pos c8] at hstop
      rw [hstop (by decide)]
      repeat (first
        | refine qv rfl (qp rfl) rfl rfl ?_ | refine TL_nil ?_ | refine T_seq ?_ | refine T_region ?_ | refine qcT rfl ?_ | refine qcF rfl ?_ | refine T_skip ?_
        | refine T_exit ?_ | refine T_ret ?_ | refine T_block ?_ | refine E_then ?_ | refine E_thenX ?_ | refine E_thenR ?_ | refine E_blockN ?_
        | refine E_blockR ?_ | refine E_blockX ?_ | refine E_blockO rfl ?_ | refine qs rfl rfl rfl rfl rfl rfl ?_
        | ((try refine qg rfl rfl rfl ?_); first | refine qv rfl (qp rfl) rfl rfl ?_ | refine qv rfl (rr_load1 TyC.ty rfl (at_blk (i := 1) rfl rfl)) rfl rfl ?_ | refine qv rfl (qlen Und.eq rfl) rfl rfl ?_ | refine qv rfl (qfld FldC.fld rfl rfl) rfl rfl ?_ | refine qv rfl (rr_lss rfl rfl (qT (by omega))) rfl rfl ?_ | refine qv rfl (rr_lss rfl rfl (qF (by omega))) rfl rfl ?_ | refine qv rfl (rr_gtr rfl rfl (qT (by omega))) rfl rfl ?_ | refine qv rfl (rr_gtr rfl rfl (qF (by omega))) rfl rfl ?_ | refine qv rfl (rr_add64 rfl rfl (by omega) (by omega) rfl) rfl rfl ?_ | refine qv rfl (rr_geq rfl rfl (qT (by omega))) rfl rfl ?_ | refine qv rfl (rr_geq rfl rfl (qF (by omega))) rfl rfl ?_))
      exact E_ret1 rfl rfl fun w hm => hm.ret
    rw [if_neg c8] at hstop hdrop
    by_cases c9 : n ≤ hd
    · rw [if_pos c9] at hstop
      rw [hstop (by decide)]
      repeat (first
        | refine qv rfl (qp rfl) rfl rfl ?_ | refine TL_nil ?_ | refine T_seq ?_ | refine T_region ?_ | refine qcT rfl ?_ | refine qcF rfl ?_ | refine T_skip ?_
        | refine T_exit ?_ | refine T_ret ?_ | refine T_block ?_ | refine E_then ?_ | refine E_thenX ?_ | refine E_thenR ?_ | refine E_blockN ?_
        | refine E_blockR ?_ | refine E_blockX ?_ | refine E_blockO rfl ?_ | refine qs rfl rfl rfl rfl rfl rfl ?_
        | ((try refine qg rfl rfl rfl ?_); first | refine qv rfl (qp rfl) rfl rfl ?_ | refine qv rfl (rr_load1 TyC.ty rfl (at_blk (i := 1) rfl rfl)) rfl rfl ?_ | refine qv rfl (rr_load1 TyC.ty rfl (at_blk (i := 0) rfl rfl)) rfl rfl ?_ | refine qv rfl (qlen Und.eq rfl) rfl rfl ?_ | refine qv rfl (qfld FldC.fld rfl rfl) rfl rfl ?_ | refine qv rfl (rr_lss rfl rfl (qT (by omega))) rfl rfl ?_ | refine qv rfl (rr_lss rfl rfl (qF (by omega))) rfl rfl ?_ | refine qv rfl (rr_gtr rfl rfl (qT (by omega))) rfl rfl ?_ | refine qv rfl (rr_gtr rfl rfl (qF (by omega))) rfl rfl ?_ | refine qv rfl (rr_add64 rfl rfl (by omega) (by omega) rfl) rfl rfl ?_ | refine qv rfl (rr_geq rfl rfl (qT (by omega))) rfl rfl ?_ | refine qv rfl (rr_geq rfl rfl (qF (by omega))) rfl rfl ?_))
      exact E_ret1 rfl rfl fun w hm => hm.ret
    rw [if_neg c9] at hstop hdrop
    by_cases c10 : body.any (fun x => !right t n x) = true
    · rw [if_pos c10] at hstop
      rw [hstop (by decide)]
      rw [c10] at hco
      repeat (first
        | refine qv rfl (qp rfl) rfl rfl ?_ | refine TL_nil ?_ | refine T_seq ?_ | refine T_region ?_ | refine qcT rfl ?_ | refine qcF rfl ?_ | refine T_skip ?_
        | refine T_exit ?_ | refine T_ret ?_ | refine T_block ?_ | refine E_then ?_ | refine E_thenX ?_ | refine E_thenR ?_ | refine E_blockN ?_
        | refine E_blockR ?_ | refine E_blockX ?_ | refine E_blockO rfl ?_ | refine qs rfl rfl rfl rfl rfl rfl ?_
        | ((try refine qg rfl rfl rfl ?_); first | refine qv rfl (qp rfl) rfl rfl ?_ | refine qv rfl (rr_load1 TyC.ty rfl (at_blk (i := 1) rfl rfl)) rfl rfl ?_ | refine qv rfl (rr_load1 TyC.ty rfl (at_blk (i := 0) rfl rfl)) rfl rfl ?_ | refine qv rfl (qlen Und.eq rfl) rfl rfl ?_ | refine qv rfl (qfld FldC.fld rfl rfl) rfl rfl ?_ | refine qv rfl (rr_lss rfl rfl (qT (by omega))) rfl rfl ?_ | refine qv rfl (rr_lss rfl rfl (qF (by omega))) rfl rfl ?_ | refine qv rfl (rr_gtr rfl rfl (qT (by omega))) rfl rfl ?_ | refine qv rfl (rr_gtr rfl rfl (qF (by omega))) rfl rfl ?_ | refine qv rfl (rr_add64 rfl rfl (by omega) (by omega) rfl) rfl rfl ?_ | refine qv rfl (rr_func rfl rfl) rfl rfl ?_ | refine qv rfl (rr_geq rfl rfl (qT (by omega))) rfl rfl ?_ | refine qv rfl (rr_geq rfl rfl (qF (by omega))) rfl rfl ?_))
      refine TL_gcall (he2 EntersC.en rfl rfl rfl) (fun w hm => hco _ hm.below (hm.get (i := 0) rfl)) rfl rfl rfl rfl rfl ?_
      intro _ _
      repeat (first
        | refine qv rfl (qp rfl) rfl rfl ?_ | refine TL_nil ?_ | refine T_seq ?_ | refine T_region ?_ | refine qcT rfl ?_ | refine qcF rfl ?_ | refine T_skip ?_
        | refine T_exit ?_ | refine T_ret ?_ | refine T_block ?_ | refine E_then ?_ | refine E_thenX ?_ | refine E_thenR ?_ | refine E_blockN ?_
        | refine E_blockR ?_ | refine E_blockX ?_ | refine E_blockO rfl ?_ | refine qs rfl rfl rfl rfl rfl rfl ?_
        | ((try refine qg rfl rfl rfl ?_); first | refine qv rfl (qp rfl) rfl rfl ?_ | refine qv rfl (qlen Und.eq rfl) rfl rfl ?_ | refine qv rfl (qfld FldC.fld rfl rfl) rfl rfl ?_ | refine qv rfl (rr_lss rfl rfl (qT (by omega))) rfl rfl ?_ | refine qv rfl (rr_lss rfl rfl (qF (by omega))) rfl rfl ?_ | refine qv rfl (rr_gtr rfl rfl (qT (by omega))) rfl rfl ?_ | refine qv rfl (rr_gtr rfl rfl (qF (by omega))) rfl rfl ?_ | refine qv rfl (rr_add64 rfl rfl (by omega) (by omega) rfl) rfl rfl ?_ | refine qv rfl (rr_geq rfl rfl (qT (by omega))) rfl rfl ?_ | refine qv rfl (rr_geq rfl rfl (qF (by omega))) rfl rfl ?_))
      exact E_ret1 rfl rfl fun w hm => hm.ret
    · have c10' : body.any (fun x => !right t n x) = false := by simpa using c10
      rw [if_neg c10] at hdrop
      rw [c10'] at hco
      repeat (first
        | refine qv rfl (qp rfl) rfl rfl ?_ | refine TL_nil ?_ | refine T_seq ?_ | refine T_region ?_ | refine qcT rfl ?_ | refine qcF rfl ?_ | refine T_skip ?_
        | refine T_exit ?_ | refine T_ret ?_ | refine T_block ?_ | refine E_then ?_ | refine E_thenX ?_ | refine E_thenR ?_ | refine E_blockN ?_
        | refine E_blockR ?_ | refine E_blockX ?_ | refine E_blockO rfl ?_ | refine qs rfl rfl rfl rfl rfl rfl ?_
        | ((try refine qg rfl rfl rfl ?_); first | refine qv rfl (qp rfl) rfl rfl ?_ | refine qv rfl (rr_load1 TyC.ty rfl (at_blk (i := 1) rfl rfl)) rfl rfl ?_ | refine qv rfl (rr_load1 TyC.ty rfl (at_blk (i := 0) rfl rfl)) rfl rfl ?_ | refine qv rfl (qlen Und.eq rfl) rfl rfl ?_ | refine qv rfl (qfld FldC.fld rfl rfl) rfl rfl ?_ | refine qv rfl (rr_lss rfl rfl (qT (by omega))) rfl rfl ?_ | refine qv rfl (rr_lss rfl rfl (qF (by omega))) rfl rfl ?_ | refine qv rfl (rr_gtr rfl rfl (qT (by omega))) rfl rfl ?_ | refine qv rfl (rr_gtr rfl rfl (qF (by omega))) rfl rfl ?_ | refine qv rfl (rr_add64 rfl rfl (by omega) (by omega) rfl) rfl rfl ?_ | refine qv rfl (rr_func rfl rfl) rfl rfl ?_ | refine qv rfl (rr_geq rfl rfl (qT (by omega))) rfl rfl ?_ | refine qv rfl (rr_geq rfl rfl (qF (by omega))) rfl rfl ?_))
      refine TL_gcall (he2 EntersC.en rfl rfl rfl) (fun w hm => hco _ hm.below (hm.get (i := 0) rfl)) rfl rfl rfl rfl rfl ?_
      intro _ _
      repeat (first
        | refine qv rfl (qp rfl) rfl rfl ?_ | refine TL_nil ?_ | refine T_seq ?_ | refine T_region ?_ | refine qcT rfl ?_ | refine qcF rfl ?_ | refine T_skip ?_
        | refine T_exit ?_ | refine T_ret ?_ | refine T_block ?_ | refine E_then ?_ | refine E_thenX ?_ | refine E_thenR ?_ | refine E_blockN ?_
        | refine E_blockR ?_ | refine E_blockX ?_ | refine E_blockO rfl ?_ | refine qs rfl rfl rfl rfl rfl rfl ?_
        | ((try refine qg rfl rfl rfl ?_); first | refine qv rfl (qp rfl) rfl rfl ?_ | refine qv rfl (qlen Und.eq rfl) rfl rfl ?_ | refine qv rfl (qfld FldC.fld rfl rfl) rfl rfl ?_ | refine qv rfl (rr_lss rfl rfl (qT (by omega))) rfl rfl ?_ | refine qv rfl (rr_lss rfl rfl (qF (by omega))) rfl rfl ?_ | refine qv rfl (rr_gtr rfl rfl (qT (by omega))) rfl rfl ?_ | refine qv rfl (rr_gtr rfl rfl (qF (by omega))) rfl rfl ?_ | refine qv rfl (rr_add64 rfl rfl (by omega) (by omega) rfl) rfl rfl ?_ | refine qv rfl (rr_geq rfl rfl (qT (by omega))) rfl rfl ?_ | refine qv rfl (rr_geq rfl rfl (qF (by omega))) rfl rfl ?_))
      refine E_pick [0] (by decide) rfl ?_
      exact E_round (k + 1) ⟨by omega, hdrop rfl⟩ (by show prods.length - (k + 1) < prods.length - k; omega) (by repeat' (first | exact True.intro | refine And.intro rfl ?_)) rfl
  · rw [List.drop_of_length_le (by omega)]
    repeat (first
      | refine qv rfl (qp rfl) rfl rfl ?_ | refine TL_nil ?_ | refine T_seq ?_ | refine T_region ?_ | refine qcT rfl ?_ | refine qcF rfl ?_ | refine T_skip ?_
      | refine T_exit ?_ | refine T_ret ?_ | refine T_block ?_ | refine E_then ?_ | refine E_thenX ?_ | refine E_thenR ?_ | refine E_blockN ?_
      | refine E_blockR ?_ | refine E_blockX ?_ | refine E_blockO rfl ?_ | refine qs rfl rfl rfl rfl rfl rfl ?_
      | ((try refine qg rfl rfl rfl ?_); first | refine qv rfl (qp rfl) rfl rfl ?_ | refine qv rfl (qlen Und.eq rfl) rfl rfl ?_ | refine qv rfl (qfld FldC.fld rfl rfl) rfl rfl ?_ | refine qv rfl (rr_lss rfl rfl (qT (by omega))) rfl rfl ?_ | refine qv rfl (rr_lss rfl rfl (qF (by omega))) rfl rfl ?_ | refine qv rfl (rr_gtr rfl rfl (qT (by omega))) rfl rfl ?_ | refine qv rfl (rr_gtr rfl rfl (qF (by omega))) rfl rfl ?_ | refine qv rfl (rr_add64 rfl rfl (by omega) (by omega) rfl) rfl rfl ?_ | refine qv rfl (rr_geq rfl rfl (qT (by omega))) rfl rfl ?_ | refine qv rfl (rr_geq rfl rfl (qF (by omega))) rfl rfl ?_))
    exact E_ret1 rfl rfl fun w hm => hm.ret
end Go.Proofs.Ytkkiopmdcolobaa.eng

/- MixX -/
namespace Go.Proofs.Ytkkiopmdcolobaa.eng
open Go.RowKit kit mix
theorem OwnsP.perm {p : Nat → Prop} {w : World} {L L' : List Own} (h : OwnsP p w L) (hp : L.Perm L') : OwnsP p w L' := by
  have hpw : L.Pairwise (fun o o' => ∀ k, o.foot k → ¬ o'.foot k) := List.pairwise_iff_getElem.2 fun i j hi hj hij => h.apart i j _ _ (by omega) (List.getElem?_eq_getElem hi) (List.getElem?_eq_getElem hj)
  have hpw' := List.pairwise_iff_getElem.1 ((hp.pairwise_iff (fun hxy k h1 h2 => hxy k h2 h1)).1 hpw)
  refine ⟨fun i o hi => ?_, fun i j o o' hij hi hj k h1 h2 => ?_⟩
  · obtain ⟨j, hj⟩ := List.getElem?_of_mem (hp.symm.subset (List.mem_of_getElem? hi))
    exact h.all j o hj
  · obtain ⟨hi', rfl⟩ := List.getElem?_eq_some_iff.1 hi
    obtain ⟨hj', rfl⟩ := List.getElem?_eq_some_iff.1 hj
    rcases Nat.lt_or_gt_of_ne hij with h3 | h3
    · exact hpw' i j hi' hj' h3 k h1 h2
    · exact hpw' j i hj' hi' h3 k h2 h1
theorem Mem.perm {W : Base} {w : World} {L L' : List Own} (h : Mem W L w) (hp : L.Perm L') : Mem W L' w := ⟨h.low, h.owns.perm hp⟩
theorem look_perm {l l' : Fr} (hp : l.Perm l') : (l.map (·.1)).Nodup → ∀ (fr : Fr) (i : Nat), look (l ++ fr) i = look (l' ++ fr) i := by
  induction hp with
  | nil => intro _ _ _; rfl
  | cons x _ ih =>
    intro hn fr i
    rw [List.map_cons, List.nodup_cons] at hn
    obtain ⟨k, v⟩ := x
    show (bif Nat.beq k i then some v else _) = (bif Nat.beq k i then some v else _)
    have e := ih hn.2 fr i
    exact congrArg (fun z => bif Nat.beq k i then some v else z) e
  | swap x y l =>
    intro hn fr i
    obtain ⟨k, v⟩ := x
    obtain ⟨k2, v2⟩ := y
    simp only [List.map_cons, List.nodup_cons, List.mem_cons, not_or] at hn
    show (bif Nat.beq k2 i then some v2 else bif Nat.beq k i then some v else _) = (bif Nat.beq k i then some v else bif Nat.beq k2 i then some v2 else _)
    cases e : Nat.beq k2 i
    · rfl
    · cases e2 : Nat.beq k i
      · rfl
      · have a := Nat.eq_of_beq_eq_true e
        have b := Nat.eq_of_beq_eq_true e2
        exact absurd (a.trans b.symm) hn.1.1
  | trans h1 _ ih1 ih2 =>
    intro hn fr i
    rw [ih1 hn, ih2 ((h1.map _).nodup_iff.1 hn)]
theorem perm_lift {α β : Type} (f : α → β) {l l' : List β} (h : l.Perm l') : ∀ dn : List α, dn.map f = l → ∃ dn' : List α, dn'.Perm dn ∧ dn'.map f = l' := by
  induction h with
  | nil => exact fun dn h => ⟨dn, .refl _, h⟩
  | cons x _ ih =>
    intro dn h
    match dn, h with
    | y :: dn, h =>
      simp only [List.map_cons, List.cons.injEq] at h
      obtain ⟨d', h1, h2⟩ := ih dn h.2
      exact ⟨y :: d', h1.cons y, by simp [h.1, h2]⟩
  | swap x y l =>
    intro dn h
    match dn, h with
    | a :: b :: dn, h =>
      simp only [List.map_cons, List.cons.injEq] at h
      exact ⟨b :: a :: dn, List.Perm.swap _ _ _, by simp [h.1, h.2.1, h.2.2]⟩
  | trans _ _ ih1 ih2 =>
    intro dn h
    obtain ⟨d1, h1, h2⟩ := ih1 dn h
    obtain ⟨d2, h3, h4⟩ := ih2 d1 h2
    exact ⟨d2, h3.trans h1, h4⟩
def subs : List Nat → List (List Nat)
  | [] => [[]]
  | a :: r => subs r ++ (subs r).map (a :: ·)
theorem filter_subs (p : Nat → Bool) : ∀ l, l.filter p ∈ subs l
  | [] => by simp [subs]
  | a :: r => by
    have ih := filter_subs p r
    unfold subs
    rw [List.filter_cons]
    split
    · exact List.mem_append_right _ (List.mem_map_of_mem ih)
    · exact List.mem_append_left _ ih
/-- a maker of a region -/
structure Mk where
  i : Nat
  d : Nat
  v : Nat → Value
  own : Nat → Own
def frm (dn : List (Mk × Nat)) : Fr := dn.map fun x => (x.1.d, x.1.v x.2)
def owm (dn : List (Mk × Nat)) : List Own := dn.map fun x => x.1.own x.2
def markL (listed : Array Bool) (D : List Nat) : Array Bool := D.foldl (fun l i => l.setIfInBounds i true) listed
theorem markL_get (D : List Nat) : ∀ (listed : Array Bool) (j : Nat), (markL listed D)[j]? = (listed[j]?).map fun b => b || D.contains j := by
  induction D with
  | nil => intro listed j; simp [markL]
  | cons a r ih =>
    intro listed j
    show (markL (listed.setIfInBounds a true) r)[j]? = _
    rw [ih, Array.getElem?_setIfInBounds]
    by_cases c : a = j
    · subst c
      simp
      split <;> simp_all
    · rw [if_neg c]
      have : ¬ j = a := fun h => c h.symm
      simp [this]
theorem markL_same {listed : Array Bool} {D D' : List Nat} (h : ∀ j, D.contains j = D'.contains j) : markL listed D = markL listed D' := by
  apply Array.ext_getElem?
  intro j
  rw [markL_get, markL_get, h j]
def manyB (ops : Array Oper) (is : List Nat) (ends : List (List Nat)) (listed : Array Bool) : Bool := (subs is).all fun D => ends.contains D || decide (Region.ready .any ops (markL listed D) = is.filter fun i => !D.contains i)
theorem nodup_le : ∀ (l l' : List Nat), l.Nodup → (∀ x ∈ l, x ∈ l') → l.length ≤ l'.length
  | [], _, _, _ => Nat.zero_le _
  | a :: r, l', hn, hs => by
    rw [List.nodup_cons] at hn
    have ha := hs a (by simp)
    have := nodup_le r (l'.erase a) hn.2 fun x hx => (List.mem_erase_of_ne (fun (e : x = a) => hn.1 (by rw [← e]; exact hx))).2 (hs x (by simp [hx]))
    rw [List.length_erase_of_mem ha] at this
    have := List.length_pos_of_mem ha
    simp; omega
theorem nodup_perm : ∀ (l l' : List Nat), l.Nodup → (∀ x ∈ l, x ∈ l') → l'.length ≤ l.length → l.Perm l'
  | [], l', _, _, h => by
    have : l' = [] := List.length_eq_zero_iff.1 (by simpa using h)
    subst this; exact .refl _
  | a :: r, l', hn, hs, h => by
    rw [List.nodup_cons] at hn
    have ha := hs a (by simp)
    have hl := List.length_erase_of_mem ha
    have h2 := List.length_pos_of_mem ha
    have := nodup_perm r (l'.erase a) hn.2 (fun x hx => (List.mem_erase_of_ne (fun (e : x = a) => hn.1 (by rw [← e]; exact hx))).2 (hs x (by simp [hx]))) (by simp at h; omega)
    exact (this.cons a).trans (List.perm_cons_erase ha).symm
theorem inj_i : ∀ (ms : List Mk), (ms.map (·.i)).Nodup → ∀ m ∈ ms, ∀ m' ∈ ms, m.i = m'.i → m = m'
  | [], _, _, hm, _, _, _ => by cases hm
  | y :: ms, h, m, hm, m', hm', e => by
    rw [List.map_cons, List.nodup_cons] at h
    rcases List.mem_cons.1 hm with a1 | a1 <;> rcases List.mem_cons.1 hm' with a2 | a2
    · rw [a1, a2]
    · exact absurd (by rw [← a1, e]; exact List.mem_map_of_mem a2) h.1
    · exact absurd (by rw [← a2, ← e]; exact List.mem_map_of_mem a1) h.1
    · exact inj_i ms h.2 m a1 m' a2 e
theorem fst_of_i : ∀ (dn : List (Mk × Nat)) (ms all : List Mk), (∀ m ∈ all, ∀ m' ∈ all, m.i = m'.i → m = m') → (∀ x ∈ dn, x.1 ∈ all) → (∀ x ∈ ms, x ∈ all) → dn.map (·.1.i) = ms.map (·.i) → dn.map (·.1) = ms
  | [], ms, _, _, _, _, h => by
    simp only [List.map_nil] at h
    exact (List.map_eq_nil_iff.1 h.symm).symm
  | y :: dn, [], _, _, _, _, h => by simp at h
  | y :: dn, m :: ms, all, hi, h1, h2, h => by
    simp only [List.map_cons, List.cons.injEq] at h
    rw [List.map_cons, fst_of_i dn ms all hi (fun x hx => h1 x (by simp [hx])) (fun x hx => h2 x (by simp [hx])) h.2, hi y.1 (h1 y (by simp)) m (h2 m (by simp)) h.1]
section
variable {P : Program} {n : Nat} {W : Base} {Q : Exit → Act → World → Prop} {fr : Fr} {L L0 : List Own} {ops : Array Oper}
/-- what a maker does, from any frame that knows as much -/
def Makes (P : Program) (n : Nat) (W : Base) (ops : Array Oper) (fr : Fr) (m : Mk) : Prop :=
  ∃ o, ops[m.i]? = some o ∧ ∀ (Q : Exit → Act → World → Prop) (fr' : Fr) (L : List Own), (∀ q v, look fr q = some v → look fr' q = some v) → (∀ g, TL P n W ops Q [] ((m.d, m.v g) :: fr') (L ++ [m.own g])) → TL P n W ops Q [o] fr' L
theorem look_none : ∀ (l : Fr) {q : Nat} {v : Value}, (∀ x ∈ l, look fr x.1 = none) → look fr q = some v → look (l ++ fr) q = some v
  | [], _, _, _, h => h
  | (k, u) :: l, q, v, hl, h => by
    show (bif Nat.beq k q then some u else look (l ++ fr) q) = some v
    cases e : Nat.beq k q
    · exact look_none l (fun x hx => hl x (by simp [hx])) h
    · have := Nat.eq_of_beq_eq_true e
      subst this
      have := hl (k, u) (by simp)
      rw [this] at h
      cases h
theorem Rep.perm {a : Act} {l l' : Fr} (h : Rep n a (l ++ fr)) (hp : l.Perm l') (hn : (l.map (·.1)).Nodup) : Rep n a (l' ++ fr) :=
  ⟨h.size, h.defers, fun i v hl => h.get i v (by rw [look_perm hp hn fr i]; exact hl)⟩
theorem pick_g : ∀ (dn : List (Mk × Nat)), (dn.map (·.1.i)).Nodup → ∃ g : Nat → Nat, ∀ x ∈ dn, g x.1.i = x.2
  | [], _ => ⟨fun _ => 0, fun x hx => by cases hx⟩
  | y :: dn, h => by
    rw [List.map_cons, List.nodup_cons] at h
    obtain ⟨g, hg⟩ := pick_g dn h.2
    refine ⟨fun i => if i = y.1.i then y.2 else g i, fun x hx => ?_⟩
    rcases List.mem_cons.1 hx with rfl | hx
    · simp
    · have : ¬ x.1.i = y.1.i := fun e => h.1 (by rw [← e]; exact List.mem_map_of_mem hx)
      simp only [if_neg this]
      exact hg x hx
theorem many_canon (ms E : List Mk) (hn : (ms.map (·.i)).Nodup) (hEn : (E.map (·.i)).Nodup) (hEd : (E.map (·.d)).Nodup) (hE : ∀ m ∈ E, m ∈ ms) (dn : List (Mk × Nat)) (h1 : ∀ x ∈ dn, x.1 ∈ ms) (hp : (dn.map (·.1.i)).Perm (E.map (·.i))) (a : Act) (hr : Rep n a (frm dn ++ fr)) :
    ∃ g : Nat → Nat, Rep n a (E.map (fun m => (m.d, m.v (g m.i))) ++ fr) ∧ Mem W (L ++ owm dn) = Mem W (L ++ E.map fun m => m.own (g m.i)) := by
  obtain ⟨d', p1, p2⟩ := perm_lift (fun x : Mk × Nat => x.1.i) hp dn rfl
  have e1 := fst_of_i d' E ms (inj_i ms hn) (fun x hx => h1 x (p1.subset hx)) hE p2
  obtain ⟨g, hg⟩ := pick_g d' (by rw [p2]; exact hEn)
  have e2 : d' = E.map fun m => (m, g m.i) := by
    rw [← e1, List.map_map]
    conv => lhs; rw [← List.map_id d']
    exact List.map_congr_left fun x hx => by
      obtain ⟨m, q⟩ := x
      have := hg _ hx
      dsimp only at this
      simp [this]
  have hpd : ((frm dn).map (·.1)).Nodup := by
    have : ((frm dn).map (·.1)).Perm (E.map (·.d)) := by
      have h5 := (p1.map fun x : Mk × Nat => x.1.d).symm
      have e : d'.map (fun x : Mk × Nat => x.1.d) = E.map (·.d) := by rw [← e1, List.map_map]; rfl
      rw [e] at h5
      unfold frm
      rw [List.map_map]
      exact h5
    exact this.nodup_iff.2 hEd
  have hr' := hr.perm (p1.map _).symm hpd
  refine ⟨g, ?_, ?_⟩
  · have : d'.map (fun x => (x.1.d, x.1.v x.2)) = E.map (fun m => (m.d, m.v (g m.i))) := by rw [e2, List.map_map]; rfl
    rw [← this]; exact hr'
  · have e : E.map (fun m => m.own (g m.i)) = owm d' := by rw [e2, owm, List.map_map]; rfl
    rw [e]
    exact funext fun w => propext ⟨fun h => h.perm (((p1.map _).symm).append_left L), fun h => h.perm ((p1.map _).append_left L)⟩
theorem many_go (ms : List Mk) (ends : List (List Mk)) (listed : Array Bool) (U : World → Prop) (S0 : Nat) (hUL : ∀ l, ∀ w, Mem W (L ++ l) w → U w)
    (hn : (ms.map (·.i)).Nodup) (hd : (ms.map (·.d)).Nodup) (hB : manyB ops (ms.map (·.i)) (ends.map fun E => E.map (·.i)) listed = true) (hm : ∀ m ∈ ms, Makes P n W ops fr m) (hf : ∀ m ∈ ms, look fr m.d = none)
    (hEnd : ∀ E ∈ ms :: ends, (∀ m ∈ E, m ∈ ms) ∧ (E.map (·.i)).Nodup ∧ (E.map (·.d)).Nodup ∧ ∀ (k : Nat) (g : Nat → Nat) (a : Act), E.length + k = ms.length → Rep n a (E.map (fun m => (m.d, m.v (g m.i))) ++ fr) → wpAnyV P .any ops Q U (k + S0) (markL listed (E.map (·.i))) a (Mem W (L ++ E.map fun m => m.own (g m.i)))) :
    ∀ (k : Nat) (dn : List (Mk × Nat)), (∀ x ∈ dn, x.1 ∈ ms) → (dn.map (·.1.i)).Nodup → dn.length + k = ms.length → ∀ a, Rep n a (frm dn ++ fr) → wpAnyV P .any ops Q U (k + S0) (markL listed (dn.map (·.1.i))) a (Mem W (L ++ owm dn)) := by
  have stop : ∀ E ∈ ms :: ends, ∀ (k : Nat) (dn : List (Mk × Nat)), (∀ x ∈ dn, x.1 ∈ ms) → (dn.map (·.1.i)).Nodup → dn.length + k = ms.length → (dn.map (·.1.i)).Perm (E.map (·.i)) → ∀ a, Rep n a (frm dn ++ fr) → wpAnyV P .any ops Q U (k + S0) (markL listed (dn.map (·.1.i))) a (Mem W (L ++ owm dn)) := by
    intro E hE k dn h1 h2 h3 hp a hr
    obtain ⟨q1, q2, q3, q4⟩ := hEnd E hE
    obtain ⟨g, r1, r2⟩ := many_canon (W := W) (L := L) ms E hn q2 q3 q1 dn h1 hp a hr
    have hlen := hp.length_eq
    simp only [List.length_map] at hlen
    rw [r2, markL_same (D' := E.map (·.i)) fun j => ?_]
    · exact q4 k g a (by omega) r1
    · exact Bool.eq_iff_iff.2 (by simpa using hp.mem_iff)
  intro k
  induction k with
  | zero =>
    intro dn h1 h2 h3 a hr
    exact stop ms (by simp) 0 dn h1 h2 h3 (nodup_perm (dn.map (·.1.i)) (ms.map (·.i)) h2 (fun x hx => by
      obtain ⟨y, hy, rfl⟩ := List.mem_map.1 hx
      exact List.mem_map_of_mem (f := (·.i)) (h1 y hy)) (by simp; omega)) a hr
  | succ k ih =>
    intro dn h1 h2 h3 a hr
    have hstop := fun E hE hp => stop E hE (k + 1) dn h1 h2 h3 hp a hr
    have hsub : ∀ x ∈ dn.map (·.1.i), x ∈ ms.map (·.i) := fun x hx => by
      obtain ⟨y, hy, rfl⟩ := List.mem_map.1 hx
      exact List.mem_map_of_mem (f := (·.i)) (h1 y hy)
    generalize hD : dn.map (·.1.i) = D at *
    have hlenD : D.length = dn.length := by rw [← hD]; simp
    have hsame : ∀ j, D.contains j = ((ms.map (·.i)).filter fun i => D.contains i).contains j := fun j => by
      apply Bool.eq_iff_iff.2
      simp only [List.contains_iff_mem, List.mem_filter]
      exact ⟨fun h => ⟨hsub j h, h⟩, fun h => h.2⟩
    have hq := List.all_eq_true.1 hB _ (filter_subs (fun i => D.contains i) (ms.map (·.i)))
    rw [Bool.or_eq_true] at hq
    rcases hq with hq | hq
    · rw [List.contains_iff_mem] at hq
      obtain ⟨E, hE, e⟩ := List.mem_map.1 hq
      refine hstop E (by simp [hE]) ?_
      rw [e]
      refine nodup_perm _ _ h2 (fun x hx => List.mem_filter.2 ⟨hsub x hx, by simpa using hx⟩) ?_
      exact nodup_le _ _ (hn.filter _) fun x hx => by simpa using (List.mem_filter.1 hx).2
    have hready : Region.ready .any ops (markL listed D) = (ms.map (·.i)).filter fun i => !D.contains i := by
      have hq := of_decide_eq_true hq
      rw [markL_same hsame, hq]
      exact List.filter_congr fun i _ => by rw [← hsame i]
    rw [show k + 1 + S0 = (k + S0) + 1 by omega]
    refine ⟨fun h0 => ?_, fun i hi w hw => ?_⟩
    · exfalso
      have : (ms.map (·.i)).length ≤ D.length := nodup_le _ _ hn fun x hx => by
        rw [hready] at h0
        have := List.filter_eq_nil_iff.1 h0 x hx
        simpa using this
      simp at this
      omega
    · rw [hready, List.mem_filter] at hi
      obtain ⟨hi1, hi2⟩ := hi
      obtain ⟨m, hm1, rfl⟩ := List.mem_map.1 hi1
      have hi3 : m.i ∉ D := by simpa using hi2
      obtain ⟨o, ho, hmk⟩ := hm m hm1
      refine wpOp_of_list ho ((hmk _ (frm dn ++ fr) (L ++ owm dn) (fun q v hq => look_none (frm dn) (fun x hx => ?_) hq) fun g => ?_).go a w hr hw)
      · obtain ⟨y, hy, rfl⟩ := List.mem_map.1 hx
        exact hf y.1 (h1 y hy)
      · refine TL_nil ⟨fun a' w' hr' hm' => ⟨Mem W (L ++ owm ((m, g) :: dn)), closed_mem _ _, hUL _, hm'.perm ?_, ?_⟩⟩
        · rw [List.append_assoc]
          exact (List.perm_append_comm).append_left L
        · have := ih ((m, g) :: dn) (fun x hx => by
            rcases List.mem_cons.1 hx with rfl | hx
            · exact hm1
            · exact h1 x hx) (by rw [List.map_cons, hD, List.nodup_cons]; exact ⟨hi3, h2⟩) (by simp; omega) a' hr'
          rw [List.map_cons, hD] at this
          have e : (markL listed D).setIfInBounds m.i true = markL listed (m.i :: D) := by
            have e0 : (markL listed D).setIfInBounds m.i true = markL listed (D ++ [m.i]) := by
              unfold markL; rw [List.foldl_append]; rfl
            rw [e0]
            exact markL_same fun j => by
              apply Bool.eq_iff_iff.2
              simp [or_comm]
          rw [e]
          exact this
/-- a region that draws, with some of it listed -/
structure TX (P : Program) (n : Nat) (W : Base) (ops : Array Oper) (Q : Exit → Act → World → Prop) (L0 : List Own) (listed : Array Bool) (f : Nat) (fr : Fr) (L : List Own) : Prop where
  go : (∀ w, Mem W L w → Mem W L0 w) → (∀ c a d v w, Q (.panic c) (Act.put a d v) w → Q (.panic c) a w) → Region.noSelect ops = true → ∀ a, Rep n a fr → wpAnyV P .any ops Q (Mem W L0) f listed a (Mem W L)
theorem mem_left {L l : List Own} {w : World} (h : Mem W (L ++ l) w) : Mem W L w := by
  have hl : ∀ (i : Nat) (o : Own), L[i]? = some o → (L ++ l)[i]? = some o := fun i o h => by
    rw [List.getElem?_append_left (List.getElem?_eq_some_iff.1 h).1]; exact h
  exact ⟨h.low, ⟨fun i o hi => h.owns.all i o (hl i o hi), fun i j o o' hij hi hj => h.owns.apart i j o o' hij (hl i o hi) (hl j o' hj)⟩⟩
theorem T_ordX {id : Nat} {l : List Oper} (L0 : List Own) (hsub : ∀ w, Mem W L w → Mem W L0 w) (hm : P.follows .mixedOrders = true) (hsel : Region.noSelect l.toArray = true)
    (hQ : ∀ c a d v w, Q (.panic c) (Act.put a d v) w → Q (.panic c) a w)
    (h : TX P n W l.toArray Q L0 (Array.replicate l.toArray.size false) l.toArray.size fr L) : T P n W (.region id l.toArray true) Q fr L := ⟨fun a w hr hmm => by
  refine wp_region_any hm ?_
  exact wpAny_of_V (U := Mem W L0) l.toArray.size (Array.replicate l.toArray.size false) a (Mem W L) w.drew hmm.drew (h.go hsub hQ hsel a hr)⟩
theorem TX_tree {listed : Array Bool} {f : Nat} (t : Ord) (ho : orderO .any ops t listed = true) (hf : f = t.size) (h : TW P n W ops Q L0 t fr L) : TX P n W ops Q L0 listed f fr L :=
  ⟨fun hsub hQ hsel a hr => by subst hf; exact wpAnyV_ord hsel hQ t listed a (Mem W L) (closed_mem W L) hsub ho (h.go a hr)⟩
theorem TX_val {listed : Array Bool} {f d : Nat} {o : Oper} {v : Value} (i : Nat) (hi : ((Region.ready .any ops listed).contains i && Region.free .any ops listed i) = true) (ho : ops[i]? = some o) (hr : RR P n W o fr L0 v) (hg : o.guard = none) (hd : o.dst = some d) (hn : Nat.blt d n = true)
    (h : TX P n W ops Q L0 (listed.setIfInBounds i true) f ((d, v) :: fr) L) : TX P n W ops Q L0 listed (f + 1) fr L := ⟨fun hsub hQ hsel a hrep => by
  rw [Bool.and_eq_true] at hi
  have hc : CalmIn P ops (Mem W L0) o v a := .inl ⟨wanted_none hg, fun w hw => by unfold calmAt; rw [hr.go a w hrep hw]; exact ⟨rfl, Gr.refl _⟩⟩
  exact wpAnyV_first ho (Region.noSelect_spec hsel) (fun c a w => hQ c a o.dst v w) f listed a (Mem W L) (closed_mem W L) hsub (Region.free_spec ho hi.2) (by simpa using hi.1) hc
    (by rw [hd]; exact h.go hsub hQ hsel _ (hrep.put hn v))⟩
def manyOk (ops : Array Oper) (ms : List Mk) (ends : List (List Nat)) (listed : Array Bool) (fr : Fr) : Bool :=
  decide (ms.map (·.i)).Nodup && decide (ms.map (·.d)).Nodup && manyB ops (ms.map (·.i)) ends listed && ms.all fun m => (look fr m.d).isNone
/-- where some of them being done sets another operation free (ps tells the places of such a set): a walk of its own from there -/
theorem TX_many2 {listed : Array Bool} {f : Nat} (ms : List Mk) (p : Mk → Bool) (S0 : Nat) (hf : f = ms.length + S0) (hB : manyOk ops ms [ms.map (·.i), (ms.filter p).map (·.i)] listed fr = true) (hm : ∀ m ∈ ms, Makes P n W ops fr m)
    (h : ∀ g : Nat → Nat, TX P n W ops Q L0 (markL listed (ms.map (·.i))) S0 (ms.map (fun m => (m.d, m.v (g m.i))) ++ fr) (L ++ ms.map fun m => m.own (g m.i)))
    (h' : ∀ g : Nat → Nat, TX P n W ops Q L0 (markL listed ((ms.filter p).map (·.i))) (ms.length - (ms.filter p).length + S0) ((ms.filter p).map (fun m => (m.d, m.v (g m.i))) ++ fr) (L ++ (ms.filter p).map fun m => m.own (g m.i))) : TX P n W ops Q L0 listed f fr L := ⟨fun hsub hQ hsel a hr => by
  subst hf
  simp only [manyOk, Bool.and_eq_true, decide_eq_true_eq] at hB
  obtain ⟨⟨⟨b1, b2⟩, b3⟩, b4⟩ := hB
  have := many_go (Q := Q) (L := L) ms [ms, ms.filter p] listed (Mem W L0) S0 (fun l w hw => hsub w (mem_left hw)) b1 b2 b3 hm (fun m hm => by simpa using List.all_eq_true.1 b4 m hm)
    (fun E hE => by
      have hE : E = ms ∨ E = ms.filter p := by
        simp only [List.mem_cons, List.not_mem_nil, or_false] at hE
        rcases hE with h | h | h
        · exact .inl h
        · exact .inl h
        · exact .inr h
      rcases hE with rfl | rfl
      · exact ⟨fun _ h => h, b1, b2, fun k g a hk hr => by
          obtain rfl : k = 0 := by omega
          rw [Nat.zero_add]
          exact (h g).go (fun w hw => hsub w (mem_left hw)) hQ hsel a hr⟩
      · exact ⟨fun _ h => (List.mem_filter.1 h).1, b1.sublist (List.filter_sublist.map _), b2.sublist (List.filter_sublist.map _), fun k g a hk hr => by
          obtain rfl : k = ms.length - (ms.filter p).length := by omega
          exact (h' g).go (fun w hw => hsub w (mem_left hw)) hQ hsel a hr⟩) ms.length [] (fun x hx => by cases hx) (by simp) (by simp) a hr
  simpa [markL, owm] using this⟩
theorem ev_mono {fr fr' : Fr} (h : ∀ q v, look fr q = some v → look fr' q = some v) {x : Operand} {v : Value} (hx : ev fr x = some v) : ev fr' x = some v := by
  cases x with
  | tmp t => exact h _ _ hx
  | _ => exact hx
theorem makes_slice {i d : Nat} {t e ty : TypeId} {pos : String} {after : Array Edge} {x y : Operand} {c bytes m cap : Nat} {k k' : IntKind} {zs : Array Value} [ElC P t e c bytes] [ZeroC P e zs] (ho : ops[i]? = some ⟨some d, .makeSlice t x y, ty, pos, after, none⟩) (hx : ev fr x = some (.int k (m : Int))) (hy : ev fr y = some (.int k' (cap : Int))) (hmc : m ≤ cap) (hb : bytes * cap ≤ 281474976710656) (h63 : cap ≤ 9223372036854775807) (hn : Nat.blt d n = true) :
    Makes P n W ops fr ⟨i, d, fun g => .slice (some ⟨g, 0, none⟩) m cap, fun g => blkO g (madeCells zs (cap * c)) e⟩ :=
  ⟨_, ho, fun _ _ _ hl h => TL_makeB (ev_mono hl hx) (ev_mono hl hy) hmc hb h63 hn h⟩
theorem makes_new {i d : Nat} {t ty : TypeId} {pos : String} {after : Array Edge} {cs : Array Value} [ZeroC P t cs] (ho : ops[i]? = some ⟨some d, .alloc t, ty, pos, after, none⟩) (hn : Nat.blt d n = true) :
    Makes P n W ops fr ⟨i, d, fun g => .pointer (some ⟨g, 0, none⟩), fun g => blkO g cs t⟩ :=
  ⟨_, ho, fun _ _ _ _ h => TL_new hn h⟩
end
end Go.Proofs.Ytkkiopmdcolobaa.eng

/- TreeS -/
namespace Go.Proofs.Ytkkiopmdcolobaa.eng
open Go.RowKit kit mix gramL treeL
/-- a tree that can be read, its blocks being in F -/
inductive TreeIs (F : Nat → Prop) (w : World) : List Value → Tree → Prop
  | mk {p k : Int} {kids : List Tree} {base : Option Addr} {cap : Nat} (css : List (List Value)) : kit.okI64 p → kit.okI64 k → kids.length ≤ cap → cap ≤ maxLen → css.length = kids.length →
    (∀ i (h : i < kids.length) (h' : i < css.length), TreeIs F w css[i] kids[i]) → (0 < kids.length → ∃ b off, base = some ⟨b, off, none⟩ ∧ F b ∧ ∀ i (_ : i < kids.length) (h' : i < css.length), Rd w b (off + i * 3) css[i]) →
    TreeIs F w [.int .i64 p, .int .i64 k, .slice base kids.length cap] (.mk p k kids)
theorem TreeIs.len3 {F : Nat → Prop} {w : World} {cs : List Value} {t : Tree} (h : TreeIs F w cs t) : cs.length = 3 := by
  cases h; rfl
theorem TreeIs.stayed {F : Nat → Prop} {w w' : World} {cs : List Value} {t : Tree} (h : TreeIs F w cs t) (hk : ∀ k, F k → w'.heap[k]? = w.heap[k]?) : TreeIs F w' cs t := by
  induction h with
  | mk css h1 h2 h3 h4 h5 h6 h7 ih =>
    refine .mk css h1 h2 h3 h4 h5 ih fun hl => ?_
    obtain ⟨b, off, e, hF, hr⟩ := h7 hl
    exact ⟨b, off, e, hF, fun i hi hi' => rd_stay (hr i hi hi') (hk b hF)⟩
theorem TreeIs.mono {F F' : Nat → Prop} {w : World} {cs : List Value} {t : Tree} (h : TreeIs F w cs t) (hk : ∀ k, F k → F' k) : TreeIs F' w cs t := by
  induction h with
  | mk css h1 h2 h3 h4 h5 h6 h7 ih =>
    refine .mk css h1 h2 h3 h4 h5 ih fun hl => ?_
    obtain ⟨b, off, e, hF, hr⟩ := h7 hl
    exact ⟨b, off, e, hk b hF, hr⟩
def treeS : Shp Tree := ⟨3, TreeIs, fun h => h.len3, fun h hk => h.stayed hk, fun h hk => h.mono hk⟩
def treeV (p k : Int) (v : Value) : Value := .agg #[.int .i64 p, .int .i64 k, v]
/-- a tree that is a value -/
def TreeR (F : Nat → Prop) (w : World) (v : Value) (t : Tree) : Prop := ∃ vk, v = treeV t.prod t.tok vk ∧ kit.okI64 t.prod ∧ kit.okI64 t.tok ∧ SlF treeS F w vk t.kids
theorem TreeR.gr {w w' : World} {v : Value} {t : Tree} (h : TreeR (fun k => k < w.heap.size) w v t) (hg : Gr w w') : TreeR (fun k => k < w'.heap.size) w' v t :=
  let ⟨vk, h1, h2, h3, h4⟩ := h; ⟨vk, h1, h2, h3, h4.gr hg⟩
section
variable {P : Program} {n : Nat} {W : Base} {fr : Fr} {L : List Own} {dst : Option Tmp} {ty : TypeId} {pos : String} {after : Array Edge} {guard : Option (Nat × Bool)} {f : FuncId} {ts : Array TypeId} {cl x1 x2 : Operand} {v1 v2 : Value} {first cap : Array Value}
theorem he5 {x3 x4 x5 : Operand} {v3 v4 v5 : Value} (hf : Enters P f) (hc : ev fr cl = some (.func (.func f) #[] #[])) (h1 : ev fr x1 = some v1) (h2 : ev fr x2 = some v2) (h3 : ev fr x3 = some v3) (h4 : ev fr x4 = some v4) (h5 : ev fr x5 = some v5) : ∀ a w, Rep n a fr → (execOp a.eval ⟨dst, .call { callee := .value cl, args := #[x1, x2, x3, x4, x5], argTypes := ts }, ty, pos, after, guard⟩).run P w = .ok (.enter f #[v1, v2, v3, v4, v5]) w := fun a w hr => by
  have hf' : ∀ args w, (callFunc f args).run P w = .ok (.enter f args) w := hf
  simp [execOp, resolve, hr.ev hc, hr.ev h1, hr.ev h2, hr.ev h3, hr.ev h4, hr.ev h5, Deferred.ofValue, invoke, hf']
end
end Go.Proofs.Ytkkiopmdcolobaa.eng

/- FactsA -/
namespace Go.Proofs.Ytkkiopmdcolobaa.eng
open Go.RowKit kit mix gramL factsL
def bitV (n : Nat) : Value := .int .u64 (n : Int)
theorem bool_at {l : List Bool} {i : Nat} (hi : i < l.length) : (l.map Value.bool)[i]? = some (.bool (l.getD i false)) := by
  simp [hi]
theorem bit_at {l : List Nat} {i : Nat} (hi : i < l.length) : (l.map bitV)[i]? = some (bitV (l.getD i 0)) := by
  simp [hi]
set_option maxHeartbeats 1000000 in
theorem mark_calls (g cap : Nat) (l : List Bool) (i : Nat) (b : Bool) (w : World) (B : Base) (hi : i < l.length) (hm : Mem B [rowO 4 1 (.slice (some ⟨g, 0, none⟩) l.length cap) l.length (l.map .bool)] w) :
    Calls Try.prog 62 #[.slice (some ⟨g, 0, none⟩) l.length cap, .int .i64 (i : Int), .bool b] w (MeetsB ⟨fun (_ : Unit) => True, fun _ => .bool (markF l i b).2, fun _ => [rowO 4 1 (.slice (some ⟨g, 0, none⟩) l.length cap) l.length ((markF l i b).1.map .bool)]⟩ B) := by
  have hb := bool_at hi
  refine enterB hm (args := [.slice (some ⟨g, 0, none⟩) l.length cap, .int .i64 (i : Int), .bool b]) (n := 18) Try.func62 rfl rfl rfl ?_
  unfold markF
  cases b
  · rw [if_neg (by simp)]
    repeat (first
      | refine qv rfl (qp rfl) rfl rfl ?_ | refine TL_nil ?_ | refine T_seq ?_ | refine T_region ?_ | refine qcT rfl ?_ | refine qcF rfl ?_ | refine T_skip ?_
      | refine T_ret ?_ | refine E_then ?_ | refine E_thenR ?_ | refine qs rfl rfl rfl rfl rfl rfl ?_
      | ((try refine qg rfl rfl rfl ?_); first | refine qv rfl (qp rfl) rfl rfl ?_ | refine qv rfl (rr_not rfl rfl) rfl rfl ?_))
    exact E_ret1 rfl rfl fun w hm => hm.meetsB (S := ⟨fun (_ : Unit) => True, fun _ => .bool false, fun _ => [rowO 4 1 (.slice (some ⟨g, 0, none⟩) l.length cap) l.length (l.map .bool)]⟩) () trivial [0] (by decide) rfl
  · generalize hx : l.getD i false = x at *
    cases x
    · rw [if_pos ⟨rfl, rfl⟩]
      repeat (first
        | refine qv rfl (qp rfl) rfl rfl ?_ | refine TL_nil ?_ | refine T_seq ?_ | refine T_region ?_ | refine qcT rfl ?_ | refine qcF rfl ?_ | refine T_skip ?_
        | refine T_ret ?_ | refine E_then ?_ | refine E_thenR ?_ | refine qs rfl rfl rfl rfl rfl rfl ?_
        | ((try refine qg rfl rfl rfl ?_); first | refine qv rfl (qp rfl) rfl rfl ?_ | refine qv rfl (rr_idx1 Und.eq TyC.ty rfl rfl hi) rfl rfl ?_ | refine qv rfl (rr_load1 TyC.ty rfl (at_row (i := 0) rfl (by rw [Nat.zero_add]; exact hb))) rfl rfl ?_ | refine qv rfl (rr_not rfl rfl) rfl rfl ?_))
      refine TL_storeRow (i := 0) TyC.ty rfl rfl rfl rfl rfl rfl (by simpa using hi) ?_
      repeat (first
        | refine qv rfl (qp rfl) rfl rfl ?_ | refine TL_nil ?_ | refine T_seq ?_ | refine T_region ?_ | refine qcT rfl ?_ | refine qcF rfl ?_ | refine T_skip ?_
        | refine T_ret ?_ | refine E_then ?_ | refine E_thenR ?_ | refine qs rfl rfl rfl rfl rfl rfl ?_
        | ((try refine qg rfl rfl rfl ?_); first | refine qv rfl (qp rfl) rfl rfl ?_ | refine qv rfl (rr_not rfl rfl) rfl rfl ?_))
      exact E_ret1 rfl rfl fun w hm => hm.meetsB (S := ⟨fun (_ : Unit) => True, fun _ => .bool true, fun _ => [rowO 4 1 (.slice (some ⟨g, 0, none⟩) l.length cap) l.length ((l.set i true).map .bool)]⟩) () trivial [0] (by decide) (by simp [List.map_set])
    · rw [if_neg (by simp)]
      repeat (first
        | refine qv rfl (qp rfl) rfl rfl ?_ | refine TL_nil ?_ | refine T_seq ?_ | refine T_region ?_ | refine qcT rfl ?_ | refine qcF rfl ?_ | refine T_skip ?_
        | refine T_ret ?_ | refine E_then ?_ | refine E_thenR ?_ | refine qs rfl rfl rfl rfl rfl rfl ?_
        | ((try refine qg rfl rfl rfl ?_); first | refine qv rfl (qp rfl) rfl rfl ?_ | refine qv rfl (rr_idx1 Und.eq TyC.ty rfl rfl hi) rfl rfl ?_ | refine qv rfl (rr_load1 TyC.ty rfl (at_row (i := 0) rfl (by rw [Nat.zero_add]; exact hb))) rfl rfl ?_ | refine qv rfl (rr_not rfl rfl) rfl rfl ?_))
      exact E_ret1 rfl rfl fun w hm => hm.meetsB (S := ⟨fun (_ : Unit) => True, fun _ => .bool false, fun _ => [rowO 4 1 (.slice (some ⟨g, 0, none⟩) l.length cap) l.length (l.map .bool)]⟩) () trivial [0] (by decide) rfl
set_option maxHeartbeats 2000000 in
theorem allB_calls (v vb : Value) (l : List Bool) (body : List Sym) (terms : Bool) (w : World) (hs : Sl w v l.length (l.map .bool)) (hs2 : Sl w vb body.length (body.flatMap symC)) (hok : ∀ x ∈ body, x.1 = 2 → 0 ≤ x.2 ∧ x.2 < l.length) :
    Calls Try.prog 63 #[v, vb, .bool terms] w (Meets (ret (.bool (allF l body terms))) w) := by
  obtain ⟨bv, cv, rfl, h1, h2, h3⟩ := hs
  obtain ⟨bb, cb, rfl, h4, h5, h6⟩ := hs2
  unfold maxLen at h2 h5
  refine enter (args := [.slice bv l.length cv, .slice bb body.length cb, .bool terms]) (n := 36) Try.func63 rfl rfl rfl ?_
  repeat (first
    | refine qv rfl (qp rfl) rfl rfl ?_ | refine TL_nil ?_ | refine T_seq ?_ | refine T_region ?_ | refine qcT rfl ?_ | refine qcF rfl ?_ | refine T_skip ?_
    | refine T_exit ?_ | refine T_ret ?_ | refine T_block ?_ | refine E_then ?_ | refine E_thenX ?_ | refine E_thenR ?_ | refine E_blockN ?_
    | refine E_blockR ?_ | refine E_blockX ?_ | refine E_blockO rfl ?_ | refine qs rfl rfl rfl rfl rfl rfl ?_
    | ((try refine qg rfl rfl rfl ?_); first | refine qv rfl (qp rfl) rfl rfl ?_ | refine qv rfl (qlen Und.eq rfl) rfl rfl ?_ | refine qv rfl (qfld FldC.fld rfl rfl) rfl rfl ?_ | refine qv rfl (rr_lss rfl rfl (qT (by omega))) rfl rfl ?_ | refine qv rfl (rr_lss rfl rfl (qF (by omega))) rfl rfl ?_ | refine qv rfl (rr_eql rfl rfl (qT (by omega))) rfl rfl ?_ | refine qv rfl (rr_eql rfl rfl (qF (by omega))) rfl rfl ?_ | refine qv rfl (rr_add64 rfl rfl (by omega) (by omega) rfl) rfl rfl ?_ | refine qv rfl (rr_not rfl rfl) rfl rfl ?_))
  refine T_loop (ι := Nat) (fun k => k ≤ body.length ∧ allF l body terms = allF l (body.drop k) terms) (fun k => [(0, .slice bv l.length cv), (2, .bool terms), (9, .slice bb body.length cb), (10, .int .i64 body.length), (11, .int .i64 (k : Int))]) (fun _ => []) (fun k => body.length - k) 0 ⟨Nat.zero_le _, rfl⟩ (by repeat' (first | exact True.intro | refine And.intro rfl ?_)) rfl ?_
  rintro k ⟨i1, i2⟩
  rw [i2]
  clear i2
  by_cases c6 : k < body.length
  · obtain ⟨b, off, rfl, hr⟩ := h6 (by omega)
    have hat := at_el (L := ([] : List Own)) SymS_len hr c6
    have hokx := hok body[k] (List.getElem_mem c6)
    have hd : allF l (body.drop k) terms = ((if body[k].1 = 1 then terms else if body[k].1 = 2 then l.getD body[k].2.toNat false else true) && allF l (body.drop (k + 1)) terms) := by
      rw [List.drop_eq_getElem_cons c6]; rfl
    rw [hd]
    clear hd h6 hok hr
    generalize body[k] = x at *
    obtain ⟨q, m⟩ := x
    dsimp only at *
    by_cases c1 : q = 1
    · rw [if_pos c1]
      cases terms
      · repeat (first
          | refine qv rfl (qp rfl) rfl rfl ?_ | refine TL_nil ?_ | refine T_seq ?_ | refine T_region ?_ | refine qcT rfl ?_ | refine qcF rfl ?_ | refine T_skip ?_
          | refine T_exit ?_ | refine T_ret ?_ | refine T_block ?_ | refine E_then ?_ | refine E_thenX ?_ | refine E_thenR ?_ | refine E_blockN ?_
          | refine E_blockR ?_ | refine E_blockX ?_ | refine E_blockO rfl ?_ | refine qs rfl rfl rfl rfl rfl rfl ?_
          | ((try refine qg rfl rfl rfl ?_); first | refine qv rfl (qp rfl) rfl rfl ?_ | refine qv rfl (rr_idxc Und.eq TyC.ty rfl rfl c6) rfl rfl ?_ | refine qv rfl (rr_loadN TyC.ty rfl rfl hat) rfl rfl ?_ | refine qv rfl (qlen Und.eq rfl) rfl rfl ?_ | refine qv rfl (qfld FldC.fld rfl rfl) rfl rfl ?_ | refine qv rfl (rr_lss rfl rfl (qT (by omega))) rfl rfl ?_ | refine qv rfl (rr_lss rfl rfl (qF (by omega))) rfl rfl ?_ | refine qv rfl (rr_eql rfl rfl (qT (by omega))) rfl rfl ?_ | refine qv rfl (rr_eql rfl rfl (qF (by omega))) rfl rfl ?_ | refine qv rfl (rr_add64 rfl rfl (by omega) (by omega) rfl) rfl rfl ?_ | refine qv rfl (rr_not rfl rfl) rfl rfl ?_))
        refine TL_new rfl fun g8 => ?_
        refine TL_storeB (i := 0) rfl rfl rfl rfl rfl rfl ?_
        repeat (first
          | refine qv rfl (qp rfl) rfl rfl ?_ | refine TL_nil ?_ | refine T_seq ?_ | refine T_region ?_ | refine qcT rfl ?_ | refine qcF rfl ?_ | refine T_skip ?_
          | refine T_exit ?_ | refine T_ret ?_ | refine T_block ?_ | refine E_then ?_ | refine E_thenX ?_ | refine E_thenR ?_ | refine E_blockN ?_
          | refine E_blockR ?_ | refine E_blockX ?_ | refine E_blockO rfl ?_ | refine qs rfl rfl rfl rfl rfl rfl ?_
          | ((try refine qg rfl rfl rfl ?_); first | refine qv rfl (qp rfl) rfl rfl ?_ | refine qv rfl (rr_load1 TyC.ty rfl (at_blk (i := 0) rfl rfl)) rfl rfl ?_ | refine qv rfl (qlen Und.eq rfl) rfl rfl ?_ | refine qv rfl (qfld FldC.fld rfl rfl) rfl rfl ?_ | refine qv rfl (rr_lss rfl rfl (qT (by omega))) rfl rfl ?_ | refine qv rfl (rr_lss rfl rfl (qF (by omega))) rfl rfl ?_ | refine qv rfl (rr_eql rfl rfl (qT (by omega))) rfl rfl ?_ | refine qv rfl (rr_eql rfl rfl (qF (by omega))) rfl rfl ?_ | refine qv rfl (rr_add64 rfl rfl (by omega) (by omega) rfl) rfl rfl ?_ | refine qv rfl (rr_not rfl rfl) rfl rfl ?_))
        exact E_ret1 rfl rfl fun w hm => hm.ret
      · repeat (first
          | refine qv rfl (qp rfl) rfl rfl ?_ | refine TL_nil ?_ | refine T_seq ?_ | refine T_region ?_ | refine qcT rfl ?_ | refine qcF rfl ?_ | refine T_skip ?_
          | refine T_exit ?_ | refine T_ret ?_ | refine T_block ?_ | refine E_then ?_ | refine E_thenX ?_ | refine E_thenR ?_ | refine E_blockN ?_
          | refine E_blockR ?_ | refine E_blockX ?_ | refine E_blockO rfl ?_ | refine qs rfl rfl rfl rfl rfl rfl ?_
          | ((try refine qg rfl rfl rfl ?_); first | refine qv rfl (qp rfl) rfl rfl ?_ | refine qv rfl (rr_idxc Und.eq TyC.ty rfl rfl c6) rfl rfl ?_ | refine qv rfl (rr_loadN TyC.ty rfl rfl hat) rfl rfl ?_ | refine qv rfl (qlen Und.eq rfl) rfl rfl ?_ | refine qv rfl (qfld FldC.fld rfl rfl) rfl rfl ?_ | refine qv rfl (rr_lss rfl rfl (qT (by omega))) rfl rfl ?_ | refine qv rfl (rr_lss rfl rfl (qF (by omega))) rfl rfl ?_ | refine qv rfl (rr_eql rfl rfl (qT (by omega))) rfl rfl ?_ | refine qv rfl (rr_eql rfl rfl (qF (by omega))) rfl rfl ?_ | refine qv rfl (rr_add64 rfl rfl (by omega) (by omega) rfl) rfl rfl ?_ | refine qv rfl (rr_not rfl rfl) rfl rfl ?_))
        refine TL_new rfl fun g8 => ?_
        refine TL_storeB (i := 0) rfl rfl rfl rfl rfl rfl ?_
        repeat (first
          | refine qv rfl (qp rfl) rfl rfl ?_ | refine TL_nil ?_ | refine T_seq ?_ | refine T_region ?_ | refine qcT rfl ?_ | refine qcF rfl ?_ | refine T_skip ?_
          | refine T_exit ?_ | refine T_ret ?_ | refine T_block ?_ | refine E_then ?_ | refine E_thenX ?_ | refine E_thenR ?_ | refine E_blockN ?_
          | refine E_blockR ?_ | refine E_blockX ?_ | refine E_blockO rfl ?_ | refine qs rfl rfl rfl rfl rfl rfl ?_
          | ((try refine qg rfl rfl rfl ?_); first | refine qv rfl (qp rfl) rfl rfl ?_ | refine qv rfl (rr_load1 TyC.ty rfl (at_blk (i := 0) rfl rfl)) rfl rfl ?_ | refine qv rfl (qlen Und.eq rfl) rfl rfl ?_ | refine qv rfl (qfld FldC.fld rfl rfl) rfl rfl ?_ | refine qv rfl (rr_lss rfl rfl (qT (by omega))) rfl rfl ?_ | refine qv rfl (rr_lss rfl rfl (qF (by omega))) rfl rfl ?_ | refine qv rfl (rr_eql rfl rfl (qT (by omega))) rfl rfl ?_ | refine qv rfl (rr_eql rfl rfl (qF (by omega))) rfl rfl ?_ | refine qv rfl (rr_add64 rfl rfl (by omega) (by omega) rfl) rfl rfl ?_ | refine qv rfl (rr_not rfl rfl) rfl rfl ?_))
        refine E_pick [] (by decide) rfl ?_
        exact E_round (k + 1) ⟨by omega, by simp⟩ (by show body.length - (k + 1) < body.length - k; omega) (by repeat' (first | exact True.intro | refine And.intro rfl ?_)) rfl
    · rw [if_neg c1]
      by_cases c2 : q = 2
      · rw [if_pos c2]
        obtain ⟨o1, o2⟩ := hokx c2
        obtain ⟨mm, rfl⟩ : ∃ mm : Nat, m = mm := ⟨m.toNat, by omega⟩
        have hmm : mm < l.length := by omega
        obtain ⟨b', off', rfl, hr'⟩ := h3 (by omega)
        rw [Int.toNat_natCast]
        have hcell := bool_at hmm
        generalize l.getD mm false = y at *
        cases y
        · repeat (first
            | refine qv rfl (qp rfl) rfl rfl ?_ | refine TL_nil ?_ | refine T_seq ?_ | refine T_region ?_ | refine qcT rfl ?_ | refine qcF rfl ?_ | refine T_skip ?_
            | refine T_exit ?_ | refine T_ret ?_ | refine T_block ?_ | refine E_then ?_ | refine E_thenX ?_ | refine E_thenR ?_ | refine E_blockN ?_
            | refine E_blockR ?_ | refine E_blockX ?_ | refine E_blockO rfl ?_ | refine qs rfl rfl rfl rfl rfl rfl ?_
            | ((try refine qg rfl rfl rfl ?_); first | refine qv rfl (qp rfl) rfl rfl ?_ | refine qv rfl (rr_idxc Und.eq TyC.ty rfl rfl c6) rfl rfl ?_ | refine qv rfl (rr_loadN TyC.ty rfl rfl hat) rfl rfl ?_ | refine qv rfl (qlen Und.eq rfl) rfl rfl ?_ | refine qv rfl (qfld FldC.fld rfl rfl) rfl rfl ?_ | refine qv rfl (rr_lss rfl rfl (qT (by omega))) rfl rfl ?_ | refine qv rfl (rr_lss rfl rfl (qF (by omega))) rfl rfl ?_ | refine qv rfl (rr_eql rfl rfl (qT (by omega))) rfl rfl ?_ | refine qv rfl (rr_eql rfl rfl (qF (by omega))) rfl rfl ?_ | refine qv rfl (rr_add64 rfl rfl (by omega) (by omega) rfl) rfl rfl ?_ | refine qv rfl (rr_not rfl rfl) rfl rfl ?_))
          refine TL_new rfl fun g8 => ?_
          refine TL_storeB (i := 0) rfl rfl rfl rfl rfl rfl ?_
          repeat (first
            | refine qv rfl (qp rfl) rfl rfl ?_ | refine TL_nil ?_ | refine T_seq ?_ | refine T_region ?_ | refine qcT rfl ?_ | refine qcF rfl ?_ | refine T_skip ?_
            | refine T_exit ?_ | refine T_ret ?_ | refine T_block ?_ | refine E_then ?_ | refine E_thenX ?_ | refine E_thenR ?_ | refine E_blockN ?_
            | refine E_blockR ?_ | refine E_blockX ?_ | refine E_blockO rfl ?_ | refine qs rfl rfl rfl rfl rfl rfl ?_
            | ((try refine qg rfl rfl rfl ?_); first | refine qv rfl (qp rfl) rfl rfl ?_ | refine qv rfl (rr_load1 TyC.ty rfl (at_blk (i := 0) rfl rfl)) rfl rfl ?_ | refine qv rfl (rr_idx1 Und.eq TyC.ty rfl rfl hmm) rfl rfl ?_ | refine qv rfl (rr_load1 TyC.ty rfl (at_rd hr' hcell)) rfl rfl ?_ | refine qv rfl (qlen Und.eq rfl) rfl rfl ?_ | refine qv rfl (qfld FldC.fld rfl rfl) rfl rfl ?_ | refine qv rfl (rr_lss rfl rfl (qT (by omega))) rfl rfl ?_ | refine qv rfl (rr_lss rfl rfl (qF (by omega))) rfl rfl ?_ | refine qv rfl (rr_eql rfl rfl (qT (by omega))) rfl rfl ?_ | refine qv rfl (rr_eql rfl rfl (qF (by omega))) rfl rfl ?_ | refine qv rfl (rr_add64 rfl rfl (by omega) (by omega) rfl) rfl rfl ?_ | refine qv rfl (rr_not rfl rfl) rfl rfl ?_))
          exact E_ret1 rfl rfl fun w hm => hm.ret
        · repeat (first
            | refine qv rfl (qp rfl) rfl rfl ?_ | refine TL_nil ?_ | refine T_seq ?_ | refine T_region ?_ | refine qcT rfl ?_ | refine qcF rfl ?_ | refine T_skip ?_
            | refine T_exit ?_ | refine T_ret ?_ | refine T_block ?_ | refine E_then ?_ | refine E_thenX ?_ | refine E_thenR ?_ | refine E_blockN ?_
            | refine E_blockR ?_ | refine E_blockX ?_ | refine E_blockO rfl ?_ | refine qs rfl rfl rfl rfl rfl rfl ?_
            | ((try refine qg rfl rfl rfl ?_); first | refine qv rfl (qp rfl) rfl rfl ?_ | refine qv rfl (rr_idxc Und.eq TyC.ty rfl rfl c6) rfl rfl ?_ | refine qv rfl (rr_loadN TyC.ty rfl rfl hat) rfl rfl ?_ | refine qv rfl (qlen Und.eq rfl) rfl rfl ?_ | refine qv rfl (qfld FldC.fld rfl rfl) rfl rfl ?_ | refine qv rfl (rr_lss rfl rfl (qT (by omega))) rfl rfl ?_ | refine qv rfl (rr_lss rfl rfl (qF (by omega))) rfl rfl ?_ | refine qv rfl (rr_eql rfl rfl (qT (by omega))) rfl rfl ?_ | refine qv rfl (rr_eql rfl rfl (qF (by omega))) rfl rfl ?_ | refine qv rfl (rr_add64 rfl rfl (by omega) (by omega) rfl) rfl rfl ?_ | refine qv rfl (rr_not rfl rfl) rfl rfl ?_))
          refine TL_new rfl fun g8 => ?_
          refine TL_storeB (i := 0) rfl rfl rfl rfl rfl rfl ?_
          repeat (first
            | refine qv rfl (qp rfl) rfl rfl ?_ | refine TL_nil ?_ | refine T_seq ?_ | refine T_region ?_ | refine qcT rfl ?_ | refine qcF rfl ?_ | refine T_skip ?_
            | refine T_exit ?_ | refine T_ret ?_ | refine T_block ?_ | refine E_then ?_ | refine E_thenX ?_ | refine E_thenR ?_ | refine E_blockN ?_
            | refine E_blockR ?_ | refine E_blockX ?_ | refine E_blockO rfl ?_ | refine qs rfl rfl rfl rfl rfl rfl ?_
            | ((try refine qg rfl rfl rfl ?_); first | refine qv rfl (qp rfl) rfl rfl ?_ | refine qv rfl (rr_load1 TyC.ty rfl (at_blk (i := 0) rfl rfl)) rfl rfl ?_ | refine qv rfl (rr_idx1 Und.eq TyC.ty rfl rfl hmm) rfl rfl ?_ | refine qv rfl (rr_load1 TyC.ty rfl (at_rd hr' hcell)) rfl rfl ?_ | refine qv rfl (qlen Und.eq rfl) rfl rfl ?_ | refine qv rfl (qfld FldC.fld rfl rfl) rfl rfl ?_ | refine qv rfl (rr_lss rfl rfl (qT (by omega))) rfl rfl ?_ | refine qv rfl (rr_lss rfl rfl (qF (by omega))) rfl rfl ?_ | refine qv rfl (rr_eql rfl rfl (qT (by omega))) rfl rfl ?_ | refine qv rfl (rr_eql rfl rfl (qF (by omega))) rfl rfl ?_ | refine qv rfl (rr_add64 rfl rfl (by omega) (by omega) rfl) rfl rfl ?_ | refine qv rfl (rr_not rfl rfl) rfl rfl ?_))
          refine E_pick [] (by decide) rfl ?_
          exact E_round (k + 1) ⟨by omega, by simp⟩ (by show body.length - (k + 1) < body.length - k; omega) (by repeat' (first | exact True.intro | refine And.intro rfl ?_)) rfl
      · rw [if_neg c2]
        repeat (first
          | refine qv rfl (qp rfl) rfl rfl ?_ | refine TL_nil ?_ | refine T_seq ?_ | refine T_region ?_ | refine qcT rfl ?_ | refine qcF rfl ?_ | refine T_skip ?_
          | refine T_exit ?_ | refine T_ret ?_ | refine T_block ?_ | refine E_then ?_ | refine E_thenX ?_ | refine E_thenR ?_ | refine E_blockN ?_
          | refine E_blockR ?_ | refine E_blockX ?_ | refine E_blockO rfl ?_ | refine qs rfl rfl rfl rfl rfl rfl ?_
          | ((try refine qg rfl rfl rfl ?_); first | refine qv rfl (qp rfl) rfl rfl ?_ | refine qv rfl (rr_idxc Und.eq TyC.ty rfl rfl c6) rfl rfl ?_ | refine qv rfl (rr_loadN TyC.ty rfl rfl hat) rfl rfl ?_ | refine qv rfl (qlen Und.eq rfl) rfl rfl ?_ | refine qv rfl (qfld FldC.fld rfl rfl) rfl rfl ?_ | refine qv rfl (rr_lss rfl rfl (qT (by omega))) rfl rfl ?_ | refine qv rfl (rr_lss rfl rfl (qF (by omega))) rfl rfl ?_ | refine qv rfl (rr_eql rfl rfl (qT (by omega))) rfl rfl ?_ | refine qv rfl (rr_eql rfl rfl (qF (by omega))) rfl rfl ?_ | refine qv rfl (rr_add64 rfl rfl (by omega) (by omega) rfl) rfl rfl ?_ | refine qv rfl (rr_not rfl rfl) rfl rfl ?_))
        refine TL_new rfl fun g8 => ?_
        refine TL_storeB (i := 0) rfl rfl rfl rfl rfl rfl ?_
        repeat (first
          | refine qv rfl (qp rfl) rfl rfl ?_ | refine TL_nil ?_ | refine T_seq ?_ | refine T_region ?_ | refine qcT rfl ?_ | refine qcF rfl ?_ | refine T_skip ?_
          | refine T_exit ?_ | refine T_ret ?_ | refine T_block ?_ | refine E_then ?_ | refine E_thenX ?_ | refine E_thenR ?_ | refine E_blockN ?_
          | refine E_blockR ?_ | refine E_blockX ?_ | refine E_blockO rfl ?_ | refine qs rfl rfl rfl rfl rfl rfl ?_
          | ((try refine qg rfl rfl rfl ?_); first | refine qv rfl (qp rfl) rfl rfl ?_ | refine qv rfl (rr_load1 TyC.ty rfl (at_blk (i := 0) rfl rfl)) rfl rfl ?_ | refine qv rfl (qlen Und.eq rfl) rfl rfl ?_ | refine qv rfl (qfld FldC.fld rfl rfl) rfl rfl ?_ | refine qv rfl (rr_lss rfl rfl (qT (by omega))) rfl rfl ?_ | refine qv rfl (rr_lss rfl rfl (qF (by omega))) rfl rfl ?_ | refine qv rfl (rr_eql rfl rfl (qT (by omega))) rfl rfl ?_ | refine qv rfl (rr_eql rfl rfl (qF (by omega))) rfl rfl ?_ | refine qv rfl (rr_add64 rfl rfl (by omega) (by omega) rfl) rfl rfl ?_ | refine qv rfl (rr_not rfl rfl) rfl rfl ?_))
        refine E_pick [] (by decide) rfl ?_
        exact E_round (k + 1) ⟨by omega, by simp⟩ (by show body.length - (k + 1) < body.length - k; omega) (by repeat' (first | exact True.intro | refine And.intro rfl ?_)) rfl
  · rw [List.drop_of_length_le (by omega)]
    repeat (first
      | refine qv rfl (qp rfl) rfl rfl ?_ | refine TL_nil ?_ | refine T_seq ?_ | refine T_region ?_ | refine qcT rfl ?_ | refine qcF rfl ?_ | refine T_skip ?_
      | refine T_exit ?_ | refine T_ret ?_ | refine T_block ?_ | refine E_then ?_ | refine E_thenX ?_ | refine E_thenR ?_ | refine E_blockN ?_
      | refine E_blockR ?_ | refine E_blockX ?_ | refine E_blockO rfl ?_ | refine qs rfl rfl rfl rfl rfl rfl ?_
      | ((try refine qg rfl rfl rfl ?_); first | refine qv rfl (qp rfl) rfl rfl ?_ | refine qv rfl (qlen Und.eq rfl) rfl rfl ?_ | refine qv rfl (qfld FldC.fld rfl rfl) rfl rfl ?_ | refine qv rfl (rr_lss rfl rfl (qT (by omega))) rfl rfl ?_ | refine qv rfl (rr_lss rfl rfl (qF (by omega))) rfl rfl ?_ | refine qv rfl (rr_eql rfl rfl (qT (by omega))) rfl rfl ?_ | refine qv rfl (rr_eql rfl rfl (qF (by omega))) rfl rfl ?_ | refine qv rfl (rr_add64 rfl rfl (by omega) (by omega) rfl) rfl rfl ?_ | refine qv rfl (rr_not rfl rfl) rfl rfl ?_))
    exact E_ret1 rfl rfl fun w hm => hm.ret
end Go.Proofs.Ytkkiopmdcolobaa.eng

/- FactsB -/
namespace Go.Proofs.Ytkkiopmdcolobaa.eng
open Go.RowKit kit mix gramL factsL
theorem bits_orN {x y : Nat} (hx : x < 18446744073709551616) (hy : y < 18446744073709551616) : bits .or .u64 (x : Int) (y : Int) = ((x ||| y : Nat) : Int) := by
  have h := bits_nat .u64 64 (by decide) (fun n h0 h1 => by rw [IntKind.wrap_u64]; omega) x y (by simpa using hx) (by simpa using hy)
  exact h.2
theorem or_lt {x y : Nat} (hx : x < 18446744073709551616) (hy : y < 18446744073709551616) : x ||| y < 18446744073709551616 := Nat.or_lt_two_pow (n := 64) hx hy
theorem pow_lt64 {m : Nat} (h : m < 64) : 2 ^ m < 18446744073709551616 := by
  have : (2 : Nat) ^ m < 2 ^ 64 := Nat.pow_lt_pow_right (by decide) h
  simpa using this
theorem shl1 {P : Program} (m : Nat) (hm : m < 64) (w : World) : (Op.shift .shl .u64 1 .i64 (m : Int)).run P w = .ok (.int .u64 ((2 ^ m : Nat) : Int)) w := by
  have e : min m 64 = m := by omega
  have hp := pow_lt64 hm
  have e2 : (2 : Int) ^ m = ((2 ^ m : Nat) : Int) := by rw [Int.natCast_pow]; rfl
  have e3 : IntKind.u64.wrap ((1 : Int) * 2 ^ m) = ((2 ^ m : Nat) : Int) := by
    rw [e2, IntKind.wrap_u64, Int.one_mul]
    generalize 2 ^ m = q at hp
    omega
  have h0 : ¬ ((m : Int) < 0) := by omega
  simp only [Op.shift, if_neg h0, IntKind.bits, Int.toNat_natCast, e, e3, Sem.run_pure]
attribute [local irreducible] Op.shift Go.bits in
set_option maxHeartbeats 1000000 in
theorem add_calls (g cap : Nat) (l : List Nat) (i b : Nat) (w : World) (B : Base) (hi : i < l.length) (h64 : ∀ x ∈ l, x < 18446744073709551616) (hb : b < 18446744073709551616) (hm : Mem B [rowO 81 1 (.slice (some ⟨g, 0, none⟩) l.length cap) l.length (l.map bitV)] w) :
    Calls Try.prog 64 #[.slice (some ⟨g, 0, none⟩) l.length cap, .int .i64 (i : Int), bitV b] w (MeetsB ⟨fun (_ : Unit) => True, fun _ => .bool (addF l i b).2, fun _ => [rowO 81 1 (.slice (some ⟨g, 0, none⟩) l.length cap) l.length ((addF l i b).1.map bitV)]⟩ B) := by
  have hc := bit_at hi
  have hx64 : l.getD i 0 < 18446744073709551616 := by
    have e : l.getD i 0 = l[i] := by rw [List.getD_eq_getElem?_getD, List.getElem?_eq_getElem hi]; rfl
    rw [e]; exact h64 _ (List.getElem_mem hi)
  refine enterB hm (args := [.slice (some ⟨g, 0, none⟩) l.length cap, .int .i64 (i : Int), bitV b]) (n := 25) Try.func64 rfl rfl rfl ?_
  unfold addF
  generalize l.getD i 0 = x at *
  have hor := bits_orN hx64 hb
  have hset : ((l.map bitV).set i (.int .u64 ((x ||| b : Nat) : Int)))[0 + i]? = some (.int .u64 ((x ||| b : Nat) : Int)) := by
    rw [Nat.zero_add, List.getElem?_set_self (by simpa using hi)]
  generalize x ||| b = y at *
  by_cases c : y = x
  · rw [show (!decide (y = x)) = false by simp [c]]
    repeat (first
      | refine qv rfl (qp rfl) rfl rfl ?_ | refine TL_nil ?_ | refine T_seq ?_ | refine T_region ?_ | refine T_ret ?_ | refine E_then ?_ | refine E_thenR ?_
      | refine qv rfl (rr_idx1 Und.eq TyC.ty rfl rfl hi) rfl rfl ?_
      | refine qv rfl (rr_load1 TyC.ty rfl (at_row (i := 0) rfl (by rw [Nat.zero_add]; exact hc))) rfl rfl ?_ | refine qv rfl (rr_or rfl rfl hor) rfl rfl ?_
      | refine qv rfl (rr_neq rfl rfl (qT (by omega))) rfl rfl ?_ | refine qv rfl (rr_neq rfl rfl (qF (by omega))) rfl rfl ?_)
    refine TL_storeRow (i := 0) TyC.ty rfl rfl rfl rfl rfl rfl (by simpa using hi) ?_
    conv => arg 8; simp only [List.set_cons_zero, Nat.zero_add]
    repeat (first
      | refine qv rfl (qp rfl) rfl rfl ?_ | refine TL_nil ?_ | refine T_seq ?_ | refine T_region ?_ | refine T_ret ?_ | refine E_then ?_ | refine E_thenR ?_
      | refine qv rfl (rr_idx1 Und.eq TyC.ty rfl rfl hi) rfl rfl ?_ | refine qv rfl (rr_load1 TyC.ty rfl (at_row (i := 0) rfl hset)) rfl rfl ?_
      | refine qv rfl (rr_neq rfl rfl (qT (by omega))) rfl rfl ?_ | refine qv rfl (rr_neq rfl rfl (qF (by omega))) rfl rfl ?_)
    exact E_ret1 rfl rfl fun w hm => hm.meetsB (S := ⟨fun (_ : Unit) => True, fun _ => .bool false, fun _ => [rowO 81 1 (.slice (some ⟨g, 0, none⟩) l.length cap) l.length ((l.set i y).map bitV)]⟩) () trivial [0] (by decide) (by simp [List.map_set]; rfl)
  · rw [show (!decide (y = x)) = true by simp [c]]
    repeat (first
      | refine qv rfl (qp rfl) rfl rfl ?_ | refine TL_nil ?_ | refine T_seq ?_ | refine T_region ?_ | refine T_ret ?_ | refine E_then ?_ | refine E_thenR ?_
      | refine qv rfl (rr_idx1 Und.eq TyC.ty rfl rfl hi) rfl rfl ?_
      | refine qv rfl (rr_load1 TyC.ty rfl (at_row (i := 0) rfl (by rw [Nat.zero_add]; exact hc))) rfl rfl ?_ | refine qv rfl (rr_or rfl rfl hor) rfl rfl ?_
      | refine qv rfl (rr_neq rfl rfl (qT (by omega))) rfl rfl ?_ | refine qv rfl (rr_neq rfl rfl (qF (by omega))) rfl rfl ?_)
    refine TL_storeRow (i := 0) TyC.ty rfl rfl rfl rfl rfl rfl (by simpa using hi) ?_
    conv => arg 8; simp only [List.set_cons_zero, Nat.zero_add]
    repeat (first
      | refine qv rfl (qp rfl) rfl rfl ?_ | refine TL_nil ?_ | refine T_seq ?_ | refine T_region ?_ | refine T_ret ?_ | refine E_then ?_ | refine E_thenR ?_
      | refine qv rfl (rr_idx1 Und.eq TyC.ty rfl rfl hi) rfl rfl ?_ | refine qv rfl (rr_load1 TyC.ty rfl (at_row (i := 0) rfl hset)) rfl rfl ?_
      | refine qv rfl (rr_neq rfl rfl (qT (by omega))) rfl rfl ?_ | refine qv rfl (rr_neq rfl rfl (qF (by omega))) rfl rfl ?_)
    exact E_ret1 rfl rfl fun w hm => hm.meetsB (S := ⟨fun (_ : Unit) => True, fun _ => .bool true, fun _ => [rowO 81 1 (.slice (some ⟨g, 0, none⟩) l.length cap) l.length ((l.set i y).map bitV)]⟩) () trivial [0] (by decide) (by simp [List.map_set]; rfl)
theorem beginGo_cons (E : List Bool) (F : List Nat) (behind : Nat) (x : Sym) (r : List Sym) (out : Nat) : beginGo E F behind (x :: r) out = if x.1 = 1 then out ||| 2 ^ x.2.toNat else if E.getD x.2.toNat false = true then beginGo E F behind r (out ||| F.getD x.2.toNat 0) else out ||| F.getD x.2.toNat 0 := rfl
theorem beginGo_nil (E : List Bool) (F : List Nat) (behind out : Nat) : beginGo E F behind [] out = out ||| behind := rfl
def facV (vE vF vL vR vM : Value) : Value := .agg #[vE, vF, vL, vR, vM]
attribute [local irreducible] Op.shift Go.bits in
set_option maxHeartbeats 2000000 in
theorem begin_calls (vE vF vL vR vM vb : Value) (E : List Bool) (F : List Nat) (body : List Sym) (behind : Nat) (w : World) (hE : Sl w vE E.length (E.map .bool)) (hF : Sl w vF F.length (F.map bitV)) (hs : Sl w vb body.length (body.flatMap symC)) (hEF : E.length = F.length)
    (hok : ∀ x ∈ body, (x.1 = 1 → 0 ≤ x.2 ∧ x.2 < 64) ∧ (x.1 ≠ 1 → 0 ≤ x.2 ∧ x.2 < F.length)) (h64 : ∀ x ∈ F, x < 18446744073709551616) (hb : behind < 18446744073709551616) :
    Calls Try.prog 51 #[facV vE vF vL vR vM, vb, bitV behind] w (Meets (ret (bitV (beginF E F body behind))) w) := by
  obtain ⟨bE, cE, rfl, e1, e2, e3⟩ := hE
  obtain ⟨bF, cF, rfl, f1, f2, f3⟩ := hF
  obtain ⟨bb, cb, rfl, h4, h5, h6⟩ := hs
  unfold maxLen at e2 f2 h5
  refine enter (args := [facV (.slice bE E.length cE) (.slice bF F.length cF) vL vR vM, .slice bb body.length cb, bitV behind]) (n := 44) Try.func51 rfl rfl rfl ?_
  refine T_seq (T_region (TL_box rfl rfl rfl fun g3 => ?_))
  repeat (first
    | refine qv rfl (qp rfl) rfl rfl ?_ | refine TL_nil ?_ | refine T_seq ?_ | refine T_region ?_ | refine qcT rfl ?_ | refine qcF rfl ?_ | refine T_skip ?_
    | refine T_exit ?_ | refine T_ret ?_ | refine T_block ?_ | refine E_then ?_ | refine E_thenX ?_ | refine E_thenR ?_ | refine E_blockN ?_
    | refine E_blockR ?_ | refine E_blockX ?_ | refine E_blockO rfl ?_ | refine qv rfl (qlen Und.eq rfl) rfl rfl ?_
    | refine qv rfl (qfld FldC.fld rfl rfl) rfl rfl ?_ | refine qv rfl (rr_not rfl rfl) rfl rfl ?_
    | refine qv rfl (rr_lss rfl rfl (qT (by omega))) rfl rfl ?_ | refine qv rfl (rr_lss rfl rfl (qF (by omega))) rfl rfl ?_
    | refine qv rfl (rr_eql rfl rfl (qT (by omega))) rfl rfl ?_ | refine qv rfl (rr_eql rfl rfl (qF (by omega))) rfl rfl ?_
    | refine qv rfl (rr_add64 rfl rfl (by omega) (by omega) rfl) rfl rfl ?_)
  unfold beginF
  refine T_loop (ι := Nat × Nat) (fun (k, out) => k ≤ body.length ∧ out < 18446744073709551616 ∧ beginGo E F behind body 0 = beginGo E F behind (body.drop k) out) (fun (k, out) => [(2, bitV behind), (3, .pointer (some ⟨g3, 0, none⟩)), (7, bitV out), (10, .slice bb body.length cb), (11, .int .i64 body.length), (12, .int .i64 (k : Int))]) (fun _ => [blkO g3 (facV (.slice bE E.length cE) (.slice bF F.length cF) vL vR vM).cells 67]) (fun (k, _) => body.length - k) (0, 0) ⟨Nat.zero_le _, by decide, rfl⟩ (by repeat' (first | exact True.intro | refine And.intro rfl ?_)) rfl ?_
  rintro ⟨k, out⟩ ⟨i1, i3, i2⟩
  dsimp only at i1 i3 i2 ⊢
  rw [i2]
  clear i2
  by_cases c6 : k < body.length
  · obtain ⟨b, off, rfl, hr⟩ := h6 (by omega)
    have hat := at_el (L := [blkO g3 (facV (.slice bE E.length cE) (.slice bF F.length cF) vL vR vM).cells 67]) SymS_len hr c6
    have hokx := hok body[k] (List.getElem_mem c6)
    have hd : beginGo E F behind (body.drop k) out = beginGo E F behind (body[k] :: body.drop (k + 1)) out := by
      rw [List.drop_eq_getElem_cons c6]
    rw [hd]
    clear hd h6 hok hr
    generalize body[k] = x at *
    obtain ⟨q, m⟩ := x
    dsimp only at *
    rw [beginGo_cons]
    dsimp only
    by_cases c1 : q = 1
    · rw [if_pos c1]
      obtain ⟨o1, o2⟩ := hokx.1 c1
      obtain ⟨mm, rfl⟩ : ∃ mm : Nat, m = mm := ⟨m.toNat, by omega⟩
      rw [Int.toNat_natCast]
      have hsh := fun w => shl1 (P := Try.prog) mm (by omega) w
      have hor := bits_orN i3 (pow_lt64 (m := mm) (by omega))
      repeat (first
        | refine qv rfl (qp rfl) rfl rfl ?_ | refine TL_nil ?_ | refine T_seq ?_ | refine T_region ?_ | refine qcT rfl ?_ | refine qcF rfl ?_ | refine T_skip ?_
        | refine T_exit ?_ | refine T_ret ?_ | refine T_block ?_ | refine E_then ?_ | refine E_thenX ?_ | refine E_thenR ?_ | refine E_blockN ?_
        | refine E_blockR ?_ | refine E_blockX ?_ | refine E_blockO rfl ?_ | refine qv rfl (rr_idxc Und.eq TyC.ty rfl rfl c6) rfl rfl ?_
        | refine qv rfl (rr_loadN TyC.ty rfl rfl hat) rfl rfl ?_ | refine qv rfl (qlen Und.eq rfl) rfl rfl ?_ | refine qv rfl (qfld FldC.fld rfl rfl) rfl rfl ?_
        | refine qv rfl (rr_not rfl rfl) rfl rfl ?_ | refine qv rfl (rr_lss rfl rfl (qT (by omega))) rfl rfl ?_
        | refine qv rfl (rr_lss rfl rfl (qF (by omega))) rfl rfl ?_ | refine qv rfl (rr_eql rfl rfl (qT (by omega))) rfl rfl ?_
        | refine qv rfl (rr_eql rfl rfl (qF (by omega))) rfl rfl ?_ | refine qv rfl (rr_add64 rfl rfl (by omega) (by omega) rfl) rfl rfl ?_)
      refine TL_new rfl fun g8 => ?_
      refine TL_storeB (i := 1) rfl rfl rfl rfl rfl rfl ?_
      repeat (first
        | refine qv rfl (qp rfl) rfl rfl ?_ | refine TL_nil ?_ | refine T_seq ?_ | refine T_region ?_ | refine qcT rfl ?_ | refine qcF rfl ?_ | refine T_skip ?_
        | refine T_exit ?_ | refine T_ret ?_ | refine T_block ?_ | refine E_then ?_ | refine E_thenX ?_ | refine E_thenR ?_ | refine E_blockN ?_
        | refine E_blockR ?_ | refine E_blockX ?_ | refine E_blockO rfl ?_ | refine qv rfl (rr_load1 TyC.ty rfl (at_blk (i := 1) rfl rfl)) rfl rfl ?_
        | refine qv rfl (rr_shl rfl rfl hsh) rfl rfl ?_ | refine qv rfl (rr_or rfl rfl hor) rfl rfl ?_ | refine qv rfl (qlen Und.eq rfl) rfl rfl ?_
        | refine qv rfl (qfld FldC.fld rfl rfl) rfl rfl ?_ | refine qv rfl (rr_not rfl rfl) rfl rfl ?_
        | refine qv rfl (rr_lss rfl rfl (qT (by omega))) rfl rfl ?_ | refine qv rfl (rr_lss rfl rfl (qF (by omega))) rfl rfl ?_
        | refine qv rfl (rr_eql rfl rfl (qT (by omega))) rfl rfl ?_ | refine qv rfl (rr_eql rfl rfl (qF (by omega))) rfl rfl ?_
        | refine qv rfl (rr_add64 rfl rfl (by omega) (by omega) rfl) rfl rfl ?_)
      exact E_ret1 rfl rfl fun w hm => hm.ret
    · rw [if_neg c1]
      obtain ⟨o1, o2⟩ := hokx.2 c1
      obtain ⟨mm, rfl⟩ : ∃ mm : Nat, m = mm := ⟨m.toNat, by omega⟩
      rw [Int.toNat_natCast]
      have hmm : mm < F.length := by omega
      have hmE : mm < E.length := by omega
      obtain ⟨b1, off1, rfl, hr1⟩ := e3 (by omega)
      obtain ⟨b2, off2, rfl, hr2⟩ := f3 (by omega)
      have hcE := bool_at hmE
      have hcF := bit_at hmm
      have hx64 : F.getD mm 0 < 18446744073709551616 := by
        have e : F.getD mm 0 = F[mm] := by rw [List.getD_eq_getElem?_getD, List.getElem?_eq_getElem hmm]; rfl
        rw [e]; exact h64 _ (List.getElem_mem hmm)
      have hor := bits_orN i3 hx64
      have hlt := or_lt i3 hx64
      generalize E.getD mm false = y at *
      generalize F.getD mm 0 = z at *
      generalize out ||| z = o2 at *
      cases y
      · rw [if_neg (by decide)]
        repeat (first
          | refine qv rfl (qp rfl) rfl rfl ?_ | refine TL_nil ?_ | refine T_seq ?_ | refine T_region ?_ | refine qcT rfl ?_ | refine qcF rfl ?_ | refine T_skip ?_
          | refine T_exit ?_ | refine T_ret ?_ | refine T_block ?_ | refine E_then ?_ | refine E_thenX ?_ | refine E_thenR ?_ | refine E_blockN ?_
          | refine E_blockR ?_ | refine E_blockX ?_ | refine E_blockO rfl ?_ | refine qv rfl (rr_idxc Und.eq TyC.ty rfl rfl c6) rfl rfl ?_
          | refine qv rfl (rr_loadN TyC.ty rfl rfl hat) rfl rfl ?_ | refine qv rfl (qlen Und.eq rfl) rfl rfl ?_ | refine qv rfl (qfld FldC.fld rfl rfl) rfl rfl ?_
          | refine qv rfl (rr_not rfl rfl) rfl rfl ?_ | refine qv rfl (rr_lss rfl rfl (qT (by omega))) rfl rfl ?_
          | refine qv rfl (rr_lss rfl rfl (qF (by omega))) rfl rfl ?_ | refine qv rfl (rr_eql rfl rfl (qT (by omega))) rfl rfl ?_
          | refine qv rfl (rr_eql rfl rfl (qF (by omega))) rfl rfl ?_ | refine qv rfl (rr_add64 rfl rfl (by omega) (by omega) rfl) rfl rfl ?_)
        refine TL_new rfl fun g8 => ?_
        refine TL_storeB (i := 1) rfl rfl rfl rfl rfl rfl ?_
        repeat (first
          | refine qv rfl (qp rfl) rfl rfl ?_ | refine TL_nil ?_ | refine T_seq ?_ | refine T_region ?_ | refine qcT rfl ?_ | refine qcF rfl ?_ | refine T_skip ?_
          | refine T_exit ?_ | refine T_ret ?_ | refine T_block ?_ | refine E_then ?_ | refine E_thenX ?_ | refine E_thenR ?_ | refine E_blockN ?_
          | refine E_blockR ?_ | refine E_blockX ?_ | refine E_blockO rfl ?_ | refine qv rfl (rr_load1 TyC.ty rfl (at_blk (i := 1) rfl rfl)) rfl rfl ?_
          | refine qv rfl (rr_load1 TyC.ty rfl (at_blk (i := 0) rfl rfl)) rfl rfl ?_ | refine qv rfl (rr_idx1 Und.eq TyC.ty rfl rfl hmm) rfl rfl ?_
          | refine qv rfl (rr_idx1 Und.eq TyC.ty rfl rfl hmE) rfl rfl ?_ | refine qv rfl (rr_load1 TyC.ty rfl (at_rd hr1 hcE)) rfl rfl ?_
          | refine qv rfl (rr_load1 TyC.ty rfl (at_rd hr2 hcF)) rfl rfl ?_ | refine qv rfl (rr_or rfl rfl hor) rfl rfl ?_
          | refine qv rfl (qlen Und.eq rfl) rfl rfl ?_ | refine qv rfl (qfld FldC.fld rfl rfl) rfl rfl ?_ | refine qv rfl (rr_not rfl rfl) rfl rfl ?_
          | refine qv rfl (rr_lss rfl rfl (qT (by omega))) rfl rfl ?_ | refine qv rfl (rr_lss rfl rfl (qF (by omega))) rfl rfl ?_
          | refine qv rfl (rr_eql rfl rfl (qT (by omega))) rfl rfl ?_ | refine qv rfl (rr_eql rfl rfl (qF (by omega))) rfl rfl ?_
          | refine qv rfl (rr_add64 rfl rfl (by omega) (by omega) rfl) rfl rfl ?_)
        exact E_ret1 rfl rfl fun w hm => hm.ret
      · rw [if_pos rfl]
        repeat (first
          | refine qv rfl (qp rfl) rfl rfl ?_ | refine TL_nil ?_ | refine T_seq ?_ | refine T_region ?_ | refine qcT rfl ?_ | refine qcF rfl ?_ | refine T_skip ?_
          | refine T_exit ?_ | refine T_ret ?_ | refine T_block ?_ | refine E_then ?_ | refine E_thenX ?_ | refine E_thenR ?_ | refine E_blockN ?_
          | refine E_blockR ?_ | refine E_blockX ?_ | refine E_blockO rfl ?_ | refine qv rfl (rr_idxc Und.eq TyC.ty rfl rfl c6) rfl rfl ?_
          | refine qv rfl (rr_loadN TyC.ty rfl rfl hat) rfl rfl ?_ | refine qv rfl (qlen Und.eq rfl) rfl rfl ?_ | refine qv rfl (qfld FldC.fld rfl rfl) rfl rfl ?_
          | refine qv rfl (rr_not rfl rfl) rfl rfl ?_ | refine qv rfl (rr_lss rfl rfl (qT (by omega))) rfl rfl ?_
          | refine qv rfl (rr_lss rfl rfl (qF (by omega))) rfl rfl ?_ | refine qv rfl (rr_eql rfl rfl (qT (by omega))) rfl rfl ?_
          | refine qv rfl (rr_eql rfl rfl (qF (by omega))) rfl rfl ?_ | refine qv rfl (rr_add64 rfl rfl (by omega) (by omega) rfl) rfl rfl ?_)
        refine TL_new rfl fun g8 => ?_
        refine TL_storeB (i := 1) rfl rfl rfl rfl rfl rfl ?_
        repeat (first
          | refine qv rfl (qp rfl) rfl rfl ?_ | refine TL_nil ?_ | refine T_seq ?_ | refine T_region ?_ | refine qcT rfl ?_ | refine qcF rfl ?_ | refine T_skip ?_
          | refine T_exit ?_ | refine T_ret ?_ | refine T_block ?_ | refine E_then ?_ | refine E_thenX ?_ | refine E_thenR ?_ | refine E_blockN ?_
          | refine E_blockR ?_ | refine E_blockX ?_ | refine E_blockO rfl ?_ | refine qv rfl (rr_load1 TyC.ty rfl (at_blk (i := 1) rfl rfl)) rfl rfl ?_
          | refine qv rfl (rr_load1 TyC.ty rfl (at_blk (i := 0) rfl rfl)) rfl rfl ?_ | refine qv rfl (rr_idx1 Und.eq TyC.ty rfl rfl hmm) rfl rfl ?_
          | refine qv rfl (rr_idx1 Und.eq TyC.ty rfl rfl hmE) rfl rfl ?_ | refine qv rfl (rr_load1 TyC.ty rfl (at_rd hr1 hcE)) rfl rfl ?_
          | refine qv rfl (rr_load1 TyC.ty rfl (at_rd hr2 hcF)) rfl rfl ?_ | refine qv rfl (rr_or rfl rfl hor) rfl rfl ?_
          | refine qv rfl (qlen Und.eq rfl) rfl rfl ?_ | refine qv rfl (qfld FldC.fld rfl rfl) rfl rfl ?_ | refine qv rfl (rr_not rfl rfl) rfl rfl ?_
          | refine qv rfl (rr_lss rfl rfl (qT (by omega))) rfl rfl ?_ | refine qv rfl (rr_lss rfl rfl (qF (by omega))) rfl rfl ?_
          | refine qv rfl (rr_eql rfl rfl (qT (by omega))) rfl rfl ?_ | refine qv rfl (rr_eql rfl rfl (qF (by omega))) rfl rfl ?_
          | refine qv rfl (rr_add64 rfl rfl (by omega) (by omega) rfl) rfl rfl ?_)
        refine E_pick [0] (by decide) rfl ?_
        exact E_round (k + 1, o2) ⟨by omega, hlt, rfl⟩ (by show body.length - (k + 1) < body.length - k; omega) (by repeat' (first | exact True.intro | refine And.intro rfl ?_)) rfl
  · rw [List.drop_of_length_le (by omega)]
    have hor := bits_orN i3 hb
    rw [beginGo_nil]
    repeat (first
      | refine qv rfl (qp rfl) rfl rfl ?_ | refine TL_nil ?_ | refine T_seq ?_ | refine T_region ?_ | refine qcT rfl ?_ | refine qcF rfl ?_ | refine T_skip ?_
      | refine T_exit ?_ | refine T_ret ?_ | refine T_block ?_ | refine E_then ?_ | refine E_thenX ?_ | refine E_thenR ?_ | refine E_blockN ?_
      | refine E_blockR ?_ | refine E_blockX ?_ | refine E_blockO rfl ?_ | refine qv rfl (rr_or rfl rfl hor) rfl rfl ?_
      | refine qv rfl (qlen Und.eq rfl) rfl rfl ?_ | refine qv rfl (qfld FldC.fld rfl rfl) rfl rfl ?_ | refine qv rfl (rr_not rfl rfl) rfl rfl ?_
      | refine qv rfl (rr_lss rfl rfl (qT (by omega))) rfl rfl ?_ | refine qv rfl (rr_lss rfl rfl (qF (by omega))) rfl rfl ?_
      | refine qv rfl (rr_eql rfl rfl (qT (by omega))) rfl rfl ?_ | refine qv rfl (rr_eql rfl rfl (qF (by omega))) rfl rfl ?_
      | refine qv rfl (rr_add64 rfl rfl (by omega) (by omega) rfl) rfl rfl ?_)
    exact E_ret1 rfl rfl fun w hm => hm.ret
end Go.Proofs.Ytkkiopmdcolobaa.eng

/- FactsC -/
namespace Go.Proofs.Ytkkiopmdcolobaa.eng
open Go.RowKit kit mix gramL factsL
/-- a row of bools of a given number -/
def rowBn (n g c : Nat) (l : List Bool) : Own := rowO 4 1 (.slice (some ⟨g, 0, none⟩) n c) n (l.map .bool)
theorem mark2_calls (n g cap : Nat) (l : List Bool) (i : Nat) (b : Bool) (w : World) (B : Base) (hl : l.length = n) (hi : i < n) (hm : Mem B [rowBn n g cap l] w) :
    Calls Try.prog 62 #[.slice (some ⟨g, 0, none⟩) n cap, .int .i64 (i : Int), .bool b] w (MeetsB ⟨fun (_ : Unit) => True, fun _ => .bool (markF l i b).2, fun _ => [rowBn n g cap (markF l i b).1]⟩ B) := by
  subst hl
  exact mark_calls g cap l i b w B hi hm
structure Rows3 where
  gE : Nat
  cE : Nat
  gR : Nat
  cR : Nat
  gM : Nat
  cM : Nat
def vRow (n g c : Nat) : Value := .slice (some ⟨g, 0, none⟩) n c
theorem roundR_cons (h : Nat) (x : Sym) (r : List Sym) (R : List Bool) (more : Bool) : roundR h (x :: r) R more = roundR h r (stepR h x R more).1 (stepR h x R more).2 := rfl
theorem roundL_cons (p : gramL.Prod) (r : List gramL.Prod) (s : FS) : roundL (p :: r) s = roundL r (roundP p s) := rfl
set_option maxHeartbeats 8000000 in
theorem round_calls (w0 : World) (v : Value) (g : Gram) (h : GraR (fun k => k < w0.heap.size) w0 v g) (hck : checkG g = 0) (n : Nat) (hn : g.nons = n) (x : Rows3) (vF vL : Value) (E R M : List Bool) (hE : E.length = n) (hR : R.length = n) (hM : M.length = n) (w : World) (B : Base) (ho : Old w0 B) (hm : Mem B [rowBn n x.gE x.cE E, rowBn n x.gR x.cR R, rowBn n x.gM x.cM M] w) :
    Calls Try.prog 37 #[v, facV (vRow n x.gE x.cE) vF vL (vRow n x.gR x.cR) (vRow n x.gM x.cM)] w (MeetsB ⟨fun (_ : Unit) => True, fun _ => .bool (roundL g.prods ⟨E, R, M, false⟩).more, fun _ => [rowBn n x.gE x.cE (roundL g.prods ⟨E, R, M, false⟩).E, rowBn n x.gR x.cR (roundL g.prods ⟨E, R, M, false⟩).R, rowBn n x.gM x.cM (roundL g.prods ⟨E, R, M, false⟩).M]⟩ B) := by
  obtain ⟨gE, cE, gR, cR, gM, cM⟩ := x
  dsimp only at *
  obtain ⟨_, _, _, _, hlen, hps⟩ := checkG_ok hck
  obtain ⟨vp, rfl, h1, _⟩ := h
  obtain ⟨bp, cp, rfl, hcp, hmp, hrp⟩ := h1
  unfold maxLen at hmp
  obtain ⟨t, nn, prods⟩ := g
  dsimp only at *
  subst hn
  refine enterB hm (args := [graV t (n : Int) (.slice bp prods.length cp), facV (vRow n gE cE) vF vL (vRow n gR cR) (vRow n gM cM)]) (n := 70) Try.func37 rfl rfl rfl ?_
  refine T_seq (T_region (TL_box rfl rfl rfl fun g2 => TL_box rfl rfl rfl fun g3 => ?_))
  conv => arg 8; simp only [zA, zB, zC, zD, zE, zF, zG, zH, zI, rowS, ret, id_eq]
  repeat (first
    | refine qv rfl (qp rfl) rfl rfl ?_ | refine TL_nil ?_ | refine T_seq ?_ | refine T_region ?_ | refine qcT rfl ?_ | refine qcF rfl ?_ | refine T_skip ?_
    | refine T_exit ?_ | refine T_ret ?_ | refine T_block ?_ | refine E_then ?_ | refine E_thenX ?_ | refine E_thenR ?_ | refine E_blockN ?_
    | refine E_blockR ?_ | refine E_blockX ?_ | refine E_blockO rfl ?_ | refine qs rfl rfl rfl rfl rfl rfl ?_
    | ((try refine qg rfl rfl rfl ?_); first | refine qv rfl (qp rfl) rfl rfl ?_ | refine qv rfl (rr_load1 TyC.ty rfl (at_blk (i := 3) rfl rfl)) rfl rfl ?_ | refine qv rfl (qlen Und.eq rfl) rfl rfl ?_ | refine qv rfl (qfld FldC.fld rfl rfl) rfl rfl ?_ | refine qv rfl (rr_lss rfl rfl (qT (by omega))) rfl rfl ?_ | refine qv rfl (rr_lss rfl rfl (qF (by omega))) rfl rfl ?_ | refine qv rfl (rr_eql rfl rfl (qT (by omega))) rfl rfl ?_ | refine qv rfl (rr_eql rfl rfl (qF (by omega))) rfl rfl ?_ | refine qv rfl (rr_add64 rfl rfl (by omega) (by omega) rfl) rfl rfl ?_))
  refine T_pick [0, 1, 2, 4] (by decide) rfl ?_
  generalize hfin : roundL prods ⟨E, R, M, false⟩ = fin
  refine T_loop (ι := Nat × FS) (fun (k, s) => k ≤ prods.length ∧ s.E.length = n ∧ s.R.length = n ∧ s.M.length = n ∧ roundL (prods.drop k) s = fin) (fun (k, s) => [(3, .pointer (some ⟨g3, 0, none⟩)), (5, .bool s.more), (11, .slice bp prods.length cp), (12, .int .i64 prods.length), (13, .int .i64 (k : Int))])
    (fun (_, s) => [rowBn n gE cE s.E, rowBn n gR cR s.R, rowBn n gM cM s.M, blkO g3 (facV (vRow n gE cE) vF vL (vRow n gR cR) (vRow n gM cM)).cells 67]) (fun (k, _) => prods.length - k) (0, ⟨E, R, M, false⟩) ⟨Nat.zero_le _, hE, hR, hM, hfin⟩ (by repeat' (first | exact True.intro | refine And.intro rfl ?_)) rfl ?_
  clear hm hE hR hM hfin
  rintro ⟨k, E, R, M, more⟩ ⟨i1, i2, i3, i4, i5⟩
  dsimp only at i1 i2 i3 i4 i5 ⊢
  by_cases c6 : k < prods.length
  · obtain ⟨b, off, rfl, _, hr⟩ := hrp (by omega)
    obtain ⟨bb, cb, q1, q2, q3⟩ := prod_at hr c6
    have hpk := hps prods[k] (List.getElem_mem c6)
    rw [List.drop_eq_getElem_cons c6, roundL_cons] at i5
    have hat : ∀ (L : List Own) (j : Nat) (v : Value), ([.int .i64 prods[k].1, .slice bb prods[k].2.length cb] : List Value)[j]? = some v → At B L ⟨b, off + k * 2 + j, none⟩ v := fun L j v hj => at_old0 ho (q1 j v hj)
    have hfl := q3.flat (by decide)
    clear hr hrp q1 hps q3
    generalize prods[k] = p at *
    obtain ⟨hd, body⟩ := p
    obtain ⟨p1, p2, p3, p4⟩ := hpk
    dsimp only at *
    obtain ⟨hn, rfl⟩ : ∃ hn : Nat, hd = hn := ⟨hd.toNat, by omega⟩
    have hhn : hn < n := by omega
    have hbody : ∀ x ∈ body, x.1 = 2 → 0 ≤ x.2 ∧ x.2 < (n : Int) := fun x hx hx2 => by
      have := p4 x hx
      unfold right at this
      rw [if_neg (by omega), if_pos hx2] at this
      simpa using this
    have hsb : ∀ w' L, Mem B L w' → Sl w' (.slice bb body.length cb) body.length (body.flatMap symC) := fun w' L hm => hfl.gr (ho.mem hm)
    unfold roundP at i5
    dsimp only at i5
    rw [Int.toNat_natCast] at i5
    have hall1 := fun w' L (hm : Mem B L w') (hx : Sl w' (vRow n gE cE) E.length (E.map .bool)) => allB_calls (vRow n gE cE) (.slice bb body.length cb) E body false w' hx (hsb w' L hm) (fun x hx hx2 => by rw [i2]; exact hbody x hx hx2)
    have hall2 := fun w' L (hm : Mem B L w') (hx : Sl w' (vRow n gM cM) M.length (M.map .bool)) => allB_calls (vRow n gM cM) (.slice bb body.length cb) M body true w' hx (hsb w' L hm) (fun x hx hx2 => by rw [i4]; exact hbody x hx hx2)
    generalize allF E body false = a1 at *
    generalize allF M body true = a2 at *
    have hmk1 := fun w' B' hm => mark2_calls n gE cE E hn a1 w' B' i2 hhn hm
    have hmk2 := fun w' B' hm => mark2_calls n gM cM M hn a2 w' B' i4 hhn hm
    have hl1 := markF_len E hn a1
    have hl2 := markF_len M hn a2
    rw [i2] at hl1 hall1
    rw [i4] at hl2 hall2
    generalize markF E hn a1 = m1 at *
    generalize markF M hn a2 = m2 at *
    obtain ⟨E1, b1⟩ := m1
    obtain ⟨M1, b2⟩ := m2
    dsimp only at *
    repeat (first
      | refine qv rfl (qp rfl) rfl rfl ?_ | refine TL_nil ?_ | refine T_seq ?_ | refine T_region ?_ | refine qcT rfl ?_ | refine qcF rfl ?_ | refine T_skip ?_
      | refine T_exit ?_ | refine T_ret ?_ | refine T_block ?_ | refine E_then ?_ | refine E_thenX ?_ | refine E_thenR ?_ | refine E_blockN ?_
      | refine E_blockR ?_ | refine E_blockX ?_ | refine E_blockO rfl ?_ | refine qs rfl rfl rfl rfl rfl rfl ?_
      | ((try refine qg rfl rfl rfl ?_); first | refine qv rfl (qp rfl) rfl rfl ?_ | refine qv rfl (rr_idxc Und.eq TyC.ty rfl rfl c6) rfl rfl ?_ | refine qv rfl (rr_loadN TyC.ty rfl rfl (hat _)) rfl rfl ?_ | refine qv rfl (qlen Und.eq rfl) rfl rfl ?_ | refine qv rfl (qfld FldC.fld rfl rfl) rfl rfl ?_ | refine qv rfl (rr_lss rfl rfl (qT (by omega))) rfl rfl ?_ | refine qv rfl (rr_lss rfl rfl (qF (by omega))) rfl rfl ?_ | refine qv rfl (rr_eql rfl rfl (qT (by omega))) rfl rfl ?_ | refine qv rfl (rr_eql rfl rfl (qF (by omega))) rfl rfl ?_ | refine qv rfl (rr_add64 rfl rfl (by omega) (by omega) rfl) rfl rfl ?_))
    clear hat
    refine TL_new rfl fun g7 => ?_
    refine TL_storeB (i := 4) rfl rfl rfl rfl rfl rfl ?_
    conv => arg 8; simp only [zA, zB, zC, zD, zE, zF, zG, zH, zI, rowS, ret, id_eq]
    repeat (first
      | refine qv rfl (qp rfl) rfl rfl ?_ | refine TL_nil ?_ | refine E_then ?_ | refine qs rfl rfl rfl rfl rfl rfl ?_
      | ((try refine qg rfl rfl rfl ?_); first | refine qv rfl (qp rfl) rfl rfl ?_ | refine qv rfl (qlen Und.eq rfl) rfl rfl ?_ | refine qv rfl (qfld FldC.fld rfl rfl) rfl rfl ?_ | refine qv rfl (rr_lss rfl rfl (qT (by omega))) rfl rfl ?_ | refine qv rfl (rr_lss rfl rfl (qF (by omega))) rfl rfl ?_ | refine qv rfl (rr_eql rfl rfl (qT (by omega))) rfl rfl ?_ | refine qv rfl (rr_eql rfl rfl (qF (by omega))) rfl rfl ?_ | refine qv rfl (rr_add64 rfl rfl (by omega) (by omega) rfl) rfl rfl ?_))
    (repeat refine T_seq ?_)
    refine T_midq (ι := Unit) (fun _ => True) (fun _ => [(3, .pointer (some ⟨g3, 0, none⟩)), (5, .bool (b1 || more)), (7, .pointer (some ⟨g7, 0, none⟩)), (11, .slice (some ⟨b, off, none⟩) prods.length cp), (12, .int .i64 prods.length), (13, .int .i64 (k : Int))])
      (fun _ => [rowBn n gE cE E1, rowBn n gR cR R, rowBn n gM cM M, blkO g3 (facV (vRow n gE cE) vF vL (vRow n gR cR) (vRow n gM cM)).cells 67, blkO g7 #[.int .i64 (hn : Int), .slice bb body.length cb] 46]) ?_ ?_
    · refine T_ord ([blkO g3 (facV (vRow n gE cE) vF vL (vRow n gR cR) (vRow n gM cM)).cells 67, blkO g7 #[.int .i64 (hn : Int), .slice bb body.length cb] 46]) (.calm 0 (.calm 1 (.calm 2 (.calm 3 (.calm 4 (.calm 5 (.calm 6 (.calm 7 (.one 8 (.one 9 (.calm 10 (.calm 11 (.calm 12 (.calm 13 (.done))))))))))))))) (sub_pick [3, 4] (by decide) rfl) (by kernel_rfl) (by kernel_rfl) (by intro c a d v w h; cases d <;> exact h) ?_
      repeat (first
        | ((first | refine TW_plain rfl rfl ?_ | refine TW_gmet rfl rfl rfl rfl ?_); first | refine TN_val (qp rfl) rfl rfl ?_ | refine TN_val (rr_load1 TyC.ty rfl (at_blk (i := 0) rfl rfl)) rfl rfl ?_ | refine TN_val (rr_load1 TyC.ty rfl (at_blk (i := 1) rfl rfl)) rfl rfl ?_ | refine TN_val (qlen Und.eq rfl) rfl rfl ?_ | refine TN_val (qfld FldC.fld rfl rfl) rfl rfl ?_ | refine TN_val (rr_lss rfl rfl (qT (by omega))) rfl rfl ?_ | refine TN_val (rr_lss rfl rfl (qF (by omega))) rfl rfl ?_ | refine TN_val (rr_eql rfl rfl (qT (by omega))) rfl rfl ?_ | refine TN_val (rr_eql rfl rfl (qF (by omega))) rfl rfl ?_ | refine TN_val (rr_add64 rfl rfl (by omega) (by omega) rfl) rfl rfl ?_)
        | refine TW_skip rfl rfl rfl rfl rfl rfl rfl ?_ | refine TW_done ?_)
      refine TW_one rfl ?_
      refine TL_call (he3 EntersC.en rfl rfl rfl rfl) (fun w hm => hall1 _ _ hm (sl_row (i := 0) rfl w hm)) rfl rfl rfl ?_
      intro _ _
      conv => arg 8; simp only [zA, zB, zC, zD, zE, zF, zG, zH, zI, rowS, ret, id_eq]
      refine TW_on (sub_pick [3, 4] (by decide) rfl) ?_
      refine TW_one rfl ?_
      refine TL_callB [0] [1, 2, 3, 4] (by decide) rfl rfl (he3 EntersC.en rfl rfl rfl rfl) (fun w hm hb => hmk1 w _ hb) rfl rfl rfl ?_
      intro _ _
      conv => arg 8; simp only [zA, zB, zC, zD, zE, zF, zG, zH, zI, rowS, ret, id_eq]
      refine TW_on (sub_pick [2, 3] (by decide) rfl) ?_
      cases b1
      · repeat (first
          | ((first | refine TW_plain rfl rfl ?_ | refine TW_gmet rfl rfl rfl rfl ?_); first | refine TN_val (qp rfl) rfl rfl ?_ | refine TN_val (qlen Und.eq rfl) rfl rfl ?_ | refine TN_val (qfld FldC.fld rfl rfl) rfl rfl ?_ | refine TN_val (rr_lss rfl rfl (qT (by omega))) rfl rfl ?_ | refine TN_val (rr_lss rfl rfl (qF (by omega))) rfl rfl ?_ | refine TN_val (rr_eql rfl rfl (qT (by omega))) rfl rfl ?_ | refine TN_val (rr_eql rfl rfl (qF (by omega))) rfl rfl ?_ | refine TN_val (rr_add64 rfl rfl (by omega) (by omega) rfl) rfl rfl ?_)
          | refine TW_skip rfl rfl rfl rfl rfl rfl rfl ?_ | refine TW_done ?_)
        refine E_pick [4, 0, 1, 2, 3] (by decide) rfl ?_
        exact E_mid () trivial (by repeat' (first | exact True.intro | refine And.intro rfl ?_)) rfl
      · repeat (first
          | ((first | refine TW_plain rfl rfl ?_ | refine TW_gmet rfl rfl rfl rfl ?_); first | refine TN_val (qp rfl) rfl rfl ?_ | refine TN_val (qlen Und.eq rfl) rfl rfl ?_ | refine TN_val (qfld FldC.fld rfl rfl) rfl rfl ?_ | refine TN_val (rr_lss rfl rfl (qT (by omega))) rfl rfl ?_ | refine TN_val (rr_lss rfl rfl (qF (by omega))) rfl rfl ?_ | refine TN_val (rr_eql rfl rfl (qT (by omega))) rfl rfl ?_ | refine TN_val (rr_eql rfl rfl (qF (by omega))) rfl rfl ?_ | refine TN_val (rr_add64 rfl rfl (by omega) (by omega) rfl) rfl rfl ?_)
          | refine TW_skip rfl rfl rfl rfl rfl rfl rfl ?_ | refine TW_done ?_)
        refine E_pick [4, 0, 1, 2, 3] (by decide) rfl ?_
        exact E_mid () trivial (by repeat' (first | exact True.intro | refine And.intro rfl ?_)) rfl
    intro _ _
    (repeat refine T_seq ?_)
    refine T_midq (ι := Unit) (fun _ => True) (fun _ => [(3, .pointer (some ⟨g3, 0, none⟩)), (5, .bool (b2 || (b1 || more))), (7, .pointer (some ⟨g7, 0, none⟩)), (11, (.slice (some ⟨b, off, none⟩) prods.length cp)), (12, .int .i64 prods.length), (13, .int .i64 (k : Int))])
      (fun _ => [rowBn n gE cE E1, rowBn n gR cR R, rowBn n gM cM M1, blkO g3 (facV (vRow n gE cE) vF vL (vRow n gR cR) (vRow n gM cM)).cells 67, blkO g7 #[.int .i64 (hn : Int), .slice bb body.length cb] 46]) ?_ ?_
    · refine T_ord ([blkO g3 (facV (vRow n gE cE) vF vL (vRow n gR cR) (vRow n gM cM)).cells 67, blkO g7 #[.int .i64 (hn : Int), .slice bb body.length cb] 46]) (.calm 0 (.calm 1 (.calm 2 (.calm 3 (.calm 4 (.calm 5 (.calm 6 (.calm 7 (.one 8 (.one 9 (.calm 10 (.calm 11 (.calm 12 (.calm 13 (.done))))))))))))))) (sub_pick [3, 4] (by decide) rfl) (by kernel_rfl) (by kernel_rfl) (by intro c a d v w h; cases d <;> exact h) ?_
      repeat (first
        | ((first | refine TW_plain rfl rfl ?_ | refine TW_gmet rfl rfl rfl rfl ?_); first | refine TN_val (qp rfl) rfl rfl ?_ | refine TN_val (rr_load1 TyC.ty rfl (at_blk (i := 0) rfl rfl)) rfl rfl ?_ | refine TN_val (rr_load1 TyC.ty rfl (at_blk (i := 1) rfl rfl)) rfl rfl ?_ | refine TN_val (qlen Und.eq rfl) rfl rfl ?_ | refine TN_val (qfld FldC.fld rfl rfl) rfl rfl ?_ | refine TN_val (rr_lss rfl rfl (qT (by omega))) rfl rfl ?_ | refine TN_val (rr_lss rfl rfl (qF (by omega))) rfl rfl ?_ | refine TN_val (rr_eql rfl rfl (qT (by omega))) rfl rfl ?_ | refine TN_val (rr_eql rfl rfl (qF (by omega))) rfl rfl ?_ | refine TN_val (rr_add64 rfl rfl (by omega) (by omega) rfl) rfl rfl ?_)
        | refine TW_skip rfl rfl rfl rfl rfl rfl rfl ?_ | refine TW_done ?_)
      refine TW_one rfl ?_
      refine TL_call (he3 EntersC.en rfl rfl rfl rfl) (fun w hm => hall2 _ _ hm (sl_row (i := 2) rfl w hm)) rfl rfl rfl ?_
      intro _ _
      conv => arg 8; simp only [zA, zB, zC, zD, zE, zF, zG, zH, zI, rowS, ret, id_eq]
      refine TW_on (sub_pick [3, 4] (by decide) rfl) ?_
      refine TW_one rfl ?_
      refine TL_callB [2] [0, 1, 3, 4] (by decide) rfl rfl (he3 EntersC.en rfl rfl rfl rfl) (fun w hm hb => hmk2 w _ hb) rfl rfl rfl ?_
      intro _ _
      conv => arg 8; simp only [zA, zB, zC, zD, zE, zF, zG, zH, zI, rowS, ret, id_eq]
      refine TW_on (sub_pick [2, 3] (by decide) rfl) ?_
      generalize (b1 || more) = mo
      cases b2
      · repeat (first
          | ((first | refine TW_plain rfl rfl ?_ | refine TW_gmet rfl rfl rfl rfl ?_); first | refine TN_val (qp rfl) rfl rfl ?_ | refine TN_val (qlen Und.eq rfl) rfl rfl ?_ | refine TN_val (qfld FldC.fld rfl rfl) rfl rfl ?_ | refine TN_val (rr_lss rfl rfl (qT (by omega))) rfl rfl ?_ | refine TN_val (rr_lss rfl rfl (qF (by omega))) rfl rfl ?_ | refine TN_val (rr_eql rfl rfl (qT (by omega))) rfl rfl ?_ | refine TN_val (rr_eql rfl rfl (qF (by omega))) rfl rfl ?_ | refine TN_val (rr_add64 rfl rfl (by omega) (by omega) rfl) rfl rfl ?_)
          | refine TW_skip rfl rfl rfl rfl rfl rfl rfl ?_ | refine TW_done ?_)
        refine E_pick [0, 1, 4, 2, 3] (by decide) rfl ?_
        exact E_mid () trivial (by repeat' (first | exact True.intro | refine And.intro rfl ?_)) rfl
      · repeat (first
          | ((first | refine TW_plain rfl rfl ?_ | refine TW_gmet rfl rfl rfl rfl ?_); first | refine TN_val (qp rfl) rfl rfl ?_ | refine TN_val (qlen Und.eq rfl) rfl rfl ?_ | refine TN_val (qfld FldC.fld rfl rfl) rfl rfl ?_ | refine TN_val (rr_lss rfl rfl (qT (by omega))) rfl rfl ?_ | refine TN_val (rr_lss rfl rfl (qF (by omega))) rfl rfl ?_ | refine TN_val (rr_eql rfl rfl (qT (by omega))) rfl rfl ?_ | refine TN_val (rr_eql rfl rfl (qF (by omega))) rfl rfl ?_ | refine TN_val (rr_add64 rfl rfl (by omega) (by omega) rfl) rfl rfl ?_)
          | refine TW_skip rfl rfl rfl rfl rfl rfl rfl ?_ | refine TW_done ?_)
        refine E_pick [0, 1, 4, 2, 3] (by decide) rfl ?_
        exact E_mid () trivial (by repeat' (first | exact True.intro | refine And.intro rfl ?_)) rfl
    intro _ _
    generalize (b2 || (b1 || more)) = mo at *
    clear hmk1 hmk2 hall1 hall2
    repeat (first
      | refine qv rfl (qp rfl) rfl rfl ?_ | refine TL_nil ?_ | refine T_seq ?_ | refine T_region ?_ | refine qcT rfl ?_ | refine qcF rfl ?_ | refine T_skip ?_
      | refine T_exit ?_ | refine T_ret ?_ | refine T_block ?_ | refine E_then ?_ | refine E_thenX ?_ | refine E_thenR ?_ | refine E_blockN ?_
      | refine E_blockR ?_ | refine E_blockX ?_ | refine E_blockO rfl ?_ | refine qs rfl rfl rfl rfl rfl rfl ?_
      | ((try refine qg rfl rfl rfl ?_); first | refine qv rfl (qp rfl) rfl rfl ?_ | refine qv rfl (rr_load1 TyC.ty rfl (at_blk (i := 4) rfl rfl)) rfl rfl ?_ | refine qv rfl (qlen Und.eq rfl) rfl rfl ?_ | refine qv rfl (qfld FldC.fld rfl rfl) rfl rfl ?_ | refine qv rfl (rr_lss rfl rfl (qT (by omega))) rfl rfl ?_ | refine qv rfl (rr_lss rfl rfl (qF (by omega))) rfl rfl ?_ | refine qv rfl (rr_eql rfl rfl (qT (by omega))) rfl rfl ?_ | refine qv rfl (rr_eql rfl rfl (qF (by omega))) rfl rfl ?_ | refine qv rfl (rr_add64 rfl rfl (by omega) (by omega) rfl) rfl rfl ?_))
    generalize hfr : roundR hn body R mo = fr at *
    obtain ⟨R2, mo2⟩ := fr
    dsimp only at i5
    refine T_loop (ι := Nat × List Bool × Bool) (fun (j, R', m') => j ≤ body.length ∧ R'.length = n ∧ roundR hn (body.drop j) R' m' = (R2, mo2)) (fun (j, _, m') => [(3, .pointer (some ⟨g3, 0, none⟩)), (5, .bool m'), (7, .pointer (some ⟨g7, 0, none⟩)), (11, (.slice (some ⟨b, off, none⟩) prods.length cp)), (12, .int .i64 prods.length), (13, .int .i64 (k : Int)), (44, .slice bb body.length cb), (45, .int .i64 body.length), (46, .int .i64 (j : Int))])
      (fun (_, R', _) => [rowBn n gE cE E1, rowBn n gR cR R', rowBn n gM cM M1, blkO g3 (facV (vRow n gE cE) vF vL (vRow n gR cR) (vRow n gM cM)).cells 67, blkO g7 #[.int .i64 (hn : Int), .slice bb body.length cb] 46]) (fun (j, _, _) => body.length - j) (0, R, mo) ⟨Nat.zero_le _, i3, hfr⟩ (by repeat' (first | exact True.intro | refine And.intro rfl ?_)) rfl ?_
    clear hfr
    rintro ⟨j, R', m'⟩ ⟨j1, j2, j3⟩
    dsimp only at j1 j2 j3 ⊢
    by_cases c7 : j < body.length
    · obtain ⟨b', off', rfl, hrb⟩ := (by
        obtain ⟨bs, cs, hv, _, _, hrd⟩ := hfl
        simp only [Value.slice.injEq, true_and] at hv
        obtain ⟨rfl, rfl⟩ := hv
        exact hrd (by omega) : ∃ b' off', bb = some ⟨b', off', none⟩ ∧ Rd w0 b' off' (body.flatMap symC))
      have hatx : ∀ (L : List Own) (q : Nat) (u : Value), (symC body[j])[q]? = some u → At B L ⟨b', off' + j * 2 + q, none⟩ u := fun L => at_elL SymS_len (fun q u hq => at_old0 ho (hrb q u hq)) c7
      have hx2 := hbody body[j] (List.getElem_mem c7)
      rw [List.drop_eq_getElem_cons c7, roundR_cons] at j3
      clear hbody hrb hfl hsb p4
      generalize body[j] = x at *
      obtain ⟨q, m⟩ := x
      dsimp only at hx2
      unfold stepR at j3
      dsimp only at j3
      by_cases c8 : q = 2
      · subst c8
        rw [if_pos rfl] at j3
        obtain ⟨y1, y2⟩ := hx2 rfl
        obtain ⟨mm, rfl⟩ : ∃ mm : Nat, m = mm := ⟨m.toNat, by omega⟩
        rw [Int.toNat_natCast] at j3
        have hcell := bool_at (l := R') (i := hn) (by omega)
        generalize R'.getD hn false = bh at *
        have hmk := fun w' B' hm => mark2_calls n gR cR R' mm bh w' B' j2 (by omega) hm
        have hl3 := markF_len R' mm bh
        rw [j2] at hl3
        generalize markF R' mm bh = m3 at *
        obtain ⟨R3, b3⟩ := m3
        dsimp only at *
        repeat (first
          | refine qv rfl (qp rfl) rfl rfl ?_ | refine TL_nil ?_ | refine T_seq ?_ | refine T_region ?_ | refine qcT rfl ?_ | refine qcF rfl ?_ | refine T_skip ?_
          | refine T_exit ?_ | refine T_ret ?_ | refine T_block ?_ | refine E_then ?_ | refine E_thenX ?_ | refine E_thenR ?_ | refine E_blockN ?_
          | refine E_blockR ?_ | refine E_blockX ?_ | refine E_blockO rfl ?_ | refine qs rfl rfl rfl rfl rfl rfl ?_
          | ((try refine qg rfl rfl rfl ?_); first | refine qv rfl (qp rfl) rfl rfl ?_ | refine qv rfl (rr_idxc Und.eq TyC.ty rfl rfl c7) rfl rfl ?_ | refine qv rfl (rr_loadN TyC.ty rfl rfl (hatx _)) rfl rfl ?_ | refine qv rfl (qlen Und.eq rfl) rfl rfl ?_ | refine qv rfl (qfld FldC.fld rfl rfl) rfl rfl ?_ | refine qv rfl (rr_lss rfl rfl (qT (by omega))) rfl rfl ?_ | refine qv rfl (rr_lss rfl rfl (qF (by omega))) rfl rfl ?_ | refine qv rfl (rr_eql rfl rfl (qT (by omega))) rfl rfl ?_ | refine qv rfl (rr_eql rfl rfl (qF (by omega))) rfl rfl ?_ | refine qv rfl (rr_add64 rfl rfl (by omega) (by omega) rfl) rfl rfl ?_))
        clear hatx
        refine TL_new rfl fun g9 => ?_
        refine TL_storeB (i := 5) rfl rfl rfl rfl rfl rfl ?_
        conv => arg 8; simp only [zA, zB, zC, zD, zE, zF, zG, zH, zI, rowS, ret, id_eq]
        repeat (first
          | refine qv rfl (qp rfl) rfl rfl ?_ | refine TL_nil ?_ | refine T_seq ?_ | refine T_region ?_ | refine qcT rfl ?_ | refine qcF rfl ?_ | refine T_skip ?_
          | refine T_exit ?_ | refine T_ret ?_ | refine T_block ?_ | refine E_then ?_ | refine E_thenX ?_ | refine E_thenR ?_ | refine E_blockN ?_
          | refine E_blockR ?_ | refine E_blockX ?_ | refine E_blockO rfl ?_ | refine qs rfl rfl rfl rfl rfl rfl ?_
          | ((try refine qg rfl rfl rfl ?_); first | refine qv rfl (qp rfl) rfl rfl ?_ | refine qv rfl (rr_load1 TyC.ty rfl (at_blk (i := 5) rfl rfl)) rfl rfl ?_ | refine qv rfl (qlen Und.eq rfl) rfl rfl ?_ | refine qv rfl (qfld FldC.fld rfl rfl) rfl rfl ?_ | refine qv rfl (rr_lss rfl rfl (qT (by omega))) rfl rfl ?_ | refine qv rfl (rr_lss rfl rfl (qF (by omega))) rfl rfl ?_ | refine qv rfl (rr_eql rfl rfl (qT (by omega))) rfl rfl ?_ | refine qv rfl (rr_eql rfl rfl (qF (by omega))) rfl rfl ?_ | refine qv rfl (rr_add64 rfl rfl (by omega) (by omega) rfl) rfl rfl ?_))
        refine T_ord ([blkO g3 (facV (vRow n gE cE) vF vL (vRow n gR cR) (vRow n gM cM)).cells 67, blkO g7 #[.int .i64 (hn : Int), .slice (some ⟨b', off', none⟩) body.length cb] 46, blkO g9 #[.int .i64 2, .int .i64 (mm : Int)] 47]) (.calm 0 (.calm 1 (.calm 2 (.calm 3 (.calm 4 (.calm 5 (.calm 6 (.calm 7 (.calm 8 (.one 9 (.one 10 (.calm 11 (.calm 12 (.calm 13 (.calm 14 (.done)))))))))))))))) (sub_pick [3, 4, 5] (by decide) rfl) (by kernel_rfl) (by kernel_rfl) (by intro c a d v w h; cases d <;> exact h) ?_
        repeat (first
          | ((first | refine TW_plain rfl rfl ?_ | refine TW_gmet rfl rfl rfl rfl ?_); first | refine TN_val (qp rfl) rfl rfl ?_ | refine TN_val (rr_load1 TyC.ty rfl (at_blk (i := 0) rfl rfl)) rfl rfl ?_ | refine TN_val (rr_load1 TyC.ty rfl (at_blk (i := 1) rfl rfl)) rfl rfl ?_ | refine TN_val (rr_load1 TyC.ty rfl (at_blk (i := 2) rfl rfl)) rfl rfl ?_ | refine TN_val (rr_idx1 Und.eq TyC.ty rfl rfl (show hn < n by omega)) rfl rfl ?_ | refine TN_val (qlen Und.eq rfl) rfl rfl ?_ | refine TN_val (qfld FldC.fld rfl rfl) rfl rfl ?_ | refine TN_val (rr_lss rfl rfl (qT (by omega))) rfl rfl ?_ | refine TN_val (rr_lss rfl rfl (qF (by omega))) rfl rfl ?_ | refine TN_val (rr_eql rfl rfl (qT (by omega))) rfl rfl ?_ | refine TN_val (rr_eql rfl rfl (qF (by omega))) rfl rfl ?_ | refine TN_val (rr_add64 rfl rfl (by omega) (by omega) rfl) rfl rfl ?_)
          | refine TW_skip rfl rfl rfl rfl rfl rfl rfl ?_ | refine TW_done ?_)
        refine TW_one rfl (TL_val (rr_load1 TyC.ty rfl (at_row (i := 1) rfl (by rw [Nat.zero_add]; exact hcell))) rfl rfl rfl (TW_on (sub_pick [3, 4, 5] (by decide) rfl) ?_))
        refine TW_one rfl ?_
        refine TL_callB [1] [0, 2, 3, 4, 5] (by decide) rfl rfl (he3 EntersC.en rfl rfl rfl rfl) (fun w hm hb => hmk w _ hb) rfl rfl rfl ?_
        intro _ _
        conv => arg 8; simp only [zA, zB, zC, zD, zE, zF, zG, zH, zI, rowS, ret, id_eq]
        refine TW_on (sub_pick [2, 3, 4] (by decide) rfl) ?_
        cases b3
        · repeat (first
            | ((first | refine TW_plain rfl rfl ?_ | refine TW_gmet rfl rfl rfl rfl ?_); first | refine TN_val (qp rfl) rfl rfl ?_ | refine TN_val (qlen Und.eq rfl) rfl rfl ?_ | refine TN_val (qfld FldC.fld rfl rfl) rfl rfl ?_ | refine TN_val (rr_lss rfl rfl (qT (by omega))) rfl rfl ?_ | refine TN_val (rr_lss rfl rfl (qF (by omega))) rfl rfl ?_ | refine TN_val (rr_eql rfl rfl (qT (by omega))) rfl rfl ?_ | refine TN_val (rr_eql rfl rfl (qF (by omega))) rfl rfl ?_ | refine TN_val (rr_add64 rfl rfl (by omega) (by omega) rfl) rfl rfl ?_)
            | refine TW_skip rfl rfl rfl rfl rfl rfl rfl ?_ | refine TW_done ?_)
          repeat (first
            | refine qv rfl (qp rfl) rfl rfl ?_ | refine TL_nil ?_ | refine T_seq ?_ | refine T_region ?_ | refine qcT rfl ?_ | refine qcF rfl ?_ | refine T_skip ?_
            | refine T_exit ?_ | refine T_ret ?_ | refine T_block ?_ | refine E_then ?_ | refine E_thenX ?_ | refine E_thenR ?_ | refine E_blockN ?_
            | refine E_blockR ?_ | refine E_blockX ?_ | refine E_blockO rfl ?_ | refine qs rfl rfl rfl rfl rfl rfl ?_
            | ((try refine qg rfl rfl rfl ?_); first | refine qv rfl (qp rfl) rfl rfl ?_ | refine qv rfl (qlen Und.eq rfl) rfl rfl ?_ | refine qv rfl (qfld FldC.fld rfl rfl) rfl rfl ?_ | refine qv rfl (rr_lss rfl rfl (qT (by omega))) rfl rfl ?_ | refine qv rfl (rr_lss rfl rfl (qF (by omega))) rfl rfl ?_ | refine qv rfl (rr_eql rfl rfl (qT (by omega))) rfl rfl ?_ | refine qv rfl (rr_eql rfl rfl (qF (by omega))) rfl rfl ?_ | refine qv rfl (rr_add64 rfl rfl (by omega) (by omega) rfl) rfl rfl ?_))
          refine E_pick [0, 5, 1, 2, 3] (by decide) rfl ?_
          exact E_round (j + 1, R3, false || m') ⟨by omega, hl3, j3⟩ (by show body.length - (j + 1) < body.length - j; omega) (by repeat' (first | exact True.intro | refine And.intro rfl ?_)) rfl
        · repeat (first
            | ((first | refine TW_plain rfl rfl ?_ | refine TW_gmet rfl rfl rfl rfl ?_); first | refine TN_val (qp rfl) rfl rfl ?_ | refine TN_val (qlen Und.eq rfl) rfl rfl ?_ | refine TN_val (qfld FldC.fld rfl rfl) rfl rfl ?_ | refine TN_val (rr_lss rfl rfl (qT (by omega))) rfl rfl ?_ | refine TN_val (rr_lss rfl rfl (qF (by omega))) rfl rfl ?_ | refine TN_val (rr_eql rfl rfl (qT (by omega))) rfl rfl ?_ | refine TN_val (rr_eql rfl rfl (qF (by omega))) rfl rfl ?_ | refine TN_val (rr_add64 rfl rfl (by omega) (by omega) rfl) rfl rfl ?_)
            | refine TW_skip rfl rfl rfl rfl rfl rfl rfl ?_ | refine TW_done ?_)
          repeat (first
            | refine qv rfl (qp rfl) rfl rfl ?_ | refine TL_nil ?_ | refine T_seq ?_ | refine T_region ?_ | refine qcT rfl ?_ | refine qcF rfl ?_ | refine T_skip ?_
            | refine T_exit ?_ | refine T_ret ?_ | refine T_block ?_ | refine E_then ?_ | refine E_thenX ?_ | refine E_thenR ?_ | refine E_blockN ?_
            | refine E_blockR ?_ | refine E_blockX ?_ | refine E_blockO rfl ?_ | refine qs rfl rfl rfl rfl rfl rfl ?_
            | ((try refine qg rfl rfl rfl ?_); first | refine qv rfl (qp rfl) rfl rfl ?_ | refine qv rfl (qlen Und.eq rfl) rfl rfl ?_ | refine qv rfl (qfld FldC.fld rfl rfl) rfl rfl ?_ | refine qv rfl (rr_lss rfl rfl (qT (by omega))) rfl rfl ?_ | refine qv rfl (rr_lss rfl rfl (qF (by omega))) rfl rfl ?_ | refine qv rfl (rr_eql rfl rfl (qT (by omega))) rfl rfl ?_ | refine qv rfl (rr_eql rfl rfl (qF (by omega))) rfl rfl ?_ | refine qv rfl (rr_add64 rfl rfl (by omega) (by omega) rfl) rfl rfl ?_))
          refine E_pick [0, 5, 1, 2, 3] (by decide) rfl ?_
          exact E_round (j + 1, R3, true || m') ⟨by omega, hl3, j3⟩ (by show body.length - (j + 1) < body.length - j; omega) (by repeat' (first | exact True.intro | refine And.intro rfl ?_)) rfl
      · rw [if_neg c8] at j3
        dsimp only at j3
        repeat (first
          | refine qv rfl (qp rfl) rfl rfl ?_ | refine TL_nil ?_ | refine T_seq ?_ | refine T_region ?_ | refine qcT rfl ?_ | refine qcF rfl ?_ | refine T_skip ?_
          | refine T_exit ?_ | refine T_ret ?_ | refine T_block ?_ | refine E_then ?_ | refine E_thenX ?_ | refine E_thenR ?_ | refine E_blockN ?_
          | refine E_blockR ?_ | refine E_blockX ?_ | refine E_blockO rfl ?_ | refine qs rfl rfl rfl rfl rfl rfl ?_
          | ((try refine qg rfl rfl rfl ?_); first | refine qv rfl (qp rfl) rfl rfl ?_ | refine qv rfl (rr_idxc Und.eq TyC.ty rfl rfl c7) rfl rfl ?_ | refine qv rfl (rr_loadN TyC.ty rfl rfl (hatx _)) rfl rfl ?_ | refine qv rfl (qlen Und.eq rfl) rfl rfl ?_ | refine qv rfl (qfld FldC.fld rfl rfl) rfl rfl ?_ | refine qv rfl (rr_lss rfl rfl (qT (by omega))) rfl rfl ?_ | refine qv rfl (rr_lss rfl rfl (qF (by omega))) rfl rfl ?_ | refine qv rfl (rr_eql rfl rfl (qT (by omega))) rfl rfl ?_ | refine qv rfl (rr_eql rfl rfl (qF (by omega))) rfl rfl ?_ | refine qv rfl (rr_add64 rfl rfl (by omega) (by omega) rfl) rfl rfl ?_))
        clear hatx
        refine TL_new rfl fun g9 => ?_
        refine TL_storeB (i := 5) rfl rfl rfl rfl rfl rfl ?_
        conv => arg 8; simp only [zA, zB, zC, zD, zE, zF, zG, zH, zI, rowS, ret, id_eq]
        repeat (first
          | refine qv rfl (qp rfl) rfl rfl ?_ | refine TL_nil ?_ | refine T_seq ?_ | refine T_region ?_ | refine qcT rfl ?_ | refine qcF rfl ?_ | refine T_skip ?_
          | refine T_exit ?_ | refine T_ret ?_ | refine T_block ?_ | refine E_then ?_ | refine E_thenX ?_ | refine E_thenR ?_ | refine E_blockN ?_
          | refine E_blockR ?_ | refine E_blockX ?_ | refine E_blockO rfl ?_ | refine qs rfl rfl rfl rfl rfl rfl ?_
          | ((try refine qg rfl rfl rfl ?_); first | refine qv rfl (qp rfl) rfl rfl ?_ | refine qv rfl (rr_load1 TyC.ty rfl (at_blk (i := 5) rfl rfl)) rfl rfl ?_ | refine qv rfl (qlen Und.eq rfl) rfl rfl ?_ | refine qv rfl (qfld FldC.fld rfl rfl) rfl rfl ?_ | refine qv rfl (rr_lss rfl rfl (qT (by omega))) rfl rfl ?_ | refine qv rfl (rr_lss rfl rfl (qF (by omega))) rfl rfl ?_ | refine qv rfl (rr_eql rfl rfl (qT (by omega))) rfl rfl ?_ | refine qv rfl (rr_eql rfl rfl (qF (by omega))) rfl rfl ?_ | refine qv rfl (rr_add64 rfl rfl (by omega) (by omega) rfl) rfl rfl ?_))
        refine E_pick [0, 1, 2, 3, 4] (by decide) rfl ?_
        exact E_round (j + 1, R', m') ⟨by omega, j2, j3⟩ (by show body.length - (j + 1) < body.length - j; omega) (by repeat' (first | exact True.intro | refine And.intro rfl ?_)) rfl
    · rw [List.drop_of_length_le (by omega)] at j3
      have j3 : (R', m') = (R2, mo2) := j3
      simp only [Prod.mk.injEq] at j3
      obtain ⟨rfl, rfl⟩ := j3
      repeat (first
        | refine qv rfl (qp rfl) rfl rfl ?_ | refine TL_nil ?_ | refine T_seq ?_ | refine T_region ?_ | refine qcT rfl ?_ | refine qcF rfl ?_ | refine T_skip ?_
        | refine T_exit ?_ | refine T_ret ?_ | refine T_block ?_ | refine E_then ?_ | refine E_thenX ?_ | refine E_thenR ?_ | refine E_blockN ?_
        | refine E_blockR ?_ | refine E_blockX ?_ | refine E_blockO rfl ?_ | refine qs rfl rfl rfl rfl rfl rfl ?_
        | ((try refine qg rfl rfl rfl ?_); first | refine qv rfl (qp rfl) rfl rfl ?_ | refine qv rfl (qlen Und.eq rfl) rfl rfl ?_ | refine qv rfl (qfld FldC.fld rfl rfl) rfl rfl ?_ | refine qv rfl (rr_lss rfl rfl (qT (by omega))) rfl rfl ?_ | refine qv rfl (rr_lss rfl rfl (qF (by omega))) rfl rfl ?_ | refine qv rfl (rr_eql rfl rfl (qT (by omega))) rfl rfl ?_ | refine qv rfl (rr_eql rfl rfl (qF (by omega))) rfl rfl ?_ | refine qv rfl (rr_add64 rfl rfl (by omega) (by omega) rfl) rfl rfl ?_))
      refine E_pick [0, 1, 2, 3] (by decide) rfl ?_
      exact E_round (k + 1, ⟨E1, R', M1, m'⟩) ⟨by omega, hl1, j2, hl2, i5⟩ (by show prods.length - (k + 1) < prods.length - k; omega) (by repeat' (first | exact True.intro | refine And.intro rfl ?_)) rfl
  · rw [List.drop_of_length_le (by omega)] at i5
    have i5 : (⟨E, R, M, more⟩ : FS) = fin := i5
    subst i5
    repeat (first
      | refine qv rfl (qp rfl) rfl rfl ?_ | refine TL_nil ?_ | refine T_seq ?_ | refine T_region ?_ | refine qcT rfl ?_ | refine qcF rfl ?_ | refine T_skip ?_
      | refine T_exit ?_ | refine T_ret ?_ | refine T_block ?_ | refine E_then ?_ | refine E_thenX ?_ | refine E_thenR ?_ | refine E_blockN ?_
      | refine E_blockR ?_ | refine E_blockX ?_ | refine E_blockO rfl ?_ | refine qs rfl rfl rfl rfl rfl rfl ?_
      | ((try refine qg rfl rfl rfl ?_); first | refine qv rfl (qp rfl) rfl rfl ?_ | refine qv rfl (qlen Und.eq rfl) rfl rfl ?_ | refine qv rfl (qfld FldC.fld rfl rfl) rfl rfl ?_ | refine qv rfl (rr_lss rfl rfl (qT (by omega))) rfl rfl ?_ | refine qv rfl (rr_lss rfl rfl (qF (by omega))) rfl rfl ?_ | refine qv rfl (rr_eql rfl rfl (qT (by omega))) rfl rfl ?_ | refine qv rfl (rr_eql rfl rfl (qF (by omega))) rfl rfl ?_ | refine qv rfl (rr_add64 rfl rfl (by omega) (by omega) rfl) rfl rfl ?_))
    exact E_ret1 rfl rfl fun w hm => hm.meetsB (S := ⟨fun (_ : Unit) => True, fun _ => .bool more, fun _ => [rowBn n gE cE E, rowBn n gR cR R, rowBn n gM cM M]⟩) () trivial [0, 1, 2] (by decide) rfl
end Go.Proofs.Ytkkiopmdcolobaa.eng

