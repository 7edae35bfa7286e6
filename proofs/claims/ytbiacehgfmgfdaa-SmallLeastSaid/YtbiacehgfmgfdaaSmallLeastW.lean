/- The walk of SmallLeast. -/
import Derived.Test.YtbiacehgfmgfdaaSmF
import Derived.Test.YtbiacehgfmgfdaaRestE
namespace Go.Proofs.Ytbiacehgfmgfdaa.smallLeast
open Go.RowKit kit mix eng dfaL smallL
set_option maxRecDepth 100000 in
set_option maxHeartbeats 8000000 in
theorem walk (w : World) (v : Value) (rows : List (List Int)) (tags : List Int) (h : IsDfa w v rows tags) (i : Int) (hi : kit.okI64 i) (k : Int) (hk : kit.okI64 k) :
    Calls Try.prog 5 #[v, .int .i64 i, .int .i64 k] w (Meets (ret (.bool true)) w) := by
  obtain ⟨vr, vt, R, rfl, hd, rfl⟩ := dfaM_of h
  clear h
  have hmin := fun w' (hg : Gr w w') => minimal_calls vr vt R tags w' (hd.gr hg)
  clear hd
  unfold kit.okI64 at hi hk
  refine enter (args := [dfaV vr vt, .int .i64 i, .int .i64 k]) (n := 84) Try.func5 rfl rfl rfl ?_
  refine T_seq (T_region (TL_box rfl rfl rfl fun g3 => ?_))
  repeat (first
    | refine qv rfl (qp rfl) rfl rfl ?_ | refine TL_nil ?_ | refine T_seq ?_ | refine T_region ?_ | refine qcT rfl ?_ | refine qcF rfl ?_ | refine T_skip ?_
    | refine T_ret ?_ | refine E_then ?_ | refine E_thenR ?_ | refine qs rfl rfl rfl rfl rfl rfl ?_
    | ((try refine qg rfl rfl rfl ?_); first | refine qv rfl (qp rfl) rfl rfl ?_ | refine qv rfl (rr_loadB (i := 0) TyC.ty rfl rfl rfl) rfl rfl ?_ | refine qv rfl (qlen Und.eq rfl) rfl rfl ?_ | refine qv rfl (qfld FldC.fld rfl rfl) rfl rfl ?_ | refine qv rfl (rr_eql rfl rfl (qT (by omega))) rfl rfl ?_ | refine qv rfl (rr_eql rfl rfl (qF (by omega))) rfl rfl ?_ | refine qv rfl (rr_neq rfl rfl (qT (by omega))) rfl rfl ?_ | refine qv rfl (rr_neq rfl rfl (qF (by omega))) rfl rfl ?_))
  refine TL_call (he1 EntersC.en rfl rfl) (fun w hm => hmin _ hm.below) rfl rfl rfl ?_
  rintro ⟨mr, mt⟩ _
  conv => arg 8; simp only [zA, zB, zC, zD, zE, zF, zG, zH, zI, rowS, ret, id_eq]
  dsimp only [minS]
  repeat (first
    | refine qv rfl (qp rfl) rfl rfl ?_ | refine TL_nil ?_ | refine T_seq ?_ | refine T_region ?_ | refine qcT rfl ?_ | refine qcF rfl ?_ | refine T_skip ?_
    | refine T_ret ?_ | refine E_then ?_ | refine E_thenR ?_ | refine qs rfl rfl rfl rfl rfl rfl ?_
    | ((try refine qg rfl rfl rfl ?_); first | refine qv rfl (qp rfl) rfl rfl ?_ | refine qv rfl (qlen Und.eq rfl) rfl rfl ?_ | refine qv rfl (qfld FldC.fld rfl rfl) rfl rfl ?_ | refine qv rfl (rr_eql rfl rfl (qT (by omega))) rfl rfl ?_ | refine qv rfl (rr_eql rfl rfl (qF (by omega))) rfl rfl ?_ | refine qv rfl (rr_neq rfl rfl (qT (by omega))) rfl rfl ?_ | refine qv rfl (rr_neq rfl rfl (qF (by omega))) rfl rfl ?_))
  refine TL_new rfl fun g7 => ?_
  conv => arg 8; simp only [zA, zB, zC, zD, zE, zF, zG, zH, zI, rowS, ret, id_eq]
  refine TL_slv (i := 1) rfl fun hc1 ho1 => ?_
  refine TL_slv (i := 2) rfl fun hc2 ho2 => ?_
  refine TL_storeB (i := 3) (cs' := (dfaV mr mt).cells) rfl rfl rfl rfl (by show ([mr, mt].all Value.oneCell') = true; simp [ho1, ho2]) rfl ?_
  conv => arg 8; simp only [zA, zB, zC, zD, zE, zF, zG, zH, zI, rowS, ret, id_eq]
  by_cases hc : chk R tags = 0
  · have hmc := min_chk hc
    have hml := (min_len hc).1
    have hpos := (minA_ok (chk_ok hc).1).pos
    have hle := (minA_ok (chk_ok hc).1).le
    rw [← (min_len hc).2] at hpos hle
    have hlA := fun a b (ha : a < (minR R tags).length) hb => least_law hc (a := a) (b := b) ha hb
    have hlS := fun a (ha : a < (minR R tags).length) => some_law hc (a := a) ha
    rw [hc]
    clear hc hmin
    generalize minR R tags = MR at *
    generalize minT R tags = MT at *
    have hn0 : ((MR.length : Nat) : Int) ≠ 0 := by omega
    have hra := fun w => restE i MR.length w hi.1 hi.2 (by omega) (by omega)
    have hrb := fun w => restE k MR.length w hk.1 hk.2 (by omega) (by omega)
    obtain ⟨a, ha⟩ : ∃ a : Nat, i % (MR.length : Int) = a := ⟨(i % (MR.length : Int)).toNat, by have := Int.emod_nonneg i hn0; omega⟩
    obtain ⟨b, hb⟩ : ∃ b : Nat, k % (MR.length : Int) = b := ⟨(k % (MR.length : Int)).toNat, by have := Int.emod_nonneg k hn0; omega⟩
    have hal : a < MR.length := by have := Int.emod_lt_of_pos i (show (0 : Int) < MR.length by omega); omega
    have hbl : b < MR.length := by have := Int.emod_lt_of_pos k (show (0 : Int) < MR.length by omega); omega
    rw [ha] at hra
    rw [hb] at hrb
    obtain ⟨s1, is1, hr1, hl1⟩ := hlA a b hal hbl
    obtain ⟨s2, is2, hr2, hl2⟩ := hlS a hal
    clear hlA hlS ha hb hi hk
    have hfa := from_chk hmc hal
    have hfb := from_chk hmc hbl
    have hbr := build_row0
    have hbd := build_dfaS
    repeat (first
      | refine qv rfl (qp rfl) rfl rfl ?_ | refine TL_nil ?_ | refine T_seq ?_ | refine T_region ?_ | refine qcT rfl ?_ | refine qcF rfl ?_ | refine T_skip ?_
      | refine T_ret ?_ | refine E_then ?_ | refine E_thenR ?_ | refine qs rfl rfl rfl rfl rfl rfl ?_
      | ((try refine qg rfl rfl rfl ?_); first | refine qv rfl (qp rfl) rfl rfl ?_ | refine qv rfl (rr_load1 TyC.ty rfl (at_blk (i := 3) rfl rfl)) rfl rfl ?_ | refine qv rfl (rr_rowlen (i := 1) Und.eq rfl rfl) rfl rfl ?_ | refine qv rfl (qlen Und.eq rfl) rfl rfl ?_ | refine qv rfl (qfld FldC.fld rfl rfl) rfl rfl ?_ | refine qv rfl (rr_eql rfl rfl (qT (by omega))) rfl rfl ?_ | refine qv rfl (rr_eql rfl rfl (qF (by omega))) rfl rfl ?_ | refine qv rfl (rr_neq rfl rfl (qT (by omega))) rfl rfl ?_ | refine qv rfl (rr_neq rfl rfl (qF (by omega))) rfl rfl ?_))
    refine TL_call (he2 EntersC.en rfl rfl rfl) (fun w hm => hra _) rfl rfl rfl ?_
    intro _ _
    repeat (first
      | refine qv rfl (qp rfl) rfl rfl ?_ | refine TL_nil ?_ | refine T_seq ?_ | refine T_region ?_ | refine qcT rfl ?_ | refine qcF rfl ?_ | refine T_skip ?_
      | refine T_ret ?_ | refine E_then ?_ | refine E_thenR ?_ | refine qs rfl rfl rfl rfl rfl rfl ?_
      | ((try refine qg rfl rfl rfl ?_); first | refine qv rfl (qp rfl) rfl rfl ?_ | refine qv rfl (qlen Und.eq rfl) rfl rfl ?_ | refine qv rfl (qfld FldC.fld rfl rfl) rfl rfl ?_ | refine qv rfl (rr_eql rfl rfl (qT (by omega))) rfl rfl ?_ | refine qv rfl (rr_eql rfl rfl (qF (by omega))) rfl rfl ?_ | refine qv rfl (rr_neq rfl rfl (qT (by omega))) rfl rfl ?_ | refine qv rfl (rr_neq rfl rfl (qF (by omega))) rfl rfl ?_))
    refine TL_call (he2 EntersC.en rfl rfl rfl) (fun w hm => hrb _) rfl rfl rfl ?_
    intro _ _
    repeat (first
      | refine qv rfl (qp rfl) rfl rfl ?_ | refine TL_nil ?_ | refine T_seq ?_ | refine T_region ?_ | refine qcT rfl ?_ | refine qcF rfl ?_ | refine T_skip ?_
      | refine T_ret ?_ | refine E_then ?_ | refine E_thenR ?_ | refine qs rfl rfl rfl rfl rfl rfl ?_
      | ((try refine qg rfl rfl rfl ?_); first | refine qv rfl (qp rfl) rfl rfl ?_ | refine qv rfl (qlen Und.eq rfl) rfl rfl ?_ | refine qv rfl (qfld FldC.fld rfl rfl) rfl rfl ?_ | refine qv rfl (rr_eql rfl rfl (qT (by omega))) rfl rfl ?_ | refine qv rfl (rr_eql rfl rfl (qF (by omega))) rfl rfl ?_ | refine qv rfl (rr_neq rfl rfl (qT (by omega))) rfl rfl ?_ | refine qv rfl (rr_neq rfl rfl (qF (by omega))) rfl rfl ?_))
    (repeat refine T_seq ?_)
    refine T_pick [1, 2, 3] (by decide) rfl ?_
    conv => arg 7; simp only [zA, zB, zC, zD, zE, zF, zG, zH, zI, rowS, ret, id_eq]
    refine T_midq (ι := Unit) (fun _ => True) (fun _ => [(7, .pointer (some ⟨g7, 0, none⟩)), (8, .int .i64 0), (10, .int .i64 (a : Int)), (11, .int .i64 (b : Int)), (13, .bool is1)]) (fun _ => [rowO 31 256 mr MR.length (MR.flatMap rowC), rowO 3 1 mt MT.length (MT.flatMap kit.intC), blkO g7 (dfaV mr mt).cells 25]) ?_ ?_
    · refine T_ord ([blkO g7 (dfaV mr mt).cells 25]) (.calm 0 (.calm 1 (.calm 3 (.calm 4 (.one 2 (.one 5 (.one 6 (.calm 7 (.calm 8 (.calm 9 (.calm 10 (.calm 11 (.calm 12 (.calm 13 (.done))))))))))))))) (sub_pick [2] (by decide) rfl) (by kernel_rfl) (by kernel_rfl) (by intro c a d v w h; cases d <;> exact h) ?_
      repeat (first
        | ((first | refine TW_plain rfl rfl ?_ | refine TW_gmet rfl rfl rfl rfl ?_); first | refine TN_val (qp rfl) rfl rfl ?_ | refine TN_val (rr_loadB (i := 0) TyC.ty rfl rfl rfl) rfl rfl ?_ | refine TN_val (qlen Und.eq rfl) rfl rfl ?_ | refine TN_val (qfld FldC.fld rfl rfl) rfl rfl ?_ | refine TN_val (rr_eql rfl rfl (qT (by omega))) rfl rfl ?_ | refine TN_val (rr_eql rfl rfl (qF (by omega))) rfl rfl ?_ | refine TN_val (rr_neq rfl rfl (qT (by omega))) rfl rfl ?_ | refine TN_val (rr_neq rfl rfl (qF (by omega))) rfl rfl ?_)
        | refine TW_skip rfl rfl rfl rfl rfl rfl rfl ?_ | refine TW_done ?_)
      refine TW_one rfl (TL_call (he2 EntersC.en rfl rfl rfl) (fun w hm => from_calls _ _ MR MT a w (hm.dfaM (i := 0) (j := 1) rfl rfl hmc) hmc hal) rfl rfl rfl fun x1 _ => ?_)
      obtain ⟨xr, xt⟩ := x1
      refine TW_on (sub_pick [2] (by decide) rfl) ?_
      refine TW_one rfl (TL_call (he2 EntersC.en rfl rfl rfl) (fun w hm => from_calls _ _ MR MT b w (hm.dfaM (i := 0) (j := 1) rfl rfl hmc) hmc hbl) rfl rfl rfl fun x2 _ => ?_)
      obtain ⟨yr, yt⟩ := x2
      refine TW_on (sub_pick [2] (by decide) rfl) ?_
      have hap := fun w h h' => apart_calls xr xt (fromR MR a) (fromT MT a) yr yt (fromR MR b) (fromT MT b) w h h'
      rw [hr1] at hap
      dsimp only at hap
      refine TW_one rfl (TL_call (he2 EntersC.en rfl rfl rfl) (fun w hm => hap w (hm.dfaM (i := 3) (j := 4) rfl rfl hfa) (hm.dfaM (i := 5) (j := 6) rfl rfl hfb)) rfl rfl rfl fun _ _ => ?_)
      refine TW_on (sub_pick [2] (by decide) rfl) ?_
      repeat (first
        | ((first | refine TW_plain rfl rfl ?_ | refine TW_gmet rfl rfl rfl rfl ?_); first | refine TN_val (qp rfl) rfl rfl ?_ | refine TN_val (qlen Und.eq rfl) rfl rfl ?_ | refine TN_val (qfld FldC.fld rfl rfl) rfl rfl ?_ | refine TN_val (rr_eql rfl rfl (qT (by omega))) rfl rfl ?_ | refine TN_val (rr_eql rfl rfl (qF (by omega))) rfl rfl ?_ | refine TN_val (rr_neq rfl rfl (qT (by omega))) rfl rfl ?_ | refine TN_val (rr_neq rfl rfl (qF (by omega))) rfl rfl ?_)
        | refine TW_skip rfl rfl rfl rfl rfl rfl rfl ?_ | refine TW_done ?_)
      refine E_pick [0, 1, 2] (by decide) rfl ?_
      exact E_mid () trivial (by repeat' (first | exact True.intro | refine And.intro rfl ?_)) rfl
    rintro ⟨⟩ _
    repeat (first
      | refine qv rfl (qp rfl) rfl rfl ?_ | refine TL_nil ?_ | refine T_seq ?_ | refine T_region ?_ | refine qcT rfl ?_ | refine qcF rfl ?_ | refine T_skip ?_
      | refine T_ret ?_ | refine E_then ?_ | refine E_thenR ?_ | refine qs rfl rfl rfl rfl rfl rfl ?_
      | ((try refine qg rfl rfl rfl ?_); first | refine qv rfl (qp rfl) rfl rfl ?_ | refine qv rfl (rr_build rfl hbr) rfl rfl ?_ | refine qv rfl (qlen Und.eq rfl) rfl rfl ?_ | refine qv rfl (qfld FldC.fld rfl rfl) rfl rfl ?_ | refine qv rfl (rr_eql rfl rfl (qT (by omega))) rfl rfl ?_ | refine qv rfl (rr_eql rfl rfl (qF (by omega))) rfl rfl ?_ | refine qv rfl (rr_neq rfl rfl (qT (by omega))) rfl rfl ?_ | refine qv rfl (rr_neq rfl rfl (qF (by omega))) rfl rfl ?_))
    refine TL_one (cs := (rowC row0).toArray) rfl rfl row0_size rfl rfl fun g52 => ?_
    conv => arg 8; simp only [zA, zB, zC, zD, zE, zF, zG, zH, zI, rowS, ret, id_eq]
    refine TL_toRow (i := 3) (m := 1) 256 rfl row0_size (by decide) ?_
    rw [row0_flat]
    conv => arg 8; simp only [zA, zB, zC, zD, zE, zF, zG, zH, zI, rowS, ret, id_eq]
    refine TL_one rfl rfl rfl rfl rfl fun g53 => ?_
    conv => arg 8; simp only [zA, zB, zC, zD, zE, zF, zG, zH, zI, rowS, ret, id_eq]
    refine TL_toRow (i := 4) (m := 1) 1 rfl rfl (by decide) ?_
    conv => arg 8; simp only [zA, zB, zC, zD, zE, zF, zG, zH, zI, rowS, ret, id_eq]
    repeat (first
      | refine qv rfl (qp rfl) rfl rfl ?_ | refine TL_nil ?_ | refine T_seq ?_ | refine T_region ?_ | refine qcT rfl ?_ | refine qcF rfl ?_ | refine T_skip ?_
      | refine T_ret ?_ | refine E_then ?_ | refine E_thenR ?_ | refine qs rfl rfl rfl rfl rfl rfl ?_
      | ((try refine qg rfl rfl rfl ?_); first | refine qv rfl (qp rfl) rfl rfl ?_ | refine qv rfl (rr_build rfl (hbd g52 g53)) rfl rfl ?_ | refine qv rfl (qlen Und.eq rfl) rfl rfl ?_ | refine qv rfl (qfld FldC.fld rfl rfl) rfl rfl ?_ | refine qv rfl (rr_eql rfl rfl (qT (by omega))) rfl rfl ?_ | refine qv rfl (rr_eql rfl rfl (qF (by omega))) rfl rfl ?_ | refine qv rfl (rr_neq rfl rfl (qT (by omega))) rfl rfl ?_ | refine qv rfl (rr_neq rfl rfl (qF (by omega))) rfl rfl ?_))
    refine TL_new rfl fun g14 => ?_
    conv => arg 8; simp only [zA, zB, zC, zD, zE, zF, zG, zH, zI, rowS, ret, id_eq]
    refine TL_storeB (i := 5) (cs' := (dfaV (.slice (some ⟨g52, 0, none⟩) 1 1) (.slice (some ⟨g53, 0, none⟩) 1 1)).cells) rfl rfl rfl rfl rfl rfl ?_
    conv => arg 8; simp only [zA, zB, zC, zD, zE, zF, zG, zH, zI, rowS, ret, id_eq]
    repeat (first
      | refine qv rfl (qp rfl) rfl rfl ?_ | refine TL_nil ?_ | refine T_seq ?_ | refine T_region ?_ | refine qcT rfl ?_ | refine qcF rfl ?_ | refine T_skip ?_
      | refine T_ret ?_ | refine E_then ?_ | refine E_thenR ?_ | refine qs rfl rfl rfl rfl rfl rfl ?_
      | ((try refine qg rfl rfl rfl ?_); first | refine qv rfl (qp rfl) rfl rfl ?_ | refine qv rfl (qlen Und.eq rfl) rfl rfl ?_ | refine qv rfl (qfld FldC.fld rfl rfl) rfl rfl ?_ | refine qv rfl (rr_eql rfl rfl (qT (by omega))) rfl rfl ?_ | refine qv rfl (rr_eql rfl rfl (qF (by omega))) rfl rfl ?_ | refine qv rfl (rr_neq rfl rfl (qT (by omega))) rfl rfl ?_ | refine qv rfl (rr_neq rfl rfl (qF (by omega))) rfl rfl ?_))
    (repeat refine T_seq ?_)
    refine T_midq (ι := Unit) (fun _ => True) (fun _ => [(8, .int .i64 0), (10, .int .i64 (a : Int)), (11, .int .i64 (b : Int)), (13, .bool is1), (16, .bool is2), (17, .int .i64 0)]) (fun _ => []) ?_ ?_
    · refine T_ord ([blkO g7 (dfaV mr mt).cells 25, blkO g14 (dfaV (.slice (some ⟨g52, 0, none⟩) 1 1) (.slice (some ⟨g53, 0, none⟩) 1 1)).cells 25]) (.calm 0 (.calm 1 (.calm 3 (.one 2 (.one 4 (.calm 5 (.calm 6 (.calm 7 (.calm 8 (.calm 9 (.calm 10 (.calm 11 (.done))))))))))))) (sub_pick [2, 5] (by decide) rfl) (by kernel_rfl) (by kernel_rfl) (by intro c a d v w h; cases d <;> exact h) ?_
      repeat (first
        | ((first | refine TW_plain rfl rfl ?_ | refine TW_gmet rfl rfl rfl rfl ?_); first | refine TN_val (qp rfl) rfl rfl ?_ | refine TN_val (rr_loadB (i := 0) TyC.ty rfl rfl rfl) rfl rfl ?_ | refine TN_val (rr_loadB (i := 1) TyC.ty rfl rfl rfl) rfl rfl ?_ | refine TN_val (qlen Und.eq rfl) rfl rfl ?_ | refine TN_val (qfld FldC.fld rfl rfl) rfl rfl ?_ | refine TN_val (rr_eql rfl rfl (qT (by omega))) rfl rfl ?_ | refine TN_val (rr_eql rfl rfl (qF (by omega))) rfl rfl ?_ | refine TN_val (rr_neq rfl rfl (qT (by omega))) rfl rfl ?_ | refine TN_val (rr_neq rfl rfl (qF (by omega))) rfl rfl ?_)
        | refine TW_skip rfl rfl rfl rfl rfl rfl rfl ?_ | refine TW_done ?_)
      refine TW_one rfl (TL_call (he2 EntersC.en rfl rfl rfl) (fun w hm => from_calls _ _ MR MT a w (hm.dfaM (i := 0) (j := 1) rfl rfl hmc) hmc hal) rfl rfl rfl fun x1 _ => ?_)
      obtain ⟨xr, xt⟩ := x1
      refine TW_on (sub_pick [2, 5] (by decide) rfl) ?_
      have hap := fun vr' vt' w h h' => apart_calls xr xt (fromR MR a) (fromT MT a) vr' vt' [row0] [-1] w h h'
      rw [hr2] at hap
      dsimp only at hap
      refine TW_one rfl (TL_call (he2 EntersC.en rfl rfl rfl) (fun w hm => hap _ _ w (hm.dfaM (i := 6) (j := 7) rfl rfl hfa) (hm.dfaM (i := 3) (j := 4) rfl rfl chk_oneN)) rfl rfl rfl fun _ _ => ?_)
      refine TW_on (sub_pick [2, 5] (by decide) rfl) ?_
      repeat (first
        | ((first | refine TW_plain rfl rfl ?_ | refine TW_gmet rfl rfl rfl rfl ?_); first | refine TN_val (qp rfl) rfl rfl ?_ | refine TN_val (qlen Und.eq rfl) rfl rfl ?_ | refine TN_val (qfld FldC.fld rfl rfl) rfl rfl ?_ | refine TN_val (rr_eql rfl rfl (qT (by omega))) rfl rfl ?_ | refine TN_val (rr_eql rfl rfl (qF (by omega))) rfl rfl ?_ | refine TN_val (rr_neq rfl rfl (qT (by omega))) rfl rfl ?_ | refine TN_val (rr_neq rfl rfl (qF (by omega))) rfl rfl ?_)
        | refine TW_skip rfl rfl rfl rfl rfl rfl rfl ?_ | refine TW_done ?_)
      refine E_pick [] (by decide) rfl ?_
      exact E_mid () trivial (by repeat' (first | exact True.intro | refine And.intro rfl ?_)) rfl
    rintro ⟨⟩ _
    have hne : decide ((a : Int) ≠ (b : Int)) = is1 := by rw [hl1]; exact decide_eq_decide.2 (by omega)
    rcases hl2 with rfl | rfl
    · repeat (first
        | refine qv rfl (qp rfl) rfl rfl ?_ | refine TL_nil ?_ | refine T_seq ?_ | refine T_region ?_ | refine qcT rfl ?_ | refine qcF rfl ?_ | refine T_skip ?_
        | refine T_ret ?_ | refine E_then ?_ | refine E_thenR ?_ | refine qs rfl rfl rfl rfl rfl rfl ?_
        | ((try refine qg rfl rfl rfl ?_); first | refine qv rfl (qp rfl) rfl rfl ?_ | refine qv rfl (rr_neq rfl rfl hne) rfl rfl ?_ | refine qv rfl (qlen Und.eq rfl) rfl rfl ?_ | refine qv rfl (qfld FldC.fld rfl rfl) rfl rfl ?_ | refine qv rfl (rr_eql rfl rfl (qT (by omega))) rfl rfl ?_ | refine qv rfl (rr_eql rfl rfl (qF (by omega))) rfl rfl ?_ | refine qv rfl (rr_neq rfl rfl (qT (by omega))) rfl rfl ?_ | refine qv rfl (rr_neq rfl rfl (qF (by omega))) rfl rfl ?_ | refine qv rfl (rr_booleq (c := true) Und.eq rfl rfl (by cases is1 <;> rfl)) rfl rfl ?_))
      exact E_ret1e rfl rfl rfl
    · cases is2
      · repeat (first
          | refine qv rfl (qp rfl) rfl rfl ?_ | refine TL_nil ?_ | refine T_seq ?_ | refine T_region ?_ | refine qcT rfl ?_ | refine qcF rfl ?_ | refine T_skip ?_
          | refine T_ret ?_ | refine E_then ?_ | refine E_thenR ?_ | refine qs rfl rfl rfl rfl rfl rfl ?_
          | ((try refine qg rfl rfl rfl ?_); first | refine qv rfl (qp rfl) rfl rfl ?_ | refine qv rfl (rr_neq rfl rfl hne) rfl rfl ?_ | refine qv rfl (qlen Und.eq rfl) rfl rfl ?_ | refine qv rfl (qfld FldC.fld rfl rfl) rfl rfl ?_ | refine qv rfl (rr_eql rfl rfl (qT (by omega))) rfl rfl ?_ | refine qv rfl (rr_eql rfl rfl (qF (by omega))) rfl rfl ?_ | refine qv rfl (rr_neq rfl rfl (qT (by omega))) rfl rfl ?_ | refine qv rfl (rr_neq rfl rfl (qF (by omega))) rfl rfl ?_ | refine qv rfl (rr_booleq (c := true) Und.eq rfl rfl (by cases is1 <;> rfl)) rfl rfl ?_))
        exact E_ret1e rfl rfl rfl
      · repeat (first
          | refine qv rfl (qp rfl) rfl rfl ?_ | refine TL_nil ?_ | refine T_seq ?_ | refine T_region ?_ | refine qcT rfl ?_ | refine qcF rfl ?_ | refine T_skip ?_
          | refine T_ret ?_ | refine E_then ?_ | refine E_thenR ?_ | refine qs rfl rfl rfl rfl rfl rfl ?_
          | ((try refine qg rfl rfl rfl ?_); first | refine qv rfl (qp rfl) rfl rfl ?_ | refine qv rfl (rr_neq rfl rfl hne) rfl rfl ?_ | refine qv rfl (qlen Und.eq rfl) rfl rfl ?_ | refine qv rfl (qfld FldC.fld rfl rfl) rfl rfl ?_ | refine qv rfl (rr_eql rfl rfl (qT (by omega))) rfl rfl ?_ | refine qv rfl (rr_eql rfl rfl (qF (by omega))) rfl rfl ?_ | refine qv rfl (rr_neq rfl rfl (qT (by omega))) rfl rfl ?_ | refine qv rfl (rr_neq rfl rfl (qF (by omega))) rfl rfl ?_ | refine qv rfl (rr_booleq (c := true) Und.eq rfl rfl (by cases is1 <;> rfl)) rfl rfl ?_))
        exact E_ret1e rfl rfl rfl
  · have hl0 : (minR R tags).length = 0 := by unfold minR; rw [if_neg hc]; rfl
    rw [hl0]
    generalize chk R tags = e at *
    repeat (first
      | refine qv rfl (qp rfl) rfl rfl ?_ | refine TL_nil ?_ | refine T_seq ?_ | refine T_region ?_ | refine qcT rfl ?_ | refine qcF rfl ?_ | refine T_skip ?_
      | refine T_ret ?_ | refine E_then ?_ | refine E_thenR ?_ | refine qs rfl rfl rfl rfl rfl rfl ?_
      | ((try refine qg rfl rfl rfl ?_); first | refine qv rfl (qp rfl) rfl rfl ?_ | refine qv rfl (rr_neq (b := true) rfl rfl (decide_eq_true hc)) rfl rfl ?_ | refine qv rfl (rr_load1 TyC.ty rfl (at_blk (i := 3) rfl rfl)) rfl rfl ?_ | refine qv rfl (rr_rowlen (i := 1) Und.eq rfl rfl) rfl rfl ?_ | refine qv rfl (qlen Und.eq rfl) rfl rfl ?_ | refine qv rfl (qfld FldC.fld rfl rfl) rfl rfl ?_ | refine qv rfl (rr_eql rfl rfl (qT (by omega))) rfl rfl ?_ | refine qv rfl (rr_eql rfl rfl (qF (by omega))) rfl rfl ?_ | refine qv rfl (rr_neq rfl rfl (qT (by omega))) rfl rfl ?_ | refine qv rfl (rr_neq rfl rfl (qF (by omega))) rfl rfl ?_))
    exact E_ret1e rfl rfl rfl
end Go.Proofs.Ytbiacehgfmgfdaa.smallLeast
