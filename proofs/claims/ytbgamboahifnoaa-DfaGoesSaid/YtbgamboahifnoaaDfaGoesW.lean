/- The walk of DfaGoes. -/
import Derived.Test.YtbgamboahifnoaaDfaR
namespace Go.Proofs.Ytbgamboahifnoaa.dfaGoes
open Go.RowKit kit mix eng dfaL
set_option maxHeartbeats 4000000 in
theorem walk (w : World) (v : Value) (rows : List (List Int)) (tags : List Int) (h : IsDfa w v rows tags) (s : List UInt8) (hs : s.length ≤ 140737488351232) (t : List UInt8) (hst : t.length ≤ 140737488351232) :
    Calls Try.prog 8 #[v, str s, str t] w (Meets (ret (.bool true)) w) := by
  have hchk : ∀ (L : List Own) w', Mem w L w' → _ := fun L w' hm => dfaCheck_calls v rows tags w' (h.up hm)
  have hrun : ∀ (L : List Own) (s : List UInt8) w', Mem w L w' → s.length ≤ 9223372036854775807 → _ := fun L s w' hm hs => dfaRun_calls v rows tags s w' (h.up hm) hs
  obtain ⟨vr, vt, rfl, hr, ht, h256⟩ := h
  clear ht
  obtain ⟨br, cr, rfl, hr1, hr2, hr3⟩ := hr
  unfold maxLen at hr2
  refine enter (args := [.agg #[.slice br rows.length cr, vt], str s, str t]) (n := 72) Try.func8 rfl rfl rfl ?_
  refine T_seq (T_region (TL_box rfl rfl rfl fun g => ?_))
  have hcs := checkF_cases rows tags
  repeat (first
    | refine TL_val (rr_move rfl) rfl rfl rfl ?_
    | refine TL_val (rr_assign rfl) rfl rfl rfl ?_
    | refine TL_nil ?_
    | refine T_seq ?_
    | refine T_region ?_
    | refine T_condT rfl ?_
    | refine T_condF rfl ?_
    | refine T_skip ?_
    | refine T_exit ?_
    | refine T_ret ?_
    | refine T_block ?_
    | refine E_then ?_
    | refine E_thenX ?_
    | refine E_thenR ?_
    | refine E_blockN ?_
    | refine E_blockR ?_
    | refine E_blockX ?_
    | refine E_blockO rfl ?_
    | refine TL_val (rr_loadB (i := 0) TyC.ty rfl rfl rfl) rfl rfl rfl ?_
    | refine TL_val (rr_extract rfl rfl) rfl rfl rfl ?_
    | refine TL_val (rr_pickT rfl rfl) rfl rfl rfl ?_
    | refine TL_val (rr_pickF rfl rfl) rfl rfl rfl ?_
    | refine TL_val (rr_strlen Und.eq rfl) rfl rfl rfl ?_
    | refine TL_val (rr_field FldC.fld rfl rfl) rfl rfl rfl ?_
    | refine TL_val (rr_lss rfl rfl (decide_eq_true (by omega))) rfl rfl rfl ?_
    | refine TL_val (rr_lss rfl rfl (decide_eq_false (by omega))) rfl rfl rfl ?_
    | refine TL_val (rr_eql rfl rfl (decide_eq_true (by omega))) rfl rfl rfl ?_
    | refine TL_val (rr_eql rfl rfl (decide_eq_false (by omega))) rfl rfl rfl ?_
    | refine TL_val (rr_neq rfl rfl (decide_eq_true (by omega))) rfl rfl rfl ?_
    | refine TL_val (rr_neq rfl rfl (decide_eq_false (by omega))) rfl rfl rfl ?_
    | refine TL_val (rr_add64 rfl rfl (by omega) (by omega) rfl) rfl rfl rfl ?_
    | refine TL_skip rfl rfl rfl rfl rfl rfl ?_
    | refine TL_gval (rr_loadB (i := 0) TyC.ty rfl rfl rfl) rfl rfl rfl rfl rfl ?_
    | refine TL_gval (rr_move rfl) rfl rfl rfl rfl rfl ?_
    | refine TL_gval (rr_geq rfl rfl (decide_eq_true (by omega))) rfl rfl rfl rfl rfl ?_
    | refine TL_gval (rr_geq rfl rfl (decide_eq_false (by omega))) rfl rfl rfl rfl rfl ?_
    | refine TL_gval (rr_eql rfl rfl (decide_eq_true (by omega))) rfl rfl rfl rfl rfl ?_
    | refine TL_gval (rr_eql rfl rfl (decide_eq_false (by omega))) rfl rfl rfl rfl rfl ?_)
  refine TL_call (he2 EntersC.en rfl rfl rfl) (fun w hm => hrun _ s _ hm (by omega)) rfl rfl rfl ?_
  intro _ _
  repeat (first
    | refine TL_val (rr_move rfl) rfl rfl rfl ?_
    | refine TL_val (rr_assign rfl) rfl rfl rfl ?_
    | refine TL_nil ?_
    | refine T_seq ?_
    | refine T_region ?_
    | refine T_condT rfl ?_
    | refine T_condF rfl ?_
    | refine T_skip ?_
    | refine T_exit ?_
    | refine T_ret ?_
    | refine T_block ?_
    | refine E_then ?_
    | refine E_thenX ?_
    | refine E_thenR ?_
    | refine E_blockN ?_
    | refine E_blockR ?_
    | refine E_blockX ?_
    | refine E_blockO rfl ?_
    | refine TL_val (rr_loadB (i := 0) TyC.ty rfl rfl rfl) rfl rfl rfl ?_
    | refine TL_val (rr_stradd rfl rfl (by omega)) rfl rfl rfl ?_
    | refine TL_val (rr_extract rfl rfl) rfl rfl rfl ?_
    | refine TL_val (rr_pickT rfl rfl) rfl rfl rfl ?_
    | refine TL_val (rr_pickF rfl rfl) rfl rfl rfl ?_
    | refine TL_val (rr_strlen Und.eq rfl) rfl rfl rfl ?_
    | refine TL_val (rr_field FldC.fld rfl rfl) rfl rfl rfl ?_
    | refine TL_val (rr_lss rfl rfl (decide_eq_true (by omega))) rfl rfl rfl ?_
    | refine TL_val (rr_lss rfl rfl (decide_eq_false (by omega))) rfl rfl rfl ?_
    | refine TL_val (rr_eql rfl rfl (decide_eq_true (by omega))) rfl rfl rfl ?_
    | refine TL_val (rr_eql rfl rfl (decide_eq_false (by omega))) rfl rfl rfl ?_
    | refine TL_val (rr_neq rfl rfl (decide_eq_true (by omega))) rfl rfl rfl ?_
    | refine TL_val (rr_neq rfl rfl (decide_eq_false (by omega))) rfl rfl rfl ?_
    | refine TL_val (rr_add64 rfl rfl (by omega) (by omega) rfl) rfl rfl rfl ?_
    | refine TL_skip rfl rfl rfl rfl rfl rfl ?_
    | refine TL_gval (rr_loadB (i := 0) TyC.ty rfl rfl rfl) rfl rfl rfl rfl rfl ?_
    | refine TL_gval (rr_move rfl) rfl rfl rfl rfl rfl ?_
    | refine TL_gval (rr_geq rfl rfl (decide_eq_true (by omega))) rfl rfl rfl rfl rfl ?_
    | refine TL_gval (rr_geq rfl rfl (decide_eq_false (by omega))) rfl rfl rfl rfl rfl ?_
    | refine TL_gval (rr_eql rfl rfl (decide_eq_true (by omega))) rfl rfl rfl rfl rfl ?_
    | refine TL_gval (rr_eql rfl rfl (decide_eq_false (by omega))) rfl rfl rfl rfl rfl ?_)
  refine TL_call (he2 EntersC.en rfl rfl rfl) (fun w hm => hrun _ (s ++ t) _ hm (by simp; omega)) rfl rfl rfl ?_
  intro _ _
  unfold runF
  by_cases c1 : checkF rows tags = 0
  · rw [if_neg (by simpa using c1), if_neg (by simpa using c1)]
    obtain ⟨k1, k2, k3, k4⟩ := check_ok c1
    rw [goes_append]
    have hrange : ∀ (u : List UInt8) (now : Int), -1 ≤ now → now < rows.length → -1 ≤ goes rows now u ∧ goes rows now u < rows.length := by
      intro u
      induction u with
      | nil => intro now a b; exact ⟨a, b⟩
      | cons c u ih =>
        intro now a b
        simp only [goes]
        split
        · exact ⟨a, b⟩
        · have := step_range c1 h256 (now := now) (by omega) b c
          exact ih _ this.1 this.2
    have h0 := hrange s 0 (by omega) (by omega)
    generalize goes rows 0 s = n0 at *
    clear hrange hrun hchk k4
    repeat (first
      | refine TL_val (rr_move rfl) rfl rfl rfl ?_
      | refine TL_val (rr_assign rfl) rfl rfl rfl ?_
      | refine TL_nil ?_
      | refine T_seq ?_
      | refine T_region ?_
      | refine T_condT rfl ?_
      | refine T_condF rfl ?_
      | refine T_skip ?_
      | refine T_exit ?_
      | refine T_ret ?_
      | refine T_block ?_
      | refine E_then ?_
      | refine E_thenX ?_
      | refine E_thenR ?_
      | refine E_blockN ?_
      | refine E_blockR ?_
      | refine E_blockX ?_
      | refine E_blockO rfl ?_
      | refine TL_val (rr_extract rfl rfl) rfl rfl rfl ?_
      | refine TL_val (rr_pickT rfl rfl) rfl rfl rfl ?_
      | refine TL_val (rr_pickF rfl rfl) rfl rfl rfl ?_
      | refine TL_val (rr_strlen Und.eq rfl) rfl rfl rfl ?_
      | refine TL_val (rr_field FldC.fld rfl rfl) rfl rfl rfl ?_
      | refine TL_val (rr_lss rfl rfl (decide_eq_true (by omega))) rfl rfl rfl ?_
      | refine TL_val (rr_lss rfl rfl (decide_eq_false (by omega))) rfl rfl rfl ?_
      | refine TL_val (rr_eql rfl rfl (decide_eq_true (by omega))) rfl rfl rfl ?_
      | refine TL_val (rr_eql rfl rfl (decide_eq_false (by omega))) rfl rfl rfl ?_
      | refine TL_val (rr_neq rfl rfl (decide_eq_true (by omega))) rfl rfl rfl ?_
      | refine TL_val (rr_neq rfl rfl (decide_eq_false (by omega))) rfl rfl rfl ?_
      | refine TL_val (rr_add64 rfl rfl (by omega) (by omega) rfl) rfl rfl rfl ?_
      | refine TL_skip rfl rfl rfl rfl rfl rfl ?_
      | refine TL_gval (rr_move rfl) rfl rfl rfl rfl rfl ?_
      | refine TL_gval (rr_geq rfl rfl (decide_eq_true (by omega))) rfl rfl rfl rfl rfl ?_
      | refine TL_gval (rr_geq rfl rfl (decide_eq_false (by omega))) rfl rfl rfl rfl rfl ?_
      | refine TL_gval (rr_eql rfl rfl (decide_eq_true (by omega))) rfl rfl rfl rfl rfl ?_
      | refine TL_gval (rr_eql rfl rfl (decide_eq_false (by omega))) rfl rfl rfl rfl rfl ?_)
    refine T_loop (ι := Nat × Int) (fun (i, now) => goes rows n0 t = goes rows now (t.drop i) ∧ i ≤ t.length ∧ -1 ≤ now ∧ now < rows.length) (fun (i, now) => [(2, str t), (3, .pointer (some ⟨g, 0, none⟩)), (7, .int .i64 now), (11, .int .i64 (i : Int)), (9, .int .i64 (goes rows n0 t)), (10, .int .i64 0)]) (fun _ => [blkO g #[.slice br rows.length cr, vt] 43]) (fun (i, _) => t.length - i) (0, n0) ⟨rfl, by omega, h0.1, h0.2⟩ ⟨rfl, rfl, rfl, rfl, rfl, rfl, trivial⟩ rfl ?_
    rintro ⟨i, now⟩ ⟨h1, h2, h3, h4⟩
    by_cases c2 : i < t.length
    · obtain ⟨b, hb⟩ : ∃ b, t[i]? = some b := ⟨_, List.getElem?_eq_getElem c2⟩
      have hd : t.drop i = b :: t.drop (i + 1) := by rw [List.drop_eq_getElem_cons c2, (List.getElem?_eq_some_iff.1 hb).2]
      rw [hd] at h1
      simp only [goes] at h1
      by_cases c3 : 0 ≤ now
      · rw [if_neg (by omega)] at h1
        obtain ⟨B, off, rfl, hB⟩ := hr3 (by omega)
        have hbl := b.toNat_lt
        obtain ⟨m, rfl⟩ : ∃ m : Nat, now = m := ⟨now.toNat, by omega⟩
        have hm' : m < rows.length := by omega
        obtain ⟨d1, d2, d3⟩ := dfa_cell hB hm' (j := b.toNat) (by omega)
        have hst := step_range c1 h256 (now := (m : Int)) (by omega) h4 b
        rw [Int.toNat_natCast] at hst h1
        generalize (rows.getD m []).getD b.toNat 0 = z at *
        clear hd hr3
        repeat (first
          | refine TL_val (rr_move rfl) rfl rfl rfl ?_
          | refine TL_val (rr_assign rfl) rfl rfl rfl ?_
          | refine TL_nil ?_
          | refine T_seq ?_
          | refine T_region ?_
          | refine T_condT rfl ?_
          | refine T_condF rfl ?_
          | refine T_skip ?_
          | refine T_exit ?_
          | refine T_ret ?_
          | refine T_block ?_
          | refine E_then ?_
          | refine E_thenX ?_
          | refine E_thenR ?_
          | refine E_blockN ?_
          | refine E_blockR ?_
          | refine E_blockX ?_
          | refine E_blockO rfl ?_
          | refine TL_val (rr_extract rfl rfl) rfl rfl rfl ?_
          | refine TL_val (rr_pickT rfl rfl) rfl rfl rfl ?_
          | refine TL_val (rr_pickF rfl rfl) rfl rfl rfl ?_
          | refine TL_val (rr_strlen Und.eq rfl) rfl rfl rfl ?_
          | refine TL_val (rr_field FldC.fld rfl rfl) rfl rfl rfl ?_
          | refine TL_val (rr_lss rfl rfl (decide_eq_true (by omega))) rfl rfl rfl ?_
          | refine TL_val (rr_lss rfl rfl (decide_eq_false (by omega))) rfl rfl rfl ?_
          | refine TL_val (rr_eql rfl rfl (decide_eq_true (by omega))) rfl rfl rfl ?_
          | refine TL_val (rr_eql rfl rfl (decide_eq_false (by omega))) rfl rfl rfl ?_
          | refine TL_val (rr_neq rfl rfl (decide_eq_true (by omega))) rfl rfl rfl ?_
          | refine TL_val (rr_neq rfl rfl (decide_eq_false (by omega))) rfl rfl rfl ?_
          | refine TL_val (rr_add64 rfl rfl (by omega) (by omega) rfl) rfl rfl rfl ?_
          | refine TL_skip rfl rfl rfl rfl rfl rfl ?_
          | refine TL_gval (rr_move rfl) rfl rfl rfl rfl rfl ?_
          | refine TL_gval (rr_geq rfl rfl (decide_eq_true (by omega))) rfl rfl rfl rfl rfl ?_
          | refine TL_gval (rr_geq rfl rfl (decide_eq_false (by omega))) rfl rfl rfl rfl rfl ?_
          | refine TL_gval (rr_eql rfl rfl (decide_eq_true (by omega))) rfl rfl rfl rfl rfl ?_
          | refine TL_gval (rr_eql rfl rfl (decide_eq_false (by omega))) rfl rfl rfl rfl rfl ?_)
        refine T_draw 10 (List.replicate 10 true) rfl (by kernel_rfl) (by kernel_rfl) (by intro c a d v w h; cases d <;> exact h) ?_
        repeat (first
          | refine TM_val (rr_move rfl) rfl rfl rfl ?_
          | refine TM_val (rr_assign rfl) rfl rfl rfl ?_
          | refine TM_val (rr_load1 TyC.ty rfl (at_blk (i := 0) rfl rfl)) rfl rfl rfl ?_
          | refine TM_val (rr_stridx Und.eq rfl rfl (by omega) hb) rfl rfl rfl ?_
          | refine TM_val (rr_idxc Und.eq TyC.ty rfl rfl hm') rfl rfl rfl ?_
          | refine TM_val (rr_aidx1 Und.eq TyC.ty rfl rfl hbl) rfl rfl rfl ?_
          | refine TM_val (rr_load1 TyC.ty rfl (at_old d1)) rfl rfl rfl ?_
          | refine TM_val (rr_conv Und.eq Und.eq rfl (wrap_in (by omega) (by omega))) rfl rfl rfl ?_
          | refine TM_val (rr_extract rfl rfl) rfl rfl rfl ?_
          | refine TM_val (rr_pickT rfl rfl) rfl rfl rfl ?_
          | refine TM_val (rr_pickF rfl rfl) rfl rfl rfl ?_
          | refine TM_val (rr_strlen Und.eq rfl) rfl rfl rfl ?_
          | refine TM_val (rr_field FldC.fld rfl rfl) rfl rfl rfl ?_
          | refine TM_val (rr_lss rfl rfl (decide_eq_true (by omega))) rfl rfl rfl ?_
          | refine TM_val (rr_lss rfl rfl (decide_eq_false (by omega))) rfl rfl rfl ?_
          | refine TM_val (rr_eql rfl rfl (decide_eq_true (by omega))) rfl rfl rfl ?_
          | refine TM_val (rr_eql rfl rfl (decide_eq_false (by omega))) rfl rfl rfl ?_
          | refine TM_val (rr_neq rfl rfl (decide_eq_true (by omega))) rfl rfl rfl ?_
          | refine TM_val (rr_neq rfl rfl (decide_eq_false (by omega))) rfl rfl rfl ?_
          | refine TM_val (rr_add64 rfl rfl (by omega) (by omega) rfl) rfl rfl rfl ?_
          | refine TM_skip rfl rfl rfl rfl rfl rfl ?_
          | refine TM_gval (rr_load1 TyC.ty rfl (at_blk (i := 0) rfl rfl)) rfl rfl rfl rfl rfl ?_
          | refine TM_gval (rr_load1 TyC.ty rfl (at_old d1)) rfl rfl rfl rfl rfl ?_
          | refine TM_gval (rr_move rfl) rfl rfl rfl rfl rfl ?_
          | refine TM_gval (rr_geq rfl rfl (decide_eq_true (by omega))) rfl rfl rfl rfl rfl ?_
          | refine TM_gval (rr_geq rfl rfl (decide_eq_false (by omega))) rfl rfl rfl rfl rfl ?_
          | refine TM_gval (rr_eql rfl rfl (decide_eq_true (by omega))) rfl rfl rfl rfl rfl ?_
          | refine TM_gval (rr_eql rfl rfl (decide_eq_false (by omega))) rfl rfl rfl rfl rfl ?_
          | refine TM_end ?_)
        repeat (first
          | refine TL_val (rr_move rfl) rfl rfl rfl ?_
          | refine TL_val (rr_assign rfl) rfl rfl rfl ?_
          | refine TL_nil ?_
          | refine T_seq ?_
          | refine T_region ?_
          | refine T_condT rfl ?_
          | refine T_condF rfl ?_
          | refine T_skip ?_
          | refine T_exit ?_
          | refine T_ret ?_
          | refine T_block ?_
          | refine E_then ?_
          | refine E_thenX ?_
          | refine E_thenR ?_
          | refine E_blockN ?_
          | refine E_blockR ?_
          | refine E_blockX ?_
          | refine E_blockO rfl ?_
          | refine TL_val (rr_extract rfl rfl) rfl rfl rfl ?_
          | refine TL_val (rr_pickT rfl rfl) rfl rfl rfl ?_
          | refine TL_val (rr_pickF rfl rfl) rfl rfl rfl ?_
          | refine TL_val (rr_strlen Und.eq rfl) rfl rfl rfl ?_
          | refine TL_val (rr_field FldC.fld rfl rfl) rfl rfl rfl ?_
          | refine TL_val (rr_lss rfl rfl (decide_eq_true (by omega))) rfl rfl rfl ?_
          | refine TL_val (rr_lss rfl rfl (decide_eq_false (by omega))) rfl rfl rfl ?_
          | refine TL_val (rr_eql rfl rfl (decide_eq_true (by omega))) rfl rfl rfl ?_
          | refine TL_val (rr_eql rfl rfl (decide_eq_false (by omega))) rfl rfl rfl ?_
          | refine TL_val (rr_neq rfl rfl (decide_eq_true (by omega))) rfl rfl rfl ?_
          | refine TL_val (rr_neq rfl rfl (decide_eq_false (by omega))) rfl rfl rfl ?_
          | refine TL_val (rr_add64 rfl rfl (by omega) (by omega) rfl) rfl rfl rfl ?_
          | refine TL_skip rfl rfl rfl rfl rfl rfl ?_
          | refine TL_gval (rr_move rfl) rfl rfl rfl rfl rfl ?_
          | refine TL_gval (rr_geq rfl rfl (decide_eq_true (by omega))) rfl rfl rfl rfl rfl ?_
          | refine TL_gval (rr_geq rfl rfl (decide_eq_false (by omega))) rfl rfl rfl rfl rfl ?_
          | refine TL_gval (rr_eql rfl rfl (decide_eq_true (by omega))) rfl rfl rfl rfl rfl ?_
          | refine TL_gval (rr_eql rfl rfl (decide_eq_false (by omega))) rfl rfl rfl rfl rfl ?_)
        exact E_round (i + 1, z) ⟨h1, by omega, hst.1, hst.2⟩ (by show t.length - (i + 1) < t.length - i; omega) ⟨rfl, rfl, rfl, rfl, rfl, rfl, trivial⟩ rfl
      · rw [if_pos (by omega)] at h1
        repeat (first
          | refine TL_val (rr_move rfl) rfl rfl rfl ?_
          | refine TL_val (rr_assign rfl) rfl rfl rfl ?_
          | refine TL_nil ?_
          | refine T_seq ?_
          | refine T_region ?_
          | refine T_condT rfl ?_
          | refine T_condF rfl ?_
          | refine T_skip ?_
          | refine T_exit ?_
          | refine T_ret ?_
          | refine T_block ?_
          | refine E_then ?_
          | refine E_thenX ?_
          | refine E_thenR ?_
          | refine E_blockN ?_
          | refine E_blockR ?_
          | refine E_blockX ?_
          | refine E_blockO rfl ?_
          | refine TL_val (rr_extract rfl rfl) rfl rfl rfl ?_
          | refine TL_val (rr_pickT rfl rfl) rfl rfl rfl ?_
          | refine TL_val (rr_pickF rfl rfl) rfl rfl rfl ?_
          | refine TL_val (rr_strlen Und.eq rfl) rfl rfl rfl ?_
          | refine TL_val (rr_field FldC.fld rfl rfl) rfl rfl rfl ?_
          | refine TL_val (rr_lss rfl rfl (decide_eq_true (by omega))) rfl rfl rfl ?_
          | refine TL_val (rr_lss rfl rfl (decide_eq_false (by omega))) rfl rfl rfl ?_
          | refine TL_val (rr_eql rfl rfl (decide_eq_true (by omega))) rfl rfl rfl ?_
          | refine TL_val (rr_eql rfl rfl (decide_eq_false (by omega))) rfl rfl rfl ?_
          | refine TL_val (rr_neq rfl rfl (decide_eq_true (by omega))) rfl rfl rfl ?_
          | refine TL_val (rr_neq rfl rfl (decide_eq_false (by omega))) rfl rfl rfl ?_
          | refine TL_val (rr_add64 rfl rfl (by omega) (by omega) rfl) rfl rfl rfl ?_
          | refine TL_skip rfl rfl rfl rfl rfl rfl ?_
          | refine TL_gval (rr_move rfl) rfl rfl rfl rfl rfl ?_
          | refine TL_gval (rr_geq rfl rfl (decide_eq_true (by omega))) rfl rfl rfl rfl rfl ?_
          | refine TL_gval (rr_geq rfl rfl (decide_eq_false (by omega))) rfl rfl rfl rfl rfl ?_
          | refine TL_gval (rr_eql rfl rfl (decide_eq_true (by omega))) rfl rfl rfl rfl rfl ?_
          | refine TL_gval (rr_eql rfl rfl (decide_eq_false (by omega))) rfl rfl rfl rfl rfl ?_)
        exact E_ret1 rfl rfl fun w hm => hm.ret
    · rw [List.drop_eq_nil_of_le (by omega)] at h1
      simp only [goes] at h1
      repeat (first
        | refine TL_val (rr_move rfl) rfl rfl rfl ?_
        | refine TL_val (rr_assign rfl) rfl rfl rfl ?_
        | refine TL_nil ?_
        | refine T_seq ?_
        | refine T_region ?_
        | refine T_condT rfl ?_
        | refine T_condF rfl ?_
        | refine T_skip ?_
        | refine T_exit ?_
        | refine T_ret ?_
        | refine T_block ?_
        | refine E_then ?_
        | refine E_thenX ?_
        | refine E_thenR ?_
        | refine E_blockN ?_
        | refine E_blockR ?_
        | refine E_blockX ?_
        | refine E_blockO rfl ?_
        | refine TL_val (rr_extract rfl rfl) rfl rfl rfl ?_
        | refine TL_val (rr_pickT rfl rfl) rfl rfl rfl ?_
        | refine TL_val (rr_pickF rfl rfl) rfl rfl rfl ?_
        | refine TL_val (rr_strlen Und.eq rfl) rfl rfl rfl ?_
        | refine TL_val (rr_field FldC.fld rfl rfl) rfl rfl rfl ?_
        | refine TL_val (rr_lss rfl rfl (decide_eq_true (by omega))) rfl rfl rfl ?_
        | refine TL_val (rr_lss rfl rfl (decide_eq_false (by omega))) rfl rfl rfl ?_
        | refine TL_val (rr_eql rfl rfl (decide_eq_true (by omega))) rfl rfl rfl ?_
        | refine TL_val (rr_eql rfl rfl (decide_eq_false (by omega))) rfl rfl rfl ?_
        | refine TL_val (rr_neq rfl rfl (decide_eq_true (by omega))) rfl rfl rfl ?_
        | refine TL_val (rr_neq rfl rfl (decide_eq_false (by omega))) rfl rfl rfl ?_
        | refine TL_val (rr_add64 rfl rfl (by omega) (by omega) rfl) rfl rfl rfl ?_
        | refine TL_skip rfl rfl rfl rfl rfl rfl ?_
        | refine TL_gval (rr_move rfl) rfl rfl rfl rfl rfl ?_
        | refine TL_gval (rr_geq rfl rfl (decide_eq_true (by omega))) rfl rfl rfl rfl rfl ?_
        | refine TL_gval (rr_geq rfl rfl (decide_eq_false (by omega))) rfl rfl rfl rfl rfl ?_
        | refine TL_gval (rr_eql rfl rfl (decide_eq_true (by omega))) rfl rfl rfl rfl rfl ?_
        | refine TL_gval (rr_eql rfl rfl (decide_eq_false (by omega))) rfl rfl rfl rfl rfl ?_)
      exact E_ret1 rfl rfl fun w hm => hm.ret
  · rw [if_pos c1, if_pos c1]
    repeat (first
      | refine TL_val (rr_move rfl) rfl rfl rfl ?_
      | refine TL_val (rr_assign rfl) rfl rfl rfl ?_
      | refine TL_nil ?_
      | refine T_seq ?_
      | refine T_region ?_
      | refine T_condT rfl ?_
      | refine T_condF rfl ?_
      | refine T_skip ?_
      | refine T_exit ?_
      | refine T_ret ?_
      | refine T_block ?_
      | refine E_then ?_
      | refine E_thenX ?_
      | refine E_thenR ?_
      | refine E_blockN ?_
      | refine E_blockR ?_
      | refine E_blockX ?_
      | refine E_blockO rfl ?_
      | refine TL_val (rr_loadB (i := 0) TyC.ty rfl rfl rfl) rfl rfl rfl ?_
      | refine TL_val (rr_eql rfl rfl (decide_eq_true rfl)) rfl rfl rfl ?_
      | refine TL_val (rr_extract rfl rfl) rfl rfl rfl ?_
      | refine TL_val (rr_pickT rfl rfl) rfl rfl rfl ?_
      | refine TL_val (rr_pickF rfl rfl) rfl rfl rfl ?_
      | refine TL_val (rr_strlen Und.eq rfl) rfl rfl rfl ?_
      | refine TL_val (rr_field FldC.fld rfl rfl) rfl rfl rfl ?_
      | refine TL_val (rr_lss rfl rfl (decide_eq_true (by omega))) rfl rfl rfl ?_
      | refine TL_val (rr_lss rfl rfl (decide_eq_false (by omega))) rfl rfl rfl ?_
      | refine TL_val (rr_eql rfl rfl (decide_eq_true (by omega))) rfl rfl rfl ?_
      | refine TL_val (rr_eql rfl rfl (decide_eq_false (by omega))) rfl rfl rfl ?_
      | refine TL_val (rr_neq rfl rfl (decide_eq_true (by omega))) rfl rfl rfl ?_
      | refine TL_val (rr_neq rfl rfl (decide_eq_false (by omega))) rfl rfl rfl ?_
      | refine TL_val (rr_add64 rfl rfl (by omega) (by omega) rfl) rfl rfl rfl ?_
      | refine TL_skip rfl rfl rfl rfl rfl rfl ?_
      | refine TL_gval (rr_loadB (i := 0) TyC.ty rfl rfl rfl) rfl rfl rfl rfl rfl ?_
      | refine TL_gval (rr_eql rfl rfl (decide_eq_true rfl)) rfl rfl rfl rfl rfl ?_
      | refine TL_gval (rr_move rfl) rfl rfl rfl rfl rfl ?_
      | refine TL_gval (rr_geq rfl rfl (decide_eq_true (by omega))) rfl rfl rfl rfl rfl ?_
      | refine TL_gval (rr_geq rfl rfl (decide_eq_false (by omega))) rfl rfl rfl rfl rfl ?_
      | refine TL_gval (rr_eql rfl rfl (decide_eq_true (by omega))) rfl rfl rfl rfl rfl ?_
      | refine TL_gval (rr_eql rfl rfl (decide_eq_false (by omega))) rfl rfl rfl rfl rfl ?_)
    refine TL_gcall (he1 EntersC.en rfl rfl) (fun w hm => hchk _ _ hm) rfl rfl rfl rfl rfl ?_
    intro _ _
    repeat (first
      | refine TL_val (rr_move rfl) rfl rfl rfl ?_
      | refine TL_val (rr_assign rfl) rfl rfl rfl ?_
      | refine TL_nil ?_
      | refine T_seq ?_
      | refine T_region ?_
      | refine T_condT rfl ?_
      | refine T_condF rfl ?_
      | refine T_skip ?_
      | refine T_exit ?_
      | refine T_ret ?_
      | refine T_block ?_
      | refine E_then ?_
      | refine E_thenX ?_
      | refine E_thenR ?_
      | refine E_blockN ?_
      | refine E_blockR ?_
      | refine E_blockX ?_
      | refine E_blockO rfl ?_
      | refine TL_val (rr_eql rfl rfl (decide_eq_true rfl)) rfl rfl rfl ?_
      | refine TL_val (rr_extract rfl rfl) rfl rfl rfl ?_
      | refine TL_val (rr_pickT rfl rfl) rfl rfl rfl ?_
      | refine TL_val (rr_pickF rfl rfl) rfl rfl rfl ?_
      | refine TL_val (rr_strlen Und.eq rfl) rfl rfl rfl ?_
      | refine TL_val (rr_field FldC.fld rfl rfl) rfl rfl rfl ?_
      | refine TL_val (rr_lss rfl rfl (decide_eq_true (by omega))) rfl rfl rfl ?_
      | refine TL_val (rr_lss rfl rfl (decide_eq_false (by omega))) rfl rfl rfl ?_
      | refine TL_val (rr_eql rfl rfl (decide_eq_true (by omega))) rfl rfl rfl ?_
      | refine TL_val (rr_eql rfl rfl (decide_eq_false (by omega))) rfl rfl rfl ?_
      | refine TL_val (rr_neq rfl rfl (decide_eq_true (by omega))) rfl rfl rfl ?_
      | refine TL_val (rr_neq rfl rfl (decide_eq_false (by omega))) rfl rfl rfl ?_
      | refine TL_val (rr_add64 rfl rfl (by omega) (by omega) rfl) rfl rfl rfl ?_
      | refine TL_skip rfl rfl rfl rfl rfl rfl ?_
      | refine TL_gval (rr_eql rfl rfl (decide_eq_true rfl)) rfl rfl rfl rfl rfl ?_
      | refine TL_gval (rr_move rfl) rfl rfl rfl rfl rfl ?_
      | refine TL_gval (rr_geq rfl rfl (decide_eq_true (by omega))) rfl rfl rfl rfl rfl ?_
      | refine TL_gval (rr_geq rfl rfl (decide_eq_false (by omega))) rfl rfl rfl rfl rfl ?_
      | refine TL_gval (rr_eql rfl rfl (decide_eq_true (by omega))) rfl rfl rfl rfl rfl ?_
      | refine TL_gval (rr_eql rfl rfl (decide_eq_false (by omega))) rfl rfl rfl rfl rfl ?_)
    exact E_ret1 rfl rfl fun w hm => hm.ret
end Go.Proofs.Ytbgamboahifnoaa.dfaGoes
