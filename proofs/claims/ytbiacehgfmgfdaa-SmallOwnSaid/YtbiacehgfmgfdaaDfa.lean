/- What package dfa computes: Check, Run. -/
import Derived.Test.YtbiacehgfmgfdaaDfaO
namespace Go.Proofs.Ytbiacehgfmgfdaa.eng
open Go.RowKit kit mix dfaL
theorem row_at {rows : List (List Int)} {i : Nat} (hi : i < rows.length) : rows.getD i [] = rows[i] := by rw [List.getD_eq_getElem?_getD, List.getElem?_eq_getElem hi]; rfl
theorem int_at {l : List Int} {i : Nat} (hi : i < l.length) : l.getD i 0 = l[i] := by rw [List.getD_eq_getElem?_getD, List.getElem?_eq_getElem hi]; rfl
theorem any_range {n i : Nat} {p : Nat → Bool} (hi : i < n) (h : p i = true) : (List.range n).any p = true := List.any_eq_true.2 ⟨i, List.mem_range.2 hi, h⟩
set_option maxHeartbeats 4000000 in
theorem dfaCheck_calls (v : Value) (rows : List (List Int)) (tags : List Int) (w : World) (h : IsDfa w v rows tags) :
    Calls Try.prog 12 #[v] w (Meets (ret (.int .i64 (checkF rows tags))) w) := by
  obtain ⟨vr, vt, rfl, hr, ht, h256⟩ := h
  obtain ⟨br, cr, rfl, hr1, hr2, hr3⟩ := hr
  have ht' := ht.sl (f := .int .i64) fun cs a h => h.1
  obtain ⟨bt, ct, rfl, ht1, ht2, ht3⟩ := ht'
  have htr : ∀ i (hi : i < tags.length), -9223372036854775808 ≤ tags[i] ∧ tags[i] ≤ 9223372036854775807 := fun i hi => by
    obtain ⟨_, _, _, _, _, h5⟩ := ht
    obtain ⟨_, _, _, h6⟩ := h5 (by omega)
    obtain ⟨_, h7, _⟩ := h6 i hi
    exact h7.2
  clear ht
  unfold maxLen at hr2 ht2
  refine enter (args := [.agg #[.slice br rows.length cr, .slice bt tags.length ct]]) (n := 57) Try.func12 rfl rfl rfl ?_
  refine T_seq (T_region (TL_box rfl rfl rfl fun g => ?_))
  repeat (first
    | refine TL_val (rr_move rfl) rfl rfl rfl ?_
    | refine TL_val (rr_assign rfl) rfl rfl rfl ?_
    | refine TL_nil ?_
    | refine T_seq ?_
    | refine T_region ?_
    | refine T_condT rfl ?_
    | refine T_condF rfl ?_
    | refine T_skip ?_
    | refine T_exit ?_
    | refine T_ret ?_
    | refine T_block ?_
    | refine E_then ?_
    | refine E_thenX ?_
    | refine E_thenR ?_
    | refine E_blockN ?_
    | refine E_blockR ?_
    | refine E_blockX ?_
    | refine E_blockO rfl ?_
    | refine TL_val (rr_load1 TyC.ty rfl (at_blk (i := 0) rfl rfl)) rfl rfl rfl ?_
    | refine TL_val (rr_pickT rfl rfl) rfl rfl rfl ?_
    | refine TL_val (rr_pickF rfl rfl) rfl rfl rfl ?_
    | refine TL_val (rr_len Und.eq rfl) rfl rfl rfl ?_
    | refine TL_val (rr_field FldC.fld rfl rfl) rfl rfl rfl ?_
    | refine TL_val (rr_lss rfl rfl (decide_eq_true (by omega))) rfl rfl rfl ?_
    | refine TL_val (rr_lss rfl rfl (decide_eq_false (by omega))) rfl rfl rfl ?_
    | refine TL_val (rr_gtr rfl rfl (decide_eq_true (by omega))) rfl rfl rfl ?_
    | refine TL_val (rr_gtr rfl rfl (decide_eq_false (by omega))) rfl rfl rfl ?_
    | refine TL_val (rr_eql rfl rfl (decide_eq_true (by omega))) rfl rfl rfl ?_
    | refine TL_val (rr_eql rfl rfl (decide_eq_false (by omega))) rfl rfl rfl ?_
    | refine TL_val (rr_add64 rfl rfl (by omega) (by omega) rfl) rfl rfl rfl ?_
    | refine TL_skip rfl rfl rfl rfl rfl rfl ?_
    | refine TL_gval (rr_load1 TyC.ty rfl (at_blk (i := 0) rfl rfl)) rfl rfl rfl rfl rfl ?_
    | refine TL_gval (rr_move rfl) rfl rfl rfl rfl rfl ?_
    | refine TL_gval (rr_len Und.eq rfl) rfl rfl rfl rfl rfl ?_
    | refine TL_gval (rr_field FldC.fld rfl rfl) rfl rfl rfl rfl rfl ?_
    | refine TL_gval (rr_geq rfl rfl (decide_eq_true (by omega))) rfl rfl rfl rfl rfl ?_
    | refine TL_gval (rr_geq rfl rfl (decide_eq_false (by omega))) rfl rfl rfl rfl rfl ?_
    | refine TL_gval (rr_neq rfl rfl (decide_eq_true (by omega))) rfl rfl rfl rfl rfl ?_
    | refine TL_gval (rr_neq rfl rfl (decide_eq_false (by omega))) rfl rfl rfl rfl rfl ?_)
  unfold checkF
  by_cases c1 : 200 < rows.length
  · rw [if_pos c1]
    repeat (first
      | refine TL_val (rr_move rfl) rfl rfl rfl ?_
      | refine TL_val (rr_assign rfl) rfl rfl rfl ?_
      | refine TL_nil ?_
      | refine T_seq ?_
      | refine T_region ?_
      | refine T_condT rfl ?_
      | refine T_condF rfl ?_
      | refine T_skip ?_
      | refine T_exit ?_
      | refine T_ret ?_
      | refine T_block ?_
      | refine E_then ?_
      | refine E_thenX ?_
      | refine E_thenR ?_
      | refine E_blockN ?_
      | refine E_blockR ?_
      | refine E_blockX ?_
      | refine E_blockO rfl ?_
      | refine TL_val (rr_pickT rfl rfl) rfl rfl rfl ?_
      | refine TL_val (rr_pickF rfl rfl) rfl rfl rfl ?_
      | refine TL_val (rr_len Und.eq rfl) rfl rfl rfl ?_
      | refine TL_val (rr_field FldC.fld rfl rfl) rfl rfl rfl ?_
      | refine TL_val (rr_lss rfl rfl (decide_eq_true (by omega))) rfl rfl rfl ?_
      | refine TL_val (rr_lss rfl rfl (decide_eq_false (by omega))) rfl rfl rfl ?_
      | refine TL_val (rr_gtr rfl rfl (decide_eq_true (by omega))) rfl rfl rfl ?_
      | refine TL_val (rr_gtr rfl rfl (decide_eq_false (by omega))) rfl rfl rfl ?_
      | refine TL_val (rr_eql rfl rfl (decide_eq_true (by omega))) rfl rfl rfl ?_
      | refine TL_val (rr_eql rfl rfl (decide_eq_false (by omega))) rfl rfl rfl ?_
      | refine TL_val (rr_add64 rfl rfl (by omega) (by omega) rfl) rfl rfl rfl ?_
      | refine TL_skip rfl rfl rfl rfl rfl rfl ?_
      | refine TL_gval (rr_move rfl) rfl rfl rfl rfl rfl ?_
      | refine TL_gval (rr_len Und.eq rfl) rfl rfl rfl rfl rfl ?_
      | refine TL_gval (rr_field FldC.fld rfl rfl) rfl rfl rfl rfl rfl ?_
      | refine TL_gval (rr_geq rfl rfl (decide_eq_true (by omega))) rfl rfl rfl rfl rfl ?_
      | refine TL_gval (rr_geq rfl rfl (decide_eq_false (by omega))) rfl rfl rfl rfl rfl ?_
      | refine TL_gval (rr_neq rfl rfl (decide_eq_true (by omega))) rfl rfl rfl rfl rfl ?_
      | refine TL_gval (rr_neq rfl rfl (decide_eq_false (by omega))) rfl rfl rfl rfl rfl ?_)
    exact E_ret1 rfl rfl fun w hm => hm.ret
  · rw [if_neg c1]
    by_cases c2 : rows.length = 0
    · rw [if_pos (.inl c2)]
      repeat (first
        | refine TL_val (rr_move rfl) rfl rfl rfl ?_
        | refine TL_val (rr_assign rfl) rfl rfl rfl ?_
        | refine TL_nil ?_
        | refine T_seq ?_
        | refine T_region ?_
        | refine T_condT rfl ?_
        | refine T_condF rfl ?_
        | refine T_skip ?_
        | refine T_exit ?_
        | refine T_ret ?_
        | refine T_block ?_
        | refine E_then ?_
        | refine E_thenX ?_
        | refine E_thenR ?_
        | refine E_blockN ?_
        | refine E_blockR ?_
        | refine E_blockX ?_
        | refine E_blockO rfl ?_
        | refine TL_val (rr_load1 TyC.ty rfl (at_blk (i := 0) rfl rfl)) rfl rfl rfl ?_
        | refine TL_val (rr_pickT rfl rfl) rfl rfl rfl ?_
        | refine TL_val (rr_pickF rfl rfl) rfl rfl rfl ?_
        | refine TL_val (rr_len Und.eq rfl) rfl rfl rfl ?_
        | refine TL_val (rr_field FldC.fld rfl rfl) rfl rfl rfl ?_
        | refine TL_val (rr_lss rfl rfl (decide_eq_true (by omega))) rfl rfl rfl ?_
        | refine TL_val (rr_lss rfl rfl (decide_eq_false (by omega))) rfl rfl rfl ?_
        | refine TL_val (rr_gtr rfl rfl (decide_eq_true (by omega))) rfl rfl rfl ?_
        | refine TL_val (rr_gtr rfl rfl (decide_eq_false (by omega))) rfl rfl rfl ?_
        | refine TL_val (rr_eql rfl rfl (decide_eq_true (by omega))) rfl rfl rfl ?_
        | refine TL_val (rr_eql rfl rfl (decide_eq_false (by omega))) rfl rfl rfl ?_
        | refine TL_val (rr_add64 rfl rfl (by omega) (by omega) rfl) rfl rfl rfl ?_
        | refine TL_skip rfl rfl rfl rfl rfl rfl ?_
        | refine TL_gval (rr_load1 TyC.ty rfl (at_blk (i := 0) rfl rfl)) rfl rfl rfl rfl rfl ?_
        | refine TL_gval (rr_move rfl) rfl rfl rfl rfl rfl ?_
        | refine TL_gval (rr_len Und.eq rfl) rfl rfl rfl rfl rfl ?_
        | refine TL_gval (rr_field FldC.fld rfl rfl) rfl rfl rfl rfl rfl ?_
        | refine TL_gval (rr_geq rfl rfl (decide_eq_true (by omega))) rfl rfl rfl rfl rfl ?_
        | refine TL_gval (rr_geq rfl rfl (decide_eq_false (by omega))) rfl rfl rfl rfl rfl ?_
        | refine TL_gval (rr_neq rfl rfl (decide_eq_true (by omega))) rfl rfl rfl rfl rfl ?_
        | refine TL_gval (rr_neq rfl rfl (decide_eq_false (by omega))) rfl rfl rfl rfl rfl ?_)
      exact E_ret1 rfl rfl fun w hm => hm.ret
    · by_cases c3 : tags.length = rows.length
      · rw [if_neg (by omega)]
        repeat (first
          | refine TL_val (rr_move rfl) rfl rfl rfl ?_
          | refine TL_val (rr_assign rfl) rfl rfl rfl ?_
          | refine TL_nil ?_
          | refine T_seq ?_
          | refine T_region ?_
          | refine T_condT rfl ?_
          | refine T_condF rfl ?_
          | refine T_skip ?_
          | refine T_exit ?_
          | refine T_ret ?_
          | refine T_block ?_
          | refine E_then ?_
          | refine E_thenX ?_
          | refine E_thenR ?_
          | refine E_blockN ?_
          | refine E_blockR ?_
          | refine E_blockX ?_
          | refine E_blockO rfl ?_
          | refine TL_val (rr_load1 TyC.ty rfl (at_blk (i := 0) rfl rfl)) rfl rfl rfl ?_
          | refine TL_val (rr_pickT rfl rfl) rfl rfl rfl ?_
          | refine TL_val (rr_pickF rfl rfl) rfl rfl rfl ?_
          | refine TL_val (rr_len Und.eq rfl) rfl rfl rfl ?_
          | refine TL_val (rr_field FldC.fld rfl rfl) rfl rfl rfl ?_
          | refine TL_val (rr_lss rfl rfl (decide_eq_true (by omega))) rfl rfl rfl ?_
          | refine TL_val (rr_lss rfl rfl (decide_eq_false (by omega))) rfl rfl rfl ?_
          | refine TL_val (rr_gtr rfl rfl (decide_eq_true (by omega))) rfl rfl rfl ?_
          | refine TL_val (rr_gtr rfl rfl (decide_eq_false (by omega))) rfl rfl rfl ?_
          | refine TL_val (rr_eql rfl rfl (decide_eq_true (by omega))) rfl rfl rfl ?_
          | refine TL_val (rr_eql rfl rfl (decide_eq_false (by omega))) rfl rfl rfl ?_
          | refine TL_val (rr_add64 rfl rfl (by omega) (by omega) rfl) rfl rfl rfl ?_
          | refine TL_skip rfl rfl rfl rfl rfl rfl ?_
          | refine TL_gval (rr_load1 TyC.ty rfl (at_blk (i := 0) rfl rfl)) rfl rfl rfl rfl rfl ?_
          | refine TL_gval (rr_move rfl) rfl rfl rfl rfl rfl ?_
          | refine TL_gval (rr_len Und.eq rfl) rfl rfl rfl rfl rfl ?_
          | refine TL_gval (rr_field FldC.fld rfl rfl) rfl rfl rfl rfl rfl ?_
          | refine TL_gval (rr_geq rfl rfl (decide_eq_true (by omega))) rfl rfl rfl rfl rfl ?_
          | refine TL_gval (rr_geq rfl rfl (decide_eq_false (by omega))) rfl rfl rfl rfl rfl ?_
          | refine TL_gval (rr_neq rfl rfl (decide_eq_true (by omega))) rfl rfl rfl rfl rfl ?_
          | refine TL_gval (rr_neq rfl rfl (decide_eq_false (by omega))) rfl rfl rfl rfl rfl ?_)
        refine T_loop (ι := Nat) (fun i => i ≤ rows.length ∧ ∀ j, j < i → rowBad rows.length (tags.getD j 0) (rows.getD j []) = false) (fun i => [(1, .pointer (some ⟨g, 0, none⟩)), (3, .int .i64 rows.length), (21, .int .i64 rows.length), (22, .int .i64 (i : Int))]) (fun _ => [blkO g #[.slice br rows.length cr, .slice bt tags.length ct] 25]) (fun i => rows.length - i) 0 ⟨by omega, fun j hj => by omega⟩ ⟨rfl, rfl, rfl, rfl, trivial⟩ rfl ?_
        rintro i ⟨h1, h2⟩
        by_cases c4 : i < rows.length
        · obtain ⟨b, off, rfl, hb⟩ := hr3 (by omega)
          obtain ⟨b', off', rfl, hb'⟩ := ht3 (by omega)
          have c4' : i < tags.length := by omega
          have hat := at_rdm (L := [blkO g #[.slice (some ⟨b, off, none⟩) rows.length cr, .slice (some ⟨b', off', none⟩) tags.length ct] 25]) hb' c4'
          obtain ⟨cs, hcs, hrow⟩ := hb i c4
          obtain ⟨q1, q2, q3⟩ := hcs
          have hti := htr i c4'
          have hta := int_at c4'
          have hra := row_at c4
          have hbad : ∀ (P : Prop), rowBad rows.length (tags.getD i 0) (rows.getD i []) = true → (if (List.range rows.length).any (fun i => rowBad rows.length (tags.getD i 0) (rows.getD i [])) = true then (1 : Int) else 0) = 1 := fun _ h => if_pos (any_range c4 h)
          rw [hta, hra] at hbad
          by_cases c5 : tags[i] < -1
          · rw [hbad True (by simp [rowBad, c5])]
            repeat (first
              | refine TL_val (rr_move rfl) rfl rfl rfl ?_
              | refine TL_val (rr_assign rfl) rfl rfl rfl ?_
              | refine TL_nil ?_
              | refine T_seq ?_
              | refine T_region ?_
              | refine T_condT rfl ?_
              | refine T_condF rfl ?_
              | refine T_skip ?_
              | refine T_exit ?_
              | refine T_ret ?_
              | refine T_block ?_
              | refine E_then ?_
              | refine E_thenX ?_
              | refine E_thenR ?_
              | refine E_blockN ?_
              | refine E_blockR ?_
              | refine E_blockX ?_
              | refine E_blockO rfl ?_
              | refine TL_val (rr_load1 TyC.ty rfl (at_blk (i := 0) rfl rfl)) rfl rfl rfl ?_
              | refine TL_val (rr_idx1 Und.eq TyC.ty rfl rfl c4') rfl rfl rfl ?_
              | refine TL_val (rr_load1 TyC.ty rfl hat) rfl rfl rfl ?_
              | refine TL_val (rr_pickT rfl rfl) rfl rfl rfl ?_
              | refine TL_val (rr_pickF rfl rfl) rfl rfl rfl ?_
              | refine TL_val (rr_len Und.eq rfl) rfl rfl rfl ?_
              | refine TL_val (rr_field FldC.fld rfl rfl) rfl rfl rfl ?_
              | refine TL_val (rr_lss rfl rfl (decide_eq_true (by omega))) rfl rfl rfl ?_
              | refine TL_val (rr_lss rfl rfl (decide_eq_false (by omega))) rfl rfl rfl ?_
              | refine TL_val (rr_gtr rfl rfl (decide_eq_true (by omega))) rfl rfl rfl ?_
              | refine TL_val (rr_gtr rfl rfl (decide_eq_false (by omega))) rfl rfl rfl ?_
              | refine TL_val (rr_eql rfl rfl (decide_eq_true (by omega))) rfl rfl rfl ?_
              | refine TL_val (rr_eql rfl rfl (decide_eq_false (by omega))) rfl rfl rfl ?_
              | refine TL_val (rr_add64 rfl rfl (by omega) (by omega) rfl) rfl rfl rfl ?_
              | refine TL_skip rfl rfl rfl rfl rfl rfl ?_
              | refine TL_gval (rr_load1 TyC.ty rfl (at_blk (i := 0) rfl rfl)) rfl rfl rfl rfl rfl ?_
              | refine TL_gval (rr_idx1 Und.eq TyC.ty rfl rfl c4') rfl rfl rfl rfl rfl ?_
              | refine TL_gval (rr_load1 TyC.ty rfl hat) rfl rfl rfl rfl rfl ?_
              | refine TL_gval (rr_move rfl) rfl rfl rfl rfl rfl ?_
              | refine TL_gval (rr_len Und.eq rfl) rfl rfl rfl rfl rfl ?_
              | refine TL_gval (rr_field FldC.fld rfl rfl) rfl rfl rfl rfl rfl ?_
              | refine TL_gval (rr_geq rfl rfl (decide_eq_true (by omega))) rfl rfl rfl rfl rfl ?_
              | refine TL_gval (rr_geq rfl rfl (decide_eq_false (by omega))) rfl rfl rfl rfl rfl ?_
              | refine TL_gval (rr_neq rfl rfl (decide_eq_true (by omega))) rfl rfl rfl rfl rfl ?_
              | refine TL_gval (rr_neq rfl rfl (decide_eq_false (by omega))) rfl rfl rfl rfl rfl ?_)
            exact E_ret1 rfl rfl fun w hm => hm.ret
          · by_cases c6 : 20 ≤ tags[i]
            · rw [hbad True (by simp [rowBad, c6])]
              repeat (first
                | refine TL_val (rr_move rfl) rfl rfl rfl ?_
                | refine TL_val (rr_assign rfl) rfl rfl rfl ?_
                | refine TL_nil ?_
                | refine T_seq ?_
                | refine T_region ?_
                | refine T_condT rfl ?_
                | refine T_condF rfl ?_
                | refine T_skip ?_
                | refine T_exit ?_
                | refine T_ret ?_
                | refine T_block ?_
                | refine E_then ?_
                | refine E_thenX ?_
                | refine E_thenR ?_
                | refine E_blockN ?_
                | refine E_blockR ?_
                | refine E_blockX ?_
                | refine E_blockO rfl ?_
                | refine TL_val (rr_load1 TyC.ty rfl (at_blk (i := 0) rfl rfl)) rfl rfl rfl ?_
                | refine TL_val (rr_idx1 Und.eq TyC.ty rfl rfl c4') rfl rfl rfl ?_
                | refine TL_val (rr_load1 TyC.ty rfl hat) rfl rfl rfl ?_
                | refine TL_val (rr_pickT rfl rfl) rfl rfl rfl ?_
                | refine TL_val (rr_pickF rfl rfl) rfl rfl rfl ?_
                | refine TL_val (rr_len Und.eq rfl) rfl rfl rfl ?_
                | refine TL_val (rr_field FldC.fld rfl rfl) rfl rfl rfl ?_
                | refine TL_val (rr_lss rfl rfl (decide_eq_true (by omega))) rfl rfl rfl ?_
                | refine TL_val (rr_lss rfl rfl (decide_eq_false (by omega))) rfl rfl rfl ?_
                | refine TL_val (rr_gtr rfl rfl (decide_eq_true (by omega))) rfl rfl rfl ?_
                | refine TL_val (rr_gtr rfl rfl (decide_eq_false (by omega))) rfl rfl rfl ?_
                | refine TL_val (rr_eql rfl rfl (decide_eq_true (by omega))) rfl rfl rfl ?_
                | refine TL_val (rr_eql rfl rfl (decide_eq_false (by omega))) rfl rfl rfl ?_
                | refine TL_val (rr_add64 rfl rfl (by omega) (by omega) rfl) rfl rfl rfl ?_
                | refine TL_skip rfl rfl rfl rfl rfl rfl ?_
                | refine TL_gval (rr_load1 TyC.ty rfl (at_blk (i := 0) rfl rfl)) rfl rfl rfl rfl rfl ?_
                | refine TL_gval (rr_idx1 Und.eq TyC.ty rfl rfl c4') rfl rfl rfl rfl rfl ?_
                | refine TL_gval (rr_load1 TyC.ty rfl hat) rfl rfl rfl rfl rfl ?_
                | refine TL_gval (rr_move rfl) rfl rfl rfl rfl rfl ?_
                | refine TL_gval (rr_len Und.eq rfl) rfl rfl rfl rfl rfl ?_
                | refine TL_gval (rr_field FldC.fld rfl rfl) rfl rfl rfl rfl rfl ?_
                | refine TL_gval (rr_geq rfl rfl (decide_eq_true (by omega))) rfl rfl rfl rfl rfl ?_
                | refine TL_gval (rr_geq rfl rfl (decide_eq_false (by omega))) rfl rfl rfl rfl rfl ?_
                | refine TL_gval (rr_neq rfl rfl (decide_eq_true (by omega))) rfl rfl rfl rfl rfl ?_
                | refine TL_gval (rr_neq rfl rfl (decide_eq_false (by omega))) rfl rfl rfl rfl rfl ?_)
              exact E_ret1 rfl rfl fun w hm => hm.ret
            · repeat (first
                | refine TL_val (rr_move rfl) rfl rfl rfl ?_
                | refine TL_val (rr_assign rfl) rfl rfl rfl ?_
                | refine TL_nil ?_
                | refine T_seq ?_
                | refine T_region ?_
                | refine T_condT rfl ?_
                | refine T_condF rfl ?_
                | refine T_skip ?_
                | refine T_exit ?_
                | refine T_ret ?_
                | refine T_block ?_
                | refine E_then ?_
                | refine E_thenX ?_
                | refine E_thenR ?_
                | refine E_blockN ?_
                | refine E_blockR ?_
                | refine E_blockX ?_
                | refine E_blockO rfl ?_
                | refine TL_val (rr_load1 TyC.ty rfl (at_blk (i := 0) rfl rfl)) rfl rfl rfl ?_
                | refine TL_val (rr_idx1 Und.eq TyC.ty rfl rfl c4') rfl rfl rfl ?_
                | refine TL_val (rr_load1 TyC.ty rfl hat) rfl rfl rfl ?_
                | refine TL_val (rr_idxc Und.eq TyC.ty rfl rfl c4) rfl rfl rfl ?_
                | refine TL_val (rr_loadN TyC.ty rfl (by rw [q2, List.length_map, q1]) (fun j v hj => at_rd hrow hj)) rfl rfl rfl ?_
                | refine TL_val (rr_pickT rfl rfl) rfl rfl rfl ?_
                | refine TL_val (rr_pickF rfl rfl) rfl rfl rfl ?_
                | refine TL_val (rr_len Und.eq rfl) rfl rfl rfl ?_
                | refine TL_val (rr_field FldC.fld rfl rfl) rfl rfl rfl ?_
                | refine TL_val (rr_lss rfl rfl (decide_eq_true (by omega))) rfl rfl rfl ?_
                | refine TL_val (rr_lss rfl rfl (decide_eq_false (by omega))) rfl rfl rfl ?_
                | refine TL_val (rr_gtr rfl rfl (decide_eq_true (by omega))) rfl rfl rfl ?_
                | refine TL_val (rr_gtr rfl rfl (decide_eq_false (by omega))) rfl rfl rfl ?_
                | refine TL_val (rr_eql rfl rfl (decide_eq_true (by omega))) rfl rfl rfl ?_
                | refine TL_val (rr_eql rfl rfl (decide_eq_false (by omega))) rfl rfl rfl ?_
                | refine TL_val (rr_add64 rfl rfl (by omega) (by omega) rfl) rfl rfl rfl ?_
                | refine TL_skip rfl rfl rfl rfl rfl rfl ?_
                | refine TL_gval (rr_load1 TyC.ty rfl (at_blk (i := 0) rfl rfl)) rfl rfl rfl rfl rfl ?_
                | refine TL_gval (rr_idx1 Und.eq TyC.ty rfl rfl c4') rfl rfl rfl rfl rfl ?_
                | refine TL_gval (rr_load1 TyC.ty rfl hat) rfl rfl rfl rfl rfl ?_
                | refine TL_gval (rr_idxc Und.eq TyC.ty rfl rfl c4) rfl rfl rfl rfl rfl ?_
                | refine TL_gval (rr_loadN TyC.ty rfl (by rw [q2, List.length_map, q1]) (fun j v hj => at_rd hrow hj)) rfl rfl rfl rfl rfl ?_
                | refine TL_gval (rr_move rfl) rfl rfl rfl rfl rfl ?_
                | refine TL_gval (rr_len Und.eq rfl) rfl rfl rfl rfl rfl ?_
                | refine TL_gval (rr_field FldC.fld rfl rfl) rfl rfl rfl rfl rfl ?_
                | refine TL_gval (rr_geq rfl rfl (decide_eq_true (by omega))) rfl rfl rfl rfl rfl ?_
                | refine TL_gval (rr_geq rfl rfl (decide_eq_false (by omega))) rfl rfl rfl rfl rfl ?_
                | refine TL_gval (rr_neq rfl rfl (decide_eq_true (by omega))) rfl rfl rfl rfl rfl ?_
                | refine TL_gval (rr_neq rfl rfl (decide_eq_false (by omega))) rfl rfl rfl rfl rfl ?_)
              refine T_loop (ι := Nat) (fun b => b ≤ 256 ∧ ∀ q, q < b → -1 ≤ rows[i].getD q 0 ∧ rows[i].getD q 0 < rows.length) (fun b => [(1, .pointer (some ⟨g, 0, none⟩)), (3, .int .i64 rows.length), (21, .int .i64 rows.length), (22, .int .i64 (i : Int)), (43, .agg cs.toArray), (44, .int .i64 (b : Int))]) (fun _ => [blkO g #[.slice (some ⟨b, off, none⟩) rows.length cr, .slice (some ⟨b', off', none⟩) tags.length ct] 25]) (fun b => 256 - b) 0 ⟨by omega, fun q hq => by omega⟩ ⟨rfl, rfl, rfl, rfl, rfl, rfl, trivial⟩ rfl ?_
              rintro q ⟨k1, k2⟩
              by_cases c7 : q < 256
              · have hql : q < rows[i].length := by omega
                have hqv := int_at hql
                have hcell : cs.toArray[q]? = some (.int .i16 rows[i][q]) := by rw [q2]; simp [hql]
                have hq3 := q3 _ (List.getElem_mem hql)
                have hmem : rows[i][q] ∈ rows[i] := List.getElem_mem hql
                generalize rows[i][q] = z at *
                by_cases c8 : z < -1
                · rw [hbad True (by simp only [rowBad, Bool.or_eq_true, List.any_eq_true]; exact .inr ⟨z, hmem, by simp [c8]⟩)]
                  clear k2 h2 hr3 ht3
                  repeat (first
                    | refine TL_val (rr_move rfl) rfl rfl rfl ?_
                    | refine TL_val (rr_assign rfl) rfl rfl rfl ?_
                    | refine TL_nil ?_
                    | refine T_seq ?_
                    | refine T_region ?_
                    | refine T_condT rfl ?_
                    | refine T_condF rfl ?_
                    | refine T_skip ?_
                    | refine T_exit ?_
                    | refine T_ret ?_
                    | refine T_block ?_
                    | refine E_then ?_
                    | refine E_thenX ?_
                    | refine E_thenR ?_
                    | refine E_blockN ?_
                    | refine E_blockR ?_
                    | refine E_blockX ?_
                    | refine E_blockO rfl ?_
                    | refine TL_val (rr_arridx Und.eq TyC.ty rfl rfl c7 hcell) rfl rfl rfl ?_
                    | refine TL_val (rr_pickT rfl rfl) rfl rfl rfl ?_
                    | refine TL_val (rr_pickF rfl rfl) rfl rfl rfl ?_
                    | refine TL_val (rr_len Und.eq rfl) rfl rfl rfl ?_
                    | refine TL_val (rr_field FldC.fld rfl rfl) rfl rfl rfl ?_
                    | refine TL_val (rr_lss rfl rfl (decide_eq_true (by omega))) rfl rfl rfl ?_
                    | refine TL_val (rr_lss rfl rfl (decide_eq_false (by omega))) rfl rfl rfl ?_
                    | refine TL_val (rr_gtr rfl rfl (decide_eq_true (by omega))) rfl rfl rfl ?_
                    | refine TL_val (rr_gtr rfl rfl (decide_eq_false (by omega))) rfl rfl rfl ?_
                    | refine TL_val (rr_eql rfl rfl (decide_eq_true (by omega))) rfl rfl rfl ?_
                    | refine TL_val (rr_eql rfl rfl (decide_eq_false (by omega))) rfl rfl rfl ?_
                    | refine TL_val (rr_add64 rfl rfl (by omega) (by omega) rfl) rfl rfl rfl ?_
                    | refine TL_skip rfl rfl rfl rfl rfl rfl ?_
                    | refine TL_gval (rr_conv Und.eq Und.eq rfl (wrap_in (by omega) (by omega))) rfl rfl rfl rfl rfl ?_
                    | refine TL_gval (rr_move rfl) rfl rfl rfl rfl rfl ?_
                    | refine TL_gval (rr_len Und.eq rfl) rfl rfl rfl rfl rfl ?_
                    | refine TL_gval (rr_field FldC.fld rfl rfl) rfl rfl rfl rfl rfl ?_
                    | refine TL_gval (rr_geq rfl rfl (decide_eq_true (by omega))) rfl rfl rfl rfl rfl ?_
                    | refine TL_gval (rr_geq rfl rfl (decide_eq_false (by omega))) rfl rfl rfl rfl rfl ?_
                    | refine TL_gval (rr_neq rfl rfl (decide_eq_true (by omega))) rfl rfl rfl rfl rfl ?_
                    | refine TL_gval (rr_neq rfl rfl (decide_eq_false (by omega))) rfl rfl rfl rfl rfl ?_)
                  exact E_ret1 rfl rfl fun w hm => hm.ret
                · by_cases c9 : (rows.length : Int) ≤ z
                  · rw [hbad True (by simp only [rowBad, Bool.or_eq_true, List.any_eq_true]; exact .inr ⟨z, hmem, by simp [c9]⟩)]
                    clear k2 h2 hr3 ht3
                    repeat (first
                      | refine TL_val (rr_move rfl) rfl rfl rfl ?_
                      | refine TL_val (rr_assign rfl) rfl rfl rfl ?_
                      | refine TL_nil ?_
                      | refine T_seq ?_
                      | refine T_region ?_
                      | refine T_condT rfl ?_
                      | refine T_condF rfl ?_
                      | refine T_skip ?_
                      | refine T_exit ?_
                      | refine T_ret ?_
                      | refine T_block ?_
                      | refine E_then ?_
                      | refine E_thenX ?_
                      | refine E_thenR ?_
                      | refine E_blockN ?_
                      | refine E_blockR ?_
                      | refine E_blockX ?_
                      | refine E_blockO rfl ?_
                      | refine TL_val (rr_arridx Und.eq TyC.ty rfl rfl c7 hcell) rfl rfl rfl ?_
                      | refine TL_val (rr_pickT rfl rfl) rfl rfl rfl ?_
                      | refine TL_val (rr_pickF rfl rfl) rfl rfl rfl ?_
                      | refine TL_val (rr_len Und.eq rfl) rfl rfl rfl ?_
                      | refine TL_val (rr_field FldC.fld rfl rfl) rfl rfl rfl ?_
                      | refine TL_val (rr_lss rfl rfl (decide_eq_true (by omega))) rfl rfl rfl ?_
                      | refine TL_val (rr_lss rfl rfl (decide_eq_false (by omega))) rfl rfl rfl ?_
                      | refine TL_val (rr_gtr rfl rfl (decide_eq_true (by omega))) rfl rfl rfl ?_
                      | refine TL_val (rr_gtr rfl rfl (decide_eq_false (by omega))) rfl rfl rfl ?_
                      | refine TL_val (rr_eql rfl rfl (decide_eq_true (by omega))) rfl rfl rfl ?_
                      | refine TL_val (rr_eql rfl rfl (decide_eq_false (by omega))) rfl rfl rfl ?_
                      | refine TL_val (rr_add64 rfl rfl (by omega) (by omega) rfl) rfl rfl rfl ?_
                      | refine TL_skip rfl rfl rfl rfl rfl rfl ?_
                      | refine TL_gval (rr_conv Und.eq Und.eq rfl (wrap_in (by omega) (by omega))) rfl rfl rfl rfl rfl ?_
                      | refine TL_gval (rr_move rfl) rfl rfl rfl rfl rfl ?_
                      | refine TL_gval (rr_len Und.eq rfl) rfl rfl rfl rfl rfl ?_
                      | refine TL_gval (rr_field FldC.fld rfl rfl) rfl rfl rfl rfl rfl ?_
                      | refine TL_gval (rr_geq rfl rfl (decide_eq_true (by omega))) rfl rfl rfl rfl rfl ?_
                      | refine TL_gval (rr_geq rfl rfl (decide_eq_false (by omega))) rfl rfl rfl rfl rfl ?_
                      | refine TL_gval (rr_neq rfl rfl (decide_eq_true (by omega))) rfl rfl rfl rfl rfl ?_
                      | refine TL_gval (rr_neq rfl rfl (decide_eq_false (by omega))) rfl rfl rfl rfl rfl ?_)
                    exact E_ret1 rfl rfl fun w hm => hm.ret
                  · repeat (first
                      | refine TL_val (rr_move rfl) rfl rfl rfl ?_
                      | refine TL_val (rr_assign rfl) rfl rfl rfl ?_
                      | refine TL_nil ?_
                      | refine T_seq ?_
                      | refine T_region ?_
                      | refine T_condT rfl ?_
                      | refine T_condF rfl ?_
                      | refine T_skip ?_
                      | refine T_exit ?_
                      | refine T_ret ?_
                      | refine T_block ?_
                      | refine E_then ?_
                      | refine E_thenX ?_
                      | refine E_thenR ?_
                      | refine E_blockN ?_
                      | refine E_blockR ?_
                      | refine E_blockX ?_
                      | refine E_blockO rfl ?_
                      | refine TL_val (rr_arridx Und.eq TyC.ty rfl rfl c7 hcell) rfl rfl rfl ?_
                      | refine TL_val (rr_pickT rfl rfl) rfl rfl rfl ?_
                      | refine TL_val (rr_pickF rfl rfl) rfl rfl rfl ?_
                      | refine TL_val (rr_len Und.eq rfl) rfl rfl rfl ?_
                      | refine TL_val (rr_field FldC.fld rfl rfl) rfl rfl rfl ?_
                      | refine TL_val (rr_lss rfl rfl (decide_eq_true (by omega))) rfl rfl rfl ?_
                      | refine TL_val (rr_lss rfl rfl (decide_eq_false (by omega))) rfl rfl rfl ?_
                      | refine TL_val (rr_gtr rfl rfl (decide_eq_true (by omega))) rfl rfl rfl ?_
                      | refine TL_val (rr_gtr rfl rfl (decide_eq_false (by omega))) rfl rfl rfl ?_
                      | refine TL_val (rr_eql rfl rfl (decide_eq_true (by omega))) rfl rfl rfl ?_
                      | refine TL_val (rr_eql rfl rfl (decide_eq_false (by omega))) rfl rfl rfl ?_
                      | refine TL_val (rr_add64 rfl rfl (by omega) (by omega) rfl) rfl rfl rfl ?_
                      | refine TL_skip rfl rfl rfl rfl rfl rfl ?_
                      | refine TL_gval (rr_conv Und.eq Und.eq rfl (wrap_in (by omega) (by omega))) rfl rfl rfl rfl rfl ?_
                      | refine TL_gval (rr_move rfl) rfl rfl rfl rfl rfl ?_
                      | refine TL_gval (rr_len Und.eq rfl) rfl rfl rfl rfl rfl ?_
                      | refine TL_gval (rr_field FldC.fld rfl rfl) rfl rfl rfl rfl rfl ?_
                      | refine TL_gval (rr_geq rfl rfl (decide_eq_true (by omega))) rfl rfl rfl rfl rfl ?_
                      | refine TL_gval (rr_geq rfl rfl (decide_eq_false (by omega))) rfl rfl rfl rfl rfl ?_
                      | refine TL_gval (rr_neq rfl rfl (decide_eq_true (by omega))) rfl rfl rfl rfl rfl ?_
                      | refine TL_gval (rr_neq rfl rfl (decide_eq_false (by omega))) rfl rfl rfl rfl rfl ?_)
                    exact E_round (q + 1) ⟨by omega, fun q' hq' => if e : q' < q then k2 q' e else (by obtain rfl : q' = q := (by omega); rw [hqv]; omega)⟩ (by show 256 - (q + 1) < 256 - q; omega) ⟨rfl, rfl, rfl, rfl, rfl, rfl, trivial⟩ rfl
              · have hgood : rowBad rows.length (tags.getD i 0) (rows.getD i []) = false := by
                  rw [hta, hra]
                  simp only [rowBad, Bool.or_eq_false_iff, decide_eq_false_iff_not, List.any_eq_false, Bool.not_eq_true]
                  refine ⟨⟨c5, c6⟩, fun z hz => ?_⟩
                  obtain ⟨q', hq', rfl⟩ := List.mem_iff_getElem.1 hz
                  have := k2 q' (by omega)
                  rw [int_at hq'] at this
                  simp; omega
                repeat (first
                  | refine TL_val (rr_move rfl) rfl rfl rfl ?_
                  | refine TL_val (rr_assign rfl) rfl rfl rfl ?_
                  | refine TL_nil ?_
                  | refine T_seq ?_
                  | refine T_region ?_
                  | refine T_condT rfl ?_
                  | refine T_condF rfl ?_
                  | refine T_skip ?_
                  | refine T_exit ?_
                  | refine T_ret ?_
                  | refine T_block ?_
                  | refine E_then ?_
                  | refine E_thenX ?_
                  | refine E_thenR ?_
                  | refine E_blockN ?_
                  | refine E_blockR ?_
                  | refine E_blockX ?_
                  | refine E_blockO rfl ?_
                  | refine TL_val (rr_pickT rfl rfl) rfl rfl rfl ?_
                  | refine TL_val (rr_pickF rfl rfl) rfl rfl rfl ?_
                  | refine TL_val (rr_len Und.eq rfl) rfl rfl rfl ?_
                  | refine TL_val (rr_field FldC.fld rfl rfl) rfl rfl rfl ?_
                  | refine TL_val (rr_lss rfl rfl (decide_eq_true (by omega))) rfl rfl rfl ?_
                  | refine TL_val (rr_lss rfl rfl (decide_eq_false (by omega))) rfl rfl rfl ?_
                  | refine TL_val (rr_gtr rfl rfl (decide_eq_true (by omega))) rfl rfl rfl ?_
                  | refine TL_val (rr_gtr rfl rfl (decide_eq_false (by omega))) rfl rfl rfl ?_
                  | refine TL_val (rr_eql rfl rfl (decide_eq_true (by omega))) rfl rfl rfl ?_
                  | refine TL_val (rr_eql rfl rfl (decide_eq_false (by omega))) rfl rfl rfl ?_
                  | refine TL_val (rr_add64 rfl rfl (by omega) (by omega) rfl) rfl rfl rfl ?_
                  | refine TL_skip rfl rfl rfl rfl rfl rfl ?_
                  | refine TL_gval (rr_move rfl) rfl rfl rfl rfl rfl ?_
                  | refine TL_gval (rr_len Und.eq rfl) rfl rfl rfl rfl rfl ?_
                  | refine TL_gval (rr_field FldC.fld rfl rfl) rfl rfl rfl rfl rfl ?_
                  | refine TL_gval (rr_geq rfl rfl (decide_eq_true (by omega))) rfl rfl rfl rfl rfl ?_
                  | refine TL_gval (rr_geq rfl rfl (decide_eq_false (by omega))) rfl rfl rfl rfl rfl ?_
                  | refine TL_gval (rr_neq rfl rfl (decide_eq_true (by omega))) rfl rfl rfl rfl rfl ?_
                  | refine TL_gval (rr_neq rfl rfl (decide_eq_false (by omega))) rfl rfl rfl rfl rfl ?_)
                exact E_round (i + 1) ⟨by omega, fun j hj => if e : j < i then h2 j e else (by obtain rfl : j = i := (by omega); exact hgood)⟩ (by show rows.length - (i + 1) < rows.length - i; omega) ⟨rfl, rfl, rfl, rfl, trivial⟩ rfl
        · have hno : ¬ (List.range rows.length).any (fun i => rowBad rows.length (tags.getD i 0) (rows.getD i [])) = true := by
            simp only [List.any_eq_true, List.mem_range, not_exists, not_and]
            intro j hj; rw [h2 j (by omega)]; simp
          rw [if_neg hno]
          repeat (first
            | refine TL_val (rr_move rfl) rfl rfl rfl ?_
            | refine TL_val (rr_assign rfl) rfl rfl rfl ?_
            | refine TL_nil ?_
            | refine T_seq ?_
            | refine T_region ?_
            | refine T_condT rfl ?_
            | refine T_condF rfl ?_
            | refine T_skip ?_
            | refine T_exit ?_
            | refine T_ret ?_
            | refine T_block ?_
            | refine E_then ?_
            | refine E_thenX ?_
            | refine E_thenR ?_
            | refine E_blockN ?_
            | refine E_blockR ?_
            | refine E_blockX ?_
            | refine E_blockO rfl ?_
            | refine TL_val (rr_pickT rfl rfl) rfl rfl rfl ?_
            | refine TL_val (rr_pickF rfl rfl) rfl rfl rfl ?_
            | refine TL_val (rr_len Und.eq rfl) rfl rfl rfl ?_
            | refine TL_val (rr_field FldC.fld rfl rfl) rfl rfl rfl ?_
            | refine TL_val (rr_lss rfl rfl (decide_eq_true (by omega))) rfl rfl rfl ?_
            | refine TL_val (rr_lss rfl rfl (decide_eq_false (by omega))) rfl rfl rfl ?_
            | refine TL_val (rr_gtr rfl rfl (decide_eq_true (by omega))) rfl rfl rfl ?_
            | refine TL_val (rr_gtr rfl rfl (decide_eq_false (by omega))) rfl rfl rfl ?_
            | refine TL_val (rr_eql rfl rfl (decide_eq_true (by omega))) rfl rfl rfl ?_
            | refine TL_val (rr_eql rfl rfl (decide_eq_false (by omega))) rfl rfl rfl ?_
            | refine TL_val (rr_add64 rfl rfl (by omega) (by omega) rfl) rfl rfl rfl ?_
            | refine TL_skip rfl rfl rfl rfl rfl rfl ?_
            | refine TL_gval (rr_move rfl) rfl rfl rfl rfl rfl ?_
            | refine TL_gval (rr_len Und.eq rfl) rfl rfl rfl rfl rfl ?_
            | refine TL_gval (rr_field FldC.fld rfl rfl) rfl rfl rfl rfl rfl ?_
            | refine TL_gval (rr_geq rfl rfl (decide_eq_true (by omega))) rfl rfl rfl rfl rfl ?_
            | refine TL_gval (rr_geq rfl rfl (decide_eq_false (by omega))) rfl rfl rfl rfl rfl ?_
            | refine TL_gval (rr_neq rfl rfl (decide_eq_true (by omega))) rfl rfl rfl rfl rfl ?_
            | refine TL_gval (rr_neq rfl rfl (decide_eq_false (by omega))) rfl rfl rfl rfl rfl ?_)
          exact E_ret1 rfl rfl fun w hm => hm.ret
      · rw [if_pos (.inr c3)]
        repeat (first
          | refine TL_val (rr_move rfl) rfl rfl rfl ?_
          | refine TL_val (rr_assign rfl) rfl rfl rfl ?_
          | refine TL_nil ?_
          | refine T_seq ?_
          | refine T_region ?_
          | refine T_condT rfl ?_
          | refine T_condF rfl ?_
          | refine T_skip ?_
          | refine T_exit ?_
          | refine T_ret ?_
          | refine T_block ?_
          | refine E_then ?_
          | refine E_thenX ?_
          | refine E_thenR ?_
          | refine E_blockN ?_
          | refine E_blockR ?_
          | refine E_blockX ?_
          | refine E_blockO rfl ?_
          | refine TL_val (rr_load1 TyC.ty rfl (at_blk (i := 0) rfl rfl)) rfl rfl rfl ?_
          | refine TL_val (rr_pickT rfl rfl) rfl rfl rfl ?_
          | refine TL_val (rr_pickF rfl rfl) rfl rfl rfl ?_
          | refine TL_val (rr_len Und.eq rfl) rfl rfl rfl ?_
          | refine TL_val (rr_field FldC.fld rfl rfl) rfl rfl rfl ?_
          | refine TL_val (rr_lss rfl rfl (decide_eq_true (by omega))) rfl rfl rfl ?_
          | refine TL_val (rr_lss rfl rfl (decide_eq_false (by omega))) rfl rfl rfl ?_
          | refine TL_val (rr_gtr rfl rfl (decide_eq_true (by omega))) rfl rfl rfl ?_
          | refine TL_val (rr_gtr rfl rfl (decide_eq_false (by omega))) rfl rfl rfl ?_
          | refine TL_val (rr_eql rfl rfl (decide_eq_true (by omega))) rfl rfl rfl ?_
          | refine TL_val (rr_eql rfl rfl (decide_eq_false (by omega))) rfl rfl rfl ?_
          | refine TL_val (rr_add64 rfl rfl (by omega) (by omega) rfl) rfl rfl rfl ?_
          | refine TL_skip rfl rfl rfl rfl rfl rfl ?_
          | refine TL_gval (rr_load1 TyC.ty rfl (at_blk (i := 0) rfl rfl)) rfl rfl rfl rfl rfl ?_
          | refine TL_gval (rr_move rfl) rfl rfl rfl rfl rfl ?_
          | refine TL_gval (rr_len Und.eq rfl) rfl rfl rfl rfl rfl ?_
          | refine TL_gval (rr_field FldC.fld rfl rfl) rfl rfl rfl rfl rfl ?_
          | refine TL_gval (rr_geq rfl rfl (decide_eq_true (by omega))) rfl rfl rfl rfl rfl ?_
          | refine TL_gval (rr_geq rfl rfl (decide_eq_false (by omega))) rfl rfl rfl rfl rfl ?_
          | refine TL_gval (rr_neq rfl rfl (decide_eq_true (by omega))) rfl rfl rfl rfl rfl ?_
          | refine TL_gval (rr_neq rfl rfl (decide_eq_false (by omega))) rfl rfl rfl rfl rfl ?_)
        exact E_ret1 rfl rfl fun w hm => hm.ret
end Go.Proofs.Ytbiacehgfmgfdaa.eng
