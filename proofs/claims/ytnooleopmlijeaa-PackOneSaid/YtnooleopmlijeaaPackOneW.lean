/- The walk of PackOne. -/
import Derived.Test.YtnooleopmlijeaaPackU
import Derived.Test.YtnooleopmlijeaaPackS
namespace Go.Proofs.Ytnooleopmlijeaa.packOne
open Go.RowKit kit mix packL eng
theorem known : readF [128, 1] = (128, 2, 0) := by decide +kernel
set_option maxHeartbeats 4000000 in
theorem walk (w : World) (s : List UInt8) (hs : s.length ≤ 140737488351232) :
    Calls Try.prog 4 #[str s] w (Meets (ret (.bool true)) w) := by
  refine enter (args := [str s]) (n := 104) Try.func4 rfl rfl rfl ?_
  have hk := readNum_calls [128, 1]
  rw [known] at hk
  have hn := readNum_calls s
  have ht := readText_calls s
  have hl := readList_calls s
  unfold triV at hn hk
  unfold tripV at ht
  dsimp only at hk
  have hcn : (readF s).2.2 = 0 → (readF s).1 < 18446744073709551616 ∧ (readF s).2.1 ≤ s.length ∧ numL (readF s).1 = s.take (readF s).2.1 := fun h => by
    have hb := readF_back (s := s) (n := (readF s).1) (k := (readF s).2.1) (Prod.ext rfl (Prod.ext rfl h))
    exact ⟨hb.1, hb.2.1, hb.2.2.1⟩
  have hct := readText_back (s := s)
  have hcl := readList_back (s := s)
  have hce := readList_err (s := s)
  generalize readF s = rn at *
  generalize readTextF s = rt at *
  generalize readListF s = rl at *
  obtain ⟨x, k, e⟩ := rn
  obtain ⟨t, k', e'⟩ := rt
  obtain ⟨l, e''⟩ := rl
  dsimp only at *
  repeat (first
    | refine TL_val (rr_move rfl) rfl rfl rfl ?_
    | refine TL_val (rr_assign rfl) rfl rfl rfl ?_
    | refine TL_nil ?_
    | refine T_seq ?_
    | refine T_region ?_
    | refine T_condT rfl ?_
    | refine T_condF rfl ?_
    | refine T_skip ?_
    | refine T_ret ?_
    | refine E_then ?_
    | refine E_thenR ?_
    | refine TL_val (rr_extract rfl rfl) rfl rfl rfl ?_
    | refine TL_val (rr_pickT rfl rfl) rfl rfl rfl ?_
    | refine TL_val (rr_pickF rfl rfl) rfl rfl rfl ?_
    | refine TL_val (rr_len Und.eq rfl) rfl rfl rfl ?_
    | refine TL_val (rr_eql rfl rfl (decide_eq_true (by omega))) rfl rfl rfl ?_
    | refine TL_val (rr_eql rfl rfl (decide_eq_false (by omega))) rfl rfl rfl ?_
    | refine TL_val (rr_neq rfl rfl (decide_eq_true (by omega))) rfl rfl rfl ?_
    | refine TL_val (rr_neq rfl rfl (decide_eq_false (by omega))) rfl rfl rfl ?_
    | refine TL_skip rfl rfl rfl rfl rfl rfl ?_
    | refine TL_gval (rr_move rfl) rfl rfl rfl rfl rfl ?_
    | refine TL_gval (rr_pickT rfl rfl) rfl rfl rfl rfl rfl ?_
    | refine TL_gval (rr_pickF rfl rfl) rfl rfl rfl rfl rfl ?_
    | refine TL_gval (rr_strlen Und.eq rfl) rfl rfl rfl rfl rfl ?_
    | refine TL_gval (rr_gtr rfl rfl (decide_eq_true (by omega))) rfl rfl rfl rfl rfl ?_
    | refine TL_gval (rr_gtr rfl rfl (decide_eq_false (by omega))) rfl rfl rfl rfl rfl ?_
    | refine TL_gval (rr_neq rfl rfl (decide_eq_true (by omega))) rfl rfl rfl rfl rfl ?_
    | refine TL_gval (rr_neq rfl rfl (decide_eq_false (by omega))) rfl rfl rfl rfl rfl ?_)
  refine TL_call (he1 EntersC.en rfl rfl) (fun w hm => hk w (by decide)) rfl rfl rfl ?_
  intro _ _
  repeat (first
    | refine TL_val (rr_move rfl) rfl rfl rfl ?_
    | refine TL_val (rr_assign rfl) rfl rfl rfl ?_
    | refine TL_nil ?_
    | refine T_seq ?_
    | refine T_region ?_
    | refine T_condT rfl ?_
    | refine T_condF rfl ?_
    | refine T_skip ?_
    | refine T_ret ?_
    | refine E_then ?_
    | refine E_thenR ?_
    | refine TL_val (rr_extract rfl rfl) rfl rfl rfl ?_
    | refine TL_val (rr_pickT rfl rfl) rfl rfl rfl ?_
    | refine TL_val (rr_pickF rfl rfl) rfl rfl rfl ?_
    | refine TL_val (rr_len Und.eq rfl) rfl rfl rfl ?_
    | refine TL_val (rr_eql rfl rfl (decide_eq_true (by omega))) rfl rfl rfl ?_
    | refine TL_val (rr_eql rfl rfl (decide_eq_false (by omega))) rfl rfl rfl ?_
    | refine TL_val (rr_neq rfl rfl (decide_eq_true (by omega))) rfl rfl rfl ?_
    | refine TL_val (rr_neq rfl rfl (decide_eq_false (by omega))) rfl rfl rfl ?_
    | refine TL_skip rfl rfl rfl rfl rfl rfl ?_
    | refine TL_gval (rr_move rfl) rfl rfl rfl rfl rfl ?_
    | refine TL_gval (rr_pickT rfl rfl) rfl rfl rfl rfl rfl ?_
    | refine TL_gval (rr_pickF rfl rfl) rfl rfl rfl rfl rfl ?_
    | refine TL_gval (rr_strlen Und.eq rfl) rfl rfl rfl rfl rfl ?_
    | refine TL_gval (rr_gtr rfl rfl (decide_eq_true (by omega))) rfl rfl rfl rfl rfl ?_
    | refine TL_gval (rr_gtr rfl rfl (decide_eq_false (by omega))) rfl rfl rfl rfl rfl ?_
    | refine TL_gval (rr_neq rfl rfl (decide_eq_true (by omega))) rfl rfl rfl rfl rfl ?_
    | refine TL_gval (rr_neq rfl rfl (decide_eq_false (by omega))) rfl rfl rfl rfl rfl ?_)
  refine TL_call (he1 EntersC.en rfl rfl) (fun w hm => hn w (by omega)) rfl rfl rfl ?_
  intro _ _
  clear hk hn
  repeat (first
    | refine TL_val (rr_move rfl) rfl rfl rfl ?_
    | refine TL_val (rr_assign rfl) rfl rfl rfl ?_
    | refine TL_nil ?_
    | refine T_seq ?_
    | refine T_region ?_
    | refine T_condT rfl ?_
    | refine T_condF rfl ?_
    | refine T_skip ?_
    | refine T_ret ?_
    | refine E_then ?_
    | refine E_thenR ?_
    | refine TL_val (rr_extract rfl rfl) rfl rfl rfl ?_
    | refine TL_val (rr_pickT rfl rfl) rfl rfl rfl ?_
    | refine TL_val (rr_pickF rfl rfl) rfl rfl rfl ?_
    | refine TL_val (rr_len Und.eq rfl) rfl rfl rfl ?_
    | refine TL_val (rr_eql rfl rfl (decide_eq_true (by omega))) rfl rfl rfl ?_
    | refine TL_val (rr_eql rfl rfl (decide_eq_false (by omega))) rfl rfl rfl ?_
    | refine TL_val (rr_neq rfl rfl (decide_eq_true (by omega))) rfl rfl rfl ?_
    | refine TL_val (rr_neq rfl rfl (decide_eq_false (by omega))) rfl rfl rfl ?_
    | refine TL_skip rfl rfl rfl rfl rfl rfl ?_
    | refine TL_gval (rr_move rfl) rfl rfl rfl rfl rfl ?_
    | refine TL_gval (rr_pickT rfl rfl) rfl rfl rfl rfl rfl ?_
    | refine TL_gval (rr_pickF rfl rfl) rfl rfl rfl rfl rfl ?_
    | refine TL_gval (rr_strlen Und.eq rfl) rfl rfl rfl rfl rfl ?_
    | refine TL_gval (rr_gtr rfl rfl (decide_eq_true (by omega))) rfl rfl rfl rfl rfl ?_
    | refine TL_gval (rr_gtr rfl rfl (decide_eq_false (by omega))) rfl rfl rfl rfl rfl ?_
    | refine TL_gval (rr_neq rfl rfl (decide_eq_true (by omega))) rfl rfl rfl rfl rfl ?_
    | refine TL_gval (rr_neq rfl rfl (decide_eq_false (by omega))) rfl rfl rfl rfl rfl ?_)
  by_cases c1 : e = 0
  · obtain ⟨a1, a2, a3⟩ := hcn c1
    subst c1
    refine T_draw 15 (List.replicate 15 true) rfl (by kernel_rfl) (by kernel_rfl) (by intro c a d v w h; cases d <;> exact h) ?_
    repeat (first
      | refine TM_val (rr_move rfl) rfl rfl rfl ?_
      | refine TM_val (rr_assign rfl) rfl rfl rfl ?_
      | refine TM_val (rr_extract rfl rfl) rfl rfl rfl ?_
      | refine TM_val (rr_pickT rfl rfl) rfl rfl rfl ?_
      | refine TM_val (rr_pickF rfl rfl) rfl rfl rfl ?_
      | refine TM_val (rr_len Und.eq rfl) rfl rfl rfl ?_
      | refine TM_val (rr_eql rfl rfl (decide_eq_true (by omega))) rfl rfl rfl ?_
      | refine TM_val (rr_eql rfl rfl (decide_eq_false (by omega))) rfl rfl rfl ?_
      | refine TM_val (rr_neq rfl rfl (decide_eq_true (by omega))) rfl rfl rfl ?_
      | refine TM_val (rr_neq rfl rfl (decide_eq_false (by omega))) rfl rfl rfl ?_
      | refine TM_skip rfl rfl rfl rfl rfl rfl ?_
      | refine TM_gval (rr_move rfl) rfl rfl rfl rfl rfl ?_
      | refine TM_gval (rr_pickT rfl rfl) rfl rfl rfl rfl rfl ?_
      | refine TM_gval (rr_pickF rfl rfl) rfl rfl rfl rfl rfl ?_
      | refine TM_gval (rr_strlen Und.eq rfl) rfl rfl rfl rfl rfl ?_
      | refine TM_gval (rr_gtr rfl rfl (decide_eq_true (by omega))) rfl rfl rfl rfl rfl ?_
      | refine TM_gval (rr_gtr rfl rfl (decide_eq_false (by omega))) rfl rfl rfl rfl rfl ?_
      | refine TM_gval (rr_neq rfl rfl (decide_eq_true (by omega))) rfl rfl rfl rfl rfl ?_
      | refine TM_gval (rr_neq rfl rfl (decide_eq_false (by omega))) rfl rfl rfl rfl rfl ?_
      | refine TM_end ?_)
    refine TM_gcall (he1 EntersC.en rfl rfl) (fun w hm => num_calls x _ a1) rfl rfl rfl rfl rfl ?_
    repeat (first
      | refine TM_val (rr_move rfl) rfl rfl rfl ?_
      | refine TM_val (rr_assign rfl) rfl rfl rfl ?_
      | refine TM_val (rr_extract rfl rfl) rfl rfl rfl ?_
      | refine TM_val (rr_pickT rfl rfl) rfl rfl rfl ?_
      | refine TM_val (rr_pickF rfl rfl) rfl rfl rfl ?_
      | refine TM_val (rr_len Und.eq rfl) rfl rfl rfl ?_
      | refine TM_val (rr_eql rfl rfl (decide_eq_true (by omega))) rfl rfl rfl ?_
      | refine TM_val (rr_eql rfl rfl (decide_eq_false (by omega))) rfl rfl rfl ?_
      | refine TM_val (rr_neq rfl rfl (decide_eq_true (by omega))) rfl rfl rfl ?_
      | refine TM_val (rr_neq rfl rfl (decide_eq_false (by omega))) rfl rfl rfl ?_
      | refine TM_skip rfl rfl rfl rfl rfl rfl ?_
      | refine TM_gval (rr_strupto Und.eq rfl rfl a2) rfl rfl rfl rfl rfl ?_
      | refine TM_gval (rr_strne rfl rfl (decide_eq_false (by simpa using a3))) rfl rfl rfl rfl rfl ?_
      | refine TM_gval (rr_move rfl) rfl rfl rfl rfl rfl ?_
      | refine TM_gval (rr_pickT rfl rfl) rfl rfl rfl rfl rfl ?_
      | refine TM_gval (rr_pickF rfl rfl) rfl rfl rfl rfl rfl ?_
      | refine TM_gval (rr_strlen Und.eq rfl) rfl rfl rfl rfl rfl ?_
      | refine TM_gval (rr_gtr rfl rfl (decide_eq_true (by omega))) rfl rfl rfl rfl rfl ?_
      | refine TM_gval (rr_gtr rfl rfl (decide_eq_false (by omega))) rfl rfl rfl rfl rfl ?_
      | refine TM_gval (rr_neq rfl rfl (decide_eq_true (by omega))) rfl rfl rfl rfl rfl ?_
      | refine TM_gval (rr_neq rfl rfl (decide_eq_false (by omega))) rfl rfl rfl rfl rfl ?_
      | refine TM_end ?_)
    repeat (first
      | refine TL_val (rr_move rfl) rfl rfl rfl ?_
      | refine TL_val (rr_assign rfl) rfl rfl rfl ?_
      | refine TL_nil ?_
      | refine T_seq ?_
      | refine T_region ?_
      | refine T_condT rfl ?_
      | refine T_condF rfl ?_
      | refine T_skip ?_
      | refine T_ret ?_
      | refine E_then ?_
      | refine E_thenR ?_
      | refine TL_val (rr_extract rfl rfl) rfl rfl rfl ?_
      | refine TL_val (rr_pickT rfl rfl) rfl rfl rfl ?_
      | refine TL_val (rr_pickF rfl rfl) rfl rfl rfl ?_
      | refine TL_val (rr_len Und.eq rfl) rfl rfl rfl ?_
      | refine TL_val (rr_eql rfl rfl (decide_eq_true (by omega))) rfl rfl rfl ?_
      | refine TL_val (rr_eql rfl rfl (decide_eq_false (by omega))) rfl rfl rfl ?_
      | refine TL_val (rr_neq rfl rfl (decide_eq_true (by omega))) rfl rfl rfl ?_
      | refine TL_val (rr_neq rfl rfl (decide_eq_false (by omega))) rfl rfl rfl ?_
      | refine TL_skip rfl rfl rfl rfl rfl rfl ?_
      | refine TL_gval (rr_move rfl) rfl rfl rfl rfl rfl ?_
      | refine TL_gval (rr_pickT rfl rfl) rfl rfl rfl rfl rfl ?_
      | refine TL_gval (rr_pickF rfl rfl) rfl rfl rfl rfl rfl ?_
      | refine TL_gval (rr_strlen Und.eq rfl) rfl rfl rfl rfl rfl ?_
      | refine TL_gval (rr_gtr rfl rfl (decide_eq_true (by omega))) rfl rfl rfl rfl rfl ?_
      | refine TL_gval (rr_gtr rfl rfl (decide_eq_false (by omega))) rfl rfl rfl rfl rfl ?_
      | refine TL_gval (rr_neq rfl rfl (decide_eq_true (by omega))) rfl rfl rfl rfl rfl ?_
      | refine TL_gval (rr_neq rfl rfl (decide_eq_false (by omega))) rfl rfl rfl rfl rfl ?_)
    refine TL_call (he1 EntersC.en rfl rfl) (fun w hm => ht w (by omega)) rfl rfl rfl ?_
    intro _ _
    by_cases c2 : e' = 0
    · obtain ⟨b1, b2, b3⟩ := hct c2
      subst c2
      have htx := text_calls t
      unfold textF at htx
      rw [if_neg (by omega)] at htx
      unfold pairV at htx
      dsimp only at htx
      repeat (first
        | refine TL_val (rr_move rfl) rfl rfl rfl ?_
        | refine TL_val (rr_assign rfl) rfl rfl rfl ?_
        | refine TL_nil ?_
        | refine T_seq ?_
        | refine T_region ?_
        | refine T_condT rfl ?_
        | refine T_condF rfl ?_
        | refine T_skip ?_
        | refine T_ret ?_
        | refine E_then ?_
        | refine E_thenR ?_
        | refine TL_val (rr_extract rfl rfl) rfl rfl rfl ?_
        | refine TL_val (rr_pickT rfl rfl) rfl rfl rfl ?_
        | refine TL_val (rr_pickF rfl rfl) rfl rfl rfl ?_
        | refine TL_val (rr_len Und.eq rfl) rfl rfl rfl ?_
        | refine TL_val (rr_eql rfl rfl (decide_eq_true (by omega))) rfl rfl rfl ?_
        | refine TL_val (rr_eql rfl rfl (decide_eq_false (by omega))) rfl rfl rfl ?_
        | refine TL_val (rr_neq rfl rfl (decide_eq_true (by omega))) rfl rfl rfl ?_
        | refine TL_val (rr_neq rfl rfl (decide_eq_false (by omega))) rfl rfl rfl ?_
        | refine TL_skip rfl rfl rfl rfl rfl rfl ?_
        | refine TL_gval (rr_move rfl) rfl rfl rfl rfl rfl ?_
        | refine TL_gval (rr_pickT rfl rfl) rfl rfl rfl rfl rfl ?_
        | refine TL_gval (rr_pickF rfl rfl) rfl rfl rfl rfl rfl ?_
        | refine TL_gval (rr_strlen Und.eq rfl) rfl rfl rfl rfl rfl ?_
        | refine TL_gval (rr_gtr rfl rfl (decide_eq_true (by omega))) rfl rfl rfl rfl rfl ?_
        | refine TL_gval (rr_gtr rfl rfl (decide_eq_false (by omega))) rfl rfl rfl rfl rfl ?_
        | refine TL_gval (rr_neq rfl rfl (decide_eq_true (by omega))) rfl rfl rfl rfl rfl ?_
        | refine TL_gval (rr_neq rfl rfl (decide_eq_false (by omega))) rfl rfl rfl rfl rfl ?_)
      refine TL_call (he1 EntersC.en rfl rfl) (fun w hm => htx w (by omega)) rfl rfl rfl ?_
      intro _ _
      repeat (first
        | refine TL_val (rr_move rfl) rfl rfl rfl ?_
        | refine TL_val (rr_assign rfl) rfl rfl rfl ?_
        | refine TL_nil ?_
        | refine T_seq ?_
        | refine T_region ?_
        | refine T_condT rfl ?_
        | refine T_condF rfl ?_
        | refine T_skip ?_
        | refine T_ret ?_
        | refine E_then ?_
        | refine E_thenR ?_
        | refine TL_val (rr_extract rfl rfl) rfl rfl rfl ?_
        | refine TL_val (rr_pickT rfl rfl) rfl rfl rfl ?_
        | refine TL_val (rr_pickF rfl rfl) rfl rfl rfl ?_
        | refine TL_val (rr_len Und.eq rfl) rfl rfl rfl ?_
        | refine TL_val (rr_eql rfl rfl (decide_eq_true (by omega))) rfl rfl rfl ?_
        | refine TL_val (rr_eql rfl rfl (decide_eq_false (by omega))) rfl rfl rfl ?_
        | refine TL_val (rr_neq rfl rfl (decide_eq_true (by omega))) rfl rfl rfl ?_
        | refine TL_val (rr_neq rfl rfl (decide_eq_false (by omega))) rfl rfl rfl ?_
        | refine TL_skip rfl rfl rfl rfl rfl rfl ?_
        | refine TL_gval (rr_strupto Und.eq rfl rfl b2) rfl rfl rfl rfl rfl ?_
        | refine TL_gval (rr_strne rfl rfl (decide_eq_false (by simpa using b3))) rfl rfl rfl rfl rfl ?_
        | refine TL_gval (rr_move rfl) rfl rfl rfl rfl rfl ?_
        | refine TL_gval (rr_pickT rfl rfl) rfl rfl rfl rfl rfl ?_
        | refine TL_gval (rr_pickF rfl rfl) rfl rfl rfl rfl rfl ?_
        | refine TL_gval (rr_strlen Und.eq rfl) rfl rfl rfl rfl rfl ?_
        | refine TL_gval (rr_gtr rfl rfl (decide_eq_true (by omega))) rfl rfl rfl rfl rfl ?_
        | refine TL_gval (rr_gtr rfl rfl (decide_eq_false (by omega))) rfl rfl rfl rfl rfl ?_
        | refine TL_gval (rr_neq rfl rfl (decide_eq_true (by omega))) rfl rfl rfl rfl rfl ?_
        | refine TL_gval (rr_neq rfl rfl (decide_eq_false (by omega))) rfl rfl rfl rfl rfl ?_)
      refine TL_call (he1 EntersC.en rfl rfl) (fun w hm => hl w (by omega)) rfl rfl rfl ?_
      rintro v' _
      by_cases c3 : e'' = 0
      · have hcl1 := hcl c3
        subst c3
        have hlc := fun (L : List Own) (w' : World) (hm : SlL w L v' l.length (l.map str)) (hz : ∀ x ∈ l, x.length ≤ 9223372036854775807) (h : Mem w L w') => list_calls v' l w' (hm w' h) hz
        have hz : ∀ x ∈ l, x.length ≤ 9223372036854775807 := fun x hx => by
          have := (listF_ok (l := l) (by rw [hcl1])).2.1 x hx; omega
        rw [hcl1] at hlc
        unfold pairV at hlc
        dsimp only at hlc
        repeat (first
          | refine TL_val (rr_move rfl) rfl rfl rfl ?_
          | refine TL_val (rr_assign rfl) rfl rfl rfl ?_
          | refine TL_nil ?_
          | refine T_seq ?_
          | refine T_region ?_
          | refine T_condT rfl ?_
          | refine T_condF rfl ?_
          | refine T_skip ?_
          | refine T_ret ?_
          | refine E_then ?_
          | refine E_thenR ?_
          | refine TL_val (rr_extract rfl rfl) rfl rfl rfl ?_
          | refine TL_val (rr_pickT rfl rfl) rfl rfl rfl ?_
          | refine TL_val (rr_pickF rfl rfl) rfl rfl rfl ?_
          | refine TL_val (rr_len Und.eq rfl) rfl rfl rfl ?_
          | refine TL_val (rr_eql rfl rfl (decide_eq_true (by omega))) rfl rfl rfl ?_
          | refine TL_val (rr_eql rfl rfl (decide_eq_false (by omega))) rfl rfl rfl ?_
          | refine TL_val (rr_neq rfl rfl (decide_eq_true (by omega))) rfl rfl rfl ?_
          | refine TL_val (rr_neq rfl rfl (decide_eq_false (by omega))) rfl rfl rfl ?_
          | refine TL_skip rfl rfl rfl rfl rfl rfl ?_
          | refine TL_gval (rr_move rfl) rfl rfl rfl rfl rfl ?_
          | refine TL_gval (rr_pickT rfl rfl) rfl rfl rfl rfl rfl ?_
          | refine TL_gval (rr_pickF rfl rfl) rfl rfl rfl rfl rfl ?_
          | refine TL_gval (rr_strlen Und.eq rfl) rfl rfl rfl rfl rfl ?_
          | refine TL_gval (rr_gtr rfl rfl (decide_eq_true (by omega))) rfl rfl rfl rfl rfl ?_
          | refine TL_gval (rr_gtr rfl rfl (decide_eq_false (by omega))) rfl rfl rfl rfl rfl ?_
          | refine TL_gval (rr_neq rfl rfl (decide_eq_true (by omega))) rfl rfl rfl rfl rfl ?_
          | refine TL_gval (rr_neq rfl rfl (decide_eq_false (by omega))) rfl rfl rfl rfl rfl ?_)
        refine TL_call (he1 EntersC.en rfl rfl) (fun w hm => hlc _ _ (sl_row (i := 0) rfl) hz hm) rfl rfl rfl ?_
        intro _ _
        repeat (first
          | refine TL_val (rr_move rfl) rfl rfl rfl ?_
          | refine TL_val (rr_assign rfl) rfl rfl rfl ?_
          | refine TL_nil ?_
          | refine T_seq ?_
          | refine T_region ?_
          | refine T_condT rfl ?_
          | refine T_condF rfl ?_
          | refine T_skip ?_
          | refine T_ret ?_
          | refine E_then ?_
          | refine E_thenR ?_
          | refine TL_val (rr_extract rfl rfl) rfl rfl rfl ?_
          | refine TL_val (rr_pickT rfl rfl) rfl rfl rfl ?_
          | refine TL_val (rr_pickF rfl rfl) rfl rfl rfl ?_
          | refine TL_val (rr_len Und.eq rfl) rfl rfl rfl ?_
          | refine TL_val (rr_eql rfl rfl (decide_eq_true (by omega))) rfl rfl rfl ?_
          | refine TL_val (rr_eql rfl rfl (decide_eq_false (by omega))) rfl rfl rfl ?_
          | refine TL_val (rr_neq rfl rfl (decide_eq_true (by omega))) rfl rfl rfl ?_
          | refine TL_val (rr_neq rfl rfl (decide_eq_false (by omega))) rfl rfl rfl ?_
          | refine TL_skip rfl rfl rfl rfl rfl rfl ?_
          | refine TL_gval (rr_streq rfl rfl (decide_eq_true rfl)) rfl rfl rfl rfl rfl ?_
          | refine TL_gval (rr_move rfl) rfl rfl rfl rfl rfl ?_
          | refine TL_gval (rr_pickT rfl rfl) rfl rfl rfl rfl rfl ?_
          | refine TL_gval (rr_pickF rfl rfl) rfl rfl rfl rfl rfl ?_
          | refine TL_gval (rr_strlen Und.eq rfl) rfl rfl rfl rfl rfl ?_
          | refine TL_gval (rr_gtr rfl rfl (decide_eq_true (by omega))) rfl rfl rfl rfl rfl ?_
          | refine TL_gval (rr_gtr rfl rfl (decide_eq_false (by omega))) rfl rfl rfl rfl rfl ?_
          | refine TL_gval (rr_neq rfl rfl (decide_eq_true (by omega))) rfl rfl rfl rfl rfl ?_
          | refine TL_gval (rr_neq rfl rfl (decide_eq_false (by omega))) rfl rfl rfl rfl rfl ?_)
        exact E_ret1 rfl rfl fun w hm => hm.ret
      · have hce := hce c3
        subst hce
        repeat (first
          | refine TL_val (rr_move rfl) rfl rfl rfl ?_
          | refine TL_val (rr_assign rfl) rfl rfl rfl ?_
          | refine TL_nil ?_
          | refine T_seq ?_
          | refine T_region ?_
          | refine T_condT rfl ?_
          | refine T_condF rfl ?_
          | refine T_skip ?_
          | refine T_ret ?_
          | refine E_then ?_
          | refine E_thenR ?_
          | refine TL_val (rr_rowlen (i := 0) Und.eq rfl rfl) rfl rfl rfl ?_
          | refine TL_val (rr_eql rfl rfl (decide_eq_true rfl)) rfl rfl rfl ?_
          | refine TL_val (rr_extract rfl rfl) rfl rfl rfl ?_
          | refine TL_val (rr_pickT rfl rfl) rfl rfl rfl ?_
          | refine TL_val (rr_pickF rfl rfl) rfl rfl rfl ?_
          | refine TL_val (rr_len Und.eq rfl) rfl rfl rfl ?_
          | refine TL_val (rr_eql rfl rfl (decide_eq_true (by omega))) rfl rfl rfl ?_
          | refine TL_val (rr_eql rfl rfl (decide_eq_false (by omega))) rfl rfl rfl ?_
          | refine TL_val (rr_neq rfl rfl (decide_eq_true (by omega))) rfl rfl rfl ?_
          | refine TL_val (rr_neq rfl rfl (decide_eq_false (by omega))) rfl rfl rfl ?_
          | refine TL_skip rfl rfl rfl rfl rfl rfl ?_
          | refine TL_gval (rr_move rfl) rfl rfl rfl rfl rfl ?_
          | refine TL_gval (rr_pickT rfl rfl) rfl rfl rfl rfl rfl ?_
          | refine TL_gval (rr_pickF rfl rfl) rfl rfl rfl rfl rfl ?_
          | refine TL_gval (rr_strlen Und.eq rfl) rfl rfl rfl rfl rfl ?_
          | refine TL_gval (rr_gtr rfl rfl (decide_eq_true (by omega))) rfl rfl rfl rfl rfl ?_
          | refine TL_gval (rr_gtr rfl rfl (decide_eq_false (by omega))) rfl rfl rfl rfl rfl ?_
          | refine TL_gval (rr_neq rfl rfl (decide_eq_true (by omega))) rfl rfl rfl rfl rfl ?_
          | refine TL_gval (rr_neq rfl rfl (decide_eq_false (by omega))) rfl rfl rfl rfl rfl ?_)
        exact E_ret1 rfl rfl fun w hm => hm.ret
    · repeat (first
        | refine TL_val (rr_move rfl) rfl rfl rfl ?_
        | refine TL_val (rr_assign rfl) rfl rfl rfl ?_
        | refine TL_nil ?_
        | refine T_seq ?_
        | refine T_region ?_
        | refine T_condT rfl ?_
        | refine T_condF rfl ?_
        | refine T_skip ?_
        | refine T_ret ?_
        | refine E_then ?_
        | refine E_thenR ?_
        | refine TL_val (rr_extract rfl rfl) rfl rfl rfl ?_
        | refine TL_val (rr_pickT rfl rfl) rfl rfl rfl ?_
        | refine TL_val (rr_pickF rfl rfl) rfl rfl rfl ?_
        | refine TL_val (rr_len Und.eq rfl) rfl rfl rfl ?_
        | refine TL_val (rr_eql rfl rfl (decide_eq_true (by omega))) rfl rfl rfl ?_
        | refine TL_val (rr_eql rfl rfl (decide_eq_false (by omega))) rfl rfl rfl ?_
        | refine TL_val (rr_neq rfl rfl (decide_eq_true (by omega))) rfl rfl rfl ?_
        | refine TL_val (rr_neq rfl rfl (decide_eq_false (by omega))) rfl rfl rfl ?_
        | refine TL_skip rfl rfl rfl rfl rfl rfl ?_
        | refine TL_gval (rr_move rfl) rfl rfl rfl rfl rfl ?_
        | refine TL_gval (rr_pickT rfl rfl) rfl rfl rfl rfl rfl ?_
        | refine TL_gval (rr_pickF rfl rfl) rfl rfl rfl rfl rfl ?_
        | refine TL_gval (rr_strlen Und.eq rfl) rfl rfl rfl rfl rfl ?_
        | refine TL_gval (rr_gtr rfl rfl (decide_eq_true (by omega))) rfl rfl rfl rfl rfl ?_
        | refine TL_gval (rr_gtr rfl rfl (decide_eq_false (by omega))) rfl rfl rfl rfl rfl ?_
        | refine TL_gval (rr_neq rfl rfl (decide_eq_true (by omega))) rfl rfl rfl rfl rfl ?_
        | refine TL_gval (rr_neq rfl rfl (decide_eq_false (by omega))) rfl rfl rfl rfl rfl ?_)
      refine TL_call (he1 EntersC.en rfl rfl) (fun w hm => hl w (by omega)) rfl rfl rfl ?_
      rintro v' _
      by_cases c3 : e'' = 0
      · have hcl1 := hcl c3
        subst c3
        have hlc := fun (L : List Own) (w' : World) (hm : SlL w L v' l.length (l.map str)) (hz : ∀ x ∈ l, x.length ≤ 9223372036854775807) (h : Mem w L w') => list_calls v' l w' (hm w' h) hz
        have hz : ∀ x ∈ l, x.length ≤ 9223372036854775807 := fun x hx => by
          have := (listF_ok (l := l) (by rw [hcl1])).2.1 x hx; omega
        rw [hcl1] at hlc
        unfold pairV at hlc
        dsimp only at hlc
        repeat (first
          | refine TL_val (rr_move rfl) rfl rfl rfl ?_
          | refine TL_val (rr_assign rfl) rfl rfl rfl ?_
          | refine TL_nil ?_
          | refine T_seq ?_
          | refine T_region ?_
          | refine T_condT rfl ?_
          | refine T_condF rfl ?_
          | refine T_skip ?_
          | refine T_ret ?_
          | refine E_then ?_
          | refine E_thenR ?_
          | refine TL_val (rr_extract rfl rfl) rfl rfl rfl ?_
          | refine TL_val (rr_pickT rfl rfl) rfl rfl rfl ?_
          | refine TL_val (rr_pickF rfl rfl) rfl rfl rfl ?_
          | refine TL_val (rr_len Und.eq rfl) rfl rfl rfl ?_
          | refine TL_val (rr_eql rfl rfl (decide_eq_true (by omega))) rfl rfl rfl ?_
          | refine TL_val (rr_eql rfl rfl (decide_eq_false (by omega))) rfl rfl rfl ?_
          | refine TL_val (rr_neq rfl rfl (decide_eq_true (by omega))) rfl rfl rfl ?_
          | refine TL_val (rr_neq rfl rfl (decide_eq_false (by omega))) rfl rfl rfl ?_
          | refine TL_skip rfl rfl rfl rfl rfl rfl ?_
          | refine TL_gval (rr_move rfl) rfl rfl rfl rfl rfl ?_
          | refine TL_gval (rr_pickT rfl rfl) rfl rfl rfl rfl rfl ?_
          | refine TL_gval (rr_pickF rfl rfl) rfl rfl rfl rfl rfl ?_
          | refine TL_gval (rr_strlen Und.eq rfl) rfl rfl rfl rfl rfl ?_
          | refine TL_gval (rr_gtr rfl rfl (decide_eq_true (by omega))) rfl rfl rfl rfl rfl ?_
          | refine TL_gval (rr_gtr rfl rfl (decide_eq_false (by omega))) rfl rfl rfl rfl rfl ?_
          | refine TL_gval (rr_neq rfl rfl (decide_eq_true (by omega))) rfl rfl rfl rfl rfl ?_
          | refine TL_gval (rr_neq rfl rfl (decide_eq_false (by omega))) rfl rfl rfl rfl rfl ?_)
        refine TL_call (he1 EntersC.en rfl rfl) (fun w hm => hlc _ _ (sl_row (i := 0) rfl) hz hm) rfl rfl rfl ?_
        intro _ _
        repeat (first
          | refine TL_val (rr_move rfl) rfl rfl rfl ?_
          | refine TL_val (rr_assign rfl) rfl rfl rfl ?_
          | refine TL_nil ?_
          | refine T_seq ?_
          | refine T_region ?_
          | refine T_condT rfl ?_
          | refine T_condF rfl ?_
          | refine T_skip ?_
          | refine T_ret ?_
          | refine E_then ?_
          | refine E_thenR ?_
          | refine TL_val (rr_extract rfl rfl) rfl rfl rfl ?_
          | refine TL_val (rr_pickT rfl rfl) rfl rfl rfl ?_
          | refine TL_val (rr_pickF rfl rfl) rfl rfl rfl ?_
          | refine TL_val (rr_len Und.eq rfl) rfl rfl rfl ?_
          | refine TL_val (rr_eql rfl rfl (decide_eq_true (by omega))) rfl rfl rfl ?_
          | refine TL_val (rr_eql rfl rfl (decide_eq_false (by omega))) rfl rfl rfl ?_
          | refine TL_val (rr_neq rfl rfl (decide_eq_true (by omega))) rfl rfl rfl ?_
          | refine TL_val (rr_neq rfl rfl (decide_eq_false (by omega))) rfl rfl rfl ?_
          | refine TL_skip rfl rfl rfl rfl rfl rfl ?_
          | refine TL_gval (rr_streq rfl rfl (decide_eq_true rfl)) rfl rfl rfl rfl rfl ?_
          | refine TL_gval (rr_move rfl) rfl rfl rfl rfl rfl ?_
          | refine TL_gval (rr_pickT rfl rfl) rfl rfl rfl rfl rfl ?_
          | refine TL_gval (rr_pickF rfl rfl) rfl rfl rfl rfl rfl ?_
          | refine TL_gval (rr_strlen Und.eq rfl) rfl rfl rfl rfl rfl ?_
          | refine TL_gval (rr_gtr rfl rfl (decide_eq_true (by omega))) rfl rfl rfl rfl rfl ?_
          | refine TL_gval (rr_gtr rfl rfl (decide_eq_false (by omega))) rfl rfl rfl rfl rfl ?_
          | refine TL_gval (rr_neq rfl rfl (decide_eq_true (by omega))) rfl rfl rfl rfl rfl ?_
          | refine TL_gval (rr_neq rfl rfl (decide_eq_false (by omega))) rfl rfl rfl rfl rfl ?_)
        exact E_ret1 rfl rfl fun w hm => hm.ret
      · have hce := hce c3
        subst hce
        repeat (first
          | refine TL_val (rr_move rfl) rfl rfl rfl ?_
          | refine TL_val (rr_assign rfl) rfl rfl rfl ?_
          | refine TL_nil ?_
          | refine T_seq ?_
          | refine T_region ?_
          | refine T_condT rfl ?_
          | refine T_condF rfl ?_
          | refine T_skip ?_
          | refine T_ret ?_
          | refine E_then ?_
          | refine E_thenR ?_
          | refine TL_val (rr_rowlen (i := 0) Und.eq rfl rfl) rfl rfl rfl ?_
          | refine TL_val (rr_eql rfl rfl (decide_eq_true rfl)) rfl rfl rfl ?_
          | refine TL_val (rr_extract rfl rfl) rfl rfl rfl ?_
          | refine TL_val (rr_pickT rfl rfl) rfl rfl rfl ?_
          | refine TL_val (rr_pickF rfl rfl) rfl rfl rfl ?_
          | refine TL_val (rr_len Und.eq rfl) rfl rfl rfl ?_
          | refine TL_val (rr_eql rfl rfl (decide_eq_true (by omega))) rfl rfl rfl ?_
          | refine TL_val (rr_eql rfl rfl (decide_eq_false (by omega))) rfl rfl rfl ?_
          | refine TL_val (rr_neq rfl rfl (decide_eq_true (by omega))) rfl rfl rfl ?_
          | refine TL_val (rr_neq rfl rfl (decide_eq_false (by omega))) rfl rfl rfl ?_
          | refine TL_skip rfl rfl rfl rfl rfl rfl ?_
          | refine TL_gval (rr_move rfl) rfl rfl rfl rfl rfl ?_
          | refine TL_gval (rr_pickT rfl rfl) rfl rfl rfl rfl rfl ?_
          | refine TL_gval (rr_pickF rfl rfl) rfl rfl rfl rfl rfl ?_
          | refine TL_gval (rr_strlen Und.eq rfl) rfl rfl rfl rfl rfl ?_
          | refine TL_gval (rr_gtr rfl rfl (decide_eq_true (by omega))) rfl rfl rfl rfl rfl ?_
          | refine TL_gval (rr_gtr rfl rfl (decide_eq_false (by omega))) rfl rfl rfl rfl rfl ?_
          | refine TL_gval (rr_neq rfl rfl (decide_eq_true (by omega))) rfl rfl rfl rfl rfl ?_
          | refine TL_gval (rr_neq rfl rfl (decide_eq_false (by omega))) rfl rfl rfl rfl rfl ?_)
        exact E_ret1 rfl rfl fun w hm => hm.ret
  · refine T_draw 15 (List.replicate 15 true) rfl (by kernel_rfl) (by kernel_rfl) (by intro c a d v w h; cases d <;> exact h) ?_
    repeat (first
      | refine TM_val (rr_move rfl) rfl rfl rfl ?_
      | refine TM_val (rr_assign rfl) rfl rfl rfl ?_
      | refine TM_val (rr_extract rfl rfl) rfl rfl rfl ?_
      | refine TM_val (rr_pickT rfl rfl) rfl rfl rfl ?_
      | refine TM_val (rr_pickF rfl rfl) rfl rfl rfl ?_
      | refine TM_val (rr_len Und.eq rfl) rfl rfl rfl ?_
      | refine TM_val (rr_eql rfl rfl (decide_eq_true (by omega))) rfl rfl rfl ?_
      | refine TM_val (rr_eql rfl rfl (decide_eq_false (by omega))) rfl rfl rfl ?_
      | refine TM_val (rr_neq rfl rfl (decide_eq_true (by omega))) rfl rfl rfl ?_
      | refine TM_val (rr_neq rfl rfl (decide_eq_false (by omega))) rfl rfl rfl ?_
      | refine TM_skip rfl rfl rfl rfl rfl rfl ?_
      | refine TM_gval (rr_move rfl) rfl rfl rfl rfl rfl ?_
      | refine TM_gval (rr_pickT rfl rfl) rfl rfl rfl rfl rfl ?_
      | refine TM_gval (rr_pickF rfl rfl) rfl rfl rfl rfl rfl ?_
      | refine TM_gval (rr_strlen Und.eq rfl) rfl rfl rfl rfl rfl ?_
      | refine TM_gval (rr_gtr rfl rfl (decide_eq_true (by omega))) rfl rfl rfl rfl rfl ?_
      | refine TM_gval (rr_gtr rfl rfl (decide_eq_false (by omega))) rfl rfl rfl rfl rfl ?_
      | refine TM_gval (rr_neq rfl rfl (decide_eq_true (by omega))) rfl rfl rfl rfl rfl ?_
      | refine TM_gval (rr_neq rfl rfl (decide_eq_false (by omega))) rfl rfl rfl rfl rfl ?_
      | refine TM_end ?_)
    repeat (first
      | refine TL_val (rr_move rfl) rfl rfl rfl ?_
      | refine TL_val (rr_assign rfl) rfl rfl rfl ?_
      | refine TL_nil ?_
      | refine T_seq ?_
      | refine T_region ?_
      | refine T_condT rfl ?_
      | refine T_condF rfl ?_
      | refine T_skip ?_
      | refine T_ret ?_
      | refine E_then ?_
      | refine E_thenR ?_
      | refine TL_val (rr_extract rfl rfl) rfl rfl rfl ?_
      | refine TL_val (rr_pickT rfl rfl) rfl rfl rfl ?_
      | refine TL_val (rr_pickF rfl rfl) rfl rfl rfl ?_
      | refine TL_val (rr_len Und.eq rfl) rfl rfl rfl ?_
      | refine TL_val (rr_eql rfl rfl (decide_eq_true (by omega))) rfl rfl rfl ?_
      | refine TL_val (rr_eql rfl rfl (decide_eq_false (by omega))) rfl rfl rfl ?_
      | refine TL_val (rr_neq rfl rfl (decide_eq_true (by omega))) rfl rfl rfl ?_
      | refine TL_val (rr_neq rfl rfl (decide_eq_false (by omega))) rfl rfl rfl ?_
      | refine TL_skip rfl rfl rfl rfl rfl rfl ?_
      | refine TL_gval (rr_move rfl) rfl rfl rfl rfl rfl ?_
      | refine TL_gval (rr_pickT rfl rfl) rfl rfl rfl rfl rfl ?_
      | refine TL_gval (rr_pickF rfl rfl) rfl rfl rfl rfl rfl ?_
      | refine TL_gval (rr_strlen Und.eq rfl) rfl rfl rfl rfl rfl ?_
      | refine TL_gval (rr_gtr rfl rfl (decide_eq_true (by omega))) rfl rfl rfl rfl rfl ?_
      | refine TL_gval (rr_gtr rfl rfl (decide_eq_false (by omega))) rfl rfl rfl rfl rfl ?_
      | refine TL_gval (rr_neq rfl rfl (decide_eq_true (by omega))) rfl rfl rfl rfl rfl ?_
      | refine TL_gval (rr_neq rfl rfl (decide_eq_false (by omega))) rfl rfl rfl rfl rfl ?_)
    refine TL_call (he1 EntersC.en rfl rfl) (fun w hm => ht w (by omega)) rfl rfl rfl ?_
    intro _ _
    by_cases c2 : e' = 0
    · obtain ⟨b1, b2, b3⟩ := hct c2
      subst c2
      have htx := text_calls t
      unfold textF at htx
      rw [if_neg (by omega)] at htx
      unfold pairV at htx
      dsimp only at htx
      repeat (first
        | refine TL_val (rr_move rfl) rfl rfl rfl ?_
        | refine TL_val (rr_assign rfl) rfl rfl rfl ?_
        | refine TL_nil ?_
        | refine T_seq ?_
        | refine T_region ?_
        | refine T_condT rfl ?_
        | refine T_condF rfl ?_
        | refine T_skip ?_
        | refine T_ret ?_
        | refine E_then ?_
        | refine E_thenR ?_
        | refine TL_val (rr_extract rfl rfl) rfl rfl rfl ?_
        | refine TL_val (rr_pickT rfl rfl) rfl rfl rfl ?_
        | refine TL_val (rr_pickF rfl rfl) rfl rfl rfl ?_
        | refine TL_val (rr_len Und.eq rfl) rfl rfl rfl ?_
        | refine TL_val (rr_eql rfl rfl (decide_eq_true (by omega))) rfl rfl rfl ?_
        | refine TL_val (rr_eql rfl rfl (decide_eq_false (by omega))) rfl rfl rfl ?_
        | refine TL_val (rr_neq rfl rfl (decide_eq_true (by omega))) rfl rfl rfl ?_
        | refine TL_val (rr_neq rfl rfl (decide_eq_false (by omega))) rfl rfl rfl ?_
        | refine TL_skip rfl rfl rfl rfl rfl rfl ?_
        | refine TL_gval (rr_move rfl) rfl rfl rfl rfl rfl ?_
        | refine TL_gval (rr_pickT rfl rfl) rfl rfl rfl rfl rfl ?_
        | refine TL_gval (rr_pickF rfl rfl) rfl rfl rfl rfl rfl ?_
        | refine TL_gval (rr_strlen Und.eq rfl) rfl rfl rfl rfl rfl ?_
        | refine TL_gval (rr_gtr rfl rfl (decide_eq_true (by omega))) rfl rfl rfl rfl rfl ?_
        | refine TL_gval (rr_gtr rfl rfl (decide_eq_false (by omega))) rfl rfl rfl rfl rfl ?_
        | refine TL_gval (rr_neq rfl rfl (decide_eq_true (by omega))) rfl rfl rfl rfl rfl ?_
        | refine TL_gval (rr_neq rfl rfl (decide_eq_false (by omega))) rfl rfl rfl rfl rfl ?_)
      refine TL_call (he1 EntersC.en rfl rfl) (fun w hm => htx w (by omega)) rfl rfl rfl ?_
      intro _ _
      repeat (first
        | refine TL_val (rr_move rfl) rfl rfl rfl ?_
        | refine TL_val (rr_assign rfl) rfl rfl rfl ?_
        | refine TL_nil ?_
        | refine T_seq ?_
        | refine T_region ?_
        | refine T_condT rfl ?_
        | refine T_condF rfl ?_
        | refine T_skip ?_
        | refine T_ret ?_
        | refine E_then ?_
        | refine E_thenR ?_
        | refine TL_val (rr_extract rfl rfl) rfl rfl rfl ?_
        | refine TL_val (rr_pickT rfl rfl) rfl rfl rfl ?_
        | refine TL_val (rr_pickF rfl rfl) rfl rfl rfl ?_
        | refine TL_val (rr_len Und.eq rfl) rfl rfl rfl ?_
        | refine TL_val (rr_eql rfl rfl (decide_eq_true (by omega))) rfl rfl rfl ?_
        | refine TL_val (rr_eql rfl rfl (decide_eq_false (by omega))) rfl rfl rfl ?_
        | refine TL_val (rr_neq rfl rfl (decide_eq_true (by omega))) rfl rfl rfl ?_
        | refine TL_val (rr_neq rfl rfl (decide_eq_false (by omega))) rfl rfl rfl ?_
        | refine TL_skip rfl rfl rfl rfl rfl rfl ?_
        | refine TL_gval (rr_strupto Und.eq rfl rfl b2) rfl rfl rfl rfl rfl ?_
        | refine TL_gval (rr_strne rfl rfl (decide_eq_false (by simpa using b3))) rfl rfl rfl rfl rfl ?_
        | refine TL_gval (rr_move rfl) rfl rfl rfl rfl rfl ?_
        | refine TL_gval (rr_pickT rfl rfl) rfl rfl rfl rfl rfl ?_
        | refine TL_gval (rr_pickF rfl rfl) rfl rfl rfl rfl rfl ?_
        | refine TL_gval (rr_strlen Und.eq rfl) rfl rfl rfl rfl rfl ?_
        | refine TL_gval (rr_gtr rfl rfl (decide_eq_true (by omega))) rfl rfl rfl rfl rfl ?_
        | refine TL_gval (rr_gtr rfl rfl (decide_eq_false (by omega))) rfl rfl rfl rfl rfl ?_
        | refine TL_gval (rr_neq rfl rfl (decide_eq_true (by omega))) rfl rfl rfl rfl rfl ?_
        | refine TL_gval (rr_neq rfl rfl (decide_eq_false (by omega))) rfl rfl rfl rfl rfl ?_)
      refine TL_call (he1 EntersC.en rfl rfl) (fun w hm => hl w (by omega)) rfl rfl rfl ?_
      rintro v' _
      by_cases c3 : e'' = 0
      · have hcl1 := hcl c3
        subst c3
        have hlc := fun (L : List Own) (w' : World) (hm : SlL w L v' l.length (l.map str)) (hz : ∀ x ∈ l, x.length ≤ 9223372036854775807) (h : Mem w L w') => list_calls v' l w' (hm w' h) hz
        have hz : ∀ x ∈ l, x.length ≤ 9223372036854775807 := fun x hx => by
          have := (listF_ok (l := l) (by rw [hcl1])).2.1 x hx; omega
        rw [hcl1] at hlc
        unfold pairV at hlc
        dsimp only at hlc
        repeat (first
          | refine TL_val (rr_move rfl) rfl rfl rfl ?_
          | refine TL_val (rr_assign rfl) rfl rfl rfl ?_
          | refine TL_nil ?_
          | refine T_seq ?_
          | refine T_region ?_
          | refine T_condT rfl ?_
          | refine T_condF rfl ?_
          | refine T_skip ?_
          | refine T_ret ?_
          | refine E_then ?_
          | refine E_thenR ?_
          | refine TL_val (rr_extract rfl rfl) rfl rfl rfl ?_
          | refine TL_val (rr_pickT rfl rfl) rfl rfl rfl ?_
          | refine TL_val (rr_pickF rfl rfl) rfl rfl rfl ?_
          | refine TL_val (rr_len Und.eq rfl) rfl rfl rfl ?_
          | refine TL_val (rr_eql rfl rfl (decide_eq_true (by omega))) rfl rfl rfl ?_
          | refine TL_val (rr_eql rfl rfl (decide_eq_false (by omega))) rfl rfl rfl ?_
          | refine TL_val (rr_neq rfl rfl (decide_eq_true (by omega))) rfl rfl rfl ?_
          | refine TL_val (rr_neq rfl rfl (decide_eq_false (by omega))) rfl rfl rfl ?_
          | refine TL_skip rfl rfl rfl rfl rfl rfl ?_
          | refine TL_gval (rr_move rfl) rfl rfl rfl rfl rfl ?_
          | refine TL_gval (rr_pickT rfl rfl) rfl rfl rfl rfl rfl ?_
          | refine TL_gval (rr_pickF rfl rfl) rfl rfl rfl rfl rfl ?_
          | refine TL_gval (rr_strlen Und.eq rfl) rfl rfl rfl rfl rfl ?_
          | refine TL_gval (rr_gtr rfl rfl (decide_eq_true (by omega))) rfl rfl rfl rfl rfl ?_
          | refine TL_gval (rr_gtr rfl rfl (decide_eq_false (by omega))) rfl rfl rfl rfl rfl ?_
          | refine TL_gval (rr_neq rfl rfl (decide_eq_true (by omega))) rfl rfl rfl rfl rfl ?_
          | refine TL_gval (rr_neq rfl rfl (decide_eq_false (by omega))) rfl rfl rfl rfl rfl ?_)
        refine TL_call (he1 EntersC.en rfl rfl) (fun w hm => hlc _ _ (sl_row (i := 0) rfl) hz hm) rfl rfl rfl ?_
        intro _ _
        repeat (first
          | refine TL_val (rr_move rfl) rfl rfl rfl ?_
          | refine TL_val (rr_assign rfl) rfl rfl rfl ?_
          | refine TL_nil ?_
          | refine T_seq ?_
          | refine T_region ?_
          | refine T_condT rfl ?_
          | refine T_condF rfl ?_
          | refine T_skip ?_
          | refine T_ret ?_
          | refine E_then ?_
          | refine E_thenR ?_
          | refine TL_val (rr_extract rfl rfl) rfl rfl rfl ?_
          | refine TL_val (rr_pickT rfl rfl) rfl rfl rfl ?_
          | refine TL_val (rr_pickF rfl rfl) rfl rfl rfl ?_
          | refine TL_val (rr_len Und.eq rfl) rfl rfl rfl ?_
          | refine TL_val (rr_eql rfl rfl (decide_eq_true (by omega))) rfl rfl rfl ?_
          | refine TL_val (rr_eql rfl rfl (decide_eq_false (by omega))) rfl rfl rfl ?_
          | refine TL_val (rr_neq rfl rfl (decide_eq_true (by omega))) rfl rfl rfl ?_
          | refine TL_val (rr_neq rfl rfl (decide_eq_false (by omega))) rfl rfl rfl ?_
          | refine TL_skip rfl rfl rfl rfl rfl rfl ?_
          | refine TL_gval (rr_streq rfl rfl (decide_eq_true rfl)) rfl rfl rfl rfl rfl ?_
          | refine TL_gval (rr_move rfl) rfl rfl rfl rfl rfl ?_
          | refine TL_gval (rr_pickT rfl rfl) rfl rfl rfl rfl rfl ?_
          | refine TL_gval (rr_pickF rfl rfl) rfl rfl rfl rfl rfl ?_
          | refine TL_gval (rr_strlen Und.eq rfl) rfl rfl rfl rfl rfl ?_
          | refine TL_gval (rr_gtr rfl rfl (decide_eq_true (by omega))) rfl rfl rfl rfl rfl ?_
          | refine TL_gval (rr_gtr rfl rfl (decide_eq_false (by omega))) rfl rfl rfl rfl rfl ?_
          | refine TL_gval (rr_neq rfl rfl (decide_eq_true (by omega))) rfl rfl rfl rfl rfl ?_
          | refine TL_gval (rr_neq rfl rfl (decide_eq_false (by omega))) rfl rfl rfl rfl rfl ?_)
        exact E_ret1 rfl rfl fun w hm => hm.ret
      · have hce := hce c3
        subst hce
        repeat (first
          | refine TL_val (rr_move rfl) rfl rfl rfl ?_
          | refine TL_val (rr_assign rfl) rfl rfl rfl ?_
          | refine TL_nil ?_
          | refine T_seq ?_
          | refine T_region ?_
          | refine T_condT rfl ?_
          | refine T_condF rfl ?_
          | refine T_skip ?_
          | refine T_ret ?_
          | refine E_then ?_
          | refine E_thenR ?_
          | refine TL_val (rr_rowlen (i := 0) Und.eq rfl rfl) rfl rfl rfl ?_
          | refine TL_val (rr_eql rfl rfl (decide_eq_true rfl)) rfl rfl rfl ?_
          | refine TL_val (rr_extract rfl rfl) rfl rfl rfl ?_
          | refine TL_val (rr_pickT rfl rfl) rfl rfl rfl ?_
          | refine TL_val (rr_pickF rfl rfl) rfl rfl rfl ?_
          | refine TL_val (rr_len Und.eq rfl) rfl rfl rfl ?_
          | refine TL_val (rr_eql rfl rfl (decide_eq_true (by omega))) rfl rfl rfl ?_
          | refine TL_val (rr_eql rfl rfl (decide_eq_false (by omega))) rfl rfl rfl ?_
          | refine TL_val (rr_neq rfl rfl (decide_eq_true (by omega))) rfl rfl rfl ?_
          | refine TL_val (rr_neq rfl rfl (decide_eq_false (by omega))) rfl rfl rfl ?_
          | refine TL_skip rfl rfl rfl rfl rfl rfl ?_
          | refine TL_gval (rr_move rfl) rfl rfl rfl rfl rfl ?_
          | refine TL_gval (rr_pickT rfl rfl) rfl rfl rfl rfl rfl ?_
          | refine TL_gval (rr_pickF rfl rfl) rfl rfl rfl rfl rfl ?_
          | refine TL_gval (rr_strlen Und.eq rfl) rfl rfl rfl rfl rfl ?_
          | refine TL_gval (rr_gtr rfl rfl (decide_eq_true (by omega))) rfl rfl rfl rfl rfl ?_
          | refine TL_gval (rr_gtr rfl rfl (decide_eq_false (by omega))) rfl rfl rfl rfl rfl ?_
          | refine TL_gval (rr_neq rfl rfl (decide_eq_true (by omega))) rfl rfl rfl rfl rfl ?_
          | refine TL_gval (rr_neq rfl rfl (decide_eq_false (by omega))) rfl rfl rfl rfl rfl ?_)
        exact E_ret1 rfl rfl fun w hm => hm.ret
    · repeat (first
        | refine TL_val (rr_move rfl) rfl rfl rfl ?_
        | refine TL_val (rr_assign rfl) rfl rfl rfl ?_
        | refine TL_nil ?_
        | refine T_seq ?_
        | refine T_region ?_
        | refine T_condT rfl ?_
        | refine T_condF rfl ?_
        | refine T_skip ?_
        | refine T_ret ?_
        | refine E_then ?_
        | refine E_thenR ?_
        | refine TL_val (rr_extract rfl rfl) rfl rfl rfl ?_
        | refine TL_val (rr_pickT rfl rfl) rfl rfl rfl ?_
        | refine TL_val (rr_pickF rfl rfl) rfl rfl rfl ?_
        | refine TL_val (rr_len Und.eq rfl) rfl rfl rfl ?_
        | refine TL_val (rr_eql rfl rfl (decide_eq_true (by omega))) rfl rfl rfl ?_
        | refine TL_val (rr_eql rfl rfl (decide_eq_false (by omega))) rfl rfl rfl ?_
        | refine TL_val (rr_neq rfl rfl (decide_eq_true (by omega))) rfl rfl rfl ?_
        | refine TL_val (rr_neq rfl rfl (decide_eq_false (by omega))) rfl rfl rfl ?_
        | refine TL_skip rfl rfl rfl rfl rfl rfl ?_
        | refine TL_gval (rr_move rfl) rfl rfl rfl rfl rfl ?_
        | refine TL_gval (rr_pickT rfl rfl) rfl rfl rfl rfl rfl ?_
        | refine TL_gval (rr_pickF rfl rfl) rfl rfl rfl rfl rfl ?_
        | refine TL_gval (rr_strlen Und.eq rfl) rfl rfl rfl rfl rfl ?_
        | refine TL_gval (rr_gtr rfl rfl (decide_eq_true (by omega))) rfl rfl rfl rfl rfl ?_
        | refine TL_gval (rr_gtr rfl rfl (decide_eq_false (by omega))) rfl rfl rfl rfl rfl ?_
        | refine TL_gval (rr_neq rfl rfl (decide_eq_true (by omega))) rfl rfl rfl rfl rfl ?_
        | refine TL_gval (rr_neq rfl rfl (decide_eq_false (by omega))) rfl rfl rfl rfl rfl ?_)
      refine TL_call (he1 EntersC.en rfl rfl) (fun w hm => hl w (by omega)) rfl rfl rfl ?_
      rintro v' _
      by_cases c3 : e'' = 0
      · have hcl1 := hcl c3
        subst c3
        have hlc := fun (L : List Own) (w' : World) (hm : SlL w L v' l.length (l.map str)) (hz : ∀ x ∈ l, x.length ≤ 9223372036854775807) (h : Mem w L w') => list_calls v' l w' (hm w' h) hz
        have hz : ∀ x ∈ l, x.length ≤ 9223372036854775807 := fun x hx => by
          have := (listF_ok (l := l) (by rw [hcl1])).2.1 x hx; omega
        rw [hcl1] at hlc
        unfold pairV at hlc
        dsimp only at hlc
        repeat (first
          | refine TL_val (rr_move rfl) rfl rfl rfl ?_
          | refine TL_val (rr_assign rfl) rfl rfl rfl ?_
          | refine TL_nil ?_
          | refine T_seq ?_
          | refine T_region ?_
          | refine T_condT rfl ?_
          | refine T_condF rfl ?_
          | refine T_skip ?_
          | refine T_ret ?_
          | refine E_then ?_
          | refine E_thenR ?_
          | refine TL_val (rr_extract rfl rfl) rfl rfl rfl ?_
          | refine TL_val (rr_pickT rfl rfl) rfl rfl rfl ?_
          | refine TL_val (rr_pickF rfl rfl) rfl rfl rfl ?_
          | refine TL_val (rr_len Und.eq rfl) rfl rfl rfl ?_
          | refine TL_val (rr_eql rfl rfl (decide_eq_true (by omega))) rfl rfl rfl ?_
          | refine TL_val (rr_eql rfl rfl (decide_eq_false (by omega))) rfl rfl rfl ?_
          | refine TL_val (rr_neq rfl rfl (decide_eq_true (by omega))) rfl rfl rfl ?_
          | refine TL_val (rr_neq rfl rfl (decide_eq_false (by omega))) rfl rfl rfl ?_
          | refine TL_skip rfl rfl rfl rfl rfl rfl ?_
          | refine TL_gval (rr_move rfl) rfl rfl rfl rfl rfl ?_
          | refine TL_gval (rr_pickT rfl rfl) rfl rfl rfl rfl rfl ?_
          | refine TL_gval (rr_pickF rfl rfl) rfl rfl rfl rfl rfl ?_
          | refine TL_gval (rr_strlen Und.eq rfl) rfl rfl rfl rfl rfl ?_
          | refine TL_gval (rr_gtr rfl rfl (decide_eq_true (by omega))) rfl rfl rfl rfl rfl ?_
          | refine TL_gval (rr_gtr rfl rfl (decide_eq_false (by omega))) rfl rfl rfl rfl rfl ?_
          | refine TL_gval (rr_neq rfl rfl (decide_eq_true (by omega))) rfl rfl rfl rfl rfl ?_
          | refine TL_gval (rr_neq rfl rfl (decide_eq_false (by omega))) rfl rfl rfl rfl rfl ?_)
        refine TL_call (he1 EntersC.en rfl rfl) (fun w hm => hlc _ _ (sl_row (i := 0) rfl) hz hm) rfl rfl rfl ?_
        intro _ _
        repeat (first
          | refine TL_val (rr_move rfl) rfl rfl rfl ?_
          | refine TL_val (rr_assign rfl) rfl rfl rfl ?_
          | refine TL_nil ?_
          | refine T_seq ?_
          | refine T_region ?_
          | refine T_condT rfl ?_
          | refine T_condF rfl ?_
          | refine T_skip ?_
          | refine T_ret ?_
          | refine E_then ?_
          | refine E_thenR ?_
          | refine TL_val (rr_extract rfl rfl) rfl rfl rfl ?_
          | refine TL_val (rr_pickT rfl rfl) rfl rfl rfl ?_
          | refine TL_val (rr_pickF rfl rfl) rfl rfl rfl ?_
          | refine TL_val (rr_len Und.eq rfl) rfl rfl rfl ?_
          | refine TL_val (rr_eql rfl rfl (decide_eq_true (by omega))) rfl rfl rfl ?_
          | refine TL_val (rr_eql rfl rfl (decide_eq_false (by omega))) rfl rfl rfl ?_
          | refine TL_val (rr_neq rfl rfl (decide_eq_true (by omega))) rfl rfl rfl ?_
          | refine TL_val (rr_neq rfl rfl (decide_eq_false (by omega))) rfl rfl rfl ?_
          | refine TL_skip rfl rfl rfl rfl rfl rfl ?_
          | refine TL_gval (rr_streq rfl rfl (decide_eq_true rfl)) rfl rfl rfl rfl rfl ?_
          | refine TL_gval (rr_move rfl) rfl rfl rfl rfl rfl ?_
          | refine TL_gval (rr_pickT rfl rfl) rfl rfl rfl rfl rfl ?_
          | refine TL_gval (rr_pickF rfl rfl) rfl rfl rfl rfl rfl ?_
          | refine TL_gval (rr_strlen Und.eq rfl) rfl rfl rfl rfl rfl ?_
          | refine TL_gval (rr_gtr rfl rfl (decide_eq_true (by omega))) rfl rfl rfl rfl rfl ?_
          | refine TL_gval (rr_gtr rfl rfl (decide_eq_false (by omega))) rfl rfl rfl rfl rfl ?_
          | refine TL_gval (rr_neq rfl rfl (decide_eq_true (by omega))) rfl rfl rfl rfl rfl ?_
          | refine TL_gval (rr_neq rfl rfl (decide_eq_false (by omega))) rfl rfl rfl rfl rfl ?_)
        exact E_ret1 rfl rfl fun w hm => hm.ret
      · have hce := hce c3
        subst hce
        repeat (first
          | refine TL_val (rr_move rfl) rfl rfl rfl ?_
          | refine TL_val (rr_assign rfl) rfl rfl rfl ?_
          | refine TL_nil ?_
          | refine T_seq ?_
          | refine T_region ?_
          | refine T_condT rfl ?_
          | refine T_condF rfl ?_
          | refine T_skip ?_
          | refine T_ret ?_
          | refine E_then ?_
          | refine E_thenR ?_
          | refine TL_val (rr_rowlen (i := 0) Und.eq rfl rfl) rfl rfl rfl ?_
          | refine TL_val (rr_eql rfl rfl (decide_eq_true rfl)) rfl rfl rfl ?_
          | refine TL_val (rr_extract rfl rfl) rfl rfl rfl ?_
          | refine TL_val (rr_pickT rfl rfl) rfl rfl rfl ?_
          | refine TL_val (rr_pickF rfl rfl) rfl rfl rfl ?_
          | refine TL_val (rr_len Und.eq rfl) rfl rfl rfl ?_
          | refine TL_val (rr_eql rfl rfl (decide_eq_true (by omega))) rfl rfl rfl ?_
          | refine TL_val (rr_eql rfl rfl (decide_eq_false (by omega))) rfl rfl rfl ?_
          | refine TL_val (rr_neq rfl rfl (decide_eq_true (by omega))) rfl rfl rfl ?_
          | refine TL_val (rr_neq rfl rfl (decide_eq_false (by omega))) rfl rfl rfl ?_
          | refine TL_skip rfl rfl rfl rfl rfl rfl ?_
          | refine TL_gval (rr_move rfl) rfl rfl rfl rfl rfl ?_
          | refine TL_gval (rr_pickT rfl rfl) rfl rfl rfl rfl rfl ?_
          | refine TL_gval (rr_pickF rfl rfl) rfl rfl rfl rfl rfl ?_
          | refine TL_gval (rr_strlen Und.eq rfl) rfl rfl rfl rfl rfl ?_
          | refine TL_gval (rr_gtr rfl rfl (decide_eq_true (by omega))) rfl rfl rfl rfl rfl ?_
          | refine TL_gval (rr_gtr rfl rfl (decide_eq_false (by omega))) rfl rfl rfl rfl rfl ?_
          | refine TL_gval (rr_neq rfl rfl (decide_eq_true (by omega))) rfl rfl rfl rfl rfl ?_
          | refine TL_gval (rr_neq rfl rfl (decide_eq_false (by omega))) rfl rfl rfl rfl rfl ?_)
        exact E_ret1 rfl rfl fun w hm => hm.ret
end Go.Proofs.Ytnooleopmlijeaa.packOne
