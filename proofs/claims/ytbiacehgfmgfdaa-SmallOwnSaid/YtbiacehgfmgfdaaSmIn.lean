/- Functions of package slices at int (printed by program). -/
import Derived.Test.YtbiacehgfmgfdaaMgB
namespace Go.Proofs.Ytbiacehgfmgfdaa.eng
open Go.RowKit kit mix
theorem SmIn_len (a : Int) : (kit.intC a).length = 1 := rfl
theorem SmIn_one (a : Int) : kit.intC a = [((kit.intC a).headD undef)] := rfl
set_option maxHeartbeats 2000000 in
theorem equalSmIn_calls (v v' : Value) (l l' : List Int) (w : World) (hs : Sl w v l.length (l.flatMap kit.intC)) (hs' : Sl w v' l'.length (l'.flatMap kit.intC)) :
    Calls Try.prog 28 #[v, v'] w (Meets (ret (.bool (decide (l = l')))) w) := by
  obtain ⟨base, cap, rfl, hcap, hmax, hrd⟩ := hs
  obtain ⟨base', cap', rfl, hcap', hmax', hrd'⟩ := hs'
  unfold maxLen at hmax hmax'
  refine enter (args := [.slice base l.length cap, .slice base' l'.length cap']) (n := 26) Try.func28 rfl rfl rfl ?_
  by_cases c1 : l.length = l'.length
  · repeat (first
      | refine qv rfl (qp rfl) rfl rfl ?_ | refine TL_nil ?_ | refine T_seq ?_ | refine T_region ?_ | refine qcT rfl ?_ | refine qcF rfl ?_ | refine T_skip ?_
      | refine T_exit ?_ | refine T_ret ?_ | refine T_block ?_ | refine E_then ?_ | refine E_thenX ?_ | refine E_thenR ?_ | refine E_blockN ?_
      | refine E_blockR ?_ | refine E_blockX ?_ | refine E_blockO rfl ?_ | refine qv rfl (qlen Und.eq rfl) rfl rfl ?_
      | refine qv rfl (rr_lss rfl rfl (qT (by omega))) rfl rfl ?_ | refine qv rfl (rr_lss rfl rfl (qF (by omega))) rfl rfl ?_
      | refine qv rfl (rr_neq rfl rfl (qT (by omega))) rfl rfl ?_ | refine qv rfl (rr_neq rfl rfl (qF (by omega))) rfl rfl ?_
      | refine qv rfl (rr_add64 rfl rfl (by omega) (by omega) rfl) rfl rfl ?_)
    refine T_loop (ι := Nat) (fun k => k ≤ l.length ∧ l.take k = l'.take k) (fun k => [(0, .slice base l.length cap), (1, .slice base' l'.length cap'), (12, .int .i64 l.length), (13, .int .i64 (k : Int))]) (fun _ => []) (fun k => l.length - k) 0 ⟨by omega, rfl⟩ ⟨rfl, rfl, rfl, rfl, trivial⟩ rfl ?_
    rintro k ⟨h1, h2⟩
    by_cases c2 : k < l.length
    · obtain ⟨b, off, rfl, hr⟩ := hrd (by omega)
      obtain ⟨b', off', rfl, hr'⟩ := hrd' (by omega)
      have c2' : k < l'.length := by omega
      have hat := at_el (L := ([] : List Own)) SmIn_len hr c2
      have hat' := at_el (L := ([] : List Own)) SmIn_len hr' c2'
      have hv := hat 0 _ rfl
      have hv' := hat' 0 _ rfl
      clear hat hat'
      by_cases c3 : l[k] = l'[k]
      · repeat (first
          | refine qv rfl (qp rfl) rfl rfl ?_ | refine TL_nil ?_ | refine T_seq ?_ | refine T_region ?_ | refine qcT rfl ?_ | refine qcF rfl ?_ | refine T_skip ?_
          | refine T_exit ?_ | refine T_ret ?_ | refine T_block ?_ | refine E_then ?_ | refine E_thenX ?_ | refine E_thenR ?_ | refine E_blockN ?_
          | refine E_blockR ?_ | refine E_blockX ?_ | refine E_blockO rfl ?_ | refine qv rfl (qlen Und.eq rfl) rfl rfl ?_
          | refine qv rfl (rr_lss rfl rfl (qT (by omega))) rfl rfl ?_ | refine qv rfl (rr_lss rfl rfl (qF (by omega))) rfl rfl ?_
          | refine qv rfl (rr_neq rfl rfl (qT (by omega))) rfl rfl ?_ | refine qv rfl (rr_neq rfl rfl (qF (by omega))) rfl rfl ?_
          | refine qv rfl (rr_add64 rfl rfl (by omega) (by omega) rfl) rfl rfl ?_)
        refine T_draw 8 (List.replicate 8 true) rfl (by kernel_rfl) (by kernel_rfl) (by intro c a d v w h; cases d <;> exact h) ?_
        repeat (first
          | refine TM_valg rfl (qp rfl) rfl rfl ?_ | refine TM_valg rfl (rr_idxc Und.eq TyC.ty rfl rfl c2) rfl rfl ?_
          | refine TM_valg rfl (rr_idxc Und.eq TyC.ty rfl rfl c2') rfl rfl ?_ | refine TM_valg rfl (rr_load1 TyC.ty rfl hv) rfl rfl ?_
          | refine TM_valg rfl (rr_load1 TyC.ty rfl hv') rfl rfl ?_ | refine TM_valg rfl (qlen Und.eq rfl) rfl rfl ?_
          | refine TM_valg rfl (rr_lss rfl rfl (qT (by omega))) rfl rfl ?_ | refine TM_valg rfl (rr_lss rfl rfl (qF (by omega))) rfl rfl ?_
          | refine TM_valg rfl (rr_neq rfl rfl (qT (by omega))) rfl rfl ?_ | refine TM_valg rfl (rr_neq rfl rfl (qF (by omega))) rfl rfl ?_
          | refine TM_valg rfl (rr_add64 rfl rfl (by omega) (by omega) rfl) rfl rfl ?_ | refine TM_end ?_)
        repeat (first
          | refine qv rfl (qp rfl) rfl rfl ?_ | refine TL_nil ?_ | refine T_seq ?_ | refine T_region ?_ | refine qcT rfl ?_ | refine qcF rfl ?_ | refine T_skip ?_
          | refine T_exit ?_ | refine T_ret ?_ | refine T_block ?_ | refine E_then ?_ | refine E_thenX ?_ | refine E_thenR ?_ | refine E_blockN ?_
          | refine E_blockR ?_ | refine E_blockX ?_ | refine E_blockO rfl ?_ | refine qv rfl (rr_neq rfl rfl (decide_eq_false (by omega))) rfl rfl ?_
          | refine qv rfl (qlen Und.eq rfl) rfl rfl ?_ | refine qv rfl (rr_lss rfl rfl (qT (by omega))) rfl rfl ?_
          | refine qv rfl (rr_lss rfl rfl (qF (by omega))) rfl rfl ?_ | refine qv rfl (rr_neq rfl rfl (qT (by omega))) rfl rfl ?_
          | refine qv rfl (rr_neq rfl rfl (qF (by omega))) rfl rfl ?_ | refine qv rfl (rr_add64 rfl rfl (by omega) (by omega) rfl) rfl rfl ?_)
        exact E_round (k + 1) ⟨by omega, by rw [List.take_succ_eq_append_getElem c2, List.take_succ_eq_append_getElem c2', h2, c3]⟩ (by show l.length - (k + 1) < l.length - k; omega) ⟨rfl, rfl, rfl, rfl, trivial⟩ rfl
      · rw [decide_eq_false (fun h => c3 (by subst h; rfl))]
        repeat (first
          | refine qv rfl (qp rfl) rfl rfl ?_ | refine TL_nil ?_ | refine T_seq ?_ | refine T_region ?_ | refine qcT rfl ?_ | refine qcF rfl ?_ | refine T_skip ?_
          | refine T_exit ?_ | refine T_ret ?_ | refine T_block ?_ | refine E_then ?_ | refine E_thenX ?_ | refine E_thenR ?_ | refine E_blockN ?_
          | refine E_blockR ?_ | refine E_blockX ?_ | refine E_blockO rfl ?_ | refine qv rfl (qlen Und.eq rfl) rfl rfl ?_
          | refine qv rfl (rr_lss rfl rfl (qT (by omega))) rfl rfl ?_ | refine qv rfl (rr_lss rfl rfl (qF (by omega))) rfl rfl ?_
          | refine qv rfl (rr_neq rfl rfl (qT (by omega))) rfl rfl ?_ | refine qv rfl (rr_neq rfl rfl (qF (by omega))) rfl rfl ?_
          | refine qv rfl (rr_add64 rfl rfl (by omega) (by omega) rfl) rfl rfl ?_)
        refine T_draw 8 (List.replicate 8 true) rfl (by kernel_rfl) (by kernel_rfl) (by intro c a d v w h; cases d <;> exact h) ?_
        repeat (first
          | refine TM_valg rfl (qp rfl) rfl rfl ?_ | refine TM_valg rfl (rr_idxc Und.eq TyC.ty rfl rfl c2) rfl rfl ?_
          | refine TM_valg rfl (rr_idxc Und.eq TyC.ty rfl rfl c2') rfl rfl ?_ | refine TM_valg rfl (rr_load1 TyC.ty rfl hv) rfl rfl ?_
          | refine TM_valg rfl (rr_load1 TyC.ty rfl hv') rfl rfl ?_ | refine TM_valg rfl (qlen Und.eq rfl) rfl rfl ?_
          | refine TM_valg rfl (rr_lss rfl rfl (qT (by omega))) rfl rfl ?_ | refine TM_valg rfl (rr_lss rfl rfl (qF (by omega))) rfl rfl ?_
          | refine TM_valg rfl (rr_neq rfl rfl (qT (by omega))) rfl rfl ?_ | refine TM_valg rfl (rr_neq rfl rfl (qF (by omega))) rfl rfl ?_
          | refine TM_valg rfl (rr_add64 rfl rfl (by omega) (by omega) rfl) rfl rfl ?_ | refine TM_end ?_)
        repeat (first
          | refine qv rfl (qp rfl) rfl rfl ?_ | refine TL_nil ?_ | refine T_seq ?_ | refine T_region ?_ | refine qcT rfl ?_ | refine qcF rfl ?_ | refine T_skip ?_
          | refine T_exit ?_ | refine T_ret ?_ | refine T_block ?_ | refine E_then ?_ | refine E_thenX ?_ | refine E_thenR ?_ | refine E_blockN ?_
          | refine E_blockR ?_ | refine E_blockX ?_ | refine E_blockO rfl ?_ | refine qv rfl (rr_neq rfl rfl (decide_eq_true (by omega))) rfl rfl ?_
          | refine qv rfl (qlen Und.eq rfl) rfl rfl ?_ | refine qv rfl (rr_lss rfl rfl (qT (by omega))) rfl rfl ?_
          | refine qv rfl (rr_lss rfl rfl (qF (by omega))) rfl rfl ?_ | refine qv rfl (rr_neq rfl rfl (qT (by omega))) rfl rfl ?_
          | refine qv rfl (rr_neq rfl rfl (qF (by omega))) rfl rfl ?_ | refine qv rfl (rr_add64 rfl rfl (by omega) (by omega) rfl) rfl rfl ?_)
        exact E_ret1 rfl rfl fun w hm => hm.ret
    · have e : l = l' := by
        rw [List.take_of_length_le (by omega), List.take_of_length_le (by omega)] at h2; exact h2
      rw [decide_eq_true e]
      repeat (first
        | refine qv rfl (qp rfl) rfl rfl ?_ | refine TL_nil ?_ | refine T_seq ?_ | refine T_region ?_ | refine qcT rfl ?_ | refine qcF rfl ?_ | refine T_skip ?_
        | refine T_exit ?_ | refine T_ret ?_ | refine T_block ?_ | refine E_then ?_ | refine E_thenX ?_ | refine E_thenR ?_ | refine E_blockN ?_
        | refine E_blockR ?_ | refine E_blockX ?_ | refine E_blockO rfl ?_ | refine qv rfl (qlen Und.eq rfl) rfl rfl ?_
        | refine qv rfl (rr_lss rfl rfl (qT (by omega))) rfl rfl ?_ | refine qv rfl (rr_lss rfl rfl (qF (by omega))) rfl rfl ?_
        | refine qv rfl (rr_neq rfl rfl (qT (by omega))) rfl rfl ?_ | refine qv rfl (rr_neq rfl rfl (qF (by omega))) rfl rfl ?_
        | refine qv rfl (rr_add64 rfl rfl (by omega) (by omega) rfl) rfl rfl ?_)
      exact E_ret1 rfl rfl fun w hm => hm.ret
  · rw [decide_eq_false (fun h => c1 (by rw [h]))]
    repeat (first
      | refine qv rfl (qp rfl) rfl rfl ?_ | refine TL_nil ?_ | refine T_seq ?_ | refine T_region ?_ | refine qcT rfl ?_ | refine qcF rfl ?_ | refine T_skip ?_
      | refine T_exit ?_ | refine T_ret ?_ | refine T_block ?_ | refine E_then ?_ | refine E_thenX ?_ | refine E_thenR ?_ | refine E_blockN ?_
      | refine E_blockR ?_ | refine E_blockX ?_ | refine E_blockO rfl ?_ | refine qv rfl (qlen Und.eq rfl) rfl rfl ?_
      | refine qv rfl (rr_lss rfl rfl (qT (by omega))) rfl rfl ?_ | refine qv rfl (rr_lss rfl rfl (qF (by omega))) rfl rfl ?_
      | refine qv rfl (rr_neq rfl rfl (qT (by omega))) rfl rfl ?_ | refine qv rfl (rr_neq rfl rfl (qF (by omega))) rfl rfl ?_
      | refine qv rfl (rr_add64 rfl rfl (by omega) (by omega) rfl) rfl rfl ?_)
    exact E_ret1 rfl rfl fun w hm => hm.ret
set_option maxHeartbeats 2000000 in
theorem cloneSmIn_calls (v : Value) (l : List Int) (w : World) (hs : Sl w v l.length (l.flatMap kit.intC)) (hl : l.length * 8 ≤ 140737488355328) :
    Calls Try.prog 24 #[v] w (Meets (rowS 3 1 l.length (l.flatMap kit.intC) id) w) := by
  obtain ⟨base, cap, rfl, hcap, hmax, hrd⟩ := hs
  unfold maxLen at hmax
  refine enter (args := [.slice base l.length cap]) (n := 8) Try.func24 rfl rfl rfl ?_
  have hsl : ∀ w', Gr w w' → Sl w' (.slice base l.length cap) l.length (l.flatMap kit.intC) := fun w' hg => Sl.gr ⟨base, cap, rfl, hcap, hmax, hrd⟩ hg
  clear hrd
  cases base with
  | none =>
    repeat (first
      | refine qv rfl (qp rfl) rfl rfl ?_ | refine TL_nil ?_ | refine T_seq ?_ | refine T_region ?_ | refine qcT rfl ?_ | refine qcF rfl ?_ | refine T_skip ?_
      | refine T_ret ?_ | refine E_then ?_ | refine E_thenR ?_ | refine qv rfl (rr_slnil Und.eq rfl rfl rfl) rfl rfl ?_)
    have h0 : l = [] := by
      cases l with
      | nil => rfl
      | cons x l => obtain ⟨_, _, h, _, _, h2⟩ := hsl w (Gr.refl w); simp only [Value.slice.injEq] at h; obtain ⟨rfl, _⟩ := h; obtain ⟨b, off, h, _⟩ := h2 (by simp); cases h
    subst h0
    refine E_nilrow 3 1 ?_
    exact E_ret1 rfl rfl fun w hm => hm.meets (S := rowS 3 1 0 [] id) _ trivial [0] (by decide) rfl
  | some p =>
    repeat (first
      | refine qv rfl (qp rfl) rfl rfl ?_ | refine TL_nil ?_ | refine T_seq ?_ | refine T_region ?_ | refine qcT rfl ?_ | refine qcF rfl ?_ | refine T_skip ?_
      | refine T_ret ?_ | refine E_then ?_ | refine E_thenR ?_ | refine qv rfl (rr_slnil Und.eq rfl rfl rfl) rfl rfl ?_)
    refine TL_lit0 rfl fun g => ?_
    repeat (first
      | refine qv rfl (qp rfl) rfl rfl ?_ | refine TL_nil ?_ | refine T_seq ?_ | refine T_region ?_ | refine qcT rfl ?_ | refine qcF rfl ?_ | refine T_skip ?_
      | refine T_ret ?_ | refine E_then ?_ | refine E_thenR ?_)
    refine TL_appSl (i := 0) rfl (fun w' hm => hsl w' hm.below) rfl rfl (len_el SmIn_len l) (one_int l) (by omega) (by omega) rfl fun v' => ?_
    rw [List.nil_append]
    repeat (first
      | refine qv rfl (qp rfl) rfl rfl ?_ | refine TL_nil ?_ | refine T_seq ?_ | refine T_region ?_ | refine qcT rfl ?_ | refine qcF rfl ?_ | refine T_skip ?_
      | refine T_ret ?_ | refine E_then ?_ | refine E_thenR ?_)
    refine E_ret1 rfl rfl fun w hm => ?_
    exact hm.meets (S := rowS 3 1 l.length (l.flatMap kit.intC) id) v' trivial [0] (by decide) (by simp [rowS])
end Go.Proofs.Ytbiacehgfmgfdaa.eng
