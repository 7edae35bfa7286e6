/- Functions of package slices at api.Sym (printed by program). -/
import Derived.Test.YtnicebdkejkieaaSym
import Derived.Test.YtnicebdkejkieaaMgB
namespace Go.Proofs.Ytnicebdkejkieaa.eng
open Go.RowKit kit mix gramL
theorem SymS_len (a : Sym) : (symC a).length = 2 := rfl
set_option maxHeartbeats 2000000 in
theorem equalSymS_calls (v v' : Value) (l l' : List Sym) (w : World) (hs : Sl w v l.length (l.flatMap symC)) (hs' : Sl w v' l'.length (l'.flatMap symC)) :
    Calls Try.prog 60 #[v, v'] w (Meets (ret (.bool (decide (l = l')))) w) := by
  obtain ⟨base, cap, rfl, hcap, hmax, hrd⟩ := hs
  obtain ⟨base', cap', rfl, hcap', hmax', hrd'⟩ := hs'
  unfold maxLen at hmax hmax'
  refine enter (args := [.slice base l.length cap, .slice base' l'.length cap']) (n := 26) Try.func60 rfl rfl rfl ?_
  by_cases c1 : l.length = l'.length
  · repeat (first
      | refine qv rfl (qp rfl) rfl rfl ?_ | refine TL_nil ?_ | refine T_seq ?_ | refine T_region ?_ | refine qcT rfl ?_ | refine qcF rfl ?_ | refine T_skip ?_
      | refine T_exit ?_ | refine T_ret ?_ | refine T_block ?_ | refine E_then ?_ | refine E_thenX ?_ | refine E_thenR ?_ | refine E_blockN ?_
      | refine E_blockR ?_ | refine E_blockX ?_ | refine E_blockO rfl ?_ | refine qv rfl (qlen Und.eq rfl) rfl rfl ?_
      | refine qv rfl (rr_lss rfl rfl (qT (by omega))) rfl rfl ?_ | refine qv rfl (rr_lss rfl rfl (qF (by omega))) rfl rfl ?_
      | refine qv rfl (rr_neq rfl rfl (qT (by omega))) rfl rfl ?_ | refine qv rfl (rr_neq rfl rfl (qF (by omega))) rfl rfl ?_
      | refine qv rfl (rr_add64 rfl rfl (by omega) (by omega) rfl) rfl rfl ?_)
    refine T_loop (ι := Nat) (fun k => k ≤ l.length ∧ l.take k = l'.take k) (fun k => [(0, .slice base l.length cap), (1, .slice base' l'.length cap'), (12, .int .i64 l.length), (13, .int .i64 (k : Int))]) (fun _ => []) (fun k => l.length - k) 0 ⟨by omega, rfl⟩ ⟨rfl, rfl, rfl, rfl, trivial⟩ rfl ?_
    rintro k ⟨h1, h2⟩
    by_cases c2 : k < l.length
    · obtain ⟨b, off, rfl, hr⟩ := hrd (by omega)
      obtain ⟨b', off', rfl, hr'⟩ := hrd' (by omega)
      have c2' : k < l'.length := by omega
      have hat := at_el (L := ([] : List Own)) SymS_len hr c2
      have hat' := at_el (L := ([] : List Own)) SymS_len hr' c2'
      have heq := eq_sym l[k] l'[k]
      by_cases c3 : l[k] = l'[k]
      · rw [decide_eq_true c3] at heq
        repeat (first
          | refine qv rfl (qp rfl) rfl rfl ?_ | refine TL_nil ?_ | refine T_seq ?_ | refine T_region ?_ | refine qcT rfl ?_ | refine qcF rfl ?_ | refine T_skip ?_
          | refine T_exit ?_ | refine T_ret ?_ | refine T_block ?_ | refine E_then ?_ | refine E_thenX ?_ | refine E_thenR ?_ | refine E_blockN ?_
          | refine E_blockR ?_ | refine E_blockX ?_ | refine E_blockO rfl ?_ | refine qv rfl (qlen Und.eq rfl) rfl rfl ?_
          | refine qv rfl (rr_lss rfl rfl (qT (by omega))) rfl rfl ?_ | refine qv rfl (rr_lss rfl rfl (qF (by omega))) rfl rfl ?_
          | refine qv rfl (rr_neq rfl rfl (qT (by omega))) rfl rfl ?_ | refine qv rfl (rr_neq rfl rfl (qF (by omega))) rfl rfl ?_
          | refine qv rfl (rr_add64 rfl rfl (by omega) (by omega) rfl) rfl rfl ?_)
        refine T_draw 8 (List.replicate 8 true) rfl (by kernel_rfl) (by kernel_rfl) (by intro c a d v w h; cases d <;> exact h) ?_
        repeat (first
          | refine TM_valg rfl (qp rfl) rfl rfl ?_ | refine TM_valg rfl (rr_idxc Und.eq TyC.ty rfl rfl c2) rfl rfl ?_
          | refine TM_valg rfl (rr_idxc Und.eq TyC.ty rfl rfl c2') rfl rfl ?_ | refine TM_valg rfl (rr_loadN TyC.ty rfl rfl hat) rfl rfl ?_
          | refine TM_valg rfl (rr_loadN TyC.ty rfl rfl hat') rfl rfl ?_ | refine TM_valg rfl (qlen Und.eq rfl) rfl rfl ?_
          | refine TM_valg rfl (rr_lss rfl rfl (qT (by omega))) rfl rfl ?_ | refine TM_valg rfl (rr_lss rfl rfl (qF (by omega))) rfl rfl ?_
          | refine TM_valg rfl (rr_neq rfl rfl (qT (by omega))) rfl rfl ?_ | refine TM_valg rfl (rr_neq rfl rfl (qF (by omega))) rfl rfl ?_
          | refine TM_valg rfl (rr_add64 rfl rfl (by omega) (by omega) rfl) rfl rfl ?_ | refine TM_end ?_)
        repeat (first
          | refine qv rfl (qp rfl) rfl rfl ?_ | refine TL_nil ?_ | refine T_seq ?_ | refine T_region ?_ | refine qcT rfl ?_ | refine qcF rfl ?_ | refine T_skip ?_
          | refine T_exit ?_ | refine T_ret ?_ | refine T_block ?_ | refine E_then ?_ | refine E_thenX ?_ | refine E_thenR ?_ | refine E_blockN ?_
          | refine E_blockR ?_ | refine E_blockX ?_ | refine E_blockO rfl ?_ | refine qv rfl (rr_aggne rfl rfl (by kernel_rfl) heq rfl) rfl rfl ?_
          | refine qv rfl (qlen Und.eq rfl) rfl rfl ?_ | refine qv rfl (rr_lss rfl rfl (qT (by omega))) rfl rfl ?_
          | refine qv rfl (rr_lss rfl rfl (qF (by omega))) rfl rfl ?_ | refine qv rfl (rr_neq rfl rfl (qT (by omega))) rfl rfl ?_
          | refine qv rfl (rr_neq rfl rfl (qF (by omega))) rfl rfl ?_ | refine qv rfl (rr_add64 rfl rfl (by omega) (by omega) rfl) rfl rfl ?_)
        exact E_round (k + 1) ⟨by omega, by rw [List.take_succ_eq_append_getElem c2, List.take_succ_eq_append_getElem c2', h2, c3]⟩ (by show l.length - (k + 1) < l.length - k; omega) ⟨rfl, rfl, rfl, rfl, trivial⟩ rfl
      · rw [decide_eq_false c3] at heq
        rw [decide_eq_false (fun h => c3 (by subst h; rfl))]
        repeat (first
          | refine qv rfl (qp rfl) rfl rfl ?_ | refine TL_nil ?_ | refine T_seq ?_ | refine T_region ?_ | refine qcT rfl ?_ | refine qcF rfl ?_ | refine T_skip ?_
          | refine T_exit ?_ | refine T_ret ?_ | refine T_block ?_ | refine E_then ?_ | refine E_thenX ?_ | refine E_thenR ?_ | refine E_blockN ?_
          | refine E_blockR ?_ | refine E_blockX ?_ | refine E_blockO rfl ?_ | refine qv rfl (qlen Und.eq rfl) rfl rfl ?_
          | refine qv rfl (rr_lss rfl rfl (qT (by omega))) rfl rfl ?_ | refine qv rfl (rr_lss rfl rfl (qF (by omega))) rfl rfl ?_
          | refine qv rfl (rr_neq rfl rfl (qT (by omega))) rfl rfl ?_ | refine qv rfl (rr_neq rfl rfl (qF (by omega))) rfl rfl ?_
          | refine qv rfl (rr_add64 rfl rfl (by omega) (by omega) rfl) rfl rfl ?_)
        refine T_draw 8 (List.replicate 8 true) rfl (by kernel_rfl) (by kernel_rfl) (by intro c a d v w h; cases d <;> exact h) ?_
        repeat (first
          | refine TM_valg rfl (qp rfl) rfl rfl ?_ | refine TM_valg rfl (rr_idxc Und.eq TyC.ty rfl rfl c2) rfl rfl ?_
          | refine TM_valg rfl (rr_idxc Und.eq TyC.ty rfl rfl c2') rfl rfl ?_ | refine TM_valg rfl (rr_loadN TyC.ty rfl rfl hat) rfl rfl ?_
          | refine TM_valg rfl (rr_loadN TyC.ty rfl rfl hat') rfl rfl ?_ | refine TM_valg rfl (qlen Und.eq rfl) rfl rfl ?_
          | refine TM_valg rfl (rr_lss rfl rfl (qT (by omega))) rfl rfl ?_ | refine TM_valg rfl (rr_lss rfl rfl (qF (by omega))) rfl rfl ?_
          | refine TM_valg rfl (rr_neq rfl rfl (qT (by omega))) rfl rfl ?_ | refine TM_valg rfl (rr_neq rfl rfl (qF (by omega))) rfl rfl ?_
          | refine TM_valg rfl (rr_add64 rfl rfl (by omega) (by omega) rfl) rfl rfl ?_ | refine TM_end ?_)
        repeat (first
          | refine qv rfl (qp rfl) rfl rfl ?_ | refine TL_nil ?_ | refine T_seq ?_ | refine T_region ?_ | refine qcT rfl ?_ | refine qcF rfl ?_ | refine T_skip ?_
          | refine T_exit ?_ | refine T_ret ?_ | refine T_block ?_ | refine E_then ?_ | refine E_thenX ?_ | refine E_thenR ?_ | refine E_blockN ?_
          | refine E_blockR ?_ | refine E_blockX ?_ | refine E_blockO rfl ?_ | refine qv rfl (rr_aggne rfl rfl (by kernel_rfl) heq rfl) rfl rfl ?_
          | refine qv rfl (qlen Und.eq rfl) rfl rfl ?_ | refine qv rfl (rr_lss rfl rfl (qT (by omega))) rfl rfl ?_
          | refine qv rfl (rr_lss rfl rfl (qF (by omega))) rfl rfl ?_ | refine qv rfl (rr_neq rfl rfl (qT (by omega))) rfl rfl ?_
          | refine qv rfl (rr_neq rfl rfl (qF (by omega))) rfl rfl ?_ | refine qv rfl (rr_add64 rfl rfl (by omega) (by omega) rfl) rfl rfl ?_)
        exact E_ret1 rfl rfl fun w hm => hm.ret
    · have e : l = l' := by
        rw [List.take_of_length_le (by omega), List.take_of_length_le (by omega)] at h2; exact h2
      rw [decide_eq_true e]
      repeat (first
        | refine qv rfl (qp rfl) rfl rfl ?_ | refine TL_nil ?_ | refine T_seq ?_ | refine T_region ?_ | refine qcT rfl ?_ | refine qcF rfl ?_ | refine T_skip ?_
        | refine T_exit ?_ | refine T_ret ?_ | refine T_block ?_ | refine E_then ?_ | refine E_thenX ?_ | refine E_thenR ?_ | refine E_blockN ?_
        | refine E_blockR ?_ | refine E_blockX ?_ | refine E_blockO rfl ?_ | refine qv rfl (qlen Und.eq rfl) rfl rfl ?_
        | refine qv rfl (rr_lss rfl rfl (qT (by omega))) rfl rfl ?_ | refine qv rfl (rr_lss rfl rfl (qF (by omega))) rfl rfl ?_
        | refine qv rfl (rr_neq rfl rfl (qT (by omega))) rfl rfl ?_ | refine qv rfl (rr_neq rfl rfl (qF (by omega))) rfl rfl ?_
        | refine qv rfl (rr_add64 rfl rfl (by omega) (by omega) rfl) rfl rfl ?_)
      exact E_ret1 rfl rfl fun w hm => hm.ret
  · rw [decide_eq_false (fun h => c1 (by rw [h]))]
    repeat (first
      | refine qv rfl (qp rfl) rfl rfl ?_ | refine TL_nil ?_ | refine T_seq ?_ | refine T_region ?_ | refine qcT rfl ?_ | refine qcF rfl ?_ | refine T_skip ?_
      | refine T_exit ?_ | refine T_ret ?_ | refine T_block ?_ | refine E_then ?_ | refine E_thenX ?_ | refine E_thenR ?_ | refine E_blockN ?_
      | refine E_blockR ?_ | refine E_blockX ?_ | refine E_blockO rfl ?_ | refine qv rfl (qlen Und.eq rfl) rfl rfl ?_
      | refine qv rfl (rr_lss rfl rfl (qT (by omega))) rfl rfl ?_ | refine qv rfl (rr_lss rfl rfl (qF (by omega))) rfl rfl ?_
      | refine qv rfl (rr_neq rfl rfl (qT (by omega))) rfl rfl ?_ | refine qv rfl (rr_neq rfl rfl (qF (by omega))) rfl rfl ?_
      | refine qv rfl (rr_add64 rfl rfl (by omega) (by omega) rfl) rfl rfl ?_)
    exact E_ret1 rfl rfl fun w hm => hm.ret
set_option maxHeartbeats 2000000 in
theorem indexFuncSymS_calls (v : Value) (l : List Sym) (w : World) (hs : Sl w v l.length (l.flatMap symC)) (fid : FuncId) (first cp : Array Value) (p : Sym → Bool) (hen : Enters Try.prog fid)
    (hp : ∀ a ∈ l, ∀ w', Gr w w' → Calls Try.prog fid (first ++ #[(.agg (symC a).toArray)] ++ cp) w' (Meets (ret (.bool (p a))) w')) :
    Calls Try.prog 71 #[v, .func (.func fid) first cp] w (Meets (ret (.int .i64 (idxF p l))) w) := by
  obtain ⟨base, cap, rfl, hcap, hmax, hrd⟩ := hs
  unfold maxLen at hmax
  refine enter (args := [.slice base l.length cap, .func (.func fid) first cp]) (n := 19) Try.func71 rfl rfl rfl ?_
  repeat (first
    | refine qv rfl (qp rfl) rfl rfl ?_ | refine TL_nil ?_ | refine T_seq ?_ | refine T_region ?_ | refine qcT rfl ?_ | refine qcF rfl ?_ | refine T_skip ?_
    | refine T_exit ?_ | refine T_ret ?_ | refine T_block ?_ | refine E_then ?_ | refine E_thenX ?_ | refine E_thenR ?_ | refine E_blockN ?_
    | refine E_blockR ?_ | refine E_blockX ?_ | refine E_blockO rfl ?_ | refine qv rfl (qlen Und.eq rfl) rfl rfl ?_
    | refine qv rfl (rr_lss rfl rfl (qT (by omega))) rfl rfl ?_ | refine qv rfl (rr_lss rfl rfl (qF (by omega))) rfl rfl ?_
    | refine qv rfl (rr_add64 rfl rfl (by omega) (by omega) rfl) rfl rfl ?_)
  refine T_loop (ι := Nat) (fun k => k ≤ l.length ∧ ∀ j (hj : j < l.length), j < k → p l[j] = false) (fun k => [(0, .slice base l.length cap), (1, .func (.func fid) first cp), (7, .int .i64 l.length), (8, .int .i64 (k : Int))]) (fun _ => []) (fun k => l.length - k) 0 ⟨by omega, fun j hj h => by omega⟩ (by repeat' (first | exact True.intro | refine And.intro rfl ?_)) rfl ?_
  rintro k ⟨h1, h2⟩
  by_cases c2 : k < l.length
  · obtain ⟨b, off, rfl, hr⟩ := hrd (by omega)
    have hat := at_el (L := ([] : List Own)) SymS_len hr c2
    have hcl := hp l[k] (List.getElem_mem c2)
    by_cases c3 : p l[k] = true
    · rw [idxF_some c2 c3 h2]
      rw [c3] at hcl
      clear hp h2 hrd
      repeat (first
        | refine qv rfl (qp rfl) rfl rfl ?_ | refine TL_nil ?_ | refine T_seq ?_ | refine T_region ?_ | refine qcT rfl ?_ | refine qcF rfl ?_ | refine T_skip ?_
        | refine T_exit ?_ | refine T_ret ?_ | refine T_block ?_ | refine E_then ?_ | refine E_thenX ?_ | refine E_thenR ?_ | refine E_blockN ?_
        | refine E_blockR ?_ | refine E_blockX ?_ | refine E_blockO rfl ?_ | refine qv rfl (rr_idxc Und.eq TyC.ty rfl rfl c2) rfl rfl ?_
        | refine qv rfl (rr_loadN TyC.ty rfl rfl hat) rfl rfl ?_ | refine qv rfl (qlen Und.eq rfl) rfl rfl ?_
        | refine qv rfl (rr_lss rfl rfl (qT (by omega))) rfl rfl ?_ | refine qv rfl (rr_lss rfl rfl (qF (by omega))) rfl rfl ?_
        | refine qv rfl (rr_add64 rfl rfl (by omega) (by omega) rfl) rfl rfl ?_)
      refine TL_call (he1c hen rfl rfl) (fun w hm => hcl w hm.below) rfl rfl rfl ?_
      intro _ _
      repeat (first
        | refine qv rfl (qp rfl) rfl rfl ?_ | refine TL_nil ?_ | refine T_seq ?_ | refine T_region ?_ | refine qcT rfl ?_ | refine qcF rfl ?_ | refine T_skip ?_
        | refine T_exit ?_ | refine T_ret ?_ | refine T_block ?_ | refine E_then ?_ | refine E_thenX ?_ | refine E_thenR ?_ | refine E_blockN ?_
        | refine E_blockR ?_ | refine E_blockX ?_ | refine E_blockO rfl ?_ | refine qv rfl (qlen Und.eq rfl) rfl rfl ?_
        | refine qv rfl (rr_lss rfl rfl (qT (by omega))) rfl rfl ?_ | refine qv rfl (rr_lss rfl rfl (qF (by omega))) rfl rfl ?_
        | refine qv rfl (rr_add64 rfl rfl (by omega) (by omega) rfl) rfl rfl ?_)
      exact E_ret1 rfl rfl fun w hm => hm.ret
    · have c3' : p l[k] = false := by simpa using c3
      rw [c3'] at hcl
      clear hp hrd c3
      repeat (first
        | refine qv rfl (qp rfl) rfl rfl ?_ | refine TL_nil ?_ | refine T_seq ?_ | refine T_region ?_ | refine qcT rfl ?_ | refine qcF rfl ?_ | refine T_skip ?_
        | refine T_exit ?_ | refine T_ret ?_ | refine T_block ?_ | refine E_then ?_ | refine E_thenX ?_ | refine E_thenR ?_ | refine E_blockN ?_
        | refine E_blockR ?_ | refine E_blockX ?_ | refine E_blockO rfl ?_ | refine qv rfl (rr_idxc Und.eq TyC.ty rfl rfl c2) rfl rfl ?_
        | refine qv rfl (rr_loadN TyC.ty rfl rfl hat) rfl rfl ?_ | refine qv rfl (qlen Und.eq rfl) rfl rfl ?_
        | refine qv rfl (rr_lss rfl rfl (qT (by omega))) rfl rfl ?_ | refine qv rfl (rr_lss rfl rfl (qF (by omega))) rfl rfl ?_
        | refine qv rfl (rr_add64 rfl rfl (by omega) (by omega) rfl) rfl rfl ?_)
      refine TL_call (he1c hen rfl rfl) (fun w hm => hcl w hm.below) rfl rfl rfl ?_
      intro _ _
      repeat (first
        | refine qv rfl (qp rfl) rfl rfl ?_ | refine TL_nil ?_ | refine T_seq ?_ | refine T_region ?_ | refine qcT rfl ?_ | refine qcF rfl ?_ | refine T_skip ?_
        | refine T_exit ?_ | refine T_ret ?_ | refine T_block ?_ | refine E_then ?_ | refine E_thenX ?_ | refine E_thenR ?_ | refine E_blockN ?_
        | refine E_blockR ?_ | refine E_blockX ?_ | refine E_blockO rfl ?_ | refine qv rfl (qlen Und.eq rfl) rfl rfl ?_
        | refine qv rfl (rr_lss rfl rfl (qT (by omega))) rfl rfl ?_ | refine qv rfl (rr_lss rfl rfl (qF (by omega))) rfl rfl ?_
        | refine qv rfl (rr_add64 rfl rfl (by omega) (by omega) rfl) rfl rfl ?_)
      exact E_round (k + 1) ⟨by omega, fun j hj h => if e : j < k then h2 j hj e else (by obtain rfl : j = k := (by omega); exact c3')⟩ (by show l.length - (k + 1) < l.length - k; omega) (by repeat' (first | exact True.intro | refine And.intro rfl ?_)) rfl
  · rw [idxF_none fun j hj => h2 j hj (by omega)]
    clear hp h2 hrd
    repeat (first
      | refine qv rfl (qp rfl) rfl rfl ?_ | refine TL_nil ?_ | refine T_seq ?_ | refine T_region ?_ | refine qcT rfl ?_ | refine qcF rfl ?_ | refine T_skip ?_
      | refine T_exit ?_ | refine T_ret ?_ | refine T_block ?_ | refine E_then ?_ | refine E_thenX ?_ | refine E_thenR ?_ | refine E_blockN ?_
      | refine E_blockR ?_ | refine E_blockX ?_ | refine E_blockO rfl ?_ | refine qv rfl (qlen Und.eq rfl) rfl rfl ?_
      | refine qv rfl (rr_lss rfl rfl (qT (by omega))) rfl rfl ?_ | refine qv rfl (rr_lss rfl rfl (qF (by omega))) rfl rfl ?_
      | refine qv rfl (rr_add64 rfl rfl (by omega) (by omega) rfl) rfl rfl ?_)
    exact E_ret1 rfl rfl fun w hm => hm.ret
theorem containsFuncSymS_calls (v : Value) (l : List Sym) (w : World) (hs : Sl w v l.length (l.flatMap symC)) (fid : FuncId) (first cp : Array Value) (p : Sym → Bool) (hen : Enters Try.prog fid)
    (hp : ∀ a ∈ l, ∀ w', Gr w w' → Calls Try.prog fid (first ++ #[(.agg (symC a).toArray)] ++ cp) w' (Meets (ret (.bool (p a))) w')) :
    Calls Try.prog 37 #[v, .func (.func fid) first cp] w (Meets (ret (.bool (l.any p))) w) := by
  refine enter (args := [v, .func (.func fid) first cp]) (n := 9) Try.func37 rfl rfl rfl ?_
  have hh := fun w' (hg : Gr w w') => indexFuncSymS_calls v l w' (hs.gr hg) fid first cp p hen fun a ha w'' hg' => hp a ha w'' (hg.trans hg')
  have hr := idxF_range p l
  rw [← idxF_any p l]
  generalize idxF p l = r at *
  repeat (first
    | refine qv rfl (qp rfl) rfl rfl ?_ | refine TL_nil ?_ | refine T_seq ?_ | refine T_region ?_ | refine T_ret ?_ | refine E_then ?_ | refine E_thenR ?_
    | refine qv rfl (rr_geq rfl rfl (qT (by omega))) rfl rfl ?_ | refine qv rfl (rr_geq rfl rfl (qF (by omega))) rfl rfl ?_)
  refine TL_call (he2 EntersC.en rfl rfl rfl) (fun w hm => hh _ hm.below) rfl rfl rfl ?_
  intro _ _
  repeat (first
    | refine qv rfl (qp rfl) rfl rfl ?_ | refine TL_nil ?_ | refine T_seq ?_ | refine T_region ?_ | refine T_ret ?_ | refine E_then ?_ | refine E_thenR ?_
    | refine qv rfl (rr_geq rfl rfl rfl) rfl rfl ?_ | refine qv rfl (rr_geq rfl rfl (qT (by omega))) rfl rfl ?_
    | refine qv rfl (rr_geq rfl rfl (qF (by omega))) rfl rfl ?_)
  exact E_ret1 rfl rfl fun w hm => hm.ret
set_option maxHeartbeats 2000000 in
theorem cloneSymS_calls (v : Value) (l : List Sym) (w : World) (hs : Sl w v l.length (l.flatMap symC)) (hl : l.length * 16 ≤ 140737488355328) :
    Calls Try.prog 56 #[v] w (Meets (rowS 58 2 l.length (l.flatMap symC) id) w) := by
  obtain ⟨base, cap, rfl, hcap, hmax, hrd⟩ := hs
  unfold maxLen at hmax
  refine enter (args := [.slice base l.length cap]) (n := 8) Try.func56 rfl rfl rfl ?_
  have hsl : ∀ w', Gr w w' → Sl w' (.slice base l.length cap) l.length (l.flatMap symC) := fun w' hg => Sl.gr ⟨base, cap, rfl, hcap, hmax, hrd⟩ hg
  clear hrd
  cases base with
  | none =>
    repeat (first
      | refine qv rfl (qp rfl) rfl rfl ?_ | refine TL_nil ?_ | refine T_seq ?_ | refine T_region ?_ | refine qcT rfl ?_ | refine qcF rfl ?_ | refine T_skip ?_
      | refine T_ret ?_ | refine E_then ?_ | refine E_thenR ?_ | refine qv rfl (rr_slnil Und.eq rfl rfl rfl) rfl rfl ?_)
    have h0 : l = [] := by
      cases l with
      | nil => rfl
      | cons x l => obtain ⟨_, _, h, _, _, h2⟩ := hsl w (Gr.refl w); simp only [Value.slice.injEq] at h; obtain ⟨rfl, _⟩ := h; obtain ⟨b, off, h, _⟩ := h2 (by simp); cases h
    subst h0
    refine E_nilrow 58 2 ?_
    exact E_ret1 rfl rfl fun w hm => hm.meets (S := rowS 58 2 0 [] id) _ trivial [0] (by decide) rfl
  | some p =>
    repeat (first
      | refine qv rfl (qp rfl) rfl rfl ?_ | refine TL_nil ?_ | refine T_seq ?_ | refine T_region ?_ | refine qcT rfl ?_ | refine qcF rfl ?_ | refine T_skip ?_
      | refine T_ret ?_ | refine E_then ?_ | refine E_thenR ?_ | refine qv rfl (rr_slnil Und.eq rfl rfl rfl) rfl rfl ?_)
    refine TL_lit0 rfl fun g => ?_
    repeat (first
      | refine qv rfl (qp rfl) rfl rfl ?_ | refine TL_nil ?_ | refine T_seq ?_ | refine T_region ?_ | refine qcT rfl ?_ | refine qcF rfl ?_ | refine T_skip ?_
      | refine T_ret ?_ | refine E_then ?_ | refine E_thenR ?_)
    refine TL_appSl (i := 0) rfl (fun w' hm => hsl w' hm.below) rfl rfl (len_el SymS_len l) (one_sym l) (by omega) (by omega) rfl fun v' => ?_
    rw [List.nil_append]
    repeat (first
      | refine qv rfl (qp rfl) rfl rfl ?_ | refine TL_nil ?_ | refine T_seq ?_ | refine T_region ?_ | refine qcT rfl ?_ | refine qcF rfl ?_ | refine T_skip ?_
      | refine T_ret ?_ | refine E_then ?_ | refine E_thenR ?_)
    refine E_ret1 rfl rfl fun w hm => ?_
    exact hm.meets (S := rowS 58 2 l.length (l.flatMap symC) id) v' trivial [0] (by decide) (by simp [rowS])
theorem revASymS {l X : List Sym} {i : Nat} (hX : X.length = l.length) (h : ∀ q, q < l.length → X[q]? = if q < i ∨ l.length - i ≤ q then l[l.length - 1 - q]? else l[q]?) (h0 : i < l.length - 1 - i) (x y : Sym) (hx : X[i]? = some x) (hy : X[l.length - 1 - i]? = some y) :
    ∀ q, q < l.length → ((X.set i y).set (l.length - 1 - i) x)[q]? = if q < i + 1 ∨ l.length - (i + 1) ≤ q then l[l.length - 1 - q]? else l[q]? := by
  intro q hq
  rw [List.getElem?_set]
  by_cases c1 : l.length - 1 - i = q
  · rw [if_pos c1, if_pos (by simp; omega), if_pos (by omega), ← hx, h i (by omega), if_neg (by omega)]
    congr 1; omega
  · rw [if_neg c1, List.getElem?_set]
    by_cases c2 : i = q
    · rw [if_pos c2, if_pos (by omega), if_pos (by omega), ← hy, h _ (by omega), if_neg (by omega)]
      congr 1; omega
    · rw [if_neg c2, h q hq]
      by_cases c3 : q < i ∨ l.length - i ≤ q
      · rw [if_pos c3, if_pos (by omega)]
      · rw [if_neg c3, if_neg (by omega)]
theorem revBSymS {l X : List Sym} {i : Nat} (hX : X.length = l.length) (h : ∀ q, q < l.length → X[q]? = if q < i ∨ l.length - i ≤ q then l[l.length - 1 - q]? else l[q]?) (h0 : ¬ i < l.length - 1 - i) : X = l.reverse := by
  apply List.ext_getElem?
  intro q
  by_cases hq : q < l.length
  · rw [h q hq, List.getElem?_reverse hq]
    by_cases c3 : q < i ∨ l.length - i ≤ q
    · rw [if_pos c3]
    · rw [if_neg c3]; congr 1; omega
  · rw [List.getElem?_eq_none (by omega), List.getElem?_eq_none (by simp; omega)]
set_option maxHeartbeats 2000000 in
theorem reverseSymS_calls (v : Value) (l : List Sym) (w : World) (B : Base) (hm : Mem B [rowO 58 2 v l.length (l.flatMap symC)] w) (hn : l.length ≤ 9223372036854775807) :
    Calls Try.prog 57 #[v] w (MeetsB ⟨fun (_ : Unit) => True, fun _ => .tuple #[], fun _ => [rowO 58 2 v l.length (l.reverse.flatMap symC)]⟩ B) := by
  have h1 : ∀ a, (symC a).all Value.oneCell' = true := fun a => List.all_eq_true.2 fun u hu => one_sym [a] u (by simpa using hu)
  refine enterB hm (args := [v]) (n := 28) Try.func57 rfl rfl rfl ?_
  refine T_rowc (i := 0) rfl (fun hv h0 => ?_) (fun g cap hv => ?_)
  · have hl : l = [] := List.eq_nil_of_length_eq_zero h0
    subst hv hl
    repeat (first
      | refine qv rfl (qp rfl) rfl rfl ?_ | refine TL_nil ?_ | refine T_seq ?_ | refine T_region ?_ | refine qcT rfl ?_ | refine qcF rfl ?_ | refine T_skip ?_
      | refine T_exit ?_ | refine T_block ?_ | refine E_then ?_ | refine E_thenX ?_ | refine E_thenR ?_ | refine E_blockN ?_ | refine E_blockR ?_
      | refine E_blockX ?_ | refine E_blockO rfl ?_ | refine qv rfl (rr_sub64 (r := -1) rfl rfl (by decide) (by decide) rfl) rfl rfl ?_
      | refine qv rfl (qlen Und.eq rfl) rfl rfl ?_ | refine qv rfl (rr_lss rfl rfl (qT (by omega))) rfl rfl ?_
      | refine qv rfl (rr_lss rfl rfl (qF (by omega))) rfl rfl ?_ | refine qv rfl (rr_add64 rfl rfl (by omega) (by omega) rfl) rfl rfl ?_
      | refine qv rfl (rr_sub64 rfl rfl (by omega) (by omega) rfl) rfl rfl ?_)
    refine T_loop (ι := Unit) (fun _ => True) (fun _ => [(0, .slice none 0 0), (2, .int .i64 0), (3, .int .i64 (-1))]) (fun _ => [rowO 58 2 (.slice none 0 0) 0 []]) (fun _ => 0) () trivial (by repeat' (first | exact True.intro | refine And.intro rfl ?_)) rfl ?_
    intro _ _
    repeat (first
      | refine qv rfl (qp rfl) rfl rfl ?_ | refine TL_nil ?_ | refine T_seq ?_ | refine T_region ?_ | refine qcT rfl ?_ | refine qcF rfl ?_ | refine T_skip ?_
      | refine T_exit ?_ | refine T_block ?_ | refine E_then ?_ | refine E_thenX ?_ | refine E_thenR ?_ | refine E_blockN ?_ | refine E_blockR ?_
      | refine E_blockX ?_ | refine E_blockO rfl ?_ | refine qv rfl (rr_lss (b := false) rfl rfl (by decide)) rfl rfl ?_
      | refine qv rfl (qlen Und.eq rfl) rfl rfl ?_ | refine qv rfl (rr_lss rfl rfl (qT (by omega))) rfl rfl ?_
      | refine qv rfl (rr_lss rfl rfl (qF (by omega))) rfl rfl ?_ | refine qv rfl (rr_add64 rfl rfl (by omega) (by omega) rfl) rfl rfl ?_
      | refine qv rfl (rr_sub64 rfl rfl (by omega) (by omega) rfl) rfl rfl ?_)
    exact E_end0 rfl fun w hm => hm.meetsB (S := ⟨fun (_ : Unit) => True, fun _ => .tuple #[], fun _ => [rowO 58 2 (.slice none 0 0) 0 []]⟩) () trivial [0] (by decide) rfl
  · subst hv
    repeat (first
      | refine qv rfl (qp rfl) rfl rfl ?_ | refine TL_nil ?_ | refine T_seq ?_ | refine T_region ?_ | refine qcT rfl ?_ | refine qcF rfl ?_ | refine T_skip ?_
      | refine T_exit ?_ | refine T_block ?_ | refine E_then ?_ | refine E_thenX ?_ | refine E_thenR ?_ | refine E_blockN ?_ | refine E_blockR ?_
      | refine E_blockX ?_ | refine E_blockO rfl ?_ | refine qv rfl (qlen Und.eq rfl) rfl rfl ?_ | refine qv rfl (rr_lss rfl rfl (qT (by omega))) rfl rfl ?_
      | refine qv rfl (rr_lss rfl rfl (qF (by omega))) rfl rfl ?_ | refine qv rfl (rr_add64 rfl rfl (by omega) (by omega) rfl) rfl rfl ?_
      | refine qv rfl (rr_sub64 rfl rfl (by omega) (by omega) rfl) rfl rfl ?_)
    refine T_loop (ι := Nat × List Sym) (fun (i, X) => i ≤ l.length ∧ X.length = l.length ∧ ∀ q, q < l.length → X[q]? = if q < i ∨ l.length - i ≤ q then l[l.length - 1 - q]? else l[q]?) (fun (i, X) => [(0, .slice (some ⟨g, 0, none⟩) l.length cap), (2, .int .i64 (i : Int)), (3, .int .i64 ((l.length : Int) - 1 - (i : Int)))]) (fun (i, X) => [rowO 58 2 (.slice (some ⟨g, 0, none⟩) l.length cap) l.length (X.flatMap symC)]) (fun (i, X) => l.length - i) (0, l) ⟨Nat.zero_le _, rfl, fun q hq => by rw [if_neg (by omega)]⟩ ⟨rfl, rfl, by show _ = some (Value.int .i64 ((l.length : Int) - 1 - 0)); rw [Int.sub_zero]; rfl, trivial⟩ rfl ?_
    rintro ⟨i, X⟩ ⟨h2, h3, h4⟩
    dsimp only at h2 h3 h4 ⊢
    by_cases c1 : i < l.length - 1 - i
    · have e1 : ((l.length : Int) - 1 - (i : Int)) = ((l.length - 1 - i : Nat) : Int) := by omega
      rw [e1]
      generalize hj : l.length - 1 - i = j at *
      have hi : i < X.length := by omega
      have hjl : j < X.length := by omega
      have hat1 := at_rowel (L := [rowO 58 2 (.slice (some ⟨g, 0, none⟩) l.length cap) l.length (X.flatMap symC)]) (i := 0) SymS_len (W := B) rfl hi
      have hat2 := at_rowel (L := [rowO 58 2 (.slice (some ⟨g, 0, none⟩) l.length cap) l.length (X.flatMap symC)]) (i := 0) SymS_len (W := B) rfl hjl
      have hx : X[i]? = some X[i] := List.getElem?_eq_getElem hi
      have hy : X[j]? = some X[j] := List.getElem?_eq_getElem hjl
      have hnew := revASymS h3 h4 (by omega) X[i] X[j] hx (by rw [hj]; exact hy)
      rw [hj] at hnew
      generalize X[i] = x at *
      generalize X[j] = y at *
      repeat (first
        | refine qv rfl (qp rfl) rfl rfl ?_ | refine TL_nil ?_ | refine T_seq ?_ | refine T_region ?_ | refine qcT rfl ?_ | refine qcF rfl ?_ | refine T_skip ?_
        | refine T_exit ?_ | refine T_block ?_ | refine E_then ?_ | refine E_thenX ?_ | refine E_thenR ?_ | refine E_blockN ?_ | refine E_blockR ?_
        | refine E_blockX ?_ | refine E_blockO rfl ?_ | refine qv rfl (qlen Und.eq rfl) rfl rfl ?_ | refine qv rfl (rr_lss rfl rfl (qT (by omega))) rfl rfl ?_
        | refine qv rfl (rr_lss rfl rfl (qF (by omega))) rfl rfl ?_ | refine qv rfl (rr_add64 rfl rfl (by omega) (by omega) rfl) rfl rfl ?_
        | refine qv rfl (rr_sub64 rfl rfl (by omega) (by omega) rfl) rfl rfl ?_)
      (repeat refine T_seq ?_)
      refine T_ord ([]) (.calm 0 (.calm 1 (.calm 2 (.calm 3 (.calm 4 (.calm 5 (.calm 6 (.calm 8 (.calm 9 (.calm 10 (.two 7 (.one 11 (.calm 12 (.one 13 (.calm 14 (.one 15 (.done)))))) 11 (.one 7 (.calm 12 (.one 13 (.calm 14 (.one 15 (.done))))))))))))))))) (sub_nil) (by kernel_rfl) (by kernel_rfl) (by intro c a d v w h; cases d <;> exact h) ?_
      repeat (first
        | ((first | refine TW_plain rfl rfl ?_ | refine TW_gmet rfl rfl rfl rfl ?_); first | refine TN_val (qp rfl) rfl rfl ?_ | refine TN_val (rr_idxc (j := i) Und.eq TyC.ty rfl rfl (by omega)) rfl rfl ?_ | refine TN_val (rr_idxc (j := j) Und.eq TyC.ty rfl rfl (by omega)) rfl rfl ?_ | refine TN_val (qlen Und.eq rfl) rfl rfl ?_ | refine TN_val (rr_lss rfl rfl (qT (by omega))) rfl rfl ?_ | refine TN_val (rr_lss rfl rfl (qF (by omega))) rfl rfl ?_ | refine TN_val (rr_add64 rfl rfl (by omega) (by omega) rfl) rfl rfl ?_ | refine TN_val (rr_sub64 rfl rfl (by omega) (by omega) rfl) rfl rfl ?_)
        | refine TW_done ?_)
      refine TW_two rfl rfl ?_ ?_
      · refine TL_val (rr_loadN TyC.ty rfl rfl hat2) rfl rfl rfl (TW_on sub_nil ?_)
        refine TW_one rfl (TL_val (rr_loadN TyC.ty rfl rfl hat1) rfl rfl rfl (TW_on sub_nil ?_))
        repeat (first
          | ((first | refine TW_plain rfl rfl ?_ | refine TW_gmet rfl rfl rfl rfl ?_); first | refine TN_val (qp rfl) rfl rfl ?_ | refine TN_val (rr_idxc (j := i) Und.eq TyC.ty rfl rfl (by omega)) rfl rfl ?_ | refine TN_val (rr_idxc (j := j) Und.eq TyC.ty rfl rfl (by omega)) rfl rfl ?_ | refine TN_val (qlen Und.eq rfl) rfl rfl ?_ | refine TN_val (rr_lss rfl rfl (qT (by omega))) rfl rfl ?_ | refine TN_val (rr_lss rfl rfl (qF (by omega))) rfl rfl ?_ | refine TN_val (rr_add64 rfl rfl (by omega) (by omega) rfl) rfl rfl ?_ | refine TN_val (rr_sub64 rfl rfl (by omega) (by omega) rfl) rfl rfl ?_)
          | refine TW_done ?_)
        refine TW_one rfl (TL_setRow (i := 0) (k := i) (a := y) SymS_len TyC.ty rfl rfl (Nat.zero_add _) (by omega) h3.symm rfl rfl (h1 y) (TW_on sub_nil ?_))
        repeat (first
          | ((first | refine TW_plain rfl rfl ?_ | refine TW_gmet rfl rfl rfl rfl ?_); first | refine TN_val (qp rfl) rfl rfl ?_ | refine TN_val (rr_idxc (j := i) Und.eq TyC.ty rfl rfl (by omega)) rfl rfl ?_ | refine TN_val (rr_idxc (j := j) Und.eq TyC.ty rfl rfl (by omega)) rfl rfl ?_ | refine TN_val (qlen Und.eq rfl) rfl rfl ?_ | refine TN_val (rr_lss rfl rfl (qT (by omega))) rfl rfl ?_ | refine TN_val (rr_lss rfl rfl (qF (by omega))) rfl rfl ?_ | refine TN_val (rr_add64 rfl rfl (by omega) (by omega) rfl) rfl rfl ?_ | refine TN_val (rr_sub64 rfl rfl (by omega) (by omega) rfl) rfl rfl ?_)
          | refine TW_done ?_)
        refine TW_one rfl (TL_setRow (i := 0) (k := j) (a := x) SymS_len TyC.ty rfl rfl (Nat.zero_add _) (by simp; omega) (by simp [h3]) rfl rfl (h1 x) (TW_on sub_nil ?_))
        repeat (first
          | ((first | refine TW_plain rfl rfl ?_ | refine TW_gmet rfl rfl rfl rfl ?_); first | refine TN_val (qp rfl) rfl rfl ?_ | refine TN_val (qlen Und.eq rfl) rfl rfl ?_ | refine TN_val (rr_lss rfl rfl (qT (by omega))) rfl rfl ?_ | refine TN_val (rr_lss rfl rfl (qF (by omega))) rfl rfl ?_ | refine TN_val (rr_add64 rfl rfl (by omega) (by omega) rfl) rfl rfl ?_ | refine TN_val (rr_sub64 rfl rfl (by omega) (by omega) rfl) rfl rfl ?_)
          | refine TW_done ?_)
        repeat (first
          | refine qv rfl (qp rfl) rfl rfl ?_ | refine TL_nil ?_ | refine T_seq ?_ | refine T_region ?_ | refine qcT rfl ?_ | refine qcF rfl ?_ | refine T_skip ?_
          | refine T_exit ?_ | refine T_block ?_ | refine E_then ?_ | refine E_thenX ?_ | refine E_thenR ?_ | refine E_blockN ?_ | refine E_blockR ?_
          | refine E_blockX ?_ | refine E_blockO rfl ?_ | refine qv rfl (qlen Und.eq rfl) rfl rfl ?_ | refine qv rfl (rr_lss rfl rfl (qT (by omega))) rfl rfl ?_
          | refine qv rfl (rr_lss rfl rfl (qF (by omega))) rfl rfl ?_ | refine qv rfl (rr_add64 rfl rfl (by omega) (by omega) rfl) rfl rfl ?_
          | refine qv rfl (rr_sub64 rfl rfl (by omega) (by omega) rfl) rfl rfl ?_)
        exact E_round (i + 1, (X.set i y).set j x) ⟨by omega, by simp [h3], hnew⟩ (by show l.length - (i + 1) < l.length - i; omega) ⟨rfl, rfl, by show _ = some (Value.int .i64 ((l.length : Int) - 1 - ((i + 1 : Nat) : Int))); rw [show (l.length : Int) - 1 - ((i + 1 : Nat) : Int) = (j : Int) - 1 by omega]; rfl, trivial⟩ rfl
      · refine TL_val (rr_loadN TyC.ty rfl rfl hat1) rfl rfl rfl (TW_on sub_nil ?_)
        refine TW_one rfl (TL_val (rr_loadN TyC.ty rfl rfl hat2) rfl rfl rfl (TW_on sub_nil ?_))
        repeat (first
          | ((first | refine TW_plain rfl rfl ?_ | refine TW_gmet rfl rfl rfl rfl ?_); first | refine TN_val (qp rfl) rfl rfl ?_ | refine TN_val (rr_idxc (j := i) Und.eq TyC.ty rfl rfl (by omega)) rfl rfl ?_ | refine TN_val (rr_idxc (j := j) Und.eq TyC.ty rfl rfl (by omega)) rfl rfl ?_ | refine TN_val (qlen Und.eq rfl) rfl rfl ?_ | refine TN_val (rr_lss rfl rfl (qT (by omega))) rfl rfl ?_ | refine TN_val (rr_lss rfl rfl (qF (by omega))) rfl rfl ?_ | refine TN_val (rr_add64 rfl rfl (by omega) (by omega) rfl) rfl rfl ?_ | refine TN_val (rr_sub64 rfl rfl (by omega) (by omega) rfl) rfl rfl ?_)
          | refine TW_done ?_)
        refine TW_one rfl (TL_setRow (i := 0) (k := i) (a := y) SymS_len TyC.ty rfl rfl (Nat.zero_add _) (by omega) h3.symm rfl rfl (h1 y) (TW_on sub_nil ?_))
        repeat (first
          | ((first | refine TW_plain rfl rfl ?_ | refine TW_gmet rfl rfl rfl rfl ?_); first | refine TN_val (qp rfl) rfl rfl ?_ | refine TN_val (rr_idxc (j := i) Und.eq TyC.ty rfl rfl (by omega)) rfl rfl ?_ | refine TN_val (rr_idxc (j := j) Und.eq TyC.ty rfl rfl (by omega)) rfl rfl ?_ | refine TN_val (qlen Und.eq rfl) rfl rfl ?_ | refine TN_val (rr_lss rfl rfl (qT (by omega))) rfl rfl ?_ | refine TN_val (rr_lss rfl rfl (qF (by omega))) rfl rfl ?_ | refine TN_val (rr_add64 rfl rfl (by omega) (by omega) rfl) rfl rfl ?_ | refine TN_val (rr_sub64 rfl rfl (by omega) (by omega) rfl) rfl rfl ?_)
          | refine TW_done ?_)
        refine TW_one rfl (TL_setRow (i := 0) (k := j) (a := x) SymS_len TyC.ty rfl rfl (Nat.zero_add _) (by simp; omega) (by simp [h3]) rfl rfl (h1 x) (TW_on sub_nil ?_))
        repeat (first
          | ((first | refine TW_plain rfl rfl ?_ | refine TW_gmet rfl rfl rfl rfl ?_); first | refine TN_val (qp rfl) rfl rfl ?_ | refine TN_val (qlen Und.eq rfl) rfl rfl ?_ | refine TN_val (rr_lss rfl rfl (qT (by omega))) rfl rfl ?_ | refine TN_val (rr_lss rfl rfl (qF (by omega))) rfl rfl ?_ | refine TN_val (rr_add64 rfl rfl (by omega) (by omega) rfl) rfl rfl ?_ | refine TN_val (rr_sub64 rfl rfl (by omega) (by omega) rfl) rfl rfl ?_)
          | refine TW_done ?_)
        repeat (first
          | refine qv rfl (qp rfl) rfl rfl ?_ | refine TL_nil ?_ | refine T_seq ?_ | refine T_region ?_ | refine qcT rfl ?_ | refine qcF rfl ?_ | refine T_skip ?_
          | refine T_exit ?_ | refine T_block ?_ | refine E_then ?_ | refine E_thenX ?_ | refine E_thenR ?_ | refine E_blockN ?_ | refine E_blockR ?_
          | refine E_blockX ?_ | refine E_blockO rfl ?_ | refine qv rfl (qlen Und.eq rfl) rfl rfl ?_ | refine qv rfl (rr_lss rfl rfl (qT (by omega))) rfl rfl ?_
          | refine qv rfl (rr_lss rfl rfl (qF (by omega))) rfl rfl ?_ | refine qv rfl (rr_add64 rfl rfl (by omega) (by omega) rfl) rfl rfl ?_
          | refine qv rfl (rr_sub64 rfl rfl (by omega) (by omega) rfl) rfl rfl ?_)
        exact E_round (i + 1, (X.set i y).set j x) ⟨by omega, by simp [h3], hnew⟩ (by show l.length - (i + 1) < l.length - i; omega) ⟨rfl, rfl, by show _ = some (Value.int .i64 ((l.length : Int) - 1 - ((i + 1 : Nat) : Int))); rw [show (l.length : Int) - 1 - ((i + 1 : Nat) : Int) = (j : Int) - 1 by omega]; rfl, trivial⟩ rfl
    · have hX := revBSymS h3 h4 c1
      subst hX
      repeat (first
        | refine qv rfl (qp rfl) rfl rfl ?_ | refine TL_nil ?_ | refine T_seq ?_ | refine T_region ?_ | refine qcT rfl ?_ | refine qcF rfl ?_ | refine T_skip ?_
        | refine T_exit ?_ | refine T_block ?_ | refine E_then ?_ | refine E_thenX ?_ | refine E_thenR ?_ | refine E_blockN ?_ | refine E_blockR ?_
        | refine E_blockX ?_ | refine E_blockO rfl ?_ | refine qv rfl (qlen Und.eq rfl) rfl rfl ?_ | refine qv rfl (rr_lss rfl rfl (qT (by omega))) rfl rfl ?_
        | refine qv rfl (rr_lss rfl rfl (qF (by omega))) rfl rfl ?_ | refine qv rfl (rr_add64 rfl rfl (by omega) (by omega) rfl) rfl rfl ?_
        | refine qv rfl (rr_sub64 rfl rfl (by omega) (by omega) rfl) rfl rfl ?_)
      exact E_end0 rfl fun w hm => hm.meetsB (S := ⟨fun (_ : Unit) => True, fun _ => .tuple #[], fun _ => [rowO 58 2 (.slice (some ⟨g, 0, none⟩) l.length cap) l.length (l.reverse.flatMap symC)]⟩) () trivial [0] (by decide) rfl
end Go.Proofs.Ytnicebdkejkieaa.eng
