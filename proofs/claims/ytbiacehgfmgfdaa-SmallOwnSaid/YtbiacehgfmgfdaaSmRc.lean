/- Functions of package slices at api.Row (printed by program). -/
import Derived.Test.YtbiacehgfmgfdaaSmRw
import Derived.Test.YtbiacehgfmgfdaaMgB
namespace Go.Proofs.Ytbiacehgfmgfdaa.eng
open Go.RowKit kit mix smallL
theorem SmRc_len (a : Row) : (rowC a).length = 256 := rowC_len a
set_option maxRecDepth 100000 in
set_option maxHeartbeats 2000000 in
theorem cloneSmRc_calls (v : Value) (l : List Row) (w : World) (hs : Sl w v l.length (l.flatMap rowC)) (hl : l.length * 512 ≤ 140737488355328) :
    Calls Try.prog 23 #[v] w (Meets (rowS 31 256 l.length (l.flatMap rowC) id) w) := by
  obtain ⟨base, cap, rfl, hcap, hmax, hrd⟩ := hs
  unfold maxLen at hmax
  refine enter (args := [.slice base l.length cap]) (n := 8) Try.func23 rfl rfl rfl ?_
  have hsl : ∀ w', Gr w w' → Sl w' (.slice base l.length cap) l.length (l.flatMap rowC) := fun w' hg => Sl.gr ⟨base, cap, rfl, hcap, hmax, hrd⟩ hg
  clear hrd
  cases base with
  | none =>
    repeat (first
      | refine qv rfl (qp rfl) rfl rfl ?_ | refine TL_nil ?_ | refine T_seq ?_ | refine T_region ?_ | refine qcT rfl ?_ | refine qcF rfl ?_ | refine T_skip ?_
      | refine T_ret ?_ | refine E_then ?_ | refine E_thenR ?_ | refine qv rfl (rr_slnil Und.eq rfl rfl rfl) rfl rfl ?_)
    have h0 : l = [] := by
      cases l with
      | nil => rfl
      | cons x l => obtain ⟨_, _, h, _, _, h2⟩ := hsl w (Gr.refl w); simp only [Value.slice.injEq] at h; obtain ⟨rfl, _⟩ := h; obtain ⟨b, off, h, _⟩ := h2 (by simp); cases h
    subst h0
    refine E_nilrow 31 256 ?_
    exact E_ret1 rfl rfl fun w hm => hm.meets (S := rowS 31 256 0 [] id) _ trivial [0] (by decide) rfl
  | some p =>
    repeat (first
      | refine qv rfl (qp rfl) rfl rfl ?_ | refine TL_nil ?_ | refine T_seq ?_ | refine T_region ?_ | refine qcT rfl ?_ | refine qcF rfl ?_ | refine T_skip ?_
      | refine T_ret ?_ | refine E_then ?_ | refine E_thenR ?_ | refine qv rfl (rr_slnil Und.eq rfl rfl rfl) rfl rfl ?_)
    refine TL_lit0 rfl fun g => ?_
    repeat (first
      | refine qv rfl (qp rfl) rfl rfl ?_ | refine TL_nil ?_ | refine T_seq ?_ | refine T_region ?_ | refine qcT rfl ?_ | refine qcF rfl ?_ | refine T_skip ?_
      | refine T_ret ?_ | refine E_then ?_ | refine E_thenR ?_)
    refine TL_appSl (i := 0) rfl (fun w' hm => hsl w' hm.below) rfl rfl (len_el SmRc_len l) (row_one l) (by omega) (by omega) rfl fun v' => ?_
    rw [List.nil_append]
    repeat (first
      | refine qv rfl (qp rfl) rfl rfl ?_ | refine TL_nil ?_ | refine T_seq ?_ | refine T_region ?_ | refine qcT rfl ?_ | refine qcF rfl ?_ | refine T_skip ?_
      | refine T_ret ?_ | refine E_then ?_ | refine E_thenR ?_)
    refine E_ret1 rfl rfl fun w hm => ?_
    exact hm.meets (S := rowS 31 256 l.length (l.flatMap rowC) id) v' trivial [0] (by decide) (by simp [rowS])
end Go.Proofs.Ytbiacehgfmgfdaa.eng
