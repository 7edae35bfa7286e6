/- Cells of classes. -/
import Derived.Test.YtbiacehgfmgfdaaDoorClassSetsE
namespace Go.Proofs.YtbiacehgfmgfdaaDoor.eng
open Go.RowKit kit mix classL classSets
theorem cls_one (l : List C4) : ∀ u ∈ l.flatMap clsL, u.oneCell' = true := by
  intro u hu
  obtain ⟨x, _, h⟩ := List.mem_flatMap.1 hu
  simp only [clsL, List.mem_cons, List.not_mem_nil, or_false] at h
  rcases h with rfl | rfl | rfl | rfl <;> rfl
theorem eqClsE (x y : C4) (w : World) : (Op.equalIn 10000 27 (.agg (clsL x).toArray) (.agg (clsL y).toArray)).run Tryd.prog w = .ok (decide (x = y)) w := eq_cls x y w
end Go.Proofs.YtbiacehgfmgfdaaDoor.eng
