/- Numbers in rows. -/
import Derived.Test.YtnicebdkejkieaaShp
namespace Go.Proofs.Ytnicebdkejkieaa.eng
open Go.RowKit kit mix
theorem one_int (l : List Int) : ∀ u ∈ l.flatMap kit.intC, u.oneCell' = true := by
  intro u hu
  obtain ⟨f, _, h⟩ := List.mem_flatMap.1 hu
  simp only [kit.intC, List.mem_cons, List.not_mem_nil, or_false] at h
  subst h; rfl
theorem flatI (l : List Int) : l.flatMap kit.intC = l.map (.int .i64) := kit.flat1 l
end Go.Proofs.Ytnicebdkejkieaa.eng
