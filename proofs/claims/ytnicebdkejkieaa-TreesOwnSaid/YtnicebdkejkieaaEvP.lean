/- Events in the cells of pairs of ints: equality. -/
import Derived.Test.YtnicebdkejkieaaSym
namespace Go.Proofs.Ytnicebdkejkieaa.eng
open Go.RowKit kit mix gramL
theorem eq_evt (f f' : Sym) (w : World) : (Op.equalIn 10000 78 (.agg (symC f).toArray) (.agg (symC f').toArray)).run Try.prog w = .ok (decide (f = f')) w := by
  obtain ⟨k, q⟩ := f
  obtain ⟨k', q'⟩ := f'
  unfold symC
  go_simp
  by_cases e1 : k = k' <;> by_cases e2 : q = q' <;> simp [e1, e2]
theorem build_evk (k : Int) (w : World) : (Instr.build 78 #[(0, .int .i64 k)]).run Try.prog w = .ok (.agg #[.int .i64 k, .int .i64 0]) w := by go_simp
end Go.Proofs.Ytnicebdkejkieaa.eng
