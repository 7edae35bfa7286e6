/- The statement of FactsBody, proved: for every input the call returns true and leaves its arguments as they were. -/
import Derived.Test.YtnicebdkejkieaaOpenE
import Derived.Test.YtnicebdkejkieaaGramI
import Derived.Test.YtnicebdkejkieaaFactsBodyW
namespace Go.Proofs.Ytnicebdkejkieaa.factsBody
open Go.ChangeShapes Go.WideShapes Go.ChangeAt Go.RowKit
open Go.ChangeMaps (open_string shut_string)

set_option maxRecDepth 100000 in
theorem lifted (os : Os) (started : os.Started) (H : Type) (enc : TypeId × Value → H) :
    ReturnsInHanded {} Try.checked os 6 .any (Rows.factsBodySpec.pre6 enc Try.prog Try.f6 Rows.factsBodyRow.domain false) (Rows.factsBodySpec.post enc Try.prog Try.f6 false true false false) := by
  refine law.said (fn := Try.f6) started (by kernel_rfl) Try.func6 ⟨rfl, fun H ds h => ?_⟩ (by kernel_rfl) (by kernel_rfl)
    (ChangeSpec.witness6 (enc := enc) (C := Try.checked) false ⟨#[], #[.agg #[.int .i64 0, .int .i64 0, .slice none 0 0], .slice none 0 0, .int .u64 0, .int .u64 0], []⟩ 8 (by kernel_rfl) (by kernel_rfl) (by kernel_rfl) (by kernel_rfl)) ?_
  · match ds, h with
    | [_, _, _, _], _ => rfl
  · intro W base args ds p ⟨hval0, hA, hsz, hfree⟩
    have hval : ∀ (j : Nat) t v, Try.f6.params[j]? = some t → args[j]? = some v → Value.okWide Try.prog W .any base t v := hval0
    clear hval0
    rw [Try.params6] at hA hval hsz
    obtain ⟨v0, vs0, d0, ds0, p0, q0, hargs, rfl, rfl, h0, r0⟩ := trodAll_cons hA
    obtain ⟨v1, vs1, d1, ds1, p1, q1, rfl, rfl, rfl, h1, r1⟩ := trodAll_cons r0
    obtain ⟨v2, vs2, d2, ds2, p2, q2, rfl, rfl, rfl, h2, r2⟩ := trodAll_cons r1
    obtain ⟨v3, vs3, d3, ds3, p3, q3, rfl, rfl, rfl, h3, r3⟩ := trodAll_cons r2
    obtain ⟨rfl, rfl, rfl⟩ := trodAll_nil r3
    obtain rfl : args = #[v0, v1, v2, v3] := by cases args; simp_all
    obtain ⟨g0, h0, z0⟩ := eng.open_gram (hval 0 24 v0 rfl rfl) h0 hsz 0 rfl rfl
    obtain ⟨l1, s1⟩ := eng.open_syms (hval 1 34 v1 rfl rfl) h1 hsz 1 rfl rfl
    obtain ⟨a2, rfl, rfl, rfl, w2⟩ := open_int Try.underlying54 (hval 2 54 v2 rfl rfl) h2
    obtain ⟨n2, rfl, y2⟩ := eng.u64_of w2
    obtain ⟨a3, rfl, rfl, rfl, w3⟩ := open_int Try.underlying54 (hval 3 54 v3 rfl rfl) h3
    obtain ⟨n3, rfl, y3⟩ := eng.u64_of w3
    exact eng.fin (walk W v0 g0 h0 z0 v1 l1 s1 n2 y2 n3 y3)

theorem proved : Rows.FactsBodySaid :=
  OpenClaim.holds_of_wide 6 Try.f6 rfl rfl rfl rfl rfl rfl rfl ⟨rfl, rfl, rfl, rfl, rfl⟩ rfl rfl rfl rfl rfl (by kernel_rfl) Try.func6 (by kernel_rfl)
    (of_decide_eq_true (by kernel_rfl)) (by unfold Func.isWrapper; rw [if_neg (of_decide_eq_false (by kernel_rfl))]; exact ⟨rfl, rfl⟩)
    (fun os started H enc _ => lifted os started H enc)
end Go.Proofs.Ytnicebdkejkieaa.factsBody
