/- The statement of GrammarOwn, proved: for every input the call returns true and leaves its arguments as they were. -/
import Derived.Test.YtomkjjpdnmcnnaaMgE
namespace Go.Proofs.Ytomkjjpdnmcnnaa.grammarOwn
open Go.ChangeShapes Go.WideShapes Go.ChangeAt Go.RowKit
open Go.ChangeMaps (open_string shut_string)

set_option maxRecDepth 100000 in
theorem lifted (os : Os) (started : os.Started) (H : Type) (enc : TypeId × Value → H) :
    ReturnsInHanded {} Try.checked os 3 .any (Rows.grammarOwnSpec.pre6 enc Try.prog Try.f3 Rows.grammarOwnRow.domain false) (Rows.grammarOwnSpec.post enc Try.prog Try.f3 false true false false) := by
  refine law.said (fn := Try.f3) started (by kernel_rfl) Try.func3 ⟨rfl, fun H ds h => ?_⟩ (by kernel_rfl) (by kernel_rfl)
    (ChangeSpec.witness6 (enc := enc) (C := Try.checked) false ⟨#[], #[.agg #[.int .i64 0, .int .i64 0, .slice none 0 0], .slice none 0 0], []⟩ 8 (by kernel_rfl) (by kernel_rfl) (by kernel_rfl) (by kernel_rfl)) ?_
  · match ds, h with
    | [_, _], _ => rfl
  · intro W base args ds p ⟨hval0, hA, hsz, hfree⟩
    have hval : ∀ (j : Nat) t v, Try.f3.params[j]? = some t → args[j]? = some v → Value.okWide Try.prog W .any base t v := hval0
    clear hval0
    rw [Try.params3] at hA hval hsz
    obtain ⟨v0, vs0, d0, ds0, p0, q0, hargs, rfl, rfl, h0, r0⟩ := trodAll_cons hA
    obtain ⟨v1, vs1, d1, ds1, p1, q1, rfl, rfl, rfl, h1, r1⟩ := trodAll_cons r0
    obtain ⟨rfl, rfl, rfl⟩ := trodAll_nil r1
    obtain rfl : args = #[v0, v1] := by cases args; simp_all
    obtain ⟨g0, h0, z0, z80⟩ := eng.open_gramB (hval 0 24 v0 rfl rfl) h0 hsz 0 rfl rfl
    obtain ⟨l1, s1, q1⟩ := eng.open_items (hval 1 25 v1 rfl rfl) h1 hsz 1 rfl rfl
    exact eng.fin (walk W v0 g0 h0 z0 z80 v1 l1 s1 q1)

theorem proved : Rows.GrammarOwnSaid :=
  OpenClaim.holds_of_wide 3 Try.f3 rfl rfl rfl rfl rfl rfl rfl ⟨rfl, rfl, rfl, rfl, rfl⟩ rfl rfl rfl rfl rfl (by kernel_rfl) Try.func3 (by kernel_rfl)
    (of_decide_eq_true (by kernel_rfl)) (by unfold Func.isWrapper; rw [if_neg (of_decide_eq_false (by kernel_rfl))]; exact ⟨rfl, rfl⟩)
    (fun os started H enc _ => lifted os started H enc)
end Go.Proofs.Ytomkjjpdnmcnnaa.grammarOwn


