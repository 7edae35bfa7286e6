/- The statement of GateOrder (Upto), proved: for every input of the bounded bulk the call returns true and leaves its arguments as they were. -/
import Derived.Test.YtnooleopmlijeaaOpenE
import Derived.Test.YtnooleopmlijeaaGateOrderU
namespace Go.Proofs.Ytnooleopmlijeaa.gateOrder
open Go.ChangeShapes Go.WideShapes Go.ChangeAt Go.RowKit
open Go.ChangeMaps (open_string shut_string)

set_option maxRecDepth 100000 in
theorem lifted (os : Os) (started : os.Started) (H : Type) (enc : TypeId × Value → H) (F : Stop.Interp) :
    ReturnsInHanded {} Try.checked os 8 .any ((Rows.OpenSpec.upto Rows.gateOrderSpec).pre6 enc Try.prog Try.f8 Rows.gateOrderUptoRow.domain false) (((Rows.OpenSpec.upto Rows.gateOrderSpec).at F).post enc Try.prog Try.f8 false true false false) := by
  refine law.upto (fn := Try.f8) started (by kernel_rfl) Try.func8 ⟨rfl, fun H ds h => ?_⟩ (by kernel_rfl) (by kernel_rfl)
    (OpenSpec.witness (enc := enc) (C := Try.checked) (s := Rows.OpenSpec.upto Rows.gateOrderSpec) (k := Rows.uptoSmall) rfl false ⟨#[], #[.slice none 0 0, .slice none 0 0, .slice none 0 0], []⟩ 8 (by kernel_rfl) (by kernel_rfl) (by kernel_rfl)
      (x := ([.nil, .nil, .nil], [], [])) (by kernel_rfl) rfl (by kernel_rfl)) ?_
  · match ds, h with
    | [_, _, _], _ => rfl
  · intro W base args ds p ⟨hval0, hA, hsz, hfree⟩ hk
    have hval : ∀ (j : Nat) t v, Try.f8.params[j]? = some t → args[j]? = some v → Value.okWide Try.prog W .any base t v := hval0
    clear hval0
    rw [Try.params8] at hA hval hsz
    obtain ⟨v0, vs0, d0, ds0, p0, q0, hargs, rfl, rfl, h0, r0⟩ := trodAll_cons hA
    obtain ⟨v1, vs1, d1, ds1, p1, q1, rfl, rfl, rfl, h1, r1⟩ := trodAll_cons r0
    obtain ⟨v2, vs2, d2, ds2, p2, q2, rfl, rfl, rfl, h2, r2⟩ := trodAll_cons r1
    obtain ⟨rfl, rfl, rfl⟩ := trodAll_nil r2
    obtain rfl : args = #[v0, v1, v2] := by cases args; simp_all
    obtain ⟨l0, e0, f0, g0⟩ := eng.open_evsU (hval 0 22 v0 rfl rfl) h0
    obtain ⟨l1, e1, f1, g1⟩ := eng.open_intsU (hval 1 41 v1 rfl rfl) h1
    obtain ⟨l2, e2, f2, g2⟩ := eng.open_intsU (hval 2 41 v2 rfl rfl) h2
    exact eng.fin (walk W v0 l0 e0 f0 g0 v1 l1 e1 f1 g1 v2 l2 e2 f2 g2 hk)

theorem proved : Rows.GateOrderUptoSaid :=
  OpenClaim.holds_of_cond 8 Try.f8 rfl rfl rfl rfl rfl rfl rfl ⟨rfl, rfl, rfl, rfl, rfl⟩ rfl rfl rfl rfl rfl (by kernel_rfl) Try.func8 (by kernel_rfl)
    (of_decide_eq_true (by kernel_rfl)) (by unfold Func.isWrapper; rw [if_neg (of_decide_eq_false (by kernel_rfl))]; exact ⟨rfl, rfl⟩)
    (fun os started H enc _ F => lifted os started H enc F)
end Go.Proofs.Ytnooleopmlijeaa.gateOrder
