/- The statement of SpecAgain, proved: for every input the call returns true and leaves its arguments as they were. -/
import Derived.Test.YtakiohldgcifeaaDoorMgE
import Derived.Test.YtakiohldgcifeaaDoorCards
import Derived.Test.YtakiohldgcifeaaDoorTie
import Derived.SevenTiedAt
namespace Go.Proofs.YtakiohldgcifeaaDoor.specAgain
open Go.ChangeShapes Go.WideShapes Go.ChangeAt Go.RowKit
open Go.ChangeMaps (open_string shut_string)

set_option maxRecDepth 100000 in
theorem lifted (os : Os) (started : os.Started) (H : Type) (enc : TypeId × Value → H) :
    ReturnsInHanded {} Tryd.checked os 4 .any (fun w args => (Rows.specAgainSpec.pre enc Tryd.prog Tryd.f4 Rows.specAgainRow.domain false w args ∧ laidMetH Tryd.prog law.tabs w) ∧ sizedMet enc Tryd.prog Tryd.f4 (OpenSpec.ofChange Rows.specAgainSpec) false w args) (Rows.specAgainSpec.post enc Tryd.prog Tryd.f4 false true false false) := by
  refine law.saidT (fn := Tryd.f4) started (by kernel_rfl) Tryd.func4 ⟨rfl, fun H ds h => ?_⟩ (by kernel_rfl) (by kernel_rfl)
    (ChangeSpec.witness_at (enc := enc) (C := Tryd.checked) (os := os) (X := fun w _ => laidMetH Tryd.prog law.tabs w) false (World.laidAll Tryd.prog os law.tabs) #[.string ByteArray.empty] 8 (World.laidAll_os _ _ _) (by kernel_rfl) (by kernel_rfl) (by kernel_rfl) (by kernel_rfl) (by kernel_rfl) (law.laid_met os _)) ?_
  · match ds, h with
    | [_], _ => rfl
  · intro W base args ds p ⟨hval0, hA, hsz, hfree⟩ hT
    have hval : ∀ (j : Nat) t v, Tryd.f4.params[j]? = some t → args[j]? = some v → Value.okWide Tryd.prog W .any base t v := hval0
    clear hval0
    rw [Tryd.params4] at hA hval hsz
    obtain ⟨v0, vs0, d0, ds0, p0, q0, hargs, rfl, rfl, h0, r0⟩ := trodAll_cons hA
    obtain ⟨rfl, rfl, rfl⟩ := trodAll_nil r0
    obtain rfl : args = #[v0] := by cases args; simp_all
    obtain ⟨a0, rfl, rfl, rfl, w0⟩ := open_string Tryd.underlying9 (hval 0 9 v0 rfl rfl) h0
    have z0 : a0.data.toList.length ≤ 140737488351232 := sized_string hsz (j := 0) rfl rfl
    rw [eng.str_of a0]
    exact eng.fin (walk W hT a0.data.toList z0)

theorem row : Rows.SpecAgainSaid :=
  OpenClaim.holds_of_wide 4 Tryd.f4 rfl rfl rfl rfl rfl rfl rfl ⟨rfl, rfl, rfl, rfl, rfl⟩ rfl rfl rfl rfl rfl (by kernel_rfl) Tryd.func4 (by kernel_rfl)
    (of_decide_eq_true (by kernel_rfl)) (by unfold Func.isWrapper; rw [if_neg (of_decide_eq_false (by kernel_rfl))]; exact ⟨rfl, rfl⟩)
    (fun os started H enc _ => lifted os started H enc)
set_option maxRecDepth 100000 in
theorem proved : Rows.SpecAgainCardSaid :=
  Claim7.holds_tied_plain_at .later [] [.data, .data, .pinned] true _ false
    row (fun _ h => by cases h) (by kernel_rfl) (fun _ h => by cases h) specAgain_row_tie rfl ⟨rfl, rfl⟩ (by kernel_rfl) rfl
    (fun f fn hf hfn => by
      obtain rfl : f = 4 := Option.some.inj ((show Tryd.prog.funcNamed "pushmill/pushkeep.SpecAgain" = some 4 by kernel_rfl).symm.trans hf) |>.symm
      obtain rfl : fn = Tryd.f4 := (Option.some.inj (Tryd.func4.symm.trans hfn)).symm
      refine ⟨by kernel_rfl, fun j t ht => ?_⟩
      have hall : (Tryd.f4.params.toList.all fun t => !Tryd.prog.wantsStandIn t) = true := by kernel_rfl
      have := List.all_eq_true.1 hall t (by rw [Array.mem_toList_iff]; exact Array.mem_of_getElem? ht)
      exact (by simpa using this : Tryd.prog.wantsStandIn t = false))
    (by kernel_rfl)
end Go.Proofs.YtakiohldgcifeaaDoor.specAgain


