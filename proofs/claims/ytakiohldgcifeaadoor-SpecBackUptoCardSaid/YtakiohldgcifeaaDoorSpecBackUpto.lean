/- The statement of SpecBack (Upto), proved: for every input of the bounded bulk the call returns true and leaves its arguments as they were. -/
import Derived.Test.YtakiohldgcifeaaDoorMgF
import Derived.Test.YtakiohldgcifeaaDoorCards
import Derived.Test.YtakiohldgcifeaaDoorTie
import Derived.SevenTiedAt
namespace Go.Proofs.YtakiohldgcifeaaDoor.specBack
open Go.ChangeShapes Go.WideShapes Go.ChangeAt Go.RowKit
open Go.ChangeMaps (open_string shut_string)

set_option maxRecDepth 100000 in
theorem lifted (os : Os) (started : os.Started) (H : Type) (enc : TypeId × Value → H) (F : Stop.Interp) :
    ReturnsInHanded {} Tryd.checked os 3 .any (fun w args => ((Rows.OpenSpec.upto Rows.specBackSpec).pre enc Tryd.prog Tryd.f3 Rows.specBackUptoRow.domain false w args ∧ laidMetH Tryd.prog law.tabs w) ∧ sizedMet enc Tryd.prog Tryd.f3 (Rows.OpenSpec.upto Rows.specBackSpec) false w args) (((Rows.OpenSpec.upto Rows.specBackSpec).at F).post enc Tryd.prog Tryd.f3 false true false false) := by
  refine law.uptoT (fn := Tryd.f3) started (by kernel_rfl) Tryd.func3 ⟨rfl, fun H ds h => ?_⟩ (by kernel_rfl) (by kernel_rfl)
    (law.uptoT_wit (os := os) (enc := enc) #[.agg #[.slice none 0 0, .slice none 0 0]] 8 (by kernel_rfl) (by kernel_rfl) (by kernel_rfl)
      (x := ([.agg [.nil, .nil]], [], [])) (by kernel_rfl) (by kernel_rfl) (by kernel_rfl)) ?_
  · match ds, h with
    | [_], _ => rfl
  · intro W base args ds p ⟨hval0, hA, hsz, hfree⟩ hk hT
    have hval : ∀ (j : Nat) t v, Tryd.f3.params[j]? = some t → args[j]? = some v → Value.okWide Tryd.prog W .any base t v := hval0
    clear hval0
    rw [Tryd.params3] at hA hval hsz
    obtain ⟨v0, vs0, d0, ds0, p0, q0, hargs, rfl, rfl, h0, r0⟩ := trodAll_cons hA
    obtain ⟨rfl, rfl, rfl⟩ := trodAll_nil r0
    obtain rfl : args = #[v0] := by cases args; simp_all
    obtain ⟨s0, hs0, hb0⟩ := eng.open_specU (hval 0 25 v0 rfl rfl) h0 hk 0 rfl
    exact eng.fin (walkM W hT.1 hT.2 v0 s0 hs0 hb0)

theorem row : Rows.SpecBackUptoSaid :=
  OpenClaim.holds_of_cond 3 Tryd.f3 rfl rfl rfl rfl rfl rfl rfl ⟨rfl, rfl, rfl, rfl, rfl⟩ rfl rfl rfl rfl rfl (by kernel_rfl) Tryd.func3 (by kernel_rfl)
    (of_decide_eq_true (by kernel_rfl)) (by unfold Func.isWrapper; rw [if_neg (of_decide_eq_false (by kernel_rfl))]; exact ⟨rfl, rfl⟩)
    (fun os started H enc _ F => lifted os started H enc F)
set_option maxRecDepth 100000 in
theorem proved : Rows.SpecBackUptoCardSaid :=
  Claim7.holds_tied_plain_at .later [] [.data, .data, .pinned] true _ false
    row (fun _ h => by cases h) (by kernel_rfl) (fun _ h => by cases h) specBackUpto_row_tie rfl ⟨rfl, rfl⟩ (by kernel_rfl) rfl
    (fun f fn hf hfn => by
      obtain rfl : f = 3 := Option.some.inj ((show Tryd.prog.funcNamed "pushmill/pushkeep.SpecBack" = some 3 by kernel_rfl).symm.trans hf) |>.symm
      obtain rfl : fn = Tryd.f3 := (Option.some.inj (Tryd.func3.symm.trans hfn)).symm
      refine ⟨by kernel_rfl, fun j t ht => ?_⟩
      have hall : (Tryd.f3.params.toList.all fun t => !Tryd.prog.wantsStandIn t) = true := by kernel_rfl
      have := List.all_eq_true.1 hall t (by rw [Array.mem_toList_iff]; exact Array.mem_of_getElem? ht)
      exact (by simpa using this : Tryd.prog.wantsStandIn t = false))
    (by kernel_rfl)
end Go.Proofs.YtakiohldgcifeaaDoor.specBack


