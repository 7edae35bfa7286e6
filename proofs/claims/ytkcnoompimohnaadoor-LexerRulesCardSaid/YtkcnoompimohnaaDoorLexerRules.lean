/- The statement of LexerRules, proved: for every input the call returns true and leaves its arguments as they were. -/
import Derived.Test.YtkcnoompimohnaaDoorMgG
import Derived.Test.YtkcnoompimohnaaDoorCards
import Derived.Test.YtkcnoompimohnaaDoorTie
import Derived.SevenTiedAt
namespace Go.Proofs.YtkcnoompimohnaaDoor.lexerRules
open Go.ChangeShapes Go.WideShapes Go.ChangeAt Go.RowKit
open Go.ChangeMaps (open_string shut_string)

set_option maxRecDepth 100000 in
theorem lifted (os : Os) (started : os.Started) (H : Type) (enc : TypeId × Value → H) :
    ReturnsInHanded {} Tryd.checked os 4 .any (fun w args => (Rows.lexerRulesSpec.pre enc Tryd.prog Tryd.f4 Rows.lexerRulesRow.domain false w args ∧ laidMetH Tryd.prog law.tabs w) ∧ sizedMet enc Tryd.prog Tryd.f4 (OpenSpec.ofChange Rows.lexerRulesSpec) false w args) (Rows.lexerRulesSpec.post enc Tryd.prog Tryd.f4 false true false false) := by
  refine law.saidT (fn := Tryd.f4) started (by kernel_rfl) Tryd.func4 ⟨rfl, fun H ds h => ?_⟩ (by kernel_rfl) (by kernel_rfl)
    (ChangeSpec.witness_at (enc := enc) (C := Tryd.checked) (os := os) (X := fun w _ => laidMetH Tryd.prog law.tabs w) false (World.laidAll Tryd.prog os law.tabs) #[.slice none 0 0, .string ByteArray.empty] 8 (World.laidAll_os _ _ _) (by kernel_rfl) (by kernel_rfl) (by kernel_rfl) (by kernel_rfl) (by kernel_rfl) (law.laid_met os _)) ?_
  · match ds, h with
    | [_, _], _ => rfl
  · intro W base args ds p ⟨hval0, hA, hsz, hfree⟩ hT
    have hval : ∀ (j : Nat) t v, Tryd.f4.params[j]? = some t → args[j]? = some v → Value.okWide Tryd.prog W .any base t v := hval0
    clear hval0
    rw [Tryd.params4] at hA hval hsz
    obtain ⟨v0, vs0, d0, ds0, p0, q0, hargs, rfl, rfl, h0, r0⟩ := trodAll_cons hA
    obtain ⟨v1, vs1, d1, ds1, p1, q1, rfl, rfl, rfl, h1, r1⟩ := trodAll_cons r0
    obtain ⟨rfl, rfl, rfl⟩ := trodAll_nil r1
    obtain rfl : args = #[v0, v1] := by cases args; simp_all
    obtain ⟨rs0, hrs0⟩ := eng.open_rexs (hval 0 22 v0 rfl rfl) h0 hsz 0 rfl rfl
    obtain ⟨a1, rfl, rfl, rfl, w1⟩ := open_string Tryd.underlying9 (hval 1 9 v1 rfl rfl) h1
    have z1 : a1.data.toList.length ≤ 140737488351232 := sized_string hsz (j := 1) rfl rfl
    rw [eng.str_of a1]
    exact eng.fin (walk W hT v0 rs0 hrs0 a1.data.toList z1)

theorem row : Rows.LexerRulesSaid :=
  OpenClaim.holds_of_wide 4 Tryd.f4 rfl rfl rfl rfl rfl rfl rfl ⟨rfl, rfl, rfl, rfl, rfl⟩ rfl rfl rfl rfl rfl (by kernel_rfl) Tryd.func4 (by kernel_rfl)
    (of_decide_eq_true (by kernel_rfl)) (by unfold Func.isWrapper; rw [if_neg (of_decide_eq_false (by kernel_rfl))]; exact ⟨rfl, rfl⟩)
    (fun os started H enc _ => lifted os started H enc)
set_option maxRecDepth 100000 in
theorem proved : Rows.LexerRulesCardSaid :=
  Claim7.holds_tied_plain_at .later [] [.data] true _ false
    row (fun _ h => by cases h) (by kernel_rfl) (fun _ h => by cases h) lexerRules_row_tie rfl ⟨rfl, rfl⟩ (by kernel_rfl) rfl
    (fun f fn hf hfn => by
      obtain rfl : f = 4 := Option.some.inj ((show Tryd.prog.funcNamed "pushmill/pushkeep.LexerRules" = some 4 by kernel_rfl).symm.trans hf) |>.symm
      obtain rfl : fn = Tryd.f4 := (Option.some.inj (Tryd.func4.symm.trans hfn)).symm
      refine ⟨by kernel_rfl, fun j t ht => ?_⟩
      have hall : (Tryd.f4.params.toList.all fun t => !Tryd.prog.wantsStandIn t) = true := by kernel_rfl
      have := List.all_eq_true.1 hall t (by rw [Array.mem_toList_iff]; exact Array.mem_of_getElem? ht)
      exact (by simpa using this : Tryd.prog.wantsStandIn t = false))
    (by kernel_rfl)
end Go.Proofs.YtkcnoompimohnaaDoor.lexerRules

