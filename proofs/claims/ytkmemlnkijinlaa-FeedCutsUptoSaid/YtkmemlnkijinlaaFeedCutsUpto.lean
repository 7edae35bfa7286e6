/- The statement of FeedCuts (Upto), proved: for every input of the bounded bulk the call returns true and leaves its arguments as they were. -/
import Derived.Test.YtkmemlnkijinlaaMgG
namespace Go.Proofs.Ytkmemlnkijinlaa.feedCuts
open Go.ChangeShapes Go.WideShapes Go.ChangeAt Go.RowKit
open Go.ChangeMaps (open_string shut_string)

set_option maxRecDepth 100000 in
theorem lifted (os : Os) (started : os.Started) (H : Type) (enc : TypeId × Value → H) (F : Stop.Interp) :
    ReturnsInHanded {} Try.checked os 3 .any ((Rows.OpenSpec.upto Rows.feedCutsSpec).pre6 enc Try.prog Try.f3 Rows.feedCutsUptoRow.domain false) (((Rows.OpenSpec.upto Rows.feedCutsSpec).at F).post enc Try.prog Try.f3 false true false false) := by
  refine law.upto (fn := Try.f3) started (by kernel_rfl) Try.func3 ⟨rfl, fun H ds h => ?_⟩ (by kernel_rfl) (by kernel_rfl)
    (OpenSpec.witness (enc := enc) (C := Try.checked) (s := Rows.OpenSpec.upto Rows.feedCutsSpec) (k := Rows.uptoSmall) rfl false ⟨#[], #[.agg ((List.replicate 256 (Value.int .u8 0) ++ [Value.slice none 0 0, Value.slice none 0 0]).toArray), .string ByteArray.empty, .slice none 0 0], []⟩ 8 (by kernel_rfl) (by kernel_rfl) (by kernel_rfl)
      (x := ([.agg [.agg (List.replicate 256 (.lit (.int .u8 0))), .nil, .nil], .lit (.string []), .nil], [], [])) (by kernel_rfl) rfl (by kernel_rfl)) ?_
  · match ds, h with
    | [_, _, _], _ => rfl
  · intro W base args ds p ⟨hval0, hA, hsz, hfree⟩ hk
    have hval : ∀ (j : Nat) t v, Try.f3.params[j]? = some t → args[j]? = some v → Value.okWide Try.prog W .any base t v := hval0
    clear hval0
    rw [Try.params3] at hA hval hsz
    obtain ⟨v0, vs0, d0, ds0, p0, q0, hargs, rfl, rfl, h0, r0⟩ := trodAll_cons hA
    obtain ⟨v1, vs1, d1, ds1, p1, q1, rfl, rfl, rfl, h1, r1⟩ := trodAll_cons r0
    obtain ⟨v2, vs2, d2, ds2, p2, q2, rfl, rfl, rfl, h2, r2⟩ := trodAll_cons r1
    obtain ⟨rfl, rfl, rfl⟩ := trodAll_nil r2
    obtain rfl : args = #[v0, v1, v2] := by cases args; simp_all
    obtain ⟨o0, N0, tags0, vn0, vt0, hv0, ho0, hp0, b10, b20, b30⟩ := eng.open_pk (hval 0 26 v0 rfl rfl) h0 hsz 0 rfl rfl
    obtain ⟨a1, rfl, rfl, rfl, w1⟩ := open_string Try.underlying9 (hval 1 9 v1 rfl rfl) h1
    have z1 : a1.data.toList.length ≤ 140737488351232 := sized_string hsz (j := 1) rfl rfl
    obtain ⟨l12, f12, o12, n12⟩ := eng.open_intsU (hval 2 24 v2 rfl rfl) h2
    rw [eng.str_of a1]
    exact eng.fin (walk W v0 o0 N0 tags0 vn0 vt0 hv0 ho0 hp0 b10 b20 b30 a1.data.toList z1 v2 l12 f12 o12 n12 hk)

theorem proved : Rows.FeedCutsUptoSaid :=
  OpenClaim.holds_of_cond 3 Try.f3 rfl rfl rfl rfl rfl rfl rfl ⟨rfl, rfl, rfl, rfl, rfl⟩ rfl rfl rfl rfl rfl (by kernel_rfl) Try.func3 (by kernel_rfl)
    (of_decide_eq_true (by kernel_rfl)) (by unfold Func.isWrapper; rw [if_neg (of_decide_eq_false (by kernel_rfl))]; exact ⟨rfl, rfl⟩)
    (fun os started H enc _ F => lifted os started H enc F)
end Go.Proofs.Ytkmemlnkijinlaa.feedCuts

