/- The statement of LexerOwn, proved: for every input the call returns true and leaves its arguments as they were. -/
import Derived.Test.YtkmemlnkijinlaaMgF
namespace Go.Proofs.Ytkmemlnkijinlaa.lexerOwn
open Go.ChangeShapes Go.WideShapes Go.ChangeAt Go.RowKit
open Go.ChangeMaps (open_string shut_string)

set_option maxRecDepth 100000 in
theorem lifted (os : Os) (started : os.Started) (H : Type) (enc : TypeId × Value → H) :
    ReturnsInHanded {} Try.checked os 4 .any (Rows.lexerOwnSpec.pre6 enc Try.prog Try.f4 Rows.lexerOwnRow.domain false) (Rows.lexerOwnSpec.post enc Try.prog Try.f4 false true false false) := by
  refine law.said (fn := Try.f4) started (by kernel_rfl) Try.func4 ⟨rfl, fun H ds h => ?_⟩ (by kernel_rfl) (by kernel_rfl)
    (ChangeSpec.witness6 (enc := enc) (C := Try.checked) false ⟨#[], #[.agg ((List.replicate 256 (Value.int .u8 0) ++ [Value.slice none 0 0, Value.slice none 0 0]).toArray), .string ByteArray.empty], []⟩ 8 (by kernel_rfl) (by kernel_rfl) (by kernel_rfl) (by kernel_rfl)) ?_
  · match ds, h with
    | [_, _], _ => rfl
  · intro W base args ds p ⟨hval0, hA, hsz, hfree⟩
    have hval : ∀ (j : Nat) t v, Try.f4.params[j]? = some t → args[j]? = some v → Value.okWide Try.prog W .any base t v := hval0
    clear hval0
    rw [Try.params4] at hA hval hsz
    obtain ⟨v0, vs0, d0, ds0, p0, q0, hargs, rfl, rfl, h0, r0⟩ := trodAll_cons hA
    obtain ⟨v1, vs1, d1, ds1, p1, q1, rfl, rfl, rfl, h1, r1⟩ := trodAll_cons r0
    obtain ⟨rfl, rfl, rfl⟩ := trodAll_nil r1
    obtain rfl : args = #[v0, v1] := by cases args; simp_all
    obtain ⟨o0, N0, tags0, vn0, vt0, hv0, ho0, hp0, b10, b20, b30⟩ := eng.open_pk (hval 0 26 v0 rfl rfl) h0 hsz 0 rfl rfl
    obtain ⟨a1, rfl, rfl, rfl, w1⟩ := open_string Try.underlying9 (hval 1 9 v1 rfl rfl) h1
    have z1 : a1.data.toList.length ≤ 140737488351232 := sized_string hsz (j := 1) rfl rfl
    rw [eng.str_of a1]
    exact eng.fin (walk W v0 o0 N0 tags0 vn0 vt0 hv0 ho0 hp0 b10 b20 b30 a1.data.toList z1)

theorem proved : Rows.LexerOwnSaid :=
  OpenClaim.holds_of_wide 4 Try.f4 rfl rfl rfl rfl rfl rfl rfl ⟨rfl, rfl, rfl, rfl, rfl⟩ rfl rfl rfl rfl rfl (by kernel_rfl) Try.func4 (by kernel_rfl)
    (of_decide_eq_true (by kernel_rfl)) (by unfold Func.isWrapper; rw [if_neg (of_decide_eq_false (by kernel_rfl))]; exact ⟨rfl, rfl⟩)
    (fun os started H enc _ => lifted os started H enc)
end Go.Proofs.Ytkmemlnkijinlaa.lexerOwn

