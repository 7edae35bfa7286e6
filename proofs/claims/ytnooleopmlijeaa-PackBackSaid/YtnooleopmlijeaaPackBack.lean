/- The statement of PackBack, proved: for every input the call returns true and leaves its arguments as they were. -/
import Derived.Test.YtnooleopmlijeaaOpenE
import Derived.Test.YtnooleopmlijeaaPackBackW
namespace Go.Proofs.Ytnooleopmlijeaa.packBack
open Go.ChangeShapes Go.WideShapes Go.ChangeAt Go.RowKit
open Go.ChangeMaps (open_string shut_string)

set_option maxRecDepth 100000 in
theorem lifted (os : Os) (started : os.Started) (H : Type) (enc : TypeId × Value → H) :
    ReturnsInHanded {} Try.checked os 11 .any (Rows.packBackSpec.pre6 enc Try.prog Try.f11 Rows.packBackRow.domain false) (Rows.packBackSpec.post enc Try.prog Try.f11 false true false false) := by
  refine law.said (fn := Try.f11) started (by kernel_rfl) Try.func11 ⟨rfl, fun H ds h => ?_⟩ (by kernel_rfl) (by kernel_rfl)
    (ChangeSpec.witness6 (enc := enc) (C := Try.checked) false ⟨#[], #[.int .u64 0, .string ByteArray.empty, .string ByteArray.empty, .slice none 0 0], []⟩ 8 (by kernel_rfl) (by kernel_rfl) (by kernel_rfl) (by kernel_rfl)) ?_
  · match ds, h with
    | [_, _, _, _], _ => rfl
  · intro W base args ds p ⟨hval0, hA, hsz, hfree⟩
    have hval : ∀ (j : Nat) t v, Try.f11.params[j]? = some t → args[j]? = some v → Value.okWide Try.prog W .any base t v := hval0
    clear hval0
    rw [Try.params11] at hA hval hsz
    obtain ⟨v0, vs0, d0, ds0, p0, q0, hargs, rfl, rfl, h0, r0⟩ := trodAll_cons hA
    obtain ⟨v1, vs1, d1, ds1, p1, q1, rfl, rfl, rfl, h1, r1⟩ := trodAll_cons r0
    obtain ⟨v2, vs2, d2, ds2, p2, q2, rfl, rfl, rfl, h2, r2⟩ := trodAll_cons r1
    obtain ⟨v3, vs3, d3, ds3, p3, q3, rfl, rfl, rfl, h3, r3⟩ := trodAll_cons r2
    obtain ⟨rfl, rfl, rfl⟩ := trodAll_nil r3
    obtain rfl : args = #[v0, v1, v2, v3] := by cases args; simp_all
    obtain ⟨a0, rfl, rfl, rfl, w0⟩ := open_int Try.underlying29 (hval 0 29 v0 rfl rfl) h0
    obtain ⟨n0, rfl, y0⟩ := eng.u64_of w0
    obtain ⟨a1, rfl, rfl, rfl, w1⟩ := open_string Try.underlying9 (hval 1 9 v1 rfl rfl) h1
    have z1 : a1.data.toList.length ≤ 140737488351232 := sized_string hsz (j := 1) rfl rfl
    obtain ⟨a2, rfl, rfl, rfl, w2⟩ := open_string Try.underlying9 (hval 2 9 v2 rfl rfl) h2
    have z2 : a2.data.toList.length ≤ 140737488351232 := sized_string hsz (j := 2) rfl rfl
    obtain ⟨l3, e3, f3, g3⟩ := kit.open_strs Try.underlying36 Try.underlying9 (by kernel_rfl) (by kernel_rfl) (hval 3 36 v3 rfl rfl) h3 hsz 3 rfl rfl
    obtain ⟨L3, E3, Z3, N3⟩ := eng.strs_of e3 f3
    rw [eng.str_of a1, eng.str_of a2]
    exact eng.fin (walk W n0 y0 a1.data.toList z1 a2.data.toList z2 v3 L3 E3 Z3 (by omega))

theorem proved : Rows.PackBackSaid :=
  OpenClaim.holds_of_wide 11 Try.f11 rfl rfl rfl rfl rfl rfl rfl ⟨rfl, rfl, rfl, rfl, rfl⟩ rfl rfl rfl rfl rfl (by kernel_rfl) Try.func11 (by kernel_rfl)
    (of_decide_eq_true (by kernel_rfl)) (by unfold Func.isWrapper; rw [if_neg (of_decide_eq_false (by kernel_rfl))]; exact ⟨rfl, rfl⟩)
    (fun os started H enc _ => lifted os started H enc)
end Go.Proofs.Ytnooleopmlijeaa.packBack
