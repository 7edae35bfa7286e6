/- Automata that a call has made, read again. -/
import Derived.Test.YtbiacehgfmgfdaaSmX
namespace Go.Proofs.Ytbiacehgfmgfdaa.eng
open Go.RowKit kit mix dfaL smallL
theorem chk_rng {R : List Row} {tags : List Int} (h : chk R tags = 0) : (∀ r ∈ R, ∀ x ∈ r.toList, -32768 ≤ x ∧ x ≤ 32767) ∧ ∀ x ∈ tags, kit.okI64 x := by
  obtain ⟨hA, hl⟩ := chk_ok h
  have hle : R.length ≤ 200 := hA.le
  refine ⟨fun r hr x hx => ?_, fun x hx => ?_⟩
  · obtain ⟨i, hi, rfl⟩ := List.mem_iff_getElem.1 hr
    obtain ⟨b, hb, rfl⟩ := List.mem_iff_getElem.1 hx
    have hb' : b < 256 := by simpa using hb
    have := hA.step i hi b hb'
    rw [aut_d hi hb'] at this
    have e : (aut R tags).n = R.length := rfl
    rw [Vector.getElem_toList]
    omega
  · obtain ⟨i, hi, rfl⟩ := List.mem_iff_getElem.1 hx
    have := hA.tags i (by show i < R.length; omega)
    rw [aut_tag hi] at this
    exact ⟨by omega, by omega⟩
theorem Mem.dfaM {B : Base} {w : World} {L : List Own} {i j : Nat} {vr vt : Value} {R : List Row} {tags : List Int} (hm : Mem B L w) (hi : L[i]? = some (rowO 31 256 vr R.length (R.flatMap rowC))) (hj : L[j]? = some (rowO 3 1 vt tags.length (tags.flatMap kit.intC))) (hc : chk R tags = 0) : DfaM w vr vt R tags :=
  ⟨sl_row hi _ hm, sl_row hj _ hm, (chk_rng hc).1, (chk_rng hc).2⟩
theorem tagF_ok {R : List Row} {tags : List Int} {s : List UInt8} (h : chk R tags = 0) : tagF R tags s = (tg (aut R tags) (go (aut R tags) 0 s), 0) := if_pos h
theorem tagF_min {R : List Row} {tags : List Int} {s : List UInt8} (h : chk R tags = 0) : tagF (minR R tags) (minT R tags) s = (tg (aut R tags) (go (aut R tags) 0 s), 0) := by
  rw [tagF_ok (min_chk h), min_aut h, min_means (chk_ok h).1]
theorem tg_rng {A : Aut} (hA : A.Ok) {q : Int} (hq : St A q) : -1 ≤ tg A q ∧ tg A q < 20 := by
  unfold tg
  unfold St at hq
  split
  · omega
  · exact hA.tags _ (by omega)
end Go.Proofs.Ytbiacehgfmgfdaa.eng
