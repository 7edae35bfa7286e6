/- An automaton that came in, opened. -/
import Derived.Test.YtbiacehgfmgfdaaMgB
import Derived.Test.YtbiacehgfmgfdaaDfaL
namespace Go.Proofs.Ytbiacehgfmgfdaa.eng
open Go.RowKit kit mix dfaL
def isRow (cs : List Value) (r : List Int) : Prop := r.length = 256 ∧ cs = r.map (.int .i16) ∧ ∀ x ∈ r, -32768 ≤ x ∧ x ≤ 32767
/-- a Dfa's two slices -/
def IsDfa (W : World) (v : Value) (rows : List (List Int)) (tags : List Int) : Prop := ∃ vr vt, v = .agg #[vr, vt] ∧ SlX W isRow 256 vr rows ∧ SlX W (isInt .i64 (-9223372036854775808) 9223372036854775807) 1 vt tags ∧ ∀ r ∈ rows, r.length = 256
theorem IsDfa.up {W w : World} {L : List Own} {v : Value} {rows : List (List Int)} {tags : List Int} (h : IsDfa W v rows tags) (hm : Mem W L w) : IsDfa w v rows tags :=
  let ⟨vr, vt, h1, h2, h3, h4⟩ := h; ⟨vr, vt, h1, h2.up hm, h3.up hm, h4⟩
theorem open_dfa {H : Type} {enc0 : TypeId × Value → H} {W : World} {base : Nat} {v : Value} {d : DataW H} {ps : List MemPlace} (hv : Value.okWide Try.prog W .any base 25 v) (h : DataW.Trod enc0 Try.prog W 0 (fun _ => true) true 25 v d ps) : ∃ rows tags, IsDfa W v rows tags := by
  obtain ⟨cs, fuel, rfl, hf⟩ := top_agg Try.underlying25 hv h
  obtain ⟨hl, hfs⟩ := field_of Try.underlying25 hf
  have hl2 : cs.toList.length = 2 := hl
  have hrow : Opens enc0 Try.prog W 31 isRow := (opens_array (is := isInt .i16 (-32768) 32767) (c := 1) Try.underlying31 (by kernel_rfl) (opens_i16 Try.underlying29)).mono fun cs l h => by
    have e : Try.prog.cellsOf 31 = 256 := by kernel_rfl
    exact ints_of_arr (by rw [h.1, e]) h.2
  obtain ⟨rows, vr, hvr, hsr⟩ := hfs 0 _ rfl (opens_slice (c := 256) Try.underlying22 (by kernel_rfl) (by decide) hrow fun cs r h => by rw [h.2.1, List.length_map, h.1])
  obtain ⟨tags, vt, hvt, hst⟩ := hfs 1 _ rfl (opens_slice (c := 1) Try.underlying23 (by kernel_rfl) (by decide) (opens_i64 Try.underlying3) fun cs r h => by rw [h.1]; rfl)
  have e0 : (cs.toList.drop 0).take 1 = [vr] := hvr
  have e1 : (cs.toList.drop 1).take 1 = [vt] := hvt
  have ecs : cs = #[vr, vt] := by
    match hcs : cs.toList, hl2 with
    | [a, b], _ =>
      rw [hcs] at e0 e1
      simp at e0 e1
      subst e0 e1
      rw [← Array.toArray_toList (xs := cs), hcs]
  refine ⟨rows, tags, vr, vt, by rw [ecs], hsr, hst, fun r hr => ?_⟩
  obtain ⟨i, hi, rfl⟩ := List.mem_iff_getElem.1 hr
  obtain ⟨base, cap, _, _, _, h5⟩ := hsr
  obtain ⟨b, off, _, h6⟩ := h5 (by omega)
  obtain ⟨cs, h7, _⟩ := h6 i hi
  exact h7.1
end Go.Proofs.Ytbiacehgfmgfdaa.eng
