/- An automaton that came in, opened, with bounds. -/
import Derived.Test.YtbiacehgfmgfdaaDfaO
import Derived.Test.YtbiacehgfmgfdaaMgB
namespace Go.Proofs.Ytbiacehgfmgfdaa.eng
open Go.RowKit kit mix dfaL
theorem open_dfaH {H : Type} {enc0 : TypeId × Value → H} {W : World} {base : Nat} {v : Value} {d : DataW H} {ps : List MemPlace} (hv : Value.okWide Try.prog W .any base 25 v) (h : DataW.Trod enc0 Try.prog W 0 (fun _ => true) true 25 v d ps) {ts : List TypeId} {ds : List (DataW H)} (hsz : (DataW.weightsEach Try.prog ts ds).all (· ≤ reachBytes) = true) (j : Nat) (hj : ts[j]? = some 25) (hd : ds[j]? = some d) :
    ∃ rows tags, IsDfa W v rows tags ∧ rows.length * 512 ≤ 140737488351232 ∧ tags.length * 8 ≤ 140737488351232 := by
  have hrow : Opens enc0 Try.prog W 31 isRow := (opens_array (is := isInt .i16 (-32768) 32767) (c := 1) Try.underlying31 (by kernel_rfl) (opens_i16 Try.underlying29)).mono fun cs l h => by
    have e : Try.prog.cellsOf 31 = 256 := by kernel_rfl
    exact ints_of_arr (by rw [h.1, e]) h.2
  have ho : OpensM (weightM Try.prog H) enc0 W 25 (fun cs (p : List (List Int) × List Int) => ∃ vr vt, cs = [vr, vt] ∧ SlX W isRow 256 vr p.1 ∧ (weightM Try.prog H).lim 31 p.1.length ∧ SlX W (isInt .i64 (-9223372036854775808) 9223372036854775807) 1 vt p.2 ∧ (weightM Try.prog H).lim 3 p.2.length) := fun fuel cs x hx hok => by
    obtain ⟨hl, hfs⟩ := fieldM_of Try.underlying25 hx hok
    have hl2 : cs.length = 2 := hl
    obtain ⟨rows, ⟨vr, hvr, hsr⟩, hmr⟩ := hfs 0 _ rfl (opensM_slice (c := 256) Try.underlying22 (by kernel_rfl) (by decide) (opensM_of hrow) fun cs r h => by rw [h.2.1, List.length_map, h.1])
    obtain ⟨tags, ⟨vt, hvt, hst⟩, hmt⟩ := hfs 1 _ rfl (opensM_slice (c := 1) Try.underlying23 (by kernel_rfl) (by decide) (opensM_i64 Try.underlying3) fun cs r h => by rw [h.1]; rfl)
    have e0 : (cs.drop 0).take 1 = [vr] := hvr
    have e1 : (cs.drop 1).take 1 = [vt] := hvt
    refine ⟨(rows, tags), vr, vt, ?_, hsr, hmr, hst, hmt⟩
    match cs, hl2 with
    | [a, b], _ =>
      simp at e0 e1
      subst e0 e1
      rfl
  obtain ⟨cs, ⟨rows, tags⟩, rfl, vr, vt, hcs, hsr, hmr, hst, hmt⟩ := topM_agg Try.underlying25 hv h ho (weightM_top hsz j hj hd)
  refine ⟨rows, tags, ⟨vr, vt, by rw [← Array.toArray_toList (xs := cs), hcs], hsr, hst, fun r hr => ?_⟩, ?_, ?_⟩
  · obtain ⟨i, hi, rfl⟩ := List.mem_iff_getElem.1 hr
    obtain ⟨base, cap, _, _, _, h5⟩ := hsr
    dsimp only at h5
    obtain ⟨b, off, _, h6⟩ := h5 (by omega)
    obtain ⟨cs, h7, _⟩ := h6 i hi
    exact h7.1
  · have e : Try.prog.bytesOf 31 = 512 := by kernel_rfl
    have h1 : rows.length * Try.prog.bytesOf 31 ≤ reachBytes := hmr
    rw [e] at h1
    exact h1
  · have e : Try.prog.bytesOf 3 = 8 := by kernel_rfl
    have h1 : tags.length * Try.prog.bytesOf 3 ≤ reachBytes := hmt
    rw [e] at h1
    exact h1
end Go.Proofs.Ytbiacehgfmgfdaa.eng
