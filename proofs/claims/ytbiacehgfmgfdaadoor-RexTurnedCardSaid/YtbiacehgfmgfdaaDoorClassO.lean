/- Classes that came in, opened. -/
import Derived.Test.YtbiacehgfmgfdaaDoorMgB
import Derived.Test.YtbiacehgfmgfdaaDoorClassSetsE
namespace Go.Proofs.YtbiacehgfmgfdaaDoor.eng
open Go.RowKit kit mix classL
theorem v64_ofN {n : Int} (h0 : 0 ≤ n) (h1 : n ≤ 18446744073709551615) : v64 (BitVec.ofNat 64 n.toNat) = .int .u64 n := by
  simp only [v64, n64, BitVec.toNat_ofNat]
  congr 1
  omega
set_option maxRecDepth 100000 in
theorem opens_cls {H : Type} {enc0 : TypeId × Value → H} {W : World} : Opens enc0 Tryd.prog W 27 (fun cs x => cs = clsL x ∧ True) := fun fuel cs x hf => by
  have ho : Opens enc0 Tryd.prog W 27 (isInts .u64 0 18446744073709551615 4) := (opens_array (is := isInt .u64 0 18446744073709551615) (c := 1) Tryd.underlying27 (by kernel_rfl) (opens_u64 Tryd.underlying25)).mono fun cs l h => by
    have e : Tryd.prog.cellsOf 27 = 4 := by kernel_rfl
    exact ints_of_arr (by rw [h.1, e]) h.2
  obtain ⟨l, h1, h2, h3⟩ := ho fuel cs _ hf
  match l, h1 with
  | [p, q, r, s], _ =>
    have b0 := h3 p (by simp)
    have b1 := h3 q (by simp)
    have b2 := h3 r (by simp)
    have b3 := h3 s (by simp)
    refine ⟨⟨BitVec.ofNat 64 p.toNat, BitVec.ofNat 64 q.toNat, BitVec.ofNat 64 r.toNat, BitVec.ofNat 64 s.toNat⟩, ?_, trivial⟩
    show cs = [v64 (BitVec.ofNat 64 p.toNat), v64 (BitVec.ofNat 64 q.toNat), v64 (BitVec.ofNat 64 r.toNat), v64 (BitVec.ofNat 64 s.toNat)]
    rw [v64_ofN b0.1 b0.2, v64_ofN b1.1 b1.2, v64_ofN b2.1 b2.2, v64_ofN b3.1 b3.2, h2]
    rfl
set_option maxRecDepth 100000 in
theorem open_cls {H : Type} {enc0 : TypeId × Value → H} {W : World} {base : Nat} {v : Value} {d : DataW H} {ps : List MemPlace} (hv : Value.okWide Tryd.prog W .any base 27 v) (h : DataW.Trod enc0 Tryd.prog W 0 (fun _ => true) true 27 v d ps) : ∃ x : C4, v = clsV x := by
  obtain ⟨cs, fuel, rfl, hf⟩ := top_arr Tryd.underlying27 hv h
  obtain ⟨x, h1, _⟩ := opens_cls fuel cs.toList _ hf
  exact ⟨x, by show Value.agg cs = .agg (clsL x).toArray; rw [← h1]⟩
set_option maxRecDepth 100000 in
theorem open_clss {H : Type} {enc0 : TypeId × Value → H} {W : World} {base : Nat} {v : Value} {d : DataW H} {ps : List MemPlace} (hv : Value.okWide Tryd.prog W .any base 22 v) (h : DataW.Trod enc0 Tryd.prog W 0 (fun _ => true) true 22 v d ps) {ts : List TypeId} {ds : List (DataW H)} (hsz : (DataW.weightsEach Tryd.prog ts ds).all (· ≤ reachBytes) = true) (j : Nat) (hj : ts[j]? = some 22) (hd : ds[j]? = some d) :
    ∃ l : List C4, Sl W v l.length (l.flatMap clsL) ∧ l.length * 32 ≤ 140737488351232 := by
  obtain ⟨l, h1, _, h3⟩ := open_flat Tryd.underlying22 (c := 4) (by kernel_rfl) (by decide) clsL (fun _ => rfl) (fun _ => True) (fun n cs x hx => let ⟨f, e, h⟩ := opens_cls n cs x hx; ⟨f, e, h⟩) hv h
  exact ⟨l, h1, size_flat (n := l.length) hsz hj hd Tryd.underlying22 (by kernel_rfl) (by rcases h3 with ⟨h, rfl⟩ | h; exact .inl ⟨h, rfl⟩; exact .inr h)⟩
end Go.Proofs.YtbiacehgfmgfdaaDoor.eng
