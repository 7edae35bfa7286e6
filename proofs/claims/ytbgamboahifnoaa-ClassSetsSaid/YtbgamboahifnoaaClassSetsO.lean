/- A class that came in, opened. -/
import Derived.Test.YtbgamboahifnoaaRead
import Derived.Test.YtbgamboahifnoaaClassSetsW
namespace Go.Proofs.Ytbgamboahifnoaa.eng
open Go.RowKit kit mix classL
theorem v64_of {n : Int} (h0 : 0 ≤ n) (h1 : n ≤ 18446744073709551615) : v64 (BitVec.ofNat 64 n.toNat) = .int .u64 n := by
  simp only [v64, n64, BitVec.toNat_ofNat]
  congr 1
  omega
set_option maxRecDepth 100000 in
theorem open_class {H : Type} {enc0 : TypeId × Value → H} {W : World} {base : Nat} {v : Value} {d : DataW H} {ps : List MemPlace} (hv : Value.okWide Try.prog W .any base 35 v) (h : DataW.Trod enc0 Try.prog W 0 (fun _ => true) true 35 v d ps) : ∃ x : C4, v = clsV x := by
  obtain ⟨cs, fuel, rfl, hf⟩ := top_arr Try.underlying35 hv h
  have ho : Opens enc0 Try.prog W 35 (isInts .u64 0 18446744073709551615 4) := (opens_array (is := isInt .u64 0 18446744073709551615) (c := 1) Try.underlying35 (by kernel_rfl) (opens_u64 Try.underlying28)).mono fun cs l h => by
    have e : Try.prog.cellsOf 35 = 4 := by kernel_rfl
    exact ints_of_arr (by rw [h.1, e]) h.2
  obtain ⟨l, h1, h2, h3⟩ := ho fuel cs.toList _ hf
  match l, h1 with
  | [p, q, r, s], _ =>
    have b0 := h3 p (by simp)
    have b1 := h3 q (by simp)
    have b2 := h3 r (by simp)
    have b3 := h3 s (by simp)
    refine ⟨⟨BitVec.ofNat 64 p.toNat, BitVec.ofNat 64 q.toNat, BitVec.ofNat 64 r.toNat, BitVec.ofNat 64 s.toNat⟩, ?_⟩
    show Value.agg cs = .agg #[v64 (BitVec.ofNat 64 p.toNat), v64 (BitVec.ofNat 64 q.toNat), v64 (BitVec.ofNat 64 r.toNat), v64 (BitVec.ofNat 64 s.toNat)]
    rw [v64_of b0.1 b0.2, v64_of b1.1 b1.2, v64_of b2.1 b2.2, v64_of b3.1 b3.2, ← Array.toArray_toList (xs := cs), h2]
    rfl
end Go.Proofs.Ytbgamboahifnoaa.eng
namespace Go.Proofs.Ytbgamboahifnoaa.classSets
open Go.RowKit kit mix classL eng
theorem walk (W : World) (v0 : Value) (x : C4) (h0 : v0 = clsV x) (v1 : Value) (y : C4) (h1 : v1 = clsV y) (v2 : Value) (z : C4) (h2 : v2 = clsV z) : Calls Try.prog 7 #[v0, v1, v2] W (Meets (ret (.bool true)) W) := by
  subst h0 h1 h2
  exact walkS W x y z
end Go.Proofs.Ytbgamboahifnoaa.classSets
