/- Rows compared. -/
import Derived.Test.YtbiacehgfmgfdaaSmPL
import Derived.ChangeKeysEq
namespace Go.Proofs.Ytbiacehgfmgfdaa.eng
open Go.RowKit kit mix dfaL smallL
theorem part16 (cs : Array Value) (k : Nat) (z : Int) (h : cs[k]? = some (.int .i16 z)) (w : World) : (part 29 cs k).run Try.prog w = .ok (.int .i16 z) w := by
  have e : (isAgg 29).run Try.prog w = .ok false w := by kernel_rfl
  unfold part
  simp [Sem.run_bind, e, h]
theorem eqI16 (a b : Int) (w : World) : (Op.equalIn 9999 29 (.int .i16 a) (.int .i16 b)).run Try.prog w = .ok (a == b) w := by
  have hu : Try.prog.underlying 29 = some (.int .i16) := rfl
  unfold Op.equalIn
  simp [Sem.run_bind, run_underlying hu]
theorem eqItems16 (x y : Row) (w : World) : ∀ (is : List Nat), (∀ i ∈ is, i < 256) →
    (Op.eqItems 9999 29 1 (rowC x).toArray (rowC y).toArray is).run Try.prog w = .ok (is.all fun i => x.toList.getD i 0 == y.toList.getD i 0) w
  | [], _ => by simp [Op.eqItems]
  | i :: is, h => by
    have hi := h i (by simp)
    have hx := part16 (rowC x).toArray (i * 1) x[i] (by rw [Nat.mul_one, List.getElem?_toArray]; exact rowC_get x hi) w
    have hy := part16 (rowC y).toArray (i * 1) y[i] (by rw [Nat.mul_one, List.getElem?_toArray]; exact rowC_get y hi) w
    have e := eqI16 x[i] y[i] w
    have ih := eqItems16 x y w is fun j hj => h j (by simp [hj])
    have ex : x.toList.getD i 0 = x[i] := by rw [List.getD_eq_getElem?_getD, List.getElem?_eq_getElem (by simpa using hi)]; simp
    have ey : y.toList.getD i 0 = y[i] := by rw [List.getD_eq_getElem?_getD, List.getElem?_eq_getElem (by simpa using hi)]; simp
    unfold Op.eqItems
    simp only [Sem.run_bind, hx, hy, e, Result.andThen_ok, List.all_cons, ex, ey]
    cases c : (x[i] == y[i])
    · simp
    · simpa using ih
theorem eqRow (x y : Row) (w : World) : (Op.equalIn 10000 31 (.agg (rowC x).toArray) (.agg (rowC y).toArray)).run Try.prog w = .ok (decide (x = y)) w := by
  have hc : Try.prog.cellsOf 29 = 1 := rfl
  obtain ⟨i, hi⟩ : ∃ i, Try.prog.info? 29 = some i := ⟨_, rfl⟩
  rw [run_equalIn_array (P := Try.prog) w 9999 (n := 256) (e := 29) _ _ rfl hi, hc, eqItems16 x y w _ fun i hi => by simpa using hi]
  congr 1
  apply Bool.eq_iff_iff.2
  simp only [List.all_eq_true, List.mem_range, beq_iff_eq, decide_eq_true_eq]
  constructor
  · intro h
    refine Vector.ext fun i hi => ?_
    have := h i hi
    rw [List.getD_eq_getElem?_getD, List.getElem?_eq_getElem (by simpa using hi), List.getD_eq_getElem?_getD, List.getElem?_eq_getElem (by simpa using hi)] at this
    simpa using this
  · rintro rfl i hi; rfl
end Go.Proofs.Ytbiacehgfmgfdaa.eng
