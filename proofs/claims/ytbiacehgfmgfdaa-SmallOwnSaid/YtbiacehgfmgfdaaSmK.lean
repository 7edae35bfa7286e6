/- The keys of package small's maps. -/
import Derived.Test.YtbiacehgfmgfdaaKeyG
import Derived.Test.YtbiacehgfmgfdaaSmT
namespace Go.Proofs.Ytbiacehgfmgfdaa.eng
open Go.RowKit kit mix smallL
/-! ### kinds -/
def kindC (k : Kind) : List Value := .int .i64 k.1 :: rowC k.2
def kindV (k : Kind) : Value := .agg (kindC k).toArray
theorem kindC_len (k : Kind) : (kindC k).length = 257 := by simp [kindC, rowC_len]
def rowOk (r : Row) : Prop := ∀ (b : Nat) (h : b < 256), (-32768 : Int) ≤ r[b] ∧ r[b] ≤ 32767
theorem rowC_inj {r r' : Row} (h : rowC r = rowC r') : r = r' := by
  refine Vector.ext fun b hb => ?_
  have h1 := rowC_get r hb
  rw [h, rowC_get r' hb] at h1
  simp at h1; exact h1.symm
theorem kl_row {r : Row} (h : rowOk r) (d : Nat) : KL Try.prog (d + 2) 31 (rowC r) := by
  have e2 : Try.prog.cellsOf 31 = 256 := by kernel_rfl
  have e3 : Try.prog.cellsOf 29 = 1 := by kernel_rfl
  refine kl_arr (d := d + 1) Try.underlying31 (by rw [rowC_len, e2]) fun i hi => ?_
  have hc : ((rowC r).drop (i * Try.prog.cellsOf 29)).take (Try.prog.cellsOf 29) = [.int .i16 r[i]] := by
    rw [e3, Nat.mul_one]
    have hl : i < (rowC r).length := by rw [rowC_len]; exact hi
    rw [List.drop_eq_getElem_cons hl]
    have := rowC_get r hi
    rw [List.getElem?_eq_getElem hl] at this
    rw [Option.some.inj this]; rfl
  rw [hc]
  exact kl_int Try.underlying29 (h i hi).1 (h i hi).2
set_option maxRecDepth 100000 in
theorem kind_key (k : Kind) (h : kit.okI64 k.1 ∧ rowOk k.2) : ∃ l, keyOf Try.prog 78 (kindV k) = some l := by
  have e1 : Try.prog.cellsOf 78 = 257 := by kernel_rfl
  have e2 : Try.prog.cellsOf 31 = 256 := by kernel_rfl
  have e3 : Try.prog.cellsOf 3 = 1 := by kernel_rfl
  refine key_ex (m := 3) (by kernel_rfl) (by kernel_rfl) (by rw [kindC_len, e1]) (trySize 3 (by kernel_rfl)) fun d => ?_
  refine kl_struct (d := d + 2) Try.underlying78 (by rw [kindC_len, e1]) (by kernel_rfl) fun f hf => ?_
  simp only [List.mem_cons, List.not_mem_nil, or_false] at hf
  rcases hf with rfl | rfl
  · rw [e3]
    exact kl_int (d := d + 1) Try.underlying3 h.1.1 h.1.2
  · show KL Try.prog (d + 2) 31 (((kindC k).drop 1).take (Try.prog.cellsOf 31))
    rw [e2]
    have : ((kindC k).drop 1).take 256 = rowC k.2 := by
      show (rowC k.2).take 256 = _
      rw [List.take_of_length_le (by rw [rowC_len]; omega)]
    rw [this]
    exact kl_row h.2 d
theorem kindRow : (78 : TypeId) < Try.prog.types.size := of_decide_eq_true (by kernel_rfl)
set_option maxRecDepth 100000 in
def kindK : KeyT Try.prog 78 Kind where
  kv := kindV
  ok k := kit.okI64 k.1 ∧ rowOk k.2
  law := deep_law_laid tryLaid (m := 3) (by omega) kindRow (by kernel_rfl) (by kernel_rfl)
  key x h := kind_key x h
  inj x y h := by
    simp only [kindV, Value.agg.injEq, Array.mk.injEq, kindC, List.cons.injEq, Value.int.injEq, true_and] at h
    exact Prod.ext h.1 (rowC_inj h.2)
/-! ### pairs of states -/
def pairC (p : Pr) : List Value := [.int .i64 p.1, .int .i64 p.2]
def pairV (p : Pr) : Value := .agg (pairC p).toArray
set_option maxRecDepth 100000 in
theorem pair_key (p : Pr) (h : kit.okI64 p.1 ∧ kit.okI64 p.2) : ∃ l, keyOf Try.prog 62 (pairV p) = some l := by
  have e1 : Try.prog.cellsOf 62 = 2 := by kernel_rfl
  have e3 : Try.prog.cellsOf 3 = 1 := by kernel_rfl
  refine key_ex (m := 2) (by kernel_rfl) (by kernel_rfl) (by rw [e1]; rfl) (trySize 2 (by kernel_rfl)) fun d => ?_
  refine kl_struct (d := d + 1) Try.underlying62 (by rw [e1]; rfl) (by kernel_rfl) fun f hf => ?_
  simp only [List.mem_cons, List.not_mem_nil, or_false] at hf
  rcases hf with rfl | rfl
  · rw [e3]
    exact kl_int Try.underlying3 h.1.1 h.1.2
  · rw [e3]
    exact kl_int Try.underlying3 h.2.1 h.2.2
theorem pairRow : (62 : TypeId) < Try.prog.types.size := of_decide_eq_true (by kernel_rfl)
set_option maxRecDepth 100000 in
def pairK : KeyT Try.prog 62 Pr where
  kv := pairV
  ok p := kit.okI64 p.1 ∧ kit.okI64 p.2
  law := deep_law_laid tryLaid (m := 2) (by omega) pairRow (by kernel_rfl) (by kernel_rfl)
  key x h := pair_key x h
  inj x y h := by
    simp only [pairV, Value.agg.injEq, Array.mk.injEq, pairC, List.cons.injEq, Value.int.injEq, true_and, and_true] at h
    exact Prod.ext h.1 h.2
/-! ### columns -/
abbrev Col := Vector Int 200
def colC (c : Col) : List Value := c.toList.map (.int .i16)
def colV (c : Col) : Value := .agg (colC c).toArray
theorem colC_len (c : Col) : (colC c).length = 200 := by simp [colC]
theorem colC_get (c : Col) {b : Nat} (hb : b < 200) : (colC c)[b]? = some (.int .i16 c[b]) := by
  unfold colC
  rw [List.getElem?_map, List.getElem?_eq_getElem (by simpa using hb), Vector.getElem_toList]; rfl
def colOk (c : Col) : Prop := ∀ (b : Nat) (h : b < 200), (-32768 : Int) ≤ c[b] ∧ c[b] ≤ 32767
set_option maxRecDepth 100000 in
theorem col_key (c : Col) (h : colOk c) : ∃ l, keyOf Try.prog 74 (colV c) = some l := by
  have e2 : Try.prog.cellsOf 74 = 200 := by kernel_rfl
  have e3 : Try.prog.cellsOf 29 = 1 := by kernel_rfl
  refine key_ex (m := 2) (by kernel_rfl) (by kernel_rfl) (by rw [colC_len, e2]) (trySize 2 (by kernel_rfl)) fun d => ?_
  refine kl_arr (d := d + 1) Try.underlying74 (by rw [colC_len, e2]) fun i hi => ?_
  have hc : ((colC c).drop (i * Try.prog.cellsOf 29)).take (Try.prog.cellsOf 29) = [.int .i16 c[i]] := by
    rw [e3, Nat.mul_one]
    have hl : i < (colC c).length := by rw [colC_len]; exact hi
    rw [List.drop_eq_getElem_cons hl]
    have := colC_get c hi
    rw [List.getElem?_eq_getElem hl] at this
    rw [Option.some.inj this]; rfl
  rw [hc]
  exact kl_int Try.underlying29 (h i hi).1 (h i hi).2
theorem colRow : (74 : TypeId) < Try.prog.types.size := of_decide_eq_true (by kernel_rfl)
set_option maxRecDepth 100000 in
def colK : KeyT Try.prog 74 Col where
  kv := colV
  ok := colOk
  law := deep_law_laid tryLaid (m := 2) (by omega) colRow (by kernel_rfl) (by kernel_rfl)
  key x h := col_key x h
  inj x y h := by
    simp only [colV, Value.agg.injEq, Array.mk.injEq] at h
    refine Vector.ext fun b hb => ?_
    have h1 := colC_get x hb
    rw [h, colC_get y hb] at h1
    simp at h1; exact h1.symm
theorem zeroI (w : World) : (zeroValue 3).run Try.prog w = .ok (.int .i64 0) w := by kernel_rfl
end Go.Proofs.Ytbiacehgfmgfdaa.eng
