/- Packed automata: what small.Pack computes (plain); cells of a packed one. -/
import Derived.Test.YtbiacehgfmgfdaaSmY
import Derived.Test.YtbiacehgfmgfdaaSmK
import Derived.Test.YtbiacehgfmgfdaaMgB
namespace Go.Proofs.Ytbiacehgfmgfdaa.eng
open Go.RowKit kit mix dfaL smallL
def cellF (R : List Row) (i b : Nat) : Int := (R.getD i row0).toList.getD b 0
theorem cell_get {R : List Row} {i b : Nat} (h : i < R.length) (hb : b < 256) : cellF R i b = (R[i])[b] := aut_d (tags := []) h hb
/-- a column, its first k cells being there -/
def colS (R : List Row) (b k : Nat) : Col := Vector.ofFn fun i : Fin 200 => if i < k then cellF R i b else 0
def colF (R : List Row) (b : Nat) : Col := colS R b R.length
theorem colS_0 (R : List Row) (b : Nat) : colS R b 0 = Vector.replicate 200 0 := by
  refine Vector.ext fun i hi => ?_
  unfold colS; simp
theorem colS_set (R : List Row) (b k : Nat) (h : k < 200) : (colS R b k).set k (cellF R k b) = colS R b (k + 1) := by
  refine Vector.ext fun i hi => ?_
  unfold colS
  rw [Vector.getElem_set, Vector.getElem_ofFn, Vector.getElem_ofFn]
  split
  · rename_i e; subst e; simp
  · have : i < k ↔ i < k + 1 := by omega
    simp only [this]
theorem col_set (c : Col) {i : Nat} (h : i < 200) (x : Int) : (colC c).toArray.setIfInBounds i (.int .i16 x) = (colC (c.set i x)).toArray := by
  unfold colC
  rw [Vector.toList_set, List.map_set]; simp
theorem zero_col : (List.replicate 200 (Value.int .i16 0)).toArray = (colC (Vector.replicate 200 0)).toArray := by
  unfold colC
  rw [Vector.toList_replicate, List.map_replicate]
theorem colF_get (R : List Row) (b i : Nat) (h : i < R.length) (h2 : R.length ≤ 200) : (colF R b).toList.getD i 0 = cellF R i b := by
  unfold colF colS
  rw [List.getD_eq_getElem?_getD, List.getElem?_eq_getElem (by simp; omega), Option.getD_some, Vector.getElem_toList, Vector.getElem_ofFn]
  simp [h]
theorem colF_ok {R : List Row} (hr : ∀ r ∈ R, ∀ x ∈ r.toList, -32768 ≤ x ∧ x ≤ 32767) {b : Nat} (hb : b < 256) : colOk (colF R b) := by
  intro i hi
  unfold colF colS
  rw [Vector.getElem_ofFn]
  dsimp only
  split
  · rename_i h
    rw [cell_get h hb]
    exact hr R[i] (List.getElem_mem h) _ (by rw [← Vector.getElem_toList (h := by simpa using hb)]; exact List.getElem_mem _)
  · omega
/-- the columns, as they come -/
def pkD (R : List Row) (k : Nat) : List Col := firsts [] ((List.range k).map (colF R))
theorem pkD_next (R : List Row) (k : Nat) : pkD R (k + 1) = more (pkD R k) (colF R k) := by
  unfold pkD
  rw [List.range_succ, List.map_append, List.map_singleton, firsts_snoc]
theorem pkD_old {R : List Row} {k : Nat} (h : colF R k ∈ pkD R k) : pkD R (k + 1) = pkD R k := by
  rw [pkD_next]; exact if_pos h
theorem pkD_new {R : List Row} {k : Nat} (h : colF R k ∉ pkD R k) : pkD R (k + 1) = pkD R k ++ [colF R k] := by
  rw [pkD_next]; exact if_neg h
theorem pkD_len (R : List Row) : ∀ k, (pkD R k).length ≤ k
  | 0 => Nat.le_refl _
  | k + 1 => by
    have := pkD_len R k
    by_cases c : colF R k ∈ pkD R k
    · rw [pkD_old c]; omega
    · rw [pkD_new c, List.length_append, List.length_singleton]; omega
theorem pkD_pre (R : List Row) (k : Nat) : ∀ j, k ≤ j → ∃ E, pkD R j = pkD R k ++ E
  | 0, h => ⟨[], by obtain rfl : k = 0 := (by omega); rw [List.append_nil]⟩
  | j + 1, h => by
    by_cases c : k = j + 1
    · subst c; exact ⟨[], by rw [List.append_nil]⟩
    · obtain ⟨E, hE⟩ := pkD_pre R k j (by omega)
      obtain ⟨E', hE'⟩ := more_pre (pkD R j) (colF R j)
      exact ⟨E ++ E', by rw [pkD_next, hE', hE, List.append_assoc]⟩
theorem pkD_mem (R : List Row) {b k : Nat} (h : b < k) : colF R b ∈ pkD R k := mem_firsts.2 (.inr (List.mem_map.2 ⟨b, by simpa using h, rfl⟩))
/-- the number of a byte's column -/
def pkN (R : List Row) (b : Nat) : Nat := idx (pkD R 256) (colF R b)
theorem pkN_at {R : List Row} {k : Nat} (h : k < 256) : pkN R k = if colF R k ∈ pkD R k then idx (pkD R k) (colF R k) else (pkD R k).length := by
  obtain ⟨E, hE⟩ := pkD_pre R (k + 1) 256 (by omega)
  unfold pkN
  rw [hE, idx_pre (pkD_mem R (Nat.lt_succ_self k)), pkD_next, idx_more]
  by_cases c : colF R k ∈ pkD R k
  · rw [if_pos c, if_pos c]
  · rw [if_neg c, if_neg c]
theorem pkN_lt (R : List Row) {b : Nat} (h : b < 256) : pkN R b < (pkD R 256).length := idx_lt (pkD_mem R h)
theorem pkN_256 (R : List Row) {b : Nat} (h : b < 256) : pkN R b < 256 := Nat.lt_of_lt_of_le (pkN_lt R h) (pkD_len R 256)
abbrev Of := Vector Nat 256
def ofS (R : List Row) (k : Nat) : Of := Vector.ofFn fun b : Fin 256 => if b < k then pkN R b else 0
theorem ofS_0 (R : List Row) : ofS R 0 = Vector.replicate 256 0 := by
  refine Vector.ext fun i hi => ?_
  unfold ofS; simp
theorem ofS_set (R : List Row) (k : Nat) (h : k < 256) : (ofS R k).set k (pkN R k) = ofS R (k + 1) := by
  refine Vector.ext fun i hi => ?_
  unfold ofS
  rw [Vector.getElem_set, Vector.getElem_ofFn, Vector.getElem_ofFn]
  split
  · rename_i e; subst e; simp
  · have : i < k ↔ i < k + 1 := by omega
    simp only [this]
/-- a row of Next, the columns being D -/
def nxL (D : List Col) (i : Nat) : List Int := D.map fun c => c.toList.getD i 0
/-- what small.Pack makes of rows -/
def pkR (R : List Row) : List (List Int) := (List.range R.length).map (nxL (pkD R 256))
/-! ### cells -/
def pkC (o : Of) (vn vt : Value) : List Value := o.toList.map (fun n : Nat => .int .u8 (n : Int)) ++ [vn, vt]
def pkV (o : Of) (vn vt : Value) : Value := .agg (pkC o vn vt).toArray
theorem pkC_len (o : Of) (vn vt : Value) : (pkC o vn vt).length = 258 := by simp [pkC]
theorem pk_size (o : Of) (vn vt : Value) : (pkC o vn vt).toArray.size = 258 := by rw [List.size_toArray, pkC_len]
theorem pk_of (o : Of) (vn vt : Value) {b : Nat} (h : b < 256) : (pkC o vn vt).toArray[b]? = some (.int .u8 (o[b] : Int)) := by
  rw [List.getElem?_toArray]
  unfold pkC
  rw [List.getElem?_append_left (by simpa using h), List.getElem?_map, List.getElem?_eq_getElem (by simpa using h), Vector.getElem_toList]; rfl
theorem pk_next (o : Of) (vn vt : Value) : (pkC o vn vt).toArray[256]? = some vn := by
  rw [List.getElem?_toArray]
  unfold pkC
  rw [List.getElem?_append_right (by simp)]; simp
theorem pk_tags (o : Of) (vn vt : Value) : (pkC o vn vt).toArray[257]? = some vt := by
  rw [List.getElem?_toArray]
  unfold pkC
  rw [List.getElem?_append_right (by simp)]; simp
theorem pk_one (o : Of) {vn vt : Value} (h1 : vn.oneCell' = true) (h2 : vt.oneCell' = true) : (pkC o vn vt).toArray.toList.all Value.oneCell' = true := by
  refine List.all_eq_true.2 fun u hu => ?_
  unfold pkC at hu
  simp only [List.mem_append, List.mem_map, List.mem_cons, List.not_mem_nil, or_false] at hu
  rcases hu with ⟨n, _, rfl⟩ | rfl | rfl
  · rfl
  · exact h1
  · exact h2
theorem pk_set (o : Of) (vn vt : Value) {b : Nat} (h : b < 256) (x : Nat) : (pkC o vn vt).toArray.setIfInBounds b (.int .u8 (x : Int)) = (pkC (o.set b x) vn vt).toArray := by
  unfold pkC
  rw [Vector.toList_set, List.map_set]
  simp [List.set_append, h]
theorem zero_pk : (List.replicate 256 (Value.int .u8 0) ++ ([.slice none 0 0, .slice none 0 0] : List Value)).toArray = (pkC (Vector.replicate 256 0) (.slice none 0 0) (.slice none 0 0)).toArray := by
  unfold pkC
  rw [Vector.toList_replicate, List.map_replicate]; rfl
theorem build_pk0 (w : World) : (Instr.build 45 #[]).run Try.prog w = .ok (pkV (Vector.replicate 256 0) (.slice none 0 0) (.slice none 0 0)) w := by kernel_rfl
theorem build_pk (g h n m cap : Nat) (w : World) : (Instr.build 45 #[(1, .slice (some ⟨g, 0, none⟩) n n), (2, .slice (some ⟨h, 0, none⟩) m cap)]).run Try.prog w = .ok (pkV (Vector.replicate 256 0) (.slice (some ⟨g, 0, none⟩) n n) (.slice (some ⟨h, 0, none⟩) m cap)) w := by kernel_rfl
end Go.Proofs.Ytbiacehgfmgfdaa.eng
