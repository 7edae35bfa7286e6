/- What small.Check says of a packed automaton that is as it should be, and what small.Unpack makes of it. -/
import Derived.Test.YtbiacehgfmgfdaaSmPk
namespace Go.Proofs.Ytbiacehgfmgfdaa.eng
open Go.RowKit kit mix dfaL smallL
/-- a packed automaton that can be read -/
structure PkM (w : World) (vn vt : Value) (N : List (List Int)) (tags : List Int) : Prop where
  ex : ∃ (b off cap : Nat) (vs : Nat → Value), vn = .slice (some ⟨b, off, none⟩) N.length cap ∧ ∀ i (h : i < N.length), w.cell? ⟨b, off + i, none⟩ = some (vs i) ∧ Sl w (vs i) N[i].length (N[i].flatMap kit.intC)
  hT : Sl w vt tags.length (tags.flatMap kit.intC)
structure PkOk (o : Of) (N : List (List Int)) (tags : List Int) (wide : Nat) : Prop where
  pos : 0 < N.length
  le : N.length ≤ 200
  len : tags.length = N.length
  w0 : 0 < wide
  w1 : wide ≤ 256
  row : ∀ i (h : i < N.length), N[i].length = wide
  tag : ∀ i (h : i < tags.length), -1 ≤ tags[i] ∧ tags[i] < 20
  rng : ∀ i (h : i < N.length), ∀ j (h' : j < N[i].length), -1 ≤ N[i][j] ∧ N[i][j] < N.length
  of : ∀ b (h : b < 256), o[b] < wide
theorem PkM.gr {w w' : World} {vn vt : Value} {N : List (List Int)} {tags : List Int} (h : PkM w vn vt N tags) (hg : Gr w w') : PkM w' vn vt N tags := by
  obtain ⟨b, off, cap, vs, h1, h2⟩ := h.ex
  refine ⟨⟨b, off, cap, vs, h1, fun i hi => ⟨?_, (h2 i hi).2.gr hg⟩⟩, h.hT.gr hg⟩
  rw [hg.cell (World.block_lt_of_cell? w _ (h2 i hi).1)]; exact (h2 i hi).1
def ofC (o : Of) : List Value := o.toList.map fun n : Nat => .int .u8 (n : Int)
theorem ofC_len (o : Of) : (ofC o).length = 256 := by simp [ofC]
theorem ofC_get (o : Of) {b : Nat} (h : b < 256) : (ofC o).toArray[b]? = some (.int .u8 (o[b] : Int)) := by
  rw [List.getElem?_toArray]
  unfold ofC
  rw [List.getElem?_map, List.getElem?_eq_getElem (by simpa using h), Vector.getElem_toList]; rfl
theorem pk_ofC (o : Of) (vn vt : Value) {j : Nat} {v : Value} (h : (ofC o)[j]? = some v) : (pkC o vn vt).toArray[0 + j]? = some v := by
  have hj : j < (ofC o).length := (List.getElem?_eq_some_iff.1 h).1
  rw [Nat.zero_add, List.getElem?_toArray]
  show (ofC o ++ [vn, vt])[j]? = _
  rw [List.getElem?_append_left hj]; exact h
set_option maxRecDepth 100000 in
set_option maxHeartbeats 8000000 in
theorem pkCheck_calls (o : Of) (vn vt : Value) (N : List (List Int)) (tags : List Int) (wide : Nat) (w : World) (h : PkM w vn vt N tags) (ok : PkOk o N tags wide) :
    Calls Try.prog 17 #[pkV o vn vt] w (Meets (ret (.int .i64 0)) w) := by
  obtain ⟨b, off, cap, vs, rfl, hcs⟩ := h.ex
  obtain ⟨bt, ct, rfl, ht1, ht2, ht3⟩ := h.hT
  obtain ⟨pos, le, len, w0, w1, row, tag, rng, of⟩ := ok
  clear h
  obtain ⟨bb, ofT, rfl, hrt⟩ := ht3 (by omega)
  clear ht3
  have hform : ∀ i (h : i < N.length), ∃ bi ofi ci, w.cell? ⟨b, off + i, none⟩ = some (.slice (some ⟨bi, ofi, none⟩) wide ci) ∧ Rd w bi ofi (N[i].flatMap kit.intC) := fun i hi => by
    obtain ⟨h1, bi, ci, h2, _, _, h3⟩ := hcs i hi
    obtain ⟨q, f, h4, h5⟩ := h3 (by rw [row i hi]; exact w0)
    rw [h2, h4, row i hi] at h1
    exact ⟨q, f, ci, h1, h5⟩
  clear hcs
  refine enter (args := [pkV o (.slice (some ⟨b, off, none⟩) N.length cap) (.slice (some ⟨bb, ofT, none⟩) tags.length ct)]) (n := 92) Try.func17 rfl rfl rfl ?_
  refine T_seq (T_region (TL_box rfl rfl rfl fun g1 => ?_))
  obtain ⟨bi, ofi, ci, hf0, _⟩ := hform 0 pos
  repeat (first
    | refine qv rfl (qp rfl) rfl rfl ?_ | refine TL_nil ?_ | refine T_seq ?_ | refine T_region ?_ | refine qcT rfl ?_ | refine qcF rfl ?_ | refine T_skip ?_
    | refine T_exit ?_ | refine T_ret ?_ | refine T_block ?_ | refine E_then ?_ | refine E_thenX ?_ | refine E_thenR ?_ | refine E_blockN ?_
    | refine E_blockR ?_ | refine E_blockX ?_ | refine E_blockO rfl ?_ | refine qs rfl rfl rfl rfl rfl rfl ?_
    | ((try refine qg rfl rfl rfl ?_); first | refine qv rfl (qp rfl) rfl rfl ?_ | refine qv rfl (rr_load1 TyC.ty rfl (at_blk (i := 0) rfl (pk_next _ _ _))) rfl rfl ?_ | refine qv rfl (rr_load1 TyC.ty rfl (at_blk (i := 0) rfl (pk_tags _ _ _))) rfl rfl ?_ | refine qv rfl (rr_idx1 (j := 0) Und.eq TyC.ty rfl rfl pos) rfl rfl ?_ | refine qv rfl (rr_load1 TyC.ty rfl (at_old hf0)) rfl rfl ?_ | refine qv rfl (qlen Und.eq rfl) rfl rfl ?_ | refine qv rfl (qfld FldC.fld rfl rfl) rfl rfl ?_ | refine qv rfl (rr_lss rfl rfl (qT (by omega))) rfl rfl ?_ | refine qv rfl (rr_lss rfl rfl (qF (by omega))) rfl rfl ?_ | refine qv rfl (rr_gtr rfl rfl (qT (by omega))) rfl rfl ?_ | refine qv rfl (rr_gtr rfl rfl (qF (by omega))) rfl rfl ?_ | refine qv rfl (rr_geq rfl rfl (qT (by omega))) rfl rfl ?_ | refine qv rfl (rr_geq rfl rfl (qF (by omega))) rfl rfl ?_ | refine qv rfl (rr_eql rfl rfl (qT (by omega))) rfl rfl ?_ | refine qv rfl (rr_eql rfl rfl (qF (by omega))) rfl rfl ?_ | refine qv rfl (rr_neq rfl rfl (qT (by omega))) rfl rfl ?_ | refine qv rfl (rr_neq rfl rfl (qF (by omega))) rfl rfl ?_ | refine qv rfl (rr_add64 rfl rfl (by omega) (by omega) rfl) rfl rfl ?_))
  refine T_loop (ι := Nat) (fun i => i ≤ N.length) (fun i => [(1, .pointer (some ⟨g1, 0, none⟩)), (3, .int .i64 (N.length : Int)), (4, .int .i64 (wide : Int)), (35, .int .i64 (N.length : Int)), (36, .int .i64 (i : Int))])
    (fun _ => [blkO g1 (pkC o (.slice (some ⟨b, off, none⟩) N.length cap) (.slice (some ⟨bb, ofT, none⟩) tags.length ct)).toArray 45]) (fun i => N.length - i) 0 (Nat.zero_le _) (by repeat' (first | exact True.intro | refine And.intro rfl ?_)) rfl ?_
  intro i hi
  by_cases c1 : i < N.length
  · obtain ⟨bi, ofi, ci, hf, hrd⟩ := hform i c1
    have hit : i < tags.length := by omega
    have htg := tag i hit
    have hatT := fun (L : List Own) => at_el (W := w) (L := L) (c := 1) (f := kit.intC) (fun _ => rfl) hrt hit 0 _ rfl
    have hrow := row i c1
    have hrg := rng i c1
    clear hform row rng tag hf0
    generalize tags[i] = tg at *
    generalize N[i] = Ni at *
    repeat (first
      | refine qv rfl (qp rfl) rfl rfl ?_ | refine TL_nil ?_ | refine T_seq ?_ | refine T_region ?_ | refine qcT rfl ?_ | refine qcF rfl ?_ | refine T_skip ?_
      | refine T_exit ?_ | refine T_ret ?_ | refine T_block ?_ | refine E_then ?_ | refine E_thenX ?_ | refine E_thenR ?_ | refine E_blockN ?_
      | refine E_blockR ?_ | refine E_blockX ?_ | refine E_blockO rfl ?_ | refine qs rfl rfl rfl rfl rfl rfl ?_
      | ((try refine qg rfl rfl rfl ?_); first | refine qv rfl (qp rfl) rfl rfl ?_ | refine qv rfl (rr_load1 TyC.ty rfl (at_blk (i := 0) rfl (pk_next _ _ _))) rfl rfl ?_ | refine qv rfl (rr_load1 TyC.ty rfl (at_blk (i := 0) rfl (pk_tags _ _ _))) rfl rfl ?_ | refine qv rfl (rr_idx1 (j := i) Und.eq TyC.ty rfl rfl c1) rfl rfl ?_ | refine qv rfl (rr_load1 TyC.ty rfl (at_old hf)) rfl rfl ?_ | refine qv rfl (rr_idxc (j := i) Und.eq TyC.ty rfl rfl hit) rfl rfl ?_ | refine qv rfl (rr_load1 TyC.ty rfl (hatT _)) rfl rfl ?_ | refine qv rfl (qlen Und.eq rfl) rfl rfl ?_ | refine qv rfl (qfld FldC.fld rfl rfl) rfl rfl ?_ | refine qv rfl (rr_lss rfl rfl (qT (by omega))) rfl rfl ?_ | refine qv rfl (rr_lss rfl rfl (qF (by omega))) rfl rfl ?_ | refine qv rfl (rr_gtr rfl rfl (qT (by omega))) rfl rfl ?_ | refine qv rfl (rr_gtr rfl rfl (qF (by omega))) rfl rfl ?_ | refine qv rfl (rr_geq rfl rfl (qT (by omega))) rfl rfl ?_ | refine qv rfl (rr_geq rfl rfl (qF (by omega))) rfl rfl ?_ | refine qv rfl (rr_eql rfl rfl (qT (by omega))) rfl rfl ?_ | refine qv rfl (rr_eql rfl rfl (qF (by omega))) rfl rfl ?_ | refine qv rfl (rr_neq rfl rfl (qT (by omega))) rfl rfl ?_ | refine qv rfl (rr_neq rfl rfl (qF (by omega))) rfl rfl ?_ | refine qv rfl (rr_add64 rfl rfl (by omega) (by omega) rfl) rfl rfl ?_))
    refine T_loop (ι := Nat) (fun j => j ≤ wide) (fun j => [(1, .pointer (some ⟨g1, 0, none⟩)), (3, .int .i64 (N.length : Int)), (4, .int .i64 (wide : Int)), (35, .int .i64 (N.length : Int)), (36, .int .i64 (i : Int)), (67, .slice (some ⟨bi, ofi, none⟩) wide ci), (68, .int .i64 (wide : Int)), (69, .int .i64 (j : Int))])
      (fun _ => [blkO g1 (pkC o (.slice (some ⟨b, off, none⟩) N.length cap) (.slice (some ⟨bb, ofT, none⟩) tags.length ct)).toArray 45]) (fun j => wide - j) 0 (Nat.zero_le _) (by repeat' (first | exact True.intro | refine And.intro rfl ?_)) rfl ?_
    intro j hj
    by_cases c2 : j < wide
    · have hjl : j < Ni.length := by omega
      have hat := fun (L : List Own) => at_el (W := w) (L := L) (c := 1) (f := kit.intC) (fun _ => rfl) hrd hjl 0 _ rfl
      have hx := hrg j hjl
      generalize Ni[j] = x at *
      repeat (first
        | refine qv rfl (qp rfl) rfl rfl ?_ | refine TL_nil ?_ | refine T_seq ?_ | refine T_region ?_ | refine qcT rfl ?_ | refine qcF rfl ?_ | refine T_skip ?_
        | refine T_exit ?_ | refine T_ret ?_ | refine T_block ?_ | refine E_then ?_ | refine E_thenX ?_ | refine E_thenR ?_ | refine E_blockN ?_
        | refine E_blockR ?_ | refine E_blockX ?_ | refine E_blockO rfl ?_ | refine qs rfl rfl rfl rfl rfl rfl ?_
        | ((try refine qg rfl rfl rfl ?_); first | refine qv rfl (qp rfl) rfl rfl ?_ | refine qv rfl (rr_idxc (j := j) Und.eq TyC.ty rfl rfl c2) rfl rfl ?_ | refine qv rfl (rr_load1 TyC.ty rfl (hat _)) rfl rfl ?_ | refine qv rfl (qlen Und.eq rfl) rfl rfl ?_ | refine qv rfl (qfld FldC.fld rfl rfl) rfl rfl ?_ | refine qv rfl (rr_lss rfl rfl (qT (by omega))) rfl rfl ?_ | refine qv rfl (rr_lss rfl rfl (qF (by omega))) rfl rfl ?_ | refine qv rfl (rr_gtr rfl rfl (qT (by omega))) rfl rfl ?_ | refine qv rfl (rr_gtr rfl rfl (qF (by omega))) rfl rfl ?_ | refine qv rfl (rr_geq rfl rfl (qT (by omega))) rfl rfl ?_ | refine qv rfl (rr_geq rfl rfl (qF (by omega))) rfl rfl ?_ | refine qv rfl (rr_eql rfl rfl (qT (by omega))) rfl rfl ?_ | refine qv rfl (rr_eql rfl rfl (qF (by omega))) rfl rfl ?_ | refine qv rfl (rr_neq rfl rfl (qT (by omega))) rfl rfl ?_ | refine qv rfl (rr_neq rfl rfl (qF (by omega))) rfl rfl ?_ | refine qv rfl (rr_add64 rfl rfl (by omega) (by omega) rfl) rfl rfl ?_))
      exact E_round (j + 1) (by omega) (by show wide - (j + 1) < wide - j; omega) (by repeat' (first | exact True.intro | refine And.intro rfl ?_)) rfl
    · repeat (first
        | refine qv rfl (qp rfl) rfl rfl ?_ | refine TL_nil ?_ | refine T_seq ?_ | refine T_region ?_ | refine qcT rfl ?_ | refine qcF rfl ?_ | refine T_skip ?_
        | refine T_exit ?_ | refine T_ret ?_ | refine T_block ?_ | refine E_then ?_ | refine E_thenX ?_ | refine E_thenR ?_ | refine E_blockN ?_
        | refine E_blockR ?_ | refine E_blockX ?_ | refine E_blockO rfl ?_ | refine qs rfl rfl rfl rfl rfl rfl ?_
        | ((try refine qg rfl rfl rfl ?_); first | refine qv rfl (qp rfl) rfl rfl ?_ | refine qv rfl (qlen Und.eq rfl) rfl rfl ?_ | refine qv rfl (qfld FldC.fld rfl rfl) rfl rfl ?_ | refine qv rfl (rr_lss rfl rfl (qT (by omega))) rfl rfl ?_ | refine qv rfl (rr_lss rfl rfl (qF (by omega))) rfl rfl ?_ | refine qv rfl (rr_gtr rfl rfl (qT (by omega))) rfl rfl ?_ | refine qv rfl (rr_gtr rfl rfl (qF (by omega))) rfl rfl ?_ | refine qv rfl (rr_geq rfl rfl (qT (by omega))) rfl rfl ?_ | refine qv rfl (rr_geq rfl rfl (qF (by omega))) rfl rfl ?_ | refine qv rfl (rr_eql rfl rfl (qT (by omega))) rfl rfl ?_ | refine qv rfl (rr_eql rfl rfl (qF (by omega))) rfl rfl ?_ | refine qv rfl (rr_neq rfl rfl (qT (by omega))) rfl rfl ?_ | refine qv rfl (rr_neq rfl rfl (qF (by omega))) rfl rfl ?_ | refine qv rfl (rr_add64 rfl rfl (by omega) (by omega) rfl) rfl rfl ?_))
      exact E_round (i + 1) (by omega) (by show N.length - (i + 1) < N.length - i; omega) (by repeat' (first | exact True.intro | refine And.intro rfl ?_)) rfl
  · repeat (first
      | refine qv rfl (qp rfl) rfl rfl ?_ | refine TL_nil ?_ | refine T_seq ?_ | refine T_region ?_ | refine qcT rfl ?_ | refine qcF rfl ?_ | refine T_skip ?_
      | refine T_exit ?_ | refine T_ret ?_ | refine T_block ?_ | refine E_then ?_ | refine E_thenX ?_ | refine E_thenR ?_ | refine E_blockN ?_
      | refine E_blockR ?_ | refine E_blockX ?_ | refine E_blockO rfl ?_ | refine qs rfl rfl rfl rfl rfl rfl ?_
      | ((try refine qg rfl rfl rfl ?_); first | refine qv rfl (qp rfl) rfl rfl ?_ | refine qv rfl (rr_loadN (cs := ofC o) TyC.ty rfl (ofC_len o) (fun j v hj => at_blk (i := 0) rfl (pk_ofC _ _ _ hj))) rfl rfl ?_ | refine qv rfl (qlen Und.eq rfl) rfl rfl ?_ | refine qv rfl (qfld FldC.fld rfl rfl) rfl rfl ?_ | refine qv rfl (rr_lss rfl rfl (qT (by omega))) rfl rfl ?_ | refine qv rfl (rr_lss rfl rfl (qF (by omega))) rfl rfl ?_ | refine qv rfl (rr_gtr rfl rfl (qT (by omega))) rfl rfl ?_ | refine qv rfl (rr_gtr rfl rfl (qF (by omega))) rfl rfl ?_ | refine qv rfl (rr_geq rfl rfl (qT (by omega))) rfl rfl ?_ | refine qv rfl (rr_geq rfl rfl (qF (by omega))) rfl rfl ?_ | refine qv rfl (rr_eql rfl rfl (qT (by omega))) rfl rfl ?_ | refine qv rfl (rr_eql rfl rfl (qF (by omega))) rfl rfl ?_ | refine qv rfl (rr_neq rfl rfl (qT (by omega))) rfl rfl ?_ | refine qv rfl (rr_neq rfl rfl (qF (by omega))) rfl rfl ?_ | refine qv rfl (rr_add64 rfl rfl (by omega) (by omega) rfl) rfl rfl ?_))
    refine T_loop (ι := Nat) (fun j => j ≤ 256) (fun j => [(4, .int .i64 (wide : Int)), (83, .agg (ofC o).toArray), (84, .int .i64 (j : Int))]) (fun _ => [blkO g1 (pkC o (.slice (some ⟨b, off, none⟩) N.length cap) (.slice (some ⟨bb, ofT, none⟩) tags.length ct)).toArray 45]) (fun j => 256 - j) 0 (Nat.zero_le _) (by repeat' (first | exact True.intro | refine And.intro rfl ?_)) rfl ?_
    intro j hj
    by_cases c2 : j < 256
    · have hw := of j c2
      have hcell := ofC_get o c2
      clear hform row rng tag hf0 of
      generalize o[j] = z at *
      repeat (first
        | refine qv rfl (qp rfl) rfl rfl ?_ | refine TL_nil ?_ | refine T_seq ?_ | refine T_region ?_ | refine qcT rfl ?_ | refine qcF rfl ?_ | refine T_skip ?_
        | refine T_exit ?_ | refine T_ret ?_ | refine T_block ?_ | refine E_then ?_ | refine E_thenX ?_ | refine E_thenR ?_ | refine E_blockN ?_
        | refine E_blockR ?_ | refine E_blockX ?_ | refine E_blockO rfl ?_ | refine qs rfl rfl rfl rfl rfl rfl ?_
        | ((try refine qg rfl rfl rfl ?_); first | refine qv rfl (qp rfl) rfl rfl ?_ | refine qv rfl (rr_arridx Und.eq TyC.ty rfl rfl c2 hcell) rfl rfl ?_ | refine qv rfl (rr_conv Und.eq Und.eq rfl (wrap_in (by omega) (by omega))) rfl rfl ?_ | refine qv rfl (qlen Und.eq rfl) rfl rfl ?_ | refine qv rfl (qfld FldC.fld rfl rfl) rfl rfl ?_ | refine qv rfl (rr_lss rfl rfl (qT (by omega))) rfl rfl ?_ | refine qv rfl (rr_lss rfl rfl (qF (by omega))) rfl rfl ?_ | refine qv rfl (rr_gtr rfl rfl (qT (by omega))) rfl rfl ?_ | refine qv rfl (rr_gtr rfl rfl (qF (by omega))) rfl rfl ?_ | refine qv rfl (rr_geq rfl rfl (qT (by omega))) rfl rfl ?_ | refine qv rfl (rr_geq rfl rfl (qF (by omega))) rfl rfl ?_ | refine qv rfl (rr_eql rfl rfl (qT (by omega))) rfl rfl ?_ | refine qv rfl (rr_eql rfl rfl (qF (by omega))) rfl rfl ?_ | refine qv rfl (rr_neq rfl rfl (qT (by omega))) rfl rfl ?_ | refine qv rfl (rr_neq rfl rfl (qF (by omega))) rfl rfl ?_ | refine qv rfl (rr_add64 rfl rfl (by omega) (by omega) rfl) rfl rfl ?_))
      exact E_round (j + 1) (by show j + 1 ≤ 256; omega) (by show 256 - (j + 1) < 256 - j; omega) (by repeat' (first | exact True.intro | refine And.intro rfl ?_)) rfl
    · repeat (first
        | refine qv rfl (qp rfl) rfl rfl ?_ | refine TL_nil ?_ | refine T_seq ?_ | refine T_region ?_ | refine qcT rfl ?_ | refine qcF rfl ?_ | refine T_skip ?_
        | refine T_exit ?_ | refine T_ret ?_ | refine T_block ?_ | refine E_then ?_ | refine E_thenX ?_ | refine E_thenR ?_ | refine E_blockN ?_
        | refine E_blockR ?_ | refine E_blockX ?_ | refine E_blockO rfl ?_ | refine qs rfl rfl rfl rfl rfl rfl ?_
        | ((try refine qg rfl rfl rfl ?_); first | refine qv rfl (qp rfl) rfl rfl ?_ | refine qv rfl (qlen Und.eq rfl) rfl rfl ?_ | refine qv rfl (qfld FldC.fld rfl rfl) rfl rfl ?_ | refine qv rfl (rr_lss rfl rfl (qT (by omega))) rfl rfl ?_ | refine qv rfl (rr_lss rfl rfl (qF (by omega))) rfl rfl ?_ | refine qv rfl (rr_gtr rfl rfl (qT (by omega))) rfl rfl ?_ | refine qv rfl (rr_gtr rfl rfl (qF (by omega))) rfl rfl ?_ | refine qv rfl (rr_geq rfl rfl (qT (by omega))) rfl rfl ?_ | refine qv rfl (rr_geq rfl rfl (qF (by omega))) rfl rfl ?_ | refine qv rfl (rr_eql rfl rfl (qT (by omega))) rfl rfl ?_ | refine qv rfl (rr_eql rfl rfl (qF (by omega))) rfl rfl ?_ | refine qv rfl (rr_neq rfl rfl (qT (by omega))) rfl rfl ?_ | refine qv rfl (rr_neq rfl rfl (qF (by omega))) rfl rfl ?_ | refine qv rfl (rr_add64 rfl rfl (by omega) (by omega) rfl) rfl rfl ?_))
      exact E_ret1e rfl rfl rfl
/-- what small.Unpack makes of the rows of Next -/
def unR (o : Of) (N : List (List Int)) : List Row := N.map fun l => Vector.ofFn fun b : Fin 256 => l.getD o[b] 0
theorem unR_len (o : Of) (N : List (List Int)) : (unR o N).length = N.length := List.length_map ..
def unP (o : Of) (l : List Int) (b : Nat) : Row := Vector.ofFn fun j : Fin 256 => if j < b then l.getD o[j] 0 else 0
theorem unP_0 (o : Of) (l : List Int) : unP o l 0 = Vector.replicate 256 0 := by
  refine Vector.ext fun j hj => ?_
  unfold unP; simp
theorem unP_all (o : Of) (l : List Int) : unP o l 256 = Vector.ofFn fun b : Fin 256 => l.getD o[b] 0 := by
  refine Vector.ext fun j hj => ?_
  unfold unP; simp [hj]
theorem unP_set (o : Of) (l : List Int) {b : Nat} (hb : b < 256) : (unP o l b).set b (l.getD o[b] 0) = unP o l (b + 1) := by
  refine Vector.ext fun j hj => ?_
  unfold unP
  rw [Vector.getElem_set, Vector.getElem_ofFn, Vector.getElem_ofFn]
  split
  · rename_i e; subst e; simp
  · have : j < b ↔ j < b + 1 := by omega
    simp only [this]
def unS (o : Of) (N : List (List Int)) (tags : List Int) : Spec (Value × Value) := ⟨fun _ => True, fun x => .tuple #[dfaV x.1 x.2, .int .i64 0], fun x => [rowO 31 256 x.1 (unR o N).length ((unR o N).flatMap rowC), rowO 3 1 x.2 tags.length (tags.flatMap kit.intC)]⟩
theorem build_dfaT (g n c : Nat) (w : World) : (Instr.build 25 #[(1, .slice (some ⟨g, 0, none⟩) n c)]).run Try.prog w = .ok (dfaV (.slice none 0 0) (.slice (some ⟨g, 0, none⟩) n c)) w := by kernel_rfl
set_option maxRecDepth 100000 in
set_option maxHeartbeats 8000000 in
theorem unpack_calls (o : Of) (vn vt : Value) (N : List (List Int)) (tags : List Int) (wide : Nat) (w : World) (h : PkM w vn vt N tags) (ok : PkOk o N tags wide) :
    Calls Try.prog 16 #[pkV o vn vt] w (Meets (unS o N tags) w) := by
  have hck := fun w' (hg : Gr w w') => pkCheck_calls o vn vt N tags wide w' (h.gr hg) ok
  have hcl := fun w' (hg : Gr w w') hl => cloneSmIn_calls vt tags w' (h.hT.gr hg) hl
  obtain ⟨b, off, cap, vs, rfl, hcs⟩ := h.ex
  have hvt : ∃ bt ct, vt = .slice bt tags.length ct := let ⟨b, c, h, _⟩ := h.hT; ⟨b, c, h⟩
  obtain ⟨bt, ct, rfl⟩ := hvt
  obtain ⟨pos, le, len, w0, w1, row, tag, rng, of⟩ := ok
  have hcl := fun w' hg => hcl w' hg (by omega)
  clear h tag
  have hform : ∀ i (h : i < N.length), ∃ bi ofi ci, w.cell? ⟨b, off + i, none⟩ = some (.slice (some ⟨bi, ofi, none⟩) wide ci) ∧ Rd w bi ofi (N[i].flatMap kit.intC) := fun i hi => by
    obtain ⟨h1, bi, ci, h2, _, _, h3⟩ := hcs i hi
    obtain ⟨q, f, h4, h5⟩ := h3 (by rw [row i hi]; exact w0)
    rw [h2, h4, row i hi] at h1
    exact ⟨q, f, ci, h1, h5⟩
  clear hcs
  refine enter (args := [pkV o (.slice (some ⟨b, off, none⟩) N.length cap) (.slice bt tags.length ct)]) (n := 49) Try.func16 rfl rfl rfl ?_
  refine T_seq (T_region (TL_box rfl rfl rfl fun g1 => ?_))
  refine TL_new rfl fun g2 => ?_
  conv => arg 8; simp only [zA, zB, zC, zD, zE, zF, zG, zH, zI, rowS, ret, id_eq]
  repeat (first
    | refine qv rfl (qp rfl) rfl rfl ?_ | refine TL_nil ?_ | refine T_seq ?_ | refine T_region ?_ | refine qcT rfl ?_ | refine qcF rfl ?_ | refine T_skip ?_
    | refine T_exit ?_ | refine T_ret ?_ | refine T_block ?_ | refine E_then ?_ | refine E_thenX ?_ | refine E_thenR ?_ | refine E_blockN ?_
    | refine E_blockR ?_ | refine E_blockX ?_ | refine E_blockO rfl ?_ | refine qv rfl (rr_loadB (i := 0) TyC.ty rfl rfl (pk_size _ _ _)) rfl rfl ?_
    | refine qv rfl (qlen Und.eq rfl) rfl rfl ?_ | refine qv rfl (qfld FldC.fld rfl rfl) rfl rfl ?_
    | refine qv rfl (rr_lss rfl rfl (qT (by omega))) rfl rfl ?_ | refine qv rfl (rr_lss rfl rfl (qF (by omega))) rfl rfl ?_
    | refine qv rfl (rr_neq rfl rfl (qT (by omega))) rfl rfl ?_ | refine qv rfl (rr_neq rfl rfl (qF (by omega))) rfl rfl ?_
    | refine qv rfl (rr_add64 rfl rfl (by omega) (by omega) rfl) rfl rfl ?_)
  refine TL_call (he1 EntersC.en rfl rfl) (fun w hm => hck _ hm.below) rfl rfl rfl ?_
  intro _ _
  repeat (first
    | refine qv rfl (qp rfl) rfl rfl ?_ | refine TL_nil ?_ | refine T_seq ?_ | refine T_region ?_ | refine qcT rfl ?_ | refine qcF rfl ?_ | refine T_skip ?_
    | refine T_exit ?_ | refine T_ret ?_ | refine T_block ?_ | refine E_then ?_ | refine E_thenX ?_ | refine E_thenR ?_ | refine E_blockN ?_
    | refine E_blockR ?_ | refine E_blockX ?_ | refine E_blockO rfl ?_ | refine qv rfl (rr_load1 TyC.ty rfl (at_blk (i := 0) rfl (pk_tags _ _ _))) rfl rfl ?_
    | refine qv rfl (qlen Und.eq rfl) rfl rfl ?_ | refine qv rfl (qfld FldC.fld rfl rfl) rfl rfl ?_
    | refine qv rfl (rr_lss rfl rfl (qT (by omega))) rfl rfl ?_ | refine qv rfl (rr_lss rfl rfl (qF (by omega))) rfl rfl ?_
    | refine qv rfl (rr_neq rfl rfl (qT (by omega))) rfl rfl ?_ | refine qv rfl (rr_neq rfl rfl (qF (by omega))) rfl rfl ?_
    | refine qv rfl (rr_add64 rfl rfl (by omega) (by omega) rfl) rfl rfl ?_)
  refine TL_call (he1 EntersC.en rfl rfl) (fun w hm => hcl w hm.below) rfl rfl rfl fun v2 _ => ?_
  refine TL_rowN (i := 2) rfl (by omega) fun gt cT hv _ _ => ?_
  replace hv : v2 = _ := hv
  subst hv
  conv => arg 8; simp only [zA, zB, zC, zD, zE, zF, zG, zH, zI, rowS, ret, id_eq]
  repeat (first
    | refine qv rfl (qp rfl) rfl rfl ?_ | refine TL_nil ?_ | refine T_seq ?_ | refine T_region ?_ | refine qcT rfl ?_ | refine qcF rfl ?_ | refine T_skip ?_
    | refine T_exit ?_ | refine T_ret ?_ | refine T_block ?_ | refine E_then ?_ | refine E_thenX ?_ | refine E_thenR ?_ | refine E_blockN ?_
    | refine E_blockR ?_ | refine E_blockX ?_ | refine E_blockO rfl ?_ | refine qv rfl (rr_build rfl (build_dfaT _ _ _)) rfl rfl ?_
    | refine qv rfl (qlen Und.eq rfl) rfl rfl ?_ | refine qv rfl (qfld FldC.fld rfl rfl) rfl rfl ?_
    | refine qv rfl (rr_lss rfl rfl (qT (by omega))) rfl rfl ?_ | refine qv rfl (rr_lss rfl rfl (qF (by omega))) rfl rfl ?_
    | refine qv rfl (rr_neq rfl rfl (qT (by omega))) rfl rfl ?_ | refine qv rfl (rr_neq rfl rfl (qF (by omega))) rfl rfl ?_
    | refine qv rfl (rr_add64 rfl rfl (by omega) (by omega) rfl) rfl rfl ?_)
  refine TL_new rfl fun g5 => ?_
  conv => arg 8; simp only [zA, zB, zC, zD, zE, zF, zG, zH, zI, rowS, ret, id_eq]
  refine TL_storeB (i := 3) (cs' := (dfaV (.slice none 0 0) (.slice (some ⟨gt, 0, none⟩) tags.length cT)).cells) rfl rfl rfl rfl rfl rfl ?_
  conv => arg 8; simp only [zA, zB, zC, zD, zE, zF, zG, zH, zI, rowS, ret, id_eq]
  repeat (first
    | refine qv rfl (qp rfl) rfl rfl ?_ | refine TL_nil ?_ | refine T_seq ?_ | refine T_region ?_ | refine qcT rfl ?_ | refine qcF rfl ?_ | refine T_skip ?_
    | refine T_exit ?_ | refine T_ret ?_ | refine T_block ?_ | refine E_then ?_ | refine E_thenX ?_ | refine E_thenR ?_ | refine E_blockN ?_
    | refine E_blockR ?_ | refine E_blockX ?_ | refine E_blockO rfl ?_ | refine qv rfl (rr_load1 TyC.ty rfl (at_blk (i := 0) rfl (pk_next _ _ _))) rfl rfl ?_
    | refine qv rfl (qlen Und.eq rfl) rfl rfl ?_ | refine qv rfl (qfld FldC.fld rfl rfl) rfl rfl ?_
    | refine qv rfl (rr_lss rfl rfl (qT (by omega))) rfl rfl ?_ | refine qv rfl (rr_lss rfl rfl (qF (by omega))) rfl rfl ?_
    | refine qv rfl (rr_neq rfl rfl (qT (by omega))) rfl rfl ?_ | refine qv rfl (rr_neq rfl rfl (qF (by omega))) rfl rfl ?_
    | refine qv rfl (rr_add64 rfl rfl (by omega) (by omega) rfl) rfl rfl ?_)
  refine T_nil 31 256 ?_
  conv => arg 7; simp only [zA, zB, zC, zD, zE, zF, zG, zH, zI, rowS, ret, id_eq]
  refine T_loop (ι := Nat × Value) (fun (i, _) => i ≤ N.length) (fun (i, _) => [(1, .pointer (some ⟨g1, 0, none⟩)), (2, .pointer (some ⟨g2, 0, none⟩)), (5, .pointer (some ⟨g5, 0, none⟩)), (21, .slice (some ⟨b, off, none⟩) N.length cap), (22, .int .i64 (N.length : Int)), (23, .int .i64 (i : Int))])
    (fun (i, vR) => [blkO g1 (pkC o (.slice (some ⟨b, off, none⟩) N.length cap) (.slice bt tags.length ct)).toArray 45, blkO g2 (dfaV (.slice none 0 0) (.slice none 0 0)).cells 25, rowO 3 1 (.slice (some ⟨gt, 0, none⟩) tags.length cT) tags.length (tags.flatMap kit.intC), blkO g5 (dfaV vR (.slice (some ⟨gt, 0, none⟩) tags.length cT)).cells 25, rowO 31 256 vR i ((unR o (N.take i)).flatMap rowC)]) (fun (i, _) => N.length - i) (0, .slice none 0 0) (Nat.zero_le _) (by repeat' (first | exact True.intro | refine And.intro rfl ?_)) rfl ?_
  rintro ⟨i, vR⟩ hi
  dsimp only at hi ⊢
  by_cases c1 : i < N.length
  · obtain ⟨bi, ofi, ci, hf, hrd⟩ := hform i c1
    have hrow := row i c1
    have hrg := rng i c1
    have htk : unR o (N.take (i + 1)) = unR o (N.take i) ++ [unP o N[i] 256] := by
      unfold unR
      rw [List.take_succ_eq_append_getElem c1, List.map_append, List.map_singleton, unP_all]
    clear hform row rng
    generalize N[i] = Ni at *
    repeat (first
      | refine qv rfl (qp rfl) rfl rfl ?_ | refine TL_nil ?_ | refine T_seq ?_ | refine T_region ?_ | refine qcT rfl ?_ | refine qcF rfl ?_ | refine T_skip ?_
      | refine T_exit ?_ | refine T_ret ?_ | refine T_block ?_ | refine E_then ?_ | refine E_thenX ?_ | refine E_thenR ?_ | refine E_blockN ?_
      | refine E_blockR ?_ | refine E_blockX ?_ | refine E_blockO rfl ?_ | refine qv rfl (rr_idx1 (j := i) Und.eq TyC.ty rfl rfl c1) rfl rfl ?_
      | refine qv rfl (rr_load1 TyC.ty rfl (at_old hf)) rfl rfl ?_ | refine qv rfl (qlen Und.eq rfl) rfl rfl ?_
      | refine qv rfl (qfld FldC.fld rfl rfl) rfl rfl ?_ | refine qv rfl (rr_lss rfl rfl (qT (by omega))) rfl rfl ?_
      | refine qv rfl (rr_lss rfl rfl (qF (by omega))) rfl rfl ?_ | refine qv rfl (rr_neq rfl rfl (qT (by omega))) rfl rfl ?_
      | refine qv rfl (rr_neq rfl rfl (qF (by omega))) rfl rfl ?_ | refine qv rfl (rr_add64 rfl rfl (by omega) (by omega) rfl) rfl rfl ?_)
    refine TL_new rfl fun g8 => ?_
    conv => arg 8; simp only [zA, zB, zC, zD, zE, zF, zG, zH, zI, rowS, ret, id_eq]
    rw [zero_row, ← unP_0 o Ni]
    repeat (first
      | refine qv rfl (qp rfl) rfl rfl ?_ | refine TL_nil ?_ | refine T_seq ?_ | refine T_region ?_ | refine qcT rfl ?_ | refine qcF rfl ?_ | refine T_skip ?_
      | refine T_exit ?_ | refine T_ret ?_ | refine T_block ?_ | refine E_then ?_ | refine E_thenX ?_ | refine E_thenR ?_ | refine E_blockN ?_
      | refine E_blockR ?_ | refine E_blockX ?_ | refine E_blockO rfl ?_ | refine qv rfl (qlen Und.eq rfl) rfl rfl ?_
      | refine qv rfl (qfld FldC.fld rfl rfl) rfl rfl ?_ | refine qv rfl (rr_lss rfl rfl (qT (by omega))) rfl rfl ?_
      | refine qv rfl (rr_lss rfl rfl (qF (by omega))) rfl rfl ?_ | refine qv rfl (rr_neq rfl rfl (qT (by omega))) rfl rfl ?_
      | refine qv rfl (rr_neq rfl rfl (qF (by omega))) rfl rfl ?_ | refine qv rfl (rr_add64 rfl rfl (by omega) (by omega) rfl) rfl rfl ?_)
    refine T_loop (ι := Nat) (fun j => j ≤ 256) (fun j => [(1, .pointer (some ⟨g1, 0, none⟩)), (2, .pointer (some ⟨g2, 0, none⟩)), (5, .pointer (some ⟨g5, 0, none⟩)), (7, .slice (some ⟨bi, ofi, none⟩) wide ci), (8, .pointer (some ⟨g8, 0, none⟩)), (21, .slice (some ⟨b, off, none⟩) N.length cap), (22, .int .i64 (N.length : Int)), (23, .int .i64 (i : Int)), (27, .int .i64 (j : Int))])
      (fun j => [blkO g1 (pkC o (.slice (some ⟨b, off, none⟩) N.length cap) (.slice bt tags.length ct)).toArray 45, blkO g2 (dfaV (.slice none 0 0) (.slice none 0 0)).cells 25, rowO 3 1 (.slice (some ⟨gt, 0, none⟩) tags.length cT) tags.length (tags.flatMap kit.intC), blkO g5 (dfaV vR (.slice (some ⟨gt, 0, none⟩) tags.length cT)).cells 25, rowO 31 256 vR i ((unR o (N.take i)).flatMap rowC), blkO g8 (rowC (unP o Ni j)).toArray 31]) (fun j => 256 - j) 0 (Nat.zero_le _) (by repeat' (first | exact True.intro | refine And.intro rfl ?_)) rfl ?_
    intro j hj
    by_cases c2 : j < 256
    · have hw := of j c2
      have hpo : (pkC o (.slice (some ⟨b, off, none⟩) N.length cap) (.slice bt tags.length ct)).toArray[0 + 0 + j]? = some (.int .u8 (o[j] : Int)) := by rw [show 0 + 0 + j = j by omega]; exact pk_of o _ _ c2
      have hset := unP_set o Ni c2
      have hjl : o[j] < Ni.length := by omega
      have hgd : Ni.getD o[j] 0 = Ni[o[j]]'hjl := by rw [List.getD_eq_getElem?_getD, List.getElem?_eq_getElem hjl]; rfl
      have hat := fun (L : List Own) => at_el (W := w) (L := L) (c := 1) (f := kit.intC) (fun _ => rfl) hrd hjl 0 _ rfl
      have hx := hrg o[j] hjl
      rw [hgd] at hset
      clear of hgd
      generalize Ni[o[j]]'hjl = x at *
      generalize o[j] = z at *
      repeat (first
        | refine qv rfl (qp rfl) rfl rfl ?_ | refine TL_nil ?_ | refine T_seq ?_ | refine T_region ?_ | refine qcT rfl ?_ | refine qcF rfl ?_ | refine T_skip ?_
        | refine T_exit ?_ | refine T_ret ?_ | refine T_block ?_ | refine E_then ?_ | refine E_thenX ?_ | refine E_thenR ?_ | refine E_blockN ?_
        | refine E_blockR ?_ | refine E_blockX ?_ | refine E_blockO rfl ?_ | refine qv rfl (rr_aidx1 Und.eq TyC.ty rfl rfl c2) rfl rfl ?_
        | refine qv rfl (rr_load1 TyC.ty rfl (at_blk (i := 0) rfl hpo)) rfl rfl ?_ | refine qv rfl (rr_idxc (j := z) Und.eq TyC.ty rfl rfl hw) rfl rfl ?_
        | refine qv rfl (rr_load1 TyC.ty rfl (hat _)) rfl rfl ?_ | refine qv rfl (rr_conv Und.eq Und.eq rfl (wrap16 (by omega) (by omega))) rfl rfl ?_
        | refine qv rfl (qlen Und.eq rfl) rfl rfl ?_ | refine qv rfl (qfld FldC.fld rfl rfl) rfl rfl ?_
        | refine qv rfl (rr_lss rfl rfl (qT (by omega))) rfl rfl ?_ | refine qv rfl (rr_lss rfl rfl (qF (by omega))) rfl rfl ?_
        | refine qv rfl (rr_neq rfl rfl (qT (by omega))) rfl rfl ?_ | refine qv rfl (rr_neq rfl rfl (qF (by omega))) rfl rfl ?_
        | refine qv rfl (rr_add64 rfl rfl (by omega) (by omega) rfl) rfl rfl ?_)
      refine TL_storeV (i := 5) rfl rfl rfl c2 ?_
      rw [hset]
      conv => arg 8; simp only [zA, zB, zC, zD, zE, zF, zG, zH, zI, rowS, ret, id_eq]
      repeat (first
        | refine qv rfl (qp rfl) rfl rfl ?_ | refine TL_nil ?_ | refine T_seq ?_ | refine T_region ?_ | refine qcT rfl ?_ | refine qcF rfl ?_ | refine T_skip ?_
        | refine T_exit ?_ | refine T_ret ?_ | refine T_block ?_ | refine E_then ?_ | refine E_thenX ?_ | refine E_thenR ?_ | refine E_blockN ?_
        | refine E_blockR ?_ | refine E_blockX ?_ | refine E_blockO rfl ?_ | refine qv rfl (qlen Und.eq rfl) rfl rfl ?_
        | refine qv rfl (qfld FldC.fld rfl rfl) rfl rfl ?_ | refine qv rfl (rr_lss rfl rfl (qT (by omega))) rfl rfl ?_
        | refine qv rfl (rr_lss rfl rfl (qF (by omega))) rfl rfl ?_ | refine qv rfl (rr_neq rfl rfl (qT (by omega))) rfl rfl ?_
        | refine qv rfl (rr_neq rfl rfl (qF (by omega))) rfl rfl ?_ | refine qv rfl (rr_add64 rfl rfl (by omega) (by omega) rfl) rfl rfl ?_)
      exact E_round (j + 1) (by show j + 1 ≤ 256; omega) (by show 256 - (j + 1) < 256 - j; omega) (by repeat' (first | exact True.intro | refine And.intro rfl ?_)) rfl
    · obtain rfl : j = 256 := by omega
      repeat (first
        | refine qv rfl (qp rfl) rfl rfl ?_ | refine TL_nil ?_ | refine T_seq ?_ | refine T_region ?_ | refine qcT rfl ?_ | refine qcF rfl ?_ | refine T_skip ?_
        | refine T_exit ?_ | refine T_ret ?_ | refine T_block ?_ | refine E_then ?_ | refine E_thenX ?_ | refine E_thenR ?_ | refine E_blockN ?_
        | refine E_blockR ?_ | refine E_blockX ?_ | refine E_blockO rfl ?_ | refine qv rfl (rr_load1 TyC.ty rfl (at_blk (i := 3) rfl rfl)) rfl rfl ?_
        | refine qv rfl (rr_loadB (i := 5) TyC.ty rfl rfl (by rw [List.size_toArray, rowC_len])) rfl rfl ?_ | refine qv rfl (qlen Und.eq rfl) rfl rfl ?_
        | refine qv rfl (qfld FldC.fld rfl rfl) rfl rfl ?_ | refine qv rfl (rr_lss rfl rfl (qT (by omega))) rfl rfl ?_
        | refine qv rfl (rr_lss rfl rfl (qF (by omega))) rfl rfl ?_ | refine qv rfl (rr_neq rfl rfl (qT (by omega))) rfl rfl ?_
        | refine qv rfl (rr_neq rfl rfl (qF (by omega))) rfl rfl ?_ | refine qv rfl (rr_add64 rfl rfl (by omega) (by omega) rfl) rfl rfl ?_)
      refine TL_pushN (i := 4) rfl rfl (by rw [List.size_toArray, rowC_len]) rfl (by simpa using row_one1 (unP o Ni 256)) rfl rfl (fun z h => by cases h; rfl) (by omega) (by omega) rfl fun z v2 => ?_
      conv => arg 8; simp only [zA, zB, zC, zD, zE, zF, zG, zH, zI, rowS, ret, id_eq]
      repeat (first
        | refine qv rfl (qp rfl) rfl rfl ?_ | refine TL_nil ?_ | refine T_seq ?_ | refine T_region ?_ | refine qcT rfl ?_ | refine qcF rfl ?_ | refine T_skip ?_
        | refine T_exit ?_ | refine T_ret ?_ | refine T_block ?_ | refine E_then ?_ | refine E_thenX ?_ | refine E_thenR ?_ | refine E_blockN ?_
        | refine E_blockR ?_ | refine E_blockX ?_ | refine E_blockO rfl ?_ | refine qv rfl (qlen Und.eq rfl) rfl rfl ?_
        | refine qv rfl (qfld FldC.fld rfl rfl) rfl rfl ?_ | refine qv rfl (rr_lss rfl rfl (qT (by omega))) rfl rfl ?_
        | refine qv rfl (rr_lss rfl rfl (qF (by omega))) rfl rfl ?_ | refine qv rfl (rr_neq rfl rfl (qT (by omega))) rfl rfl ?_
        | refine qv rfl (rr_neq rfl rfl (qF (by omega))) rfl rfl ?_ | refine qv rfl (rr_add64 rfl rfl (by omega) (by omega) rfl) rfl rfl ?_)
      refine TL_slv (i := 4) rfl fun hc1 ho1 => ?_
      refine TL_store1 (i := 3) rfl rfl rfl hc1 ho1 rfl ?_
      conv => arg 8; simp only [zA, zB, zC, zD, zE, zF, zG, zH, zI, rowS, ret, id_eq]
      repeat (first
        | refine qv rfl (qp rfl) rfl rfl ?_ | refine TL_nil ?_ | refine T_seq ?_ | refine T_region ?_ | refine qcT rfl ?_ | refine qcF rfl ?_ | refine T_skip ?_
        | refine T_exit ?_ | refine T_ret ?_ | refine T_block ?_ | refine E_then ?_ | refine E_thenX ?_ | refine E_thenR ?_ | refine E_blockN ?_
        | refine E_blockR ?_ | refine E_blockX ?_ | refine E_blockO rfl ?_ | refine qv rfl (qlen Und.eq rfl) rfl rfl ?_
        | refine qv rfl (qfld FldC.fld rfl rfl) rfl rfl ?_ | refine qv rfl (rr_lss rfl rfl (qT (by omega))) rfl rfl ?_
        | refine qv rfl (rr_lss rfl rfl (qF (by omega))) rfl rfl ?_ | refine qv rfl (rr_neq rfl rfl (qT (by omega))) rfl rfl ?_
        | refine qv rfl (rr_neq rfl rfl (qF (by omega))) rfl rfl ?_ | refine qv rfl (rr_add64 rfl rfl (by omega) (by omega) rfl) rfl rfl ?_)
      refine E_pick [0, 1, 2, 3, 4] (by decide) rfl ?_
      exact E_round (i + 1, v2) (by show i + 1 ≤ N.length; omega) (by show N.length - (i + 1) < N.length - i; omega) (by repeat' (first | exact True.intro | refine And.intro rfl ?_)) (by dsimp only; rw [htk, List.flatMap_append]; simp; rfl)
  · obtain rfl : i = N.length := by omega
    rw [List.take_length]
    repeat (first
      | refine qv rfl (qp rfl) rfl rfl ?_ | refine TL_nil ?_ | refine T_seq ?_ | refine T_region ?_ | refine qcT rfl ?_ | refine qcF rfl ?_ | refine T_skip ?_
      | refine T_exit ?_ | refine T_ret ?_ | refine T_block ?_ | refine E_then ?_ | refine E_thenX ?_ | refine E_thenR ?_ | refine E_blockN ?_
      | refine E_blockR ?_ | refine E_blockX ?_ | refine E_blockO rfl ?_ | refine qv rfl (rr_loadB (i := 3) TyC.ty rfl rfl rfl) rfl rfl ?_
      | refine qv rfl (qlen Und.eq rfl) rfl rfl ?_ | refine qv rfl (qfld FldC.fld rfl rfl) rfl rfl ?_
      | refine qv rfl (rr_lss rfl rfl (qT (by omega))) rfl rfl ?_ | refine qv rfl (rr_lss rfl rfl (qF (by omega))) rfl rfl ?_
      | refine qv rfl (rr_neq rfl rfl (qT (by omega))) rfl rfl ?_ | refine qv rfl (rr_neq rfl rfl (qF (by omega))) rfl rfl ?_
      | refine qv rfl (rr_add64 rfl rfl (by omega) (by omega) rfl) rfl rfl ?_)
    refine TL_slv (i := 4) rfl fun hc1 ho1 => ?_
    refine TL_storeB (i := 1) (cs' := (dfaV vR (.slice (some ⟨gt, 0, none⟩) tags.length cT)).cells) rfl rfl rfl rfl (by show ([vR, .slice (some ⟨gt, 0, none⟩) tags.length cT].all Value.oneCell') = true; simp [ho1]; rfl) rfl ?_
    conv => arg 8; simp only [zA, zB, zC, zD, zE, zF, zG, zH, zI, rowS, ret, id_eq]
    repeat (first
      | refine qv rfl (qp rfl) rfl rfl ?_ | refine TL_nil ?_ | refine T_seq ?_ | refine T_region ?_ | refine qcT rfl ?_ | refine qcF rfl ?_ | refine T_skip ?_
      | refine T_exit ?_ | refine T_ret ?_ | refine T_block ?_ | refine E_then ?_ | refine E_thenX ?_ | refine E_thenR ?_ | refine E_blockN ?_
      | refine E_blockR ?_ | refine E_blockX ?_ | refine E_blockO rfl ?_ | refine qv rfl (qlen Und.eq rfl) rfl rfl ?_
      | refine qv rfl (qfld FldC.fld rfl rfl) rfl rfl ?_ | refine qv rfl (rr_lss rfl rfl (qT (by omega))) rfl rfl ?_
      | refine qv rfl (rr_lss rfl rfl (qF (by omega))) rfl rfl ?_ | refine qv rfl (rr_neq rfl rfl (qT (by omega))) rfl rfl ?_
      | refine qv rfl (rr_neq rfl rfl (qF (by omega))) rfl rfl ?_ | refine qv rfl (rr_add64 rfl rfl (by omega) (by omega) rfl) rfl rfl ?_)
    refine E_retc2 (i := 1) rfl rfl rfl rfl rfl fun w hm => ?_
    exact hm.meets (S := unS o N tags) (vR, .slice (some ⟨gt, 0, none⟩) tags.length cT) trivial [4, 2] (by decide) (by unfold unS; dsimp only; rw [unR_len]; rfl)
end Go.Proofs.Ytbiacehgfmgfdaa.eng
