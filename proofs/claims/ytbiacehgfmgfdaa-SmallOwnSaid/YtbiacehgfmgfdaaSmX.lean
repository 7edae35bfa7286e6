/- What small.Minimal computes. -/
import Derived.Test.YtbiacehgfmgfdaaSmW
import Derived.Test.YtbiacehgfmgfdaaSmD
namespace Go.Proofs.Ytbiacehgfmgfdaa.eng
open Go.RowKit kit mix dfaL smallL
def minR (R : List Row) (tags : List Int) : List Row := if chk R tags = 0 then (minF (aut R tags) (blocksF (aut R tags))).2 else []
def minT (R : List Row) (tags : List Int) : List Int := if chk R tags = 0 then (minF (aut R tags) (blocksF (aut R tags))).1.map (aut R tags).tag else []
theorem min_len {R : List Row} {tags : List Int} (h : chk R tags = 0) : (minR R tags).length = (minT R tags).length ∧ (minR R tags).length = (minA (aut R tags)).n := by
  obtain ⟨hA, _⟩ := chk_ok h
  have := (min_ok (bl := blocksF (aut R tags)) hA).2.len
  unfold minR minT
  rw [if_pos h, if_pos h, List.length_map]
  exact ⟨this, this⟩
theorem min_aut {R : List Row} {tags : List Int} (h : chk R tags = 0) : aut (minR R tags) (minT R tags) = minA (aut R tags) := by
  have hl := (min_len h).2
  have e1 : minR R tags = (minF (aut R tags) (blocksF (aut R tags))).2 := if_pos h
  have e2 : minT R tags = (minF (aut R tags) (blocksF (aut R tags))).1.map (aut R tags).tag := if_pos h
  show Aut.mk (minR R tags).length _ _ = _
  rw [hl]
  rw [e1, e2]
  rfl
theorem min_chk {R : List Row} {tags : List Int} (h : chk R tags = 0) : chk (minR R tags) (minT R tags) = 0 := by
  refine ok_chk ?_ (min_len h).1.symm
  rw [min_aut h]
  exact minA_ok (chk_ok h).1
/-- numbers of blocks -/
def numF (bl : Nat → Nat) (Q : List Nat) (b : Nat) : Int := if b ∈ Q.map bl then (idx (Q.map bl) b : Int) + 1 else 0
theorem numF_add {bl : Nat → Nat} {Q : List Nat} {q : Nat} (hn : bl q ∉ Q.map bl) (b : Nat) : numF bl (Q ++ [q]) b = if b = bl q then (Q.length : Int) + 1 else numF bl Q b := by
  unfold numF
  rw [List.map_append, List.map_singleton]
  by_cases c : b = bl q
  · subst c
    rw [if_pos (by simp), if_pos rfl]
    have := idx_more (D := Q.map bl) (k := bl q)
    unfold more at this
    rw [if_neg hn, if_neg hn] at this
    rw [this, List.length_map]
  · rw [if_neg c]
    by_cases c2 : b ∈ Q.map bl
    · rw [if_pos c2, if_pos (List.mem_append_left _ c2), idx_pre c2]
    · rw [if_neg c2, if_neg]
      rw [List.mem_append, List.mem_singleton]
      rintro (h | h)
      · exact c2 h
      · exact c h
/-- a row, so far -/
def mRow (l : List Int) : Row := Vector.ofFn fun b : Fin 256 => if b < l.length then l.getD b 0 else -1
theorem mRow_nil : mRow [] = Vector.replicate 256 (-1) := by
  refine Vector.ext fun j hj => ?_
  unfold mRow; simp
theorem mRow_all {l : List Int} (h : l.length = 256) : mRow l = vec l := by
  refine Vector.ext fun j hj => ?_
  unfold mRow vec; simp [h, hj]
theorem mRow_set (l : List Int) (x : Int) (h : l.length < 256) : (mRow l).set l.length x = mRow (l ++ [x]) := by
  refine Vector.ext fun j hj => ?_
  unfold mRow
  rw [Vector.getElem_set, Vector.getElem_ofFn, Vector.getElem_ofFn]
  simp only [List.length_append, List.length_singleton]
  split
  · rename_i e; subst e
    rw [if_pos (by omega), getD_right (Nat.le_refl _), Nat.sub_self]; rfl
  · by_cases c : j < l.length
    · rw [if_pos c, if_pos (by omega), getD_left c]
    · rw [if_neg c, if_neg (by omega)]
theorem mRow_skip (l : List Int) (h : l.length < 256) : mRow (l ++ [-1]) = mRow l := by
  rw [← mRow_set l (-1) h]
  refine Vector.ext fun j hj => ?_
  rw [Vector.getElem_set]
  split
  · rename_i e; subst e; unfold mRow; simp
  · rfl
theorem nat_one (l : List Nat) : ∀ u ∈ l.map (fun q : Nat => intV q), u.oneCell' = true := by
  intro u hu
  obtain ⟨n, _, rfl⟩ := List.mem_map.1 hu
  rfl
/-- on the way of small.Minimal -/
structure MWay (R : List Row) (tags : List Int) (f n : Nat) (Q : List Nat) (out : List Row) : Prop where
  eq : minF (aut R tags) (blocksF (aut R tags)) = minGo (aut R tags) (blocksF (aut R tags)) f n Q out
  ok : QOk (aut R tags) (blocksF (aut R tags)) Q
  outs : Outs (aut R tags) (blocksF (aut R tags)) n Q out
  fuel : (aut R tags).n + 1 ≤ f + n
theorem mway0 {R : List Row} {tags : List Int} (hA : (aut R tags).Ok) : MWay R tags (R.length + 1) 0 [0] [] := ⟨rfl, qok0 hA, ⟨rfl, Nat.zero_le _, fun k hk => by omega⟩, Nat.le_refl _⟩
theorem mway_next {R : List Row} {tags : List Int} (hA : (aut R tags).Ok) {f n : Nat} {Q : List Nat} {out : List Row} (h : MWay R tags f n Q out) (hn : n < Q.length) : ∃ f', f = f' + 1 ∧ MWay R tags f' (n + 1) (rowQ (aut R tags) (blocksF (aut R tags)) (Q.getD n 0) Q 256).1 (out ++ [vec (rowQ (aut R tags) (blocksF (aut R tags)) (Q.getD n 0) Q 256).2]) := by
  have h1 := h.ok.len
  have h2 := h.fuel
  obtain ⟨f', rfl⟩ : ∃ f', f = f' + 1 := ⟨f - 1, by omega⟩
  have e := h.eq
  unfold minGo at e
  rw [if_pos hn] at e
  exact ⟨f', rfl, e, qok_row hA h.ok (h.ok.lt _ (getD_mem hn)) 256 (Nat.le_refl _), outs_step hA h.outs hn, by omega⟩
theorem mway_end {R : List Row} {tags : List Int} {f n : Nat} {Q : List Nat} {out : List Row} (h : MWay R tags f n Q out) (hn : ¬ n < Q.length) : minF (aut R tags) (blocksF (aut R tags)) = (Q, out) ∧ n = Q.length := by
  have h1 := h.outs.le
  refine ⟨?_, by omega⟩
  rw [h.eq]
  cases f with
  | zero => rfl
  | succ f => unfold minGo; rw [if_neg hn]
def minS (R : List Row) (tags : List Int) : Spec (Value × Value) := ⟨fun _ => True, fun x => .tuple #[dfaV x.1 x.2, .int .i64 (chk R tags)], fun x => [rowO 31 256 x.1 (minR R tags).length ((minR R tags).flatMap rowC), rowO 3 1 x.2 (minT R tags).length ((minT R tags).flatMap kit.intC)]⟩
theorem build_dfa0 (w : World) : (Instr.build 25 #[]).run Try.prog w = .ok (dfaV (.slice none 0 0) (.slice none 0 0)) w := by kernel_rfl
set_option maxRecDepth 100000 in
set_option maxHeartbeats 8000000 in
theorem minimal_calls (vr vt : Value) (R : List Row) (tags : List Int) (w : World) (h : DfaM w vr vt R tags) :
    Calls Try.prog 11 #[dfaV vr vt] w (Meets (minS R tags) w) := by
  have hck := fun w' (hg : Gr w w') => chkM_calls vr vt R tags w' (h.gr hg)
  have hbl := fun w' (hg : Gr w w') hc => blocks_calls vr vt R tags w' (h.gr hg) hc
  obtain ⟨bt, ct, rfl, ht1, ht2, ht3⟩ := h.hT
  obtain ⟨br, cr, rfl, hr1, hr2, hr3⟩ := h.hR
  have hrng := h.rng
  unfold maxLen at hr2 ht2
  clear h
  by_cases hc : chk R tags = 0
  · obtain ⟨hA, hlt⟩ := chk_ok hc
    have hbo := blocks_of hA
    have en : (aut R tags).n = R.length := rfl
    have hpos : 0 < R.length := hA.pos
    have hle : R.length ≤ 200 := hA.le
    obtain ⟨b, off, rfl, hr⟩ := hr3 hpos
    obtain ⟨bb, ofT, rfl, hrt⟩ := ht3 (by omega)
    clear hr3 ht3
    unfold minS
    have er : minR R tags = (minF (aut R tags) (blocksF (aut R tags))).2 := if_pos hc
    have et : minT R tags = (minF (aut R tags) (blocksF (aut R tags))).1.map (aut R tags).tag := if_pos hc
    rw [er, et]
    clear er et
    have hbl0 := hbo.le 0 hpos
    rw [en] at hbl0
    rw [hc] at hck ⊢
    refine enter (args := [dfaV (.slice (some ⟨b, off, none⟩) R.length cr) (.slice (some ⟨bb, ofT, none⟩) tags.length ct)]) (n := 113) Try.func11 rfl rfl rfl ?_
    refine T_seq (T_region (TL_box rfl rfl rfl fun g1 => ?_))
    refine TL_new rfl fun g2 => ?_
    conv => arg 8; simp only [zA, zB, zC, zD, zE, zF, zG, zH, zI, rowS, ret, id_eq]
    repeat (first
      | refine qv rfl (qp rfl) rfl rfl ?_ | refine TL_nil ?_ | refine T_seq ?_ | refine T_region ?_ | refine qcT rfl ?_ | refine qcF rfl ?_ | refine T_skip ?_
      | refine T_exit ?_ | refine T_ret ?_ | refine T_block ?_ | refine E_then ?_ | refine E_thenX ?_ | refine E_thenR ?_ | refine E_blockN ?_
      | refine E_blockR ?_ | refine E_blockX ?_ | refine E_blockO rfl ?_ | refine qs rfl rfl rfl rfl rfl rfl ?_
      | ((try refine qg rfl rfl rfl ?_); first | refine qv rfl (qp rfl) rfl rfl ?_ | refine qv rfl (rr_load1 TyC.ty rfl (at_blk (i := 0) rfl rfl)) rfl rfl ?_ | refine qv rfl (rr_loadB (i := 0) TyC.ty rfl rfl rfl) rfl rfl ?_ | refine qv rfl (qlen Und.eq rfl) rfl rfl ?_ | refine qv rfl (qfld FldC.fld rfl rfl) rfl rfl ?_ | refine qv rfl (rr_lss rfl rfl (qT (by omega))) rfl rfl ?_ | refine qv rfl (rr_lss rfl rfl (qF (by omega))) rfl rfl ?_ | refine qv rfl (rr_eql rfl rfl (qT (by omega))) rfl rfl ?_ | refine qv rfl (rr_eql rfl rfl (qF (by omega))) rfl rfl ?_ | refine qv rfl (rr_neq rfl rfl (qT (by omega))) rfl rfl ?_ | refine qv rfl (rr_neq rfl rfl (qF (by omega))) rfl rfl ?_ | refine qv rfl (rr_add64 rfl rfl (by omega) (by omega) rfl) rfl rfl ?_ | refine qv rfl (rr_sub64 rfl rfl (by omega) (by omega) rfl) rfl rfl ?_))
    refine TL_call (he1 EntersC.en rfl rfl) (fun w hm => hck _ hm.below) rfl rfl rfl ?_
    intro _ _
    repeat (first
      | refine qv rfl (qp rfl) rfl rfl ?_ | refine TL_nil ?_ | refine T_seq ?_ | refine T_region ?_ | refine qcT rfl ?_ | refine qcF rfl ?_ | refine T_skip ?_
      | refine T_exit ?_ | refine T_ret ?_ | refine T_block ?_ | refine E_then ?_ | refine E_thenX ?_ | refine E_thenR ?_ | refine E_blockN ?_
      | refine E_blockR ?_ | refine E_blockX ?_ | refine E_blockO rfl ?_ | refine qs rfl rfl rfl rfl rfl rfl ?_
      | ((try refine qg rfl rfl rfl ?_); first | refine qv rfl (qp rfl) rfl rfl ?_ | refine qv rfl (rr_loadB (i := 0) TyC.ty rfl rfl rfl) rfl rfl ?_ | refine qv rfl (qlen Und.eq rfl) rfl rfl ?_ | refine qv rfl (qfld FldC.fld rfl rfl) rfl rfl ?_ | refine qv rfl (rr_lss rfl rfl (qT (by omega))) rfl rfl ?_ | refine qv rfl (rr_lss rfl rfl (qF (by omega))) rfl rfl ?_ | refine qv rfl (rr_eql rfl rfl (qT (by omega))) rfl rfl ?_ | refine qv rfl (rr_eql rfl rfl (qF (by omega))) rfl rfl ?_ | refine qv rfl (rr_neq rfl rfl (qT (by omega))) rfl rfl ?_ | refine qv rfl (rr_neq rfl rfl (qF (by omega))) rfl rfl ?_ | refine qv rfl (rr_add64 rfl rfl (by omega) (by omega) rfl) rfl rfl ?_ | refine qv rfl (rr_sub64 rfl rfl (by omega) (by omega) rfl) rfl rfl ?_))
    refine TL_call (he1 EntersC.en rfl rfl) (fun w hm => hbl _ hm.below hc) rfl rfl rfl ?_
    intro g5 _
    conv => arg 8; simp only [zA, zB, zC, zD, zE, zF, zG, zH, zI, rowS, ret, id_eq]
    repeat (first
      | refine qv rfl (qp rfl) rfl rfl ?_ | refine TL_nil ?_ | refine T_seq ?_ | refine T_region ?_ | refine qcT rfl ?_ | refine qcF rfl ?_ | refine T_skip ?_
      | refine T_exit ?_ | refine T_ret ?_ | refine T_block ?_ | refine E_then ?_ | refine E_thenX ?_ | refine E_thenR ?_ | refine E_blockN ?_
      | refine E_blockR ?_ | refine E_blockX ?_ | refine E_blockO rfl ?_ | refine qs rfl rfl rfl rfl rfl rfl ?_
      | ((try refine qg rfl rfl rfl ?_); first | refine qv rfl (qp rfl) rfl rfl ?_ | refine qv rfl (rr_load1 TyC.ty rfl (at_blk (i := 0) rfl rfl)) rfl rfl ?_ | refine qv rfl (qlen Und.eq rfl) rfl rfl ?_ | refine qv rfl (qfld FldC.fld rfl rfl) rfl rfl ?_ | refine qv rfl (rr_lss rfl rfl (qT (by omega))) rfl rfl ?_ | refine qv rfl (rr_lss rfl rfl (qF (by omega))) rfl rfl ?_ | refine qv rfl (rr_eql rfl rfl (qT (by omega))) rfl rfl ?_ | refine qv rfl (rr_eql rfl rfl (qF (by omega))) rfl rfl ?_ | refine qv rfl (rr_neq rfl rfl (qT (by omega))) rfl rfl ?_ | refine qv rfl (rr_neq rfl rfl (qF (by omega))) rfl rfl ?_ | refine qv rfl (rr_add64 rfl rfl (by omega) (by omega) rfl) rfl rfl ?_ | refine qv rfl (rr_sub64 rfl rfl (by omega) (by omega) rfl) rfl rfl ?_))
    refine TL_makeA (m := R.length + 1) intV 0 (by rfl) (by rfl) (by omega) (by omega) rfl fun g6 => ?_
    conv => arg 8; simp only [zA, zB, zC, zD, zE, zF, zG, zH, zI, rowS, ret, id_eq]
    repeat (first
      | refine qv rfl (qp rfl) rfl rfl ?_ | refine TL_nil ?_ | refine T_seq ?_ | refine T_region ?_ | refine qcT rfl ?_ | refine qcF rfl ?_ | refine T_skip ?_
      | refine T_exit ?_ | refine T_ret ?_ | refine T_block ?_ | refine E_then ?_ | refine E_thenX ?_ | refine E_thenR ?_ | refine E_blockN ?_
      | refine E_blockR ?_ | refine E_blockX ?_ | refine E_blockO rfl ?_ | refine qs rfl rfl rfl rfl rfl rfl ?_
      | ((try refine qg rfl rfl rfl ?_); first | refine qv rfl (qp rfl) rfl rfl ?_ | refine qv rfl (qlen Und.eq rfl) rfl rfl ?_ | refine qv rfl (qfld FldC.fld rfl rfl) rfl rfl ?_ | refine qv rfl (rr_lss rfl rfl (qT (by omega))) rfl rfl ?_ | refine qv rfl (rr_lss rfl rfl (qF (by omega))) rfl rfl ?_ | refine qv rfl (rr_eql rfl rfl (qT (by omega))) rfl rfl ?_ | refine qv rfl (rr_eql rfl rfl (qF (by omega))) rfl rfl ?_ | refine qv rfl (rr_neq rfl rfl (qT (by omega))) rfl rfl ?_ | refine qv rfl (rr_neq rfl rfl (qF (by omega))) rfl rfl ?_ | refine qv rfl (rr_add64 rfl rfl (by omega) (by omega) rfl) rfl rfl ?_ | refine qv rfl (rr_sub64 rfl rfl (by omega) (by omega) rfl) rfl rfl ?_))
    refine TL_new rfl fun g7 => ?_
    conv => arg 8; simp only [zA, zB, zC, zD, zE, zF, zG, zH, zI, rowS, ret, id_eq]
    repeat (first
      | refine qv rfl (qp rfl) rfl rfl ?_ | refine TL_nil ?_ | refine T_seq ?_ | refine T_region ?_ | refine qcT rfl ?_ | refine qcF rfl ?_ | refine T_skip ?_
      | refine T_exit ?_ | refine T_ret ?_ | refine T_block ?_ | refine E_then ?_ | refine E_thenX ?_ | refine E_thenR ?_ | refine E_blockN ?_
      | refine E_blockR ?_ | refine E_blockX ?_ | refine E_blockO rfl ?_ | refine qs rfl rfl rfl rfl rfl rfl ?_
      | ((try refine qg rfl rfl rfl ?_); first | refine qv rfl (qp rfl) rfl rfl ?_ | refine qv rfl (qlen Und.eq rfl) rfl rfl ?_ | refine qv rfl (qfld FldC.fld rfl rfl) rfl rfl ?_ | refine qv rfl (rr_lss rfl rfl (qT (by omega))) rfl rfl ?_ | refine qv rfl (rr_lss rfl rfl (qF (by omega))) rfl rfl ?_ | refine qv rfl (rr_eql rfl rfl (qT (by omega))) rfl rfl ?_ | refine qv rfl (rr_eql rfl rfl (qF (by omega))) rfl rfl ?_ | refine qv rfl (rr_neq rfl rfl (qT (by omega))) rfl rfl ?_ | refine qv rfl (rr_neq rfl rfl (qF (by omega))) rfl rfl ?_ | refine qv rfl (rr_add64 rfl rfl (by omega) (by omega) rfl) rfl rfl ?_ | refine qv rfl (rr_sub64 rfl rfl (by omega) (by omega) rfl) rfl rfl ?_))
    refine TL_one rfl rfl rfl rfl rfl fun g8 => ?_
    conv => arg 8; simp only [zA, zB, zC, zD, zE, zF, zG, zH, zI, rowS, ret, id_eq]
    refine TL_toRow (i := 5) (m := 1) 1 rfl rfl (by decide) ?_
    conv => arg 8; simp only [zA, zB, zC, zD, zE, zF, zG, zH, zI, rowS, ret, id_eq]
    repeat (first
      | refine qv rfl (qp rfl) rfl rfl ?_ | refine TL_nil ?_ | refine T_seq ?_ | refine T_region ?_ | refine qcT rfl ?_ | refine qcF rfl ?_ | refine T_skip ?_
      | refine T_exit ?_ | refine T_ret ?_ | refine T_block ?_ | refine E_then ?_ | refine E_thenX ?_ | refine E_thenR ?_ | refine E_blockN ?_
      | refine E_blockR ?_ | refine E_blockX ?_ | refine E_blockO rfl ?_ | refine qs rfl rfl rfl rfl rfl rfl ?_
      | ((try refine qg rfl rfl rfl ?_); first | refine qv rfl (qp rfl) rfl rfl ?_ | refine qv rfl (rr_idx1 (j := 0) Und.eq TyC.ty rfl rfl hpos) rfl rfl ?_ | refine qv rfl (rr_load1 TyC.ty rfl (at_rowA (i := 2) rfl hpos)) rfl rfl ?_ | refine qv rfl (rr_idx1 (j := blocksF (aut R tags) 0) Und.eq TyC.ty rfl rfl (by omega)) rfl rfl ?_ | refine qv rfl (qlen Und.eq rfl) rfl rfl ?_ | refine qv rfl (qfld FldC.fld rfl rfl) rfl rfl ?_ | refine qv rfl (rr_lss rfl rfl (qT (by omega))) rfl rfl ?_ | refine qv rfl (rr_lss rfl rfl (qF (by omega))) rfl rfl ?_ | refine qv rfl (rr_eql rfl rfl (qT (by omega))) rfl rfl ?_ | refine qv rfl (rr_eql rfl rfl (qF (by omega))) rfl rfl ?_ | refine qv rfl (rr_neq rfl rfl (qT (by omega))) rfl rfl ?_ | refine qv rfl (rr_neq rfl rfl (qF (by omega))) rfl rfl ?_ | refine qv rfl (rr_add64 rfl rfl (by omega) (by omega) rfl) rfl rfl ?_ | refine qv rfl (rr_sub64 rfl rfl (by omega) (by omega) rfl) rfl rfl ?_))
    refine TL_storeA (i := 3) (off := blocksF (aut R tags) 0) (v := 1) (numF (blocksF (aut R tags)) [0]) TyC.ty rfl rfl rfl rfl rfl (by omega) (fun j hj => ?_) ?_
    · by_cases e : j = blocksF (aut R tags) 0
      · subst e; simp [numF, idx]
      · rw [if_neg e]; unfold numF; rw [if_neg (by simpa using e)]
    conv => arg 8; simp only [zA, zB, zC, zD, zE, zF, zG, zH, zI, rowS, ret, id_eq]
    repeat (first
      | refine qv rfl (qp rfl) rfl rfl ?_ | refine TL_nil ?_ | refine T_seq ?_ | refine T_region ?_ | refine qcT rfl ?_ | refine qcF rfl ?_ | refine T_skip ?_
      | refine T_exit ?_ | refine T_ret ?_ | refine T_block ?_ | refine E_then ?_ | refine E_thenX ?_ | refine E_thenR ?_ | refine E_blockN ?_
      | refine E_blockR ?_ | refine E_blockX ?_ | refine E_blockO rfl ?_ | refine qs rfl rfl rfl rfl rfl rfl ?_
      | ((try refine qg rfl rfl rfl ?_); first | refine qv rfl (qp rfl) rfl rfl ?_ | refine qv rfl (qlen Und.eq rfl) rfl rfl ?_ | refine qv rfl (qfld FldC.fld rfl rfl) rfl rfl ?_ | refine qv rfl (rr_lss rfl rfl (qT (by omega))) rfl rfl ?_ | refine qv rfl (rr_lss rfl rfl (qF (by omega))) rfl rfl ?_ | refine qv rfl (rr_eql rfl rfl (qT (by omega))) rfl rfl ?_ | refine qv rfl (rr_eql rfl rfl (qF (by omega))) rfl rfl ?_ | refine qv rfl (rr_neq rfl rfl (qT (by omega))) rfl rfl ?_ | refine qv rfl (rr_neq rfl rfl (qF (by omega))) rfl rfl ?_ | refine qv rfl (rr_add64 rfl rfl (by omega) (by omega) rfl) rfl rfl ?_ | refine qv rfl (rr_sub64 rfl rfl (by omega) (by omega) rfl) rfl rfl ?_))
    refine T_nil 31 256 ?_
    refine T_nil 3 1 ?_
    conv => arg 7; simp only [zA, zB, zC, zD, zE, zF, zG, zH, zI, rowS, ret, id_eq]
    have hstart := mway0 (tags := tags) hA
    have hfin := fun f n Q out => @mway_end R tags f n Q out
    have hnext := fun f n Q out => @mway_next R tags hA f n Q out
    have hble := hbo.le
    clear hbl0 hbo hbl hck
    generalize hBLK : blocksF (aut R tags) = BLK at *
    refine T_loop (ι := Nat × Nat × List Nat × List Row × Value × Value × Value) (fun (f, n, Q, out, _) => MWay R tags f n Q out) (fun (_, n, _, _, vQ, _, _) => [(1, .pointer (some ⟨g1, 0, none⟩)), (2, .pointer (some ⟨g2, 0, none⟩)), (5, .slice (some ⟨g5, 0, none⟩) R.length R.length), (6, .slice (some ⟨g6, 0, none⟩) (R.length + 1) (R.length + 1)), (7, .pointer (some ⟨g7, 0, none⟩)), (8, vQ), (9, .int .i64 (n : Int))])
      (fun (_, n, Q, out, vQ, vR, vT) => [blkO g1 (dfaV (.slice (some ⟨b, off, none⟩) R.length cr) (.slice (some ⟨bb, ofT, none⟩) tags.length ct)).cells 25, blkO g2 (dfaV (.slice none 0 0) (.slice none 0 0)).cells 25, rowA 3 intV g5 R.length fun i => (BLK i : Int), rowA 3 intV g6 (R.length + 1) (numF BLK Q), blkO g7 (dfaV vR vT).cells 25, rowO 3 1 vQ Q.length (Q.map fun q : Nat => intV q), rowO 31 256 vR out.length (out.flatMap rowC), rowO 3 1 vT n (((Q.take n).map (aut R tags).tag).flatMap kit.intC)]) (fun (f, _) => f) (R.length + 1, 0, [0], [], .slice (some ⟨g8, 0, none⟩) 1 1, .slice none 0 0, .slice none 0 0) hstart (by repeat' (first | exact True.intro | refine And.intro rfl ?_)) rfl ?_
    rintro ⟨f, n, Q, out, vQ, vR, vT⟩ hw
    dsimp only at hw ⊢
    have hQ := hw.ok
    have hQl := hQ.len
    have hout := hw.outs.len
    rw [hBLK] at hQ
    rw [en] at hQl
    by_cases c1 : n < Q.length
    · obtain ⟨f', rfl, hw'⟩ := hnext _ _ _ _ hw c1
      have hq := hQ.lt _ (getD_mem c1)
      have hqc : (Q.map fun q : Nat => intV q)[0 + n]? = some (intV (Q.getD n 0)) := by rw [Nat.zero_add, List.getElem?_map, List.getD_eq_getElem?_getD, List.getElem?_eq_getElem c1]; rfl
      rw [en] at hq
      have hall := smAll_calls (-1)
      have hrw := fun k hk => qok_row (bl := BLK) hA hQ (q := Q.getD n 0) (by rw [en]; exact hq) k hk
      have hpre := row_pre (A := aut R tags) (bl := BLK) (Q.getD n 0) Q
      have hrl := row_len (A := aut R tags) (bl := BLK) (Q.getD n 0) Q
      have hst : ∀ k, k < 256 → St (aut R tags) ((aut R tags).d (Q.getD n 0) k) := fun k hk => hA.step _ hq k hk
      have hd : ∀ (k : Nat) (hk : k < 256), (aut R tags).d (Q.getD n 0) k = (R[Q.getD n 0]'hq)[k] := fun k hk => aut_d hq hk
      have hqtags : Q.getD n 0 < tags.length := by omega
      have htg : (aut R tags).tag (Q.getD n 0) = tags[Q.getD n 0]'hqtags := aut_tag hqtags
      have hatR := fun (L : List Own) => at_el (W := w) (L := L) rowC_len hr hq
      have hatT := fun (L : List Own) => at_el (W := w) (L := L) (c := 1) (f := kit.intC) (fun _ => rfl) hrt hqtags 0 _ rfl
      have hQn : Q.getD n 0 = Q[n] := by rw [List.getD_eq_getElem?_getD, List.getElem?_eq_getElem c1]; rfl
      clear hfin hnext hw
      generalize hqq : Q.getD n 0 = q at *
      generalize hrr : R[q] = r at *
      repeat (first
        | refine qv rfl (qp rfl) rfl rfl ?_ | refine TL_nil ?_ | refine T_seq ?_ | refine T_region ?_ | refine qcT rfl ?_ | refine qcF rfl ?_ | refine T_skip ?_
        | refine T_exit ?_ | refine T_ret ?_ | refine T_block ?_ | refine E_then ?_ | refine E_thenX ?_ | refine E_thenR ?_ | refine E_blockN ?_
        | refine E_blockR ?_ | refine E_blockX ?_ | refine E_blockO rfl ?_ | refine qs rfl rfl rfl rfl rfl rfl ?_
        | ((try refine qg rfl rfl rfl ?_); first | refine qv rfl (qp rfl) rfl rfl ?_ | refine qv rfl (rr_rowlen (i := 5) Und.eq rfl rfl) rfl rfl ?_ | refine qv rfl (qlen Und.eq rfl) rfl rfl ?_ | refine qv rfl (qfld FldC.fld rfl rfl) rfl rfl ?_ | refine qv rfl (rr_lss rfl rfl (qT (by omega))) rfl rfl ?_ | refine qv rfl (rr_lss rfl rfl (qF (by omega))) rfl rfl ?_ | refine qv rfl (rr_eql rfl rfl (qT (by omega))) rfl rfl ?_ | refine qv rfl (rr_eql rfl rfl (qF (by omega))) rfl rfl ?_ | refine qv rfl (rr_neq rfl rfl (qT (by omega))) rfl rfl ?_ | refine qv rfl (rr_neq rfl rfl (qF (by omega))) rfl rfl ?_ | refine qv rfl (rr_add64 rfl rfl (by omega) (by omega) rfl) rfl rfl ?_ | refine qv rfl (rr_sub64 rfl rfl (by omega) (by omega) rfl) rfl rfl ?_))
      refine TL_call (he1 EntersC.en rfl rfl) (fun w hm => hall _) rfl rfl rfl ?_
      intro _ _
      repeat (first
        | refine qv rfl (qp rfl) rfl rfl ?_ | refine TL_nil ?_ | refine T_seq ?_ | refine T_region ?_ | refine qcT rfl ?_ | refine qcF rfl ?_ | refine T_skip ?_
        | refine T_exit ?_ | refine T_ret ?_ | refine T_block ?_ | refine E_then ?_ | refine E_thenX ?_ | refine E_thenR ?_ | refine E_blockN ?_
        | refine E_blockR ?_ | refine E_blockX ?_ | refine E_blockO rfl ?_ | refine qs rfl rfl rfl rfl rfl rfl ?_
        | ((try refine qg rfl rfl rfl ?_); first | refine qv rfl (qp rfl) rfl rfl ?_ | refine qv rfl (qlen Und.eq rfl) rfl rfl ?_ | refine qv rfl (qfld FldC.fld rfl rfl) rfl rfl ?_ | refine qv rfl (rr_lss rfl rfl (qT (by omega))) rfl rfl ?_ | refine qv rfl (rr_lss rfl rfl (qF (by omega))) rfl rfl ?_ | refine qv rfl (rr_eql rfl rfl (qT (by omega))) rfl rfl ?_ | refine qv rfl (rr_eql rfl rfl (qF (by omega))) rfl rfl ?_ | refine qv rfl (rr_neq rfl rfl (qT (by omega))) rfl rfl ?_ | refine qv rfl (rr_neq rfl rfl (qF (by omega))) rfl rfl ?_ | refine qv rfl (rr_add64 rfl rfl (by omega) (by omega) rfl) rfl rfl ?_ | refine qv rfl (rr_sub64 rfl rfl (by omega) (by omega) rfl) rfl rfl ?_))
      refine TL_new rfl fun g10 => ?_
      conv => arg 8; simp only [zA, zB, zC, zD, zE, zF, zG, zH, zI, rowS, ret, id_eq]
      refine TL_storeB (i := 8) (cs' := (rowC (Vector.replicate 256 (-1))).toArray) rfl rfl rfl (by rw [List.size_toArray, rowC_len]) (by simpa using row_one1 (Vector.replicate 256 (-1))) (by kernel_rfl) ?_
      conv => arg 8; simp only [zA, zB, zC, zD, zE, zF, zG, zH, zI, rowS, ret, id_eq]
      repeat (first
        | refine qv rfl (qp rfl) rfl rfl ?_ | refine TL_nil ?_ | refine T_seq ?_ | refine T_region ?_ | refine qcT rfl ?_ | refine qcF rfl ?_ | refine T_skip ?_
        | refine T_exit ?_ | refine T_ret ?_ | refine T_block ?_ | refine E_then ?_ | refine E_thenX ?_ | refine E_thenR ?_ | refine E_blockN ?_
        | refine E_blockR ?_ | refine E_blockX ?_ | refine E_blockO rfl ?_ | refine qs rfl rfl rfl rfl rfl rfl ?_
        | ((try refine qg rfl rfl rfl ?_); first | refine qv rfl (qp rfl) rfl rfl ?_ | refine qv rfl (qlen Und.eq rfl) rfl rfl ?_ | refine qv rfl (qfld FldC.fld rfl rfl) rfl rfl ?_ | refine qv rfl (rr_lss rfl rfl (qT (by omega))) rfl rfl ?_ | refine qv rfl (rr_lss rfl rfl (qF (by omega))) rfl rfl ?_ | refine qv rfl (rr_eql rfl rfl (qT (by omega))) rfl rfl ?_ | refine qv rfl (rr_eql rfl rfl (qF (by omega))) rfl rfl ?_ | refine qv rfl (rr_neq rfl rfl (qT (by omega))) rfl rfl ?_ | refine qv rfl (rr_neq rfl rfl (qF (by omega))) rfl rfl ?_ | refine qv rfl (rr_add64 rfl rfl (by omega) (by omega) rfl) rfl rfl ?_ | refine qv rfl (rr_sub64 rfl rfl (by omega) (by omega) rfl) rfl rfl ?_))
      refine T_rowN (i := 5) rfl (by omega) fun gQ cQ hv hcQ hcQ2 => ?_
      subst hv
      (repeat refine T_seq ?_)
      refine T_ord ([blkO g1 (dfaV (.slice (some ⟨b, off, none⟩) R.length cr) (.slice (some ⟨bb, ofT, none⟩) tags.length ct)).cells 25, rowO 3 1 (.slice (some ⟨gQ, 0, none⟩) Q.length cQ) Q.length (Q.map fun q : Nat => intV q)]) (.calm 0 (.calm 1 (.calm 2 (.calm 3 (.calm 4 (.calm 5 (.calm 6 (.calm 7 (.calm 8 (.done)))))))))) (sub_pick [0, 5] (by decide) rfl) (by kernel_rfl) (by kernel_rfl) (by intro c a d v w h; cases d <;> exact h) ?_
      repeat (first
        | ((first | refine TW_plain rfl rfl ?_ | refine TW_gmet rfl rfl rfl rfl ?_); first | refine TN_val (qp rfl) rfl rfl ?_ | refine TN_val (rr_load1 TyC.ty rfl (at_blk (i := 0) rfl rfl)) rfl rfl ?_ | refine TN_val (rr_idx1 (j := n) Und.eq TyC.ty rfl rfl c1) rfl rfl ?_ | refine TN_val (rr_load1 TyC.ty rfl (at_row (i := 1) rfl hqc)) rfl rfl ?_ | refine TN_val (rr_idxc (j := q) Und.eq TyC.ty rfl rfl hq) rfl rfl ?_ | refine TN_val (rr_loadN TyC.ty rfl (rowC_len r) (hatR _)) rfl rfl ?_ | refine TN_val (qlen Und.eq rfl) rfl rfl ?_ | refine TN_val (qfld FldC.fld rfl rfl) rfl rfl ?_ | refine TN_val (rr_lss rfl rfl (qT (by omega))) rfl rfl ?_ | refine TN_val (rr_lss rfl rfl (qF (by omega))) rfl rfl ?_ | refine TN_val (rr_eql rfl rfl (qT (by omega))) rfl rfl ?_ | refine TN_val (rr_eql rfl rfl (qF (by omega))) rfl rfl ?_ | refine TN_val (rr_neq rfl rfl (qT (by omega))) rfl rfl ?_ | refine TN_val (rr_neq rfl rfl (qF (by omega))) rfl rfl ?_ | refine TN_val (rr_add64 rfl rfl (by omega) (by omega) rfl) rfl rfl ?_ | refine TN_val (rr_sub64 rfl rfl (by omega) (by omega) rfl) rfl rfl ?_)
        | refine TW_skip rfl rfl rfl rfl rfl rfl rfl ?_ | refine TW_done ?_)
      repeat (first
        | refine qv rfl (qp rfl) rfl rfl ?_ | refine TL_nil ?_ | refine T_seq ?_ | refine T_region ?_ | refine qcT rfl ?_ | refine qcF rfl ?_ | refine T_skip ?_
        | refine T_exit ?_ | refine T_ret ?_ | refine T_block ?_ | refine E_then ?_ | refine E_thenX ?_ | refine E_thenR ?_ | refine E_blockN ?_
        | refine E_blockR ?_ | refine E_blockX ?_ | refine E_blockO rfl ?_ | refine qs rfl rfl rfl rfl rfl rfl ?_
        | ((try refine qg rfl rfl rfl ?_); first | refine qv rfl (qp rfl) rfl rfl ?_ | refine qv rfl (qlen Und.eq rfl) rfl rfl ?_ | refine qv rfl (qfld FldC.fld rfl rfl) rfl rfl ?_ | refine qv rfl (rr_lss rfl rfl (qT (by omega))) rfl rfl ?_ | refine qv rfl (rr_lss rfl rfl (qF (by omega))) rfl rfl ?_ | refine qv rfl (rr_eql rfl rfl (qT (by omega))) rfl rfl ?_ | refine qv rfl (rr_eql rfl rfl (qF (by omega))) rfl rfl ?_ | refine qv rfl (rr_neq rfl rfl (qT (by omega))) rfl rfl ?_ | refine qv rfl (rr_neq rfl rfl (qF (by omega))) rfl rfl ?_ | refine qv rfl (rr_add64 rfl rfl (by omega) (by omega) rfl) rfl rfl ?_ | refine qv rfl (rr_sub64 rfl rfl (by omega) (by omega) rfl) rfl rfl ?_))
      rw [← mRow_nil]
      refine T_pick [0, 1, 2, 3, 4, 6, 7, 8, 5] (by decide) rfl ?_
      refine T_loop (ι := Nat × Value) (fun (k, _) => k ≤ 256) (fun (k, vK) => [(1, .pointer (some ⟨g1, 0, none⟩)), (2, .pointer (some ⟨g2, 0, none⟩)), (5, .slice (some ⟨g5, 0, none⟩) R.length R.length), (6, .slice (some ⟨g6, 0, none⟩) (R.length + 1) (R.length + 1)), (7, .pointer (some ⟨g7, 0, none⟩)), (8, vK), (9, .int .i64 (n : Int)), (10, .pointer (some ⟨g10, 0, none⟩)), (46, rowV r), (47, .int .i64 (k : Int))])
        (fun (k, vK) => [blkO g1 (dfaV (.slice (some ⟨b, off, none⟩) R.length cr) (.slice (some ⟨bb, ofT, none⟩) tags.length ct)).cells 25, blkO g2 (dfaV (.slice none 0 0) (.slice none 0 0)).cells 25, rowA 3 intV g5 R.length fun i => (BLK i : Int), rowA 3 intV g6 (R.length + 1) (numF BLK (rowQ (aut R tags) BLK q Q k).1), blkO g7 (dfaV vR vT).cells 25, rowO 31 256 vR out.length (out.flatMap rowC), rowO 3 1 vT n (((Q.take n).map (aut R tags).tag).flatMap kit.intC), blkO g10 (rowC (mRow (rowQ (aut R tags) BLK q Q k).2)).toArray 31, rowO 3 1 vK (rowQ (aut R tags) BLK q Q k).1.length ((rowQ (aut R tags) BLK q Q k).1.map fun q : Nat => intV q)]) (fun (k, _) => 256 - k) (0, .slice (some ⟨gQ, 0, none⟩) Q.length cQ) (Nat.zero_le _) (by repeat' (first | exact True.intro | refine And.intro rfl ?_)) rfl ?_
      rintro ⟨k, vK⟩ hk
      dsimp only at hk ⊢
      by_cases c2 : k < 256
      · have hcell : (rowC r).toArray[k]? = some (.int .i16 r[k]) := by rw [List.getElem?_toArray]; exact rowC_get r c2
        have hx := hd k c2
        have hsx := hst k c2
        have hok := hrw k hk
        have hlen := hrl k
        have hokn := (qok_step hok hsx).len
        have hnext : rowQ (aut R tags) BLK q Q (k + 1) = ((stepQ BLK (rowQ (aut R tags) BLK q Q k).1 ((aut R tags).d q k)).1, (rowQ (aut R tags) BLK q Q k).2 ++ [(stepQ BLK (rowQ (aut R tags) BLK q Q k).1 ((aut R tags).d q k)).2]) := rfl
        rw [hx] at hnext hsx hokn
        clear hx hst hrw hpre hrl hd hatR hatT
        generalize r[k] = x at *
        generalize rowQ (aut R tags) BLK q Q k = RQ at *
        obtain ⟨Qk, vk⟩ := RQ
        dsimp only at hok hlen hokn hnext ⊢
        subst hlen
        unfold St at hsx
        rw [en] at hsx
        by_cases c3 : val BLK x = 0
        · have e : stepQ BLK Qk x = (Qk, -1) := by unfold stepQ; rw [if_pos c3]
          rw [e] at hnext
          have hRound : ∀ (S : List Own), S = [blkO g1 (dfaV (.slice (some ⟨b, off, none⟩) R.length cr) (.slice (some ⟨bb, ofT, none⟩) tags.length ct)).cells 25, blkO g2 (dfaV (.slice none 0 0) (.slice none 0 0)).cells 25, rowA 3 intV g5 R.length fun i => (BLK i : Int), rowA 3 intV g6 (R.length + 1) (numF BLK Qk), blkO g7 (dfaV vR vT).cells 25, rowO 31 256 vR out.length (out.flatMap rowC), rowO 3 1 vT n (((Q.take n).map (aut R tags).tag).flatMap kit.intC), blkO g10 (rowC (mRow vk)).toArray 31, rowO 3 1 vK Qk.length (Qk.map fun q : Nat => intV q)] → S = [blkO g1 (dfaV (.slice (some ⟨b, off, none⟩) R.length cr) (.slice (some ⟨bb, ofT, none⟩) tags.length ct)).cells 25, blkO g2 (dfaV (.slice none 0 0) (.slice none 0 0)).cells 25, rowA 3 intV g5 R.length fun i => (BLK i : Int), rowA 3 intV g6 (R.length + 1) (numF BLK (rowQ (aut R tags) BLK q Q (vk.length + 1)).1), blkO g7 (dfaV vR vT).cells 25, rowO 31 256 vR out.length (out.flatMap rowC), rowO 3 1 vT n (((Q.take n).map (aut R tags).tag).flatMap kit.intC), blkO g10 (rowC (mRow (rowQ (aut R tags) BLK q Q (vk.length + 1)).2)).toArray 31, rowO 3 1 vK (rowQ (aut R tags) BLK q Q (vk.length + 1)).1.length ((rowQ (aut R tags) BLK q Q (vk.length + 1)).1.map fun q : Nat => intV q)] := fun S h => by
            rw [hnext]; dsimp only; rw [mRow_skip vk c2]; exact h
          by_cases c4 : x < 0
          · repeat (first
              | refine qv rfl (qp rfl) rfl rfl ?_ | refine TL_nil ?_ | refine T_seq ?_ | refine T_region ?_ | refine qcT rfl ?_ | refine qcF rfl ?_ | refine T_skip ?_
              | refine T_exit ?_ | refine T_ret ?_ | refine T_block ?_ | refine E_then ?_ | refine E_thenX ?_ | refine E_thenR ?_ | refine E_blockN ?_
              | refine E_blockR ?_ | refine E_blockX ?_ | refine E_blockO rfl ?_ | refine qs rfl rfl rfl rfl rfl rfl ?_
              | ((try refine qg rfl rfl rfl ?_); first | refine qv rfl (qp rfl) rfl rfl ?_ | refine qv rfl (rr_arridx Und.eq TyC.ty rfl rfl c2 hcell) rfl rfl ?_ | refine qv rfl (qlen Und.eq rfl) rfl rfl ?_ | refine qv rfl (qfld FldC.fld rfl rfl) rfl rfl ?_ | refine qv rfl (rr_lss rfl rfl (qT (by omega))) rfl rfl ?_ | refine qv rfl (rr_lss rfl rfl (qF (by omega))) rfl rfl ?_ | refine qv rfl (rr_eql rfl rfl (qT (by omega))) rfl rfl ?_ | refine qv rfl (rr_eql rfl rfl (qF (by omega))) rfl rfl ?_ | refine qv rfl (rr_neq rfl rfl (qT (by omega))) rfl rfl ?_ | refine qv rfl (rr_neq rfl rfl (qF (by omega))) rfl rfl ?_ | refine qv rfl (rr_add64 rfl rfl (by omega) (by omega) rfl) rfl rfl ?_ | refine qv rfl (rr_sub64 rfl rfl (by omega) (by omega) rfl) rfl rfl ?_))
            exact E_round (vk.length + 1, vK) (by show vk.length + 1 ≤ 256; omega) (by show 256 - (vk.length + 1) < 256 - vk.length; omega) (by repeat' (first | exact True.intro | refine And.intro rfl ?_)) (hRound _ rfl)
          · obtain ⟨m, rfl⟩ : ∃ m : Nat, x = m := ⟨x.toNat, by omega⟩
            have hm : m < R.length := by omega
            rw [val_nat] at c3
            repeat (first
              | refine qv rfl (qp rfl) rfl rfl ?_ | refine TL_nil ?_ | refine T_seq ?_ | refine T_region ?_ | refine qcT rfl ?_ | refine qcF rfl ?_ | refine T_skip ?_
              | refine T_exit ?_ | refine T_ret ?_ | refine T_block ?_ | refine E_then ?_ | refine E_thenX ?_ | refine E_thenR ?_ | refine E_blockN ?_
              | refine E_blockR ?_ | refine E_blockX ?_ | refine E_blockO rfl ?_ | refine qs rfl rfl rfl rfl rfl rfl ?_
              | ((try refine qg rfl rfl rfl ?_); first | refine qv rfl (qp rfl) rfl rfl ?_ | refine qv rfl (rr_arridx Und.eq TyC.ty rfl rfl c2 hcell) rfl rfl ?_ | refine qv rfl (rr_idx1 (j := m) Und.eq TyC.ty rfl rfl hm) rfl rfl ?_ | refine qv rfl (rr_load1 TyC.ty rfl (at_rowA (i := 2) rfl hm)) rfl rfl ?_ | refine qv rfl (rr_eql (b := true) rfl rfl (decide_eq_true (by omega))) rfl rfl ?_ | refine qv rfl (qlen Und.eq rfl) rfl rfl ?_ | refine qv rfl (qfld FldC.fld rfl rfl) rfl rfl ?_ | refine qv rfl (rr_lss rfl rfl (qT (by omega))) rfl rfl ?_ | refine qv rfl (rr_lss rfl rfl (qF (by omega))) rfl rfl ?_ | refine qv rfl (rr_eql rfl rfl (qT (by omega))) rfl rfl ?_ | refine qv rfl (rr_eql rfl rfl (qF (by omega))) rfl rfl ?_ | refine qv rfl (rr_neq rfl rfl (qT (by omega))) rfl rfl ?_ | refine qv rfl (rr_neq rfl rfl (qF (by omega))) rfl rfl ?_ | refine qv rfl (rr_add64 rfl rfl (by omega) (by omega) rfl) rfl rfl ?_ | refine qv rfl (rr_sub64 rfl rfl (by omega) (by omega) rfl) rfl rfl ?_))
            exact E_round (vk.length + 1, vK) (by show vk.length + 1 ≤ 256; omega) (by show 256 - (vk.length + 1) < 256 - vk.length; omega) (by repeat' (first | exact True.intro | refine And.intro rfl ?_)) (hRound _ rfl)
        · have c4 : ¬ x < 0 := fun e => c3 (by unfold val; rw [if_pos e])
          obtain ⟨m, rfl⟩ : ∃ m : Nat, x = m := ⟨x.toNat, by omega⟩
          have hm : m < R.length := by omega
          rw [val_nat] at c3
          have hbm := hble m hm
          rw [en] at hbm
          have e : stepQ BLK Qk (m : Int) = (addQ BLK Qk (m : Int), (idx ((addQ BLK Qk (m : Int)).map BLK) (BLK m) : Int)) := by unfold stepQ; rw [val_nat, if_neg c3, Int.toNat_natCast]
          rw [e] at hnext hokn
          dsimp only at hokn hnext
          rw [en] at hokn
          unfold addQ at hnext hokn
          rw [Int.toNat_natCast] at hnext hokn
          by_cases c5 : BLK m ∈ Qk.map BLK
          · rw [if_pos c5] at hnext hokn
            have hid := idx_lt c5
            rw [List.length_map] at hid
            have hnum : numF BLK Qk (BLK m) = (idx (Qk.map BLK) (BLK m) : Int) + 1 := by unfold numF; rw [if_pos c5]
            generalize idx (Qk.map BLK) (BLK m) = z at *
            repeat (first
              | refine qv rfl (qp rfl) rfl rfl ?_ | refine TL_nil ?_ | refine T_seq ?_ | refine T_region ?_ | refine qcT rfl ?_ | refine qcF rfl ?_ | refine T_skip ?_
              | refine T_exit ?_ | refine T_ret ?_ | refine T_block ?_ | refine E_then ?_ | refine E_thenX ?_ | refine E_thenR ?_ | refine E_blockN ?_
              | refine E_blockR ?_ | refine E_blockX ?_ | refine E_blockO rfl ?_ | refine qs rfl rfl rfl rfl rfl rfl ?_
              | ((try refine qg rfl rfl rfl ?_); first | refine qv rfl (qp rfl) rfl rfl ?_ | refine qv rfl (rr_arridx Und.eq TyC.ty rfl rfl c2 hcell) rfl rfl ?_ | refine qv rfl (rr_idx1 (j := m) Und.eq TyC.ty rfl rfl hm) rfl rfl ?_ | refine qv rfl (rr_load1 TyC.ty rfl (at_rowA (i := 2) rfl hm)) rfl rfl ?_ | refine qv rfl (rr_eql (b := false) rfl rfl (decide_eq_false (by omega))) rfl rfl ?_ | refine qv rfl (rr_idx1 (j := BLK m) Und.eq TyC.ty rfl rfl (by omega)) rfl rfl ?_ | refine qv rfl (rr_load1 TyC.ty rfl (at_rowA (i := 3) rfl (show BLK m < R.length + 1 by omega))) rfl rfl ?_ | refine qv rfl (rr_sub64 (r := (z : Int)) rfl rfl (by omega) (by omega) (by omega)) rfl rfl ?_ | refine qv rfl (rr_conv Und.eq Und.eq rfl (wrap16 (by omega) (by omega))) rfl rfl ?_ | refine qv rfl (rr_aidx1 Und.eq TyC.ty rfl rfl c2) rfl rfl ?_ | refine qv rfl (qlen Und.eq rfl) rfl rfl ?_ | refine qv rfl (qfld FldC.fld rfl rfl) rfl rfl ?_ | refine qv rfl (rr_lss rfl rfl (qT (by omega))) rfl rfl ?_ | refine qv rfl (rr_lss rfl rfl (qF (by omega))) rfl rfl ?_ | refine qv rfl (rr_eql rfl rfl (qT (by omega))) rfl rfl ?_ | refine qv rfl (rr_eql rfl rfl (qF (by omega))) rfl rfl ?_ | refine qv rfl (rr_neq rfl rfl (qT (by omega))) rfl rfl ?_ | refine qv rfl (rr_neq rfl rfl (qF (by omega))) rfl rfl ?_ | refine qv rfl (rr_add64 rfl rfl (by omega) (by omega) rfl) rfl rfl ?_ | refine qv rfl (rr_sub64 rfl rfl (by omega) (by omega) rfl) rfl rfl ?_))
            refine TL_storeV (i := 7) rfl rfl rfl c2 ?_
            rw [mRow_set vk z c2]
            conv => arg 8; simp only [zA, zB, zC, zD, zE, zF, zG, zH, zI, rowS, ret, id_eq]
            repeat (first
              | refine qv rfl (qp rfl) rfl rfl ?_ | refine TL_nil ?_ | refine T_seq ?_ | refine T_region ?_ | refine qcT rfl ?_ | refine qcF rfl ?_ | refine T_skip ?_
              | refine T_exit ?_ | refine T_ret ?_ | refine T_block ?_ | refine E_then ?_ | refine E_thenX ?_ | refine E_thenR ?_ | refine E_blockN ?_
              | refine E_blockR ?_ | refine E_blockX ?_ | refine E_blockO rfl ?_ | refine qs rfl rfl rfl rfl rfl rfl ?_
              | ((try refine qg rfl rfl rfl ?_); first | refine qv rfl (qp rfl) rfl rfl ?_ | refine qv rfl (qlen Und.eq rfl) rfl rfl ?_ | refine qv rfl (qfld FldC.fld rfl rfl) rfl rfl ?_ | refine qv rfl (rr_lss rfl rfl (qT (by omega))) rfl rfl ?_ | refine qv rfl (rr_lss rfl rfl (qF (by omega))) rfl rfl ?_ | refine qv rfl (rr_eql rfl rfl (qT (by omega))) rfl rfl ?_ | refine qv rfl (rr_eql rfl rfl (qF (by omega))) rfl rfl ?_ | refine qv rfl (rr_neq rfl rfl (qT (by omega))) rfl rfl ?_ | refine qv rfl (rr_neq rfl rfl (qF (by omega))) rfl rfl ?_ | refine qv rfl (rr_add64 rfl rfl (by omega) (by omega) rfl) rfl rfl ?_ | refine qv rfl (rr_sub64 rfl rfl (by omega) (by omega) rfl) rfl rfl ?_))
            exact E_round (vk.length + 1, vK) (by show vk.length + 1 ≤ 256; omega) (by show 256 - (vk.length + 1) < 256 - vk.length; omega) (by repeat' (first | exact True.intro | refine And.intro rfl ?_)) (by dsimp only; rw [hnext])
          · rw [if_neg c5] at hnext hokn
            have hnum : numF BLK Qk (BLK m) = 0 := by unfold numF; rw [if_neg c5]
            have hadd := numF_add (q := m) c5
            have hnum2 : numF BLK (Qk ++ [m]) (BLK m) = (Qk.length : Int) + 1 := by rw [hadd, if_pos rfl]
            have hidx : idx ((Qk ++ [m]).map BLK) (BLK m) = Qk.length := by
              have h1 := hnum2
              unfold numF at h1
              rw [if_pos (by simp)] at h1
              omega
            rw [hidx] at hnext
            rw [List.length_append, List.length_singleton] at hokn
            repeat (first
              | refine qv rfl (qp rfl) rfl rfl ?_ | refine TL_nil ?_ | refine T_seq ?_ | refine T_region ?_ | refine qcT rfl ?_ | refine qcF rfl ?_ | refine T_skip ?_
              | refine T_exit ?_ | refine T_ret ?_ | refine T_block ?_ | refine E_then ?_ | refine E_thenX ?_ | refine E_thenR ?_ | refine E_blockN ?_
              | refine E_blockR ?_ | refine E_blockX ?_ | refine E_blockO rfl ?_ | refine qs rfl rfl rfl rfl rfl rfl ?_
              | ((try refine qg rfl rfl rfl ?_); first | refine qv rfl (qp rfl) rfl rfl ?_ | refine qv rfl (rr_arridx Und.eq TyC.ty rfl rfl c2 hcell) rfl rfl ?_ | refine qv rfl (rr_idx1 (j := m) Und.eq TyC.ty rfl rfl hm) rfl rfl ?_ | refine qv rfl (rr_load1 TyC.ty rfl (at_rowA (i := 2) rfl hm)) rfl rfl ?_ | refine qv rfl (rr_eql (b := false) rfl rfl (decide_eq_false (show ¬ (BLK m : Int) = 0 by omega))) rfl rfl ?_ | refine qv rfl (rr_idx1 (j := BLK m) Und.eq TyC.ty rfl rfl (by omega)) rfl rfl ?_ | refine qv rfl (rr_load1 TyC.ty rfl (at_rowA (i := 3) rfl (show BLK m < R.length + 1 by omega))) rfl rfl ?_ | refine qv rfl (rr_eql (b := true) rfl rfl (decide_eq_true hnum)) rfl rfl ?_ | refine qv rfl (rr_conv Und.eq Und.eq rfl (wrap_in (by omega) (by omega))) rfl rfl ?_ | refine qv rfl (qlen Und.eq rfl) rfl rfl ?_ | refine qv rfl (qfld FldC.fld rfl rfl) rfl rfl ?_ | refine qv rfl (rr_lss rfl rfl (qT (by omega))) rfl rfl ?_ | refine qv rfl (rr_lss rfl rfl (qF (by omega))) rfl rfl ?_ | refine qv rfl (rr_eql rfl rfl (qT (by omega))) rfl rfl ?_ | refine qv rfl (rr_eql rfl rfl (qF (by omega))) rfl rfl ?_ | refine qv rfl (rr_neq rfl rfl (qT (by omega))) rfl rfl ?_ | refine qv rfl (rr_neq rfl rfl (qF (by omega))) rfl rfl ?_ | refine qv rfl (rr_add64 rfl rfl (by omega) (by omega) rfl) rfl rfl ?_ | refine qv rfl (rr_sub64 rfl rfl (by omega) (by omega) rfl) rfl rfl ?_))
            refine TL_push1 (i := 8) rfl rfl rfl rfl rfl rfl (fun z h => by cases h; rfl) (by omega) (by omega) rfl fun z v2 => ?_
            conv => arg 8; simp only [zA, zB, zC, zD, zE, zF, zG, zH, zI, rowS, ret, id_eq]
            repeat (first
              | refine qv rfl (qp rfl) rfl rfl ?_ | refine TL_nil ?_ | refine T_seq ?_ | refine T_region ?_ | refine qcT rfl ?_ | refine qcF rfl ?_ | refine T_skip ?_
              | refine T_exit ?_ | refine T_ret ?_ | refine T_block ?_ | refine E_then ?_ | refine E_thenX ?_ | refine E_thenR ?_ | refine E_blockN ?_
              | refine E_blockR ?_ | refine E_blockX ?_ | refine E_blockO rfl ?_ | refine qs rfl rfl rfl rfl rfl rfl ?_
              | ((try refine qg rfl rfl rfl ?_); first | refine qv rfl (qp rfl) rfl rfl ?_ | refine qv rfl (rr_idx1 (j := m) Und.eq TyC.ty rfl rfl hm) rfl rfl ?_ | refine qv rfl (rr_load1 TyC.ty rfl (at_rowA (i := 2) rfl hm)) rfl rfl ?_ | refine qv rfl (rr_idx1 (j := BLK m) Und.eq TyC.ty rfl rfl (by omega)) rfl rfl ?_ | refine qv rfl (rr_rowlen (i := 8) Und.eq rfl rfl) rfl rfl ?_ | refine qv rfl (qlen Und.eq rfl) rfl rfl ?_ | refine qv rfl (qfld FldC.fld rfl rfl) rfl rfl ?_ | refine qv rfl (rr_lss rfl rfl (qT (by omega))) rfl rfl ?_ | refine qv rfl (rr_lss rfl rfl (qF (by omega))) rfl rfl ?_ | refine qv rfl (rr_eql rfl rfl (qT (by omega))) rfl rfl ?_ | refine qv rfl (rr_eql rfl rfl (qF (by omega))) rfl rfl ?_ | refine qv rfl (rr_neq rfl rfl (qT (by omega))) rfl rfl ?_ | refine qv rfl (rr_neq rfl rfl (qF (by omega))) rfl rfl ?_ | refine qv rfl (rr_add64 rfl rfl (by omega) (by omega) rfl) rfl rfl ?_ | refine qv rfl (rr_sub64 rfl rfl (by omega) (by omega) rfl) rfl rfl ?_))
            refine TL_storeA (i := 3) (off := BLK m) (v := ((Qk.length + 1 : Nat) : Int)) (numF BLK (Qk ++ [m])) TyC.ty rfl rfl rfl rfl rfl (by omega) (fun j hj => by rw [hadd]; rfl) ?_
            conv => arg 8; simp only [zA, zB, zC, zD, zE, zF, zG, zH, zI, rowS, ret, id_eq]
            repeat (first
              | refine qv rfl (qp rfl) rfl rfl ?_ | refine TL_nil ?_ | refine T_seq ?_ | refine T_region ?_ | refine qcT rfl ?_ | refine qcF rfl ?_ | refine T_skip ?_
              | refine T_exit ?_ | refine T_ret ?_ | refine T_block ?_ | refine E_then ?_ | refine E_thenX ?_ | refine E_thenR ?_ | refine E_blockN ?_
              | refine E_blockR ?_ | refine E_blockX ?_ | refine E_blockO rfl ?_ | refine qs rfl rfl rfl rfl rfl rfl ?_
              | ((try refine qg rfl rfl rfl ?_); first | refine qv rfl (qp rfl) rfl rfl ?_ | refine qv rfl (rr_idx1 (j := m) Und.eq TyC.ty rfl rfl hm) rfl rfl ?_ | refine qv rfl (rr_load1 TyC.ty rfl (at_rowA (i := 2) rfl hm)) rfl rfl ?_ | refine qv rfl (rr_idx1 (j := BLK m) Und.eq TyC.ty rfl rfl (by omega)) rfl rfl ?_ | refine qv rfl (rr_load1 TyC.ty rfl (at_rowA (i := 3) rfl (show BLK m < R.length + 1 by omega))) rfl rfl ?_ | refine qv rfl (rr_sub64 (r := (Qk.length : Int)) rfl rfl (by omega) (by omega) (by omega)) rfl rfl ?_ | refine qv rfl (rr_conv Und.eq Und.eq rfl (wrap16 (by omega) (by omega))) rfl rfl ?_ | refine qv rfl (rr_aidx1 Und.eq TyC.ty rfl rfl c2) rfl rfl ?_ | refine qv rfl (qlen Und.eq rfl) rfl rfl ?_ | refine qv rfl (qfld FldC.fld rfl rfl) rfl rfl ?_ | refine qv rfl (rr_lss rfl rfl (qT (by omega))) rfl rfl ?_ | refine qv rfl (rr_lss rfl rfl (qF (by omega))) rfl rfl ?_ | refine qv rfl (rr_eql rfl rfl (qT (by omega))) rfl rfl ?_ | refine qv rfl (rr_eql rfl rfl (qF (by omega))) rfl rfl ?_ | refine qv rfl (rr_neq rfl rfl (qT (by omega))) rfl rfl ?_ | refine qv rfl (rr_neq rfl rfl (qF (by omega))) rfl rfl ?_ | refine qv rfl (rr_add64 rfl rfl (by omega) (by omega) rfl) rfl rfl ?_ | refine qv rfl (rr_sub64 rfl rfl (by omega) (by omega) rfl) rfl rfl ?_))
            refine TL_storeV (i := 7) rfl rfl rfl c2 ?_
            rw [mRow_set vk (Qk.length : Int) c2]
            conv => arg 8; simp only [zA, zB, zC, zD, zE, zF, zG, zH, zI, rowS, ret, id_eq]
            repeat (first
              | refine qv rfl (qp rfl) rfl rfl ?_ | refine TL_nil ?_ | refine T_seq ?_ | refine T_region ?_ | refine qcT rfl ?_ | refine qcF rfl ?_ | refine T_skip ?_
              | refine T_exit ?_ | refine T_ret ?_ | refine T_block ?_ | refine E_then ?_ | refine E_thenX ?_ | refine E_thenR ?_ | refine E_blockN ?_
              | refine E_blockR ?_ | refine E_blockX ?_ | refine E_blockO rfl ?_ | refine qs rfl rfl rfl rfl rfl rfl ?_
              | ((try refine qg rfl rfl rfl ?_); first | refine qv rfl (qp rfl) rfl rfl ?_ | refine qv rfl (qlen Und.eq rfl) rfl rfl ?_ | refine qv rfl (qfld FldC.fld rfl rfl) rfl rfl ?_ | refine qv rfl (rr_lss rfl rfl (qT (by omega))) rfl rfl ?_ | refine qv rfl (rr_lss rfl rfl (qF (by omega))) rfl rfl ?_ | refine qv rfl (rr_eql rfl rfl (qT (by omega))) rfl rfl ?_ | refine qv rfl (rr_eql rfl rfl (qF (by omega))) rfl rfl ?_ | refine qv rfl (rr_neq rfl rfl (qT (by omega))) rfl rfl ?_ | refine qv rfl (rr_neq rfl rfl (qF (by omega))) rfl rfl ?_ | refine qv rfl (rr_add64 rfl rfl (by omega) (by omega) rfl) rfl rfl ?_ | refine qv rfl (rr_sub64 rfl rfl (by omega) (by omega) rfl) rfl rfl ?_))
            exact E_round (vk.length + 1, v2) (by show vk.length + 1 ≤ 256; omega) (by show 256 - (vk.length + 1) < 256 - vk.length; omega) (by repeat' (first | exact True.intro | refine And.intro rfl ?_)) (by dsimp only; rw [hnext]; simp)
      · obtain rfl : k = 256 := by omega
        have hok := (hrw 256 (Nat.le_refl _)).len
        obtain ⟨E, hE⟩ := hpre 256
        have hv := hrl 256
        clear hrw hpre hrl hst hd hatR
        generalize rowQ (aut R tags) BLK q Q 256 = RQ at *
        obtain ⟨Qe, ve⟩ := RQ
        dsimp only at hok hE hv hw' ⊢
        subst hE
        rw [mRow_all hv]
        rw [en] at hok
        have hqe : ((Q ++ E).map fun q : Nat => intV q)[0 + n]? = some (intV q) := by
          rw [Nat.zero_add, List.getElem?_map, List.getElem?_append_left c1, List.getElem?_eq_getElem c1, ← hQn]; rfl
        have htk : (((Q ++ E).take (n + 1)).map (aut R tags).tag).flatMap kit.intC = ((Q.take n).map (aut R tags).tag).flatMap kit.intC ++ [intV tags[q]] := by
          rw [List.take_append_of_le_length (by omega), List.take_succ_eq_append_getElem c1, ← hQn, List.map_append, List.flatMap_append, List.map_singleton, List.flatMap_singleton, htg]; rfl
        rw [List.length_append] at hok
        have hlenE : n < (Q ++ E).length := by rw [List.length_append]; omega
        repeat (first
          | refine qv rfl (qp rfl) rfl rfl ?_ | refine TL_nil ?_ | refine T_seq ?_ | refine T_region ?_ | refine qcT rfl ?_ | refine qcF rfl ?_ | refine T_skip ?_
          | refine T_exit ?_ | refine T_ret ?_ | refine T_block ?_ | refine E_then ?_ | refine E_thenX ?_ | refine E_thenR ?_ | refine E_blockN ?_
          | refine E_blockR ?_ | refine E_blockX ?_ | refine E_blockO rfl ?_ | refine qs rfl rfl rfl rfl rfl rfl ?_
          | ((try refine qg rfl rfl rfl ?_); first | refine qv rfl (qp rfl) rfl rfl ?_ | refine qv rfl (rr_load1 TyC.ty rfl (at_blk (i := 4) rfl rfl)) rfl rfl ?_ | refine qv rfl (rr_loadB (i := 7) TyC.ty rfl rfl (by rw [List.size_toArray, rowC_len])) rfl rfl ?_ | refine qv rfl (qlen Und.eq rfl) rfl rfl ?_ | refine qv rfl (qfld FldC.fld rfl rfl) rfl rfl ?_ | refine qv rfl (rr_lss rfl rfl (qT (by omega))) rfl rfl ?_ | refine qv rfl (rr_lss rfl rfl (qF (by omega))) rfl rfl ?_ | refine qv rfl (rr_eql rfl rfl (qT (by omega))) rfl rfl ?_ | refine qv rfl (rr_eql rfl rfl (qF (by omega))) rfl rfl ?_ | refine qv rfl (rr_neq rfl rfl (qT (by omega))) rfl rfl ?_ | refine qv rfl (rr_neq rfl rfl (qF (by omega))) rfl rfl ?_ | refine qv rfl (rr_add64 rfl rfl (by omega) (by omega) rfl) rfl rfl ?_ | refine qv rfl (rr_sub64 rfl rfl (by omega) (by omega) rfl) rfl rfl ?_))
        refine TL_pushN (i := 5) rfl rfl (by rw [List.size_toArray, rowC_len]) rfl (by simpa using row_one1 (vec ve)) rfl rfl (fun z h => by cases h; rfl) (by omega) (by omega) rfl fun z v2 => ?_
        conv => arg 8; simp only [zA, zB, zC, zD, zE, zF, zG, zH, zI, rowS, ret, id_eq]
        repeat (first
          | refine qv rfl (qp rfl) rfl rfl ?_ | refine TL_nil ?_ | refine T_seq ?_ | refine T_region ?_ | refine qcT rfl ?_ | refine qcF rfl ?_ | refine T_skip ?_
          | refine T_exit ?_ | refine T_ret ?_ | refine T_block ?_ | refine E_then ?_ | refine E_thenX ?_ | refine E_thenR ?_ | refine E_blockN ?_
          | refine E_blockR ?_ | refine E_blockX ?_ | refine E_blockO rfl ?_ | refine qs rfl rfl rfl rfl rfl rfl ?_
          | ((try refine qg rfl rfl rfl ?_); first | refine qv rfl (qp rfl) rfl rfl ?_ | refine qv rfl (qlen Und.eq rfl) rfl rfl ?_ | refine qv rfl (qfld FldC.fld rfl rfl) rfl rfl ?_ | refine qv rfl (rr_lss rfl rfl (qT (by omega))) rfl rfl ?_ | refine qv rfl (rr_lss rfl rfl (qF (by omega))) rfl rfl ?_ | refine qv rfl (rr_eql rfl rfl (qT (by omega))) rfl rfl ?_ | refine qv rfl (rr_eql rfl rfl (qF (by omega))) rfl rfl ?_ | refine qv rfl (rr_neq rfl rfl (qT (by omega))) rfl rfl ?_ | refine qv rfl (rr_neq rfl rfl (qF (by omega))) rfl rfl ?_ | refine qv rfl (rr_add64 rfl rfl (by omega) (by omega) rfl) rfl rfl ?_ | refine qv rfl (rr_sub64 rfl rfl (by omega) (by omega) rfl) rfl rfl ?_))
        refine TL_slv (i := 5) rfl fun hc1 ho1 => ?_
        refine TL_store1 (i := 4) rfl rfl rfl hc1 ho1 rfl ?_
        conv => arg 8; simp only [zA, zB, zC, zD, zE, zF, zG, zH, zI, rowS, ret, id_eq]
        repeat (first
          | refine qv rfl (qp rfl) rfl rfl ?_ | refine TL_nil ?_ | refine T_seq ?_ | refine T_region ?_ | refine qcT rfl ?_ | refine qcF rfl ?_ | refine T_skip ?_
          | refine T_exit ?_ | refine T_ret ?_ | refine T_block ?_ | refine E_then ?_ | refine E_thenX ?_ | refine E_thenR ?_ | refine E_blockN ?_
          | refine E_blockR ?_ | refine E_blockX ?_ | refine E_blockO rfl ?_ | refine qs rfl rfl rfl rfl rfl rfl ?_
          | ((try refine qg rfl rfl rfl ?_); first | refine qv rfl (qp rfl) rfl rfl ?_ | refine qv rfl (qlen Und.eq rfl) rfl rfl ?_ | refine qv rfl (qfld FldC.fld rfl rfl) rfl rfl ?_ | refine qv rfl (rr_lss rfl rfl (qT (by omega))) rfl rfl ?_ | refine qv rfl (rr_lss rfl rfl (qF (by omega))) rfl rfl ?_ | refine qv rfl (rr_eql rfl rfl (qT (by omega))) rfl rfl ?_ | refine qv rfl (rr_eql rfl rfl (qF (by omega))) rfl rfl ?_ | refine qv rfl (rr_neq rfl rfl (qT (by omega))) rfl rfl ?_ | refine qv rfl (rr_neq rfl rfl (qF (by omega))) rfl rfl ?_ | refine qv rfl (rr_add64 rfl rfl (by omega) (by omega) rfl) rfl rfl ?_ | refine qv rfl (rr_sub64 rfl rfl (by omega) (by omega) rfl) rfl rfl ?_))
        refine T_rowN (i := 8) rfl (by omega) fun gQ' cQ' hv' hcQ' hcQ2' => ?_
        subst hv'
        (repeat refine T_seq ?_)
        refine T_ord ([blkO g1 (dfaV (.slice (some ⟨b, off, none⟩) R.length cr) (.slice (some ⟨bb, ofT, none⟩) tags.length ct)).cells 25, rowO 3 1 (.slice (some ⟨gQ', 0, none⟩) (Q ++ E).length cQ') (Q ++ E).length ((Q ++ E).map fun q : Nat => intV q)]) (.calm 0 (.calm 2 (.calm 3 (.calm 4 (.calm 5 (.calm 6 (.calm 7 (.calm 8 (.calm 9 (.two 1 (.one 10 (.one 11 (.calm 12 (.one 13 (.done))))) 10 (.one 1 (.one 11 (.calm 12 (.one 13 (.done))))))))))))))) (sub_pick [0, 8] (by decide) rfl) (by kernel_rfl) (by kernel_rfl) (by intro c a d v w h; cases d <;> exact h) ?_
        repeat (first
          | ((first | refine TW_plain rfl rfl ?_ | refine TW_gmet rfl rfl rfl rfl ?_); first | refine TN_val (qp rfl) rfl rfl ?_ | refine TN_val (rr_load1 TyC.ty rfl (at_blk (i := 0) rfl rfl)) rfl rfl ?_ | refine TN_val (rr_idx1 (j := n) Und.eq TyC.ty rfl rfl hlenE) rfl rfl ?_ | refine TN_val (rr_load1 TyC.ty rfl (at_row (i := 1) rfl hqe)) rfl rfl ?_ | refine TN_val (rr_idxc (j := q) Und.eq TyC.ty rfl rfl hqtags) rfl rfl ?_ | refine TN_val (rr_load1 TyC.ty rfl (hatT _)) rfl rfl ?_ | refine TN_val (qlen Und.eq rfl) rfl rfl ?_ | refine TN_val (qfld FldC.fld rfl rfl) rfl rfl ?_ | refine TN_val (rr_lss rfl rfl (qT (by omega))) rfl rfl ?_ | refine TN_val (rr_lss rfl rfl (qF (by omega))) rfl rfl ?_ | refine TN_val (rr_eql rfl rfl (qT (by omega))) rfl rfl ?_ | refine TN_val (rr_eql rfl rfl (qF (by omega))) rfl rfl ?_ | refine TN_val (rr_neq rfl rfl (qT (by omega))) rfl rfl ?_ | refine TN_val (rr_neq rfl rfl (qF (by omega))) rfl rfl ?_ | refine TN_val (rr_add64 rfl rfl (by omega) (by omega) rfl) rfl rfl ?_ | refine TN_val (rr_sub64 rfl rfl (by omega) (by omega) rfl) rfl rfl ?_)
          | refine TW_skip rfl rfl rfl rfl rfl rfl rfl ?_ | refine TW_done ?_)
        refine TW_two rfl rfl ?_ ?_
        · refine TL_val (rr_load1 TyC.ty rfl (at_blk (i := 4) rfl rfl)) rfl rfl rfl (TW_on (sub_pick [0, 8] (by decide) rfl) ?_)
          refine TW_one rfl (TL_one rfl rfl rfl rfl rfl fun g109 => TW_on (sub_pick [0, 8] (by decide) rfl) ?_)
          refine TW_one rfl (TL_app11 (i := 6) (q := 9) rfl rfl rfl rfl rfl rfl (by omega) (by omega) rfl fun v3 => TW_on (sub_pick [0, 8] (by decide) rfl) ?_)
          repeat (first
            | ((first | refine TW_plain rfl rfl ?_ | refine TW_gmet rfl rfl rfl rfl ?_); first | refine TN_val (qp rfl) rfl rfl ?_ | refine TN_val (qlen Und.eq rfl) rfl rfl ?_ | refine TN_val (qfld FldC.fld rfl rfl) rfl rfl ?_ | refine TN_val (rr_lss rfl rfl (qT (by omega))) rfl rfl ?_ | refine TN_val (rr_lss rfl rfl (qF (by omega))) rfl rfl ?_ | refine TN_val (rr_eql rfl rfl (qT (by omega))) rfl rfl ?_ | refine TN_val (rr_eql rfl rfl (qF (by omega))) rfl rfl ?_ | refine TN_val (rr_neq rfl rfl (qT (by omega))) rfl rfl ?_ | refine TN_val (rr_neq rfl rfl (qF (by omega))) rfl rfl ?_ | refine TN_val (rr_add64 rfl rfl (by omega) (by omega) rfl) rfl rfl ?_ | refine TN_val (rr_sub64 rfl rfl (by omega) (by omega) rfl) rfl rfl ?_)
            | refine TW_skip rfl rfl rfl rfl rfl rfl rfl ?_ | refine TW_done ?_)
          refine TW_one rfl (TL_slv (i := 6) rfl fun hc2 ho2 => TL_store1 (i := 4) rfl rfl rfl hc2 ho2 rfl (TW_on (sub_pick [0, 8] (by decide) rfl) ?_))
          repeat (first
            | ((first | refine TW_plain rfl rfl ?_ | refine TW_gmet rfl rfl rfl rfl ?_); first | refine TN_val (qp rfl) rfl rfl ?_ | refine TN_val (qlen Und.eq rfl) rfl rfl ?_ | refine TN_val (qfld FldC.fld rfl rfl) rfl rfl ?_ | refine TN_val (rr_lss rfl rfl (qT (by omega))) rfl rfl ?_ | refine TN_val (rr_lss rfl rfl (qF (by omega))) rfl rfl ?_ | refine TN_val (rr_eql rfl rfl (qT (by omega))) rfl rfl ?_ | refine TN_val (rr_eql rfl rfl (qF (by omega))) rfl rfl ?_ | refine TN_val (rr_neq rfl rfl (qT (by omega))) rfl rfl ?_ | refine TN_val (rr_neq rfl rfl (qF (by omega))) rfl rfl ?_ | refine TN_val (rr_add64 rfl rfl (by omega) (by omega) rfl) rfl rfl ?_ | refine TN_val (rr_sub64 rfl rfl (by omega) (by omega) rfl) rfl rfl ?_)
            | refine TW_skip rfl rfl rfl rfl rfl rfl rfl ?_ | refine TW_done ?_)
          repeat (first
            | refine qv rfl (qp rfl) rfl rfl ?_ | refine TL_nil ?_ | refine T_seq ?_ | refine T_region ?_ | refine qcT rfl ?_ | refine qcF rfl ?_ | refine T_skip ?_
            | refine T_exit ?_ | refine T_ret ?_ | refine T_block ?_ | refine E_then ?_ | refine E_thenX ?_ | refine E_thenR ?_ | refine E_blockN ?_
            | refine E_blockR ?_ | refine E_blockX ?_ | refine E_blockO rfl ?_ | refine qs rfl rfl rfl rfl rfl rfl ?_
            | ((try refine qg rfl rfl rfl ?_); first | refine qv rfl (qp rfl) rfl rfl ?_ | refine qv rfl (qlen Und.eq rfl) rfl rfl ?_ | refine qv rfl (qfld FldC.fld rfl rfl) rfl rfl ?_ | refine qv rfl (rr_lss rfl rfl (qT (by omega))) rfl rfl ?_ | refine qv rfl (rr_lss rfl rfl (qF (by omega))) rfl rfl ?_ | refine qv rfl (rr_eql rfl rfl (qT (by omega))) rfl rfl ?_ | refine qv rfl (rr_eql rfl rfl (qF (by omega))) rfl rfl ?_ | refine qv rfl (rr_neq rfl rfl (qT (by omega))) rfl rfl ?_ | refine qv rfl (rr_neq rfl rfl (qF (by omega))) rfl rfl ?_ | refine qv rfl (rr_add64 rfl rfl (by omega) (by omega) rfl) rfl rfl ?_ | refine qv rfl (rr_sub64 rfl rfl (by omega) (by omega) rfl) rfl rfl ?_))
          refine E_pick [0, 1, 2, 3, 4, 8, 5, 6] (by decide) rfl ?_
          exact E_round (f', n + 1, Q ++ E, out ++ [vec ve], .slice (some ⟨gQ', 0, none⟩) (Q ++ E).length cQ', v2, v3) hw' (Nat.lt_succ_self f') (by repeat' (first | exact True.intro | refine And.intro rfl ?_)) (by dsimp only; rw [htk]; simp; rfl)
        · refine TL_one rfl rfl rfl rfl rfl fun g109 => TW_on (sub_pick [0, 8] (by decide) rfl) ?_
          refine TW_one rfl (TL_val (rr_load1 TyC.ty rfl (at_blk (i := 4) rfl rfl)) rfl rfl rfl (TW_on (sub_pick [0, 8] (by decide) rfl) ?_))
          refine TW_one rfl (TL_app11 (i := 6) (q := 9) rfl rfl rfl rfl rfl rfl (by omega) (by omega) rfl fun v3 => TW_on (sub_pick [0, 8] (by decide) rfl) ?_)
          repeat (first
            | ((first | refine TW_plain rfl rfl ?_ | refine TW_gmet rfl rfl rfl rfl ?_); first | refine TN_val (qp rfl) rfl rfl ?_ | refine TN_val (qlen Und.eq rfl) rfl rfl ?_ | refine TN_val (qfld FldC.fld rfl rfl) rfl rfl ?_ | refine TN_val (rr_lss rfl rfl (qT (by omega))) rfl rfl ?_ | refine TN_val (rr_lss rfl rfl (qF (by omega))) rfl rfl ?_ | refine TN_val (rr_eql rfl rfl (qT (by omega))) rfl rfl ?_ | refine TN_val (rr_eql rfl rfl (qF (by omega))) rfl rfl ?_ | refine TN_val (rr_neq rfl rfl (qT (by omega))) rfl rfl ?_ | refine TN_val (rr_neq rfl rfl (qF (by omega))) rfl rfl ?_ | refine TN_val (rr_add64 rfl rfl (by omega) (by omega) rfl) rfl rfl ?_ | refine TN_val (rr_sub64 rfl rfl (by omega) (by omega) rfl) rfl rfl ?_)
            | refine TW_skip rfl rfl rfl rfl rfl rfl rfl ?_ | refine TW_done ?_)
          refine TW_one rfl (TL_slv (i := 6) rfl fun hc2 ho2 => TL_store1 (i := 4) rfl rfl rfl hc2 ho2 rfl (TW_on (sub_pick [0, 8] (by decide) rfl) ?_))
          repeat (first
            | ((first | refine TW_plain rfl rfl ?_ | refine TW_gmet rfl rfl rfl rfl ?_); first | refine TN_val (qp rfl) rfl rfl ?_ | refine TN_val (qlen Und.eq rfl) rfl rfl ?_ | refine TN_val (qfld FldC.fld rfl rfl) rfl rfl ?_ | refine TN_val (rr_lss rfl rfl (qT (by omega))) rfl rfl ?_ | refine TN_val (rr_lss rfl rfl (qF (by omega))) rfl rfl ?_ | refine TN_val (rr_eql rfl rfl (qT (by omega))) rfl rfl ?_ | refine TN_val (rr_eql rfl rfl (qF (by omega))) rfl rfl ?_ | refine TN_val (rr_neq rfl rfl (qT (by omega))) rfl rfl ?_ | refine TN_val (rr_neq rfl rfl (qF (by omega))) rfl rfl ?_ | refine TN_val (rr_add64 rfl rfl (by omega) (by omega) rfl) rfl rfl ?_ | refine TN_val (rr_sub64 rfl rfl (by omega) (by omega) rfl) rfl rfl ?_)
            | refine TW_skip rfl rfl rfl rfl rfl rfl rfl ?_ | refine TW_done ?_)
          repeat (first
            | refine qv rfl (qp rfl) rfl rfl ?_ | refine TL_nil ?_ | refine T_seq ?_ | refine T_region ?_ | refine qcT rfl ?_ | refine qcF rfl ?_ | refine T_skip ?_
            | refine T_exit ?_ | refine T_ret ?_ | refine T_block ?_ | refine E_then ?_ | refine E_thenX ?_ | refine E_thenR ?_ | refine E_blockN ?_
            | refine E_blockR ?_ | refine E_blockX ?_ | refine E_blockO rfl ?_ | refine qs rfl rfl rfl rfl rfl rfl ?_
            | ((try refine qg rfl rfl rfl ?_); first | refine qv rfl (qp rfl) rfl rfl ?_ | refine qv rfl (qlen Und.eq rfl) rfl rfl ?_ | refine qv rfl (qfld FldC.fld rfl rfl) rfl rfl ?_ | refine qv rfl (rr_lss rfl rfl (qT (by omega))) rfl rfl ?_ | refine qv rfl (rr_lss rfl rfl (qF (by omega))) rfl rfl ?_ | refine qv rfl (rr_eql rfl rfl (qT (by omega))) rfl rfl ?_ | refine qv rfl (rr_eql rfl rfl (qF (by omega))) rfl rfl ?_ | refine qv rfl (rr_neq rfl rfl (qT (by omega))) rfl rfl ?_ | refine qv rfl (rr_neq rfl rfl (qF (by omega))) rfl rfl ?_ | refine qv rfl (rr_add64 rfl rfl (by omega) (by omega) rfl) rfl rfl ?_ | refine qv rfl (rr_sub64 rfl rfl (by omega) (by omega) rfl) rfl rfl ?_))
          refine E_pick [0, 1, 2, 3, 4, 8, 5, 6] (by decide) rfl ?_
          exact E_round (f', n + 1, Q ++ E, out ++ [vec ve], .slice (some ⟨gQ', 0, none⟩) (Q ++ E).length cQ', v2, v3) hw' (Nat.lt_succ_self f') (by repeat' (first | exact True.intro | refine And.intro rfl ?_)) (by dsimp only; rw [htk]; simp; rfl)
    · obtain ⟨e, rfl⟩ := hfin _ _ _ _ hw c1
      rw [e]
      repeat (first
        | refine qv rfl (qp rfl) rfl rfl ?_ | refine TL_nil ?_ | refine T_seq ?_ | refine T_region ?_ | refine qcT rfl ?_ | refine qcF rfl ?_ | refine T_skip ?_
        | refine T_exit ?_ | refine T_ret ?_ | refine T_block ?_ | refine E_then ?_ | refine E_thenX ?_ | refine E_thenR ?_ | refine E_blockN ?_
        | refine E_blockR ?_ | refine E_blockX ?_ | refine E_blockO rfl ?_ | refine qs rfl rfl rfl rfl rfl rfl ?_
        | ((try refine qg rfl rfl rfl ?_); first | refine qv rfl (qp rfl) rfl rfl ?_ | refine qv rfl (rr_rowlen (i := 5) Und.eq rfl rfl) rfl rfl ?_ | refine qv rfl (rr_loadB (i := 4) TyC.ty rfl rfl rfl) rfl rfl ?_ | refine qv rfl (qlen Und.eq rfl) rfl rfl ?_ | refine qv rfl (qfld FldC.fld rfl rfl) rfl rfl ?_ | refine qv rfl (rr_lss rfl rfl (qT (by omega))) rfl rfl ?_ | refine qv rfl (rr_lss rfl rfl (qF (by omega))) rfl rfl ?_ | refine qv rfl (rr_eql rfl rfl (qT (by omega))) rfl rfl ?_ | refine qv rfl (rr_eql rfl rfl (qF (by omega))) rfl rfl ?_ | refine qv rfl (rr_neq rfl rfl (qT (by omega))) rfl rfl ?_ | refine qv rfl (rr_neq rfl rfl (qF (by omega))) rfl rfl ?_ | refine qv rfl (rr_add64 rfl rfl (by omega) (by omega) rfl) rfl rfl ?_ | refine qv rfl (rr_sub64 rfl rfl (by omega) (by omega) rfl) rfl rfl ?_))
      refine TL_slv (i := 6) rfl fun hc1 ho1 => ?_
      refine TL_slv (i := 7) rfl fun hc2 ho2 => ?_
      refine TL_storeB (i := 1) (cs' := (dfaV vR vT).cells) rfl rfl rfl rfl (by show ([vR, vT].all Value.oneCell') = true; simp [ho1, ho2]) rfl ?_
      conv => arg 8; simp only [zA, zB, zC, zD, zE, zF, zG, zH, zI, rowS, ret, id_eq]
      repeat (first
        | refine qv rfl (qp rfl) rfl rfl ?_ | refine TL_nil ?_ | refine T_seq ?_ | refine T_region ?_ | refine qcT rfl ?_ | refine qcF rfl ?_ | refine T_skip ?_
        | refine T_exit ?_ | refine T_ret ?_ | refine T_block ?_ | refine E_then ?_ | refine E_thenX ?_ | refine E_thenR ?_ | refine E_blockN ?_
        | refine E_blockR ?_ | refine E_blockX ?_ | refine E_blockO rfl ?_ | refine qs rfl rfl rfl rfl rfl rfl ?_
        | ((try refine qg rfl rfl rfl ?_); first | refine qv rfl (qp rfl) rfl rfl ?_ | refine qv rfl (qlen Und.eq rfl) rfl rfl ?_ | refine qv rfl (qfld FldC.fld rfl rfl) rfl rfl ?_ | refine qv rfl (rr_lss rfl rfl (qT (by omega))) rfl rfl ?_ | refine qv rfl (rr_lss rfl rfl (qF (by omega))) rfl rfl ?_ | refine qv rfl (rr_eql rfl rfl (qT (by omega))) rfl rfl ?_ | refine qv rfl (rr_eql rfl rfl (qF (by omega))) rfl rfl ?_ | refine qv rfl (rr_neq rfl rfl (qT (by omega))) rfl rfl ?_ | refine qv rfl (rr_neq rfl rfl (qF (by omega))) rfl rfl ?_ | refine qv rfl (rr_add64 rfl rfl (by omega) (by omega) rfl) rfl rfl ?_ | refine qv rfl (rr_sub64 rfl rfl (by omega) (by omega) rfl) rfl rfl ?_))
      refine E_retc2 (i := 1) rfl rfl rfl rfl rfl fun w hm => ?_
      exact hm.meets (S := ⟨fun (_ : Value × Value) => True, fun x => .tuple #[dfaV x.1 x.2, .int .i64 0], fun x => [rowO 31 256 x.1 out.length (out.flatMap rowC), rowO 3 1 x.2 (Q.map (aut R tags).tag).length ((Q.map (aut R tags).tag).flatMap kit.intC)]⟩) (vR, vT) trivial [6, 7] (by decide) (by simp)
  · have er : minR R tags = [] := if_neg hc
    have et : minT R tags = [] := if_neg hc
    unfold minS
    rw [er, et]
    generalize chk R tags = e at *
    refine enter (args := [dfaV (.slice br R.length cr) (.slice bt tags.length ct)]) (n := 113) Try.func11 rfl rfl rfl ?_
    refine T_seq (T_region (TL_box rfl rfl rfl fun g1 => ?_))
    refine TL_new rfl fun g2 => ?_
    conv => arg 8; simp only [zA, zB, zC, zD, zE, zF, zG, zH, zI, rowS, ret, id_eq]
    repeat (first
      | refine qv rfl (qp rfl) rfl rfl ?_ | refine TL_nil ?_ | refine T_seq ?_ | refine T_region ?_ | refine qcT rfl ?_ | refine qcF rfl ?_ | refine T_skip ?_
      | refine T_exit ?_ | refine T_ret ?_ | refine T_block ?_ | refine E_then ?_ | refine E_thenX ?_ | refine E_thenR ?_ | refine E_blockN ?_
      | refine E_blockR ?_ | refine E_blockX ?_ | refine E_blockO rfl ?_ | refine qs rfl rfl rfl rfl rfl rfl ?_
      | ((try refine qg rfl rfl rfl ?_); first | refine qv rfl (qp rfl) rfl rfl ?_ | refine qv rfl (rr_loadB (i := 0) TyC.ty rfl rfl rfl) rfl rfl ?_ | refine qv rfl (qlen Und.eq rfl) rfl rfl ?_ | refine qv rfl (qfld FldC.fld rfl rfl) rfl rfl ?_ | refine qv rfl (rr_lss rfl rfl (qT (by omega))) rfl rfl ?_ | refine qv rfl (rr_lss rfl rfl (qF (by omega))) rfl rfl ?_ | refine qv rfl (rr_eql rfl rfl (qT (by omega))) rfl rfl ?_ | refine qv rfl (rr_eql rfl rfl (qF (by omega))) rfl rfl ?_ | refine qv rfl (rr_neq rfl rfl (qT (by omega))) rfl rfl ?_ | refine qv rfl (rr_neq rfl rfl (qF (by omega))) rfl rfl ?_ | refine qv rfl (rr_add64 rfl rfl (by omega) (by omega) rfl) rfl rfl ?_ | refine qv rfl (rr_sub64 rfl rfl (by omega) (by omega) rfl) rfl rfl ?_))
    refine TL_call (he1 EntersC.en rfl rfl) (fun w hm => hck _ hm.below) rfl rfl rfl ?_
    intro _ _
    repeat (first
      | refine qv rfl (qp rfl) rfl rfl ?_ | refine TL_nil ?_ | refine T_seq ?_ | refine T_region ?_ | refine qcT rfl ?_ | refine qcF rfl ?_ | refine T_skip ?_
      | refine T_exit ?_ | refine T_ret ?_ | refine T_block ?_ | refine E_then ?_ | refine E_thenX ?_ | refine E_thenR ?_ | refine E_blockN ?_
      | refine E_blockR ?_ | refine E_blockX ?_ | refine E_blockO rfl ?_ | refine qs rfl rfl rfl rfl rfl rfl ?_
      | ((try refine qg rfl rfl rfl ?_); first | refine qv rfl (qp rfl) rfl rfl ?_ | refine qv rfl (rr_build rfl build_dfa0) rfl rfl ?_ | refine qv rfl (rr_neq (b := true) rfl rfl (decide_eq_true hc)) rfl rfl ?_ | refine qv rfl (qlen Und.eq rfl) rfl rfl ?_ | refine qv rfl (qfld FldC.fld rfl rfl) rfl rfl ?_ | refine qv rfl (rr_lss rfl rfl (qT (by omega))) rfl rfl ?_ | refine qv rfl (rr_lss rfl rfl (qF (by omega))) rfl rfl ?_ | refine qv rfl (rr_eql rfl rfl (qT (by omega))) rfl rfl ?_ | refine qv rfl (rr_eql rfl rfl (qF (by omega))) rfl rfl ?_ | refine qv rfl (rr_neq rfl rfl (qT (by omega))) rfl rfl ?_ | refine qv rfl (rr_neq rfl rfl (qF (by omega))) rfl rfl ?_ | refine qv rfl (rr_add64 rfl rfl (by omega) (by omega) rfl) rfl rfl ?_ | refine qv rfl (rr_sub64 rfl rfl (by omega) (by omega) rfl) rfl rfl ?_))
    refine TL_storeB (i := 1) rfl rfl rfl rfl rfl rfl ?_
    conv => arg 8; simp only [zA, zB, zC, zD, zE, zF, zG, zH, zI, rowS, ret, id_eq]
    repeat (first
      | refine qv rfl (qp rfl) rfl rfl ?_ | refine TL_nil ?_ | refine T_seq ?_ | refine T_region ?_ | refine qcT rfl ?_ | refine qcF rfl ?_ | refine T_skip ?_
      | refine T_exit ?_ | refine T_ret ?_ | refine T_block ?_ | refine E_then ?_ | refine E_thenX ?_ | refine E_thenR ?_ | refine E_blockN ?_
      | refine E_blockR ?_ | refine E_blockX ?_ | refine E_blockO rfl ?_ | refine qs rfl rfl rfl rfl rfl rfl ?_
      | ((try refine qg rfl rfl rfl ?_); first | refine qv rfl (qp rfl) rfl rfl ?_ | refine qv rfl (qlen Und.eq rfl) rfl rfl ?_ | refine qv rfl (qfld FldC.fld rfl rfl) rfl rfl ?_ | refine qv rfl (rr_lss rfl rfl (qT (by omega))) rfl rfl ?_ | refine qv rfl (rr_lss rfl rfl (qF (by omega))) rfl rfl ?_ | refine qv rfl (rr_eql rfl rfl (qT (by omega))) rfl rfl ?_ | refine qv rfl (rr_eql rfl rfl (qF (by omega))) rfl rfl ?_ | refine qv rfl (rr_neq rfl rfl (qT (by omega))) rfl rfl ?_ | refine qv rfl (rr_neq rfl rfl (qF (by omega))) rfl rfl ?_ | refine qv rfl (rr_add64 rfl rfl (by omega) (by omega) rfl) rfl rfl ?_ | refine qv rfl (rr_sub64 rfl rfl (by omega) (by omega) rfl) rfl rfl ?_))
    refine E_nilrow 31 256 (E_nilrow 3 1 ?_)
    refine E_retc2 (i := 1) rfl rfl rfl rfl rfl fun w hm => ?_
    exact hm.meets (S := ⟨fun (_ : Value × Value) => True, fun x => .tuple #[dfaV x.1 x.2, .int .i64 e], fun x => [rowO 31 256 x.1 0 [], rowO 3 1 x.2 0 []]⟩) (.slice none 0 0, .slice none 0 0) trivial [2, 3] (by decide) rfl
end Go.Proofs.Ytbiacehgfmgfdaa.eng
