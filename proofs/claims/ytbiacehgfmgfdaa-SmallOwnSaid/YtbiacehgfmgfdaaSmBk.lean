/- What is packed is unpacked; the smallest one's smallest one is itself. -/
import Derived.Test.YtbiacehgfmgfdaaSmUp
import Derived.Test.YtbiacehgfmgfdaaSmSd
namespace Go.Proofs.Ytbiacehgfmgfdaa.eng
open Go.RowKit kit mix dfaL smallL
theorem minR_eq {R : List Row} {tags : List Int} (h : chk R tags = 0) : minR R tags = (minF (aut R tags) (blocksF (aut R tags))).2 := if_pos h
theorem minT_eq {R : List Row} {tags : List Int} (h : chk R tags = 0) : minT R tags = (minF (aut R tags) (blocksF (aut R tags))).1.map (aut R tags).tag := if_pos h
theorem min_min {R : List Row} {tags : List Int} (h : chk R tags = 0) : minR (minR R tags) (minT R tags) = minR R tags ∧ minT (minR R tags) (minT R tags) = minT R tags := by
  have hA := (chk_ok h).1
  have hm := min_chk h
  have hu := min_unique (minA_ok hA) hA (fun s => min_means hA s)
  have e := min_aut h
  exact ⟨(minR_eq hm).trans (by rw [e]; exact hu.1.trans (minR_eq h).symm), (minT_eq hm).trans (by rw [e]; exact hu.2.trans (minT_eq h).symm)⟩
theorem pkR_len (R : List Row) : (pkR R).length = R.length := by unfold pkR; simp
theorem pkR_get (R : List Row) {i : Nat} (h : i < R.length) : (pkR R)[i]'(by rw [pkR_len]; exact h) = nxL (pkD R 256) i := by unfold pkR; simp
theorem nxL_get (D : List Col) (i : Nat) {j : Nat} (h : j < D.length) : (nxL D i).getD j 0 = (D[j]).toList.getD i 0 := by
  unfold nxL
  rw [List.getD_eq_getElem?_getD, List.getElem?_map, List.getElem?_eq_getElem h]; rfl
theorem pk_cell (R : List Row) (hle : R.length ≤ 200) {i b : Nat} (hi : i < R.length) (hb : b < 256) : (nxL (pkD R 256) i).getD (pkN R b) 0 = cellF R i b := by
  have hm := pkD_mem R hb
  unfold pkN
  generalize pkD R 256 = D at *
  rw [nxL_get _ _ (idx_lt hm), idx_get (idx_lt hm), colF_get R b i hi hle]
theorem unR_get (o : Of) (N : List (List Int)) {i : Nat} (h : i < N.length) : (unR o N)[i]'(by rw [unR_len]; exact h) = Vector.ofFn fun b : Fin 256 => N[i].getD o[b] 0 := by
  unfold unR
  rw [List.getElem_map]
theorem un_pk (R : List Row) (hle : R.length ≤ 200) : unR (ofS R 256) (pkR R) = R := by
  refine List.ext_getElem (by rw [unR_len, pkR_len]) fun i h1 h2 => ?_
  have hi : i < R.length := h2
  rw [unR_get _ _ (by rw [pkR_len]; exact hi), pkR_get R hi]
  refine Vector.ext fun b hb => ?_
  rw [Vector.getElem_ofFn]
  have e : (ofS R 256)[b]'hb = pkN R b := by
    unfold ofS
    rw [Vector.getElem_ofFn]; simp [hb]
  show (nxL (pkD R 256) i).getD ((ofS R 256)[b]'hb) 0 = _
  rw [e, pk_cell R hle hi hb, cell_get hi hb]
theorem pkD_all {R : List Row} {c : Col} (h : c ∈ pkD R 256) : ∃ b, b < 256 ∧ c = colF R b := by
  unfold pkD at h
  rcases mem_firsts.1 h with h | h
  · cases h
  · obtain ⟨b, hb, rfl⟩ := List.mem_map.1 h
    exact ⟨b, by simpa using hb, rfl⟩
theorem nx_rng {R : List Row} {tags : List Int} (h : chk R tags = 0) {i : Nat} (hi : i < R.length) {x : Int} (hx : x ∈ nxL (pkD R 256) i) : -1 ≤ x ∧ x < R.length := by
  obtain ⟨hA, _⟩ := chk_ok h
  unfold nxL at hx
  obtain ⟨c, hc, rfl⟩ := List.mem_map.1 hx
  obtain ⟨b, hb, rfl⟩ := pkD_all hc
  rw [colF_get R b i hi hA.le, cell_get hi hb]
  have := hA.step i hi b hb
  rw [aut_d hi hb] at this
  exact this
theorem pk_ok {R : List Row} {tags : List Int} (h : chk R tags = 0) : PkOk (ofS R 256) (pkR R) tags (pkD R 256).length := by
  obtain ⟨hA, hl⟩ := chk_ok h
  have hle : R.length ≤ 200 := hA.le
  refine ⟨by rw [pkR_len]; exact hA.pos, by rw [pkR_len]; exact hle, by rw [pkR_len]; exact hl, List.length_pos_of_mem (pkD_mem R (show 0 < 256 by decide)), pkD_len R 256, fun i hi => ?_, fun i hi => ?_, fun i hi j hj => ?_, fun b hb => ?_⟩
  · rw [pkR_len] at hi
    rw [pkR_get R hi]
    unfold nxL; rw [List.length_map]
  · have := hA.tags i (show i < R.length by omega)
    rw [aut_tag hi] at this
    exact this
  · have hi' : i < R.length := by rw [pkR_len] at hi; exact hi
    have e := pkR_get R hi'
    have hx : (pkR R)[i][j] ∈ nxL (pkD R 256) i := e ▸ List.getElem_mem hj
    rw [pkR_len]
    exact nx_rng h hi' hx
  · have e : (ofS R 256)[b]'hb = pkN R b := by
      unfold ofS
      rw [Vector.getElem_ofFn]; simp [hb]
    rw [e]
    exact pkN_lt R hb
theorem Mem.pkM {B : Base} {w : World} {L : List Own} {i j k g : Nat} {R : List Row} {tags : List Int} {vs : Nat → Value} {vt : Value} (hm : Mem B L w) (hi : L[i]? = some (rowA 23 valV g R.length vs)) (hj : L[j]? = some (nxO R.length (pkD R 256) vs)) (hk : L[k]? = some (rowO 3 1 vt tags.length (tags.flatMap kit.intC))) : PkM w (.slice (some ⟨g, 0, none⟩) R.length R.length) vt (pkR R) tags := by
  have h1 : (rowA 23 valV g R.length vs).holds w := hm.get hi
  have h2 : (nxO R.length (pkD R 256) vs).holds w := hm.get hj
  refine ⟨⟨g, 0, R.length, vs, by rw [pkR_len], fun i hi => ?_⟩, sl_row hk _ hm⟩
  rw [pkR_len] at hi
  refine ⟨rowA_cell h1 hi, ?_⟩
  have h3 : (rowO 3 1 (vs i) (pkD R 256).length ((nxL (pkD R 256) i).flatMap kit.intC)).holds w := h2.1 i hi
  have h4 : Sl w (vs i) (pkD R 256).length ((nxL (pkD R 256) i).flatMap kit.intC) := Sl.of_own h3
  rw [pkR_get R hi, show (nxL (pkD R 256) i).length = (pkD R 256).length from List.length_map ..]
  exact h4
theorem packErr_calls (vr vt : Value) (R : List Row) (tags : List Int) (w : World) (h : DfaM w vr vt R tags) (hc : chk R tags ≠ 0) :
    Calls Try.prog 15 #[dfaV vr vt] w (Meets (ret (.tuple #[pkV (Vector.replicate 256 0) (.slice none 0 0) (.slice none 0 0), .int .i64 (chk R tags)])) w) := by
  have hck := fun w' (hg : Gr w w') => chkM_calls vr vt R tags w' (h.gr hg)
  have hb0 := build_pk0
  clear h
  generalize chk R tags = e at *
  refine enter (args := [dfaV vr vt]) (n := 91) Try.func15 rfl rfl rfl ?_
  refine T_seq (T_region (TL_box rfl rfl rfl fun g1 => ?_))
  refine TL_new rfl fun g2 => ?_
  rw [zero_pk]
  conv => arg 8; simp only [zA, zB, zC, zD, zE, zF, zG, zH, zI, rowS, ret, id_eq]
  repeat (first
    | refine qv rfl (qp rfl) rfl rfl ?_ | refine TL_nil ?_ | refine T_seq ?_ | refine T_region ?_ | refine qcT rfl ?_ | refine qcF rfl ?_ | refine T_skip ?_
    | refine T_exit ?_ | refine T_ret ?_ | refine T_block ?_ | refine E_then ?_ | refine E_thenX ?_ | refine E_thenR ?_ | refine E_blockN ?_
    | refine E_blockR ?_ | refine E_blockX ?_ | refine E_blockO rfl ?_ | refine qv rfl (rr_loadB (i := 0) TyC.ty rfl rfl rfl) rfl rfl ?_
    | refine qv rfl (qlen Und.eq rfl) rfl rfl ?_ | refine qv rfl (qfld FldC.fld rfl rfl) rfl rfl ?_ | refine qv rfl (rr_not rfl rfl) rfl rfl ?_
    | refine qv rfl (rr_lss rfl rfl (qT (by omega))) rfl rfl ?_ | refine qv rfl (rr_lss rfl rfl (qF (by omega))) rfl rfl ?_
    | refine qv rfl (rr_neq rfl rfl (qT (by omega))) rfl rfl ?_ | refine qv rfl (rr_neq rfl rfl (qF (by omega))) rfl rfl ?_
    | refine qv rfl (rr_add64 rfl rfl (by omega) (by omega) rfl) rfl rfl ?_)
  refine TL_call (he1 EntersC.en rfl rfl) (fun w hm => hck _ hm.below) rfl rfl rfl ?_
  intro _ _
  repeat (first
    | refine qv rfl (qp rfl) rfl rfl ?_ | refine TL_nil ?_ | refine T_seq ?_ | refine T_region ?_ | refine qcT rfl ?_ | refine qcF rfl ?_ | refine T_skip ?_
    | refine T_exit ?_ | refine T_ret ?_ | refine T_block ?_ | refine E_then ?_ | refine E_thenX ?_ | refine E_thenR ?_ | refine E_blockN ?_
    | refine E_blockR ?_ | refine E_blockX ?_ | refine E_blockO rfl ?_ | refine qv rfl (rr_neq (b := true) rfl rfl (decide_eq_true hc)) rfl rfl ?_
    | refine qv rfl (rr_build rfl hb0) rfl rfl ?_ | refine qv rfl (qlen Und.eq rfl) rfl rfl ?_ | refine qv rfl (qfld FldC.fld rfl rfl) rfl rfl ?_
    | refine qv rfl (rr_not rfl rfl) rfl rfl ?_ | refine qv rfl (rr_lss rfl rfl (qT (by omega))) rfl rfl ?_
    | refine qv rfl (rr_lss rfl rfl (qF (by omega))) rfl rfl ?_ | refine qv rfl (rr_neq rfl rfl (qT (by omega))) rfl rfl ?_
    | refine qv rfl (rr_neq rfl rfl (qF (by omega))) rfl rfl ?_ | refine qv rfl (rr_add64 rfl rfl (by omega) (by omega) rfl) rfl rfl ?_)
  refine TL_storeB (i := 1) (cs' := (pkC (Vector.replicate 256 0) (.slice none 0 0) (.slice none 0 0)).toArray) rfl rfl rfl (pk_size _ _ _) (pk_one _ rfl rfl) (pk_size _ _ _) ?_
  conv => arg 8; simp only [zA, zB, zC, zD, zE, zF, zG, zH, zI, rowS, ret, id_eq]
  repeat (first
    | refine qv rfl (qp rfl) rfl rfl ?_ | refine TL_nil ?_ | refine T_seq ?_ | refine T_region ?_ | refine qcT rfl ?_ | refine qcF rfl ?_ | refine T_skip ?_
    | refine T_exit ?_ | refine T_ret ?_ | refine T_block ?_ | refine E_then ?_ | refine E_thenX ?_ | refine E_thenR ?_ | refine E_blockN ?_
    | refine E_blockR ?_ | refine E_blockX ?_ | refine E_blockO rfl ?_ | refine qv rfl (qlen Und.eq rfl) rfl rfl ?_
    | refine qv rfl (qfld FldC.fld rfl rfl) rfl rfl ?_ | refine qv rfl (rr_not rfl rfl) rfl rfl ?_
    | refine qv rfl (rr_lss rfl rfl (qT (by omega))) rfl rfl ?_ | refine qv rfl (rr_lss rfl rfl (qF (by omega))) rfl rfl ?_
    | refine qv rfl (rr_neq rfl rfl (qT (by omega))) rfl rfl ?_ | refine qv rfl (rr_neq rfl rfl (qF (by omega))) rfl rfl ?_
    | refine qv rfl (rr_add64 rfl rfl (by omega) (by omega) rfl) rfl rfl ?_)
  exact E_retc2 (i := 1) rfl rfl rfl (pk_size _ _ _) rfl fun w hm => hm.ret
end Go.Proofs.Ytbiacehgfmgfdaa.eng
