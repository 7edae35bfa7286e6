/- What small.Apart computes. -/
import Derived.Test.YtbiacehgfmgfdaaSmY
import Derived.Test.YtbiacehgfmgfdaaMapE
import Derived.Test.YtbiacehgfmgfdaaBytR
namespace Go.Proofs.Ytbiacehgfmgfdaa.eng
open Go.RowKit kit mix dfaL smallL
section
variable {P : Program} {k : TypeId} {κ : Type} (K : KeyT P k κ) [DecidableEq κ]
variable {W : Base} {fr : Fr} {L : List Own} {Q : Exit → Act → World → Prop} {ops : Array Oper} {rest : List Oper} {n d : Nat} {ty : TypeId} {pos : String} {after : Array Edge} {i g b : Nat} {t e : TypeId} {f : κ → Value} {x : κ} {z v : Value} {xm xk xv : Operand}
/-- 'insert' of a map's literal -/
theorem TL_mapInsT (f' : κ → Value) (ht : P.underlying t = some (.map k e)) (hi : L[i]? = some (mapT K g z f b)) (hm : ev fr xm = some (.map (some g))) (hk : ev fr xk = some (K.kv x)) (hv : ev fr xv = some v) (hx : K.ok x) (hc : b ≤ 1152921504606846976) (hf : ∀ y, K.ok y → f' y = if y = x then v else f y)
    (h : TL P n W ops Q rest fr (L.set i (mapT K g z f' (b + 1)))) :
    TL P n W ops Q (⟨none, .insert t xm xk xv, ty, pos, after, none⟩ :: rest) fr L := TL_any rfl fun a w hr hw KK hK => by
  obtain ⟨w', hrun, ho', hg⟩ := mapT_put K ht (hw.get hi) hx hc hf
  have e1 : (execOp a.eval ⟨none, .insert t xm xk xv, ty, pos, after, none⟩).run P w = .ok .skip w' := by
    simp [execOp, hr.ev hm, hr.ev hk, hr.ev hv, hrun, Result.andThen]
  unfold Oper.wp; rw [e1]
  exact hK _ _ (h.go _ _ (hr.put_none undef) (hw.turn hi hg ho' fun q hq => .inl hq))
end
theorem wrapU8 {k : Nat} (h : k < 256) : IntKind.u8.wrap (k : Int) = (k : Int) := by
  rw [IntKind.wrap_u8]; omega
def stepC (s : Step) : List Value := [.int .i64 s.1.1, .int .i64 s.1.2, .int .i64 s.2.1, .int .u8 (s.2.2 : Int)]
theorem stepC_len (s : Step) : (stepC s).length = 4 := rfl
theorem step_pair {p : Pr} {u : Int} {k j : Nat} {v : Value} (h : (pairC p)[j]? = some v) : (stepC (p, u, k))[j]? = some v :=
  match j, h with
  | 0, h => h
  | 1, h => h
theorem build_pair (a b : Int) (w : World) : (Instr.build 62 #[(0, .int .i64 a), (1, .int .i64 b)]).run Try.prog w = .ok (pairV (a, b)) w := by kernel_rfl
theorem build_step (p : Pr) (u : Int) (k : Nat) (w : World) : (Instr.build 64 #[(0, pairV p), (1, .int .i64 u), (2, .int .u8 (k : Int))]).run Try.prog w = .ok (.agg (stepC (p, u, k)).toArray) w := by kernel_rfl
/-- how often a pair was seen -/
def cntP (cnt : Pr → Nat) : Pr → Value := fun q => .int .i64 (cnt q : Int)
structure AWay (A B : Aut) (f n : Nat) (todo : List Step) (cnt : Pr → Nat) : Prop where
  eq : apGo A B fuelA 0 [noStep] = apGo A B f n todo
  ok : TOk A B todo
  cz : ∀ q, cnt q = 0 ↔ q ∉ todo.map (·.1)
  le : ∀ q, cnt q ≤ 1 + 256 * n
  nle : n ≤ todo.length
  fuel : 40402 ≤ f + n
def cnt0 (q : Pr) : Nat := if q = (0, 0) then 1 else 0
theorem away0 {A B : Aut} (hA : A.Ok) (hB : B.Ok) : AWay A B fuelA 0 [noStep] cnt0 := by
  refine ⟨rfl, tok0 hA hB, fun q => ?_, fun q => ?_, Nat.zero_le _, Nat.le_refl _⟩
  · unfold cnt0
    simp only [List.map_singleton, List.mem_singleton, noStep]
    split <;> simp_all
  · unfold cnt0; split <;> omega
structure ARow (A B : Aut) (p : Pr) (n : Nat) (todo : List Step) (k : Nat) (cnt : Pr → Nat) : Prop where
  cz : ∀ q, cnt q = 0 ↔ q ∉ (rowT A B p n todo k).map (·.1)
  le : ∀ q, cnt q ≤ 1 + 256 * n + k
def cntUp (cnt : Pr → Nat) (q : Pr) : Pr → Nat := fun y => if y = q then cnt q + 1 else cnt y
theorem cntP_up (cnt : Pr → Nat) (q y : Pr) : cntP (cntUp cnt q) y = if y = q then .int .i64 ((cnt q + 1 : Nat) : Int) else cntP cnt y := by
  unfold cntP cntUp
  split <;> rfl
theorem arow_new {A B : Aut} {p : Pr} {n k : Nat} {todo : List Step} {cnt : Pr → Nat} (h : ARow A B p n todo k cnt) (hc : cnt (dt A p.1 k, dt B p.2 k) = 0) : rowT A B p n todo (k + 1) = rowT A B p n todo k ++ [((dt A p.1 k, dt B p.2 k), (n : Int), k)] := by
  have := (h.cz _).1 hc
  show addT _ _ = _
  unfold addT
  rw [if_neg this]
theorem arow_old {A B : Aut} {p : Pr} {n k : Nat} {todo : List Step} {cnt : Pr → Nat} (h : ARow A B p n todo k cnt) (hc : cnt (dt A p.1 k, dt B p.2 k) ≠ 0) : rowT A B p n todo (k + 1) = rowT A B p n todo k := by
  have : (dt A p.1 k, dt B p.2 k) ∈ (rowT A B p n todo k).map (·.1) := by
    have h1 := h.cz (dt A p.1 k, dt B p.2 k)
    exact Classical.byContradiction fun c => hc (h1.2 c)
  show addT _ _ = _
  unfold addT
  rw [if_pos this]
theorem arow_next {A B : Aut} {p : Pr} {n k : Nat} {todo : List Step} {cnt : Pr → Nat} (h : ARow A B p n todo k cnt) : ARow A B p n todo (k + 1) (cntUp cnt (dt A p.1 k, dt B p.2 k)) := by
  refine ⟨fun y => ?_, fun y => ?_⟩
  · by_cases hc : cnt (dt A p.1 k, dt B p.2 k) = 0
    · rw [arow_new h hc, List.map_append, List.mem_append]
      unfold cntUp
      split
      · rename_i e; subst e; simp
      · rename_i e
        rw [h.cz y]
        simp [e]
    · rw [arow_old h hc]
      unfold cntUp
      split
      · rename_i e; subst e
        have := (h.cz (dt A p.1 k, dt B p.2 k))
        simp only [Nat.add_one_ne_zero, false_iff, Classical.not_not]
        exact Classical.byContradiction fun c => hc (this.2 c)
      · exact h.cz y
  · unfold cntUp
    have h1 := h.le y
    have h2 := h.le (dt A p.1 k, dt B p.2 k)
    split <;> omega
theorem away_row {A B : Aut} {f n : Nat} {todo : List Step} {cnt : Pr → Nat} (h : AWay A B f n todo cnt) (p : Pr) : ARow A B p n todo 0 cnt := ⟨h.cz, fun q => by have := h.le q; omega⟩
theorem apGo_succ {A B : Aut} (f n : Nat) (todo : List Step) : apGo A B (f + 1) n todo = if n < todo.length then (if tg A (todo.getD n noStep).1.1 ≠ tg B (todo.getD n noStep).1.2 then (some n, todo) else apGo A B f (n + 1) (rowT A B (todo.getD n noStep).1 n todo 256)) else (none, todo) := rfl
theorem away_next {A B : Aut} (hA : A.Ok) (hB : B.Ok) {f n : Nat} {todo : List Step} {cnt cnt' : Pr → Nat} (h : AWay A B f n todo cnt) (hn : n < todo.length) (ht : tg A (todo.getD n noStep).1.1 = tg B (todo.getD n noStep).1.2) (hr : ARow A B (todo.getD n noStep).1 n todo 256 cnt') : ∃ f', f = f' + 1 ∧ AWay A B f' (n + 1) (rowT A B (todo.getD n noStep).1 n todo 256) cnt' := by
  have h1 := tok_len hA hB h.ok
  have h2 := h.fuel
  obtain ⟨f', rfl⟩ : ∃ f', f = f' + 1 := ⟨f - 1, by omega⟩
  have e := h.eq.trans (by rw [apGo_succ, if_pos hn, if_neg (by simpa using ht)])
  obtain ⟨E, hE⟩ := rowT_pre (A := A) (B := B) (todo.getD n noStep).1 n todo 256
  refine ⟨f', rfl, e, tok_row hA hB h.ok hn 256 (Nat.le_refl _), hr.cz, fun q => ?_, ?_, by omega⟩
  · have h3 := hr.le q
    have h4 : 1 + 256 * (n + 1) = 1 + 256 * n + 256 := by omega
    rw [h4]; exact h3
  rw [hE, List.length_append]; omega
theorem away_end {A B : Aut} {f n : Nat} {todo : List Step} {cnt : Pr → Nat} (h : AWay A B f n todo cnt) (hn : ¬ n < todo.length) : apF A B = none := by
  unfold apF
  rw [h.eq]
  cases f with
  | zero => rfl
  | succ f => rw [apGo_succ, if_neg hn]
theorem away_found {A B : Aut} (hA : A.Ok) (hB : B.Ok) {f n : Nat} {todo : List Step} {cnt : Pr → Nat} (h : AWay A B f n todo cnt) (hn : n < todo.length) (ht : tg A (todo.getD n noStep).1.1 ≠ tg B (todo.getD n noStep).1.2) : apF A B = some (wayB todo n).reverse := by
  have h1 := tok_len hA hB h.ok
  have h2 := h.fuel
  obtain ⟨f', rfl⟩ : ∃ f', f = f' + 1 := ⟨f - 1, by omega⟩
  unfold apF
  rw [h.eq, apGo_succ, if_pos hn, if_pos ht]
theorem way_last {A B : Aut} {todo : List Step} (h : TOk A B todo) {i : Nat} (hi : i < todo.length) : ((todo.getD i noStep).2.1 = -1 ∧ wayB todo i = []) ∨ ∃ u : Nat, (todo.getD i noStep).2.1 = (u : Int) ∧ u < i ∧ (todo.getD i noStep).2.2 < 256 ∧ wayB todo i = UInt8.ofNat (todo.getD i noStep).2.2 :: wayB todo u := by
  by_cases c : i = 0
  · subst c
    refine .inl ⟨?_, way_zero h⟩
    rw [List.getD_eq_getElem?_getD, h.head]; rfl
  · obtain ⟨u, h1, h2, h3⟩ := way_up h (by omega) hi
    obtain ⟨u', h4, h5, h6, _⟩ := h.up i (by omega) hi
    exact .inr ⟨u, h1, h2, h6, h3⟩
theorem u8v_of {k : Nat} (h : k < 256) : Value.int .u8 (k : Int) = u8v (UInt8.ofNat k) := by
  unfold u8v
  rw [u8nat h]
theorem back_len (todo : List Step) : ∀ f i, (back todo f i).length ≤ f
  | 0, _ => Nat.le_refl _
  | f + 1, i => by
    unfold back
    split
    · exact Nat.zero_le _
    · rw [List.length_cons]; have := back_len todo f (todo.getD i noStep).2.1.toNat; omega
/-- what small.Apart says -/
def apartF (R : List Row) (tags : List Int) (R' : List Row) (tags' : List Int) : List UInt8 × Bool × Int :=
  if chk R tags ≠ 0 then ([], false, chk R tags) else if chk R' tags' ≠ 0 then ([], false, chk R' tags') else match apF (aut R tags) (aut R' tags') with
    | some s => (s, true, 0)
    | none => ([], false, 0)
theorem apart_some {R R' : List Row} {tags tags' : List Int} {s : List UInt8} (h : chk R tags = 0) (h' : chk R' tags' = 0) (e : apF (aut R tags) (aut R' tags') = some s) : apartF R tags R' tags' = (s, true, 0) := by
  unfold apartF
  rw [if_neg (by simpa using h), if_neg (by simpa using h'), e]
theorem apart_none {R R' : List Row} {tags tags' : List Int} (h : chk R tags = 0) (h' : chk R' tags' = 0) (e : apF (aut R tags) (aut R' tags') = none) : apartF R tags R' tags' = ([], false, 0) := by
  unfold apartF
  rw [if_neg (by simpa using h), if_neg (by simpa using h'), e]
set_option maxRecDepth 100000 in
set_option maxHeartbeats 8000000 in
theorem apart_calls (vr vt : Value) (R : List Row) (tags : List Int) (vr' vt' : Value) (R' : List Row) (tags' : List Int) (w : World) (h : DfaM w vr vt R tags) (h' : DfaM w vr' vt' R' tags') :
    Calls Try.prog 9 #[dfaV vr vt, dfaV vr' vt'] w (Meets (ret (.tuple #[str (apartF R tags R' tags').1, .bool (apartF R tags R' tags').2.1, .int .i64 (apartF R tags R' tags').2.2])) w) := by
  have hck := fun w' (hg : Gr w w') => chkM_calls vr vt R tags w' (h.gr hg)
  have hck' := fun w' (hg : Gr w w') => chkM_calls vr' vt' R' tags' w' (h'.gr hg)
  by_cases hc : chk R tags = 0
  · by_cases hc' : chk R' tags' = 0
    · rw [hc] at hck
      rw [hc'] at hck'
      obtain ⟨hA, hlt⟩ := chk_ok hc
      obtain ⟨hB, hlt'⟩ := chk_ok hc'
      have htg := fun q w' (hg : Gr w w') hq => smTag_calls vr vt R tags q w' (h.gr hg) hlt hq
      have htg' := fun q w' (hg : Gr w w') hq => smTag_calls vr' vt' R' tags' q w' (h'.gr hg) hlt' hq
      have hto := fun q b w' (hg : Gr w w') hq hb => smTo_calls vr vt R tags q b w' (h.gr hg) hq hb
      have hto' := fun q b w' (hg : Gr w w') hq hb => smTo_calls vr' vt' R' tags' q b w' (h'.gr hg) hq hb
      have hsome := fun s => apart_some (s := s) hc hc'
      have hnone := apart_none hc hc'
      have hnA : (aut R tags).n ≤ 200 := hA.le
      have hnB : (aut R' tags').n ≤ 200 := hB.le
      clear h h' hlt hlt' hc hc'
      generalize aut R tags = A at *
      generalize aut R' tags' = B at *
      generalize apartF R tags R' tags' = RES at *
      refine enter (args := [dfaV vr vt, dfaV vr' vt']) (n := 110) Try.func9 rfl rfl rfl ?_
      refine T_seq (T_region (TL_box rfl rfl rfl fun g2 => ?_))
      refine TL_box rfl rfl rfl fun g3 => ?_
      conv => arg 8; simp only [zA, zB, zC, zD, zE, zF, zG, zH, zI, rowS, ret, id_eq]
      have hbp := build_pair
      have hbs := build_step
      repeat (first
        | refine qv rfl (qp rfl) rfl rfl ?_ | refine TL_nil ?_ | refine T_seq ?_ | refine T_region ?_ | refine qcT rfl ?_ | refine qcF rfl ?_ | refine T_skip ?_
        | refine T_exit ?_ | refine T_ret ?_ | refine T_block ?_ | refine E_then ?_ | refine E_thenX ?_ | refine E_thenR ?_ | refine E_blockN ?_
        | refine E_blockR ?_ | refine E_blockX ?_ | refine E_blockO rfl ?_ | refine qv rfl (rr_loadB (i := 0) TyC.ty rfl rfl rfl) rfl rfl ?_
        | refine qv rfl (qlen Und.eq rfl) rfl rfl ?_ | refine qv rfl (qfld FldC.fld rfl rfl) rfl rfl ?_
        | refine qv rfl (rr_lss rfl rfl (qT (by omega))) rfl rfl ?_ | refine qv rfl (rr_lss rfl rfl (qF (by omega))) rfl rfl ?_
        | refine qv rfl (rr_geq rfl rfl (qT (by omega))) rfl rfl ?_ | refine qv rfl (rr_geq rfl rfl (qF (by omega))) rfl rfl ?_
        | refine qv rfl (rr_eql rfl rfl (qT (by omega))) rfl rfl ?_ | refine qv rfl (rr_eql rfl rfl (qF (by omega))) rfl rfl ?_
        | refine qv rfl (rr_neq rfl rfl (qT (by omega))) rfl rfl ?_ | refine qv rfl (rr_neq rfl rfl (qF (by omega))) rfl rfl ?_
        | refine qv rfl (rr_add64 rfl rfl (by omega) (by omega) rfl) rfl rfl ?_)
      refine TL_call (he1 EntersC.en rfl rfl) (fun w hm => hck _ hm.below) rfl rfl rfl ?_
      intro _ _
      repeat (first
        | refine qv rfl (qp rfl) rfl rfl ?_ | refine TL_nil ?_ | refine T_seq ?_ | refine T_region ?_ | refine qcT rfl ?_ | refine qcF rfl ?_ | refine T_skip ?_
        | refine T_exit ?_ | refine T_ret ?_ | refine T_block ?_ | refine E_then ?_ | refine E_thenX ?_ | refine E_thenR ?_ | refine E_blockN ?_
        | refine E_blockR ?_ | refine E_blockX ?_ | refine E_blockO rfl ?_ | refine qv rfl (rr_loadB (i := 1) TyC.ty rfl rfl rfl) rfl rfl ?_
        | refine qv rfl (qlen Und.eq rfl) rfl rfl ?_ | refine qv rfl (qfld FldC.fld rfl rfl) rfl rfl ?_
        | refine qv rfl (rr_lss rfl rfl (qT (by omega))) rfl rfl ?_ | refine qv rfl (rr_lss rfl rfl (qF (by omega))) rfl rfl ?_
        | refine qv rfl (rr_geq rfl rfl (qT (by omega))) rfl rfl ?_ | refine qv rfl (rr_geq rfl rfl (qF (by omega))) rfl rfl ?_
        | refine qv rfl (rr_eql rfl rfl (qT (by omega))) rfl rfl ?_ | refine qv rfl (rr_eql rfl rfl (qF (by omega))) rfl rfl ?_
        | refine qv rfl (rr_neq rfl rfl (qT (by omega))) rfl rfl ?_ | refine qv rfl (rr_neq rfl rfl (qF (by omega))) rfl rfl ?_
        | refine qv rfl (rr_add64 rfl rfl (by omega) (by omega) rfl) rfl rfl ?_)
      refine TL_call (he1 EntersC.en rfl rfl) (fun w hm => hck' _ hm.below) rfl rfl rfl ?_
      intro _ _
      repeat (first
        | refine qv rfl (qp rfl) rfl rfl ?_ | refine TL_nil ?_ | refine T_seq ?_ | refine T_region ?_ | refine qcT rfl ?_ | refine qcF rfl ?_ | refine T_skip ?_
        | refine T_exit ?_ | refine T_ret ?_ | refine T_block ?_ | refine E_then ?_ | refine E_thenX ?_ | refine E_thenR ?_ | refine E_blockN ?_
        | refine E_blockR ?_ | refine E_blockX ?_ | refine E_blockO rfl ?_ | refine qv rfl (rr_build rfl (hbp 0 0)) rfl rfl ?_
        | refine qv rfl (rr_build rfl (hbs (0, 0) (-1) 0)) rfl rfl ?_ | refine qv rfl (qlen Und.eq rfl) rfl rfl ?_
        | refine qv rfl (qfld FldC.fld rfl rfl) rfl rfl ?_ | refine qv rfl (rr_lss rfl rfl (qT (by omega))) rfl rfl ?_
        | refine qv rfl (rr_lss rfl rfl (qF (by omega))) rfl rfl ?_ | refine qv rfl (rr_geq rfl rfl (qT (by omega))) rfl rfl ?_
        | refine qv rfl (rr_geq rfl rfl (qF (by omega))) rfl rfl ?_ | refine qv rfl (rr_eql rfl rfl (qT (by omega))) rfl rfl ?_
        | refine qv rfl (rr_eql rfl rfl (qF (by omega))) rfl rfl ?_ | refine qv rfl (rr_neq rfl rfl (qT (by omega))) rfl rfl ?_
        | refine qv rfl (rr_neq rfl rfl (qF (by omega))) rfl rfl ?_ | refine qv rfl (rr_add64 rfl rfl (by omega) (by omega) rfl) rfl rfl ?_)
      refine TL_one rfl rfl rfl rfl rfl fun g9 => ?_
      conv => arg 8; simp only [zA, zB, zC, zD, zE, zF, zG, zH, zI, rowS, ret, id_eq]
      refine TL_toRow (i := 2) (m := 1) 4 rfl rfl (by decide) ?_
      conv => arg 8; simp only [zA, zB, zC, zD, zE, zF, zG, zH, zI, rowS, ret, id_eq]
      repeat (first
        | refine qv rfl (qp rfl) rfl rfl ?_ | refine TL_nil ?_ | refine T_seq ?_ | refine T_region ?_ | refine qcT rfl ?_ | refine qcF rfl ?_ | refine T_skip ?_
        | refine T_exit ?_ | refine T_ret ?_ | refine T_block ?_ | refine E_then ?_ | refine E_thenX ?_ | refine E_thenR ?_ | refine E_blockN ?_
        | refine E_blockR ?_ | refine E_blockX ?_ | refine E_blockO rfl ?_ | refine qv rfl (qlen Und.eq rfl) rfl rfl ?_
        | refine qv rfl (qfld FldC.fld rfl rfl) rfl rfl ?_ | refine qv rfl (rr_lss rfl rfl (qT (by omega))) rfl rfl ?_
        | refine qv rfl (rr_lss rfl rfl (qF (by omega))) rfl rfl ?_ | refine qv rfl (rr_geq rfl rfl (qT (by omega))) rfl rfl ?_
        | refine qv rfl (rr_geq rfl rfl (qF (by omega))) rfl rfl ?_ | refine qv rfl (rr_eql rfl rfl (qT (by omega))) rfl rfl ?_
        | refine qv rfl (rr_eql rfl rfl (qF (by omega))) rfl rfl ?_ | refine qv rfl (rr_neq rfl rfl (qT (by omega))) rfl rfl ?_
        | refine qv rfl (rr_neq rfl rfl (qF (by omega))) rfl rfl ?_ | refine qv rfl (rr_add64 rfl rfl (by omega) (by omega) rfl) rfl rfl ?_)
      refine TL_mapT pairK (z := .int .i64 0) rfl fun g10 => ?_
      conv => arg 8; simp only [zA, zB, zC, zD, zE, zF, zG, zH, zI, rowS, ret, id_eq]
      repeat (first
        | refine qv rfl (qp rfl) rfl rfl ?_ | refine TL_nil ?_ | refine T_seq ?_ | refine T_region ?_ | refine qcT rfl ?_ | refine qcF rfl ?_ | refine T_skip ?_
        | refine T_exit ?_ | refine T_ret ?_ | refine T_block ?_ | refine E_then ?_ | refine E_thenX ?_ | refine E_thenR ?_ | refine E_blockN ?_
        | refine E_blockR ?_ | refine E_blockX ?_ | refine E_blockO rfl ?_ | refine qv rfl (rr_build rfl (hbp 0 0)) rfl rfl ?_
        | refine qv rfl (qlen Und.eq rfl) rfl rfl ?_ | refine qv rfl (qfld FldC.fld rfl rfl) rfl rfl ?_
        | refine qv rfl (rr_lss rfl rfl (qT (by omega))) rfl rfl ?_ | refine qv rfl (rr_lss rfl rfl (qF (by omega))) rfl rfl ?_
        | refine qv rfl (rr_geq rfl rfl (qT (by omega))) rfl rfl ?_ | refine qv rfl (rr_geq rfl rfl (qF (by omega))) rfl rfl ?_
        | refine qv rfl (rr_eql rfl rfl (qT (by omega))) rfl rfl ?_ | refine qv rfl (rr_eql rfl rfl (qF (by omega))) rfl rfl ?_
        | refine qv rfl (rr_neq rfl rfl (qT (by omega))) rfl rfl ?_ | refine qv rfl (rr_neq rfl rfl (qF (by omega))) rfl rfl ?_
        | refine qv rfl (rr_add64 rfl rfl (by omega) (by omega) rfl) rfl rfl ?_)
      refine TL_mapInsT pairK (i := 3) (x := (0, 0)) (cntP cnt0) Und.eq rfl rfl rfl rfl ⟨⟨by decide, by decide⟩, by decide, by decide⟩ (by decide) (fun y _ => by unfold cntP cnt0; split <;> rfl) ?_
      conv => arg 8; simp only [zA, zB, zC, zD, zE, zF, zG, zH, zI, rowS, ret, id_eq]
      repeat (first
        | refine qv rfl (qp rfl) rfl rfl ?_ | refine TL_nil ?_ | refine T_seq ?_ | refine T_region ?_ | refine qcT rfl ?_ | refine qcF rfl ?_ | refine T_skip ?_
        | refine T_exit ?_ | refine T_ret ?_ | refine T_block ?_ | refine E_then ?_ | refine E_thenX ?_ | refine E_thenR ?_ | refine E_blockN ?_
        | refine E_blockR ?_ | refine E_blockX ?_ | refine E_blockO rfl ?_ | refine qv rfl (qlen Und.eq rfl) rfl rfl ?_
        | refine qv rfl (qfld FldC.fld rfl rfl) rfl rfl ?_ | refine qv rfl (rr_lss rfl rfl (qT (by omega))) rfl rfl ?_
        | refine qv rfl (rr_lss rfl rfl (qF (by omega))) rfl rfl ?_ | refine qv rfl (rr_geq rfl rfl (qT (by omega))) rfl rfl ?_
        | refine qv rfl (rr_geq rfl rfl (qF (by omega))) rfl rfl ?_ | refine qv rfl (rr_eql rfl rfl (qT (by omega))) rfl rfl ?_
        | refine qv rfl (rr_eql rfl rfl (qF (by omega))) rfl rfl ?_ | refine qv rfl (rr_neq rfl rfl (qT (by omega))) rfl rfl ?_
        | refine qv rfl (rr_neq rfl rfl (qF (by omega))) rfl rfl ?_ | refine qv rfl (rr_add64 rfl rfl (by omega) (by omega) rfl) rfl rfl ?_)
      have hstart := away0 hA hB
      refine T_loop (ι := Nat × Nat × List Step × (Pr → Nat) × Nat × Value) (fun (f, n, todo, cnt, b, _) => AWay A B f n todo cnt ∧ b ≤ 1 + 512 * n) (fun (_, n, _, _, _, v) => [(2, .pointer (some ⟨g2, 0, none⟩)), (3, .pointer (some ⟨g3, 0, none⟩)), (9, v), (10, .map (some g10)), (11, .int .i64 (n : Int))])
        (fun (_, _, todo, cnt, b, v) => [blkO g2 (dfaV vr vt).cells 25, blkO g3 (dfaV vr' vt').cells 25, rowO 64 4 v todo.length (todo.flatMap stepC), mapT pairK g10 (.int .i64 0) (cntP cnt) b]) (fun (f, _) => f) (fuelA, 0, [noStep], cnt0, 1, .slice (some ⟨g9, 0, none⟩) 1 1) ⟨hstart, by decide⟩ (by repeat' (first | exact True.intro | refine And.intro rfl ?_)) rfl ?_
      rintro ⟨f, n, todo, cnt, b, v⟩ ⟨hw, hb⟩
      dsimp only at hw hb ⊢
      clear hstart
      have hlen := tok_len hA hB hw.ok
      by_cases c1 : n < todo.length
      · have hst := hw.ok.st _ (getD_memT c1)
        have hsn : todo[n] = todo.getD n noStep := by rw [List.getD_eq_getElem?_getD, List.getElem?_eq_getElem c1]; rfl
        have hfound := away_found hA hB hw c1
        have hnext := fun cnt' => away_next (cnt' := cnt') hA hB hw c1
        have hrow0 := away_row hw (todo.getD n noStep).1
        have htok := fun k hk => tok_len hA hB (tok_row hA hB hw.ok c1 k hk)
        have hpre := fun k => rowT_pre (A := A) (B := B) (todo.getD n noStep).1 n todo k
        have hok := hw.ok
        clear hw hnone
        repeat (first
          | refine qv rfl (qp rfl) rfl rfl ?_ | refine TL_nil ?_ | refine T_seq ?_ | refine T_region ?_ | refine qcT rfl ?_ | refine qcF rfl ?_ | refine T_skip ?_
          | refine T_exit ?_ | refine T_ret ?_ | refine T_block ?_ | refine E_then ?_ | refine E_thenX ?_ | refine E_thenR ?_ | refine E_blockN ?_
          | refine E_blockR ?_ | refine E_blockX ?_ | refine E_blockO rfl ?_ | refine qv rfl (rr_rowlen (i := 2) Und.eq rfl rfl) rfl rfl ?_
          | refine qv rfl (qlen Und.eq rfl) rfl rfl ?_ | refine qv rfl (qfld FldC.fld rfl rfl) rfl rfl ?_
          | refine qv rfl (rr_lss rfl rfl (qT (by omega))) rfl rfl ?_ | refine qv rfl (rr_lss rfl rfl (qF (by omega))) rfl rfl ?_
          | refine qv rfl (rr_geq rfl rfl (qT (by omega))) rfl rfl ?_ | refine qv rfl (rr_geq rfl rfl (qF (by omega))) rfl rfl ?_
          | refine qv rfl (rr_eql rfl rfl (qT (by omega))) rfl rfl ?_ | refine qv rfl (rr_eql rfl rfl (qF (by omega))) rfl rfl ?_
          | refine qv rfl (rr_neq rfl rfl (qT (by omega))) rfl rfl ?_ | refine qv rfl (rr_neq rfl rfl (qF (by omega))) rfl rfl ?_
          | refine qv rfl (rr_add64 rfl rfl (by omega) (by omega) rfl) rfl rfl ?_)
        refine TL_rowN (i := 2) rfl (by omega) fun gT cT hv hcT hcT2 => ?_
        subst hv
        have hat := fun (L : List Own) hi => at_rowel (W := w) (L := L) (i := 2) (g := gT) (m := todo.length) (cap := cT) (n := todo.length) (size := 4) (e := 64) stepC_len hi c1
        rw [hsn] at hat
        generalize hs : todo.getD n noStep = s at *
        obtain ⟨p, u, by_⟩ := s
        repeat (first
          | refine qv rfl (qp rfl) rfl rfl ?_ | refine TL_nil ?_ | refine T_seq ?_ | refine T_region ?_ | refine qcT rfl ?_ | refine qcF rfl ?_ | refine T_skip ?_
          | refine T_exit ?_ | refine T_ret ?_ | refine T_block ?_ | refine E_then ?_ | refine E_thenX ?_ | refine E_thenR ?_ | refine E_blockN ?_
          | refine E_blockR ?_ | refine E_blockX ?_ | refine E_blockO rfl ?_ | refine qv rfl (rr_idxc Und.eq TyC.ty rfl rfl c1) rfl rfl ?_
          | refine qv rfl (rr_loadN (cs := pairC p) TyC.ty rfl rfl (fun j v hj => hat _ rfl j v (step_pair hj))) rfl rfl ?_
          | refine qv rfl (qlen Und.eq rfl) rfl rfl ?_ | refine qv rfl (qfld FldC.fld rfl rfl) rfl rfl ?_
          | refine qv rfl (rr_lss rfl rfl (qT (by omega))) rfl rfl ?_ | refine qv rfl (rr_lss rfl rfl (qF (by omega))) rfl rfl ?_
          | refine qv rfl (rr_geq rfl rfl (qT (by omega))) rfl rfl ?_ | refine qv rfl (rr_geq rfl rfl (qF (by omega))) rfl rfl ?_
          | refine qv rfl (rr_eql rfl rfl (qT (by omega))) rfl rfl ?_ | refine qv rfl (rr_eql rfl rfl (qF (by omega))) rfl rfl ?_
          | refine qv rfl (rr_neq rfl rfl (qT (by omega))) rfl rfl ?_ | refine qv rfl (rr_neq rfl rfl (qF (by omega))) rfl rfl ?_
          | refine qv rfl (rr_add64 rfl rfl (by omega) (by omega) rfl) rfl rfl ?_)
        refine TL_new rfl fun g12 => ?_
        conv => arg 8; simp only [zA, zB, zC, zD, zE, zF, zG, zH, zI, rowS, ret, id_eq]
        refine TL_storeB (i := 4) (cs' := (pairC p).toArray) rfl rfl rfl rfl rfl rfl ?_
        conv => arg 8; simp only [zA, zB, zC, zD, zE, zF, zG, zH, zI, rowS, ret, id_eq]
        have htg1 := fun w' (hg : Gr w w') => htg p.1 w' hg hst.1
        have htg2 := fun w' (hg : Gr w w') => htg' p.2 w' hg hst.2
        dsimp only at hfound hnext hrow0 htok hst hpre
        by_cases c2 : tg A p.1 = tg B p.2
        · repeat (first
            | refine qv rfl (qp rfl) rfl rfl ?_ | refine TL_nil ?_ | refine T_seq ?_ | refine T_region ?_ | refine qcT rfl ?_ | refine qcF rfl ?_ | refine T_skip ?_
            | refine T_exit ?_ | refine T_ret ?_ | refine T_block ?_ | refine E_then ?_ | refine E_thenX ?_ | refine E_thenR ?_ | refine E_blockN ?_
            | refine E_blockR ?_ | refine E_blockX ?_ | refine E_blockO rfl ?_ | refine qv rfl (qlen Und.eq rfl) rfl rfl ?_
            | refine qv rfl (qfld FldC.fld rfl rfl) rfl rfl ?_ | refine qv rfl (rr_lss rfl rfl (qT (by omega))) rfl rfl ?_
            | refine qv rfl (rr_lss rfl rfl (qF (by omega))) rfl rfl ?_ | refine qv rfl (rr_geq rfl rfl (qT (by omega))) rfl rfl ?_
            | refine qv rfl (rr_geq rfl rfl (qF (by omega))) rfl rfl ?_ | refine qv rfl (rr_eql rfl rfl (qT (by omega))) rfl rfl ?_
            | refine qv rfl (rr_eql rfl rfl (qF (by omega))) rfl rfl ?_ | refine qv rfl (rr_neq rfl rfl (qT (by omega))) rfl rfl ?_
            | refine qv rfl (rr_neq rfl rfl (qF (by omega))) rfl rfl ?_ | refine qv rfl (rr_add64 rfl rfl (by omega) (by omega) rfl) rfl rfl ?_)
          (repeat refine T_seq ?_)
          refine T_ord ([blkO g2 (dfaV vr vt).cells 25, blkO g3 (dfaV vr' vt').cells 25, blkO g12 (pairC p).toArray 62]) (.calm 0 (.calm 1 (.calm 2 (.calm 3 (.calm 4 (.calm 5 (.calm 6 (.calm 7 (.calm 8 (.done)))))))))) (sub_pick [0, 1, 4] (by decide) rfl) (by kernel_rfl) (by kernel_rfl) (by intro c a d v w h; cases d <;> exact h) ?_
          repeat (first
            | ((first | refine TW_plain rfl rfl ?_ | refine TW_gmet rfl rfl rfl rfl ?_); first | refine TN_val (qp rfl) rfl rfl ?_ | refine TN_val (rr_loadB (i := 0) TyC.ty rfl rfl rfl) rfl rfl ?_ | refine TN_val (rr_loadB (i := 1) TyC.ty rfl rfl rfl) rfl rfl ?_ | refine TN_val (rr_load1 TyC.ty rfl (at_blk (i := 2) rfl rfl)) rfl rfl ?_ | refine TN_val (qlen Und.eq rfl) rfl rfl ?_ | refine TN_val (qfld FldC.fld rfl rfl) rfl rfl ?_ | refine TN_val (rr_lss rfl rfl (qT (by omega))) rfl rfl ?_ | refine TN_val (rr_lss rfl rfl (qF (by omega))) rfl rfl ?_ | refine TN_val (rr_geq rfl rfl (qT (by omega))) rfl rfl ?_ | refine TN_val (rr_geq rfl rfl (qF (by omega))) rfl rfl ?_ | refine TN_val (rr_eql rfl rfl (qT (by omega))) rfl rfl ?_ | refine TN_val (rr_eql rfl rfl (qF (by omega))) rfl rfl ?_ | refine TN_val (rr_neq rfl rfl (qT (by omega))) rfl rfl ?_ | refine TN_val (rr_neq rfl rfl (qF (by omega))) rfl rfl ?_ | refine TN_val (rr_add64 rfl rfl (by omega) (by omega) rfl) rfl rfl ?_)
            | refine TW_done ?_)
          refine TW_call rfl (he2 EntersC.en rfl rfl rfl) (fun w hm => htg1 _ hm.below) rfl rfl rfl ?_
          repeat (first
            | ((first | refine TW_plain rfl rfl ?_ | refine TW_gmet rfl rfl rfl rfl ?_); first | refine TN_val (qp rfl) rfl rfl ?_ | refine TN_val (rr_loadB (i := 1) TyC.ty rfl rfl rfl) rfl rfl ?_ | refine TN_val (rr_load1 TyC.ty rfl (at_blk (i := 2) rfl rfl)) rfl rfl ?_ | refine TN_val (qlen Und.eq rfl) rfl rfl ?_ | refine TN_val (qfld FldC.fld rfl rfl) rfl rfl ?_ | refine TN_val (rr_lss rfl rfl (qT (by omega))) rfl rfl ?_ | refine TN_val (rr_lss rfl rfl (qF (by omega))) rfl rfl ?_ | refine TN_val (rr_geq rfl rfl (qT (by omega))) rfl rfl ?_ | refine TN_val (rr_geq rfl rfl (qF (by omega))) rfl rfl ?_ | refine TN_val (rr_eql rfl rfl (qT (by omega))) rfl rfl ?_ | refine TN_val (rr_eql rfl rfl (qF (by omega))) rfl rfl ?_ | refine TN_val (rr_neq rfl rfl (qT (by omega))) rfl rfl ?_ | refine TN_val (rr_neq rfl rfl (qF (by omega))) rfl rfl ?_ | refine TN_val (rr_add64 rfl rfl (by omega) (by omega) rfl) rfl rfl ?_)
            | refine TW_done ?_)
          refine TW_call rfl (he2 EntersC.en rfl rfl rfl) (fun w hm => htg2 _ hm.below) rfl rfl rfl ?_
          repeat (first
            | ((first | refine TW_plain rfl rfl ?_ | refine TW_gmet rfl rfl rfl rfl ?_); first | refine TN_val (qp rfl) rfl rfl ?_ | refine TN_val (rr_neq (b := false) rfl rfl (decide_eq_false (fun h => h c2))) rfl rfl ?_ | refine TN_val (qlen Und.eq rfl) rfl rfl ?_ | refine TN_val (qfld FldC.fld rfl rfl) rfl rfl ?_ | refine TN_val (rr_lss rfl rfl (qT (by omega))) rfl rfl ?_ | refine TN_val (rr_lss rfl rfl (qF (by omega))) rfl rfl ?_ | refine TN_val (rr_geq rfl rfl (qT (by omega))) rfl rfl ?_ | refine TN_val (rr_geq rfl rfl (qF (by omega))) rfl rfl ?_ | refine TN_val (rr_eql rfl rfl (qT (by omega))) rfl rfl ?_ | refine TN_val (rr_eql rfl rfl (qF (by omega))) rfl rfl ?_ | refine TN_val (rr_neq rfl rfl (qT (by omega))) rfl rfl ?_ | refine TN_val (rr_neq rfl rfl (qF (by omega))) rfl rfl ?_ | refine TN_val (rr_add64 rfl rfl (by omega) (by omega) rfl) rfl rfl ?_)
            | refine TW_done ?_)
          repeat (first
            | refine qv rfl (qp rfl) rfl rfl ?_ | refine TL_nil ?_ | refine T_seq ?_ | refine T_region ?_ | refine qcT rfl ?_ | refine qcF rfl ?_ | refine T_skip ?_
            | refine T_exit ?_ | refine T_ret ?_ | refine T_block ?_ | refine E_then ?_ | refine E_thenX ?_ | refine E_thenR ?_ | refine E_blockN ?_
            | refine E_blockR ?_ | refine E_blockX ?_ | refine E_blockO rfl ?_ | refine qv rfl (qlen Und.eq rfl) rfl rfl ?_
            | refine qv rfl (qfld FldC.fld rfl rfl) rfl rfl ?_ | refine qv rfl (rr_lss rfl rfl (qT (by omega))) rfl rfl ?_
            | refine qv rfl (rr_lss rfl rfl (qF (by omega))) rfl rfl ?_ | refine qv rfl (rr_geq rfl rfl (qT (by omega))) rfl rfl ?_
            | refine qv rfl (rr_geq rfl rfl (qF (by omega))) rfl rfl ?_ | refine qv rfl (rr_eql rfl rfl (qT (by omega))) rfl rfl ?_
            | refine qv rfl (rr_eql rfl rfl (qF (by omega))) rfl rfl ?_ | refine qv rfl (rr_neq rfl rfl (qT (by omega))) rfl rfl ?_
            | refine qv rfl (rr_neq rfl rfl (qF (by omega))) rfl rfl ?_ | refine qv rfl (rr_add64 rfl rfl (by omega) (by omega) rfl) rfl rfl ?_)
          refine T_loop (ι := Nat × (Pr → Nat) × Nat × Value) (fun (k, cnt, b, _) => k ≤ 256 ∧ ARow A B p n todo k cnt ∧ b ≤ 1 + 512 * n + 2 * k) (fun (k, _, _, v) => [(2, .pointer (some ⟨g2, 0, none⟩)), (3, .pointer (some ⟨g3, 0, none⟩)), (9, v), (10, .map (some g10)), (11, .int .i64 (n : Int)), (12, .pointer (some ⟨g12, 0, none⟩)), (77, .int .i64 (k : Int))])
            (fun (k, cnt, b, v) => [blkO g2 (dfaV vr vt).cells 25, blkO g3 (dfaV vr' vt').cells 25, rowO 64 4 v (rowT A B p n todo k).length ((rowT A B p n todo k).flatMap stepC), mapT pairK g10 (.int .i64 0) (cntP cnt) b, blkO g12 (pairC p).toArray 62]) (fun (k, _) => 256 - k) (0, cnt, b, .slice (some ⟨gT, 0, none⟩) todo.length cT) ⟨Nat.zero_le _, hrow0, by omega⟩ (by repeat' (first | exact True.intro | refine And.intro rfl ?_)) rfl ?_
          rintro ⟨k, cnt, b, v⟩ ⟨hk, hrow, hb⟩
          dsimp only at hk hrow hb ⊢
          clear hrow0
          by_cases c3 : k < 256
          · have hnew := arow_new hrow
            have hold := arow_old hrow
            have hnx := arow_next hrow
            have hle := hrow.le (dt A p.1 k, dt B p.2 k)
            have htl := htok (k + 1) (by omega)
            have hs1 := st_dt hA hst.1 c3
            have hs2 := st_dt hB hst.2 c3
            have hkey : kit.okI64 (dt A p.1 k) ∧ kit.okI64 (dt B p.2 k) := by
              unfold St at hs1 hs2
              exact ⟨⟨by omega, by omega⟩, by omega, by omega⟩
            have hto1 := fun w' (hg : Gr w w') => hto p.1 k w' hg hst.1 c3
            have hto2 := fun w' (hg : Gr w w') => hto' p.2 k w' hg hst.2 c3
            have hup := cntP_up cnt (dt A p.1 k, dt B p.2 k)
            clear hrow
            generalize dt A p.1 k = x at *
            generalize dt B p.2 k = y at *
            generalize hX : rowT A B p n todo k = X at *
            repeat (first
              | refine qv rfl (qp rfl) rfl rfl ?_ | refine TL_nil ?_ | refine T_seq ?_ | refine T_region ?_ | refine qcT rfl ?_ | refine qcF rfl ?_ | refine T_skip ?_
              | refine T_exit ?_ | refine T_ret ?_ | refine T_block ?_ | refine E_then ?_ | refine E_thenX ?_ | refine E_thenR ?_ | refine E_blockN ?_
              | refine E_blockR ?_ | refine E_blockX ?_ | refine E_blockO rfl ?_ | refine qv rfl (qlen Und.eq rfl) rfl rfl ?_
              | refine qv rfl (qfld FldC.fld rfl rfl) rfl rfl ?_ | refine qv rfl (rr_lss rfl rfl (qT (by omega))) rfl rfl ?_
              | refine qv rfl (rr_lss rfl rfl (qF (by omega))) rfl rfl ?_ | refine qv rfl (rr_geq rfl rfl (qT (by omega))) rfl rfl ?_
              | refine qv rfl (rr_geq rfl rfl (qF (by omega))) rfl rfl ?_ | refine qv rfl (rr_eql rfl rfl (qT (by omega))) rfl rfl ?_
              | refine qv rfl (rr_eql rfl rfl (qF (by omega))) rfl rfl ?_ | refine qv rfl (rr_neq rfl rfl (qT (by omega))) rfl rfl ?_
              | refine qv rfl (rr_neq rfl rfl (qF (by omega))) rfl rfl ?_ | refine qv rfl (rr_add64 rfl rfl (by omega) (by omega) rfl) rfl rfl ?_)
            (repeat refine T_seq ?_)
            refine T_ord ([blkO g2 (dfaV vr vt).cells 25, blkO g3 (dfaV vr' vt').cells 25, blkO g12 (pairC p).toArray 62]) (.calm 0 (.calm 1 (.calm 2 (.calm 3 (.calm 4 (.calm 5 (.calm 6 (.calm 7 (.calm 8 (.calm 9 (.calm 10 (.one 11 (.one 12 (.done)))))))))))))) (sub_pick [0, 1, 4] (by decide) rfl) (by kernel_rfl) (by kernel_rfl) (by intro c a d v w h; cases d <;> exact h) ?_
            repeat (first
              | ((first | refine TW_plain rfl rfl ?_ | refine TW_gmet rfl rfl rfl rfl ?_); first | refine TN_val (qp rfl) rfl rfl ?_ | refine TN_val (rr_loadB (i := 0) TyC.ty rfl rfl rfl) rfl rfl ?_ | refine TN_val (rr_load1 TyC.ty rfl (at_blk (i := 2) rfl rfl)) rfl rfl ?_ | refine TN_val (qlen Und.eq rfl) rfl rfl ?_ | refine TN_val (qfld FldC.fld rfl rfl) rfl rfl ?_ | refine TN_val (rr_lss rfl rfl (qT (by omega))) rfl rfl ?_ | refine TN_val (rr_lss rfl rfl (qF (by omega))) rfl rfl ?_ | refine TN_val (rr_geq rfl rfl (qT (by omega))) rfl rfl ?_ | refine TN_val (rr_geq rfl rfl (qF (by omega))) rfl rfl ?_ | refine TN_val (rr_eql rfl rfl (qT (by omega))) rfl rfl ?_ | refine TN_val (rr_eql rfl rfl (qF (by omega))) rfl rfl ?_ | refine TN_val (rr_neq rfl rfl (qT (by omega))) rfl rfl ?_ | refine TN_val (rr_neq rfl rfl (qF (by omega))) rfl rfl ?_ | refine TN_val (rr_add64 rfl rfl (by omega) (by omega) rfl) rfl rfl ?_)
              | refine TW_done ?_)
            refine TW_call rfl (he3 EntersC.en rfl rfl rfl rfl) (fun w hm => hto1 _ hm.below) rfl rfl rfl ?_
            repeat (first
              | ((first | refine TW_plain rfl rfl ?_ | refine TW_gmet rfl rfl rfl rfl ?_); first | refine TN_val (qp rfl) rfl rfl ?_ | refine TN_val (rr_loadB (i := 1) TyC.ty rfl rfl rfl) rfl rfl ?_ | refine TN_val (rr_load1 TyC.ty rfl (at_blk (i := 2) rfl rfl)) rfl rfl ?_ | refine TN_val (qlen Und.eq rfl) rfl rfl ?_ | refine TN_val (qfld FldC.fld rfl rfl) rfl rfl ?_ | refine TN_val (rr_lss rfl rfl (qT (by omega))) rfl rfl ?_ | refine TN_val (rr_lss rfl rfl (qF (by omega))) rfl rfl ?_ | refine TN_val (rr_geq rfl rfl (qT (by omega))) rfl rfl ?_ | refine TN_val (rr_geq rfl rfl (qF (by omega))) rfl rfl ?_ | refine TN_val (rr_eql rfl rfl (qT (by omega))) rfl rfl ?_ | refine TN_val (rr_eql rfl rfl (qF (by omega))) rfl rfl ?_ | refine TN_val (rr_neq rfl rfl (qT (by omega))) rfl rfl ?_ | refine TN_val (rr_neq rfl rfl (qF (by omega))) rfl rfl ?_ | refine TN_val (rr_add64 rfl rfl (by omega) (by omega) rfl) rfl rfl ?_)
              | refine TW_done ?_)
            refine TW_call rfl (he3 EntersC.en rfl rfl rfl rfl) (fun w hm => hto2 _ hm.below) rfl rfl rfl ?_
            repeat (first
              | ((first | refine TW_plain rfl rfl ?_ | refine TW_gmet rfl rfl rfl rfl ?_); first | refine TN_val (qp rfl) rfl rfl ?_ | refine TN_val (rr_build rfl (hbp x y)) rfl rfl ?_ | refine TN_val (qlen Und.eq rfl) rfl rfl ?_ | refine TN_val (qfld FldC.fld rfl rfl) rfl rfl ?_ | refine TN_val (rr_lss rfl rfl (qT (by omega))) rfl rfl ?_ | refine TN_val (rr_lss rfl rfl (qF (by omega))) rfl rfl ?_ | refine TN_val (rr_geq rfl rfl (qT (by omega))) rfl rfl ?_ | refine TN_val (rr_geq rfl rfl (qF (by omega))) rfl rfl ?_ | refine TN_val (rr_eql rfl rfl (qT (by omega))) rfl rfl ?_ | refine TN_val (rr_eql rfl rfl (qF (by omega))) rfl rfl ?_ | refine TN_val (rr_neq rfl rfl (qT (by omega))) rfl rfl ?_ | refine TN_val (rr_neq rfl rfl (qF (by omega))) rfl rfl ?_ | refine TN_val (rr_add64 rfl rfl (by omega) (by omega) rfl) rfl rfl ?_)
              | refine TW_done ?_)
            refine TW_one rfl (TL_new rfl fun g16 => TW_on (sub_pick [0, 1, 4] (by decide) rfl) ?_)
            refine TW_one rfl (TL_storeB (i := 5) (cs' := (pairC (x, y)).toArray) rfl rfl rfl rfl rfl rfl (TW_on (sub_pick [0, 1, 4] (by decide) rfl) ?_))
            repeat (first
              | ((first | refine TW_plain rfl rfl ?_ | refine TW_gmet rfl rfl rfl rfl ?_); first | refine TN_val (qp rfl) rfl rfl ?_ | refine TN_val (qlen Und.eq rfl) rfl rfl ?_ | refine TN_val (qfld FldC.fld rfl rfl) rfl rfl ?_ | refine TN_val (rr_lss rfl rfl (qT (by omega))) rfl rfl ?_ | refine TN_val (rr_lss rfl rfl (qF (by omega))) rfl rfl ?_ | refine TN_val (rr_geq rfl rfl (qT (by omega))) rfl rfl ?_ | refine TN_val (rr_geq rfl rfl (qF (by omega))) rfl rfl ?_ | refine TN_val (rr_eql rfl rfl (qT (by omega))) rfl rfl ?_ | refine TN_val (rr_eql rfl rfl (qF (by omega))) rfl rfl ?_ | refine TN_val (rr_neq rfl rfl (qT (by omega))) rfl rfl ?_ | refine TN_val (rr_neq rfl rfl (qF (by omega))) rfl rfl ?_ | refine TN_val (rr_add64 rfl rfl (by omega) (by omega) rfl) rfl rfl ?_)
              | refine TW_done ?_)
            repeat (first
              | refine qv rfl (qp rfl) rfl rfl ?_ | refine TL_nil ?_ | refine T_seq ?_ | refine T_region ?_ | refine qcT rfl ?_ | refine qcF rfl ?_ | refine T_skip ?_
              | refine T_exit ?_ | refine T_ret ?_ | refine T_block ?_ | refine E_then ?_ | refine E_thenX ?_ | refine E_thenR ?_ | refine E_blockN ?_
              | refine E_blockR ?_ | refine E_blockX ?_ | refine E_blockO rfl ?_ | refine qv rfl (qlen Und.eq rfl) rfl rfl ?_
              | refine qv rfl (qfld FldC.fld rfl rfl) rfl rfl ?_ | refine qv rfl (rr_lss rfl rfl (qT (by omega))) rfl rfl ?_
              | refine qv rfl (rr_lss rfl rfl (qF (by omega))) rfl rfl ?_ | refine qv rfl (rr_geq rfl rfl (qT (by omega))) rfl rfl ?_
              | refine qv rfl (rr_geq rfl rfl (qF (by omega))) rfl rfl ?_ | refine qv rfl (rr_eql rfl rfl (qT (by omega))) rfl rfl ?_
              | refine qv rfl (rr_eql rfl rfl (qF (by omega))) rfl rfl ?_ | refine qv rfl (rr_neq rfl rfl (qT (by omega))) rfl rfl ?_
              | refine qv rfl (rr_neq rfl rfl (qF (by omega))) rfl rfl ?_ | refine qv rfl (rr_add64 rfl rfl (by omega) (by omega) rfl) rfl rfl ?_)
            have hcv : cntP cnt (x, y) = .int .i64 (cnt (x, y) : Int) := rfl
            have hcv' : cntP (cntUp cnt (x, y)) (x, y) = .int .i64 ((cnt (x, y) + 1 : Nat) : Int) := by rw [hup, if_pos rfl]
            have hzero : ∀ w : World, (zeroValue 3).run Try.prog w = .ok (.int .i64 0) w := zeroI
            generalize hN : cnt (x, y) = N at *
            (repeat refine T_seq ?_)
            refine T_midq (ι := Unit) (fun _ => True) (fun _ => [(2, .pointer (some ⟨g2, 0, none⟩)), (3, .pointer (some ⟨g3, 0, none⟩)), (9, v), (10, .map (some g10)), (11, .int .i64 (n : Int)), (12, .pointer (some ⟨g12, 0, none⟩)), (15, .int .i64 (k : Int)), (16, .pointer (some ⟨g16, 0, none⟩)), (77, .int .i64 (k : Int))]) (fun _ => [blkO g2 (dfaV vr vt).cells 25, blkO g3 (dfaV vr' vt').cells 25, rowO 64 4 v X.length (X.flatMap stepC), mapT pairK g10 (.int .i64 0) (cntP (cntUp cnt (x, y))) (b + 2), blkO g12 (pairC p).toArray 62, blkO g16 (pairC (x, y)).toArray 62]) ?_ ?_
            · refine T_ord ([blkO g16 (pairC (x, y)).toArray 62]) (.calm 0 (.calm 1 (.two 2 (.calm 3 (.one 4 (.calm 5 (.one 6 (.done))))) 4 (.calm 5 (.one 2 (.calm 3 (.one 6 (.done)))))))) (sub_pick [5] (by decide) rfl) (by kernel_rfl) (by kernel_rfl) (by intro c a d v w h; cases d <;> exact h) ?_
              repeat (first
                | ((first | refine TW_plain rfl rfl ?_ | refine TW_gmet rfl rfl rfl rfl ?_); first | refine TN_val (qp rfl) rfl rfl ?_ | refine TN_val (rr_loadB (i := 0) TyC.ty rfl rfl rfl) rfl rfl ?_ | refine TN_val (qlen Und.eq rfl) rfl rfl ?_ | refine TN_val (qfld FldC.fld rfl rfl) rfl rfl ?_ | refine TN_val (rr_lss rfl rfl (qT (by omega))) rfl rfl ?_ | refine TN_val (rr_lss rfl rfl (qF (by omega))) rfl rfl ?_ | refine TN_val (rr_geq rfl rfl (qT (by omega))) rfl rfl ?_ | refine TN_val (rr_geq rfl rfl (qF (by omega))) rfl rfl ?_ | refine TN_val (rr_eql rfl rfl (qT (by omega))) rfl rfl ?_ | refine TN_val (rr_eql rfl rfl (qF (by omega))) rfl rfl ?_ | refine TN_val (rr_neq rfl rfl (qT (by omega))) rfl rfl ?_ | refine TN_val (rr_neq rfl rfl (qF (by omega))) rfl rfl ?_ | refine TN_val (rr_add64 rfl rfl (by omega) (by omega) rfl) rfl rfl ?_)
                | refine TW_done ?_)
              refine TW_two rfl rfl ?_ ?_
              · refine TL_val (rr_lookT pairK Und.eq hzero (i := 3) rfl rfl (x := (x, y)) rfl hkey hcv) rfl rfl rfl (TW_on (sub_pick [5] (by decide) rfl) ?_)
                repeat (first
                  | ((first | refine TW_plain rfl rfl ?_ | refine TW_gmet rfl rfl rfl rfl ?_); first | refine TN_val (qp rfl) rfl rfl ?_ | refine TN_val (rr_add64 (r := ((N + 1 : Nat) : Int)) rfl rfl (by omega) (by omega) (by omega)) rfl rfl ?_ | refine TN_val (qlen Und.eq rfl) rfl rfl ?_ | refine TN_val (qfld FldC.fld rfl rfl) rfl rfl ?_ | refine TN_val (rr_lss rfl rfl (qT (by omega))) rfl rfl ?_ | refine TN_val (rr_lss rfl rfl (qF (by omega))) rfl rfl ?_ | refine TN_val (rr_geq rfl rfl (qT (by omega))) rfl rfl ?_ | refine TN_val (rr_geq rfl rfl (qF (by omega))) rfl rfl ?_ | refine TN_val (rr_eql rfl rfl (qT (by omega))) rfl rfl ?_ | refine TN_val (rr_eql rfl rfl (qF (by omega))) rfl rfl ?_ | refine TN_val (rr_neq rfl rfl (qT (by omega))) rfl rfl ?_ | refine TN_val (rr_neq rfl rfl (qF (by omega))) rfl rfl ?_ | refine TN_val (rr_add64 rfl rfl (by omega) (by omega) rfl) rfl rfl ?_)
                  | refine TW_done ?_)
                refine TW_one rfl (TL_entry pairK Und.eq hzero (i := 3) rfl rfl (x := (x, y)) rfl hkey (by omega) rfl fun st => TW_on (sub_pick [5] (by decide) rfl) ?_)
                repeat (first
                  | ((first | refine TW_plain rfl rfl ?_ | refine TW_gmet rfl rfl rfl rfl ?_); first | refine TN_val (qp rfl) rfl rfl ?_ | refine TN_val (qlen Und.eq rfl) rfl rfl ?_ | refine TN_val (qfld FldC.fld rfl rfl) rfl rfl ?_ | refine TN_val (rr_lss rfl rfl (qT (by omega))) rfl rfl ?_ | refine TN_val (rr_lss rfl rfl (qF (by omega))) rfl rfl ?_ | refine TN_val (rr_geq rfl rfl (qT (by omega))) rfl rfl ?_ | refine TN_val (rr_geq rfl rfl (qF (by omega))) rfl rfl ?_ | refine TN_val (rr_eql rfl rfl (qT (by omega))) rfl rfl ?_ | refine TN_val (rr_eql rfl rfl (qF (by omega))) rfl rfl ?_ | refine TN_val (rr_neq rfl rfl (qT (by omega))) rfl rfl ?_ | refine TN_val (rr_neq rfl rfl (qF (by omega))) rfl rfl ?_ | refine TN_val (rr_add64 rfl rfl (by omega) (by omega) rfl) rfl rfl ?_)
                  | refine TW_done ?_)
                refine TW_one rfl (TL_entSet pairK (cntP (cntUp cnt (x, y))) Und.eq (i := 3) rfl rfl rfl rfl hkey (by omega) (fun y _ => hup y) (TW_on (sub_pick [5] (by decide) rfl) ?_))
                repeat (first
                  | ((first | refine TW_plain rfl rfl ?_ | refine TW_gmet rfl rfl rfl rfl ?_); first | refine TN_val (qp rfl) rfl rfl ?_ | refine TN_val (qlen Und.eq rfl) rfl rfl ?_ | refine TN_val (qfld FldC.fld rfl rfl) rfl rfl ?_ | refine TN_val (rr_lss rfl rfl (qT (by omega))) rfl rfl ?_ | refine TN_val (rr_lss rfl rfl (qF (by omega))) rfl rfl ?_ | refine TN_val (rr_geq rfl rfl (qT (by omega))) rfl rfl ?_ | refine TN_val (rr_geq rfl rfl (qF (by omega))) rfl rfl ?_ | refine TN_val (rr_eql rfl rfl (qT (by omega))) rfl rfl ?_ | refine TN_val (rr_eql rfl rfl (qF (by omega))) rfl rfl ?_ | refine TN_val (rr_neq rfl rfl (qT (by omega))) rfl rfl ?_ | refine TN_val (rr_neq rfl rfl (qF (by omega))) rfl rfl ?_ | refine TN_val (rr_add64 rfl rfl (by omega) (by omega) rfl) rfl rfl ?_)
                  | refine TW_done ?_)
                exact E_mid () trivial (by repeat' (first | exact True.intro | refine And.intro rfl ?_)) rfl
              · refine TL_entry pairK Und.eq hzero (i := 3) rfl rfl (x := (x, y)) rfl hkey (by omega) rfl fun st => TW_on (sub_pick [5] (by decide) rfl) ?_
                repeat (first
                  | ((first | refine TW_plain rfl rfl ?_ | refine TW_gmet rfl rfl rfl rfl ?_); first | refine TN_val (qp rfl) rfl rfl ?_ | refine TN_val (qlen Und.eq rfl) rfl rfl ?_ | refine TN_val (qfld FldC.fld rfl rfl) rfl rfl ?_ | refine TN_val (rr_lss rfl rfl (qT (by omega))) rfl rfl ?_ | refine TN_val (rr_lss rfl rfl (qF (by omega))) rfl rfl ?_ | refine TN_val (rr_geq rfl rfl (qT (by omega))) rfl rfl ?_ | refine TN_val (rr_geq rfl rfl (qF (by omega))) rfl rfl ?_ | refine TN_val (rr_eql rfl rfl (qT (by omega))) rfl rfl ?_ | refine TN_val (rr_eql rfl rfl (qF (by omega))) rfl rfl ?_ | refine TN_val (rr_neq rfl rfl (qT (by omega))) rfl rfl ?_ | refine TN_val (rr_neq rfl rfl (qF (by omega))) rfl rfl ?_ | refine TN_val (rr_add64 rfl rfl (by omega) (by omega) rfl) rfl rfl ?_)
                  | refine TW_done ?_)
                refine TW_one rfl (TL_val (rr_lookE pairK Und.eq hzero (i := 3) rfl rfl (x := (x, y)) rfl hkey hcv) rfl rfl rfl (TW_on (sub_pick [5] (by decide) rfl) ?_))
                repeat (first
                  | ((first | refine TW_plain rfl rfl ?_ | refine TW_gmet rfl rfl rfl rfl ?_); first | refine TN_val (qp rfl) rfl rfl ?_ | refine TN_val (rr_add64 (r := ((N + 1 : Nat) : Int)) rfl rfl (by omega) (by omega) (by omega)) rfl rfl ?_ | refine TN_val (qlen Und.eq rfl) rfl rfl ?_ | refine TN_val (qfld FldC.fld rfl rfl) rfl rfl ?_ | refine TN_val (rr_lss rfl rfl (qT (by omega))) rfl rfl ?_ | refine TN_val (rr_lss rfl rfl (qF (by omega))) rfl rfl ?_ | refine TN_val (rr_geq rfl rfl (qT (by omega))) rfl rfl ?_ | refine TN_val (rr_geq rfl rfl (qF (by omega))) rfl rfl ?_ | refine TN_val (rr_eql rfl rfl (qT (by omega))) rfl rfl ?_ | refine TN_val (rr_eql rfl rfl (qF (by omega))) rfl rfl ?_ | refine TN_val (rr_neq rfl rfl (qT (by omega))) rfl rfl ?_ | refine TN_val (rr_neq rfl rfl (qF (by omega))) rfl rfl ?_ | refine TN_val (rr_add64 rfl rfl (by omega) (by omega) rfl) rfl rfl ?_)
                  | refine TW_done ?_)
                refine TW_one rfl (TL_entSet pairK (cntP (cntUp cnt (x, y))) Und.eq (i := 3) rfl rfl rfl rfl hkey (by omega) (fun y _ => hup y) (TW_on (sub_pick [5] (by decide) rfl) ?_))
                repeat (first
                  | ((first | refine TW_plain rfl rfl ?_ | refine TW_gmet rfl rfl rfl rfl ?_); first | refine TN_val (qp rfl) rfl rfl ?_ | refine TN_val (qlen Und.eq rfl) rfl rfl ?_ | refine TN_val (qfld FldC.fld rfl rfl) rfl rfl ?_ | refine TN_val (rr_lss rfl rfl (qT (by omega))) rfl rfl ?_ | refine TN_val (rr_lss rfl rfl (qF (by omega))) rfl rfl ?_ | refine TN_val (rr_geq rfl rfl (qT (by omega))) rfl rfl ?_ | refine TN_val (rr_geq rfl rfl (qF (by omega))) rfl rfl ?_ | refine TN_val (rr_eql rfl rfl (qT (by omega))) rfl rfl ?_ | refine TN_val (rr_eql rfl rfl (qF (by omega))) rfl rfl ?_ | refine TN_val (rr_neq rfl rfl (qT (by omega))) rfl rfl ?_ | refine TN_val (rr_neq rfl rfl (qF (by omega))) rfl rfl ?_ | refine TN_val (rr_add64 rfl rfl (by omega) (by omega) rfl) rfl rfl ?_)
                  | refine TW_done ?_)
                exact E_mid () trivial (by repeat' (first | exact True.intro | refine And.intro rfl ?_)) rfl
            rintro ⟨⟩ _
            clear hup hcv hto1 hto2
            by_cases c4 : N = 0
            · have hX' := hnew c4
              rw [hX'] at htl
              rw [List.length_append, List.length_singleton] at htl
              repeat (first
                | refine qv rfl (qp rfl) rfl rfl ?_ | refine TL_nil ?_ | refine T_seq ?_ | refine T_region ?_ | refine qcT rfl ?_ | refine qcF rfl ?_ | refine T_skip ?_
                | refine T_exit ?_ | refine T_ret ?_ | refine T_block ?_ | refine E_then ?_ | refine E_thenX ?_ | refine E_thenR ?_ | refine E_blockN ?_
                | refine E_blockR ?_ | refine E_blockX ?_ | refine E_blockO rfl ?_ | refine qv rfl (rr_loadB (i := 5) TyC.ty rfl rfl rfl) rfl rfl ?_
                | refine qv rfl (rr_lookT pairK Und.eq hzero (i := 3) rfl rfl (x := (x, y)) rfl hkey hcv') rfl rfl ?_
                | refine qv rfl (rr_conv Und.eq Und.eq rfl (wrapU8 c3)) rfl rfl ?_ | refine qv rfl (rr_build rfl (hbs (x, y) n k)) rfl rfl ?_
                | refine qv rfl (qlen Und.eq rfl) rfl rfl ?_ | refine qv rfl (qfld FldC.fld rfl rfl) rfl rfl ?_
                | refine qv rfl (rr_lss rfl rfl (qT (by omega))) rfl rfl ?_ | refine qv rfl (rr_lss rfl rfl (qF (by omega))) rfl rfl ?_
                | refine qv rfl (rr_geq rfl rfl (qT (by omega))) rfl rfl ?_ | refine qv rfl (rr_geq rfl rfl (qF (by omega))) rfl rfl ?_
                | refine qv rfl (rr_eql rfl rfl (qT (by omega))) rfl rfl ?_ | refine qv rfl (rr_eql rfl rfl (qF (by omega))) rfl rfl ?_
                | refine qv rfl (rr_neq rfl rfl (qT (by omega))) rfl rfl ?_ | refine qv rfl (rr_neq rfl rfl (qF (by omega))) rfl rfl ?_
                | refine qv rfl (rr_add64 rfl rfl (by omega) (by omega) rfl) rfl rfl ?_)
              refine TL_pushN (i := 2) rfl rfl rfl rfl rfl rfl rfl (fun z h => by cases h; rfl) (by omega) (by omega) rfl fun z v2 => ?_
              conv => arg 8; simp only [zA, zB, zC, zD, zE, zF, zG, zH, zI, rowS, ret, id_eq]
              repeat (first
                | refine qv rfl (qp rfl) rfl rfl ?_ | refine TL_nil ?_ | refine T_seq ?_ | refine T_region ?_ | refine qcT rfl ?_ | refine qcF rfl ?_ | refine T_skip ?_
                | refine T_exit ?_ | refine T_ret ?_ | refine T_block ?_ | refine E_then ?_ | refine E_thenX ?_ | refine E_thenR ?_ | refine E_blockN ?_
                | refine E_blockR ?_ | refine E_blockX ?_ | refine E_blockO rfl ?_ | refine qv rfl (qlen Und.eq rfl) rfl rfl ?_
                | refine qv rfl (qfld FldC.fld rfl rfl) rfl rfl ?_ | refine qv rfl (rr_lss rfl rfl (qT (by omega))) rfl rfl ?_
                | refine qv rfl (rr_lss rfl rfl (qF (by omega))) rfl rfl ?_ | refine qv rfl (rr_geq rfl rfl (qT (by omega))) rfl rfl ?_
                | refine qv rfl (rr_geq rfl rfl (qF (by omega))) rfl rfl ?_ | refine qv rfl (rr_eql rfl rfl (qT (by omega))) rfl rfl ?_
                | refine qv rfl (rr_eql rfl rfl (qF (by omega))) rfl rfl ?_ | refine qv rfl (rr_neq rfl rfl (qT (by omega))) rfl rfl ?_
                | refine qv rfl (rr_neq rfl rfl (qF (by omega))) rfl rfl ?_ | refine qv rfl (rr_add64 rfl rfl (by omega) (by omega) rfl) rfl rfl ?_)
              refine E_pick [0, 1, 2, 3, 4] (by decide) rfl ?_
              exact E_round (k + 1, cntUp cnt (x, y), b + 2, v2) ⟨by show k + 1 ≤ 256; omega, hnx, by show b + 2 ≤ 1 + 512 * n + 2 * (k + 1); omega⟩ (by show 256 - (k + 1) < 256 - k; omega) (by repeat' (first | exact True.intro | refine And.intro rfl ?_)) (by dsimp only; rw [hX']; simp)
            · have hX' := hold c4
              repeat (first
                | refine qv rfl (qp rfl) rfl rfl ?_ | refine TL_nil ?_ | refine T_seq ?_ | refine T_region ?_ | refine qcT rfl ?_ | refine qcF rfl ?_ | refine T_skip ?_
                | refine T_exit ?_ | refine T_ret ?_ | refine T_block ?_ | refine E_then ?_ | refine E_thenX ?_ | refine E_thenR ?_ | refine E_blockN ?_
                | refine E_blockR ?_ | refine E_blockX ?_ | refine E_blockO rfl ?_ | refine qv rfl (rr_loadB (i := 5) TyC.ty rfl rfl rfl) rfl rfl ?_
                | refine qv rfl (rr_lookT pairK Und.eq hzero (i := 3) rfl rfl (x := (x, y)) rfl hkey hcv') rfl rfl ?_ | refine qv rfl (qlen Und.eq rfl) rfl rfl ?_
                | refine qv rfl (qfld FldC.fld rfl rfl) rfl rfl ?_ | refine qv rfl (rr_lss rfl rfl (qT (by omega))) rfl rfl ?_
                | refine qv rfl (rr_lss rfl rfl (qF (by omega))) rfl rfl ?_ | refine qv rfl (rr_geq rfl rfl (qT (by omega))) rfl rfl ?_
                | refine qv rfl (rr_geq rfl rfl (qF (by omega))) rfl rfl ?_ | refine qv rfl (rr_eql rfl rfl (qT (by omega))) rfl rfl ?_
                | refine qv rfl (rr_eql rfl rfl (qF (by omega))) rfl rfl ?_ | refine qv rfl (rr_neq rfl rfl (qT (by omega))) rfl rfl ?_
                | refine qv rfl (rr_neq rfl rfl (qF (by omega))) rfl rfl ?_ | refine qv rfl (rr_add64 rfl rfl (by omega) (by omega) rfl) rfl rfl ?_)
              refine E_pick [0, 1, 2, 3, 4] (by decide) rfl ?_
              exact E_round (k + 1, cntUp cnt (x, y), b + 2, v) ⟨by show k + 1 ≤ 256; omega, hnx, by show b + 2 ≤ 1 + 512 * n + 2 * (k + 1); omega⟩ (by show 256 - (k + 1) < 256 - k; omega) (by repeat' (first | exact True.intro | refine And.intro rfl ?_)) (by dsimp only; rw [hX']; rfl)
          · obtain rfl : k = 256 := by omega
            obtain ⟨f', rfl, hw'⟩ := hnext _ c2 hrow
            clear hnext hfound hrow htok hpre
            generalize rowT A B p n todo 256 = X at *
            repeat (first
              | refine qv rfl (qp rfl) rfl rfl ?_ | refine TL_nil ?_ | refine T_seq ?_ | refine T_region ?_ | refine qcT rfl ?_ | refine qcF rfl ?_ | refine T_skip ?_
              | refine T_exit ?_ | refine T_ret ?_ | refine T_block ?_ | refine E_then ?_ | refine E_thenX ?_ | refine E_thenR ?_ | refine E_blockN ?_
              | refine E_blockR ?_ | refine E_blockX ?_ | refine E_blockO rfl ?_ | refine qv rfl (qlen Und.eq rfl) rfl rfl ?_
              | refine qv rfl (qfld FldC.fld rfl rfl) rfl rfl ?_ | refine qv rfl (rr_lss rfl rfl (qT (by omega))) rfl rfl ?_
              | refine qv rfl (rr_lss rfl rfl (qF (by omega))) rfl rfl ?_ | refine qv rfl (rr_geq rfl rfl (qT (by omega))) rfl rfl ?_
              | refine qv rfl (rr_geq rfl rfl (qF (by omega))) rfl rfl ?_ | refine qv rfl (rr_eql rfl rfl (qT (by omega))) rfl rfl ?_
              | refine qv rfl (rr_eql rfl rfl (qF (by omega))) rfl rfl ?_ | refine qv rfl (rr_neq rfl rfl (qT (by omega))) rfl rfl ?_
              | refine qv rfl (rr_neq rfl rfl (qF (by omega))) rfl rfl ?_ | refine qv rfl (rr_add64 rfl rfl (by omega) (by omega) rfl) rfl rfl ?_)
            refine E_pick [0, 1, 2, 3] (by decide) rfl ?_
            exact E_round (f', n + 1, X, cnt, b, v) ⟨hw', by show b ≤ 1 + 512 * (n + 1); omega⟩ (Nat.lt_succ_self f') (by repeat' (first | exact True.intro | refine And.intro rfl ?_)) rfl
        · have hres := hsome _ (hfound c2)
          have hbl : (wayB todo n).length ≤ n + 1 := back_len todo (n + 1) n
          clear hfound hnext hsome
          rw [hres]
          clear hres
          repeat (first
            | refine qv rfl (qp rfl) rfl rfl ?_ | refine TL_nil ?_ | refine T_seq ?_ | refine T_region ?_ | refine qcT rfl ?_ | refine qcF rfl ?_ | refine T_skip ?_
            | refine T_exit ?_ | refine T_ret ?_ | refine T_block ?_ | refine E_then ?_ | refine E_thenX ?_ | refine E_thenR ?_ | refine E_blockN ?_
            | refine E_blockR ?_ | refine E_blockX ?_ | refine E_blockO rfl ?_ | refine qv rfl (qlen Und.eq rfl) rfl rfl ?_
            | refine qv rfl (qfld FldC.fld rfl rfl) rfl rfl ?_ | refine qv rfl (rr_lss rfl rfl (qT (by omega))) rfl rfl ?_
            | refine qv rfl (rr_lss rfl rfl (qF (by omega))) rfl rfl ?_ | refine qv rfl (rr_geq rfl rfl (qT (by omega))) rfl rfl ?_
            | refine qv rfl (rr_geq rfl rfl (qF (by omega))) rfl rfl ?_ | refine qv rfl (rr_eql rfl rfl (qT (by omega))) rfl rfl ?_
            | refine qv rfl (rr_eql rfl rfl (qF (by omega))) rfl rfl ?_ | refine qv rfl (rr_neq rfl rfl (qT (by omega))) rfl rfl ?_
            | refine qv rfl (rr_neq rfl rfl (qF (by omega))) rfl rfl ?_ | refine qv rfl (rr_add64 rfl rfl (by omega) (by omega) rfl) rfl rfl ?_)
          (repeat refine T_seq ?_)
          refine T_ord ([blkO g2 (dfaV vr vt).cells 25, blkO g3 (dfaV vr' vt').cells 25, blkO g12 (pairC p).toArray 62]) (.calm 0 (.calm 1 (.calm 2 (.calm 3 (.calm 4 (.calm 5 (.calm 6 (.calm 7 (.calm 8 (.done)))))))))) (sub_pick [0, 1, 4] (by decide) rfl) (by kernel_rfl) (by kernel_rfl) (by intro c a d v w h; cases d <;> exact h) ?_
          repeat (first
            | ((first | refine TW_plain rfl rfl ?_ | refine TW_gmet rfl rfl rfl rfl ?_); first | refine TN_val (qp rfl) rfl rfl ?_ | refine TN_val (rr_loadB (i := 0) TyC.ty rfl rfl rfl) rfl rfl ?_ | refine TN_val (rr_loadB (i := 1) TyC.ty rfl rfl rfl) rfl rfl ?_ | refine TN_val (rr_load1 TyC.ty rfl (at_blk (i := 2) rfl rfl)) rfl rfl ?_ | refine TN_val (qlen Und.eq rfl) rfl rfl ?_ | refine TN_val (qfld FldC.fld rfl rfl) rfl rfl ?_ | refine TN_val (rr_lss rfl rfl (qT (by omega))) rfl rfl ?_ | refine TN_val (rr_lss rfl rfl (qF (by omega))) rfl rfl ?_ | refine TN_val (rr_geq rfl rfl (qT (by omega))) rfl rfl ?_ | refine TN_val (rr_geq rfl rfl (qF (by omega))) rfl rfl ?_ | refine TN_val (rr_eql rfl rfl (qT (by omega))) rfl rfl ?_ | refine TN_val (rr_eql rfl rfl (qF (by omega))) rfl rfl ?_ | refine TN_val (rr_neq rfl rfl (qT (by omega))) rfl rfl ?_ | refine TN_val (rr_neq rfl rfl (qF (by omega))) rfl rfl ?_ | refine TN_val (rr_add64 rfl rfl (by omega) (by omega) rfl) rfl rfl ?_)
            | refine TW_done ?_)
          refine TW_call rfl (he2 EntersC.en rfl rfl rfl) (fun w hm => htg1 _ hm.below) rfl rfl rfl ?_
          repeat (first
            | ((first | refine TW_plain rfl rfl ?_ | refine TW_gmet rfl rfl rfl rfl ?_); first | refine TN_val (qp rfl) rfl rfl ?_ | refine TN_val (rr_loadB (i := 1) TyC.ty rfl rfl rfl) rfl rfl ?_ | refine TN_val (rr_load1 TyC.ty rfl (at_blk (i := 2) rfl rfl)) rfl rfl ?_ | refine TN_val (qlen Und.eq rfl) rfl rfl ?_ | refine TN_val (qfld FldC.fld rfl rfl) rfl rfl ?_ | refine TN_val (rr_lss rfl rfl (qT (by omega))) rfl rfl ?_ | refine TN_val (rr_lss rfl rfl (qF (by omega))) rfl rfl ?_ | refine TN_val (rr_geq rfl rfl (qT (by omega))) rfl rfl ?_ | refine TN_val (rr_geq rfl rfl (qF (by omega))) rfl rfl ?_ | refine TN_val (rr_eql rfl rfl (qT (by omega))) rfl rfl ?_ | refine TN_val (rr_eql rfl rfl (qF (by omega))) rfl rfl ?_ | refine TN_val (rr_neq rfl rfl (qT (by omega))) rfl rfl ?_ | refine TN_val (rr_neq rfl rfl (qF (by omega))) rfl rfl ?_ | refine TN_val (rr_add64 rfl rfl (by omega) (by omega) rfl) rfl rfl ?_)
            | refine TW_done ?_)
          refine TW_call rfl (he2 EntersC.en rfl rfl rfl) (fun w hm => htg2 _ hm.below) rfl rfl rfl ?_
          repeat (first
            | ((first | refine TW_plain rfl rfl ?_ | refine TW_gmet rfl rfl rfl rfl ?_); first | refine TN_val (qp rfl) rfl rfl ?_ | refine TN_val (rr_neq (b := true) rfl rfl (decide_eq_true c2)) rfl rfl ?_ | refine TN_val (qlen Und.eq rfl) rfl rfl ?_ | refine TN_val (qfld FldC.fld rfl rfl) rfl rfl ?_ | refine TN_val (rr_lss rfl rfl (qT (by omega))) rfl rfl ?_ | refine TN_val (rr_lss rfl rfl (qF (by omega))) rfl rfl ?_ | refine TN_val (rr_geq rfl rfl (qT (by omega))) rfl rfl ?_ | refine TN_val (rr_geq rfl rfl (qF (by omega))) rfl rfl ?_ | refine TN_val (rr_eql rfl rfl (qT (by omega))) rfl rfl ?_ | refine TN_val (rr_eql rfl rfl (qF (by omega))) rfl rfl ?_ | refine TN_val (rr_neq rfl rfl (qT (by omega))) rfl rfl ?_ | refine TN_val (rr_neq rfl rfl (qF (by omega))) rfl rfl ?_ | refine TN_val (rr_add64 rfl rfl (by omega) (by omega) rfl) rfl rfl ?_)
            | refine TW_done ?_)
          repeat (first
            | refine qv rfl (qp rfl) rfl rfl ?_ | refine TL_nil ?_ | refine T_seq ?_ | refine T_region ?_ | refine qcT rfl ?_ | refine qcF rfl ?_ | refine T_skip ?_
            | refine T_exit ?_ | refine T_ret ?_ | refine T_block ?_ | refine E_then ?_ | refine E_thenX ?_ | refine E_thenR ?_ | refine E_blockN ?_
            | refine E_blockR ?_ | refine E_blockX ?_ | refine E_blockO rfl ?_ | refine qv rfl (qlen Und.eq rfl) rfl rfl ?_
            | refine qv rfl (qfld FldC.fld rfl rfl) rfl rfl ?_ | refine qv rfl (rr_lss rfl rfl (qT (by omega))) rfl rfl ?_
            | refine qv rfl (rr_lss rfl rfl (qF (by omega))) rfl rfl ?_ | refine qv rfl (rr_geq rfl rfl (qT (by omega))) rfl rfl ?_
            | refine qv rfl (rr_geq rfl rfl (qF (by omega))) rfl rfl ?_ | refine qv rfl (rr_eql rfl rfl (qT (by omega))) rfl rfl ?_
            | refine qv rfl (rr_eql rfl rfl (qF (by omega))) rfl rfl ?_ | refine qv rfl (rr_neq rfl rfl (qT (by omega))) rfl rfl ?_
            | refine qv rfl (rr_neq rfl rfl (qF (by omega))) rfl rfl ?_ | refine qv rfl (rr_add64 rfl rfl (by omega) (by omega) rfl) rfl rfl ?_)
          refine T_nil 5 1 ?_
          conv => arg 7; simp only [zA, zB, zC, zD, zE, zF, zG, zH, zI, rowS, ret, id_eq]
          refine T_pick [2, 5] (by decide) rfl ?_
          refine T_loop (ι := Nat × List UInt8 × Value) (fun (i, out, _) => i < todo.length ∧ wayB todo n = out ++ wayB todo i) (fun (i, _, v) => [(9, .slice (some ⟨gT, 0, none⟩) todo.length cT), (13, v), (14, .int .i64 (i : Int))])
            (fun (_, out, v) => [rowO 64 4 (.slice (some ⟨gT, 0, none⟩) todo.length cT) todo.length (todo.flatMap stepC), rowO 5 1 v out.length (out.flatMap u8L)]) (fun (i, _, _) => i) (n, [], .slice none 0 0) ⟨c1, rfl⟩ (by repeat' (first | exact True.intro | refine And.intro rfl ?_)) rfl ?_
          rintro ⟨i, out, v⟩ ⟨hi, hway⟩
          dsimp only at hi hway ⊢
          have hsi : todo[i] = todo.getD i noStep := by rw [List.getD_eq_getElem?_getD, List.getElem?_eq_getElem hi]; rfl
          have hati := fun (L : List Own) hl => at_rowel (W := w) (L := L) (i := 0) (g := gT) (m := todo.length) (cap := cT) (n := todo.length) (size := 4) (e := 64) stepC_len hl hi
          rw [hsi] at hati
          have hol : out.length ≤ n + 1 := by rw [hway, List.length_append] at hbl; omega
          rcases way_last hok hi with ⟨e1, e2⟩ | ⟨u, e1, e2, e3, e4⟩
          · have hup := hati [rowO 64 4 (.slice (some ⟨gT, 0, none⟩) todo.length cT) todo.length (todo.flatMap stepC), rowO 5 1 v out.length (out.flatMap u8L)] rfl 2 _ rfl
            rw [e1] at hup
            rw [e2, List.append_nil] at hway
            subst hway
            repeat (first
              | refine qv rfl (qp rfl) rfl rfl ?_ | refine TL_nil ?_ | refine T_seq ?_ | refine T_region ?_ | refine qcT rfl ?_ | refine qcF rfl ?_ | refine T_skip ?_
              | refine T_exit ?_ | refine T_ret ?_ | refine T_block ?_ | refine E_then ?_ | refine E_thenX ?_ | refine E_thenR ?_ | refine E_blockN ?_
              | refine E_blockR ?_ | refine E_blockX ?_ | refine E_blockO rfl ?_ | refine qv rfl (rr_idxc Und.eq TyC.ty rfl rfl hi) rfl rfl ?_
              | refine qv rfl (rr_load1 TyC.ty rfl hup) rfl rfl ?_ | refine qv rfl (qlen Und.eq rfl) rfl rfl ?_ | refine qv rfl (qfld FldC.fld rfl rfl) rfl rfl ?_
              | refine qv rfl (rr_lss rfl rfl (qT (by omega))) rfl rfl ?_ | refine qv rfl (rr_lss rfl rfl (qF (by omega))) rfl rfl ?_
              | refine qv rfl (rr_geq rfl rfl (qT (by omega))) rfl rfl ?_ | refine qv rfl (rr_geq rfl rfl (qF (by omega))) rfl rfl ?_
              | refine qv rfl (rr_eql rfl rfl (qT (by omega))) rfl rfl ?_ | refine qv rfl (rr_eql rfl rfl (qF (by omega))) rfl rfl ?_
              | refine qv rfl (rr_neq rfl rfl (qT (by omega))) rfl rfl ?_ | refine qv rfl (rr_neq rfl rfl (qF (by omega))) rfl rfl ?_
              | refine qv rfl (rr_add64 rfl rfl (by omega) (by omega) rfl) rfl rfl ?_)
            refine TL_callB [1] [0] (by decide) rfl rfl (he1 EntersC.en rfl rfl) (fun w hm hb => reverseBytR_calls _ _ w _ hb (by omega)) rfl rfl rfl ?_
            intro _ _
            conv => arg 8; simp only [zA, zB, zC, zD, zE, zF, zG, zH, zI, rowS, ret, id_eq]
            generalize wayB todo n = out at *
            repeat (first
              | refine qv rfl (qp rfl) rfl rfl ?_ | refine TL_nil ?_ | refine T_seq ?_ | refine T_region ?_ | refine qcT rfl ?_ | refine qcF rfl ?_ | refine T_skip ?_
              | refine T_exit ?_ | refine T_ret ?_ | refine T_block ?_ | refine E_then ?_ | refine E_thenX ?_ | refine E_thenR ?_ | refine E_blockN ?_
              | refine E_blockR ?_ | refine E_blockX ?_ | refine E_blockO rfl ?_
              | refine qv rfl (rr_string Und.eq Und.eq Und.eq rfl (List.length_reverse ..).symm (by rw [← u8L_flat]; exact sl_row (i := 1) rfl)) rfl rfl ?_
              | refine qv rfl (qlen Und.eq rfl) rfl rfl ?_ | refine qv rfl (qfld FldC.fld rfl rfl) rfl rfl ?_
              | refine qv rfl (rr_lss rfl rfl (qT (by omega))) rfl rfl ?_ | refine qv rfl (rr_lss rfl rfl (qF (by omega))) rfl rfl ?_
              | refine qv rfl (rr_geq rfl rfl (qT (by omega))) rfl rfl ?_ | refine qv rfl (rr_geq rfl rfl (qF (by omega))) rfl rfl ?_
              | refine qv rfl (rr_eql rfl rfl (qT (by omega))) rfl rfl ?_ | refine qv rfl (rr_eql rfl rfl (qF (by omega))) rfl rfl ?_
              | refine qv rfl (rr_neq rfl rfl (qT (by omega))) rfl rfl ?_ | refine qv rfl (rr_neq rfl rfl (qF (by omega))) rfl rfl ?_
              | refine qv rfl (rr_add64 rfl rfl (by omega) (by omega) rfl) rfl rfl ?_)
            exact E_ret3e rfl rfl rfl rfl rfl
          · have hup := hati [rowO 64 4 (.slice (some ⟨gT, 0, none⟩) todo.length cT) todo.length (todo.flatMap stepC), rowO 5 1 v out.length (out.flatMap u8L)] rfl 2 _ rfl
            rw [e1] at hup
            have hby := hati [rowO 64 4 (.slice (some ⟨gT, 0, none⟩) todo.length cT) todo.length (todo.flatMap stepC), rowO 5 1 v out.length (out.flatMap u8L)] rfl 3 _ rfl
            rw [u8v_of e3] at hby
            rw [e4] at hway
            generalize UInt8.ofNat (todo.getD i noStep).2.2 = by_ at *
            repeat (first
              | refine qv rfl (qp rfl) rfl rfl ?_ | refine TL_nil ?_ | refine T_seq ?_ | refine T_region ?_ | refine qcT rfl ?_ | refine qcF rfl ?_ | refine T_skip ?_
              | refine T_exit ?_ | refine T_ret ?_ | refine T_block ?_ | refine E_then ?_ | refine E_thenX ?_ | refine E_thenR ?_ | refine E_blockN ?_
              | refine E_blockR ?_ | refine E_blockX ?_ | refine E_blockO rfl ?_ | refine qv rfl (rr_idxc Und.eq TyC.ty rfl rfl hi) rfl rfl ?_
              | refine qv rfl (rr_load1 TyC.ty rfl hup) rfl rfl ?_ | refine qv rfl (rr_load1 TyC.ty rfl hby) rfl rfl ?_ | refine qv rfl (qlen Und.eq rfl) rfl rfl ?_
              | refine qv rfl (qfld FldC.fld rfl rfl) rfl rfl ?_ | refine qv rfl (rr_lss rfl rfl (qT (by omega))) rfl rfl ?_
              | refine qv rfl (rr_lss rfl rfl (qF (by omega))) rfl rfl ?_ | refine qv rfl (rr_geq rfl rfl (qT (by omega))) rfl rfl ?_
              | refine qv rfl (rr_geq rfl rfl (qF (by omega))) rfl rfl ?_ | refine qv rfl (rr_eql rfl rfl (qT (by omega))) rfl rfl ?_
              | refine qv rfl (rr_eql rfl rfl (qF (by omega))) rfl rfl ?_ | refine qv rfl (rr_neq rfl rfl (qT (by omega))) rfl rfl ?_
              | refine qv rfl (rr_neq rfl rfl (qF (by omega))) rfl rfl ?_ | refine qv rfl (rr_add64 rfl rfl (by omega) (by omega) rfl) rfl rfl ?_)
            refine TL_push1 (i := 1) rfl rfl rfl rfl rfl rfl (fun z h => by cases h; rfl) (by omega) (by omega) rfl fun z v2 => ?_
            conv => arg 8; simp only [zA, zB, zC, zD, zE, zF, zG, zH, zI, rowS, ret, id_eq]
            have hupz := fun v' => hati [rowO 64 4 (.slice (some ⟨gT, 0, none⟩) todo.length cT) todo.length (todo.flatMap stepC), rowO 5 1 v' (out.length + 1) (out.flatMap u8L ++ [u8v by_])] rfl 2 _ rfl
            rw [e1] at hupz
            repeat (first
              | refine qv rfl (qp rfl) rfl rfl ?_ | refine TL_nil ?_ | refine T_seq ?_ | refine T_region ?_ | refine qcT rfl ?_ | refine qcF rfl ?_ | refine T_skip ?_
              | refine T_exit ?_ | refine T_ret ?_ | refine T_block ?_ | refine E_then ?_ | refine E_thenX ?_ | refine E_thenR ?_ | refine E_blockN ?_
              | refine E_blockR ?_ | refine E_blockX ?_ | refine E_blockO rfl ?_ | refine qv rfl (rr_idxc Und.eq TyC.ty rfl rfl hi) rfl rfl ?_
              | refine qv rfl (rr_load1 TyC.ty rfl (hupz _)) rfl rfl ?_ | refine qv rfl (qlen Und.eq rfl) rfl rfl ?_ | refine qv rfl (qfld FldC.fld rfl rfl) rfl rfl ?_
              | refine qv rfl (rr_lss rfl rfl (qT (by omega))) rfl rfl ?_ | refine qv rfl (rr_lss rfl rfl (qF (by omega))) rfl rfl ?_
              | refine qv rfl (rr_geq rfl rfl (qT (by omega))) rfl rfl ?_ | refine qv rfl (rr_geq rfl rfl (qF (by omega))) rfl rfl ?_
              | refine qv rfl (rr_eql rfl rfl (qT (by omega))) rfl rfl ?_ | refine qv rfl (rr_eql rfl rfl (qF (by omega))) rfl rfl ?_
              | refine qv rfl (rr_neq rfl rfl (qT (by omega))) rfl rfl ?_ | refine qv rfl (rr_neq rfl rfl (qF (by omega))) rfl rfl ?_
              | refine qv rfl (rr_add64 rfl rfl (by omega) (by omega) rfl) rfl rfl ?_)
            exact E_round (u, out ++ [by_], v2) ⟨Nat.lt_trans e2 hi, by rw [hway]; simp⟩ e2 (by repeat' (first | exact True.intro | refine And.intro rfl ?_)) (by dsimp only; rw [List.flatMap_append, List.length_append]; rfl)
      · have hr := hnone (away_end hw c1)
        rw [hr]
        repeat (first
          | refine qv rfl (qp rfl) rfl rfl ?_ | refine TL_nil ?_ | refine T_seq ?_ | refine T_region ?_ | refine qcT rfl ?_ | refine qcF rfl ?_ | refine T_skip ?_
          | refine T_exit ?_ | refine T_ret ?_ | refine T_block ?_ | refine E_then ?_ | refine E_thenX ?_ | refine E_thenR ?_ | refine E_blockN ?_
          | refine E_blockR ?_ | refine E_blockX ?_ | refine E_blockO rfl ?_ | refine qv rfl (rr_rowlen (i := 2) Und.eq rfl rfl) rfl rfl ?_
          | refine qv rfl (qlen Und.eq rfl) rfl rfl ?_ | refine qv rfl (qfld FldC.fld rfl rfl) rfl rfl ?_
          | refine qv rfl (rr_lss rfl rfl (qT (by omega))) rfl rfl ?_ | refine qv rfl (rr_lss rfl rfl (qF (by omega))) rfl rfl ?_
          | refine qv rfl (rr_geq rfl rfl (qT (by omega))) rfl rfl ?_ | refine qv rfl (rr_geq rfl rfl (qF (by omega))) rfl rfl ?_
          | refine qv rfl (rr_eql rfl rfl (qT (by omega))) rfl rfl ?_ | refine qv rfl (rr_eql rfl rfl (qF (by omega))) rfl rfl ?_
          | refine qv rfl (rr_neq rfl rfl (qT (by omega))) rfl rfl ?_ | refine qv rfl (rr_neq rfl rfl (qF (by omega))) rfl rfl ?_
          | refine qv rfl (rr_add64 rfl rfl (by omega) (by omega) rfl) rfl rfl ?_)
        exact E_ret3e rfl rfl rfl rfl rfl
    · rw [hc] at hck
      have hr : apartF R tags R' tags' = ([], false, chk R' tags') := by unfold apartF; rw [if_neg (by simpa using hc), if_pos hc']
      rw [hr]
      clear h h' hr
      generalize chk R' tags' = e at *
      refine enter (args := [dfaV vr vt, dfaV vr' vt']) (n := 110) Try.func9 rfl rfl rfl ?_
      refine T_seq (T_region (TL_box rfl rfl rfl fun g2 => ?_))
      refine TL_box rfl rfl rfl fun g3 => ?_
      conv => arg 8; simp only [zA, zB, zC, zD, zE, zF, zG, zH, zI, rowS, ret, id_eq]
      repeat (first
        | refine qv rfl (qp rfl) rfl rfl ?_ | refine TL_nil ?_ | refine T_seq ?_ | refine T_region ?_ | refine qcT rfl ?_ | refine qcF rfl ?_ | refine T_skip ?_
        | refine T_exit ?_ | refine T_ret ?_ | refine T_block ?_ | refine E_then ?_ | refine E_thenX ?_ | refine E_thenR ?_ | refine E_blockN ?_
        | refine E_blockR ?_ | refine E_blockX ?_ | refine E_blockO rfl ?_ | refine qv rfl (rr_loadB (i := 0) TyC.ty rfl rfl rfl) rfl rfl ?_
        | refine qv rfl (qlen Und.eq rfl) rfl rfl ?_ | refine qv rfl (qfld FldC.fld rfl rfl) rfl rfl ?_
        | refine qv rfl (rr_lss rfl rfl (qT (by omega))) rfl rfl ?_ | refine qv rfl (rr_lss rfl rfl (qF (by omega))) rfl rfl ?_
        | refine qv rfl (rr_geq rfl rfl (qT (by omega))) rfl rfl ?_ | refine qv rfl (rr_geq rfl rfl (qF (by omega))) rfl rfl ?_
        | refine qv rfl (rr_eql rfl rfl (qT (by omega))) rfl rfl ?_ | refine qv rfl (rr_eql rfl rfl (qF (by omega))) rfl rfl ?_
        | refine qv rfl (rr_neq rfl rfl (qT (by omega))) rfl rfl ?_ | refine qv rfl (rr_neq rfl rfl (qF (by omega))) rfl rfl ?_
        | refine qv rfl (rr_add64 rfl rfl (by omega) (by omega) rfl) rfl rfl ?_)
      refine TL_call (he1 EntersC.en rfl rfl) (fun w hm => hck _ hm.below) rfl rfl rfl ?_
      intro _ _
      repeat (first
        | refine qv rfl (qp rfl) rfl rfl ?_ | refine TL_nil ?_ | refine T_seq ?_ | refine T_region ?_ | refine qcT rfl ?_ | refine qcF rfl ?_ | refine T_skip ?_
        | refine T_exit ?_ | refine T_ret ?_ | refine T_block ?_ | refine E_then ?_ | refine E_thenX ?_ | refine E_thenR ?_ | refine E_blockN ?_
        | refine E_blockR ?_ | refine E_blockX ?_ | refine E_blockO rfl ?_ | refine qv rfl (rr_loadB (i := 1) TyC.ty rfl rfl rfl) rfl rfl ?_
        | refine qv rfl (qlen Und.eq rfl) rfl rfl ?_ | refine qv rfl (qfld FldC.fld rfl rfl) rfl rfl ?_
        | refine qv rfl (rr_lss rfl rfl (qT (by omega))) rfl rfl ?_ | refine qv rfl (rr_lss rfl rfl (qF (by omega))) rfl rfl ?_
        | refine qv rfl (rr_geq rfl rfl (qT (by omega))) rfl rfl ?_ | refine qv rfl (rr_geq rfl rfl (qF (by omega))) rfl rfl ?_
        | refine qv rfl (rr_eql rfl rfl (qT (by omega))) rfl rfl ?_ | refine qv rfl (rr_eql rfl rfl (qF (by omega))) rfl rfl ?_
        | refine qv rfl (rr_neq rfl rfl (qT (by omega))) rfl rfl ?_ | refine qv rfl (rr_neq rfl rfl (qF (by omega))) rfl rfl ?_
        | refine qv rfl (rr_add64 rfl rfl (by omega) (by omega) rfl) rfl rfl ?_)
      refine TL_call (he1 EntersC.en rfl rfl) (fun w hm => hck' _ hm.below) rfl rfl rfl ?_
      intro _ _
      repeat (first
        | refine qv rfl (qp rfl) rfl rfl ?_ | refine TL_nil ?_ | refine T_seq ?_ | refine T_region ?_ | refine qcT rfl ?_ | refine qcF rfl ?_ | refine T_skip ?_
        | refine T_exit ?_ | refine T_ret ?_ | refine T_block ?_ | refine E_then ?_ | refine E_thenX ?_ | refine E_thenR ?_ | refine E_blockN ?_
        | refine E_blockR ?_ | refine E_blockX ?_ | refine E_blockO rfl ?_ | refine qv rfl (rr_neq (b := true) rfl rfl (decide_eq_true hc')) rfl rfl ?_
        | refine qv rfl (qlen Und.eq rfl) rfl rfl ?_ | refine qv rfl (qfld FldC.fld rfl rfl) rfl rfl ?_
        | refine qv rfl (rr_lss rfl rfl (qT (by omega))) rfl rfl ?_ | refine qv rfl (rr_lss rfl rfl (qF (by omega))) rfl rfl ?_
        | refine qv rfl (rr_geq rfl rfl (qT (by omega))) rfl rfl ?_ | refine qv rfl (rr_geq rfl rfl (qF (by omega))) rfl rfl ?_
        | refine qv rfl (rr_eql rfl rfl (qT (by omega))) rfl rfl ?_ | refine qv rfl (rr_eql rfl rfl (qF (by omega))) rfl rfl ?_
        | refine qv rfl (rr_neq rfl rfl (qT (by omega))) rfl rfl ?_ | refine qv rfl (rr_neq rfl rfl (qF (by omega))) rfl rfl ?_
        | refine qv rfl (rr_add64 rfl rfl (by omega) (by omega) rfl) rfl rfl ?_)
      exact E_ret3e rfl rfl rfl rfl rfl
  · have hr : apartF R tags R' tags' = ([], false, chk R tags) := by unfold apartF; rw [if_pos hc]
    rw [hr]
    clear h h' hr
    generalize chk R tags = e at *
    refine enter (args := [dfaV vr vt, dfaV vr' vt']) (n := 110) Try.func9 rfl rfl rfl ?_
    refine T_seq (T_region (TL_box rfl rfl rfl fun g2 => ?_))
    refine TL_box rfl rfl rfl fun g3 => ?_
    conv => arg 8; simp only [zA, zB, zC, zD, zE, zF, zG, zH, zI, rowS, ret, id_eq]
    repeat (first
      | refine qv rfl (qp rfl) rfl rfl ?_ | refine TL_nil ?_ | refine T_seq ?_ | refine T_region ?_ | refine qcT rfl ?_ | refine qcF rfl ?_ | refine T_skip ?_
      | refine T_exit ?_ | refine T_ret ?_ | refine T_block ?_ | refine E_then ?_ | refine E_thenX ?_ | refine E_thenR ?_ | refine E_blockN ?_
      | refine E_blockR ?_ | refine E_blockX ?_ | refine E_blockO rfl ?_ | refine qv rfl (rr_loadB (i := 0) TyC.ty rfl rfl rfl) rfl rfl ?_
      | refine qv rfl (qlen Und.eq rfl) rfl rfl ?_ | refine qv rfl (qfld FldC.fld rfl rfl) rfl rfl ?_
      | refine qv rfl (rr_lss rfl rfl (qT (by omega))) rfl rfl ?_ | refine qv rfl (rr_lss rfl rfl (qF (by omega))) rfl rfl ?_
      | refine qv rfl (rr_geq rfl rfl (qT (by omega))) rfl rfl ?_ | refine qv rfl (rr_geq rfl rfl (qF (by omega))) rfl rfl ?_
      | refine qv rfl (rr_eql rfl rfl (qT (by omega))) rfl rfl ?_ | refine qv rfl (rr_eql rfl rfl (qF (by omega))) rfl rfl ?_
      | refine qv rfl (rr_neq rfl rfl (qT (by omega))) rfl rfl ?_ | refine qv rfl (rr_neq rfl rfl (qF (by omega))) rfl rfl ?_
      | refine qv rfl (rr_add64 rfl rfl (by omega) (by omega) rfl) rfl rfl ?_)
    refine TL_call (he1 EntersC.en rfl rfl) (fun w hm => hck _ hm.below) rfl rfl rfl ?_
    intro _ _
    repeat (first
      | refine qv rfl (qp rfl) rfl rfl ?_ | refine TL_nil ?_ | refine T_seq ?_ | refine T_region ?_ | refine qcT rfl ?_ | refine qcF rfl ?_ | refine T_skip ?_
      | refine T_exit ?_ | refine T_ret ?_ | refine T_block ?_ | refine E_then ?_ | refine E_thenX ?_ | refine E_thenR ?_ | refine E_blockN ?_
      | refine E_blockR ?_ | refine E_blockX ?_ | refine E_blockO rfl ?_ | refine qv rfl (rr_neq (b := true) rfl rfl (decide_eq_true hc)) rfl rfl ?_
      | refine qv rfl (qlen Und.eq rfl) rfl rfl ?_ | refine qv rfl (qfld FldC.fld rfl rfl) rfl rfl ?_
      | refine qv rfl (rr_lss rfl rfl (qT (by omega))) rfl rfl ?_ | refine qv rfl (rr_lss rfl rfl (qF (by omega))) rfl rfl ?_
      | refine qv rfl (rr_geq rfl rfl (qT (by omega))) rfl rfl ?_ | refine qv rfl (rr_geq rfl rfl (qF (by omega))) rfl rfl ?_
      | refine qv rfl (rr_eql rfl rfl (qT (by omega))) rfl rfl ?_ | refine qv rfl (rr_eql rfl rfl (qF (by omega))) rfl rfl ?_
      | refine qv rfl (rr_neq rfl rfl (qT (by omega))) rfl rfl ?_ | refine qv rfl (rr_neq rfl rfl (qF (by omega))) rfl rfl ?_
      | refine qv rfl (rr_add64 rfl rfl (by omega) (by omega) rfl) rfl rfl ?_)
    exact E_ret3e rfl rfl rfl rfl rfl
end Go.Proofs.Ytbiacehgfmgfdaa.eng
