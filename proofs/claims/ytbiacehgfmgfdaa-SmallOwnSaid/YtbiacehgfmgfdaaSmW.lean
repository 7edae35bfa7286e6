/- What small.blocks computes. -/
import Derived.Test.YtbiacehgfmgfdaaSmK
import Derived.Test.YtbiacehgfmgfdaaMapN
import Derived.Test.YtbiacehgfmgfdaaFam
namespace Go.Proofs.Ytbiacehgfmgfdaa.eng
open Go.RowKit kit mix dfaL smallL
set_option maxRecDepth 100000 in
theorem build_dead (w : World) : (Instr.build 78 #[(1, rowV (Vector.replicate 256 0))]).run Try.prog w = .ok (kindV dead) w := by kernel_rfl
set_option maxRecDepth 100000 in
theorem build_kind (x : Int) (w : World) : (Instr.build 78 #[(0, .int .i64 x)]).run Try.prog w = .ok (kindV (x, Vector.replicate 256 0)) w := by kernel_rfl
theorem wrap16 {x : Int} (h0 : -32768 ≤ x) (h1 : x ≤ 32767) : IntKind.i16.wrap x = x := by
  simp only [IntKind.wrap, IntKind.bits, IntKind.signed]
  simp
  omega
abbrev intV (x : Int) : Value := .int .i64 x
theorem kind_set (x : Int) (r : Row) {b : Nat} (hb : b < 256) (y : Int) : (kindC (x, r)).toArray.setIfInBounds (1 + b) (.int .i16 y) = (kindC (x, r.set b y)).toArray := by
  have e : 1 + b = b + 1 := by omega
  unfold kindC
  rw [e, List.setIfInBounds_toArray, List.set_cons_succ]
  have := row_set r hb y
  rw [List.setIfInBounds_toArray] at this
  have h2 : (rowC r).set b (.int .i16 y) = rowC (r.set b y) := by simpa using this
  rw [h2]
section
variable {P : Program} {n : Nat} {W : Base} {fr : Fr} {L : List Own} {Q : Exit → Act → World → Prop} {ops : Array Oper} {rest : List Oper} {ty : TypeId} {pos : String} {after : Array Edge}
theorem TL_storeK {t : TypeId} {p x : Operand} {i g b : Nat} {y : Int} {r : Row} {T : TypeId} {agg : Bool} {z : Int} [hT : TyC P t agg 1] (hi : L[i]? = some (blkO g (kindC (y, r)).toArray T)) (hp : ev fr p = some (.pointer (some ⟨g, 1 + b, none⟩))) (hx : ev fr x = some (.int .i16 z)) (hb : b < 256)
    (h : TL P n W ops Q rest fr (L.set i (blkO g (kindC (y, r.set b z)).toArray T))) : TL P n W ops Q (⟨none, .store t p x, ty, pos, after, none⟩ :: rest) fr L := by
  refine TL_store1 hi hp hx rfl rfl ?_ ?_
  · rw [List.size_toArray, kindC_len]; exact Nat.blt_eq ▸ (by omega : 1 + b < 257)
  · rw [kind_set y r hb]; exact h
end
/-- the row of a kind, so far -/
def kRow (A : Aut) (now : Nat → Nat) (i b : Nat) : Row := Vector.ofFn fun j : Fin 256 => if j < b then (val now (A.d i j) : Int) else 0
theorem kRow_0 (A : Aut) (now : Nat → Nat) (i : Nat) : kRow A now i 0 = Vector.replicate 256 0 := by
  refine Vector.ext fun j hj => ?_
  unfold kRow; simp
theorem kRow_all (A : Aut) (now : Nat → Nat) (i : Nat) : ((now i : Int), kRow A now i 256) = kind A now i := by
  refine Prod.ext rfl (Vector.ext fun j hj => ?_)
  unfold kRow kind; simp [hj]
theorem kRow_set (A : Aut) (now : Nat → Nat) (i b : Nat) (hb : b < 256) : (kRow A now i b).set b (val now (A.d i b) : Int) = kRow A now i (b + 1) := by
  refine Vector.ext fun j hj => ?_
  unfold kRow
  rw [Vector.getElem_set, Vector.getElem_ofFn, Vector.getElem_ofFn]
  split
  · rename_i e; subst e; simp
  · have : j < b ↔ j < b + 1 := by omega
    simp only [this]
theorem kRow_skip (A : Aut) (now : Nat → Nat) (i b : Nat) (hb : b < 256) (h0 : val now (A.d i b) = 0) : kRow A now i b = kRow A now i (b + 1) := by
  rw [← kRow_set A now i b hb, h0]
  refine Vector.ext fun j hj => ?_
  rw [Vector.getElem_set]
  split
  · rename_i e; subst e; unfold kRow; simp
  · rfl
theorem rowA_0 (e : TypeId) (val : Int → Value) (g len : Nat) (f f' : Nat → Int) (h : ∀ i, i < len → f i = f' i) : rowA e val g len f = rowA e val g len f' := rowA_congr h
/-- on the way of small.blocks -/
structure Rounds (A : Aut) (f n : Nat) (now : Nat → Nat) : Prop where
  eq : blocksF A = blkGo A f n now
  rd : n = 0 ∨ Round A n now
  le : n ≤ A.n + 1
  fuel : A.n + 2 ≤ f + n
  lim : ∀ i, i < A.n → now i ≤ 200
theorem rounds0 {A : Aut} (hA : A.Ok) : Rounds A (A.n + 2) 0 (now0 A) := ⟨rfl, .inl rfl, Nat.zero_le _, by omega, fun i hi => by unfold now0; have := hA.tags i hi; omega⟩
theorem rounds_next {A : Aut} (hA : A.Ok) {f n : Nat} {now : Nat → Nat} (h : Rounds A f n now) : ∃ f', f = f' + 1 ∧ ((tab A now).length = n → blocksF A = next A now) ∧ ((tab A now).length ≠ n → Rounds A f' (tab A now).length (next A now)) := by
  have h1 := h.le
  have h2 := h.fuel
  obtain ⟨f', rfl⟩ : ∃ f', f = f' + 1 := ⟨f - 1, by omega⟩
  have e := h.eq
  unfold blkGo at e
  refine ⟨f', rfl, fun hc => by rw [e, if_pos hc], fun hc => ⟨by rw [e, if_neg hc], .inr ⟨now, rfl, rfl⟩, tab_le now, ?_, fun i hi => ?_⟩⟩
  · have hp := tab_pos (A := A) now
    rcases h.rd with rfl | hr
    · omega
    · have := (round_mono hr).1; omega
  · have := val_next_lt (A := A) (now := now) (q := (i : Int)) (by omega)
    rw [val_nat] at this
    have h3 := tab_le (A := A) now
    have h4 := hA.le
    omega
theorem val_lim {A : Aut} {now : Nat → Nat} (h : ∀ i, i < A.n → now i ≤ 200) {q : Int} (hq : St A q) : val now q ≤ 200 := by
  unfold val
  split
  · omega
  · exact h _ (by unfold St at hq; omega)
theorem kind_ok {A : Aut} (hA : A.Ok) {now : Nat → Nat} (h : ∀ i, i < A.n → now i ≤ 200) {i : Nat} (hi : i < A.n) : kit.okI64 (kind A now i).1 ∧ rowOk (kind A now i).2 := by
  refine ⟨?_, fun b hb => ?_⟩
  · have := h i hi
    show kit.okI64 (now i : Int)
    exact ⟨by omega, by omega⟩
  · have := val_lim h (hA.step i hi b hb)
    unfold kind
    rw [Vector.getElem_ofFn]
    show -32768 ≤ (val now (A.d i b) : Int) ∧ (val now (A.d i b) : Int) ≤ 32767
    omega
/-- keys so far -/
def tabTo (A : Aut) (now : Nat → Nat) (i : Nat) : List Kind := firsts [dead] ((kinds A now).take i)
theorem tabTo_0 (A : Aut) (now : Nat → Nat) : tabTo A now 0 = [dead] := rfl
theorem tabTo_all (A : Aut) (now : Nat → Nat) : tabTo A now A.n = tab A now := by unfold tabTo tab; rw [List.take_of_length_le (by simp [kinds])]
theorem kinds_get (A : Aut) (now : Nat → Nat) {i : Nat} (hi : i < A.n) : ∃ h : i < (kinds A now).length, (kinds A now)[i] = kind A now i := ⟨by simpa [kinds] using hi, by simp [kinds]⟩
theorem tab_old (A : Aut) (now : Nat → Nat) {i : Nat} (hi : i < A.n) (h : kind A now i ∈ tabTo A now i) : tabTo A now (i + 1) = tabTo A now i ∧ next A now i = idx (tabTo A now i) (kind A now i) := by
  obtain ⟨hl, e⟩ := kinds_get A now hi
  have h2 := idx_at (D := [dead]) hl
  unfold tabTo at h
  rw [e, if_pos h] at h2
  refine ⟨?_, h2⟩
  unfold tabTo
  rw [List.take_succ_eq_append_getElem hl, firsts_snoc, e, more, if_pos]
  exact h
theorem tab_new (A : Aut) (now : Nat → Nat) {i : Nat} (hi : i < A.n) (h : kind A now i ∉ tabTo A now i) : tabTo A now (i + 1) = tabTo A now i ++ [kind A now i] ∧ next A now i = (tabTo A now i).length := by
  obtain ⟨hl, e⟩ := kinds_get A now hi
  have h2 := idx_at (D := [dead]) hl
  unfold tabTo at h
  rw [e, if_neg h] at h2
  refine ⟨?_, h2⟩
  unfold tabTo
  rw [List.take_succ_eq_append_getElem hl, firsts_snoc, e, more, if_neg]
  exact h
theorem tabTo_le (A : Aut) (now : Nat → Nat) (i : Nat) : (tabTo A now i).length ≤ A.n + 1 := by
  have h := tab_le (A := A) now
  have e : kinds A now = (kinds A now).take i ++ (kinds A now).drop i := (List.take_append_drop _ _).symm
  have hap : ∀ (a b D : List Kind), firsts D (a ++ b) = firsts (firsts D a) b := by
    intro a
    induction a with
    | nil => intro b D; rfl
    | cons x a ih => intro b D; exact ih b _
  obtain ⟨E, h2⟩ := firsts_pre ((kinds A now).drop i) (tabTo A now i)
  have h3 : tab A now = tabTo A now i ++ E := by
    unfold tab
    rw [e, hap]; exact h2
  rw [h3, List.length_append] at h
  omega
set_option maxRecDepth 100000 in
set_option maxHeartbeats 4000000 in
theorem blocks_calls (vr vt : Value) (R : List Row) (tags : List Int) (w : World) (h : DfaM w vr vt R tags) (hc : chk R tags = 0) :
    Calls Try.prog 33 #[dfaV vr vt] w (Meets ⟨fun _ => True, fun (g : Nat) => .slice (some ⟨g, 0, none⟩) R.length R.length, fun g => [rowA 3 intV g R.length fun i => (blocksF (aut R tags) i : Int)]⟩ w) := by
  obtain ⟨hA, hlt⟩ := chk_ok hc
  obtain ⟨bt, ct, rfl, ht1, ht2, ht3⟩ := h.hT
  obtain ⟨br, cr, rfl, hr1, hr2, hr3⟩ := h.hR
  have en : (aut R tags).n = R.length := rfl
  have hpos : 0 < R.length := hA.pos
  have hle : R.length ≤ 200 := hA.le
  obtain ⟨b, off, rfl, hr⟩ := hr3 hpos
  obtain ⟨bb, ofT, rfl, hrt⟩ := ht3 (by omega)
  unfold maxLen at hr2 ht2
  have htag : ∀ i, i < R.length → (aut R tags).tag i = tags.getD i 0 := fun i _ => rfl
  clear hr3 ht3 h
  refine enter (args := [dfaV (.slice (some ⟨b, off, none⟩) R.length cr) (.slice (some ⟨bb, ofT, none⟩) tags.length ct)]) (n := 98) Try.func33 rfl rfl rfl ?_
  refine T_seq (T_region (TL_box rfl rfl rfl fun g1 => ?_))
  repeat (first
    | refine qv rfl (qp rfl) rfl rfl ?_ | refine TL_nil ?_ | refine T_seq ?_ | refine T_region ?_ | refine qcT rfl ?_ | refine qcF rfl ?_ | refine T_skip ?_
    | refine T_exit ?_ | refine T_ret ?_ | refine T_block ?_ | refine E_then ?_ | refine E_thenX ?_ | refine E_thenR ?_ | refine E_blockN ?_
    | refine E_blockR ?_ | refine E_blockX ?_ | refine E_blockO rfl ?_ | refine qv rfl (rr_load1 TyC.ty rfl (at_blk (i := 0) rfl rfl)) rfl rfl ?_
    | refine qv rfl (qlen Und.eq rfl) rfl rfl ?_ | refine qv rfl (qfld FldC.fld rfl rfl) rfl rfl ?_ | refine qv rfl (rr_not rfl rfl) rfl rfl ?_
    | refine qv rfl (rr_lss rfl rfl (qT (by omega))) rfl rfl ?_ | refine qv rfl (rr_lss rfl rfl (qF (by omega))) rfl rfl ?_
    | refine qv rfl (rr_geq rfl rfl (qT (by omega))) rfl rfl ?_ | refine qv rfl (rr_geq rfl rfl (qF (by omega))) rfl rfl ?_
    | refine qv rfl (rr_eql rfl rfl (qT (by omega))) rfl rfl ?_ | refine qv rfl (rr_eql rfl rfl (qF (by omega))) rfl rfl ?_
    | refine qv rfl (rr_add64 rfl rfl (by omega) (by omega) rfl) rfl rfl ?_)
  refine TL_makeA intV 0 rfl rfl (by omega) (by omega) rfl fun g3 => ?_
  conv => arg 8; simp only [zA, zB, zC, zD, zE, zF, zG, zH, zI, rowS, ret, id_eq]
  repeat (first
    | refine qv rfl (qp rfl) rfl rfl ?_ | refine TL_nil ?_ | refine T_seq ?_ | refine T_region ?_ | refine qcT rfl ?_ | refine qcF rfl ?_ | refine T_skip ?_
    | refine T_exit ?_ | refine T_ret ?_ | refine T_block ?_ | refine E_then ?_ | refine E_thenX ?_ | refine E_thenR ?_ | refine E_blockN ?_
    | refine E_blockR ?_ | refine E_blockX ?_ | refine E_blockO rfl ?_ | refine qv rfl (rr_load1 TyC.ty rfl (at_blk (i := 0) rfl rfl)) rfl rfl ?_
    | refine qv rfl (qlen Und.eq rfl) rfl rfl ?_ | refine qv rfl (qfld FldC.fld rfl rfl) rfl rfl ?_ | refine qv rfl (rr_not rfl rfl) rfl rfl ?_
    | refine qv rfl (rr_lss rfl rfl (qT (by omega))) rfl rfl ?_ | refine qv rfl (rr_lss rfl rfl (qF (by omega))) rfl rfl ?_
    | refine qv rfl (rr_geq rfl rfl (qT (by omega))) rfl rfl ?_ | refine qv rfl (rr_geq rfl rfl (qF (by omega))) rfl rfl ?_
    | refine qv rfl (rr_eql rfl rfl (qT (by omega))) rfl rfl ?_ | refine qv rfl (rr_eql rfl rfl (qF (by omega))) rfl rfl ?_
    | refine qv rfl (rr_add64 rfl rfl (by omega) (by omega) rfl) rfl rfl ?_)
  refine T_loop (ι := Nat) (fun i => i ≤ tags.length) (fun i => [(1, .pointer (some ⟨g1, 0, none⟩)), (3, .slice (some ⟨g3, 0, none⟩) R.length R.length), (22, .slice (some ⟨bb, ofT, none⟩) tags.length ct), (23, .int .i64 (tags.length : Int)), (24, .int .i64 (i : Int))])
    (fun i => [blkO g1 (dfaV (.slice (some ⟨b, off, none⟩) R.length cr) (.slice (some ⟨bb, ofT, none⟩) tags.length ct)).cells 25, rowA 3 intV g3 R.length fun j => if j < i then (now0 (aut R tags) j : Int) else 0]) (fun i => tags.length - i) 0 (Nat.zero_le _) (by repeat' (first | exact True.intro | refine And.intro rfl ?_)) (by rw [rowA_congr (f' := fun j => if j < 0 then (now0 (aut R tags) j : Int) else 0) fun i _ => by simp]) ?_
  intro i hi
  by_cases c1 : i < tags.length
  · have hat := at_el (W := w) (L := [blkO g1 (dfaV (.slice (some ⟨b, off, none⟩) R.length cr) (.slice (some ⟨bb, ofT, none⟩) tags.length ct)).cells 25, rowA 3 intV g3 R.length fun j => if j < i then (now0 (aut R tags) j : Int) else 0]) (c := 1) (f := kit.intC) (fun _ => rfl) hrt c1 0 _ rfl
    have htg := hA.tags i (by omega)
    have h0 : (now0 (aut R tags) i : Int) = tags[i] + 1 := by
      unfold now0
      rw [aut_tag c1] at htg ⊢
      omega
    rw [aut_tag c1] at htg
    generalize tags[i] = x at *
    repeat (first
      | refine qv rfl (qp rfl) rfl rfl ?_ | refine TL_nil ?_ | refine T_seq ?_ | refine T_region ?_ | refine qcT rfl ?_ | refine qcF rfl ?_ | refine T_skip ?_
      | refine T_exit ?_ | refine T_ret ?_ | refine T_block ?_ | refine E_then ?_ | refine E_thenX ?_ | refine E_thenR ?_ | refine E_blockN ?_
      | refine E_blockR ?_ | refine E_blockX ?_ | refine E_blockO rfl ?_ | refine qv rfl (rr_idxc Und.eq TyC.ty rfl rfl c1) rfl rfl ?_
      | refine qv rfl (rr_load1 TyC.ty rfl hat) rfl rfl ?_ | refine qv rfl (rr_idx1 Und.eq TyC.ty rfl rfl (show i < R.length by omega)) rfl rfl ?_
      | refine qv rfl (qlen Und.eq rfl) rfl rfl ?_ | refine qv rfl (qfld FldC.fld rfl rfl) rfl rfl ?_ | refine qv rfl (rr_not rfl rfl) rfl rfl ?_
      | refine qv rfl (rr_lss rfl rfl (qT (by omega))) rfl rfl ?_ | refine qv rfl (rr_lss rfl rfl (qF (by omega))) rfl rfl ?_
      | refine qv rfl (rr_geq rfl rfl (qT (by omega))) rfl rfl ?_ | refine qv rfl (rr_geq rfl rfl (qF (by omega))) rfl rfl ?_
      | refine qv rfl (rr_eql rfl rfl (qT (by omega))) rfl rfl ?_ | refine qv rfl (rr_eql rfl rfl (qF (by omega))) rfl rfl ?_
      | refine qv rfl (rr_add64 rfl rfl (by omega) (by omega) rfl) rfl rfl ?_)
    refine TL_storeA (i := 1) (off := i) (v := x + 1) (fun j => if j < i + 1 then (now0 (aut R tags) j : Int) else 0) TyC.ty rfl rfl rfl rfl rfl (by omega) (fun j hj => ?_) ?_
    · by_cases e : j = i
      · subst e; rw [if_pos (by omega), if_pos rfl, h0]
      · rw [if_neg e]
        have : j < i + 1 ↔ j < i := by omega
        simp only [this]
    conv => arg 8; simp only [zA, zB, zC, zD, zE, zF, zG, zH, zI, rowS, ret, id_eq]
    repeat (first
      | refine qv rfl (qp rfl) rfl rfl ?_ | refine TL_nil ?_ | refine T_seq ?_ | refine T_region ?_ | refine qcT rfl ?_ | refine qcF rfl ?_ | refine T_skip ?_
      | refine T_exit ?_ | refine T_ret ?_ | refine T_block ?_ | refine E_then ?_ | refine E_thenX ?_ | refine E_thenR ?_ | refine E_blockN ?_
      | refine E_blockR ?_ | refine E_blockX ?_ | refine E_blockO rfl ?_ | refine qv rfl (qlen Und.eq rfl) rfl rfl ?_
      | refine qv rfl (qfld FldC.fld rfl rfl) rfl rfl ?_ | refine qv rfl (rr_not rfl rfl) rfl rfl ?_
      | refine qv rfl (rr_lss rfl rfl (qT (by omega))) rfl rfl ?_ | refine qv rfl (rr_lss rfl rfl (qF (by omega))) rfl rfl ?_
      | refine qv rfl (rr_geq rfl rfl (qT (by omega))) rfl rfl ?_ | refine qv rfl (rr_geq rfl rfl (qF (by omega))) rfl rfl ?_
      | refine qv rfl (rr_eql rfl rfl (qT (by omega))) rfl rfl ?_ | refine qv rfl (rr_eql rfl rfl (qF (by omega))) rfl rfl ?_
      | refine qv rfl (rr_add64 rfl rfl (by omega) (by omega) rfl) rfl rfl ?_)
    exact E_round (i + 1) (by omega) (by show tags.length - (i + 1) < tags.length - i; omega) (by repeat' (first | exact True.intro | refine And.intro rfl ?_)) rfl
  · obtain rfl : i = tags.length := by omega
    rw [rowA_congr (f' := fun j => (now0 (aut R tags) j : Int)) fun j hj => if_pos (show j < tags.length by omega)]
    clear c1 hi
    repeat (first
      | refine qv rfl (qp rfl) rfl rfl ?_ | refine TL_nil ?_ | refine T_seq ?_ | refine T_region ?_ | refine qcT rfl ?_ | refine qcF rfl ?_ | refine T_skip ?_
      | refine T_exit ?_ | refine T_ret ?_ | refine T_block ?_ | refine E_then ?_ | refine E_thenX ?_ | refine E_thenR ?_ | refine E_blockN ?_
      | refine E_blockR ?_ | refine E_blockX ?_ | refine E_blockO rfl ?_ | refine qv rfl (qlen Und.eq rfl) rfl rfl ?_
      | refine qv rfl (qfld FldC.fld rfl rfl) rfl rfl ?_ | refine qv rfl (rr_not rfl rfl) rfl rfl ?_
      | refine qv rfl (rr_lss rfl rfl (qT (by omega))) rfl rfl ?_ | refine qv rfl (rr_lss rfl rfl (qF (by omega))) rfl rfl ?_
      | refine qv rfl (rr_geq rfl rfl (qT (by omega))) rfl rfl ?_ | refine qv rfl (rr_geq rfl rfl (qF (by omega))) rfl rfl ?_
      | refine qv rfl (rr_eql rfl rfl (qT (by omega))) rfl rfl ?_ | refine qv rfl (rr_eql rfl rfl (qF (by omega))) rfl rfl ?_
      | refine qv rfl (rr_add64 rfl rfl (by omega) (by omega) rfl) rfl rfl ?_)
    refine T_loop (ι := Nat × Nat × (Nat → Nat) × Nat) (fun (f, c, now, _) => Rounds (aut R tags) f c now) (fun (_, c, _, g3) => [(1, .pointer (some ⟨g1, 0, none⟩)), (3, .slice (some ⟨g3, 0, none⟩) R.length R.length), (6, .int .i64 (c : Int))])
      (fun (_, _, now, g3) => [blkO g1 (dfaV (.slice (some ⟨b, off, none⟩) R.length cr) (.slice (some ⟨bb, ofT, none⟩) tags.length ct)).cells 25, rowA 3 intV g3 R.length fun j => (now j : Int)]) (fun (f, _, _, _) => f) (R.length + 2, 0, now0 (aut R tags), g3) (rounds0 hA) (by repeat' (first | exact True.intro | refine And.intro rfl ?_)) rfl ?_
    clear g3
    rintro ⟨f, c, now, g3⟩ hrd
    dsimp only at hrd ⊢
    obtain ⟨f', rfl, hend, hgo⟩ := rounds_next hA hrd
    have hlim := hrd.lim
    have hall := smAll_calls 0
    clear hrd
    have hc201 := tab_le (A := aut R tags) now
    rw [en] at hc201
    repeat (first
      | refine qv rfl (qp rfl) rfl rfl ?_ | refine TL_nil ?_ | refine T_seq ?_ | refine T_region ?_ | refine qcT rfl ?_ | refine qcF rfl ?_ | refine T_skip ?_
      | refine T_exit ?_ | refine T_ret ?_ | refine T_block ?_ | refine E_then ?_ | refine E_thenX ?_ | refine E_thenR ?_ | refine E_blockN ?_
      | refine E_blockR ?_ | refine E_blockX ?_ | refine E_blockO rfl ?_ | refine qv rfl (qlen Und.eq rfl) rfl rfl ?_
      | refine qv rfl (qfld FldC.fld rfl rfl) rfl rfl ?_ | refine qv rfl (rr_not rfl rfl) rfl rfl ?_
      | refine qv rfl (rr_lss rfl rfl (qT (by omega))) rfl rfl ?_ | refine qv rfl (rr_lss rfl rfl (qF (by omega))) rfl rfl ?_
      | refine qv rfl (rr_geq rfl rfl (qT (by omega))) rfl rfl ?_ | refine qv rfl (rr_geq rfl rfl (qF (by omega))) rfl rfl ?_
      | refine qv rfl (rr_eql rfl rfl (qT (by omega))) rfl rfl ?_ | refine qv rfl (rr_eql rfl rfl (qF (by omega))) rfl rfl ?_
      | refine qv rfl (rr_add64 rfl rfl (by omega) (by omega) rfl) rfl rfl ?_)
    refine TL_mapNew (K := kindK) rfl fun gm => ?_
    conv => arg 8; simp only [zA, zB, zC, zD, zE, zF, zG, zH, zI, rowS, ret, id_eq]
    repeat (first
      | refine qv rfl (qp rfl) rfl rfl ?_ | refine TL_nil ?_ | refine T_seq ?_ | refine T_region ?_ | refine qcT rfl ?_ | refine qcF rfl ?_ | refine T_skip ?_
      | refine T_exit ?_ | refine T_ret ?_ | refine T_block ?_ | refine E_then ?_ | refine E_thenX ?_ | refine E_thenR ?_ | refine E_blockN ?_
      | refine E_blockR ?_ | refine E_blockX ?_ | refine E_blockO rfl ?_ | refine qv rfl (qlen Und.eq rfl) rfl rfl ?_
      | refine qv rfl (qfld FldC.fld rfl rfl) rfl rfl ?_ | refine qv rfl (rr_not rfl rfl) rfl rfl ?_
      | refine qv rfl (rr_lss rfl rfl (qT (by omega))) rfl rfl ?_ | refine qv rfl (rr_lss rfl rfl (qF (by omega))) rfl rfl ?_
      | refine qv rfl (rr_geq rfl rfl (qT (by omega))) rfl rfl ?_ | refine qv rfl (rr_geq rfl rfl (qF (by omega))) rfl rfl ?_
      | refine qv rfl (rr_eql rfl rfl (qT (by omega))) rfl rfl ?_ | refine qv rfl (rr_eql rfl rfl (qF (by omega))) rfl rfl ?_
      | refine qv rfl (rr_add64 rfl rfl (by omega) (by omega) rfl) rfl rfl ?_)
    refine TL_call (he1 EntersC.en rfl rfl) (fun w hm => hall _) rfl rfl rfl ?_
    intro _ _
    repeat (first
      | refine qv rfl (qp rfl) rfl rfl ?_ | refine TL_nil ?_ | refine T_seq ?_ | refine T_region ?_ | refine qcT rfl ?_ | refine qcF rfl ?_ | refine T_skip ?_
      | refine T_exit ?_ | refine T_ret ?_ | refine T_block ?_ | refine E_then ?_ | refine E_thenX ?_ | refine E_thenR ?_ | refine E_blockN ?_
      | refine E_blockR ?_ | refine E_blockX ?_ | refine E_blockO rfl ?_ | refine qv rfl (rr_build rfl build_dead) rfl rfl ?_
      | refine qv rfl (qlen Und.eq rfl) rfl rfl ?_ | refine qv rfl (qfld FldC.fld rfl rfl) rfl rfl ?_ | refine qv rfl (rr_not rfl rfl) rfl rfl ?_
      | refine qv rfl (rr_lss rfl rfl (qT (by omega))) rfl rfl ?_ | refine qv rfl (rr_lss rfl rfl (qF (by omega))) rfl rfl ?_
      | refine qv rfl (rr_geq rfl rfl (qT (by omega))) rfl rfl ?_ | refine qv rfl (rr_geq rfl rfl (qF (by omega))) rfl rfl ?_
      | refine qv rfl (rr_eql rfl rfl (qT (by omega))) rfl rfl ?_ | refine qv rfl (rr_eql rfl rfl (qF (by omega))) rfl rfl ?_
      | refine qv rfl (rr_add64 rfl rfl (by omega) (by omega) rfl) rfl rfl ?_)
    refine TL_new rfl fun g8 => ?_
    conv => arg 8; simp only [zA, zB, zC, zD, zE, zF, zG, zH, zI, rowS, ret, id_eq]
    refine TL_storeB (i := 3) (cs' := (kindC dead).toArray) rfl rfl rfl (by rw [List.size_toArray, kindC_len]) (by kernel_rfl) (by kernel_rfl) ?_
    conv => arg 8; simp only [zA, zB, zC, zD, zE, zF, zG, zH, zI, rowS, ret, id_eq]
    repeat (first
      | refine qv rfl (qp rfl) rfl rfl ?_ | refine TL_nil ?_ | refine T_seq ?_ | refine T_region ?_ | refine qcT rfl ?_ | refine qcF rfl ?_ | refine T_skip ?_
      | refine T_exit ?_ | refine T_ret ?_ | refine T_block ?_ | refine E_then ?_ | refine E_thenX ?_ | refine E_thenR ?_ | refine E_blockN ?_
      | refine E_blockR ?_ | refine E_blockX ?_ | refine E_blockO rfl ?_
      | refine qv rfl (rr_loadB (i := 3) TyC.ty rfl rfl (by rw [List.size_toArray, kindC_len])) rfl rfl ?_ | refine qv rfl (qlen Und.eq rfl) rfl rfl ?_
      | refine qv rfl (qfld FldC.fld rfl rfl) rfl rfl ?_ | refine qv rfl (rr_not rfl rfl) rfl rfl ?_
      | refine qv rfl (rr_lss rfl rfl (qT (by omega))) rfl rfl ?_ | refine qv rfl (rr_lss rfl rfl (qF (by omega))) rfl rfl ?_
      | refine qv rfl (rr_geq rfl rfl (qT (by omega))) rfl rfl ?_ | refine qv rfl (rr_geq rfl rfl (qF (by omega))) rfl rfl ?_
      | refine qv rfl (rr_eql rfl rfl (qT (by omega))) rfl rfl ?_ | refine qv rfl (rr_eql rfl rfl (qF (by omega))) rfl rfl ?_
      | refine qv rfl (rr_add64 rfl rfl (by omega) (by omega) rfl) rfl rfl ?_)
    refine TL_mapNum (K := kindK) (i := 2) (D := []) (x := dead) Und.eq rfl rfl rfl rfl ⟨⟨by decide, by decide⟩, fun b hb => by show -32768 ≤ (Vector.replicate 256 (0 : Int))[b] ∧ (Vector.replicate 256 (0 : Int))[b] ≤ 32767; rw [Vector.getElem_replicate]; decide⟩ (by simp) (by decide) ?_
    conv => arg 8; simp only [zA, zB, zC, zD, zE, zF, zG, zH, zI, rowS, ret, id_eq]
    refine TL_pick [0, 1, 2] (by decide) rfl ?_
    repeat (first
      | refine qv rfl (qp rfl) rfl rfl ?_ | refine TL_nil ?_ | refine T_seq ?_ | refine T_region ?_ | refine qcT rfl ?_ | refine qcF rfl ?_ | refine T_skip ?_
      | refine T_exit ?_ | refine T_ret ?_ | refine T_block ?_ | refine E_then ?_ | refine E_thenX ?_ | refine E_thenR ?_ | refine E_blockN ?_
      | refine E_blockR ?_ | refine E_blockX ?_ | refine E_blockO rfl ?_ | refine qv rfl (qlen Und.eq rfl) rfl rfl ?_
      | refine qv rfl (qfld FldC.fld rfl rfl) rfl rfl ?_ | refine qv rfl (rr_not rfl rfl) rfl rfl ?_
      | refine qv rfl (rr_lss rfl rfl (qT (by omega))) rfl rfl ?_ | refine qv rfl (rr_lss rfl rfl (qF (by omega))) rfl rfl ?_
      | refine qv rfl (rr_geq rfl rfl (qT (by omega))) rfl rfl ?_ | refine qv rfl (rr_geq rfl rfl (qF (by omega))) rfl rfl ?_
      | refine qv rfl (rr_eql rfl rfl (qT (by omega))) rfl rfl ?_ | refine qv rfl (rr_eql rfl rfl (qF (by omega))) rfl rfl ?_
      | refine qv rfl (rr_add64 rfl rfl (by omega) (by omega) rfl) rfl rfl ?_)
    refine TL_makeA intV 0 rfl rfl (by omega) (by omega) rfl fun g9 => ?_
    conv => arg 8; simp only [zA, zB, zC, zD, zE, zF, zG, zH, zI, rowS, ret, id_eq]
    repeat (first
      | refine qv rfl (qp rfl) rfl rfl ?_ | refine TL_nil ?_ | refine T_seq ?_ | refine T_region ?_ | refine qcT rfl ?_ | refine qcF rfl ?_ | refine T_skip ?_
      | refine T_exit ?_ | refine T_ret ?_ | refine T_block ?_ | refine E_then ?_ | refine E_thenX ?_ | refine E_thenR ?_ | refine E_blockN ?_
      | refine E_blockR ?_ | refine E_blockX ?_ | refine E_blockO rfl ?_ | refine qv rfl (rr_load1 TyC.ty rfl (at_blk (i := 0) rfl rfl)) rfl rfl ?_
      | refine qv rfl (qlen Und.eq rfl) rfl rfl ?_ | refine qv rfl (qfld FldC.fld rfl rfl) rfl rfl ?_ | refine qv rfl (rr_not rfl rfl) rfl rfl ?_
      | refine qv rfl (rr_lss rfl rfl (qT (by omega))) rfl rfl ?_ | refine qv rfl (rr_lss rfl rfl (qF (by omega))) rfl rfl ?_
      | refine qv rfl (rr_geq rfl rfl (qT (by omega))) rfl rfl ?_ | refine qv rfl (rr_geq rfl rfl (qF (by omega))) rfl rfl ?_
      | refine qv rfl (rr_eql rfl rfl (qT (by omega))) rfl rfl ?_ | refine qv rfl (rr_eql rfl rfl (qF (by omega))) rfl rfl ?_
      | refine qv rfl (rr_add64 rfl rfl (by omega) (by omega) rfl) rfl rfl ?_)
    refine T_loop (ι := Nat) (fun i => i ≤ R.length) (fun i => [(1, .pointer (some ⟨g1, 0, none⟩)), (3, .slice (some ⟨g3, 0, none⟩) R.length R.length), (6, .int .i64 (c : Int)), (7, .map (some gm)), (9, .slice (some ⟨g9, 0, none⟩) R.length R.length), (44, .slice (some ⟨b, off, none⟩) R.length cr), (45, .int .i64 (R.length : Int)), (46, .int .i64 (i : Int))])
      (fun i => [blkO g1 (dfaV (.slice (some ⟨b, off, none⟩) R.length cr) (.slice (some ⟨bb, ofT, none⟩) tags.length ct)).cells 25, rowA 3 intV g3 R.length fun j => (now j : Int), mapO kindK gm (mapAt (tabTo (aut R tags) now i)) (tabTo (aut R tags) now i).length, rowA 3 intV g9 R.length fun j => if j < i then (next (aut R tags) now j : Int) else 0]) (fun i => R.length - i) 0 (Nat.zero_le _) (by repeat' (first | exact True.intro | refine And.intro rfl ?_)) (by rw [rowA_congr (g := g9) (f := fun _ => (0 : Int)) (f' := fun j => if j < 0 then (next (aut R tags) now j : Int) else 0) fun i _ => by simp]; rfl) ?_
    intro i hi
    by_cases c2 : i < R.length
    · have hat := at_el (W := w) (L := [blkO g1 (dfaV (.slice (some ⟨b, off, none⟩) R.length cr) (.slice (some ⟨bb, ofT, none⟩) tags.length ct)).cells 25, rowA 3 intV g3 R.length fun j => (now j : Int), mapO kindK gm (mapAt (tabTo (aut R tags) now i)) (tabTo (aut R tags) now i).length, rowA 3 intV g9 R.length fun j => if j < i then (next (aut R tags) now j : Int) else 0]) rowC_len hr c2
      have hrow : ∀ (q : Nat) (hq : q < 256), (aut R tags).d i q = (R[i])[q] := fun q hq => aut_d c2 hq
      have hst : ∀ b, b < 256 → St (aut R tags) ((aut R tags).d i b) := fun b hb => hA.step i c2 b hb
      generalize R[i] = r at *
      repeat (first
        | refine qv rfl (qp rfl) rfl rfl ?_ | refine TL_nil ?_ | refine T_seq ?_ | refine T_region ?_ | refine qcT rfl ?_ | refine qcF rfl ?_ | refine T_skip ?_
        | refine T_exit ?_ | refine T_ret ?_ | refine T_block ?_ | refine E_then ?_ | refine E_thenX ?_ | refine E_thenR ?_ | refine E_blockN ?_
        | refine E_blockR ?_ | refine E_blockX ?_ | refine E_blockO rfl ?_ | refine qv rfl (rr_idxc Und.eq TyC.ty rfl rfl c2) rfl rfl ?_
        | refine qv rfl (rr_loadN TyC.ty rfl (rowC_len r) hat) rfl rfl ?_ | refine qv rfl (qlen Und.eq rfl) rfl rfl ?_
        | refine qv rfl (qfld FldC.fld rfl rfl) rfl rfl ?_ | refine qv rfl (rr_not rfl rfl) rfl rfl ?_
        | refine qv rfl (rr_lss rfl rfl (qT (by omega))) rfl rfl ?_ | refine qv rfl (rr_lss rfl rfl (qF (by omega))) rfl rfl ?_
        | refine qv rfl (rr_geq rfl rfl (qT (by omega))) rfl rfl ?_ | refine qv rfl (rr_geq rfl rfl (qF (by omega))) rfl rfl ?_
        | refine qv rfl (rr_eql rfl rfl (qT (by omega))) rfl rfl ?_ | refine qv rfl (rr_eql rfl rfl (qF (by omega))) rfl rfl ?_
        | refine qv rfl (rr_add64 rfl rfl (by omega) (by omega) rfl) rfl rfl ?_)
      refine TL_new rfl fun g11 => ?_
      conv => arg 8; simp only [zA, zB, zC, zD, zE, zF, zG, zH, zI, rowS, ret, id_eq]
      repeat (first
        | refine qv rfl (qp rfl) rfl rfl ?_ | refine TL_nil ?_ | refine T_seq ?_ | refine T_region ?_ | refine qcT rfl ?_ | refine qcF rfl ?_ | refine T_skip ?_
        | refine T_exit ?_ | refine T_ret ?_ | refine T_block ?_ | refine E_then ?_ | refine E_thenX ?_ | refine E_thenR ?_ | refine E_blockN ?_
        | refine E_blockR ?_ | refine E_blockX ?_ | refine E_blockO rfl ?_ | refine qv rfl (qlen Und.eq rfl) rfl rfl ?_
        | refine qv rfl (qfld FldC.fld rfl rfl) rfl rfl ?_ | refine qv rfl (rr_not rfl rfl) rfl rfl ?_
        | refine qv rfl (rr_lss rfl rfl (qT (by omega))) rfl rfl ?_ | refine qv rfl (rr_lss rfl rfl (qF (by omega))) rfl rfl ?_
        | refine qv rfl (rr_geq rfl rfl (qT (by omega))) rfl rfl ?_ | refine qv rfl (rr_geq rfl rfl (qF (by omega))) rfl rfl ?_
        | refine qv rfl (rr_eql rfl rfl (qT (by omega))) rfl rfl ?_ | refine qv rfl (rr_eql rfl rfl (qF (by omega))) rfl rfl ?_
        | refine qv rfl (rr_add64 rfl rfl (by omega) (by omega) rfl) rfl rfl ?_)
      refine TL_storeB (i := 4) (cs' := (rowC r).toArray) rfl rfl rfl (by rw [List.size_toArray, rowC_len]) (by simpa using row_one1 r) (by kernel_rfl) ?_
      conv => arg 8; simp only [zA, zB, zC, zD, zE, zF, zG, zH, zI, rowS, ret, id_eq]
      have hln := hlim i c2
      repeat (first
        | refine qv rfl (qp rfl) rfl rfl ?_ | refine TL_nil ?_ | refine T_seq ?_ | refine T_region ?_ | refine qcT rfl ?_ | refine qcF rfl ?_ | refine T_skip ?_
        | refine T_exit ?_ | refine T_ret ?_ | refine T_block ?_ | refine E_then ?_ | refine E_thenX ?_ | refine E_thenR ?_ | refine E_blockN ?_
        | refine E_blockR ?_ | refine E_blockX ?_ | refine E_blockO rfl ?_ | refine qv rfl (rr_idx1 Und.eq TyC.ty rfl rfl c2) rfl rfl ?_
        | refine qv rfl (rr_load1 TyC.ty rfl (at_rowA (i := 1) rfl c2)) rfl rfl ?_ | refine qv rfl (rr_build rfl (build_kind _)) rfl rfl ?_
        | refine qv rfl (qlen Und.eq rfl) rfl rfl ?_ | refine qv rfl (qfld FldC.fld rfl rfl) rfl rfl ?_ | refine qv rfl (rr_not rfl rfl) rfl rfl ?_
        | refine qv rfl (rr_lss rfl rfl (qT (by omega))) rfl rfl ?_ | refine qv rfl (rr_lss rfl rfl (qF (by omega))) rfl rfl ?_
        | refine qv rfl (rr_geq rfl rfl (qT (by omega))) rfl rfl ?_ | refine qv rfl (rr_geq rfl rfl (qF (by omega))) rfl rfl ?_
        | refine qv rfl (rr_eql rfl rfl (qT (by omega))) rfl rfl ?_ | refine qv rfl (rr_eql rfl rfl (qF (by omega))) rfl rfl ?_
        | refine qv rfl (rr_add64 rfl rfl (by omega) (by omega) rfl) rfl rfl ?_)
      refine TL_new rfl fun g12 => ?_
      conv => arg 8; simp only [zA, zB, zC, zD, zE, zF, zG, zH, zI, rowS, ret, id_eq]
      refine TL_storeB (i := 5) (cs' := (kindC ((now i : Int), Vector.replicate 256 0)).toArray) rfl rfl rfl (by rw [List.size_toArray, kindC_len]) (by rw [← List.all_toArray]; kernel_rfl) (by kernel_rfl) ?_
      conv => arg 8; simp only [zA, zB, zC, zD, zE, zF, zG, zH, zI, rowS, ret, id_eq]
      repeat (first
        | refine qv rfl (qp rfl) rfl rfl ?_ | refine TL_nil ?_ | refine T_seq ?_ | refine T_region ?_ | refine qcT rfl ?_ | refine qcF rfl ?_ | refine T_skip ?_
        | refine T_exit ?_ | refine T_ret ?_ | refine T_block ?_ | refine E_then ?_ | refine E_thenX ?_ | refine E_thenR ?_ | refine E_blockN ?_
        | refine E_blockR ?_ | refine E_blockX ?_ | refine E_blockO rfl ?_
        | refine qv rfl (rr_loadB (i := 4) TyC.ty rfl rfl (by rw [List.size_toArray, rowC_len])) rfl rfl ?_ | refine qv rfl (qlen Und.eq rfl) rfl rfl ?_
        | refine qv rfl (qfld FldC.fld rfl rfl) rfl rfl ?_ | refine qv rfl (rr_not rfl rfl) rfl rfl ?_
        | refine qv rfl (rr_lss rfl rfl (qT (by omega))) rfl rfl ?_ | refine qv rfl (rr_lss rfl rfl (qF (by omega))) rfl rfl ?_
        | refine qv rfl (rr_geq rfl rfl (qT (by omega))) rfl rfl ?_ | refine qv rfl (rr_geq rfl rfl (qF (by omega))) rfl rfl ?_
        | refine qv rfl (rr_eql rfl rfl (qT (by omega))) rfl rfl ?_ | refine qv rfl (rr_eql rfl rfl (qF (by omega))) rfl rfl ?_
        | refine qv rfl (rr_add64 rfl rfl (by omega) (by omega) rfl) rfl rfl ?_)
      rw [← kRow_0 (aut R tags) now i]
      refine T_pick [0, 1, 2, 3, 5] (by decide) rfl ?_
      refine T_loop (ι := Nat) (fun q => q ≤ 256) (fun q => [(1, .pointer (some ⟨g1, 0, none⟩)), (3, .slice (some ⟨g3, 0, none⟩) R.length R.length), (6, .int .i64 (c : Int)), (7, .map (some gm)), (9, .slice (some ⟨g9, 0, none⟩) R.length R.length), (44, .slice (some ⟨b, off, none⟩) R.length cr), (45, .int .i64 (R.length : Int)), (46, .int .i64 (i : Int)), (10, .int .i64 (i : Int)), (12, .pointer (some ⟨g12, 0, none⟩)), (56, rowV r), (57, .int .i64 (q : Int))])
        (fun q => [blkO g1 (dfaV (.slice (some ⟨b, off, none⟩) R.length cr) (.slice (some ⟨bb, ofT, none⟩) tags.length ct)).cells 25, rowA 3 intV g3 R.length fun j => (now j : Int), mapO kindK gm (mapAt (tabTo (aut R tags) now i)) (tabTo (aut R tags) now i).length, rowA 3 intV g9 R.length fun j => if j < i then (next (aut R tags) now j : Int) else 0, blkO g12 (kindC ((now i : Int), kRow (aut R tags) now i q)).toArray 78]) (fun q => 256 - q) 0 (Nat.zero_le _) (by repeat' (first | exact True.intro | refine And.intro rfl ?_)) rfl ?_
      intro q hq
      by_cases c3 : q < 256
      · have hcell : (rowC r).toArray[q]? = some (.int .i16 r[q]) := by rw [List.getElem?_toArray]; exact rowC_get r c3
        have hdq := hrow q c3
        have hsq := hst q c3
        have hset := kRow_set (aut R tags) now i q c3
        have hskip := kRow_skip (aut R tags) now i q c3
        rw [hdq] at hsq hset hskip
        clear hdq hrow hst
        generalize r[q] = x at *
        unfold St at hsq
        by_cases c4 : x < 0
        · have hv : val now x = 0 := by unfold val; rw [if_pos c4]
          rw [hskip hv]
          repeat (first
            | refine qv rfl (qp rfl) rfl rfl ?_ | refine TL_nil ?_ | refine T_seq ?_ | refine T_region ?_ | refine qcT rfl ?_ | refine qcF rfl ?_ | refine T_skip ?_
            | refine T_exit ?_ | refine T_ret ?_ | refine T_block ?_ | refine E_then ?_ | refine E_thenX ?_ | refine E_thenR ?_ | refine E_blockN ?_
            | refine E_blockR ?_ | refine E_blockX ?_ | refine E_blockO rfl ?_ | refine qv rfl (rr_arridx Und.eq TyC.ty rfl rfl c3 hcell) rfl rfl ?_
            | refine qv rfl (qlen Und.eq rfl) rfl rfl ?_ | refine qv rfl (qfld FldC.fld rfl rfl) rfl rfl ?_ | refine qv rfl (rr_not rfl rfl) rfl rfl ?_
            | refine qv rfl (rr_lss rfl rfl (qT (by omega))) rfl rfl ?_ | refine qv rfl (rr_lss rfl rfl (qF (by omega))) rfl rfl ?_
            | refine qv rfl (rr_geq rfl rfl (qT (by omega))) rfl rfl ?_ | refine qv rfl (rr_geq rfl rfl (qF (by omega))) rfl rfl ?_
            | refine qv rfl (rr_eql rfl rfl (qT (by omega))) rfl rfl ?_ | refine qv rfl (rr_eql rfl rfl (qF (by omega))) rfl rfl ?_
            | refine qv rfl (rr_add64 rfl rfl (by omega) (by omega) rfl) rfl rfl ?_)
          exact E_round (q + 1) (by omega) (by show 256 - (q + 1) < 256 - q; omega) (by repeat' (first | exact True.intro | refine And.intro rfl ?_)) rfl
        · obtain ⟨m, rfl⟩ : ∃ m : Nat, x = m := ⟨x.toNat, by omega⟩
          have hm : m < R.length := by omega
          have hlm := hlim m hm
          rw [val_nat] at hset
          repeat (first
            | refine qv rfl (qp rfl) rfl rfl ?_ | refine TL_nil ?_ | refine T_seq ?_ | refine T_region ?_ | refine qcT rfl ?_ | refine qcF rfl ?_ | refine T_skip ?_
            | refine T_exit ?_ | refine T_ret ?_ | refine T_block ?_ | refine E_then ?_ | refine E_thenX ?_ | refine E_thenR ?_ | refine E_blockN ?_
            | refine E_blockR ?_ | refine E_blockX ?_ | refine E_blockO rfl ?_ | refine qv rfl (rr_arridx Und.eq TyC.ty rfl rfl c3 hcell) rfl rfl ?_
            | refine qv rfl (rr_idx1 Und.eq TyC.ty rfl rfl hm) rfl rfl ?_ | refine qv rfl (rr_load1 TyC.ty rfl (at_rowA (i := 1) rfl hm)) rfl rfl ?_
            | refine qv rfl (rr_conv Und.eq Und.eq rfl (wrap16 (by omega) (by omega))) rfl rfl ?_ | refine qv rfl (rr_aidx1 Und.eq TyC.ty rfl rfl c3) rfl rfl ?_
            | refine qv rfl (qlen Und.eq rfl) rfl rfl ?_ | refine qv rfl (qfld FldC.fld rfl rfl) rfl rfl ?_ | refine qv rfl (rr_not rfl rfl) rfl rfl ?_
            | refine qv rfl (rr_lss rfl rfl (qT (by omega))) rfl rfl ?_ | refine qv rfl (rr_lss rfl rfl (qF (by omega))) rfl rfl ?_
            | refine qv rfl (rr_geq rfl rfl (qT (by omega))) rfl rfl ?_ | refine qv rfl (rr_geq rfl rfl (qF (by omega))) rfl rfl ?_
            | refine qv rfl (rr_eql rfl rfl (qT (by omega))) rfl rfl ?_ | refine qv rfl (rr_eql rfl rfl (qF (by omega))) rfl rfl ?_
            | refine qv rfl (rr_add64 rfl rfl (by omega) (by omega) rfl) rfl rfl ?_)
          refine TL_storeK (i := 4) rfl rfl rfl c3 ?_
          rw [hset]
          conv => arg 8; simp only [zA, zB, zC, zD, zE, zF, zG, zH, zI, rowS, ret, id_eq]
          repeat (first
            | refine qv rfl (qp rfl) rfl rfl ?_ | refine TL_nil ?_ | refine T_seq ?_ | refine T_region ?_ | refine qcT rfl ?_ | refine qcF rfl ?_ | refine T_skip ?_
            | refine T_exit ?_ | refine T_ret ?_ | refine T_block ?_ | refine E_then ?_ | refine E_thenX ?_ | refine E_thenR ?_ | refine E_blockN ?_
            | refine E_blockR ?_ | refine E_blockX ?_ | refine E_blockO rfl ?_ | refine qv rfl (qlen Und.eq rfl) rfl rfl ?_
            | refine qv rfl (qfld FldC.fld rfl rfl) rfl rfl ?_ | refine qv rfl (rr_not rfl rfl) rfl rfl ?_
            | refine qv rfl (rr_lss rfl rfl (qT (by omega))) rfl rfl ?_ | refine qv rfl (rr_lss rfl rfl (qF (by omega))) rfl rfl ?_
            | refine qv rfl (rr_geq rfl rfl (qT (by omega))) rfl rfl ?_ | refine qv rfl (rr_geq rfl rfl (qF (by omega))) rfl rfl ?_
            | refine qv rfl (rr_eql rfl rfl (qT (by omega))) rfl rfl ?_ | refine qv rfl (rr_eql rfl rfl (qF (by omega))) rfl rfl ?_
            | refine qv rfl (rr_add64 rfl rfl (by omega) (by omega) rfl) rfl rfl ?_)
          exact E_round (q + 1) (by omega) (by show 256 - (q + 1) < 256 - q; omega) (by repeat' (first | exact True.intro | refine And.intro rfl ?_)) rfl
      · obtain rfl : q = 256 := by omega
        rw [kRow_all]
        have hok := kind_ok hA hlim (i := i) c2
        by_cases c5 : kind (aut R tags) now i ∈ tabTo (aut R tags) now i
        · obtain ⟨e1, e2⟩ := tab_old (aut R tags) now (i := i) c2 c5
          generalize kind (aut R tags) now i = k at *
          repeat (first
            | refine qv rfl (qp rfl) rfl rfl ?_ | refine TL_nil ?_ | refine T_seq ?_ | refine T_region ?_ | refine qcT rfl ?_ | refine qcF rfl ?_ | refine T_skip ?_
            | refine T_exit ?_ | refine T_ret ?_ | refine T_block ?_ | refine E_then ?_ | refine E_thenX ?_ | refine E_thenR ?_ | refine E_blockN ?_
            | refine E_blockR ?_ | refine E_blockX ?_ | refine E_blockO rfl ?_
            | refine qv rfl (rr_loadB (i := 4) TyC.ty rfl rfl (by rw [List.size_toArray, kindC_len])) rfl rfl ?_
            | refine qv rfl (rr_lookNumS (K := kindK) (i := 2) (x := k) Und.eq zeroI rfl rfl rfl hok c5) rfl rfl ?_
            | refine qv rfl (rr_idx1 Und.eq TyC.ty rfl rfl c2) rfl rfl ?_ | refine qv rfl (qlen Und.eq rfl) rfl rfl ?_
            | refine qv rfl (qfld FldC.fld rfl rfl) rfl rfl ?_ | refine qv rfl (rr_not rfl rfl) rfl rfl ?_
            | refine qv rfl (rr_lss rfl rfl (qT (by omega))) rfl rfl ?_ | refine qv rfl (rr_lss rfl rfl (qF (by omega))) rfl rfl ?_
            | refine qv rfl (rr_geq rfl rfl (qT (by omega))) rfl rfl ?_ | refine qv rfl (rr_geq rfl rfl (qF (by omega))) rfl rfl ?_
            | refine qv rfl (rr_eql rfl rfl (qT (by omega))) rfl rfl ?_ | refine qv rfl (rr_eql rfl rfl (qF (by omega))) rfl rfl ?_
            | refine qv rfl (rr_add64 rfl rfl (by omega) (by omega) rfl) rfl rfl ?_)
          refine TL_storeA (i := 3) (off := i) (v := (next (aut R tags) now i : Int)) (fun j => if j < i + 1 then (next (aut R tags) now j : Int) else 0) TyC.ty rfl rfl (by rw [e2]; rfl) rfl rfl c2 (fun j hj => ?_) ?_
          · by_cases e : j = i
            · subst e; rw [if_pos (by omega), if_pos rfl]
            · rw [if_neg e]
              have : j < i + 1 ↔ j < i := by omega
              simp only [this]
          conv => arg 8; simp only [zA, zB, zC, zD, zE, zF, zG, zH, zI, rowS, ret, id_eq]
          repeat (first
            | refine qv rfl (qp rfl) rfl rfl ?_ | refine TL_nil ?_ | refine T_seq ?_ | refine T_region ?_ | refine qcT rfl ?_ | refine qcF rfl ?_ | refine T_skip ?_
            | refine T_exit ?_ | refine T_ret ?_ | refine T_block ?_ | refine E_then ?_ | refine E_thenX ?_ | refine E_thenR ?_ | refine E_blockN ?_
            | refine E_blockR ?_ | refine E_blockX ?_ | refine E_blockO rfl ?_ | refine qv rfl (qlen Und.eq rfl) rfl rfl ?_
            | refine qv rfl (qfld FldC.fld rfl rfl) rfl rfl ?_ | refine qv rfl (rr_not rfl rfl) rfl rfl ?_
            | refine qv rfl (rr_lss rfl rfl (qT (by omega))) rfl rfl ?_ | refine qv rfl (rr_lss rfl rfl (qF (by omega))) rfl rfl ?_
            | refine qv rfl (rr_geq rfl rfl (qT (by omega))) rfl rfl ?_ | refine qv rfl (rr_geq rfl rfl (qF (by omega))) rfl rfl ?_
            | refine qv rfl (rr_eql rfl rfl (qT (by omega))) rfl rfl ?_ | refine qv rfl (rr_eql rfl rfl (qF (by omega))) rfl rfl ?_
            | refine qv rfl (rr_add64 rfl rfl (by omega) (by omega) rfl) rfl rfl ?_)
          refine E_pick [0, 1, 2, 3] (by decide) rfl ?_
          exact E_round (i + 1) (by omega) (by show R.length - (i + 1) < R.length - i; omega) (by repeat' (first | exact True.intro | refine And.intro rfl ?_)) (by rw [e1]; rfl)
        · obtain ⟨e1, e2⟩ := tab_new (aut R tags) now (i := i) c2 c5
          have hle' := tabTo_le (aut R tags) now i
          rw [en] at hle'
          generalize kind (aut R tags) now i = k at *
          repeat (first
            | refine qv rfl (qp rfl) rfl rfl ?_ | refine TL_nil ?_ | refine T_seq ?_ | refine T_region ?_ | refine qcT rfl ?_ | refine qcF rfl ?_ | refine T_skip ?_
            | refine T_exit ?_ | refine T_ret ?_ | refine T_block ?_ | refine E_then ?_ | refine E_thenX ?_ | refine E_thenR ?_ | refine E_blockN ?_
            | refine E_blockR ?_ | refine E_blockX ?_ | refine E_blockO rfl ?_
            | refine qv rfl (rr_loadB (i := 4) TyC.ty rfl rfl (by rw [List.size_toArray, kindC_len])) rfl rfl ?_
            | refine qv rfl (rr_lookNumN (K := kindK) (i := 2) (x := k) Und.eq zeroI rfl rfl rfl hok c5) rfl rfl ?_
            | refine qv rfl (rr_maplen kindK Und.eq (i := 2) rfl rfl) rfl rfl ?_ | refine qv rfl (qlen Und.eq rfl) rfl rfl ?_
            | refine qv rfl (qfld FldC.fld rfl rfl) rfl rfl ?_ | refine qv rfl (rr_not rfl rfl) rfl rfl ?_
            | refine qv rfl (rr_lss rfl rfl (qT (by omega))) rfl rfl ?_ | refine qv rfl (rr_lss rfl rfl (qF (by omega))) rfl rfl ?_
            | refine qv rfl (rr_geq rfl rfl (qT (by omega))) rfl rfl ?_ | refine qv rfl (rr_geq rfl rfl (qF (by omega))) rfl rfl ?_
            | refine qv rfl (rr_eql rfl rfl (qT (by omega))) rfl rfl ?_ | refine qv rfl (rr_eql rfl rfl (qF (by omega))) rfl rfl ?_
            | refine qv rfl (rr_add64 rfl rfl (by omega) (by omega) rfl) rfl rfl ?_)
          refine TL_mapNum (K := kindK) (i := 2) (x := k) Und.eq rfl rfl rfl rfl hok c5 (by omega) ?_
          conv => arg 8; simp only [zA, zB, zC, zD, zE, zF, zG, zH, zI, rowS, ret, id_eq]
          repeat (first
            | refine qv rfl (qp rfl) rfl rfl ?_ | refine TL_nil ?_ | refine T_seq ?_ | refine T_region ?_ | refine qcT rfl ?_ | refine qcF rfl ?_ | refine T_skip ?_
            | refine T_exit ?_ | refine T_ret ?_ | refine T_block ?_ | refine E_then ?_ | refine E_thenX ?_ | refine E_thenR ?_ | refine E_blockN ?_
            | refine E_blockR ?_ | refine E_blockX ?_ | refine E_blockO rfl ?_ | refine qv rfl (rr_idx1 Und.eq TyC.ty rfl rfl c2) rfl rfl ?_
            | refine qv rfl (qlen Und.eq rfl) rfl rfl ?_ | refine qv rfl (qfld FldC.fld rfl rfl) rfl rfl ?_ | refine qv rfl (rr_not rfl rfl) rfl rfl ?_
            | refine qv rfl (rr_lss rfl rfl (qT (by omega))) rfl rfl ?_ | refine qv rfl (rr_lss rfl rfl (qF (by omega))) rfl rfl ?_
            | refine qv rfl (rr_geq rfl rfl (qT (by omega))) rfl rfl ?_ | refine qv rfl (rr_geq rfl rfl (qF (by omega))) rfl rfl ?_
            | refine qv rfl (rr_eql rfl rfl (qT (by omega))) rfl rfl ?_ | refine qv rfl (rr_eql rfl rfl (qF (by omega))) rfl rfl ?_
            | refine qv rfl (rr_add64 rfl rfl (by omega) (by omega) rfl) rfl rfl ?_)
          refine TL_storeA (i := 3) (off := i) (v := (next (aut R tags) now i : Int)) (fun j => if j < i + 1 then (next (aut R tags) now j : Int) else 0) TyC.ty rfl rfl (by rw [e2]; rfl) rfl rfl c2 (fun j hj => ?_) ?_
          · by_cases e : j = i
            · subst e; rw [if_pos (by omega), if_pos rfl]
            · rw [if_neg e]
              have : j < i + 1 ↔ j < i := by omega
              simp only [this]
          conv => arg 8; simp only [zA, zB, zC, zD, zE, zF, zG, zH, zI, rowS, ret, id_eq]
          repeat (first
            | refine qv rfl (qp rfl) rfl rfl ?_ | refine TL_nil ?_ | refine T_seq ?_ | refine T_region ?_ | refine qcT rfl ?_ | refine qcF rfl ?_ | refine T_skip ?_
            | refine T_exit ?_ | refine T_ret ?_ | refine T_block ?_ | refine E_then ?_ | refine E_thenX ?_ | refine E_thenR ?_ | refine E_blockN ?_
            | refine E_blockR ?_ | refine E_blockX ?_ | refine E_blockO rfl ?_ | refine qv rfl (qlen Und.eq rfl) rfl rfl ?_
            | refine qv rfl (qfld FldC.fld rfl rfl) rfl rfl ?_ | refine qv rfl (rr_not rfl rfl) rfl rfl ?_
            | refine qv rfl (rr_lss rfl rfl (qT (by omega))) rfl rfl ?_ | refine qv rfl (rr_lss rfl rfl (qF (by omega))) rfl rfl ?_
            | refine qv rfl (rr_geq rfl rfl (qT (by omega))) rfl rfl ?_ | refine qv rfl (rr_geq rfl rfl (qF (by omega))) rfl rfl ?_
            | refine qv rfl (rr_eql rfl rfl (qT (by omega))) rfl rfl ?_ | refine qv rfl (rr_eql rfl rfl (qF (by omega))) rfl rfl ?_
            | refine qv rfl (rr_add64 rfl rfl (by omega) (by omega) rfl) rfl rfl ?_)
          refine E_pick [0, 1, 2, 3] (by decide) rfl ?_
          exact E_round (i + 1) (by omega) (by show R.length - (i + 1) < R.length - i; omega) (by repeat' (first | exact True.intro | refine And.intro rfl ?_)) (by rw [e1]; rfl)
    · obtain rfl : i = R.length := by omega
      rw [show tabTo (aut R tags) now R.length = tab (aut R tags) now from tabTo_all (aut R tags) now]
      rw [rowA_congr (f' := fun j => (next (aut R tags) now j : Int)) fun j hj => if_pos hj]
      by_cases c6 : (tab (aut R tags) now).length = c
      · rw [hend c6]
        repeat (first
          | refine qv rfl (qp rfl) rfl rfl ?_ | refine TL_nil ?_ | refine T_seq ?_ | refine T_region ?_ | refine qcT rfl ?_ | refine qcF rfl ?_ | refine T_skip ?_
          | refine T_exit ?_ | refine T_ret ?_ | refine T_block ?_ | refine E_then ?_ | refine E_thenX ?_ | refine E_thenR ?_ | refine E_blockN ?_
          | refine E_blockR ?_ | refine E_blockX ?_ | refine E_blockO rfl ?_ | refine qv rfl (rr_maplen kindK Und.eq (i := 2) rfl rfl) rfl rfl ?_
          | refine qv rfl (rr_eql (b := true) rfl rfl (decide_eq_true (by omega))) rfl rfl ?_ | refine qv rfl (qlen Und.eq rfl) rfl rfl ?_
          | refine qv rfl (qfld FldC.fld rfl rfl) rfl rfl ?_ | refine qv rfl (rr_not rfl rfl) rfl rfl ?_
          | refine qv rfl (rr_lss rfl rfl (qT (by omega))) rfl rfl ?_ | refine qv rfl (rr_lss rfl rfl (qF (by omega))) rfl rfl ?_
          | refine qv rfl (rr_geq rfl rfl (qT (by omega))) rfl rfl ?_ | refine qv rfl (rr_geq rfl rfl (qF (by omega))) rfl rfl ?_
          | refine qv rfl (rr_eql rfl rfl (qT (by omega))) rfl rfl ?_ | refine qv rfl (rr_eql rfl rfl (qF (by omega))) rfl rfl ?_
          | refine qv rfl (rr_add64 rfl rfl (by omega) (by omega) rfl) rfl rfl ?_)
        exact E_ret1 rfl rfl fun w hm => hm.meets (S := ⟨fun _ => True, fun (g : Nat) => .slice (some ⟨g, 0, none⟩) R.length R.length, fun g => [rowA 3 intV g R.length fun i => (next (aut R tags) now i : Int)]⟩) g9 trivial [3] (by decide) rfl
      · repeat (first
          | refine qv rfl (qp rfl) rfl rfl ?_ | refine TL_nil ?_ | refine T_seq ?_ | refine T_region ?_ | refine qcT rfl ?_ | refine qcF rfl ?_ | refine T_skip ?_
          | refine T_exit ?_ | refine T_ret ?_ | refine T_block ?_ | refine E_then ?_ | refine E_thenX ?_ | refine E_thenR ?_ | refine E_blockN ?_
          | refine E_blockR ?_ | refine E_blockX ?_ | refine E_blockO rfl ?_ | refine qv rfl (rr_maplen kindK Und.eq (i := 2) rfl rfl) rfl rfl ?_
          | refine qv rfl (rr_eql (b := false) rfl rfl (decide_eq_false (by omega))) rfl rfl ?_ | refine qv rfl (qlen Und.eq rfl) rfl rfl ?_
          | refine qv rfl (qfld FldC.fld rfl rfl) rfl rfl ?_ | refine qv rfl (rr_not rfl rfl) rfl rfl ?_
          | refine qv rfl (rr_lss rfl rfl (qT (by omega))) rfl rfl ?_ | refine qv rfl (rr_lss rfl rfl (qF (by omega))) rfl rfl ?_
          | refine qv rfl (rr_geq rfl rfl (qT (by omega))) rfl rfl ?_ | refine qv rfl (rr_geq rfl rfl (qF (by omega))) rfl rfl ?_
          | refine qv rfl (rr_eql rfl rfl (qT (by omega))) rfl rfl ?_ | refine qv rfl (rr_eql rfl rfl (qF (by omega))) rfl rfl ?_
          | refine qv rfl (rr_add64 rfl rfl (by omega) (by omega) rfl) rfl rfl ?_)
        refine E_pick [0, 3] (by decide) rfl ?_
        exact E_round (f', (tab (aut R tags) now).length, next (aut R tags) now, g9) (hgo c6) (Nat.lt_succ_self f') (by repeat' (first | exact True.intro | refine And.intro rfl ?_)) rfl
end Go.Proofs.Ytbiacehgfmgfdaa.eng
