/- What small.tag, small.to, small.all, dfa.Tag, dfa.Check compute. -/
import Derived.Test.YtbiacehgfmgfdaaSmO
import Derived.Test.YtbiacehgfmgfdaaMgB
namespace Go.Proofs.Ytbiacehgfmgfdaa.eng
open Go.RowKit kit mix dfaL smallL
theorem aut_tag {R : List Row} {tags : List Int} {i : Nat} (h : i < tags.length) : (aut R tags).tag i = tags[i] := by
  show tags.getD i 0 = _
  rw [List.getD_eq_getElem?_getD, List.getElem?_eq_getElem h]; rfl
theorem aut_d {R : List Row} {tags : List Int} {i b : Nat} (h : i < R.length) (hb : b < 256) : (aut R tags).d i b = (R[i])[b] := by
  show (R.getD i row0).toList.getD b 0 = _
  rw [List.getD_eq_getElem?_getD (l := R), List.getElem?_eq_getElem h, Option.getD_some, List.getD_eq_getElem?_getD, List.getElem?_eq_getElem (by simpa using hb), Option.getD_some, Vector.getElem_toList]
theorem smTag_calls (vr vt : Value) (R : List Row) (tags : List Int) (q : Int) (w : World) (h : DfaM w vr vt R tags) (hl : tags.length = R.length) (hq : St (aut R tags) q) :
    Calls Try.prog 29 #[dfaV vr vt, .int .i64 q] w (Meets (ret (.int .i64 (tg (aut R tags) q))) w) := by
  obtain ⟨bt, ct, rfl, ht1, ht2, ht3⟩ := h.hT
  obtain ⟨br, cr, rfl, _⟩ := h.hR
  unfold St at hq
  have en : (aut R tags).n = R.length := rfl
  unfold tg
  refine enter (args := [dfaV (.slice br R.length cr) (.slice bt tags.length ct), .int .i64 q]) (n := 12) Try.func29 rfl rfl rfl ?_
  refine T_seq (T_region (TL_box rfl rfl rfl fun g => ?_))
  by_cases c : q < 0
  · rw [if_pos c]
    repeat (first
      | refine qv rfl (qp rfl) rfl rfl ?_ | refine TL_nil ?_ | refine T_seq ?_ | refine T_region ?_ | refine qcT rfl ?_ | refine qcF rfl ?_ | refine T_skip ?_
      | refine T_ret ?_ | refine E_then ?_ | refine E_thenR ?_ | refine qv rfl (qfld FldC.fld rfl rfl) rfl rfl ?_
      | refine qv rfl (rr_lss rfl rfl (qT (by omega))) rfl rfl ?_ | refine qv rfl (rr_lss rfl rfl (qF (by omega))) rfl rfl ?_)
    exact E_ret1 rfl rfl fun w hm => hm.ret
  · rw [if_neg c]
    obtain ⟨m, rfl⟩ : ∃ m : Nat, q = m := ⟨q.toNat, by omega⟩
    have hm : m < tags.length := by omega
    rw [Int.toNat_natCast, aut_tag hm]
    obtain ⟨b, off, rfl, hr⟩ := ht3 (by omega)
    have hat := at_el (L := [blkO g (dfaV (.slice br R.length cr) (.slice (some ⟨b, off, none⟩) tags.length ct)).cells 25]) (c := 1) (f := kit.intC) (fun _ => rfl) hr hm 0 _ rfl
    repeat (first
      | refine qv rfl (qp rfl) rfl rfl ?_ | refine TL_nil ?_ | refine T_seq ?_ | refine T_region ?_ | refine qcT rfl ?_ | refine qcF rfl ?_ | refine T_skip ?_
      | refine T_ret ?_ | refine E_then ?_ | refine E_thenR ?_ | refine qv rfl (rr_load1 TyC.ty rfl (at_blk (i := 0) rfl rfl)) rfl rfl ?_
      | refine qv rfl (rr_idxc Und.eq TyC.ty rfl rfl hm) rfl rfl ?_ | refine qv rfl (rr_load1 TyC.ty rfl hat) rfl rfl ?_
      | refine qv rfl (qfld FldC.fld rfl rfl) rfl rfl ?_ | refine qv rfl (rr_lss rfl rfl (qT (by omega))) rfl rfl ?_
      | refine qv rfl (rr_lss rfl rfl (qF (by omega))) rfl rfl ?_)
    exact E_ret1 rfl rfl fun w hm => hm.ret
theorem smTo_calls (vr vt : Value) (R : List Row) (tags : List Int) (q : Int) (b : Nat) (w : World) (h : DfaM w vr vt R tags) (hq : St (aut R tags) q) (hb : b < 256) :
    Calls Try.prog 31 #[dfaV vr vt, .int .i64 q, .int .i64 (b : Int)] w (Meets (ret (.int .i64 (dt (aut R tags) q b))) w) := by
  obtain ⟨bt, ct, rfl, _⟩ := h.hT
  obtain ⟨br, cr, rfl, ht1, ht2, ht3⟩ := h.hR
  unfold St at hq
  have en : (aut R tags).n = R.length := rfl
  have hrng := h.rng
  unfold dt
  refine enter (args := [dfaV (.slice br R.length cr) (.slice bt tags.length ct), .int .i64 q, .int .i64 (b : Int)]) (n := 17) Try.func31 rfl rfl rfl ?_
  refine T_seq (T_region (TL_box rfl rfl rfl fun g => ?_))
  by_cases c : q < 0
  · rw [if_pos c]
    repeat (first
      | refine qv rfl (qp rfl) rfl rfl ?_ | refine TL_nil ?_ | refine T_seq ?_ | refine T_region ?_ | refine qcT rfl ?_ | refine qcF rfl ?_ | refine T_skip ?_
      | refine T_ret ?_ | refine E_then ?_ | refine E_thenR ?_ | refine qv rfl (qfld FldC.fld rfl rfl) rfl rfl ?_
      | refine qv rfl (rr_lss rfl rfl (qT (by omega))) rfl rfl ?_ | refine qv rfl (rr_lss rfl rfl (qF (by omega))) rfl rfl ?_)
    exact E_ret1 rfl rfl fun w hm => hm.ret
  · rw [if_neg c]
    obtain ⟨m, rfl⟩ : ∃ m : Nat, q = m := ⟨q.toNat, by omega⟩
    have hm : m < R.length := by omega
    rw [Int.toNat_natCast, aut_d hm hb]
    obtain ⟨bb, off, rfl, hr⟩ := ht3 (by omega)
    have hat := at_el (L := [blkO g (dfaV (.slice (some ⟨bb, off, none⟩) R.length cr) (.slice bt tags.length ct)).cells 25]) rowC_len hr hm b _ (rowC_get _ hb)
    have hx := hrng R[m] (List.getElem_mem hm) (R[m])[b] (by rw [← Vector.getElem_toList (h := by simpa using hb)]; exact List.getElem_mem _)
    generalize (R[m])[b] = x at *
    clear hrng h
    repeat (first
      | refine qv rfl (qp rfl) rfl rfl ?_ | refine TL_nil ?_ | refine T_seq ?_ | refine T_region ?_ | refine qcT rfl ?_ | refine qcF rfl ?_ | refine T_skip ?_
      | refine T_ret ?_ | refine E_then ?_ | refine E_thenR ?_ | refine qv rfl (rr_load1 TyC.ty rfl (at_blk (i := 0) rfl rfl)) rfl rfl ?_
      | refine qv rfl (rr_idxc Und.eq TyC.ty rfl rfl hm) rfl rfl ?_ | refine qv rfl (rr_aidx1 Und.eq TyC.ty rfl rfl hb) rfl rfl ?_
      | refine qv rfl (rr_load1 TyC.ty rfl hat) rfl rfl ?_ | refine qv rfl (rr_conv Und.eq Und.eq rfl (wrap_in (by omega) (by omega))) rfl rfl ?_
      | refine qv rfl (qfld FldC.fld rfl rfl) rfl rfl ?_ | refine qv rfl (rr_lss rfl rfl (qT (by omega))) rfl rfl ?_
      | refine qv rfl (rr_lss rfl rfl (qF (by omega))) rfl rfl ?_)
    exact E_ret1 rfl rfl fun w hm => hm.ret
/-- a row's block, one cell being written over -/
theorem row_set (r : Row) {b : Nat} (hb : b < 256) (x : Int) : (rowC r).toArray.setIfInBounds b (.int .i16 x) = (rowC (r.set b x)).toArray := by
  unfold rowC
  rw [Vector.toList_set, List.map_set]; simp
theorem TL_storeV {P : Program} {n : Nat} {W : Base} {fr : Fr} {L : List Own} {Q : Exit → Act → World → Prop} {ops : Array Oper} {rest : List Oper} {ty : TypeId} {pos : String} {after : Array Edge} {t : TypeId} {p x : Operand} {i g b : Nat} {r : Row} {T : TypeId} {agg : Bool} {z : Int} [hT : TyC P t agg 1] (hi : L[i]? = some (blkO g (rowC r).toArray T)) (hp : ev fr p = some (.pointer (some ⟨g, 0 + b, none⟩))) (hx : ev fr x = some (.int .i16 z)) (hb : b < 256)
    (h : TL P n W ops Q rest fr (L.set i (blkO g (rowC (r.set b z)).toArray T))) : TL P n W ops Q (⟨none, .store t p x, ty, pos, after, none⟩ :: rest) fr L := by
  rw [Nat.zero_add] at hp
  refine TL_store1 hi hp hx rfl rfl ?_ ?_
  · rw [List.size_toArray, rowC_len]; exact Nat.blt_eq ▸ hb
  · rw [row_set r hb]; exact h
/-- the first b cells are x, the others 0 -/
def fillR (x y : Int) (b : Nat) : Row := Vector.ofFn fun i : Fin 256 => if i < b then x else y
theorem fillR_set (x y : Int) (b : Nat) (hb : b < 256) : (fillR x y b).set b x = fillR x y (b + 1) := by
  refine Vector.ext fun i hi => ?_
  unfold fillR
  rw [Vector.getElem_set, Vector.getElem_ofFn, Vector.getElem_ofFn]
  split
  · rename_i e; subst e; simp
  · have : i < b ↔ i < b + 1 := by omega
    simp only [this]
theorem fillR_0 (x y : Int) : fillR x y 0 = Vector.replicate 256 y := by
  refine Vector.ext fun i hi => ?_
  unfold fillR; simp
theorem fillR_all (x y : Int) : fillR x y 256 = Vector.replicate 256 x := by
  refine Vector.ext fun i hi => ?_
  unfold fillR; simp [hi]
theorem zero_row : (List.replicate 256 (Value.int .i16 0)).toArray = (rowC (Vector.replicate 256 0)).toArray := by
  unfold rowC
  rw [Vector.toList_replicate, List.map_replicate]
def rowV (r : Row) : Value := .agg (rowC r).toArray
set_option maxHeartbeats 2000000 in
theorem smAll_calls (x : Int) (w : World) : Calls Try.prog 34 #[.int .i16 x] w (Meets (ret (rowV (Vector.replicate 256 x))) w) := by
  refine enter (args := [.int .i16 x]) (n := 13) Try.func34 rfl rfl rfl ?_
  refine T_seq (T_region (TL_new rfl fun g => ?_))
  repeat (first
    | refine qv rfl (qp rfl) rfl rfl ?_ | refine TL_nil ?_ | refine T_seq ?_ | refine T_region ?_ | refine qcT rfl ?_ | refine qcF rfl ?_ | refine T_skip ?_
    | refine T_exit ?_ | refine T_ret ?_ | refine T_block ?_ | refine E_then ?_ | refine E_thenX ?_ | refine E_thenR ?_ | refine E_blockN ?_
    | refine E_blockR ?_ | refine E_blockX ?_ | refine E_blockO rfl ?_ | refine qv rfl (rr_lss rfl rfl (qT (by omega))) rfl rfl ?_
    | refine qv rfl (rr_lss rfl rfl (qF (by omega))) rfl rfl ?_ | refine qv rfl (rr_add64 rfl rfl (by omega) (by omega) rfl) rfl rfl ?_)
  refine TL_new rfl fun g3 => ?_
  conv => arg 8; simp only [zA, zB, zC, zD, zE, zF, zG, zH, zI, rowS, ret, id_eq]
  rw [zero_row]
  repeat (first
    | refine qv rfl (qp rfl) rfl rfl ?_ | refine TL_nil ?_ | refine T_seq ?_ | refine T_region ?_ | refine qcT rfl ?_ | refine qcF rfl ?_ | refine T_skip ?_
    | refine T_exit ?_ | refine T_ret ?_ | refine T_block ?_ | refine E_then ?_ | refine E_thenX ?_ | refine E_thenR ?_ | refine E_blockN ?_
    | refine E_blockR ?_ | refine E_blockX ?_ | refine E_blockO rfl ?_ | refine qv rfl (rr_lss rfl rfl (qT (by omega))) rfl rfl ?_
    | refine qv rfl (rr_lss rfl rfl (qF (by omega))) rfl rfl ?_ | refine qv rfl (rr_add64 rfl rfl (by omega) (by omega) rfl) rfl rfl ?_)
  rw [← fillR_0 x 0]
  refine T_loop (ι := Nat) (fun b => b ≤ 256) (fun b => [(0, .int .i16 x), (2, .pointer (some ⟨g, 0, none⟩)), (3, .pointer (some ⟨g3, 0, none⟩)), (5, .int .i64 (b : Int))]) (fun b => [blkO g (rowC (fillR x 0 0)).toArray 31, blkO g3 (rowC (fillR x 0 b)).toArray 31]) (fun b => 256 - b) 0 (Nat.zero_le _) (by repeat' (first | exact True.intro | refine And.intro rfl ?_)) rfl ?_
  intro b hb
  by_cases c : b < 256
  · repeat (first
      | refine qv rfl (qp rfl) rfl rfl ?_ | refine TL_nil ?_ | refine T_seq ?_ | refine T_region ?_ | refine qcT rfl ?_ | refine qcF rfl ?_ | refine T_skip ?_
      | refine T_exit ?_ | refine T_ret ?_ | refine T_block ?_ | refine E_then ?_ | refine E_thenX ?_ | refine E_thenR ?_ | refine E_blockN ?_
      | refine E_blockR ?_ | refine E_blockX ?_ | refine E_blockO rfl ?_ | refine qv rfl (rr_aidx1 Und.eq TyC.ty rfl rfl c) rfl rfl ?_
      | refine qv rfl (rr_lss rfl rfl (qT (by omega))) rfl rfl ?_ | refine qv rfl (rr_lss rfl rfl (qF (by omega))) rfl rfl ?_
      | refine qv rfl (rr_add64 rfl rfl (by omega) (by omega) rfl) rfl rfl ?_)
    refine TL_storeV (i := 1) rfl rfl rfl c ?_
    rw [fillR_set x 0 b c]
    conv => arg 8; simp only [zA, zB, zC, zD, zE, zF, zG, zH, zI, rowS, ret, id_eq]
    repeat (first
      | refine qv rfl (qp rfl) rfl rfl ?_ | refine TL_nil ?_ | refine T_seq ?_ | refine T_region ?_ | refine qcT rfl ?_ | refine qcF rfl ?_ | refine T_skip ?_
      | refine T_exit ?_ | refine T_ret ?_ | refine T_block ?_ | refine E_then ?_ | refine E_thenX ?_ | refine E_thenR ?_ | refine E_blockN ?_
      | refine E_blockR ?_ | refine E_blockX ?_ | refine E_blockO rfl ?_ | refine qv rfl (rr_lss rfl rfl (qT (by omega))) rfl rfl ?_
      | refine qv rfl (rr_lss rfl rfl (qF (by omega))) rfl rfl ?_ | refine qv rfl (rr_add64 rfl rfl (by omega) (by omega) rfl) rfl rfl ?_)
    exact E_round (b + 1) (by omega) (by show 256 - (b + 1) < 256 - b; omega) (by repeat' (first | exact True.intro | refine And.intro rfl ?_)) rfl
  · obtain rfl : b = 256 := by omega
    rw [fillR_all]
    repeat (first
      | refine qv rfl (qp rfl) rfl rfl ?_ | refine TL_nil ?_ | refine T_seq ?_ | refine T_region ?_ | refine qcT rfl ?_ | refine qcF rfl ?_ | refine T_skip ?_
      | refine T_exit ?_ | refine T_ret ?_ | refine T_block ?_ | refine E_then ?_ | refine E_thenX ?_ | refine E_thenR ?_ | refine E_blockN ?_
      | refine E_blockR ?_ | refine E_blockX ?_ | refine E_blockO rfl ?_
      | refine qv rfl (rr_loadB (i := 1) TyC.ty rfl rfl (by rw [List.size_toArray, rowC_len])) rfl rfl ?_
      | refine qv rfl (rr_lss rfl rfl (qT (by omega))) rfl rfl ?_ | refine qv rfl (rr_lss rfl rfl (qF (by omega))) rfl rfl ?_
      | refine qv rfl (rr_add64 rfl rfl (by omega) (by omega) rfl) rfl rfl ?_)
    refine TL_storeB (i := 0) rfl rfl rfl (by rw [List.size_toArray, rowC_len]) (by have := row_one1 (Vector.replicate 256 x); simpa using this) (by rw [List.size_toArray, rowC_len]) ?_
    conv => arg 8; simp only [zA, zB, zC, zD, zE, zF, zG, zH, zI, rowS, ret, id_eq]
    repeat (first
      | refine qv rfl (qp rfl) rfl rfl ?_ | refine TL_nil ?_ | refine T_seq ?_ | refine T_region ?_ | refine qcT rfl ?_ | refine qcF rfl ?_ | refine T_skip ?_
      | refine T_exit ?_ | refine T_ret ?_ | refine T_block ?_ | refine E_then ?_ | refine E_thenX ?_ | refine E_thenR ?_ | refine E_blockN ?_
      | refine E_blockR ?_ | refine E_blockX ?_ | refine E_blockO rfl ?_ | refine qv rfl (rr_lss rfl rfl (qT (by omega))) rfl rfl ?_
      | refine qv rfl (rr_lss rfl rfl (qF (by omega))) rfl rfl ?_ | refine qv rfl (rr_add64 rfl rfl (by omega) (by omega) rfl) rfl rfl ?_)
    exact E_retc1 (i := 0) rfl rfl rfl (by rw [List.size_toArray, rowC_len]) fun w hm => hm.ret
end Go.Proofs.Ytbiacehgfmgfdaa.eng
