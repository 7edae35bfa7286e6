/- What pushkeep.turned, backwards compute. -/
import Derived.Test.YtbiacehgfmgfdaaDoorRcR
import Derived.Test.YtbiacehgfmgfdaaDoorRevW
namespace Go.Proofs.YtbiacehgfmgfdaaDoor.eng
open Go.RowKit kit mix classL rexL classSets
theorem rr_strWr {P : Program} {n : Nat} {W : Base} {fr : Fr} {L : List Own} {dst : Option Tmp} {ty : TypeId} {pos : String} {after : Array Edge} {guard : Option (Nat × Bool)} {t u e : TypeId} {x : Operand} {i g m cap : Nat} {xs : List Value} {l : List UInt8} (ht : P.underlying t = some (.slice e)) (he : P.underlying e = some (.int .u8)) (hu : P.underlying u = some .string) (hx : ev fr x = some (.slice (some ⟨g, 0, none⟩) m cap)) (hi : L[i]? = some (wrO g xs)) (hxs : xs = l.map u8v) (hm : m = l.length) : RR P n W ⟨dst, .convert t u x, ty, pos, after, guard⟩ fr L (str l) := .mk fun a w hr hmm => by
  subst hm hxs
  have hx' := hr.ev hx
  have hh : g < w.heap.size ∧ Wr w g 0 (l.map u8v) := hmm.get hi
  have e' : (convert t u (.slice (some ⟨g, 0, none⟩) l.length cap)).run P w = .ok (str l) w := by
    cases l with
    | nil => simp [convert, run_underlying ht, run_underlying hu, run_underlying he, Conv.bytesToString, str, loadCells, loadCellsFrom]; rfl
    | cons b l => exact conv_string ht he hu rfl hh.2.rd
  simp only [execOp, hx', Sem.run_bind, e', Result.andThen_ok, Sem.run_pure]
theorem backwards_calls (s : List UInt8) (w : World) (hs : s.length ≤ 140737488351232) : Calls Tryd.prog 31 #[str s] w (Meets (ret (str s.reverse)) w) := by
  refine enter (args := [str s]) (n := 10) Tryd.func31 rfl rfl rfl ?_
  repeat (first
    | refine qv rfl (qp rfl) rfl rfl ?_ | refine TL_nil ?_ | refine T_seq ?_ | refine T_region ?_ | refine T_ret ?_ | refine E_then ?_ | refine E_thenR ?_)
  refine TL_bytes Und.eq Und.eq Und.eq rfl rfl fun g cap hcap => ?_
  conv => arg 8; simp only [zA, zB, zC, zD, zE, zF, zG, zH, zI, rowS, ret, id_eq]
  repeat (first
    | refine qv rfl (qp rfl) rfl rfl ?_ | refine TL_nil ?_ | refine T_seq ?_ | refine T_region ?_ | refine T_ret ?_ | refine E_then ?_ | refine E_thenR ?_)
  refine TL_callB [0] [] (by decide) rfl rfl (he1 EntersC.en rfl rfl) (fun w hm hb => reverseWr_calls g cap s w _ hb (by omega)) rfl rfl rfl ?_
  intro _ _
  conv => arg 8; simp only [zA, zB, zC, zD, zE, zF, zG, zH, zI, rowS, ret, id_eq]
  repeat (first
    | refine qv rfl (qp rfl) rfl rfl ?_ | refine TL_nil ?_ | refine T_seq ?_ | refine T_region ?_ | refine T_ret ?_ | refine E_then ?_ | refine E_thenR ?_
    | refine qv rfl (rr_strWr (i := 0) Und.eq Und.eq Und.eq rfl rfl rfl (List.length_reverse ..).symm) rfl rfl ?_)
  exact E_ret1 rfl rfl fun w hm => hm.ret
/-- kids of an expression, owned -/
def rkO (F : Nat → Prop) (v : Value) (l : List Rx) : Own := shpO (sliceS rexS) F [v] l
theorem rkO_form {F : Nat → Prop} {v : Value} {l : List Rx} {w : World} (h : (rkO F v l).holds w) : ∃ b n cap, v = .slice b n cap := by
  obtain ⟨⟨v', hv, h3⟩, h4⟩ := h
  simp only [List.cons.injEq, and_true] at hv
  subst hv
  obtain ⟨b, c, rfl, _⟩ := h3
  exact ⟨b, _, c, rfl⟩
def turnSp (r : Re) : Spec (Value × (Nat → Prop)) := ⟨fun _ => True, fun x => rexV r.kind r.cls x.1, fun x => [rkO x.2 x.1 ((turn r).kids.map emb)]⟩
theorem build_rexKC (k : Int) (c : C4) (w : World) : (Instr.build 44 #[(0, .int .i64 k), (1, .agg (clsL c).toArray)]).run Tryd.prog w = .ok (rexV k c (.slice none 0 0)) w := by kernel_rfl
theorem els_rev {α : Type} {s : Shp α} {F : Nat → Prop} {css : List (List Value)} {l : List α} {w : World} (h : (elsO s F css l).holds w) : (elsO s F css.reverse l.reverse).holds w := by
  obtain ⟨⟨h1, h2⟩, h3⟩ := h
  refine ⟨⟨by rw [List.length_reverse, List.length_reverse, h1], fun i hi hi' => ?_⟩, h3⟩
  rw [List.getElem_reverse, List.getElem_reverse]
  have a : i < l.length := by simpa using hi
  have := h2 (l.length - 1 - i) (by omega) (by omega)
  have e : css.length - 1 - i = l.length - 1 - i := by omega
  simp only [e]
  exact this
theorem turn_kids4 {r : Re} (h : r.kind = 4) : (r.kids.map fun e => emb (turn e)).reverse = (turn r).kids.map emb := by
  cases r <;> simp [Re.kind] at h <;> rfl
theorem turn_kidsN {r : Re} (h : r.kind ≠ 4) : (r.kids.map fun e => emb (turn e)) = (turn r).kids.map emb := by
  cases r <;> first | rfl | exact absurd rfl h
set_option maxRecDepth 100000 in
attribute [local irreducible] Instr.build in
set_option maxHeartbeats 16000000 in
theorem turned_calls : ∀ (N : Nat) (r : Re), r.size ≤ N → ∀ (vk : Value) (w : World), kit.okI64 r.kind → SlF rexS (Low w) w vk (r.kids.map emb) →
    Calls Tryd.prog 30 #[rexV r.kind r.cls vk] w (Meets (turnSp r) w)
  | 0, r, h, _, _, _, _ => by have := r.size_pos; omega
  | N + 1, r, hN, vk, w, hk64, hks => by
    have IH := turned_calls N
    obtain ⟨bk, ck, rfl, hck, hmk, hrk⟩ := hks
    unfold maxLen at hmk
    rw [List.length_map] at hck ⊢
    have hrk := fun h0 => hrk (by rw [List.length_map]; exact h0)
    have hk2 := kids_two r
    have hbc := build_rexKC r.kind r.cls
    refine enter (args := [rexV r.kind r.cls (.slice bk r.kids.length ck)]) (n := 33) Tryd.func30 rfl rfl rfl ?_
    refine T_seq (T_region (TL_box rfl rfl rfl fun g1 => TL_new rfl fun g2 => ?_))
    conv => arg 8; simp only [zA, zB, zC, zD, zE, zF, zG, zH, zI, rowS, ret, id_eq]
    repeat (first
      | refine qv rfl (qp rfl) rfl rfl ?_ | refine TL_nil ?_ | refine T_seq ?_ | refine T_region ?_ | refine qcT rfl ?_ | refine qcF rfl ?_ | refine T_skip ?_
      | refine T_exit ?_ | refine T_ret ?_ | refine T_block ?_ | refine E_then ?_ | refine E_thenX ?_ | refine E_thenR ?_ | refine E_blockN ?_
      | refine E_blockR ?_ | refine E_blockX ?_ | refine E_blockO rfl ?_
      | refine qv rfl (rr_load1 (v := .int .i64 r.kind) TyC.ty rfl (at_blk (i := 0) rfl rfl)) rfl rfl ?_
      | refine qv rfl (rr_loadN (cs := clsL r.cls) TyC.ty rfl rfl (fun j v hj => at_blk (i := 0) rfl (rex_cls hj))) rfl rfl ?_
      | refine qv rfl (rr_build rfl hbc) rfl rfl ?_ | refine qv rfl (qlen Und.eq rfl) rfl rfl ?_ | refine qv rfl (qfld FldC.fld rfl rfl) rfl rfl ?_
      | refine qv rfl (rr_lss rfl rfl (qT (by omega))) rfl rfl ?_ | refine qv rfl (rr_lss rfl rfl (qF (by omega))) rfl rfl ?_
      | refine qv rfl (rr_eql rfl rfl (qT (by omega))) rfl rfl ?_ | refine qv rfl (rr_eql rfl rfl (qF (by omega))) rfl rfl ?_
      | refine qv rfl (rr_add64 rfl rfl (by omega) (by omega) rfl) rfl rfl ?_)
    refine TL_new rfl fun g3 => ?_
    conv => arg 8; simp only [zA, zB, zC, zD, zE, zF, zG, zH, zI, rowS, ret, id_eq]
    refine TL_storeB (i := 2) (cs' := (rexC r.kind r.cls (.slice none 0 0)).toArray) rfl rfl rfl rfl rfl rfl ?_
    conv => arg 8; simp only [zA, zB, zC, zD, zE, zF, zG, zH, zI, rowS, ret, id_eq]
    repeat (first
      | refine qv rfl (qp rfl) rfl rfl ?_ | refine TL_nil ?_ | refine T_seq ?_ | refine T_region ?_ | refine qcT rfl ?_ | refine qcF rfl ?_ | refine T_skip ?_
      | refine T_exit ?_ | refine T_ret ?_ | refine T_block ?_ | refine E_then ?_ | refine E_thenX ?_ | refine E_thenR ?_ | refine E_blockN ?_
      | refine E_blockR ?_ | refine E_blockX ?_ | refine E_blockO rfl ?_
      | refine qv rfl (rr_load1 (v := .slice bk r.kids.length ck) TyC.ty rfl (at_blk (i := 0) rfl rfl)) rfl rfl ?_ | refine qv rfl (qlen Und.eq rfl) rfl rfl ?_
      | refine qv rfl (qfld FldC.fld rfl rfl) rfl rfl ?_ | refine qv rfl (rr_lss rfl rfl (qT (by omega))) rfl rfl ?_
      | refine qv rfl (rr_lss rfl rfl (qF (by omega))) rfl rfl ?_ | refine qv rfl (rr_eql rfl rfl (qT (by omega))) rfl rfl ?_
      | refine qv rfl (rr_eql rfl rfl (qF (by omega))) rfl rfl ?_ | refine qv rfl (rr_add64 rfl rfl (by omega) (by omega) rfl) rfl rfl ?_)
    refine T_nil 44 6 (T_extra (elsO rexS (fun _ => False) [] []) (fun k hk => hk.elim (fun h => by cases h) id) (fun w => els_nil) ?_)
    refine T_loop (ι := Nat × Value × List RC × (Nat → Prop)) (fun (j, v, xs, _) => j ≤ r.kids.length ∧ v.oneCell' = true ∧ xs.length = j) (fun (j, v, _, _) => [(1, .pointer (some ⟨g1, 0, none⟩)), (2, .pointer (some ⟨g2, 0, none⟩)), (3, .pointer (some ⟨g3, 0, none⟩)), (12, .slice bk r.kids.length ck), (13, .int .i64 (r.kids.length : Int)), (14, .int .i64 (j : Int))])
      (fun (j, v, xs, F) => [blkO g1 (rexC r.kind r.cls (.slice bk r.kids.length ck)).toArray 44, blkO g2 (rexC 0 C4.zero (.slice none 0 0)).toArray 44, blkO g3 (rexC r.kind r.cls v).toArray 44, rowO 44 6 v j (xs.flatMap rcC), elsO rexS F (xs.map rcC) ((r.kids.take j).map fun e => emb (turn e))]) (fun (j, _, _, _) => r.kids.length - j) (0, .slice none 0 0, [], fun _ => False) ⟨Nat.zero_le _, rfl, rfl⟩ (by repeat' (first | exact True.intro | refine And.intro rfl ?_)) rfl ?_
    rintro ⟨j, v, xs, F⟩ ⟨i1, i2, i3⟩
    dsimp only at i1 i2 i3 ⊢
    by_cases c1 : j < r.kids.length
    · obtain ⟨b, off, rfl, _, hr⟩ := hrk (by omega)
      obtain ⟨bj, cj, hrd, hkk, hkr⟩ := rkid_emb hr c1
      have hat := fun (L : List Own) j v hj => at_oldR (W := w) (L := L) (Old.self w) hrd j v hj
      have hks := kid_size c1
      have htk : (r.kids.take (j + 1)).map (fun e => emb (turn e)) = (r.kids.take j).map (fun e => emb (turn e)) ++ [emb (turn r.kids[j])] := by
        rw [List.take_succ_eq_append_getElem c1, List.map_append]; rfl
      generalize r.kids[j] = e at *
      have IHk := fun w' (hg : Gr w w') => IH e (by omega) (.slice bj e.kids.length cj) w' hkk ((hkr.stay fun k hk => hg.block k hk).mono fun k hk => Nat.lt_of_lt_of_le hk hg.size)
      generalize e.kids.length = m at *
      repeat (first
        | refine qv rfl (qp rfl) rfl rfl ?_ | refine TL_nil ?_ | refine T_seq ?_ | refine T_region ?_ | refine qcT rfl ?_ | refine qcF rfl ?_ | refine T_skip ?_
        | refine T_exit ?_ | refine T_ret ?_ | refine T_block ?_ | refine E_then ?_ | refine E_thenX ?_ | refine E_thenR ?_ | refine E_blockN ?_
        | refine E_blockR ?_ | refine E_blockX ?_ | refine E_blockO rfl ?_ | refine qv rfl (rr_idxc (j := j) Und.eq TyC.ty rfl rfl c1) rfl rfl ?_
        | refine qv rfl (rr_loadN TyC.ty rfl rfl (hat _)) rfl rfl ?_ | refine qv rfl (qlen Und.eq rfl) rfl rfl ?_
        | refine qv rfl (qfld FldC.fld rfl rfl) rfl rfl ?_ | refine qv rfl (rr_lss rfl rfl (qT (by omega))) rfl rfl ?_
        | refine qv rfl (rr_lss rfl rfl (qF (by omega))) rfl rfl ?_ | refine qv rfl (rr_eql rfl rfl (qT (by omega))) rfl rfl ?_
        | refine qv rfl (rr_eql rfl rfl (qF (by omega))) rfl rfl ?_ | refine qv rfl (rr_add64 rfl rfl (by omega) (by omega) rfl) rfl rfl ?_)
      refine TL_new rfl fun g5 => ?_
      conv => arg 8; simp only [zA, zB, zC, zD, zE, zF, zG, zH, zI, rowS, ret, id_eq]
      refine TL_storeB (i := 5) (cs' := (rexC e.kind e.cls (.slice bj m cj)).toArray) rfl rfl rfl rfl rfl rfl ?_
      conv => arg 8; simp only [zA, zB, zC, zD, zE, zF, zG, zH, zI, rowS, ret, id_eq]
      repeat (first
        | refine qv rfl (qp rfl) rfl rfl ?_ | refine TL_nil ?_ | refine T_seq ?_ | refine T_region ?_ | refine qcT rfl ?_ | refine qcF rfl ?_ | refine T_skip ?_
        | refine T_exit ?_ | refine T_ret ?_ | refine T_block ?_ | refine E_then ?_ | refine E_thenX ?_ | refine E_thenR ?_ | refine E_blockN ?_
        | refine E_blockR ?_ | refine E_blockX ?_ | refine E_blockO rfl ?_ | refine qv rfl (qlen Und.eq rfl) rfl rfl ?_
        | refine qv rfl (qfld FldC.fld rfl rfl) rfl rfl ?_ | refine qv rfl (rr_lss rfl rfl (qT (by omega))) rfl rfl ?_
        | refine qv rfl (rr_lss rfl rfl (qF (by omega))) rfl rfl ?_ | refine qv rfl (rr_eql rfl rfl (qT (by omega))) rfl rfl ?_
        | refine qv rfl (rr_eql rfl rfl (qF (by omega))) rfl rfl ?_ | refine qv rfl (rr_add64 rfl rfl (by omega) (by omega) rfl) rfl rfl ?_)
      (repeat refine T_seq ?_)
      refine T_ord ([blkO g5 (rexC e.kind e.cls (.slice bj m cj)).toArray 44]) (.calm 0 (.calm 2 (.two 1 (.one 3 (.one 4 (.one 5 (.calm 6 (.one 7 (.done)))))) 3 (.two 1 (.one 4 (.one 5 (.calm 6 (.one 7 (.done))))) 4 (.one 1 (.one 5 (.calm 6 (.one 7 (.done))))))))) (sub_pick [5] (by decide) rfl) (by kernel_rfl) (by kernel_rfl) (by intro c a d v w h; cases d <;> exact h) ?_
      repeat (first
        | ((first | refine TW_plain rfl rfl ?_ | refine TW_gmet rfl rfl rfl rfl ?_); first | refine TN_val (qp rfl) rfl rfl ?_ | refine TN_val (rr_loadB (i := 0) TyC.ty rfl rfl rfl) rfl rfl ?_ | refine TN_val (qlen Und.eq rfl) rfl rfl ?_ | refine TN_val (qfld FldC.fld rfl rfl) rfl rfl ?_ | refine TN_val (rr_lss rfl rfl (qT (by omega))) rfl rfl ?_ | refine TN_val (rr_lss rfl rfl (qF (by omega))) rfl rfl ?_ | refine TN_val (rr_eql rfl rfl (qT (by omega))) rfl rfl ?_ | refine TN_val (rr_eql rfl rfl (qF (by omega))) rfl rfl ?_ | refine TN_val (rr_add64 rfl rfl (by omega) (by omega) rfl) rfl rfl ?_)
        | refine TW_done ?_)
      refine TW_two rfl rfl ?_ ?_
      · refine TL_val (rr_load1 (v := v) TyC.ty rfl (at_blk (i := 2) rfl rfl)) rfl rfl rfl (TW_on (sub_pick [5] (by decide) rfl) ?_)
        refine TW_one rfl (TL_call (he1 EntersC.en rfl rfl) (fun w' hm => IHk w' hm.below) rfl rfl rfl ?_)
        rintro ⟨vm, F2⟩ _
        conv => arg 8; simp only [zA, zB, zC, zD, zE, zF, zG, zH, zI, rowS, ret, id_eq, turnSp]
        refine TL_know (i := 6) (φ := ∃ b n cap, vm = .slice b n cap) rfl (fun w h => rkO_form h) fun hvm => ?_
        obtain ⟨bm, nm, cm, rfl⟩ := hvm
        refine TW_on (sub_pick [5] (by decide) rfl) ?_
        refine TW_one rfl (TL_one (cs := (rcC (e.kind, e.cls, bm, nm, cm)).toArray) rfl rfl rfl rfl rfl fun g22 => ?_)
        conv => arg 8; simp only [zA, zB, zC, zD, zE, zF, zG, zH, zI, rowS, ret, id_eq]
        refine TW_on (sub_pick [5] (by decide) rfl) ?_
        refine TW_one rfl ?_
        refine TL_app1 (i := 3) (q := 7) rfl rfl rfl rfl rfl (by rfl) (by omega) (by omega) rfl fun v' => ?_
        conv => arg 8; simp only [zA, zB, zC, zD, zE, zF, zG, zH, zI, rowS, ret, id_eq]
        refine TL_slv (i := 3) rfl fun hv1 hv2 => ?_
        refine TW_on (sub_pick [5] (by decide) rfl) ?_
        repeat (first
          | ((first | refine TW_plain rfl rfl ?_ | refine TW_gmet rfl rfl rfl rfl ?_); first | refine TN_val (qp rfl) rfl rfl ?_ | refine TN_val (qlen Und.eq rfl) rfl rfl ?_ | refine TN_val (qfld FldC.fld rfl rfl) rfl rfl ?_ | refine TN_val (rr_lss rfl rfl (qT (by omega))) rfl rfl ?_ | refine TN_val (rr_lss rfl rfl (qF (by omega))) rfl rfl ?_ | refine TN_val (rr_eql rfl rfl (qT (by omega))) rfl rfl ?_ | refine TN_val (rr_eql rfl rfl (qF (by omega))) rfl rfl ?_ | refine TN_val (rr_add64 rfl rfl (by omega) (by omega) rfl) rfl rfl ?_)
          | refine TW_done ?_)
        refine TW_one rfl (TL_store1 (i := 2) rfl rfl rfl hv1 hv2 rfl ?_)
        conv => arg 8; simp only [zA, zB, zC, zD, zE, zF, zG, zH, zI, rowS, ret, id_eq]
        refine TW_on (sub_pick [5] (by decide) rfl) ?_
        repeat (first
          | ((first | refine TW_plain rfl rfl ?_ | refine TW_gmet rfl rfl rfl rfl ?_); first | refine TN_val (qp rfl) rfl rfl ?_ | refine TN_val (qlen Und.eq rfl) rfl rfl ?_ | refine TN_val (qfld FldC.fld rfl rfl) rfl rfl ?_ | refine TN_val (rr_lss rfl rfl (qT (by omega))) rfl rfl ?_ | refine TN_val (rr_lss rfl rfl (qF (by omega))) rfl rfl ?_ | refine TN_val (rr_eql rfl rfl (qT (by omega))) rfl rfl ?_ | refine TN_val (rr_eql rfl rfl (qF (by omega))) rfl rfl ?_ | refine TN_val (rr_add64 rfl rfl (by omega) (by omega) rfl) rfl rfl ?_)
          | refine TW_done ?_)
        repeat (first
          | refine qv rfl (qp rfl) rfl rfl ?_ | refine TL_nil ?_ | refine T_seq ?_ | refine T_region ?_ | refine qcT rfl ?_ | refine qcF rfl ?_ | refine T_skip ?_
          | refine T_exit ?_ | refine T_ret ?_ | refine T_block ?_ | refine E_then ?_ | refine E_thenX ?_ | refine E_thenR ?_ | refine E_blockN ?_
          | refine E_blockR ?_ | refine E_blockX ?_ | refine E_blockO rfl ?_ | refine qv rfl (qlen Und.eq rfl) rfl rfl ?_
          | refine qv rfl (qfld FldC.fld rfl rfl) rfl rfl ?_ | refine qv rfl (rr_lss rfl rfl (qT (by omega))) rfl rfl ?_
          | refine qv rfl (rr_lss rfl rfl (qF (by omega))) rfl rfl ?_ | refine qv rfl (rr_eql rfl rfl (qT (by omega))) rfl rfl ?_
          | refine qv rfl (rr_eql rfl rfl (qF (by omega))) rfl rfl ?_ | refine qv rfl (rr_add64 rfl rfl (by omega) (by omega) rfl) rfl rfl ?_)
        refine E_merge (elsO rexS (fun k => F k ∨ F2 k) (xs.map rcC ++ [rcC (e.kind, e.cls, bm, nm, cm)]) ((r.kids.take j).map (fun e => emb (turn e)) ++ [emb (turn e)])) 6 4 [0, 1, 2, 3] (by decide) rfl rfl rfl (fun k hk => hk.elim (fun h => by cases h) fun h => h.elim (fun h => .inr (.inr h)) fun h => .inl (.inr h)) (fun w hk he => ?_) ?_
        · obtain ⟨⟨v'', hv, h5⟩, h6⟩ := hk
          simp only [List.cons.injEq, and_true] at hv
          subst hv
          refine els_snoc he ?_ h6
          show RexIs F2 w _ (emb (turn e))
          rw [emb_eq, turn_kind, turn_cls]
          exact rex_iff.2 ⟨_, rfl, hkk, h5⟩
        exact E_round (j + 1, v', xs ++ [(e.kind, e.cls, bm, nm, cm)], fun k => F k ∨ F2 k) ⟨by show j + 1 ≤ r.kids.length; omega, hv2, by rw [List.length_append, i3]; rfl⟩ (by show r.kids.length - (j + 1) < r.kids.length - j; omega) (by repeat' (first | exact True.intro | refine And.intro rfl ?_)) (by dsimp only; rw [htk, List.map_append, List.flatMap_append]; rfl)
      · refine TL_call (he1 EntersC.en rfl rfl) (fun w' hm => IHk w' hm.below) rfl rfl rfl ?_
        rintro ⟨vm, F2⟩ _
        conv => arg 8; simp only [zA, zB, zC, zD, zE, zF, zG, zH, zI, rowS, ret, id_eq, turnSp]
        refine TL_know (i := 6) (φ := ∃ b n cap, vm = .slice b n cap) rfl (fun w h => rkO_form h) fun hvm => ?_
        obtain ⟨bm, nm, cm, rfl⟩ := hvm
        refine TW_on (sub_pick [5] (by decide) rfl) ?_
        refine TW_two rfl rfl ?_ ?_
        · refine TL_val (rr_load1 (v := v) TyC.ty rfl (at_blk (i := 2) rfl rfl)) rfl rfl rfl (TW_on (sub_pick [5] (by decide) rfl) ?_)
          refine TW_one rfl (TL_one (cs := (rcC (e.kind, e.cls, bm, nm, cm)).toArray) rfl rfl rfl rfl rfl fun g22 => ?_)
          conv => arg 8; simp only [zA, zB, zC, zD, zE, zF, zG, zH, zI, rowS, ret, id_eq]
          refine TW_on (sub_pick [5] (by decide) rfl) ?_
          refine TW_one rfl ?_
          refine TL_app1 (i := 3) (q := 7) rfl rfl rfl rfl rfl (by rfl) (by omega) (by omega) rfl fun v' => ?_
          conv => arg 8; simp only [zA, zB, zC, zD, zE, zF, zG, zH, zI, rowS, ret, id_eq]
          refine TL_slv (i := 3) rfl fun hv1 hv2 => ?_
          refine TW_on (sub_pick [5] (by decide) rfl) ?_
          repeat (first
            | ((first | refine TW_plain rfl rfl ?_ | refine TW_gmet rfl rfl rfl rfl ?_); first | refine TN_val (qp rfl) rfl rfl ?_ | refine TN_val (qlen Und.eq rfl) rfl rfl ?_ | refine TN_val (qfld FldC.fld rfl rfl) rfl rfl ?_ | refine TN_val (rr_lss rfl rfl (qT (by omega))) rfl rfl ?_ | refine TN_val (rr_lss rfl rfl (qF (by omega))) rfl rfl ?_ | refine TN_val (rr_eql rfl rfl (qT (by omega))) rfl rfl ?_ | refine TN_val (rr_eql rfl rfl (qF (by omega))) rfl rfl ?_ | refine TN_val (rr_add64 rfl rfl (by omega) (by omega) rfl) rfl rfl ?_)
            | refine TW_done ?_)
          refine TW_one rfl (TL_store1 (i := 2) rfl rfl rfl hv1 hv2 rfl ?_)
          conv => arg 8; simp only [zA, zB, zC, zD, zE, zF, zG, zH, zI, rowS, ret, id_eq]
          refine TW_on (sub_pick [5] (by decide) rfl) ?_
          repeat (first
            | ((first | refine TW_plain rfl rfl ?_ | refine TW_gmet rfl rfl rfl rfl ?_); first | refine TN_val (qp rfl) rfl rfl ?_ | refine TN_val (qlen Und.eq rfl) rfl rfl ?_ | refine TN_val (qfld FldC.fld rfl rfl) rfl rfl ?_ | refine TN_val (rr_lss rfl rfl (qT (by omega))) rfl rfl ?_ | refine TN_val (rr_lss rfl rfl (qF (by omega))) rfl rfl ?_ | refine TN_val (rr_eql rfl rfl (qT (by omega))) rfl rfl ?_ | refine TN_val (rr_eql rfl rfl (qF (by omega))) rfl rfl ?_ | refine TN_val (rr_add64 rfl rfl (by omega) (by omega) rfl) rfl rfl ?_)
            | refine TW_done ?_)
          repeat (first
            | refine qv rfl (qp rfl) rfl rfl ?_ | refine TL_nil ?_ | refine T_seq ?_ | refine T_region ?_ | refine qcT rfl ?_ | refine qcF rfl ?_ | refine T_skip ?_
            | refine T_exit ?_ | refine T_ret ?_ | refine T_block ?_ | refine E_then ?_ | refine E_thenX ?_ | refine E_thenR ?_ | refine E_blockN ?_
            | refine E_blockR ?_ | refine E_blockX ?_ | refine E_blockO rfl ?_ | refine qv rfl (qlen Und.eq rfl) rfl rfl ?_
            | refine qv rfl (qfld FldC.fld rfl rfl) rfl rfl ?_ | refine qv rfl (rr_lss rfl rfl (qT (by omega))) rfl rfl ?_
            | refine qv rfl (rr_lss rfl rfl (qF (by omega))) rfl rfl ?_ | refine qv rfl (rr_eql rfl rfl (qT (by omega))) rfl rfl ?_
            | refine qv rfl (rr_eql rfl rfl (qF (by omega))) rfl rfl ?_ | refine qv rfl (rr_add64 rfl rfl (by omega) (by omega) rfl) rfl rfl ?_)
          refine E_merge (elsO rexS (fun k => F k ∨ F2 k) (xs.map rcC ++ [rcC (e.kind, e.cls, bm, nm, cm)]) ((r.kids.take j).map (fun e => emb (turn e)) ++ [emb (turn e)])) 6 4 [0, 1, 2, 3] (by decide) rfl rfl rfl (fun k hk => hk.elim (fun h => by cases h) fun h => h.elim (fun h => .inr (.inr h)) fun h => .inl (.inr h)) (fun w hk he => ?_) ?_
          · obtain ⟨⟨v'', hv, h5⟩, h6⟩ := hk
            simp only [List.cons.injEq, and_true] at hv
            subst hv
            refine els_snoc he ?_ h6
            show RexIs F2 w _ (emb (turn e))
            rw [emb_eq, turn_kind, turn_cls]
            exact rex_iff.2 ⟨_, rfl, hkk, h5⟩
          exact E_round (j + 1, v', xs ++ [(e.kind, e.cls, bm, nm, cm)], fun k => F k ∨ F2 k) ⟨by show j + 1 ≤ r.kids.length; omega, hv2, by rw [List.length_append, i3]; rfl⟩ (by show r.kids.length - (j + 1) < r.kids.length - j; omega) (by repeat' (first | exact True.intro | refine And.intro rfl ?_)) (by dsimp only; rw [htk, List.map_append, List.flatMap_append]; rfl)
        · refine TL_one (cs := (rcC (e.kind, e.cls, bm, nm, cm)).toArray) rfl rfl rfl rfl rfl fun g22 => ?_
          conv => arg 8; simp only [zA, zB, zC, zD, zE, zF, zG, zH, zI, rowS, ret, id_eq]
          refine TW_on (sub_pick [5] (by decide) rfl) ?_
          refine TW_one rfl (TL_val (rr_load1 (v := v) TyC.ty rfl (at_blk (i := 2) rfl rfl)) rfl rfl rfl (TW_on (sub_pick [5] (by decide) rfl) ?_))
          refine TW_one rfl ?_
          refine TL_app1 (i := 3) (q := 7) rfl rfl rfl rfl rfl (by rfl) (by omega) (by omega) rfl fun v' => ?_
          conv => arg 8; simp only [zA, zB, zC, zD, zE, zF, zG, zH, zI, rowS, ret, id_eq]
          refine TL_slv (i := 3) rfl fun hv1 hv2 => ?_
          refine TW_on (sub_pick [5] (by decide) rfl) ?_
          repeat (first
            | ((first | refine TW_plain rfl rfl ?_ | refine TW_gmet rfl rfl rfl rfl ?_); first | refine TN_val (qp rfl) rfl rfl ?_ | refine TN_val (qlen Und.eq rfl) rfl rfl ?_ | refine TN_val (qfld FldC.fld rfl rfl) rfl rfl ?_ | refine TN_val (rr_lss rfl rfl (qT (by omega))) rfl rfl ?_ | refine TN_val (rr_lss rfl rfl (qF (by omega))) rfl rfl ?_ | refine TN_val (rr_eql rfl rfl (qT (by omega))) rfl rfl ?_ | refine TN_val (rr_eql rfl rfl (qF (by omega))) rfl rfl ?_ | refine TN_val (rr_add64 rfl rfl (by omega) (by omega) rfl) rfl rfl ?_)
            | refine TW_done ?_)
          refine TW_one rfl (TL_store1 (i := 2) rfl rfl rfl hv1 hv2 rfl ?_)
          conv => arg 8; simp only [zA, zB, zC, zD, zE, zF, zG, zH, zI, rowS, ret, id_eq]
          refine TW_on (sub_pick [5] (by decide) rfl) ?_
          repeat (first
            | ((first | refine TW_plain rfl rfl ?_ | refine TW_gmet rfl rfl rfl rfl ?_); first | refine TN_val (qp rfl) rfl rfl ?_ | refine TN_val (qlen Und.eq rfl) rfl rfl ?_ | refine TN_val (qfld FldC.fld rfl rfl) rfl rfl ?_ | refine TN_val (rr_lss rfl rfl (qT (by omega))) rfl rfl ?_ | refine TN_val (rr_lss rfl rfl (qF (by omega))) rfl rfl ?_ | refine TN_val (rr_eql rfl rfl (qT (by omega))) rfl rfl ?_ | refine TN_val (rr_eql rfl rfl (qF (by omega))) rfl rfl ?_ | refine TN_val (rr_add64 rfl rfl (by omega) (by omega) rfl) rfl rfl ?_)
            | refine TW_done ?_)
          repeat (first
            | refine qv rfl (qp rfl) rfl rfl ?_ | refine TL_nil ?_ | refine T_seq ?_ | refine T_region ?_ | refine qcT rfl ?_ | refine qcF rfl ?_ | refine T_skip ?_
            | refine T_exit ?_ | refine T_ret ?_ | refine T_block ?_ | refine E_then ?_ | refine E_thenX ?_ | refine E_thenR ?_ | refine E_blockN ?_
            | refine E_blockR ?_ | refine E_blockX ?_ | refine E_blockO rfl ?_ | refine qv rfl (qlen Und.eq rfl) rfl rfl ?_
            | refine qv rfl (qfld FldC.fld rfl rfl) rfl rfl ?_ | refine qv rfl (rr_lss rfl rfl (qT (by omega))) rfl rfl ?_
            | refine qv rfl (rr_lss rfl rfl (qF (by omega))) rfl rfl ?_ | refine qv rfl (rr_eql rfl rfl (qT (by omega))) rfl rfl ?_
            | refine qv rfl (rr_eql rfl rfl (qF (by omega))) rfl rfl ?_ | refine qv rfl (rr_add64 rfl rfl (by omega) (by omega) rfl) rfl rfl ?_)
          refine E_merge (elsO rexS (fun k => F k ∨ F2 k) (xs.map rcC ++ [rcC (e.kind, e.cls, bm, nm, cm)]) ((r.kids.take j).map (fun e => emb (turn e)) ++ [emb (turn e)])) 6 4 [0, 1, 2, 3] (by decide) rfl rfl rfl (fun k hk => hk.elim (fun h => by cases h) fun h => h.elim (fun h => .inr (.inr h)) fun h => .inl (.inr h)) (fun w hk he => ?_) ?_
          · obtain ⟨⟨v'', hv, h5⟩, h6⟩ := hk
            simp only [List.cons.injEq, and_true] at hv
            subst hv
            refine els_snoc he ?_ h6
            show RexIs F2 w _ (emb (turn e))
            rw [emb_eq, turn_kind, turn_cls]
            exact rex_iff.2 ⟨_, rfl, hkk, h5⟩
          exact E_round (j + 1, v', xs ++ [(e.kind, e.cls, bm, nm, cm)], fun k => F k ∨ F2 k) ⟨by show j + 1 ≤ r.kids.length; omega, hv2, by rw [List.length_append, i3]; rfl⟩ (by show r.kids.length - (j + 1) < r.kids.length - j; omega) (by repeat' (first | exact True.intro | refine And.intro rfl ?_)) (by dsimp only; rw [htk, List.map_append, List.flatMap_append]; rfl)
    · subst i3
      have hjl : xs.length = r.kids.length := by omega
      rw [List.take_of_length_le (by omega)]
      have hx64 : xs.length ≤ 9223372036854775807 := by omega
      clear hrk IH
      by_cases c4 : r.kind = 4
      · have ht := turn_kids4 c4
        have hlen : r.kids.length = ((turn r).kids.map emb).length := by rw [← ht]; simp
        repeat (first
          | refine qv rfl (qp rfl) rfl rfl ?_ | refine TL_nil ?_ | refine T_seq ?_ | refine T_region ?_ | refine qcT rfl ?_ | refine qcF rfl ?_ | refine T_skip ?_
          | refine T_exit ?_ | refine T_ret ?_ | refine T_block ?_ | refine E_then ?_ | refine E_thenX ?_ | refine E_thenR ?_ | refine E_blockN ?_
          | refine E_blockR ?_ | refine E_blockX ?_ | refine E_blockO rfl ?_
          | refine qv rfl (rr_load1 (v := .int .i64 r.kind) TyC.ty rfl (at_blk (i := 0) rfl rfl)) rfl rfl ?_
          | refine qv rfl (rr_load1 (v := v) TyC.ty rfl (at_blk (i := 2) rfl rfl)) rfl rfl ?_ | refine qv rfl (qlen Und.eq rfl) rfl rfl ?_
          | refine qv rfl (qfld FldC.fld rfl rfl) rfl rfl ?_ | refine qv rfl (rr_lss rfl rfl (qT (by omega))) rfl rfl ?_
          | refine qv rfl (rr_lss rfl rfl (qF (by omega))) rfl rfl ?_ | refine qv rfl (rr_eql rfl rfl (qT (by omega))) rfl rfl ?_
          | refine qv rfl (rr_eql rfl rfl (qF (by omega))) rfl rfl ?_ | refine qv rfl (rr_add64 rfl rfl (by omega) (by omega) rfl) rfl rfl ?_)
        refine TL_callB [3] [0, 1, 2, 4] (by decide) rfl rfl (he1 EntersC.en rfl rfl) (fun w hm hb => reverseRcR_calls v xs w _ hb hx64) rfl rfl rfl ?_
        intro _ _
        conv => arg 8; simp only [zA, zB, zC, zD, zE, zF, zG, zH, zI, rowS, ret, id_eq]
        refine TL_reown (elsO rexS F (xs.reverse.map rcC) ((turn r).kids.map emb)) (i := 3) rfl (fun w h => by have := els_rev h; rw [← List.map_reverse, ht] at this; exact this) (fun k h => h) ?_
        conv => arg 8; simp only [zA, zB, zC, zD, zE, zF, zG, zH, zI, rowS, ret, id_eq]
        repeat (first
          | refine qv rfl (qp rfl) rfl rfl ?_ | refine TL_nil ?_ | refine T_seq ?_ | refine T_region ?_ | refine qcT rfl ?_ | refine qcF rfl ?_ | refine T_skip ?_
          | refine T_exit ?_ | refine T_ret ?_ | refine T_block ?_ | refine E_then ?_ | refine E_thenX ?_ | refine E_thenR ?_ | refine E_blockN ?_
          | refine E_blockR ?_ | refine E_blockX ?_ | refine E_blockO rfl ?_ | refine qv rfl (rr_loadB (i := 2) TyC.ty rfl rfl rfl) rfl rfl ?_
          | refine qv rfl (qlen Und.eq rfl) rfl rfl ?_ | refine qv rfl (qfld FldC.fld rfl rfl) rfl rfl ?_
          | refine qv rfl (rr_lss rfl rfl (qT (by omega))) rfl rfl ?_ | refine qv rfl (rr_lss rfl rfl (qF (by omega))) rfl rfl ?_
          | refine qv rfl (rr_eql rfl rfl (qT (by omega))) rfl rfl ?_ | refine qv rfl (rr_eql rfl rfl (qF (by omega))) rfl rfl ?_
          | refine qv rfl (rr_add64 rfl rfl (by omega) (by omega) rfl) rfl rfl ?_)
        refine TL_storeB (i := 1) (cs' := (rexC r.kind r.cls v).toArray) rfl rfl rfl rfl (by show ((.int .i64 r.kind :: (clsL r.cls ++ [v])).all Value.oneCell') = true; simp [clsL, i2]; exact ⟨rfl, rfl, rfl, rfl, rfl⟩) rfl ?_
        conv => arg 8; simp only [zA, zB, zC, zD, zE, zF, zG, zH, zI, rowS, ret, id_eq]
        repeat (first
          | refine qv rfl (qp rfl) rfl rfl ?_ | refine TL_nil ?_ | refine T_seq ?_ | refine T_region ?_ | refine qcT rfl ?_ | refine qcF rfl ?_ | refine T_skip ?_
          | refine T_exit ?_ | refine T_ret ?_ | refine T_block ?_ | refine E_then ?_ | refine E_thenX ?_ | refine E_thenR ?_ | refine E_blockN ?_
          | refine E_blockR ?_ | refine E_blockX ?_ | refine E_blockO rfl ?_ | refine qv rfl (qlen Und.eq rfl) rfl rfl ?_
          | refine qv rfl (qfld FldC.fld rfl rfl) rfl rfl ?_ | refine qv rfl (rr_lss rfl rfl (qT (by omega))) rfl rfl ?_
          | refine qv rfl (rr_lss rfl rfl (qF (by omega))) rfl rfl ?_ | refine qv rfl (rr_eql rfl rfl (qT (by omega))) rfl rfl ?_
          | refine qv rfl (rr_eql rfl rfl (qF (by omega))) rfl rfl ?_ | refine qv rfl (rr_add64 rfl rfl (by omega) (by omega) rfl) rfl rfl ?_)
        refine E_merge (rkO (Or1 F v) v ((turn r).kids.map emb)) 4 3 [0, 1, 2] (by decide) rfl rfl rfl (fun k hk => ?_) (fun w hk he => ?_) ?_
        · rcases hk with hk | hk | hk
          · cases hk
          · exact .inr (.inr hk)
          · exact .inl (.inl hk)
        · have hl2 : ((turn r).kids.map emb).length = xs.length := by rw [hjl, ← hlen]
          rw [← hl2] at hk
          exact ⟨⟨v, rfl, slf_of (css := xs.reverse.map rcC) hk he (by decide)⟩, slO_lt (css := xs.reverse.map rcC) hk he⟩
        refine E_retc1 (i := 1) rfl rfl rfl rfl fun w hm => ?_
        exact hm.meets (S := turnSp r) (v, Or1 F v) trivial [3] (by decide) rfl
      · have ht := turn_kidsN c4
        have hlen : r.kids.length = ((turn r).kids.map emb).length := by rw [← ht]; simp
        rw [ht]
        repeat (first
          | refine qv rfl (qp rfl) rfl rfl ?_ | refine TL_nil ?_ | refine T_seq ?_ | refine T_region ?_ | refine qcT rfl ?_ | refine qcF rfl ?_ | refine T_skip ?_
          | refine T_exit ?_ | refine T_ret ?_ | refine T_block ?_ | refine E_then ?_ | refine E_thenX ?_ | refine E_thenR ?_ | refine E_blockN ?_
          | refine E_blockR ?_ | refine E_blockX ?_ | refine E_blockO rfl ?_
          | refine qv rfl (rr_load1 (v := .int .i64 r.kind) TyC.ty rfl (at_blk (i := 0) rfl rfl)) rfl rfl ?_
          | refine qv rfl (rr_loadB (i := 2) TyC.ty rfl rfl rfl) rfl rfl ?_ | refine qv rfl (qlen Und.eq rfl) rfl rfl ?_
          | refine qv rfl (qfld FldC.fld rfl rfl) rfl rfl ?_ | refine qv rfl (rr_lss rfl rfl (qT (by omega))) rfl rfl ?_
          | refine qv rfl (rr_lss rfl rfl (qF (by omega))) rfl rfl ?_ | refine qv rfl (rr_eql rfl rfl (qT (by omega))) rfl rfl ?_
          | refine qv rfl (rr_eql rfl rfl (qF (by omega))) rfl rfl ?_ | refine qv rfl (rr_add64 rfl rfl (by omega) (by omega) rfl) rfl rfl ?_)
        refine TL_storeB (i := 1) (cs' := (rexC r.kind r.cls v).toArray) rfl rfl rfl rfl (by show ((.int .i64 r.kind :: (clsL r.cls ++ [v])).all Value.oneCell') = true; simp [clsL, i2]; exact ⟨rfl, rfl, rfl, rfl, rfl⟩) rfl ?_
        conv => arg 8; simp only [zA, zB, zC, zD, zE, zF, zG, zH, zI, rowS, ret, id_eq]
        repeat (first
          | refine qv rfl (qp rfl) rfl rfl ?_ | refine TL_nil ?_ | refine T_seq ?_ | refine T_region ?_ | refine qcT rfl ?_ | refine qcF rfl ?_ | refine T_skip ?_
          | refine T_exit ?_ | refine T_ret ?_ | refine T_block ?_ | refine E_then ?_ | refine E_thenX ?_ | refine E_thenR ?_ | refine E_blockN ?_
          | refine E_blockR ?_ | refine E_blockX ?_ | refine E_blockO rfl ?_ | refine qv rfl (qlen Und.eq rfl) rfl rfl ?_
          | refine qv rfl (qfld FldC.fld rfl rfl) rfl rfl ?_ | refine qv rfl (rr_lss rfl rfl (qT (by omega))) rfl rfl ?_
          | refine qv rfl (rr_lss rfl rfl (qF (by omega))) rfl rfl ?_ | refine qv rfl (rr_eql rfl rfl (qT (by omega))) rfl rfl ?_
          | refine qv rfl (rr_eql rfl rfl (qF (by omega))) rfl rfl ?_ | refine qv rfl (rr_add64 rfl rfl (by omega) (by omega) rfl) rfl rfl ?_)
        refine E_merge (rkO (Or1 F v) v ((turn r).kids.map emb)) 3 4 [0, 1, 2] (by decide) rfl rfl rfl (fun k hk => ?_) (fun w hk he => ?_) ?_
        · rcases hk with hk | hk | hk
          · cases hk
          · exact .inr (.inr hk)
          · exact .inl (.inl hk)
        · have hl2 : ((turn r).kids.map emb).length = xs.length := by rw [hjl, ← hlen]
          rw [← hl2] at hk
          exact ⟨⟨v, rfl, slf_of (css := xs.map rcC) hk he (by decide)⟩, slO_lt (css := xs.map rcC) hk he⟩
        refine E_retc1 (i := 1) rfl rfl rfl rfl fun w hm => ?_
        exact hm.meets (S := turnSp r) (v, Or1 F v) trivial [3] (by decide) rfl
end Go.Proofs.YtbiacehgfmgfdaaDoor.eng
