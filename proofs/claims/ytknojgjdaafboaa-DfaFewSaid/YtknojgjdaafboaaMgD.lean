/- Part 4 of what DfaFew needs: PlM, ClassB, ClsRg, RexPl, PlR, SmIe, BoE, PlE, PlP, PlK, PlT, DfN, LookOk, DfT, DfaL, DfaO, Dfa, DfaR, SmM, SmU. -/
import Derived.Test.YtknojgjdaafboaaMgC
import Derived.WalkKit
import Derived.WalkSpells
import Derived.WalkLawsBesides
import Derived.Deep.RegionLaw
import Derived.Deep.AppendLies
import Derived.Deep.QuietTactic
import Derived.BigQuiet
import Derived.Deep.DeepCutAuto
import Derived.Lib.Hide
import Derived.Test.YtknojgjdaafboaaRows
import Derived.ProofKit
import Derived.OpenShut
import Derived.ShutString
import Derived.SizedLaws
import Derived.JoinedCond
import Derived.Deep.CondSized
import Derived.Deep.Quiet
import Derived.StillTail
import Derived.Deep.LoopGhost
import Derived.Laws.BitsLemmas
import Derived.Laws.BytesString
import Derived.Test.YtknojgjdaafboaaProg
import Derived.Laws.Entries
import Derived.Laws.BitsAllLaws
import Derived.Lib.TrailingZeros
import Derived.Laws.StructEq
import Derived.Laws.MakeOwn
import Derived.Laws.AppendOwn
import Derived.Maps.OwnSet
import Derived.DeepKeys4
import Derived.WideKeyEntry
import Derived.Laws.Bits64b
import Derived.Lib.SlicesCompact
import Derived.Shelf.Sort.Plain
import Derived.Ground.Names2Prog
import Derived.Shelf.Slices.CompactI
import Derived.Shelf.Slices.In.SortNone
import Derived.Lib.RowBridge
import Derived.ChangeKeysEq
/- PlM -/
namespace Go.Proofs.Ytknojgjdaafboaa.eng
open Go.RowKit kit mix classL rexL placesL
theorem build_posz (w : World) : (Instr.build 44 (#[] : Array (Nat × Value))).run Try.prog w = .ok (.agg #[.slice none 0 0, .slice none 0 0, .slice none 0 0, .slice none 0 0, .slice none 0 0, .slice none 0 0]) w := by
  go_simp
theorem build_mkz (w : World) : (Instr.build 53 (#[] : Array (Nat × Value))).run Try.prog w = .ok (.agg #[.slice none 0 0, .slice none 0 0, .slice none 0 0, .slice none 0 0, .slice none 0 0, .slice none 0 0, .int .i64 0]) w := by
  go_simp
/-- what Make hands back -/
structure PIx where
  vc : Value
  vr : Value
  vf : Value
  vfol : Value
  vl : Value
  ve : Value
  vs : List Value
  F : Nat → Prop
def posL (x : PIx) (m : MS) : List Own :=
  [rowO 31 4 x.vc m.ps.classes.length (m.ps.classes.flatMap clsL), intR x.vr m.ps.rules, intR x.vf m.first, folR x.vfol x.vs, folE x.F x.vs m.ps.follow, rowO 4 1 x.vl m.ps.last.length (m.ps.last.map Value.bool), rowO 4 1 x.ve m.empty.length (m.empty.map Value.bool)]
def posC (x : PIx) : Array Value := #[x.vc, x.vr, x.vf, x.vfol, x.vl, x.ve]
def makeSp (R : Int × MS) : Spec PIx := ⟨fun x => x.vs.length = R.2.ps.follow.length, fun x => .tuple #[.agg (posC x), .int .i64 R.1], fun x => posL x R.2⟩
def nilP : PIx := ⟨.slice none 0 0, .slice none 0 0, .slice none 0 0, .slice none 0 0, .slice none 0 0, .slice none 0 0, [], fun _ => False⟩
/-- nothing, as what Make hands back -/
theorem E_zero {n : Nat} {W : Base} {Q : Exit → Act → World → Prop} {fr : Fr} {L : List Own} {e' : Exit} (h : E n W e' Q fr (L ++ posL nilP .zero)) : E n W e' Q fr L := by
  refine E_nilrow 31 4 (E_nilrow 3 1 (E_nilrow 3 1 (E_nilrow 24 1 (E_extra (folE (fun _ => False) [] []) (fun k hk => hk.elim (fun h => by cases h) id) (fun w => els_nil) (E_nilrow 4 1 (E_nilrow 4 1 ?_))))))
  simp only [List.append_assoc, List.cons_append, List.nil_append]
  exact h
theorem posn_at {vc vr vf vfol vl ve v : Value} {rule : Int} {j : Nat} (h : [vc, vr, vf, vfol, vl, ve][j]? = some v) : (mkC vc vr vf vfol vl ve rule)[0 + j]? = some v := by
  rw [Nat.zero_add]
  match j, h with
  | 0, h => exact h
  | 1, h => exact h
  | 2, h => exact h
  | 3, h => exact h
  | 4, h => exact h
  | 5, h => exact h
def boolC (b : Bool) : List Value := [.bool b]
theorem boolC_len (b : Bool) : (boolC b).length = 1 := rfl
theorem bool_flat (l : List Bool) : l.flatMap boolC = l.map Value.bool := by
  induction l with
  | nil => rfl
  | cons x r ih => rw [List.flatMap_cons, ih]; rfl
def MakeR (rs : List Rx) (R : Int × MS) : Prop :=
  ((rs.length = 0 ∨ 20 < rs.length) ∧ R = (1, .zero)) ∨ (¬ (rs.length = 0 ∨ 20 < rs.length) ∧ checkM rs ≠ 0 ∧ R = (checkM rs, .zero)) ∨
    (¬ (rs.length = 0 ∨ 20 < rs.length) ∧ checkM rs = 0 ∧ ∃ es : List Re, rs = es.map emb ∧ (∀ e ∈ es, e.size ≤ 100) ∧ R = loopM 0 .zero es)
theorem check_drop {l : List Rx} {k : Nat} (h : k < l.length) : checkM (l.drop k) = if chkR l[k] ≠ 0 then chkR l[k] else checkM (l.drop (k + 1)) := by
  rw [List.drop_eq_getElem_cons h, checkM]
set_option maxHeartbeats 16000000 in
theorem make_calls (v : Value) (rs : List Rx) (R : Int × MS) (w : World) (hv : SlF rexS (Low w) w v rs) (hR : MakeR rs R) :
    Calls Try.prog 8 #[v] w (Meets (makeSp R) w) := by
  obtain ⟨bk, ck, rfl, h1, h2, h3⟩ := hv
  unfold maxLen at h2
  refine enter (args := [.slice bk rs.length ck]) (n := 104) Try.func8 rfl rfl rfl ?_
  refine T_seq (T_region (TL_new rfl fun g2 => ?_))
  conv => arg 8; simp only [zA, zB, zC, zD, zE, zF, zG, zH, zI, rowS, ret, id_eq]
  rcases hR with ⟨c1, rfl⟩ | hR
  · by_cases c2 : rs.length = 0
    · repeat (first
        | refine qv rfl (qp rfl) rfl rfl ?_ | refine TL_nil ?_ | refine T_seq ?_ | refine T_region ?_ | refine qcT rfl ?_ | refine qcF rfl ?_ | refine T_skip ?_
        | refine T_exit ?_ | refine T_ret ?_ | refine T_block ?_ | refine E_then ?_ | refine E_thenX ?_ | refine E_thenR ?_ | refine E_blockN ?_
        | refine E_blockR ?_ | refine E_blockX ?_ | refine E_blockO rfl ?_ | refine qs rfl rfl rfl rfl rfl rfl ?_
        | ((try refine qg rfl rfl rfl ?_); first | refine qv rfl (qp rfl) rfl rfl ?_ | refine qv rfl (rr_eql (b := true) rfl rfl (decide_eq_true (by omega))) rfl rfl ?_ | refine qv rfl (rr_build rfl build_posz) rfl rfl ?_ | refine qv rfl (qlen Und.eq rfl) rfl rfl ?_ | refine qv rfl (qfld FldC.fld rfl rfl) rfl rfl ?_ | refine qv rfl (rr_nilc rfl) rfl rfl ?_ | refine qv rfl (rr_lss rfl rfl (qT (by omega))) rfl rfl ?_ | refine qv rfl (rr_lss rfl rfl (qF (by omega))) rfl rfl ?_ | refine qv rfl (rr_gtr rfl rfl (qT (by omega))) rfl rfl ?_ | refine qv rfl (rr_gtr rfl rfl (qF (by omega))) rfl rfl ?_ | refine qv rfl (rr_eql rfl rfl (qT (by omega))) rfl rfl ?_ | refine qv rfl (rr_eql rfl rfl (qF (by omega))) rfl rfl ?_ | refine qv rfl (rr_neq rfl rfl (qT (by omega))) rfl rfl ?_ | refine qv rfl (rr_neq rfl rfl (qF (by omega))) rfl rfl ?_ | refine qv rfl (rr_add64 rfl rfl (by omega) (by omega) rfl) rfl rfl ?_))
      refine TL_storeB (i := 0) rfl rfl rfl rfl rfl rfl ?_
      conv => arg 8; simp only [zA, zB, zC, zD, zE, zF, zG, zH, zI, rowS, ret, id_eq]
      repeat (first
        | refine qv rfl (qp rfl) rfl rfl ?_ | refine TL_nil ?_ | refine T_seq ?_ | refine T_region ?_ | refine qcT rfl ?_ | refine qcF rfl ?_ | refine T_skip ?_
        | refine T_exit ?_ | refine T_ret ?_ | refine T_block ?_ | refine E_then ?_ | refine E_thenX ?_ | refine E_thenR ?_ | refine E_blockN ?_
        | refine E_blockR ?_ | refine E_blockX ?_ | refine E_blockO rfl ?_ | refine qs rfl rfl rfl rfl rfl rfl ?_
        | ((try refine qg rfl rfl rfl ?_); first | refine qv rfl (qp rfl) rfl rfl ?_ | refine qv rfl (qlen Und.eq rfl) rfl rfl ?_ | refine qv rfl (qfld FldC.fld rfl rfl) rfl rfl ?_ | refine qv rfl (rr_nilc rfl) rfl rfl ?_ | refine qv rfl (rr_lss rfl rfl (qT (by omega))) rfl rfl ?_ | refine qv rfl (rr_lss rfl rfl (qF (by omega))) rfl rfl ?_ | refine qv rfl (rr_gtr rfl rfl (qT (by omega))) rfl rfl ?_ | refine qv rfl (rr_gtr rfl rfl (qF (by omega))) rfl rfl ?_ | refine qv rfl (rr_eql rfl rfl (qT (by omega))) rfl rfl ?_ | refine qv rfl (rr_eql rfl rfl (qF (by omega))) rfl rfl ?_ | refine qv rfl (rr_neq rfl rfl (qT (by omega))) rfl rfl ?_ | refine qv rfl (rr_neq rfl rfl (qF (by omega))) rfl rfl ?_ | refine qv rfl (rr_add64 rfl rfl (by omega) (by omega) rfl) rfl rfl ?_))
      refine E_zero ?_
      exact E_retc2 (i := 0) rfl rfl rfl rfl rfl fun w hm => hm.meets (S := makeSp (1, .zero)) nilP rfl [1, 2, 3, 4, 5, 6, 7] (by decide) rfl
    · have c3 : 20 < rs.length := c1.resolve_left c2
      repeat (first
        | refine qv rfl (qp rfl) rfl rfl ?_ | refine TL_nil ?_ | refine T_seq ?_ | refine T_region ?_ | refine qcT rfl ?_ | refine qcF rfl ?_ | refine T_skip ?_
        | refine T_exit ?_ | refine T_ret ?_ | refine T_block ?_ | refine E_then ?_ | refine E_thenX ?_ | refine E_thenR ?_ | refine E_blockN ?_
        | refine E_blockR ?_ | refine E_blockX ?_ | refine E_blockO rfl ?_ | refine qs rfl rfl rfl rfl rfl rfl ?_
        | ((try refine qg rfl rfl rfl ?_); first | refine qv rfl (qp rfl) rfl rfl ?_ | refine qv rfl (rr_eql (b := false) rfl rfl (decide_eq_false (by omega))) rfl rfl ?_ | refine qv rfl (rr_gtr (b := true) rfl rfl (decide_eq_true (by omega))) rfl rfl ?_ | refine qv rfl (rr_build rfl build_posz) rfl rfl ?_ | refine qv rfl (qlen Und.eq rfl) rfl rfl ?_ | refine qv rfl (qfld FldC.fld rfl rfl) rfl rfl ?_ | refine qv rfl (rr_nilc rfl) rfl rfl ?_ | refine qv rfl (rr_lss rfl rfl (qT (by omega))) rfl rfl ?_ | refine qv rfl (rr_lss rfl rfl (qF (by omega))) rfl rfl ?_ | refine qv rfl (rr_gtr rfl rfl (qT (by omega))) rfl rfl ?_ | refine qv rfl (rr_gtr rfl rfl (qF (by omega))) rfl rfl ?_ | refine qv rfl (rr_eql rfl rfl (qT (by omega))) rfl rfl ?_ | refine qv rfl (rr_eql rfl rfl (qF (by omega))) rfl rfl ?_ | refine qv rfl (rr_neq rfl rfl (qT (by omega))) rfl rfl ?_ | refine qv rfl (rr_neq rfl rfl (qF (by omega))) rfl rfl ?_ | refine qv rfl (rr_add64 rfl rfl (by omega) (by omega) rfl) rfl rfl ?_))
      refine TL_storeB (i := 0) rfl rfl rfl rfl rfl rfl ?_
      conv => arg 8; simp only [zA, zB, zC, zD, zE, zF, zG, zH, zI, rowS, ret, id_eq]
      repeat (first
        | refine qv rfl (qp rfl) rfl rfl ?_ | refine TL_nil ?_ | refine T_seq ?_ | refine T_region ?_ | refine qcT rfl ?_ | refine qcF rfl ?_ | refine T_skip ?_
        | refine T_exit ?_ | refine T_ret ?_ | refine T_block ?_ | refine E_then ?_ | refine E_thenX ?_ | refine E_thenR ?_ | refine E_blockN ?_
        | refine E_blockR ?_ | refine E_blockX ?_ | refine E_blockO rfl ?_ | refine qs rfl rfl rfl rfl rfl rfl ?_
        | ((try refine qg rfl rfl rfl ?_); first | refine qv rfl (qp rfl) rfl rfl ?_ | refine qv rfl (qlen Und.eq rfl) rfl rfl ?_ | refine qv rfl (qfld FldC.fld rfl rfl) rfl rfl ?_ | refine qv rfl (rr_nilc rfl) rfl rfl ?_ | refine qv rfl (rr_lss rfl rfl (qT (by omega))) rfl rfl ?_ | refine qv rfl (rr_lss rfl rfl (qF (by omega))) rfl rfl ?_ | refine qv rfl (rr_gtr rfl rfl (qT (by omega))) rfl rfl ?_ | refine qv rfl (rr_gtr rfl rfl (qF (by omega))) rfl rfl ?_ | refine qv rfl (rr_eql rfl rfl (qT (by omega))) rfl rfl ?_ | refine qv rfl (rr_eql rfl rfl (qF (by omega))) rfl rfl ?_ | refine qv rfl (rr_neq rfl rfl (qT (by omega))) rfl rfl ?_ | refine qv rfl (rr_neq rfl rfl (qF (by omega))) rfl rfl ?_ | refine qv rfl (rr_add64 rfl rfl (by omega) (by omega) rfl) rfl rfl ?_))
      refine E_zero ?_
      exact E_retc2 (i := 0) rfl rfl rfl rfl rfl fun w hm => hm.meets (S := makeSp (1, .zero)) nilP rfl [1, 2, 3, 4, 5, 6, 7] (by decide) rfl
  have hlen : ¬ (rs.length = 0 ∨ 20 < rs.length) := by rcases hR with ⟨h, _⟩ | ⟨h, _⟩ <;> exact h
  repeat (first
    | refine qv rfl (qp rfl) rfl rfl ?_ | refine TL_nil ?_ | refine T_seq ?_ | refine T_region ?_ | refine qcT rfl ?_ | refine qcF rfl ?_ | refine T_skip ?_
    | refine T_exit ?_ | refine T_ret ?_ | refine T_block ?_ | refine E_then ?_ | refine E_thenX ?_ | refine E_thenR ?_ | refine E_blockN ?_
    | refine E_blockR ?_ | refine E_blockX ?_ | refine E_blockO rfl ?_ | refine qs rfl rfl rfl rfl rfl rfl ?_
    | ((try refine qg rfl rfl rfl ?_); first | refine qv rfl (qp rfl) rfl rfl ?_ | refine qv rfl (rr_eql (b := false) rfl rfl (decide_eq_false (by omega))) rfl rfl ?_ | refine qv rfl (rr_gtr (b := false) rfl rfl (decide_eq_false (by omega))) rfl rfl ?_ | refine qv rfl (qlen Und.eq rfl) rfl rfl ?_ | refine qv rfl (qfld FldC.fld rfl rfl) rfl rfl ?_ | refine qv rfl (rr_nilc rfl) rfl rfl ?_ | refine qv rfl (rr_lss rfl rfl (qT (by omega))) rfl rfl ?_ | refine qv rfl (rr_lss rfl rfl (qF (by omega))) rfl rfl ?_ | refine qv rfl (rr_gtr rfl rfl (qT (by omega))) rfl rfl ?_ | refine qv rfl (rr_gtr rfl rfl (qF (by omega))) rfl rfl ?_ | refine qv rfl (rr_eql rfl rfl (qT (by omega))) rfl rfl ?_ | refine qv rfl (rr_eql rfl rfl (qF (by omega))) rfl rfl ?_ | refine qv rfl (rr_neq rfl rfl (qT (by omega))) rfl rfl ?_ | refine qv rfl (rr_neq rfl rfl (qF (by omega))) rfl rfl ?_ | refine qv rfl (rr_add64 rfl rfl (by omega) (by omega) rfl) rfl rfl ?_))
  refine T_loop (ι := Nat) (fun k => k ≤ rs.length ∧ checkM rs = checkM (rs.drop k)) (fun k => [(0, .slice bk rs.length ck), (2, .pointer (some ⟨g2, 0, none⟩)), (22, .slice bk rs.length ck), (23, .int .i64 rs.length), (24, .int .i64 (k : Int))])
    (fun _ => [blkO g2 #[.slice none 0 0, .slice none 0 0, .slice none 0 0, .slice none 0 0, .slice none 0 0, .slice none 0 0] 44]) (fun k => rs.length - k) 0 ⟨Nat.zero_le _, rfl⟩ (by repeat' (first | exact True.intro | refine And.intro rfl ?_)) rfl ?_
  rintro k ⟨i1, i2⟩
  by_cases c6 : k < rs.length
  · obtain ⟨b, off, rfl, hF, hrd⟩ := h3 (by omega)
    obtain ⟨kb, kc, hr, hkid⟩ := rkid_at hrd c6
    have hat := fun (L : List Own) (j : Nat) (v : Value) (hj : (rexC rs[k].kind rs[k].cls (.slice kb rs[k].kids.length kc))[j]? = some v) => at_rd (L := L) hr hj
    have hck : ∀ w', Gr w w' → Calls Try.prog 12 #[rexV rs[k].kind rs[k].cls (.slice kb rs[k].kids.length kc)] w' (Meets (ret (.int .i64 (chkR rs[k]))) w') := fun w' hg => rexCheck_calls _ _ w' (hkid.gr hg)
    have hdr := check_drop c6
    clear h3 hrd hr
    generalize rs[k] = r at *
    repeat (first
      | refine qv rfl (qp rfl) rfl rfl ?_ | refine TL_nil ?_ | refine T_seq ?_ | refine T_region ?_ | refine qcT rfl ?_ | refine qcF rfl ?_ | refine T_skip ?_
      | refine T_exit ?_ | refine T_ret ?_ | refine T_block ?_ | refine E_then ?_ | refine E_thenX ?_ | refine E_thenR ?_ | refine E_blockN ?_
      | refine E_blockR ?_ | refine E_blockX ?_ | refine E_blockO rfl ?_ | refine qs rfl rfl rfl rfl rfl rfl ?_
      | ((try refine qg rfl rfl rfl ?_); first | refine qv rfl (qp rfl) rfl rfl ?_ | refine qv rfl (rr_idxc Und.eq TyC.ty rfl rfl c6) rfl rfl ?_ | refine qv rfl (rr_loadN TyC.ty rfl rfl (hat _)) rfl rfl ?_ | refine qv rfl (qlen Und.eq rfl) rfl rfl ?_ | refine qv rfl (qfld FldC.fld rfl rfl) rfl rfl ?_ | refine qv rfl (rr_nilc rfl) rfl rfl ?_ | refine qv rfl (rr_lss rfl rfl (qT (by omega))) rfl rfl ?_ | refine qv rfl (rr_lss rfl rfl (qF (by omega))) rfl rfl ?_ | refine qv rfl (rr_gtr rfl rfl (qT (by omega))) rfl rfl ?_ | refine qv rfl (rr_gtr rfl rfl (qF (by omega))) rfl rfl ?_ | refine qv rfl (rr_eql rfl rfl (qT (by omega))) rfl rfl ?_ | refine qv rfl (rr_eql rfl rfl (qF (by omega))) rfl rfl ?_ | refine qv rfl (rr_neq rfl rfl (qT (by omega))) rfl rfl ?_ | refine qv rfl (rr_neq rfl rfl (qF (by omega))) rfl rfl ?_ | refine qv rfl (rr_add64 rfl rfl (by omega) (by omega) rfl) rfl rfl ?_))
    refine TL_new rfl fun g5 => ?_
    conv => arg 8; simp only [zA, zB, zC, zD, zE, zF, zG, zH, zI, rowS, ret, id_eq]
    refine TL_storeB (i := 1) (cs' := (rexC r.kind r.cls (.slice kb r.kids.length kc)).toArray) rfl rfl rfl rfl rfl rfl ?_
    conv => arg 8; simp only [zA, zB, zC, zD, zE, zF, zG, zH, zI, rowS, ret, id_eq]
    repeat (first
      | refine qv rfl (qp rfl) rfl rfl ?_ | refine TL_nil ?_ | refine T_seq ?_ | refine T_region ?_ | refine qcT rfl ?_ | refine qcF rfl ?_ | refine T_skip ?_
      | refine T_exit ?_ | refine T_ret ?_ | refine T_block ?_ | refine E_then ?_ | refine E_thenX ?_ | refine E_thenR ?_ | refine E_blockN ?_
      | refine E_blockR ?_ | refine E_blockX ?_ | refine E_blockO rfl ?_ | refine qs rfl rfl rfl rfl rfl rfl ?_
      | ((try refine qg rfl rfl rfl ?_); first | refine qv rfl (qp rfl) rfl rfl ?_ | refine qv rfl (rr_loadB (i := 1) TyC.ty rfl rfl rfl) rfl rfl ?_ | refine qv rfl (qlen Und.eq rfl) rfl rfl ?_ | refine qv rfl (qfld FldC.fld rfl rfl) rfl rfl ?_ | refine qv rfl (rr_nilc rfl) rfl rfl ?_ | refine qv rfl (rr_lss rfl rfl (qT (by omega))) rfl rfl ?_ | refine qv rfl (rr_lss rfl rfl (qF (by omega))) rfl rfl ?_ | refine qv rfl (rr_gtr rfl rfl (qT (by omega))) rfl rfl ?_ | refine qv rfl (rr_gtr rfl rfl (qF (by omega))) rfl rfl ?_ | refine qv rfl (rr_eql rfl rfl (qT (by omega))) rfl rfl ?_ | refine qv rfl (rr_eql rfl rfl (qF (by omega))) rfl rfl ?_ | refine qv rfl (rr_neq rfl rfl (qT (by omega))) rfl rfl ?_ | refine qv rfl (rr_neq rfl rfl (qF (by omega))) rfl rfl ?_ | refine qv rfl (rr_add64 rfl rfl (by omega) (by omega) rfl) rfl rfl ?_))
    refine TL_call (he1 EntersC.en rfl rfl) (fun w hm => hck _ hm.below) rfl rfl rfl ?_
    intro _ _
    conv => arg 8; simp only [zA, zB, zC, zD, zE, zF, zG, zH, zI, rowS, ret, id_eq]
    by_cases c7 : chkR r = 0
    · repeat (first
        | refine qv rfl (qp rfl) rfl rfl ?_ | refine TL_nil ?_ | refine T_seq ?_ | refine T_region ?_ | refine qcT rfl ?_ | refine qcF rfl ?_ | refine T_skip ?_
        | refine T_exit ?_ | refine T_ret ?_ | refine T_block ?_ | refine E_then ?_ | refine E_thenX ?_ | refine E_thenR ?_ | refine E_blockN ?_
        | refine E_blockR ?_ | refine E_blockX ?_ | refine E_blockO rfl ?_ | refine qs rfl rfl rfl rfl rfl rfl ?_
        | ((try refine qg rfl rfl rfl ?_); first | refine qv rfl (qp rfl) rfl rfl ?_ | refine qv rfl (rr_neq (b := false) rfl rfl (decide_eq_false (by simpa using c7))) rfl rfl ?_ | refine qv rfl (qlen Und.eq rfl) rfl rfl ?_ | refine qv rfl (qfld FldC.fld rfl rfl) rfl rfl ?_ | refine qv rfl (rr_nilc rfl) rfl rfl ?_ | refine qv rfl (rr_lss rfl rfl (qT (by omega))) rfl rfl ?_ | refine qv rfl (rr_lss rfl rfl (qF (by omega))) rfl rfl ?_ | refine qv rfl (rr_gtr rfl rfl (qT (by omega))) rfl rfl ?_ | refine qv rfl (rr_gtr rfl rfl (qF (by omega))) rfl rfl ?_ | refine qv rfl (rr_eql rfl rfl (qT (by omega))) rfl rfl ?_ | refine qv rfl (rr_eql rfl rfl (qF (by omega))) rfl rfl ?_ | refine qv rfl (rr_neq rfl rfl (qT (by omega))) rfl rfl ?_ | refine qv rfl (rr_neq rfl rfl (qF (by omega))) rfl rfl ?_ | refine qv rfl (rr_add64 rfl rfl (by omega) (by omega) rfl) rfl rfl ?_))
      refine E_pick [0] (by decide) rfl ?_
      exact E_round (k + 1) ⟨by omega, by rw [i2, hdr, if_neg (by simpa using c7)]⟩ (by show rs.length - (k + 1) < rs.length - k; omega) (by repeat' (first | exact True.intro | refine And.intro rfl ?_)) rfl
    · have hne : checkM rs ≠ 0 := by rw [i2, hdr, if_pos c7]; exact c7
      rcases hR with ⟨_, _, rfl⟩ | ⟨_, h0, _⟩
      · rw [i2, hdr, if_pos c7]
        repeat (first
          | refine qv rfl (qp rfl) rfl rfl ?_ | refine TL_nil ?_ | refine T_seq ?_ | refine T_region ?_ | refine qcT rfl ?_ | refine qcF rfl ?_ | refine T_skip ?_
          | refine T_exit ?_ | refine T_ret ?_ | refine T_block ?_ | refine E_then ?_ | refine E_thenX ?_ | refine E_thenR ?_ | refine E_blockN ?_
          | refine E_blockR ?_ | refine E_blockX ?_ | refine E_blockO rfl ?_ | refine qs rfl rfl rfl rfl rfl rfl ?_
          | ((try refine qg rfl rfl rfl ?_); first | refine qv rfl (qp rfl) rfl rfl ?_ | refine qv rfl (rr_neq (b := true) rfl rfl (decide_eq_true c7)) rfl rfl ?_ | refine qv rfl (rr_build rfl build_posz) rfl rfl ?_ | refine qv rfl (qlen Und.eq rfl) rfl rfl ?_ | refine qv rfl (qfld FldC.fld rfl rfl) rfl rfl ?_ | refine qv rfl (rr_nilc rfl) rfl rfl ?_ | refine qv rfl (rr_lss rfl rfl (qT (by omega))) rfl rfl ?_ | refine qv rfl (rr_lss rfl rfl (qF (by omega))) rfl rfl ?_ | refine qv rfl (rr_gtr rfl rfl (qT (by omega))) rfl rfl ?_ | refine qv rfl (rr_gtr rfl rfl (qF (by omega))) rfl rfl ?_ | refine qv rfl (rr_eql rfl rfl (qT (by omega))) rfl rfl ?_ | refine qv rfl (rr_eql rfl rfl (qF (by omega))) rfl rfl ?_ | refine qv rfl (rr_neq rfl rfl (qT (by omega))) rfl rfl ?_ | refine qv rfl (rr_neq rfl rfl (qF (by omega))) rfl rfl ?_ | refine qv rfl (rr_add64 rfl rfl (by omega) (by omega) rfl) rfl rfl ?_))
        refine TL_storeB (i := 0) rfl rfl rfl rfl rfl rfl ?_
        conv => arg 8; simp only [zA, zB, zC, zD, zE, zF, zG, zH, zI, rowS, ret, id_eq]
        repeat (first
          | refine qv rfl (qp rfl) rfl rfl ?_ | refine TL_nil ?_ | refine T_seq ?_ | refine T_region ?_ | refine qcT rfl ?_ | refine qcF rfl ?_ | refine T_skip ?_
          | refine T_exit ?_ | refine T_ret ?_ | refine T_block ?_ | refine E_then ?_ | refine E_thenX ?_ | refine E_thenR ?_ | refine E_blockN ?_
          | refine E_blockR ?_ | refine E_blockX ?_ | refine E_blockO rfl ?_ | refine qs rfl rfl rfl rfl rfl rfl ?_
          | ((try refine qg rfl rfl rfl ?_); first | refine qv rfl (qp rfl) rfl rfl ?_ | refine qv rfl (qlen Und.eq rfl) rfl rfl ?_ | refine qv rfl (qfld FldC.fld rfl rfl) rfl rfl ?_ | refine qv rfl (rr_nilc rfl) rfl rfl ?_ | refine qv rfl (rr_lss rfl rfl (qT (by omega))) rfl rfl ?_ | refine qv rfl (rr_lss rfl rfl (qF (by omega))) rfl rfl ?_ | refine qv rfl (rr_gtr rfl rfl (qT (by omega))) rfl rfl ?_ | refine qv rfl (rr_gtr rfl rfl (qF (by omega))) rfl rfl ?_ | refine qv rfl (rr_eql rfl rfl (qT (by omega))) rfl rfl ?_ | refine qv rfl (rr_eql rfl rfl (qF (by omega))) rfl rfl ?_ | refine qv rfl (rr_neq rfl rfl (qT (by omega))) rfl rfl ?_ | refine qv rfl (rr_neq rfl rfl (qF (by omega))) rfl rfl ?_ | refine qv rfl (rr_add64 rfl rfl (by omega) (by omega) rfl) rfl rfl ?_))
        refine E_zero ?_
        exact E_retc2 (i := 0) rfl rfl rfl rfl rfl fun w hm => hm.meets (S := makeSp (chkR r, .zero)) nilP rfl [2, 3, 4, 5, 6, 7, 8] (by decide) rfl
      · exact absurd h0 hne
  · obtain rfl : k = rs.length := by omega
    have h0 : checkM rs = 0 := by rw [i2, List.drop_eq_nil_of_le (Nat.le_refl _)]; rfl
    obtain ⟨es, rfl, hsz, rfl⟩ : ∃ es : List Re, rs = es.map emb ∧ (∀ e ∈ es, e.size ≤ 100) ∧ R = loopM 0 .zero es := by
      rcases hR with ⟨_, h, _⟩ | ⟨_, _, h⟩
      · exact absurd h0 h
      · exact h
    have h20 : (List.map emb es).length ≤ 20 := by omega
    clear hR hlen i1 i2
    repeat (first
      | refine qv rfl (qp rfl) rfl rfl ?_ | refine TL_nil ?_ | refine T_seq ?_ | refine T_region ?_ | refine qcT rfl ?_ | refine qcF rfl ?_ | refine T_skip ?_
      | refine T_exit ?_ | refine T_ret ?_ | refine T_block ?_ | refine E_then ?_ | refine E_thenX ?_ | refine E_thenR ?_ | refine E_blockN ?_
      | refine E_blockR ?_ | refine E_blockX ?_ | refine E_blockO rfl ?_ | refine qs rfl rfl rfl rfl rfl rfl ?_
      | ((try refine qg rfl rfl rfl ?_); first | refine qv rfl (qp rfl) rfl rfl ?_ | refine qv rfl (rr_build rfl build_mkz) rfl rfl ?_ | refine qv rfl (qlen Und.eq rfl) rfl rfl ?_ | refine qv rfl (qfld FldC.fld rfl rfl) rfl rfl ?_ | refine qv rfl (rr_nilc rfl) rfl rfl ?_ | refine qv rfl (rr_lss rfl rfl (qT (by omega))) rfl rfl ?_ | refine qv rfl (rr_lss rfl rfl (qF (by omega))) rfl rfl ?_ | refine qv rfl (rr_gtr rfl rfl (qT (by omega))) rfl rfl ?_ | refine qv rfl (rr_gtr rfl rfl (qF (by omega))) rfl rfl ?_ | refine qv rfl (rr_eql rfl rfl (qT (by omega))) rfl rfl ?_ | refine qv rfl (rr_eql rfl rfl (qF (by omega))) rfl rfl ?_ | refine qv rfl (rr_neq rfl rfl (qT (by omega))) rfl rfl ?_ | refine qv rfl (rr_neq rfl rfl (qF (by omega))) rfl rfl ?_ | refine qv rfl (rr_add64 rfl rfl (by omega) (by omega) rfl) rfl rfl ?_))
    refine TL_box rfl rfl rfl fun g7 => ?_
    conv => arg 8; simp only [zA, zB, zC, zD, zE, zF, zG, zH, zI, rowS, ret, id_eq]
    repeat (first
      | refine qv rfl (qp rfl) rfl rfl ?_ | refine TL_nil ?_ | refine T_seq ?_ | refine T_region ?_ | refine qcT rfl ?_ | refine qcF rfl ?_ | refine T_skip ?_
      | refine T_exit ?_ | refine T_ret ?_ | refine T_block ?_ | refine E_then ?_ | refine E_thenX ?_ | refine E_thenR ?_ | refine E_blockN ?_
      | refine E_blockR ?_ | refine E_blockX ?_ | refine E_blockO rfl ?_ | refine qs rfl rfl rfl rfl rfl rfl ?_
      | ((try refine qg rfl rfl rfl ?_); first | refine qv rfl (qp rfl) rfl rfl ?_ | refine qv rfl (qlen Und.eq rfl) rfl rfl ?_ | refine qv rfl (qfld FldC.fld rfl rfl) rfl rfl ?_ | refine qv rfl (rr_nilc rfl) rfl rfl ?_ | refine qv rfl (rr_lss rfl rfl (qT (by omega))) rfl rfl ?_ | refine qv rfl (rr_lss rfl rfl (qF (by omega))) rfl rfl ?_ | refine qv rfl (rr_gtr rfl rfl (qT (by omega))) rfl rfl ?_ | refine qv rfl (rr_gtr rfl rfl (qF (by omega))) rfl rfl ?_ | refine qv rfl (rr_eql rfl rfl (qT (by omega))) rfl rfl ?_ | refine qv rfl (rr_eql rfl rfl (qF (by omega))) rfl rfl ?_ | refine qv rfl (rr_neq rfl rfl (qT (by omega))) rfl rfl ?_ | refine qv rfl (rr_neq rfl rfl (qF (by omega))) rfl rfl ?_ | refine qv rfl (rr_add64 rfl rfl (by omega) (by omega) rfl) rfl rfl ?_))
    refine T_nil 31 4 (T_nil 3 1 (T_nil 24 1 (T_extra (folE (fun _ => False) [] []) (fun k hk => hk.elim (fun h => by cases h) id) (fun w => els_nil) (T_nil 4 1 (T_nil 3 1 (T_nil 4 1 ?_))))))
    refine T_loop (ι := Nat × MS × MIx × Value × Value × Int) (fun (k, m, x, _, _, _) => k ≤ es.length ∧ loopM 0 .zero es = loopM k m (es.drop k) ∧ MSOk m ∧ m.ps.classes.length ≤ 200 ∧ x.vs.length = m.ps.follow.length ∧ m.empty.length = k) (fun (k, _, _, _, _, _) => [(2, .pointer (some ⟨g2, 0, none⟩)), (7, .pointer (some ⟨g7, 0, none⟩)), (37, .slice bk (es.map emb).length ck), (38, .int .i64 (es.map emb).length), (39, .int .i64 (k : Int))])
      (fun (_, m, x, vf, ve, rule) => [blkO g2 #[.slice none 0 0, .slice none 0 0, .slice none 0 0, .slice none 0 0, .slice none 0 0, .slice none 0 0] 44] ++ mkL g7 vf ve rule x m.ps ++ [intR vf m.first, rowO 4 1 ve m.empty.length (m.empty.map Value.bool)]) (fun (k, _, _, _, _, _) => es.length - k)
      (0, .zero, ⟨.slice none 0 0, .slice none 0 0, .slice none 0 0, .slice none 0 0, [], fun _ => False⟩, .slice none 0 0, .slice none 0 0, 0) ⟨Nat.zero_le _, rfl, zero_ok, Nat.zero_le _, rfl, rfl⟩ (by repeat' (first | exact True.intro | refine And.intro rfl ?_)) rfl ?_
    rintro ⟨k, m, ⟨vc, vr, vfol, vl, vs, F⟩, vf, ve, rule⟩ ⟨i1, i2, i3, i4, i5, i6⟩
    dsimp only at i1 i2 i3 i4 i5 i6 ⊢
    conv => arg 7; simp only [zA, zB, zC, zD, zE, zF, zG, zH, zI, rowS, ret, id_eq, mkL]
    have hml : (List.map emb es).length = es.length := List.length_map ..
    by_cases c6 : k < es.length
    · obtain ⟨b, off, rfl, hF, hrd⟩ := h3 (by omega)
      obtain ⟨kb, kc, hr, hkid⟩ := rkid_at (k := k) hrd (by omega)
      have hat := fun (L : List Own) (j : Nat) (v : Value) (hj : (rexC (es.map emb)[k].kind (es.map emb)[k].cls (.slice kb (es.map emb)[k].kids.length kc))[j]? = some v) => at_rd (L := L) hr hj
      have hke : (es.map emb)[k]'(by omega) = emb es[k] := List.getElem_map ..
      rw [hke] at hat hkid
      have hse := hsz es[k] (List.getElem_mem c6)
      rw [List.drop_eq_getElem_cons c6, loopM] at i2
      clear h3 hrd hr hke
      generalize es[k] = e at *
      have hst := step_ok k i3 e
      have hnd := node_ok k e m.ps i3.ps
      have hno := fun v w B hv hm => node_at 100 e hse g7 vf ve k m.ps ⟨vc, vr, vfol, vl, vs, F⟩ v w B i3.ps i5 (by omega) ⟨by omega, by omega⟩ hv hm
      repeat (first
        | refine qv rfl (qp rfl) rfl rfl ?_ | refine TL_nil ?_ | refine T_seq ?_ | refine T_region ?_ | refine qcT rfl ?_ | refine qcF rfl ?_ | refine T_skip ?_
        | refine T_exit ?_ | refine T_ret ?_ | refine T_block ?_ | refine E_then ?_ | refine E_thenX ?_ | refine E_thenR ?_ | refine E_blockN ?_
        | refine E_blockR ?_ | refine E_blockX ?_ | refine E_blockO rfl ?_ | refine qs rfl rfl rfl rfl rfl rfl ?_
        | ((try refine qg rfl rfl rfl ?_); first | refine qv rfl (qp rfl) rfl rfl ?_ | refine qv rfl (rr_idxc Und.eq TyC.ty rfl rfl (by omega)) rfl rfl ?_ | refine qv rfl (rr_loadN TyC.ty rfl rfl (hat _)) rfl rfl ?_ | refine qv rfl (qlen Und.eq rfl) rfl rfl ?_ | refine qv rfl (qfld FldC.fld rfl rfl) rfl rfl ?_ | refine qv rfl (rr_nilc rfl) rfl rfl ?_ | refine qv rfl (rr_lss rfl rfl (qT (by omega))) rfl rfl ?_ | refine qv rfl (rr_lss rfl rfl (qF (by omega))) rfl rfl ?_ | refine qv rfl (rr_gtr rfl rfl (qT (by omega))) rfl rfl ?_ | refine qv rfl (rr_gtr rfl rfl (qF (by omega))) rfl rfl ?_ | refine qv rfl (rr_eql rfl rfl (qT (by omega))) rfl rfl ?_ | refine qv rfl (rr_eql rfl rfl (qF (by omega))) rfl rfl ?_ | refine qv rfl (rr_neq rfl rfl (qT (by omega))) rfl rfl ?_ | refine qv rfl (rr_neq rfl rfl (qF (by omega))) rfl rfl ?_ | refine qv rfl (rr_add64 rfl rfl (by omega) (by omega) rfl) rfl rfl ?_))
      refine TL_new rfl fun g9 => ?_
      conv => arg 8; simp only [zA, zB, zC, zD, zE, zF, zG, zH, zI, rowS, ret, id_eq]
      repeat (first
        | refine qv rfl (qp rfl) rfl rfl ?_ | refine TL_nil ?_ | refine T_seq ?_ | refine T_region ?_ | refine qcT rfl ?_ | refine qcF rfl ?_ | refine T_skip ?_
        | refine T_exit ?_ | refine T_ret ?_ | refine T_block ?_ | refine E_then ?_ | refine E_thenX ?_ | refine E_thenR ?_ | refine E_blockN ?_
        | refine E_blockR ?_ | refine E_blockX ?_ | refine E_blockO rfl ?_ | refine qs rfl rfl rfl rfl rfl rfl ?_
        | ((try refine qg rfl rfl rfl ?_); first | refine qv rfl (qp rfl) rfl rfl ?_ | refine qv rfl (qlen Und.eq rfl) rfl rfl ?_ | refine qv rfl (qfld FldC.fld rfl rfl) rfl rfl ?_ | refine qv rfl (rr_nilc rfl) rfl rfl ?_ | refine qv rfl (rr_lss rfl rfl (qT (by omega))) rfl rfl ?_ | refine qv rfl (rr_lss rfl rfl (qF (by omega))) rfl rfl ?_ | refine qv rfl (rr_gtr rfl rfl (qT (by omega))) rfl rfl ?_ | refine qv rfl (rr_gtr rfl rfl (qF (by omega))) rfl rfl ?_ | refine qv rfl (rr_eql rfl rfl (qT (by omega))) rfl rfl ?_ | refine qv rfl (rr_eql rfl rfl (qF (by omega))) rfl rfl ?_ | refine qv rfl (rr_neq rfl rfl (qT (by omega))) rfl rfl ?_ | refine qv rfl (rr_neq rfl rfl (qF (by omega))) rfl rfl ?_ | refine qv rfl (rr_add64 rfl rfl (by omega) (by omega) rfl) rfl rfl ?_))
      refine TL_storeB (i := 9) (cs' := (rexC (emb e).kind (emb e).cls (.slice kb (emb e).kids.length kc)).toArray) rfl rfl rfl rfl rfl rfl ?_
      conv => arg 8; simp only [zA, zB, zC, zD, zE, zF, zG, zH, zI, rowS, ret, id_eq]
      repeat (first
        | refine qv rfl (qp rfl) rfl rfl ?_ | refine TL_nil ?_ | refine T_seq ?_ | refine T_region ?_ | refine qcT rfl ?_ | refine qcF rfl ?_ | refine T_skip ?_
        | refine T_exit ?_ | refine T_ret ?_ | refine T_block ?_ | refine E_then ?_ | refine E_thenX ?_ | refine E_thenR ?_ | refine E_blockN ?_
        | refine E_blockR ?_ | refine E_blockX ?_ | refine E_blockO rfl ?_ | refine qs rfl rfl rfl rfl rfl rfl ?_
        | ((try refine qg rfl rfl rfl ?_); first | refine qv rfl (qp rfl) rfl rfl ?_ | refine qv rfl (rr_nilc rfl) rfl rfl ?_ | refine qv rfl (qlen Und.eq rfl) rfl rfl ?_ | refine qv rfl (qfld FldC.fld rfl rfl) rfl rfl ?_ | refine qv rfl (rr_nilc rfl) rfl rfl ?_ | refine qv rfl (rr_lss rfl rfl (qT (by omega))) rfl rfl ?_ | refine qv rfl (rr_lss rfl rfl (qF (by omega))) rfl rfl ?_ | refine qv rfl (rr_gtr rfl rfl (qT (by omega))) rfl rfl ?_ | refine qv rfl (rr_gtr rfl rfl (qF (by omega))) rfl rfl ?_ | refine qv rfl (rr_eql rfl rfl (qT (by omega))) rfl rfl ?_ | refine qv rfl (rr_eql rfl rfl (qF (by omega))) rfl rfl ?_ | refine qv rfl (rr_neq rfl rfl (qT (by omega))) rfl rfl ?_ | refine qv rfl (rr_neq rfl rfl (qF (by omega))) rfl rfl ?_ | refine qv rfl (rr_add64 rfl rfl (by omega) (by omega) rfl) rfl rfl ?_))
      refine TL_store1 (i := 1) rfl rfl rfl rfl rfl rfl ?_
      conv => arg 8; simp only [zA, zB, zC, zD, zE, zF, zG, zH, zI, rowS, ret, id_eq]
      repeat (first
        | refine qv rfl (qp rfl) rfl rfl ?_ | refine TL_nil ?_ | refine T_seq ?_ | refine T_region ?_ | refine qcT rfl ?_ | refine qcF rfl ?_ | refine T_skip ?_
        | refine T_exit ?_ | refine T_ret ?_ | refine T_block ?_ | refine E_then ?_ | refine E_thenX ?_ | refine E_thenR ?_ | refine E_blockN ?_
        | refine E_blockR ?_ | refine E_blockX ?_ | refine E_blockO rfl ?_ | refine qs rfl rfl rfl rfl rfl rfl ?_
        | ((try refine qg rfl rfl rfl ?_); first | refine qv rfl (qp rfl) rfl rfl ?_ | refine qv rfl (rr_loadB (i := 9) TyC.ty rfl rfl rfl) rfl rfl ?_ | refine qv rfl (qlen Und.eq rfl) rfl rfl ?_ | refine qv rfl (qfld FldC.fld rfl rfl) rfl rfl ?_ | refine qv rfl (rr_nilc rfl) rfl rfl ?_ | refine qv rfl (rr_lss rfl rfl (qT (by omega))) rfl rfl ?_ | refine qv rfl (rr_lss rfl rfl (qF (by omega))) rfl rfl ?_ | refine qv rfl (rr_gtr rfl rfl (qT (by omega))) rfl rfl ?_ | refine qv rfl (rr_gtr rfl rfl (qF (by omega))) rfl rfl ?_ | refine qv rfl (rr_eql rfl rfl (qT (by omega))) rfl rfl ?_ | refine qv rfl (rr_eql rfl rfl (qF (by omega))) rfl rfl ?_ | refine qv rfl (rr_neq rfl rfl (qT (by omega))) rfl rfl ?_ | refine qv rfl (rr_neq rfl rfl (qF (by omega))) rfl rfl ?_ | refine qv rfl (rr_add64 rfl rfl (by omega) (by omega) rfl) rfl rfl ?_))
      refine TL_callB [1, 2, 3, 4, 5, 6] [0, 7, 8, 9] (by decide) rfl rfl (he2 EntersC.en rfl rfl rfl) (fun w hm hb => hno _ w _ (rex_on (hm.pick [1, 2, 3, 4, 5, 6] (by decide) rfl) (hkid.mono fun k hk => ⟨hk, id⟩)) hb) rfl rfl rfl ?_
      rintro ⟨⟨vc', vr', vfol', vl', vs', F'⟩, va, vb⟩ hx'
      conv => arg 8; simp only [zA, zB, zC, zD, zE, zF, zG, zH, zI, rowS, ret, id_eq, nodeSp, mkL]
      conv => arg 7; simp only [nodeSp]
      have hx' : vs'.length = (nodeF k e m.ps).2.follow.length := hx'
      unfold stepM at i2 hst
      generalize nodeF k e m.ps = R at *
      obtain ⟨⟨em, first, last⟩, p'⟩ := R
      dsimp only at i2 hst hnd hx' ⊢
      obtain ⟨n1, n2, n3, n4, n5⟩ := hnd
      have hl1 := ris_len i3.first
      have hl2 := ris_len n4
      have hl3 := ris_len n5
      refine TL_slv (i := 10) rfl fun _ qa => TL_slv (i := 11) rfl fun _ qb => TL_new rfl fun g10 => ?_
      conv => arg 8; simp only [zA, zB, zC, zD, zE, zF, zG, zH, zI, rowS, ret, id_eq]
      refine TL_storeB (i := 12) (cs' := #[.bool em, va, vb]) rfl rfl rfl rfl (by simp only [List.all_cons, List.all_nil, qa, qb]; rfl) rfl ?_
      conv => arg 8; simp only [zA, zB, zC, zD, zE, zF, zG, zH, zI, rowS, ret, id_eq]
      repeat (first
        | refine qv rfl (qp rfl) rfl rfl ?_ | refine TL_nil ?_ | refine T_seq ?_ | refine T_region ?_ | refine qcT rfl ?_ | refine qcF rfl ?_ | refine T_skip ?_
        | refine T_exit ?_ | refine T_ret ?_ | refine T_block ?_ | refine E_then ?_ | refine E_thenX ?_ | refine E_thenR ?_ | refine E_blockN ?_
        | refine E_blockR ?_ | refine E_blockX ?_ | refine E_blockO rfl ?_ | refine qs rfl rfl rfl rfl rfl rfl ?_
        | ((try refine qg rfl rfl rfl ?_); first | refine qv rfl (qp rfl) rfl rfl ?_ | refine qv rfl (qlen Und.eq rfl) rfl rfl ?_ | refine qv rfl (qfld FldC.fld rfl rfl) rfl rfl ?_ | refine qv rfl (rr_nilc rfl) rfl rfl ?_ | refine qv rfl (rr_lss rfl rfl (qT (by omega))) rfl rfl ?_ | refine qv rfl (rr_lss rfl rfl (qF (by omega))) rfl rfl ?_ | refine qv rfl (rr_gtr rfl rfl (qT (by omega))) rfl rfl ?_ | refine qv rfl (rr_gtr rfl rfl (qF (by omega))) rfl rfl ?_ | refine qv rfl (rr_eql rfl rfl (qT (by omega))) rfl rfl ?_ | refine qv rfl (rr_eql rfl rfl (qF (by omega))) rfl rfl ?_ | refine qv rfl (rr_neq rfl rfl (qT (by omega))) rfl rfl ?_ | refine qv rfl (rr_neq rfl rfl (qF (by omega))) rfl rfl ?_ | refine qv rfl (rr_add64 rfl rfl (by omega) (by omega) rfl) rfl rfl ?_))
      (repeat refine T_seq ?_)
      refine T_midq (ι := Value) (fun vf' => vf'.oneCell' = true) (fun _ => [(2, .pointer (some ⟨g2, 0, none⟩)), (7, .pointer (some ⟨g7, 0, none⟩)), (10, .pointer (some ⟨g10, 0, none⟩)), (37, .slice (some ⟨b, off, none⟩) (es.map emb).length ck), (38, .int .i64 (es.map emb).length), (39, .int .i64 (k : Int))])
        (fun vf' => [blkO g2 #[.slice none 0 0, .slice none 0 0, .slice none 0 0, .slice none 0 0, .slice none 0 0, .slice none 0 0] 44, blkO g7 (mkC vc' vr' vf' vfol' vl' ve (k : Int)) 53, rowO 31 4 vc' p'.classes.length (p'.classes.flatMap clsL), intR vr' p'.rules, folR vfol' vs', folE F' vs' p'.follow, rowO 4 1 vl' p'.last.length (p'.last.map Value.bool), intR vf' (uni m.first first), rowO 4 1 ve m.empty.length (m.empty.map Value.bool), blkO g10 #[.bool em, va, vb] 55, intR vb last]) ?_ ?_
      · refine T_ord ([blkO g10 #[.bool em, va, vb] 55]) (.calm 0 (.calm 1 (.calm 2 (.calm 3 (.calm 4 (.calm 6 (.calm 7 (.one 5 (.one 8 (.calm 9 (.calm 10 (.calm 11 (.one 12 (.done)))))))))))))) (sub_pick [12] (by decide) rfl) (by kernel_rfl) (by kernel_rfl) (by intro c a d v w h; cases d <;> exact h) ?_
        repeat (first
          | ((first | refine TW_plain rfl rfl ?_ | refine TW_gmet rfl rfl rfl rfl ?_); first | refine TN_val (qp rfl) rfl rfl ?_ | refine TN_val (rr_nilc rfl) rfl rfl ?_ | refine TN_val (rr_load1 TyC.ty rfl (at_blk (i := 0) rfl rfl)) rfl rfl ?_ | refine TN_val (qlen Und.eq rfl) rfl rfl ?_ | refine TN_val (qfld FldC.fld rfl rfl) rfl rfl ?_ | refine TN_val (rr_nilc rfl) rfl rfl ?_ | refine TN_val (rr_lss rfl rfl (qT (by omega))) rfl rfl ?_ | refine TN_val (rr_lss rfl rfl (qF (by omega))) rfl rfl ?_ | refine TN_val (rr_gtr rfl rfl (qT (by omega))) rfl rfl ?_ | refine TN_val (rr_gtr rfl rfl (qF (by omega))) rfl rfl ?_ | refine TN_val (rr_eql rfl rfl (qT (by omega))) rfl rfl ?_ | refine TN_val (rr_eql rfl rfl (qF (by omega))) rfl rfl ?_ | refine TN_val (rr_neq rfl rfl (qT (by omega))) rfl rfl ?_ | refine TN_val (rr_neq rfl rfl (qF (by omega))) rfl rfl ?_ | refine TN_val (rr_add64 rfl rfl (by omega) (by omega) rfl) rfl rfl ?_)
          | refine TW_skip rfl rfl rfl rfl rfl rfl rfl ?_ | refine TW_done ?_)
        refine TW_one rfl (TL_val (rr_load1 (v := vf) TyC.ty rfl (at_blk (i := 4) rfl rfl)) rfl rfl rfl (TW_on (sub_pick [12] (by decide) rfl) ?_))
        refine TW_one rfl (TL_call (he2 EntersC.en rfl rfl rfl) (fun w' hm => union_calls vf va m.first first w' (Sl.of_own (hm.get (i := 1) rfl)) (Sl.of_own (hm.get (i := 10) rfl)) (by omega) (by omega)) rfl rfl rfl ?_)
        intro vf' _
        conv => arg 8; simp only [zA, zB, zC, zD, zE, zF, zG, zH, zI, rowS, ret, id_eq, intRS]
        refine TW_on (sub_pick [12] (by decide) rfl) ?_
        repeat (first
          | ((first | refine TW_plain rfl rfl ?_ | refine TW_gmet rfl rfl rfl rfl ?_); first | refine TN_val (qp rfl) rfl rfl ?_ | refine TN_val (rr_nilc rfl) rfl rfl ?_ | refine TN_val (qlen Und.eq rfl) rfl rfl ?_ | refine TN_val (qfld FldC.fld rfl rfl) rfl rfl ?_ | refine TN_val (rr_nilc rfl) rfl rfl ?_ | refine TN_val (rr_lss rfl rfl (qT (by omega))) rfl rfl ?_ | refine TN_val (rr_lss rfl rfl (qF (by omega))) rfl rfl ?_ | refine TN_val (rr_gtr rfl rfl (qT (by omega))) rfl rfl ?_ | refine TN_val (rr_gtr rfl rfl (qF (by omega))) rfl rfl ?_ | refine TN_val (rr_eql rfl rfl (qT (by omega))) rfl rfl ?_ | refine TN_val (rr_eql rfl rfl (qF (by omega))) rfl rfl ?_ | refine TN_val (rr_neq rfl rfl (qT (by omega))) rfl rfl ?_ | refine TN_val (rr_neq rfl rfl (qF (by omega))) rfl rfl ?_ | refine TN_val (rr_add64 rfl rfl (by omega) (by omega) rfl) rfl rfl ?_)
          | refine TW_skip rfl rfl rfl rfl rfl rfl rfl ?_ | refine TW_done ?_)
        refine TW_one rfl (TL_slv (i := 13) rfl fun qf1 qf2 => TL_store1 (i := 4) rfl rfl rfl qf1 qf2 rfl (TW_on (sub_pick [12] (by decide) rfl) ?_))
        repeat (first
          | ((first | refine TW_plain rfl rfl ?_ | refine TW_gmet rfl rfl rfl rfl ?_); first | refine TN_val (qp rfl) rfl rfl ?_ | refine TN_val (qlen Und.eq rfl) rfl rfl ?_ | refine TN_val (qfld FldC.fld rfl rfl) rfl rfl ?_ | refine TN_val (rr_nilc rfl) rfl rfl ?_ | refine TN_val (rr_lss rfl rfl (qT (by omega))) rfl rfl ?_ | refine TN_val (rr_lss rfl rfl (qF (by omega))) rfl rfl ?_ | refine TN_val (rr_gtr rfl rfl (qT (by omega))) rfl rfl ?_ | refine TN_val (rr_gtr rfl rfl (qF (by omega))) rfl rfl ?_ | refine TN_val (rr_eql rfl rfl (qT (by omega))) rfl rfl ?_ | refine TN_val (rr_eql rfl rfl (qF (by omega))) rfl rfl ?_ | refine TN_val (rr_neq rfl rfl (qT (by omega))) rfl rfl ?_ | refine TN_val (rr_neq rfl rfl (qF (by omega))) rfl rfl ?_ | refine TN_val (rr_add64 rfl rfl (by omega) (by omega) rfl) rfl rfl ?_)
          | refine TW_skip rfl rfl rfl rfl rfl rfl rfl ?_ | refine TW_done ?_)
        refine E_pick [0, 4, 5, 6, 7, 8, 9, 13, 2, 12, 11] (by decide) rfl ?_
        exact E_mid vf' qf2 (by repeat' (first | exact True.intro | refine And.intro rfl ?_)) rfl
      intro vf' hf'
      (repeat refine T_seq ?_)
      refine T_midq (ι := Value) (fun ve' => ve'.oneCell' = true) (fun _ => [(2, .pointer (some ⟨g2, 0, none⟩)), (7, .pointer (some ⟨g7, 0, none⟩)), (10, .pointer (some ⟨g10, 0, none⟩)), (37, .slice (some ⟨b, off, none⟩) (es.map emb).length ck), (38, .int .i64 (es.map emb).length), (39, .int .i64 (k : Int))])
        (fun ve' => [blkO g2 #[.slice none 0 0, .slice none 0 0, .slice none 0 0, .slice none 0 0, .slice none 0 0, .slice none 0 0] 44, blkO g7 (mkC vc' vr' vf' vfol' vl' ve' (k : Int)) 53, rowO 31 4 vc' p'.classes.length (p'.classes.flatMap clsL), intR vr' p'.rules, folR vfol' vs', folE F' vs' p'.follow, rowO 4 1 vl' p'.last.length (p'.last.map Value.bool), intR vf' (uni m.first first), rowO 4 1 ve' (m.empty ++ [em]).length ((m.empty ++ [em]).map Value.bool), blkO g10 #[.bool em, va, vb] 55, intR vb last]) ?_ ?_
      · refine T_ord ([blkO g10 #[.bool em, va, vb] 55]) (.calm 0 (.calm 1 (.calm 2 (.calm 3 (.calm 4 (.calm 6 (.calm 7 (.two 5 (.one 8 (.one 9 (.calm 10 (.calm 11 (.calm 12 (.one 13 (.done))))))) 8 (.one 5 (.one 9 (.calm 10 (.calm 11 (.calm 12 (.one 13 (.done))))))))))))))) (sub_pick [9] (by decide) rfl) (by kernel_rfl) (by kernel_rfl) (by intro c a d v w h; cases d <;> exact h) ?_
        repeat (first
          | ((first | refine TW_plain rfl rfl ?_ | refine TW_gmet rfl rfl rfl rfl ?_); first | refine TN_val (qp rfl) rfl rfl ?_ | refine TN_val (rr_nilc rfl) rfl rfl ?_ | refine TN_val (rr_load1 TyC.ty rfl (at_blk (i := 0) rfl rfl)) rfl rfl ?_ | refine TN_val (qlen Und.eq rfl) rfl rfl ?_ | refine TN_val (qfld FldC.fld rfl rfl) rfl rfl ?_ | refine TN_val (rr_nilc rfl) rfl rfl ?_ | refine TN_val (rr_lss rfl rfl (qT (by omega))) rfl rfl ?_ | refine TN_val (rr_lss rfl rfl (qF (by omega))) rfl rfl ?_ | refine TN_val (rr_gtr rfl rfl (qT (by omega))) rfl rfl ?_ | refine TN_val (rr_gtr rfl rfl (qF (by omega))) rfl rfl ?_ | refine TN_val (rr_eql rfl rfl (qT (by omega))) rfl rfl ?_ | refine TN_val (rr_eql rfl rfl (qF (by omega))) rfl rfl ?_ | refine TN_val (rr_neq rfl rfl (qT (by omega))) rfl rfl ?_ | refine TN_val (rr_neq rfl rfl (qF (by omega))) rfl rfl ?_ | refine TN_val (rr_add64 rfl rfl (by omega) (by omega) rfl) rfl rfl ?_)
          | refine TW_skip rfl rfl rfl rfl rfl rfl rfl ?_ | refine TW_done ?_)
        refine TW_two rfl rfl ?_ ?_
        · refine TL_val (rr_load1 (v := ve) TyC.ty rfl (at_blk (i := 1) rfl rfl)) rfl rfl rfl (TW_on (sub_pick [9] (by decide) rfl) ?_)
          refine TW_one rfl (TL_litN (cs := #[.bool em]) [.bool em] rfl rfl rfl (by intro v hv; simp at hv; subst hv; rfl) rfl rfl rfl fun g71 => (TW_on (sub_pick [9] (by decide) rfl) ?_))
          refine TW_one rfl (TL_appSl (i := 8) (e := 4) (size := 1) (bytes := 1) (m := m.empty.length) (xs := m.empty.map Value.bool) (k := 1) (ys := [.bool em]) rfl (sl_blk (i := 11) rfl (fun j u h => by simpa using h) (Nat.le_refl 1) (by decide)) rfl rfl rfl (fun u hu => by rw [List.mem_singleton.1 hu]; rfl) (by omega) (by omega) rfl fun ve' => (TW_on (sub_pick [9] (by decide) rfl) ?_))
          repeat (first
            | ((first | refine TW_plain rfl rfl ?_ | refine TW_gmet rfl rfl rfl rfl ?_); first | refine TN_val (qp rfl) rfl rfl ?_ | refine TN_val (rr_nilc rfl) rfl rfl ?_ | refine TN_val (qlen Und.eq rfl) rfl rfl ?_ | refine TN_val (qfld FldC.fld rfl rfl) rfl rfl ?_ | refine TN_val (rr_nilc rfl) rfl rfl ?_ | refine TN_val (rr_lss rfl rfl (qT (by omega))) rfl rfl ?_ | refine TN_val (rr_lss rfl rfl (qF (by omega))) rfl rfl ?_ | refine TN_val (rr_gtr rfl rfl (qT (by omega))) rfl rfl ?_ | refine TN_val (rr_gtr rfl rfl (qF (by omega))) rfl rfl ?_ | refine TN_val (rr_eql rfl rfl (qT (by omega))) rfl rfl ?_ | refine TN_val (rr_eql rfl rfl (qF (by omega))) rfl rfl ?_ | refine TN_val (rr_neq rfl rfl (qT (by omega))) rfl rfl ?_ | refine TN_val (rr_neq rfl rfl (qF (by omega))) rfl rfl ?_ | refine TN_val (rr_add64 rfl rfl (by omega) (by omega) rfl) rfl rfl ?_)
            | refine TW_skip rfl rfl rfl rfl rfl rfl rfl ?_ | refine TW_done ?_)
          refine TW_one rfl (TL_slv (i := 8) rfl fun qe1 qe2 => TL_store1 (i := 1) rfl rfl rfl qe1 qe2 rfl (TW_on (sub_pick [9] (by decide) rfl) ?_))
          repeat (first
            | ((first | refine TW_plain rfl rfl ?_ | refine TW_gmet rfl rfl rfl rfl ?_); first | refine TN_val (qp rfl) rfl rfl ?_ | refine TN_val (qlen Und.eq rfl) rfl rfl ?_ | refine TN_val (qfld FldC.fld rfl rfl) rfl rfl ?_ | refine TN_val (rr_nilc rfl) rfl rfl ?_ | refine TN_val (rr_lss rfl rfl (qT (by omega))) rfl rfl ?_ | refine TN_val (rr_lss rfl rfl (qF (by omega))) rfl rfl ?_ | refine TN_val (rr_gtr rfl rfl (qT (by omega))) rfl rfl ?_ | refine TN_val (rr_gtr rfl rfl (qF (by omega))) rfl rfl ?_ | refine TN_val (rr_eql rfl rfl (qT (by omega))) rfl rfl ?_ | refine TN_val (rr_eql rfl rfl (qF (by omega))) rfl rfl ?_ | refine TN_val (rr_neq rfl rfl (qT (by omega))) rfl rfl ?_ | refine TN_val (rr_neq rfl rfl (qF (by omega))) rfl rfl ?_ | refine TN_val (rr_add64 rfl rfl (by omega) (by omega) rfl) rfl rfl ?_)
            | refine TW_skip rfl rfl rfl rfl rfl rfl rfl ?_ | refine TW_done ?_)
          refine E_pick [0, 1, 2, 3, 4, 5, 6, 7, 8, 9, 10] (by decide) rfl ?_
          exact E_mid ve' qe2 (by repeat' (first | exact True.intro | refine And.intro rfl ?_)) (by rw [← bool_snoc ve' m.empty em]; rfl)
        · refine TL_litN (cs := #[.bool em]) [.bool em] rfl rfl rfl (by intro v hv; simp at hv; subst hv; rfl) rfl rfl rfl fun g71 => (TW_on (sub_pick [9] (by decide) rfl) ?_)
          refine TW_one rfl (TL_val (rr_load1 (v := ve) TyC.ty rfl (at_blk (i := 1) rfl rfl)) rfl rfl rfl (TW_on (sub_pick [9] (by decide) rfl) ?_))
          refine TW_one rfl (TL_appSl (i := 8) (e := 4) (size := 1) (bytes := 1) (m := m.empty.length) (xs := m.empty.map Value.bool) (k := 1) (ys := [.bool em]) rfl (sl_blk (i := 11) rfl (fun j u h => by simpa using h) (Nat.le_refl 1) (by decide)) rfl rfl rfl (fun u hu => by rw [List.mem_singleton.1 hu]; rfl) (by omega) (by omega) rfl fun ve' => (TW_on (sub_pick [9] (by decide) rfl) ?_))
          repeat (first
            | ((first | refine TW_plain rfl rfl ?_ | refine TW_gmet rfl rfl rfl rfl ?_); first | refine TN_val (qp rfl) rfl rfl ?_ | refine TN_val (rr_nilc rfl) rfl rfl ?_ | refine TN_val (qlen Und.eq rfl) rfl rfl ?_ | refine TN_val (qfld FldC.fld rfl rfl) rfl rfl ?_ | refine TN_val (rr_nilc rfl) rfl rfl ?_ | refine TN_val (rr_lss rfl rfl (qT (by omega))) rfl rfl ?_ | refine TN_val (rr_lss rfl rfl (qF (by omega))) rfl rfl ?_ | refine TN_val (rr_gtr rfl rfl (qT (by omega))) rfl rfl ?_ | refine TN_val (rr_gtr rfl rfl (qF (by omega))) rfl rfl ?_ | refine TN_val (rr_eql rfl rfl (qT (by omega))) rfl rfl ?_ | refine TN_val (rr_eql rfl rfl (qF (by omega))) rfl rfl ?_ | refine TN_val (rr_neq rfl rfl (qT (by omega))) rfl rfl ?_ | refine TN_val (rr_neq rfl rfl (qF (by omega))) rfl rfl ?_ | refine TN_val (rr_add64 rfl rfl (by omega) (by omega) rfl) rfl rfl ?_)
            | refine TW_skip rfl rfl rfl rfl rfl rfl rfl ?_ | refine TW_done ?_)
          refine TW_one rfl (TL_slv (i := 8) rfl fun qe1 qe2 => TL_store1 (i := 1) rfl rfl rfl qe1 qe2 rfl (TW_on (sub_pick [9] (by decide) rfl) ?_))
          repeat (first
            | ((first | refine TW_plain rfl rfl ?_ | refine TW_gmet rfl rfl rfl rfl ?_); first | refine TN_val (qp rfl) rfl rfl ?_ | refine TN_val (qlen Und.eq rfl) rfl rfl ?_ | refine TN_val (qfld FldC.fld rfl rfl) rfl rfl ?_ | refine TN_val (rr_nilc rfl) rfl rfl ?_ | refine TN_val (rr_lss rfl rfl (qT (by omega))) rfl rfl ?_ | refine TN_val (rr_lss rfl rfl (qF (by omega))) rfl rfl ?_ | refine TN_val (rr_gtr rfl rfl (qT (by omega))) rfl rfl ?_ | refine TN_val (rr_gtr rfl rfl (qF (by omega))) rfl rfl ?_ | refine TN_val (rr_eql rfl rfl (qT (by omega))) rfl rfl ?_ | refine TN_val (rr_eql rfl rfl (qF (by omega))) rfl rfl ?_ | refine TN_val (rr_neq rfl rfl (qT (by omega))) rfl rfl ?_ | refine TN_val (rr_neq rfl rfl (qF (by omega))) rfl rfl ?_ | refine TN_val (rr_add64 rfl rfl (by omega) (by omega) rfl) rfl rfl ?_)
            | refine TW_skip rfl rfl rfl rfl rfl rfl rfl ?_ | refine TW_done ?_)
          refine E_pick [0, 1, 2, 3, 4, 5, 6, 7, 8, 9, 10] (by decide) rfl ?_
          exact E_mid ve' qe2 (by repeat' (first | exact True.intro | refine And.intro rfl ?_)) (by rw [← bool_snoc ve' m.empty em]; rfl)
      intro ve' he'
      rw [show p'.last.map Value.bool = p'.last.flatMap boolC from (bool_flat _).symm]
      refine T_know (i := 10) (φ := ∃ a c, vb = .slice a last.length c ∧ (0 < last.length → ∃ gl, a = some ⟨gl, 0, none⟩)) rfl (fun w h => by
        obtain ⟨y1, y2⟩ := (show w.ownsRow 0 3 1 vb last.length (last.map (Value.int .i64)) from h)
        rcases y2 with ⟨y3, y4⟩ | ⟨gl, cap, cur, hv, _⟩
        · exact ⟨none, 0, by rw [y3, y4], fun h => by omega⟩
        · exact ⟨_, _, hv, fun _ => ⟨gl, rfl⟩⟩) fun hvb => ?_
      obtain ⟨al, cl, rfl, hal⟩ := hvb
      refine T_know (i := 6) (φ := 0 < p'.last.length → ∃ gb cb, vl' = .slice (some ⟨gb, 0, none⟩) p'.last.length cb) rfl (fun w h => by
        obtain ⟨y1, y2⟩ := (show w.ownsRow 0 4 1 vl' p'.last.length (p'.last.flatMap boolC) from h)
        rcases y2 with ⟨y3, y4⟩ | ⟨gl, cap, cur, hv, _⟩
        · intro h; omega
        · exact fun _ => ⟨gl, cap, hv⟩) fun hvl => ?_
      repeat (first
        | refine qv rfl (qp rfl) rfl rfl ?_ | refine TL_nil ?_ | refine T_seq ?_ | refine T_region ?_ | refine qcT rfl ?_ | refine qcF rfl ?_ | refine T_skip ?_
        | refine T_exit ?_ | refine T_ret ?_ | refine T_block ?_ | refine E_then ?_ | refine E_thenX ?_ | refine E_thenR ?_ | refine E_blockN ?_
        | refine E_blockR ?_ | refine E_blockX ?_ | refine E_blockO rfl ?_ | refine qs rfl rfl rfl rfl rfl rfl ?_
        | ((try refine qg rfl rfl rfl ?_); first | refine qv rfl (qp rfl) rfl rfl ?_ | refine qv rfl (rr_load1 (v := .slice al last.length cl) TyC.ty rfl (at_blk (i := 9) rfl rfl)) rfl rfl ?_ | refine qv rfl (qlen Und.eq rfl) rfl rfl ?_ | refine qv rfl (qfld FldC.fld rfl rfl) rfl rfl ?_ | refine qv rfl (rr_nilc rfl) rfl rfl ?_ | refine qv rfl (rr_lss rfl rfl (qT (by omega))) rfl rfl ?_ | refine qv rfl (rr_lss rfl rfl (qF (by omega))) rfl rfl ?_ | refine qv rfl (rr_gtr rfl rfl (qT (by omega))) rfl rfl ?_ | refine qv rfl (rr_gtr rfl rfl (qF (by omega))) rfl rfl ?_ | refine qv rfl (rr_eql rfl rfl (qT (by omega))) rfl rfl ?_ | refine qv rfl (rr_eql rfl rfl (qF (by omega))) rfl rfl ?_ | refine qv rfl (rr_neq rfl rfl (qT (by omega))) rfl rfl ?_ | refine qv rfl (rr_neq rfl rfl (qF (by omega))) rfl rfl ?_ | refine qv rfl (rr_add64 rfl rfl (by omega) (by omega) rfl) rfl rfl ?_))
      refine T_pick [0, 1, 2, 3, 4, 5, 6, 7, 8, 10] (by decide) rfl ?_
      refine T_loop (ι := Nat) (fun j => j ≤ last.length) (fun j => [(2, .pointer (some ⟨g2, 0, none⟩)), (7, .pointer (some ⟨g7, 0, none⟩)), (37, .slice (some ⟨b, off, none⟩) (es.map emb).length ck), (38, .int .i64 (es.map emb).length), (39, .int .i64 (k : Int)), (77, .slice al last.length cl), (78, .int .i64 last.length), (79, .int .i64 (j : Int))])
        (fun j => [blkO g2 #[.slice none 0 0, .slice none 0 0, .slice none 0 0, .slice none 0 0, .slice none 0 0, .slice none 0 0] 44, blkO g7 (mkC vc' vr' vf' vfol' vl' ve' (k : Int)) 53, rowO 31 4 vc' p'.classes.length (p'.classes.flatMap clsL), intR vr' p'.rules, folR vfol' vs', folE F' vs' p'.follow, rowO 4 1 vl' p'.last.length ((markF p'.last (last.take j)).flatMap boolC), intR vf' (uni m.first first), rowO 4 1 ve' (m.empty ++ [em]).length ((m.empty ++ [em]).map Value.bool), intR (.slice al last.length cl) last]) (fun j => last.length - j) 0 (Nat.zero_le _) (by repeat' (first | exact True.intro | refine And.intro rfl ?_)) rfl ?_
      intro j j1
      by_cases c7 : j < last.length
      · obtain ⟨gl, rfl⟩ := hal (by omega)
        have hx := n5.2 last[j] (List.getElem_mem c7)
        have hgx : last[j]? = some last[j] := List.getElem?_eq_getElem c7
        have hms := mark_step p'.last last c7
        have hml2 := mark_len p'.last (last.take j)
        generalize last[j] = xx at *
        obtain ⟨xn, rfl⟩ := Int.eq_ofNat_of_zero_le hx.1
        rw [Int.toNat_natCast] at hms
        have hxn : xn < p'.last.length := by rw [n1.last]; omega
        obtain ⟨gb, cb, rfl⟩ := hvl (by omega)
        have hat3 : ∀ (L : List Own) (hi : L[9]? = some (intR (.slice (some ⟨gl, 0, none⟩) last.length cl) last)), At (w : Base) L ⟨gl, 0 + j * 1, none⟩ (.int .i64 (xn : Int)) := fun L hi => at_row hi (by rw [List.getElem?_map, Nat.zero_add, Nat.mul_one, hgx]; rfl)
        repeat (first
          | refine qv rfl (qp rfl) rfl rfl ?_ | refine TL_nil ?_ | refine T_seq ?_ | refine T_region ?_ | refine qcT rfl ?_ | refine qcF rfl ?_ | refine T_skip ?_
          | refine T_exit ?_ | refine T_ret ?_ | refine T_block ?_ | refine E_then ?_ | refine E_thenX ?_ | refine E_thenR ?_ | refine E_blockN ?_
          | refine E_blockR ?_ | refine E_blockX ?_ | refine E_blockO rfl ?_ | refine qs rfl rfl rfl rfl rfl rfl ?_
          | ((try refine qg rfl rfl rfl ?_); first | refine qv rfl (qp rfl) rfl rfl ?_ | refine qv rfl (rr_idxc Und.eq TyC.ty rfl rfl c7) rfl rfl ?_ | refine qv rfl (rr_load1 (v := .int .i64 (xn : Int)) TyC.ty rfl (hat3 _ rfl)) rfl rfl ?_ | refine qv rfl (rr_nilc rfl) rfl rfl ?_ | refine qv rfl (rr_load1 (v := .slice (some ⟨gb, 0, none⟩) p'.last.length cb) TyC.ty rfl (at_blk (i := 1) rfl rfl)) rfl rfl ?_ | refine qv rfl (rr_idxc Und.eq TyC.ty rfl rfl hxn) rfl rfl ?_ | refine qv rfl (qlen Und.eq rfl) rfl rfl ?_ | refine qv rfl (qfld FldC.fld rfl rfl) rfl rfl ?_ | refine qv rfl (rr_nilc rfl) rfl rfl ?_ | refine qv rfl (rr_lss rfl rfl (qT (by omega))) rfl rfl ?_ | refine qv rfl (rr_lss rfl rfl (qF (by omega))) rfl rfl ?_ | refine qv rfl (rr_gtr rfl rfl (qT (by omega))) rfl rfl ?_ | refine qv rfl (rr_gtr rfl rfl (qF (by omega))) rfl rfl ?_ | refine qv rfl (rr_eql rfl rfl (qT (by omega))) rfl rfl ?_ | refine qv rfl (rr_eql rfl rfl (qF (by omega))) rfl rfl ?_ | refine qv rfl (rr_neq rfl rfl (qT (by omega))) rfl rfl ?_ | refine qv rfl (rr_neq rfl rfl (qF (by omega))) rfl rfl ?_ | refine qv rfl (rr_add64 rfl rfl (by omega) (by omega) rfl) rfl rfl ?_))
        refine TL_setRow boolC_len (i := 6) (k := xn) (l := markF p'.last (last.take j)) (a := true) TyC.ty rfl rfl (by omega) (by omega) (by omega) rfl rfl rfl ?_
        rw [← hms]
        conv => arg 8; simp only [zA, zB, zC, zD, zE, zF, zG, zH, zI, rowS, ret, id_eq]
        repeat (first
          | refine qv rfl (qp rfl) rfl rfl ?_ | refine TL_nil ?_ | refine T_seq ?_ | refine T_region ?_ | refine qcT rfl ?_ | refine qcF rfl ?_ | refine T_skip ?_
          | refine T_exit ?_ | refine T_ret ?_ | refine T_block ?_ | refine E_then ?_ | refine E_thenX ?_ | refine E_thenR ?_ | refine E_blockN ?_
          | refine E_blockR ?_ | refine E_blockX ?_ | refine E_blockO rfl ?_ | refine qs rfl rfl rfl rfl rfl rfl ?_
          | ((try refine qg rfl rfl rfl ?_); first | refine qv rfl (qp rfl) rfl rfl ?_ | refine qv rfl (qlen Und.eq rfl) rfl rfl ?_ | refine qv rfl (qfld FldC.fld rfl rfl) rfl rfl ?_ | refine qv rfl (rr_nilc rfl) rfl rfl ?_ | refine qv rfl (rr_lss rfl rfl (qT (by omega))) rfl rfl ?_ | refine qv rfl (rr_lss rfl rfl (qF (by omega))) rfl rfl ?_ | refine qv rfl (rr_gtr rfl rfl (qT (by omega))) rfl rfl ?_ | refine qv rfl (rr_gtr rfl rfl (qF (by omega))) rfl rfl ?_ | refine qv rfl (rr_eql rfl rfl (qT (by omega))) rfl rfl ?_ | refine qv rfl (rr_eql rfl rfl (qF (by omega))) rfl rfl ?_ | refine qv rfl (rr_neq rfl rfl (qT (by omega))) rfl rfl ?_ | refine qv rfl (rr_neq rfl rfl (qF (by omega))) rfl rfl ?_ | refine qv rfl (rr_add64 rfl rfl (by omega) (by omega) rfl) rfl rfl ?_))
        exact E_round (j + 1) (by omega) (by show last.length - (j + 1) < last.length - j; omega) (by repeat' (first | exact True.intro | refine And.intro rfl ?_)) rfl
      · obtain rfl : j = last.length := by omega
        rw [List.take_of_length_le (Nat.le_refl _), bool_flat]
        refine T_know (i := 2) (φ := ∃ a c, vc' = .slice a p'.classes.length c) rfl (fun w h => by
          obtain ⟨a, c, h, _⟩ := Sl.of_own (show w.ownsRow 0 31 4 vc' p'.classes.length (p'.classes.flatMap clsL) from h)
          exact ⟨a, c, h⟩) fun hvc => ?_
        obtain ⟨ac, cc, rfl⟩ := hvc
        by_cases c8 : 200 < p'.classes.length
        · rw [if_pos c8] at i2
          rw [i2]
          repeat (first
            | refine qv rfl (qp rfl) rfl rfl ?_ | refine TL_nil ?_ | refine T_seq ?_ | refine T_region ?_ | refine qcT rfl ?_ | refine qcF rfl ?_ | refine T_skip ?_
            | refine T_exit ?_ | refine T_ret ?_ | refine T_block ?_ | refine E_then ?_ | refine E_thenX ?_ | refine E_thenR ?_ | refine E_blockN ?_
            | refine E_blockR ?_ | refine E_blockX ?_ | refine E_blockO rfl ?_ | refine qs rfl rfl rfl rfl rfl rfl ?_
            | ((try refine qg rfl rfl rfl ?_); first | refine qv rfl (qp rfl) rfl rfl ?_ | refine qv rfl (rr_nilc rfl) rfl rfl ?_ | refine qv rfl (rr_load1 (v := .slice ac p'.classes.length cc) TyC.ty rfl (at_blk (i := 1) rfl rfl)) rfl rfl ?_ | refine qv rfl (rr_gtr (b := true) rfl rfl (decide_eq_true (by omega))) rfl rfl ?_ | refine qv rfl (rr_build rfl build_posz) rfl rfl ?_ | refine qv rfl (qlen Und.eq rfl) rfl rfl ?_ | refine qv rfl (qfld FldC.fld rfl rfl) rfl rfl ?_ | refine qv rfl (rr_nilc rfl) rfl rfl ?_ | refine qv rfl (rr_lss rfl rfl (qT (by omega))) rfl rfl ?_ | refine qv rfl (rr_lss rfl rfl (qF (by omega))) rfl rfl ?_ | refine qv rfl (rr_gtr rfl rfl (qT (by omega))) rfl rfl ?_ | refine qv rfl (rr_gtr rfl rfl (qF (by omega))) rfl rfl ?_ | refine qv rfl (rr_eql rfl rfl (qT (by omega))) rfl rfl ?_ | refine qv rfl (rr_eql rfl rfl (qF (by omega))) rfl rfl ?_ | refine qv rfl (rr_neq rfl rfl (qT (by omega))) rfl rfl ?_ | refine qv rfl (rr_neq rfl rfl (qF (by omega))) rfl rfl ?_ | refine qv rfl (rr_add64 rfl rfl (by omega) (by omega) rfl) rfl rfl ?_))
          refine TL_storeB (i := 0) rfl rfl rfl rfl rfl rfl ?_
          conv => arg 8; simp only [zA, zB, zC, zD, zE, zF, zG, zH, zI, rowS, ret, id_eq]
          repeat (first
            | refine qv rfl (qp rfl) rfl rfl ?_ | refine TL_nil ?_ | refine T_seq ?_ | refine T_region ?_ | refine qcT rfl ?_ | refine qcF rfl ?_ | refine T_skip ?_
            | refine T_exit ?_ | refine T_ret ?_ | refine T_block ?_ | refine E_then ?_ | refine E_thenX ?_ | refine E_thenR ?_ | refine E_blockN ?_
            | refine E_blockR ?_ | refine E_blockX ?_ | refine E_blockO rfl ?_ | refine qs rfl rfl rfl rfl rfl rfl ?_
            | ((try refine qg rfl rfl rfl ?_); first | refine qv rfl (qp rfl) rfl rfl ?_ | refine qv rfl (qlen Und.eq rfl) rfl rfl ?_ | refine qv rfl (qfld FldC.fld rfl rfl) rfl rfl ?_ | refine qv rfl (rr_nilc rfl) rfl rfl ?_ | refine qv rfl (rr_lss rfl rfl (qT (by omega))) rfl rfl ?_ | refine qv rfl (rr_lss rfl rfl (qF (by omega))) rfl rfl ?_ | refine qv rfl (rr_gtr rfl rfl (qT (by omega))) rfl rfl ?_ | refine qv rfl (rr_gtr rfl rfl (qF (by omega))) rfl rfl ?_ | refine qv rfl (rr_eql rfl rfl (qT (by omega))) rfl rfl ?_ | refine qv rfl (rr_eql rfl rfl (qF (by omega))) rfl rfl ?_ | refine qv rfl (rr_neq rfl rfl (qT (by omega))) rfl rfl ?_ | refine qv rfl (rr_neq rfl rfl (qF (by omega))) rfl rfl ?_ | refine qv rfl (rr_add64 rfl rfl (by omega) (by omega) rfl) rfl rfl ?_))
          refine E_zero ?_
          exact E_retc2 (i := 0) rfl rfl rfl rfl rfl fun w hm => hm.meets (S := makeSp (2, .zero)) nilP rfl [10, 11, 12, 13, 14, 15, 16] (by decide) rfl
        · rw [if_neg c8] at i2
          repeat (first
            | refine qv rfl (qp rfl) rfl rfl ?_ | refine TL_nil ?_ | refine T_seq ?_ | refine T_region ?_ | refine qcT rfl ?_ | refine qcF rfl ?_ | refine T_skip ?_
            | refine T_exit ?_ | refine T_ret ?_ | refine T_block ?_ | refine E_then ?_ | refine E_thenX ?_ | refine E_thenR ?_ | refine E_blockN ?_
            | refine E_blockR ?_ | refine E_blockX ?_ | refine E_blockO rfl ?_ | refine qs rfl rfl rfl rfl rfl rfl ?_
            | ((try refine qg rfl rfl rfl ?_); first | refine qv rfl (qp rfl) rfl rfl ?_ | refine qv rfl (rr_nilc rfl) rfl rfl ?_ | refine qv rfl (rr_load1 (v := .slice ac p'.classes.length cc) TyC.ty rfl (at_blk (i := 1) rfl rfl)) rfl rfl ?_ | refine qv rfl (rr_gtr (b := false) rfl rfl (decide_eq_false (by omega))) rfl rfl ?_ | refine qv rfl (qlen Und.eq rfl) rfl rfl ?_ | refine qv rfl (qfld FldC.fld rfl rfl) rfl rfl ?_ | refine qv rfl (rr_nilc rfl) rfl rfl ?_ | refine qv rfl (rr_lss rfl rfl (qT (by omega))) rfl rfl ?_ | refine qv rfl (rr_lss rfl rfl (qF (by omega))) rfl rfl ?_ | refine qv rfl (rr_gtr rfl rfl (qT (by omega))) rfl rfl ?_ | refine qv rfl (rr_gtr rfl rfl (qF (by omega))) rfl rfl ?_ | refine qv rfl (rr_eql rfl rfl (qT (by omega))) rfl rfl ?_ | refine qv rfl (rr_eql rfl rfl (qF (by omega))) rfl rfl ?_ | refine qv rfl (rr_neq rfl rfl (qT (by omega))) rfl rfl ?_ | refine qv rfl (rr_neq rfl rfl (qF (by omega))) rfl rfl ?_ | refine qv rfl (rr_add64 rfl rfl (by omega) (by omega) rfl) rfl rfl ?_))
          refine E_pick [0, 1, 2, 3, 4, 5, 6, 7, 8] (by decide) rfl ?_
          exact E_round (k + 1, ⟨{ p' with last := markF p'.last last }, uni m.first first, m.empty ++ [em]⟩, ⟨.slice ac p'.classes.length cc, vr', vfol', vl', vs', F'⟩, vf', ve', (k : Int)) ⟨by omega, i2, hst.1, by show p'.classes.length ≤ 200; omega, hx', by rw [List.length_append, List.length_singleton, i6]⟩ (by show es.length - (k + 1) < es.length - k; omega) (by repeat' (first | exact True.intro | refine And.intro rfl ?_)) (by dsimp only; rw [show p'.last.length = (markF p'.last last).length from (mark_len _ _).symm]; rfl)
    · obtain rfl : k = es.length := by omega
      rw [List.drop_eq_nil_of_le (Nat.le_refl _)] at i2
      rw [i2]
      repeat (first
        | refine qv rfl (qp rfl) rfl rfl ?_ | refine TL_nil ?_ | refine T_seq ?_ | refine T_region ?_ | refine qcT rfl ?_ | refine qcF rfl ?_ | refine T_skip ?_
        | refine T_exit ?_ | refine T_ret ?_ | refine T_block ?_ | refine E_then ?_ | refine E_thenX ?_ | refine E_thenR ?_ | refine E_blockN ?_
        | refine E_blockR ?_ | refine E_blockX ?_ | refine E_blockO rfl ?_ | refine qs rfl rfl rfl rfl rfl rfl ?_
        | ((try refine qg rfl rfl rfl ?_); first | refine qv rfl (qp rfl) rfl rfl ?_ | refine qv rfl (rr_nilc rfl) rfl rfl ?_ | refine qv rfl (qlen Und.eq rfl) rfl rfl ?_ | refine qv rfl (qfld FldC.fld rfl rfl) rfl rfl ?_ | refine qv rfl (rr_nilc rfl) rfl rfl ?_ | refine qv rfl (rr_lss rfl rfl (qT (by omega))) rfl rfl ?_ | refine qv rfl (rr_lss rfl rfl (qF (by omega))) rfl rfl ?_ | refine qv rfl (rr_gtr rfl rfl (qT (by omega))) rfl rfl ?_ | refine qv rfl (rr_gtr rfl rfl (qF (by omega))) rfl rfl ?_ | refine qv rfl (rr_eql rfl rfl (qT (by omega))) rfl rfl ?_ | refine qv rfl (rr_eql rfl rfl (qF (by omega))) rfl rfl ?_ | refine qv rfl (rr_neq rfl rfl (qT (by omega))) rfl rfl ?_ | refine qv rfl (rr_neq rfl rfl (qF (by omega))) rfl rfl ?_ | refine qv rfl (rr_add64 rfl rfl (by omega) (by omega) rfl) rfl rfl ?_))
      refine TL_slv (i := 2) rfl fun _ a1 => TL_slv (i := 3) rfl fun _ a2 => TL_slv (i := 4) rfl fun _ a3 => TL_slv (i := 6) rfl fun _ a4 => TL_slv (i := 7) rfl fun _ a5 => TL_slv (i := 8) rfl fun _ a6 => ?_
      repeat (first
        | refine qv rfl (qp rfl) rfl rfl ?_ | refine TL_nil ?_ | refine T_seq ?_ | refine T_region ?_ | refine qcT rfl ?_ | refine qcF rfl ?_ | refine T_skip ?_
        | refine T_exit ?_ | refine T_ret ?_ | refine T_block ?_ | refine E_then ?_ | refine E_thenX ?_ | refine E_thenR ?_ | refine E_blockN ?_
        | refine E_blockR ?_ | refine E_blockX ?_ | refine E_blockO rfl ?_ | refine qs rfl rfl rfl rfl rfl rfl ?_
        | ((try refine qg rfl rfl rfl ?_); first | refine qv rfl (qp rfl) rfl rfl ?_ | refine qv rfl (rr_loadN (cs := [vc, vr, vf, vfol, vl, ve]) TyC.ty rfl rfl (fun j v hj => at_blk (i := 1) rfl (posn_at hj))) rfl rfl ?_ | refine qv rfl (qlen Und.eq rfl) rfl rfl ?_ | refine qv rfl (qfld FldC.fld rfl rfl) rfl rfl ?_ | refine qv rfl (rr_nilc rfl) rfl rfl ?_ | refine qv rfl (rr_lss rfl rfl (qT (by omega))) rfl rfl ?_ | refine qv rfl (rr_lss rfl rfl (qF (by omega))) rfl rfl ?_ | refine qv rfl (rr_gtr rfl rfl (qT (by omega))) rfl rfl ?_ | refine qv rfl (rr_gtr rfl rfl (qF (by omega))) rfl rfl ?_ | refine qv rfl (rr_eql rfl rfl (qT (by omega))) rfl rfl ?_ | refine qv rfl (rr_eql rfl rfl (qF (by omega))) rfl rfl ?_ | refine qv rfl (rr_neq rfl rfl (qT (by omega))) rfl rfl ?_ | refine qv rfl (rr_neq rfl rfl (qF (by omega))) rfl rfl ?_ | refine qv rfl (rr_add64 rfl rfl (by omega) (by omega) rfl) rfl rfl ?_))
      refine TL_storeB (i := 0) (cs' := #[vc, vr, vf, vfol, vl, ve]) rfl rfl rfl rfl (by simp only [List.all_cons, List.all_nil, a1, a2, a3, a4, a5, a6]; rfl) rfl ?_
      conv => arg 8; simp only [zA, zB, zC, zD, zE, zF, zG, zH, zI, rowS, ret, id_eq]
      repeat (first
        | refine qv rfl (qp rfl) rfl rfl ?_ | refine TL_nil ?_ | refine T_seq ?_ | refine T_region ?_ | refine qcT rfl ?_ | refine qcF rfl ?_ | refine T_skip ?_
        | refine T_exit ?_ | refine T_ret ?_ | refine T_block ?_ | refine E_then ?_ | refine E_thenX ?_ | refine E_thenR ?_ | refine E_blockN ?_
        | refine E_blockR ?_ | refine E_blockX ?_ | refine E_blockO rfl ?_ | refine qs rfl rfl rfl rfl rfl rfl ?_
        | ((try refine qg rfl rfl rfl ?_); first | refine qv rfl (qp rfl) rfl rfl ?_ | refine qv rfl (qlen Und.eq rfl) rfl rfl ?_ | refine qv rfl (qfld FldC.fld rfl rfl) rfl rfl ?_ | refine qv rfl (rr_nilc rfl) rfl rfl ?_ | refine qv rfl (rr_lss rfl rfl (qT (by omega))) rfl rfl ?_ | refine qv rfl (rr_lss rfl rfl (qF (by omega))) rfl rfl ?_ | refine qv rfl (rr_gtr rfl rfl (qT (by omega))) rfl rfl ?_ | refine qv rfl (rr_gtr rfl rfl (qF (by omega))) rfl rfl ?_ | refine qv rfl (rr_eql rfl rfl (qT (by omega))) rfl rfl ?_ | refine qv rfl (rr_eql rfl rfl (qF (by omega))) rfl rfl ?_ | refine qv rfl (rr_neq rfl rfl (qT (by omega))) rfl rfl ?_ | refine qv rfl (rr_neq rfl rfl (qF (by omega))) rfl rfl ?_ | refine qv rfl (rr_add64 rfl rfl (by omega) (by omega) rfl) rfl rfl ?_))
      exact E_retc2 (i := 0) rfl rfl rfl rfl rfl fun w hm => hm.meets (S := makeSp (0, m)) ⟨vc, vr, vf, vfol, vl, ve, vs, F⟩ i5 [2, 3, 7, 4, 5, 6, 8] (by decide) rfl
end Go.Proofs.Ytknojgjdaafboaa.eng

/- ClassB -/
namespace Go.Proofs.Ytknojgjdaafboaa
open Go.RowKit kit mix classL
attribute [local go_sem] and64 or64 xor64 not64
theorem cls_cells {w : World} {g : Nat} {x : C4} (h : Wr w g 0 (clsL x)) : w.cell? ⟨g, 0, none⟩ = some (v64 x.a) ∧ w.cell? ⟨g, 1, none⟩ = some (v64 x.b) ∧ w.cell? ⟨g, 2, none⟩ = some (v64 x.c) ∧ w.cell? ⟨g, 3, none⟩ = some (v64 x.d) :=
  ⟨(h 0 _ rfl).1, (h 1 _ rfl).1, (h 2 _ rfl).1, (h 3 _ rfl).1⟩
theorem cls_block {w : World} {g : Nat} {x : C4} {T : TypeId} (h : w.heap[g]? = some (.cells #[.int .u64 (n64 x.a), .int .u64 (n64 x.b), .int .u64 (n64 x.c), .int .u64 (n64 x.d)] T (0, 0))) : Wr w g 0 (clsL x) := fun j u hj => by
  rw [Nat.zero_add, cell_of_row w g j _ T (0, 0) h]
  exact ⟨by simpa [clsL] using hj, frozen_of_row w g j _ T h⟩
/-- three classes laid one behind the other -/
theorem box_cls {w : World} {B : Nat} (hB : w.heap.size = B) (x : C4) (T : TypeId) : Wr (w.alloc (.cells #[.int .u64 (n64 x.a), .int .u64 (n64 x.b), .int .u64 (n64 x.c), .int .u64 (n64 x.d)] T)) B 0 (clsL x) :=
  cls_block (blk_new w _ B hB)
theorem gr_alloc (w : World) (o : Obj) : Below w.heap.size w (w.alloc o) := (Below.refl _ _).alloc (Nat.le_refl _) _
theorem cls_at {w : World} {g : Nat} {x : C4} (h : Wr w g 0 (clsL x)) (i : Nat) (hi : i < 4) : w.cell? ⟨g, i, none⟩ = some (.int .u64 (n64 (x.get i))) ∧ w.frozen? ⟨g, i, none⟩ = false := by
  have := h i _ (clsL_get x i hi)
  rw [Nat.zero_add] at this
  exact this
theorem cls_store {w : World} {g : Nat} {x : C4} (h : Wr w g 0 (clsL x)) (i : Nat) (hi : i < 4) (v : BitVec 64) : Wr (w.setCell ⟨g, i, none⟩ (.int .u64 (n64 v))) g 0 (clsL (x.set i v)) := by
  have := h.set i (by simp [clsL]; omega) (v64 v)
  rw [Nat.zero_add, clsL_set x i hi v] at this
  exact this
set_option maxHeartbeats 2000000 in
theorem range_calls (lo hi : Int) (w : World) (h1 : okI64 lo) (h2 : okI64 hi) :
    Calls Try.prog 10 #[.int .i64 lo, .int .i64 hi] w fun e w' => e = .returned (clsV (rangeF lo hi)) ∧ Below w.heap.size w w' := by
  obtain ⟨l1, l2⟩ := h1
  obtain ⟨m1, m2⟩ := h2
  unfold clsV
  have hstart : Below w.heap.size w ((w.alloc (.cells #[.int .u64 0, .int .u64 0, .int .u64 0, .int .u64 0] 31)).alloc (.cells #[.int .u64 0, .int .u64 0, .int .u64 0, .int .u64 0] 31)) ∧ Wr ((w.alloc (.cells #[.int .u64 0, .int .u64 0, .int .u64 0, .int .u64 0] 31)).alloc (.cells #[.int .u64 0, .int .u64 0, .int .u64 0, .int .u64 0] 31)) w.heap.size 0 (clsL C4.zero) ∧ Wr ((w.alloc (.cells #[.int .u64 0, .int .u64 0, .int .u64 0, .int .u64 0] 31)).alloc (.cells #[.int .u64 0, .int .u64 0, .int .u64 0, .int .u64 0] 31)) (w.heap.size + 1) 0 (clsL C4.zero) :=
    ⟨(((Below.refl _ _).alloc (Nat.le_refl _) _).alloc (by simp) _), ((box_cls rfl C4.zero _).gr (gr_alloc _ _)), (box_cls (by simp) C4.zero _)⟩
  obtain ⟨B, hB⟩ : ∃ B, B = w.heap.size := ⟨_, rfl⟩
  rw [← hB] at hstart
  go_enter Try.func10, Try.ntmps10
  go_upto_region 2 with (fail)
  rw [← hB]
  have hBle : w.heap.size ≤ B := by omega
  have hBge : B ≤ w.heap.size := by omega
  clear hB
  go_cut [6] (fun s6 w' => w' = ((w.alloc (.cells #[.int .u64 0, .int .u64 0, .int .u64 0, .int .u64 0] 31)).alloc (.cells #[.int .u64 0, .int .u64 0, .int .u64 0, .int .u64 0] 31)) ∧ s6 = .int .i64 (max lo 0))
  case first =>
    go_wp2
    all_goals
      go_meet
      case rel => exact ⟨rfl, by congr 1 <;> omega⟩
  case rest =>
    obtain ⟨rfl, rfl⟩ := hcut
    obtain ⟨b0, hb0⟩ : ∃ b0 : Nat, (b0 : Int) = max lo 0 := ⟨(max lo 0).toNat, by omega⟩
    have hF : rangeF lo hi = C4.bitsFrom C4.zero b0 (min hi 255 + 1 - b0).toNat := by unfold rangeF; rw [← hb0]; rfl
    have HF := Lib.hid hF
    rw [← hb0]
    clear hF hb0
    obtain ⟨hs1, hs2, hs3⟩ := hstart
    obtain ⟨N, hN⟩ : ∃ N, N = (min hi 255 + 1 - b0).toNat := ⟨_, rfl⟩
    have HN := Lib.hid hN
    have hN1 : 0 < N → (b0 : Int) + N = min hi 255 + 1 := fun h => by omega
    have hN0 : N = 0 → min hi 255 < (b0 : Int) := fun h => by omega
    have hN2 : N = 0 ∨ b0 + N ≤ 256 := by omega
    clear hN
    rcases (show 255 < hi ∨ hi ≤ 255 by omega) with hh | hh
    all_goals
      go_wp2_with fail
      go_loopg [6] N (fun g c wr => ∃ i : Nat, i + g = N ∧ c = .int .i64 ((b0 + i : Nat) : Int) ∧ Below B w wr ∧ Wr wr B 0 (clsL C4.zero) ∧ Wr wr (B + 1) 0 (clsL (C4.bitsFrom C4.zero b0 i)))
      case atStart => exact ⟨0, by omega, rfl, hs1, hs2, hs3⟩
      case round =>
        obtain ⟨i, hi', rfl, hb, hr, hx⟩ := hrel
        clear hs1 hs2 hs3
        by_cases hlt : i < N
        · have hbb : ((b0 + i : Nat) : Int) ≤ hi := by have := hN1 (by omega); omega
          have hb255 : b0 + i ≤ 255 := by omega
          have hstep := bit_step C4.zero b0 i
          generalize hbn : b0 + i = b at hbb hb255 hstep ⊢
          have h4 : b / 64 < 4 := by omega
          have cx : ∀ w', Up wr.drew w' → w'.cell? ⟨B + 1, b / 64, none⟩ = some (.int .u64 (n64 ((C4.bitsFrom C4.zero b0 i).get (b / 64)))) := fun w' hw => (cls_at ((hx.gr (Gr.drew _)).gr hw) (b / 64) h4).1
          have hand := i64_and63 b (by omega)
          have hsh := one_shl (b % 64) (Nat.mod_lt _ (by decide))
          have HS0 := Lib.hid hstep
          have HI := Lib.hid hi'
          clear hN1 hN0 hN2 hstep hi'
          go_wp2_with fail
          refine mix 9 (List.replicate 9 true) rfl (by kernel_rfl) (by kernel_rfl) (by intro c a d v w h; cases d <;> exact h) (Up wr.drew) (closed_up _) (Gr.refl _) ?_
          simp only [List.take_succ_cons, List.take_zero, List.drop_succ_cons, List.drop_zero, List.replicate]
          repeat (first
            | (refine wpM_val (by rfl) (fun w hSw => by go_simp; (try (simp only [↓IntWalk.iteOmega]; try go_simp)); (try go_bits); first | done | with_reducible rfl) ?_; simp only [Act.put, List.setIfInBounds_toArray, List.set_cons_zero, List.set_cons_succ])
            | (refine wpM_skip (by rfl) ?_; simp only [Act.put, List.setIfInBounds_toArray, List.set_cons_zero, List.set_cons_succ]))
          refine wpM_end fun w5 hw5 => ?_
          have hx5 := (hx.gr (Gr.drew _)).gr hw5
          have hr5 := (hr.gr (Gr.drew _)).gr hw5
          have hb5 : Below B w w5 := below_gr hb.drew (by have := hb.size; simp; omega) hw5
          obtain ⟨c1, c2⟩ := cls_at hx5 (b / 64) h4
          have hs := cls_store hx5 (b / 64) h4 ((C4.bitsFrom C4.zero b0 i).get (b / 64) ||| BitVec.ofNat 64 (2 ^ (b % 64)))
          have hf1 := hr5.far (a := ⟨B + 1, b / 64, none⟩) (by simp) (.int .u64 (n64 ((C4.bitsFrom C4.zero b0 i).get (b / 64) ||| BitVec.ofNat 64 (2 ^ (b % 64)))))
          have hbs := hb5.setCell (p := ⟨B + 1, b / 64, none⟩) (by simp) (.int .u64 (n64 ((C4.bitsFrom C4.zero b0 i).get (b / 64) ||| BitVec.ofNat 64 (2 ^ (b % 64)))))
          rw [HS0.out] at hs
          have HS := Lib.hid (And.intro hs (And.intro hf1 hbs))
          clear hs hf1 hbs hx5 hr5 hb5 cx hx hr hb hw5 hand hsh
          go_wp2_with fail
          have hi' := HI.out
          go_roundg (gk - 1)
          case measure => omega
          case rel => exact ⟨i + 1, by omega, by go_num, HS.out.2.2, HS.out.2.1, HS.out.1⟩
        · obtain rfl : i = N := by omega
          have hbig : min hi 255 < ((b0 + i : Nat) : Int) := by
            by_cases h0 : i = 0
            · have := hN0 h0; omega
            · have := hN1 (by omega); omega
          have hE : C4.bitsFrom C4.zero b0 i = rangeF lo hi := by rw [HF.out, ← HN.out]
          rw [hE] at hx
          obtain ⟨c0, c1, c2, c3⟩ := cls_cells hx
          obtain ⟨⟨r0, f0⟩, ⟨r1, f1⟩, ⟨r2, f2⟩, ⟨r3, f3⟩⟩ : _ ∧ _ ∧ _ ∧ _ := ⟨cls_at hr 0 (by decide), cls_at hr 1 (by decide), cls_at hr 2 (by decide), cls_at hr 3 (by decide)⟩
          clear hN1 hN0 hN2 hE
          generalize b0 + i = b at *
          have hbig' : ¬ (b : Int) ≤ min hi 255 := by omega
          go_wp2_with fail
          refine bodyPost_ret (v := .agg #[.int .u64 (n64 (rangeF lo hi).a), .int .u64 (n64 (rangeF lo hi).b), .int .u64 (n64 (rangeF lo hi).c), .int .u64 (n64 (rangeF lo hi).d)]) (by simp [results, Try.results10, go_sem, r0, r1, r2, r3]) rfl ⟨rfl, ?_⟩
          exact ((((hb.setCell (by simp) _).setCell (by simp) _).setCell (by simp) _).setCell (by simp) _).mono hBle
end Go.Proofs.Ytknojgjdaafboaa

/- ClsRg -/
namespace Go.Proofs.Ytknojgjdaafboaa.classSets
open Go.RowKit kit mix classL eng
theorem rangeE (lo hi : Int) (h1 : okI64 lo) (h2 : okI64 hi) (w : World) : Calls Try.prog 10 #[.int .i64 lo, .int .i64 hi] w (Meets (ret (clsV (rangeF lo hi))) w) := (range_calls lo hi w h1 h2).mono fun e w' ⟨he, hb⟩ => meets_ret he hb
end Go.Proofs.Ytknojgjdaafboaa.classSets

/- RexPl -/
namespace Go.Proofs.Ytknojgjdaafboaa.eng
open Go.RowKit kit mix classL rexL classSets
theorem build_rexL (c : C4) (w : World) : (Instr.build 33 #[(0, .int .i64 3), (1, clsV c)]).run Try.prog w = .ok (rexV 3 c (.slice none 0 0)) w := by kernel_rfl
theorem letter_calls (b : Int) (w : World) (hb : kit.okI64 b) : Calls Try.prog 5 #[.int .i64 b] w (Meets (ret (rexV 3 (rangeF b b) (.slice none 0 0))) w) := by
  have hr := fun w => rangeE b b hb hb w
  have hbl := build_rexL (rangeF b b)
  generalize rangeF b b = c at *
  refine enter (args := [.int .i64 b]) (n := 7) Try.func5 rfl rfl rfl ?_
  refine T_seq (T_region (TL_new rfl fun g2 => ?_))
  conv => arg 8; simp only [zA, zB, zC, zD, zE, zF, zG, zH, zI, rowS, ret, id_eq]
  repeat (first
    | refine qv rfl (qp rfl) rfl rfl ?_ | refine TL_nil ?_ | refine T_seq ?_ | refine T_region ?_ | refine T_ret ?_ | refine E_then ?_ | refine E_thenR ?_)
  refine TL_call (he2 EntersC.en rfl rfl rfl) (fun w hm => hr _) rfl rfl rfl ?_
  intro _ _
  conv => arg 8; simp only [zA, zB, zC, zD, zE, zF, zG, zH, zI, rowS, ret, id_eq]
  repeat (first
    | refine qv rfl (qp rfl) rfl rfl ?_ | refine TL_nil ?_ | refine T_seq ?_ | refine T_region ?_ | refine T_ret ?_ | refine E_then ?_ | refine E_thenR ?_
    | refine qv rfl (rr_build rfl hbl) rfl rfl ?_)
  refine TL_storeB (i := 0) (cs' := (rexC 3 c (.slice none 0 0)).toArray) rfl rfl rfl rfl rfl rfl ?_
  conv => arg 8; simp only [zA, zB, zC, zD, zE, zF, zG, zH, zI, rowS, ret, id_eq]
  repeat (first
    | refine qv rfl (qp rfl) rfl rfl ?_ | refine TL_nil ?_ | refine T_seq ?_ | refine T_region ?_ | refine T_ret ?_ | refine E_then ?_ | refine E_thenR ?_)
  exact E_retc1 (i := 0) rfl rfl rfl rfl fun w hm => hm.ret
/-- kids that were put into a list -/
def kidO (g : Nat) (l : List (List Value)) : Own := blkO g l.flatten.toArray 33
/-- what was put together can be read -/
theorem kids_rex {w : World} {g : Nat} {k : Int} {l : List (Int × C4 × Value × Rx)} (hk : kit.okI64 k) (h : (kidO g (l.map fun x => rexC x.1 x.2.1 x.2.2.1)).holds w) (hl : l.length ≤ 2) (hr : ∀ x ∈ l, RexIs (Low w) w (rexC x.1 x.2.1 x.2.2.1) x.2.2.2) :
    RexR (Low w) w (rexV k C4.zero (.slice (some ⟨g, 0, none⟩) l.length l.length)) (.mk k C4.zero (l.map fun x => x.2.2.2)) := by
  have hb : w.heap[g]? = some (.cells (l.map fun x => rexC x.1 x.2.1 x.2.2.1).flatten.toArray 33 (0, 0)) := h
  refine ⟨_, rfl, hk, some ⟨g, 0, none⟩, l.length, by show Value.slice _ l.length _ = _; rw [show (Rx.mk k C4.zero (l.map fun x => x.2.2.2)).kids.length = l.length from List.length_map ..], by rw [show (Rx.mk k C4.zero (l.map fun x => x.2.2.2)).kids.length = l.length from List.length_map ..]; exact Nat.le_refl _, by unfold maxLen; omega, fun _ => ⟨g, 0, rfl, (Array.getElem?_eq_some_iff.1 hb).1, fun i hi => ?_⟩⟩
  have hi' : i < l.length := by have : i < (l.map fun x => x.2.2.2).length := hi; simpa using this
  refine ⟨rexC l[i].1 l[i].2.1 l[i].2.2.1, ?_, fun j u hj => ?_⟩
  · have e : (Rx.mk k C4.zero (l.map fun x => x.2.2.2)).kids[i] = l[i].2.2.2 := by exact List.getElem_map (h := by simpa using hi') ..
    rw [e]
    exact hr l[i] (List.getElem_mem hi')
  · rw [cell_of_row w g _ _ _ _ hb, List.getElem?_toArray, Nat.zero_add]
    have hj6 : j < 6 := by have := (List.getElem?_eq_some_iff.1 hj).1; simpa [rexC, clsL] using this
    have := flatten_get (c := 6) (l.map fun x => rexC x.1 x.2.1 x.2.2.1) (fun x hx => by obtain ⟨y, _, rfl⟩ := List.mem_map.1 hx; rfl) i j (by simpa using hi') hj6
    show (l.map fun x => rexC x.1 x.2.1 x.2.2.1).flatten[i * 6 + j]? = some u
    rw [this, List.getElem_map]; exact hj
theorem rex_cs {F : Nat → Prop} {w : World} {vk : Value} {r : Rx} (h : RexR F w (rexV r.kind r.cls vk) r) : RexIs F w (rexC r.kind r.cls vk) r := by
  obtain ⟨k, c, kids⟩ := r
  obtain ⟨vk', e, h1, h2⟩ := h
  dsimp only [Rx.kind, Rx.cls, Rx.kids] at e h1 h2 ⊢
  have : vk = vk' := by simpa [rexV, rexC, clsL] using e
  subst this
  exact rex_iff.2 ⟨_, rfl, h1, h2⟩
theorem star_rex {w : World} {g : Nat} {r : Rx} {vk : Value} (h : (kidO g [rexC r.kind r.cls vk]).holds w) (hr : RexR (Low w) w (rexV r.kind r.cls vk) r) :
    RexR (Low w) w (rexV 6 C4.zero (.slice (some ⟨g, 0, none⟩) 1 1)) (.mk 6 C4.zero [r]) :=
  kids_rex (l := [(r.kind, r.cls, vk, r)]) ⟨by decide, by decide⟩ h (by show 1 ≤ 2; omega) fun x hx => by
    simp only [List.mem_cons, List.not_mem_nil, or_false] at hx
    subst hx
    exact rex_cs hr
theorem star_rexK {w : World} {g : Nat} {k : Int} {c : C4} {kids : List Rx} {vk : Value} (h : (kidO g [rexC k c vk]).holds w) (hr : RexR (Low w) w (rexV k c vk) (.mk k c kids)) :
    RexR (Low w) w (rexV 6 C4.zero (.slice (some ⟨g, 0, none⟩) 1 1)) (.mk 6 C4.zero [.mk k c kids]) := star_rex (r := .mk k c kids) h hr
theorem leaf_rex {F : Nat → Prop} {w : World} {k : Int} {c : C4} (hk : kit.okI64 k) : RexR F w (rexV k c (.slice none 0 0)) (.mk k c []) := ⟨_, rfl, hk, SlF.nil⟩
end Go.Proofs.Ytknojgjdaafboaa.eng

/- PlR -/
namespace Go.Proofs.Ytknojgjdaafboaa.eng
open Go.RowKit kit mix classL rexL placesL classSets
theorem slr_gr {w w' : World} {v : Value} {l : List Rx} (h : SlF rexS (Low w) w v l) (hg : Gr w w') : SlF rexS (Low w') w' v l :=
  (h.stay fun k hk => hg.block k hk).mono fun k hk => Nat.lt_of_lt_of_le hk hg.size
theorem one_rexs {w : World} {g : Nat} {k : Int} {c : C4} {kids : List Rx} {vk : Value} (h : (blkO g (rexC k c vk).toArray 33).holds w) (hr : RexR (Low w) w (rexV k c vk) (.mk k c kids)) : SlF rexS (Low w) w (.slice (some ⟨g, 0, none⟩) 1 1) [.mk k c kids] := by
  obtain ⟨vk', e, _, hs⟩ := star_rexK (w := w) (g := g) (by show w.heap[g]? = _; rw [List.flatten_cons, List.flatten_nil, List.append_nil]; exact h) hr
  have : vk' = .slice (some ⟨g, 0, none⟩) 1 1 := by simp [rexV, rexC, clsL, Rx.kind, Rx.cls] at e; exact e.symm
  subst this
  exact hs
theorem embs_of : ∀ {rs : List Rx}, checkM rs = 0 → ∃ es : List Re, rs = es.map emb ∧ ∀ e ∈ es, Fit e 1 0
  | [], _ => ⟨[], rfl, fun _ h => by cases h⟩
  | r :: l, h => by
    have hr := check_all h r (List.mem_cons_self ..)
    have hl : checkM l = 0 := by rw [checkM, if_neg (by simpa using hr)] at h; exact h
    obtain ⟨es, rfl, h2⟩ := embs_of hl
    obtain ⟨e, rfl, hf, _⟩ := chk_fit (sizeX r) r 1 0 (chk r 1 0).2 (Nat.le_refl _) (by rw [← hr])
    refine ⟨e :: es, rfl, fun x hx => ?_⟩
    rcases List.mem_cons.1 hx with rfl | hx
    · exact hf
    · exact h2 x hx
theorem fit_size {e : Re} (h : Fit e 1 0) : e.size ≤ 100 := by have := h.sz; omega
theorem checkM_fit : ∀ {es : List Re}, (∀ e ∈ es, Fit e 1 0) → checkM (es.map emb) = 0
  | [], _ => rfl
  | e :: es, h => by
    have h1 : chkR (emb e) = 0 := by show (chk (emb e) 1 0).1 = 0; rw [fit_chk e 1 0 (h e (List.mem_cons_self ..))]
    rw [List.map_cons, checkM, if_neg (by simpa using h1)]
    exact checkM_fit fun x hx => h x (List.mem_cons_of_mem _ hx)
theorem loop_zero : ∀ (es : List Re) (i : Nat) (m : MS), (loopM i m es).1 ≠ 0 → (loopM i m es).2 = .zero
  | [], _, _, h => absurd rfl h
  | e :: r, i, m, h => by
    rw [loopM] at h ⊢
    split at h
    · rename_i c; rw [if_pos c]
    · rename_i c; rw [if_neg c]; exact loop_zero r _ _ h
/-- nothing with an error, or what the rules make -/
theorem makeR_two (rs : List Rx) : (∃ k : Int, k ≠ 0 ∧ MakeR rs (k, .zero)) ∨ ∃ (es : List Re) (m : MS), rs = es.map emb ∧ (∀ e ∈ es, Fit e 1 0) ∧ 0 < es.length ∧ es.length ≤ 20 ∧ loopM 0 .zero es = (0, m) ∧ MakeR rs (0, m) := by
  by_cases c : rs.length = 0 ∨ 20 < rs.length
  · exact .inl ⟨1, by decide, .inl ⟨c, rfl⟩⟩
  · by_cases h : checkM rs = 0
    · obtain ⟨es, h1, h2⟩ := embs_of h
      have hR : MakeR rs (loopM 0 .zero es) := .inr (.inr ⟨c, h, es, h1, fun e he => fit_size (h2 e he), rfl⟩)
      have hz := loop_zero es 0 .zero
      have hl : rs.length = es.length := by rw [h1, List.length_map]
      obtain ⟨k, m, e⟩ : ∃ k m, loopM 0 .zero es = (k, m) := ⟨_, _, rfl⟩
      rw [e] at hR hz
      by_cases h0 : k = 0
      · subst h0
        exact .inr ⟨es, m, h1, h2, by omega, by omega, e, hR⟩
      · obtain rfl : m = .zero := hz h0
        exact .inl ⟨k, h0, hR⟩
    · exact .inl ⟨checkM rs, h, .inr (.inl ⟨c, h, rfl⟩)⟩
theorem letter_nz {b : Nat} (hb : b < 256) : rangeF b b ≠ C4.zero := fun h => by
  have h1 : (rangeF b b).mem b = true := by rw [range_mem _ _ _ hb, decide_eq_true_eq]; omega
  rw [h, zero_mem] at h1; cases h1
theorem make_fit {es : List Re} (h0 : es ≠ []) (h20 : es.length ≤ 20) (h : ∀ e ∈ es, Fit e 1 0) : MakeR (es.map emb) (loopM 0 .zero es) :=
  .inr (.inr ⟨by rw [List.length_map]; have := List.length_pos_iff.2 h0; omega, checkM_fit h, es, rfl, fun e he => fit_size (h e he), rfl⟩)
/-- an own row is a slice -/
theorem row_sl {e : TypeId} {size n : Nat} {v : Value} {xs : List Value} (w : World) (h : (rowO e size v n xs).holds w) : ∃ a c, v = .slice a n c ∧ (0 < n → ∃ g, a = some ⟨g, 0, none⟩) := by
  rcases (show w.ownsRow 0 e size v n xs from h).2 with ⟨rfl, rfl⟩ | ⟨g, cap, cur, rfl, _⟩
  · exact ⟨_, _, rfl, fun h => by omega⟩
  · exact ⟨_, _, rfl, fun _ => ⟨g, rfl⟩⟩
theorem row_slm {e : TypeId} {size n : Nat} {v : Value} {xs : List Value} (w : World) (h : (rowO e size v n xs).holds w) : ∃ a c, v = .slice a n c ∧ n ≤ 9223372036854775807 ∧ (0 < n → ∃ g, a = some ⟨g, 0, none⟩) := by
  rcases (show w.ownsRow 0 e size v n xs from h).2 with ⟨rfl, rfl⟩ | ⟨g, cap, cur, rfl, _, _, hn, hm, _⟩
  · exact ⟨_, _, rfl, by omega, fun h => by omega⟩
  · exact ⟨_, _, rfl, by unfold maxLen at hm; omega, fun _ => ⟨g, rfl⟩⟩
/-- what Make made, as it can be read -/
theorem pos_slf {F : Nat → Prop} {v : Value} {vs : List Value} {fol : List (List Int)} {w : World} (hr : (folR v vs).holds w) (he : (folE F vs fol).holds w) (hl : vs.length = fol.length) : SlF (sliceS intS) (Low w) w v fol := by
  have hr' : w.ownsRow 0 24 1 v vs.length (vs.flatMap one1) := hr
  obtain ⟨base, cap, h1, h2, h3, h4⟩ := Sl.of_own hr'
  rw [hl] at h1 h2
  refine ⟨base, cap, h1, h2, h3, fun h0 => ?_⟩
  obtain ⟨b, off, h5, h6⟩ := h4 (by omega)
  rw [one1_flat] at h6
  refine ⟨b, off, h5, ?_, fun i hi => ⟨[vs[i]'(by omega)], ⟨vs[i]'(by omega), rfl, ?_⟩, fun j u hj => ?_⟩⟩
  · have := h6 0 _ (List.getElem?_eq_getElem (by omega))
    exact World.block_lt_of_cell? w _ this
  · have hs := fol_sl he hi (by omega)
    obtain ⟨⟨q1, q2⟩, q3⟩ := he
    obtain ⟨v', hv', hok, _, hF⟩ := q2 i hi (by rw [List.length_map]; omega)
    rw [List.getElem_map] at hv'
    simp only [one1, List.cons.injEq, and_true] at hv'
    rw [← int_flat] at hs
    refine SlF.of_flat hs hok (fun b hb => q3 b (hF b (by rw [← hv']; exact hb))) fun a n cp hv => q3 a.block (hF _ (by rw [← hv', hv]; rfl))
  · have hj0 : j = 0 := by have := (List.getElem?_eq_some_iff.1 hj).1; simp at this; exact this
    subst hj0
    have := h6 i u (by rw [List.getElem?_eq_getElem (by omega)]; exact hj)
    show w.cell? ⟨b, off + i * 1 + 0, none⟩ = some u
    rw [Nat.mul_one, Nat.add_zero]
    exact this
end Go.Proofs.Ytknojgjdaafboaa.eng

/- SmIe -/
namespace Go.Proofs.Ytknojgjdaafboaa.eng
open Go.RowKit kit mix
theorem SmIn_len (a : Int) : (kit.intC a).length = 1 := rfl
end Go.Proofs.Ytknojgjdaafboaa.eng

/- BoE -/
namespace Go.Proofs.Ytknojgjdaafboaa.eng
open Go.RowKit kit mix
def boC (b : Bool) : List Value := [.bool b]
theorem BoE_len (a : Bool) : (boC a).length = 1 := rfl
end Go.Proofs.Ytknojgjdaafboaa.eng

/- PlE -/
namespace Go.Proofs.Ytknojgjdaafboaa.eng
open Go.RowKit kit mix classL placesL
theorem folS_sl {F : Nat → Prop} {w : World} {cs : List Value} {l : List Int} (h : (sliceS intS).is F w cs l) : ∃ v, cs = [v] ∧ Sl w v l.length (l.flatMap kit.intC) := by
  obtain ⟨v, h1, h2⟩ := h
  exact ⟨v, h1, h2.flat (by decide)⟩
theorem slii_gr {w w' : World} {v : Value} {l : List (List Int)} (h : SlF (sliceS intS) (Low w) w v l) (hg : Gr w w') : SlF (sliceS intS) (Low w') w' v l :=
  (h.stay fun k hk => hg.block k hk).mono fun k hk => Nat.lt_of_lt_of_le hk hg.size
/-- a Posn that can be read -/
def PosR (w : World) (v : Value) (m : MS) : Prop :=
  ∃ vc vr vf vfol vl ve, v = .agg #[vc, vr, vf, vfol, vl, ve] ∧ Sl w vc m.ps.classes.length (m.ps.classes.flatMap clsL) ∧ Sl w vr m.ps.rules.length (m.ps.rules.flatMap kit.intC) ∧ Sl w vf m.first.length (m.first.flatMap kit.intC) ∧
    SlF (sliceS intS) (Low w) w vfol m.ps.follow ∧ Sl w vl m.ps.last.length (m.ps.last.flatMap boC) ∧ Sl w ve m.empty.length (m.empty.flatMap boC)
theorem PosR.gr {w w' : World} {v : Value} {m : MS} (h : PosR w v m) (hg : Gr w w') : PosR w' v m := by
  obtain ⟨vc, vr, vf, vfol, vl, ve, h0, h1, h2, h3, h4, h5, h6⟩ := h
  exact ⟨vc, vr, vf, vfol, vl, ve, h0, h1.gr hg, h2.gr hg, h3.gr hg, slii_gr h4 hg, h5.gr hg, h6.gr hg⟩
end Go.Proofs.Ytknojgjdaafboaa.eng

/- PlP -/
namespace Go.Proofs.Ytknojgjdaafboaa.eng
open Go.RowKit kit mix classL rexL placesL
theorem boC_flat (l : List Bool) : l.flatMap boC = l.map Value.bool := bool_flat l
theorem posR_of {w : World} {x : PIx} {m : MS} (hl : x.vs.length = m.ps.follow.length) (h0 : (rowO 31 4 x.vc m.ps.classes.length (m.ps.classes.flatMap clsL)).holds w) (h1 : (intR x.vr m.ps.rules).holds w) (h2 : (intR x.vf m.first).holds w) (h3 : (folR x.vfol x.vs).holds w) (h4 : (folE x.F x.vs m.ps.follow).holds w)
    (h5 : (rowO 4 1 x.vl m.ps.last.length (m.ps.last.map Value.bool)).holds w) (h6 : (rowO 4 1 x.ve m.empty.length (m.empty.map Value.bool)).holds w) : PosR w (.agg (posC x)) m := by
  refine ⟨_, _, _, _, _, _, rfl, Sl.of_own h0, ?_, ?_, pos_slf h3 h4 hl, ?_, ?_⟩
  · rw [int_flat]; exact Sl.of_own h1
  · rw [int_flat]; exact Sl.of_own h2
  · rw [boC_flat]; exact Sl.of_own h5
  · rw [boC_flat]; exact Sl.of_own h6
theorem Mem.posR {w : World} {B : Base} {L : List Own} {x : PIx} {m : MS} (i : Nat) (hm : Mem B L w) (hl : x.vs.length = m.ps.follow.length) (h : posL x m = [i, i + 1, i + 2, i + 3, i + 4, i + 5, i + 6].filterMap fun j => L[j]?) (hlen : i + 6 < L.length) : PosR w (.agg (posC x)) m := by
  have g : ∀ j, j < 7 → ∃ o, L[i + j]? = some o ∧ (posL x m)[j]? = some o := by
    intro j hj
    have e : ∀ k, k < 7 → ∃ o, L[i + k]? = some o := fun k hk => ⟨_, List.getElem?_eq_getElem (by omega)⟩
    rw [h]
    obtain ⟨o0, e0⟩ : ∃ o, L[i]? = some o := e 0 (by omega)
    obtain ⟨o1, e1⟩ := e 1 (by omega)
    obtain ⟨o2, e2⟩ := e 2 (by omega)
    obtain ⟨o3, e3⟩ := e 3 (by omega)
    obtain ⟨o4, e4⟩ := e 4 (by omega)
    obtain ⟨o5, e5⟩ := e 5 (by omega)
    obtain ⟨o6, e6⟩ := e 6 (by omega)
    simp only [List.filterMap_cons, e0, e1, e2, e3, e4, e5, e6, List.filterMap_nil]
    match j, hj with
    | 0, _ => exact ⟨_, e0, rfl⟩
    | 1, _ => exact ⟨_, e1, rfl⟩
    | 2, _ => exact ⟨_, e2, rfl⟩
    | 3, _ => exact ⟨_, e3, rfl⟩
    | 4, _ => exact ⟨_, e4, rfl⟩
    | 5, _ => exact ⟨_, e5, rfl⟩
    | 6, _ => exact ⟨_, e6, rfl⟩
  have k : ∀ j o, j < 7 → (posL x m)[j]? = some o → o.holds w := fun j o hj ho => by
    obtain ⟨o', h1, h2⟩ := g j hj
    rw [h2] at ho
    cases ho
    exact hm.get h1
  exact posR_of hl (k 0 _ (by omega) rfl) (k 1 _ (by omega) rfl) (k 2 _ (by omega) rfl) (k 3 _ (by omega) rfl) (k 4 _ (by omega) rfl) (k 5 _ (by omega) rfl) (k 6 _ (by omega) rfl)
end Go.Proofs.Ytknojgjdaafboaa.eng

/- PlK -/
namespace Go.Proofs.Ytknojgjdaafboaa.eng
open Go.RowKit kit mix classL rexL placesL
set_option maxHeartbeats 2000000 in
theorem rises_calls (v : Value) (l : List Int) (n : Nat) (w : World) (hv : Sl w v l.length (l.flatMap kit.intC)) (h : Ris n l) :
    Calls Try.prog 23 #[v, .int .i64 (n : Int)] w (Meets (ret (.bool true)) w) := by
  obtain ⟨base, cap, rfl, hcap, hmax, hrd⟩ := hv
  unfold maxLen at hmax
  refine enter (args := [.slice base l.length cap, .int .i64 (n : Int)]) (n := 35) Try.func23 rfl rfl rfl ?_
  repeat (first
    | refine qv rfl (qp rfl) rfl rfl ?_ | refine TL_nil ?_ | refine T_seq ?_ | refine T_region ?_ | refine qcT rfl ?_ | refine qcF rfl ?_ | refine T_skip ?_
    | refine T_exit ?_ | refine T_ret ?_ | refine T_block ?_ | refine E_then ?_ | refine E_thenX ?_ | refine E_thenR ?_ | refine E_blockN ?_
    | refine E_blockR ?_ | refine E_blockX ?_ | refine E_blockO rfl ?_ | refine qs rfl rfl rfl rfl rfl rfl ?_
    | ((try refine qg rfl rfl rfl ?_); first | refine qv rfl (qp rfl) rfl rfl ?_ | refine qv rfl (qlen Und.eq rfl) rfl rfl ?_ | refine qv rfl (rr_lss rfl rfl (qT (by omega))) rfl rfl ?_ | refine qv rfl (rr_lss rfl rfl (qF (by omega))) rfl rfl ?_ | refine qv rfl (rr_add64 rfl rfl (by omega) (by omega) rfl) rfl rfl ?_ | refine qv rfl (rr_leq rfl rfl (qT (by omega))) rfl rfl ?_ | refine qv rfl (rr_leq rfl rfl (qF (by omega))) rfl rfl ?_ | refine qv rfl (rr_gtr rfl rfl (qT (by omega))) rfl rfl ?_ | refine qv rfl (rr_gtr rfl rfl (qF (by omega))) rfl rfl ?_ | refine qv rfl (rr_geq rfl rfl (qT (by omega))) rfl rfl ?_ | refine qv rfl (rr_geq rfl rfl (qF (by omega))) rfl rfl ?_ | refine qv rfl (rr_sub64 rfl rfl (by omega) (by omega) rfl) rfl rfl ?_))
  refine T_loop (ι := Nat) (fun k => k ≤ l.length) (fun k => [(0, .slice base l.length cap), (1, .int .i64 (n : Int)), (7, .slice base l.length cap), (8, .int .i64 l.length), (9, .int .i64 (k : Int))]) (fun _ => []) (fun k => l.length - k) 0 (Nat.zero_le _) (by repeat' (first | exact True.intro | refine And.intro rfl ?_)) rfl ?_
  intro k h1
  by_cases c2 : k < l.length
  · obtain ⟨b, off, rfl, hr⟩ := hrd (by omega)
    have hat := at_el (L := ([] : List Own)) SmIn_len hr c2 0 _ rfl
    have hx := h.2 _ (List.getElem_mem c2)
    by_cases c3 : 0 < k
    · have hp := List.pairwise_iff_getElem.1 h.1 (k - 1) k (by omega) c2 (by omega)
      have hat2 := at_el (L := ([] : List Own)) SmIn_len hr (k := k - 1) (by omega) 0 _ rfl
      generalize l[k] = x at *
      generalize l[k - 1]'(by omega) = y at *
      repeat (first
        | refine qv rfl (qp rfl) rfl rfl ?_ | refine TL_nil ?_ | refine T_seq ?_ | refine T_region ?_ | refine qcT rfl ?_ | refine qcF rfl ?_ | refine T_skip ?_
        | refine T_exit ?_ | refine T_ret ?_ | refine T_block ?_ | refine E_then ?_ | refine E_thenX ?_ | refine E_thenR ?_ | refine E_blockN ?_
        | refine E_blockR ?_ | refine E_blockX ?_ | refine E_blockO rfl ?_ | refine qs rfl rfl rfl rfl rfl rfl ?_
        | ((try refine qg rfl rfl rfl ?_); first | refine qv rfl (qp rfl) rfl rfl ?_ | refine qv rfl (rr_idxc Und.eq TyC.ty rfl rfl c2) rfl rfl ?_ | refine qv rfl (rr_load1 (v := .int .i64 x) TyC.ty rfl hat) rfl rfl ?_ | refine qv rfl (rr_lss (b := false) rfl rfl (decide_eq_false (by omega))) rfl rfl ?_ | refine qv rfl (rr_idxc (j := k - 1) Und.eq TyC.ty rfl rfl (by omega)) rfl rfl ?_ | refine qv rfl (rr_load1 (v := .int .i64 y) TyC.ty rfl hat2) rfl rfl ?_ | refine qv rfl (qlen Und.eq rfl) rfl rfl ?_ | refine qv rfl (rr_lss rfl rfl (qT (by omega))) rfl rfl ?_ | refine qv rfl (rr_lss rfl rfl (qF (by omega))) rfl rfl ?_ | refine qv rfl (rr_add64 rfl rfl (by omega) (by omega) rfl) rfl rfl ?_ | refine qv rfl (rr_geq (b := false) rfl rfl (decide_eq_false (by omega))) rfl rfl ?_ | refine qv rfl (rr_gtr (b := true) rfl rfl (decide_eq_true (by omega))) rfl rfl ?_ | refine qv rfl (rr_sub64 (r := ((k - 1 : Nat) : Int)) rfl rfl (by omega) (by omega) (by omega)) rfl rfl ?_ | refine qv rfl (rr_leq (b := false) rfl rfl (decide_eq_false (by omega))) rfl rfl ?_ | refine qv rfl (rr_leq rfl rfl (qT (by omega))) rfl rfl ?_ | refine qv rfl (rr_leq rfl rfl (qF (by omega))) rfl rfl ?_ | refine qv rfl (rr_gtr rfl rfl (qT (by omega))) rfl rfl ?_ | refine qv rfl (rr_gtr rfl rfl (qF (by omega))) rfl rfl ?_ | refine qv rfl (rr_geq rfl rfl (qT (by omega))) rfl rfl ?_ | refine qv rfl (rr_geq rfl rfl (qF (by omega))) rfl rfl ?_ | refine qv rfl (rr_sub64 rfl rfl (by omega) (by omega) rfl) rfl rfl ?_))
      exact E_round (k + 1) (by omega) (by show l.length - (k + 1) < l.length - k; omega) (by repeat' (first | exact True.intro | refine And.intro rfl ?_)) rfl
    · generalize l[k] = x at *
      repeat (first
        | refine qv rfl (qp rfl) rfl rfl ?_ | refine TL_nil ?_ | refine T_seq ?_ | refine T_region ?_ | refine qcT rfl ?_ | refine qcF rfl ?_ | refine T_skip ?_
        | refine T_exit ?_ | refine T_ret ?_ | refine T_block ?_ | refine E_then ?_ | refine E_thenX ?_ | refine E_thenR ?_ | refine E_blockN ?_
        | refine E_blockR ?_ | refine E_blockX ?_ | refine E_blockO rfl ?_ | refine qs rfl rfl rfl rfl rfl rfl ?_
        | ((try refine qg rfl rfl rfl ?_); first | refine qv rfl (qp rfl) rfl rfl ?_ | refine qv rfl (rr_idxc Und.eq TyC.ty rfl rfl c2) rfl rfl ?_ | refine qv rfl (rr_load1 (v := .int .i64 x) TyC.ty rfl hat) rfl rfl ?_ | refine qv rfl (rr_lss (b := false) rfl rfl (decide_eq_false (by omega))) rfl rfl ?_ | refine qv rfl (qlen Und.eq rfl) rfl rfl ?_ | refine qv rfl (rr_lss rfl rfl (qT (by omega))) rfl rfl ?_ | refine qv rfl (rr_lss rfl rfl (qF (by omega))) rfl rfl ?_ | refine qv rfl (rr_add64 rfl rfl (by omega) (by omega) rfl) rfl rfl ?_ | refine qv rfl (rr_geq (b := false) rfl rfl (decide_eq_false (by omega))) rfl rfl ?_ | refine qv rfl (rr_gtr (b := false) rfl rfl (decide_eq_false (by omega))) rfl rfl ?_ | refine qv rfl (rr_leq rfl rfl (qT (by omega))) rfl rfl ?_ | refine qv rfl (rr_leq rfl rfl (qF (by omega))) rfl rfl ?_ | refine qv rfl (rr_gtr rfl rfl (qT (by omega))) rfl rfl ?_ | refine qv rfl (rr_gtr rfl rfl (qF (by omega))) rfl rfl ?_ | refine qv rfl (rr_geq rfl rfl (qT (by omega))) rfl rfl ?_ | refine qv rfl (rr_geq rfl rfl (qF (by omega))) rfl rfl ?_ | refine qv rfl (rr_sub64 rfl rfl (by omega) (by omega) rfl) rfl rfl ?_))
      exact E_round (k + 1) (by omega) (by show l.length - (k + 1) < l.length - k; omega) (by repeat' (first | exact True.intro | refine And.intro rfl ?_)) rfl
  · repeat (first
      | refine qv rfl (qp rfl) rfl rfl ?_ | refine TL_nil ?_ | refine T_seq ?_ | refine T_region ?_ | refine qcT rfl ?_ | refine qcF rfl ?_ | refine T_skip ?_
      | refine T_exit ?_ | refine T_ret ?_ | refine T_block ?_ | refine E_then ?_ | refine E_thenX ?_ | refine E_thenR ?_ | refine E_blockN ?_
      | refine E_blockR ?_ | refine E_blockX ?_ | refine E_blockO rfl ?_ | refine qs rfl rfl rfl rfl rfl rfl ?_
      | ((try refine qg rfl rfl rfl ?_); first | refine qv rfl (qp rfl) rfl rfl ?_ | refine qv rfl (qlen Und.eq rfl) rfl rfl ?_ | refine qv rfl (rr_lss rfl rfl (qT (by omega))) rfl rfl ?_ | refine qv rfl (rr_lss rfl rfl (qF (by omega))) rfl rfl ?_ | refine qv rfl (rr_add64 rfl rfl (by omega) (by omega) rfl) rfl rfl ?_ | refine qv rfl (rr_leq rfl rfl (qT (by omega))) rfl rfl ?_ | refine qv rfl (rr_leq rfl rfl (qF (by omega))) rfl rfl ?_ | refine qv rfl (rr_gtr rfl rfl (qT (by omega))) rfl rfl ?_ | refine qv rfl (rr_gtr rfl rfl (qF (by omega))) rfl rfl ?_ | refine qv rfl (rr_geq rfl rfl (qT (by omega))) rfl rfl ?_ | refine qv rfl (rr_geq rfl rfl (qF (by omega))) rfl rfl ?_ | refine qv rfl (rr_sub64 rfl rfl (by omega) (by omega) rfl) rfl rfl ?_))
    exact E_ret1 rfl rfl fun w hm => hm.ret
/-- a list of Follow -/
theorem fol_at {w : World} {b off : Nat} {l : List (List Int)} {F : Nat → Prop} (hr : ∀ i (h : i < l.length), ∃ cs, (sliceS intS).is F w cs l[i] ∧ Rd w b (off + i * (sliceS intS).c) cs) {k : Nat} (hk : k < l.length) : ∃ u, Sl w u l[k].length (l[k].flatMap kit.intC) ∧ Rd w b (off + k * 1) [u] := by
  obtain ⟨cs, h1, h2⟩ := hr k hk
  obtain ⟨u, rfl, h3⟩ := folS_sl h1
  exact ⟨u, h3, h2⟩
set_option maxHeartbeats 4000000 in
theorem posCheck_calls (v : Value) (m : MS) (w : World) (hp : PosR w v m) (h : MOkP m) :
    Calls Try.prog 15 #[v] w (Meets (ret (.int .i64 0)) w) := by
  obtain ⟨vc, vr, vf, vfol, vl, ve, rfl, h1, h2, h3, h4, h5, h6⟩ := hp
  have hmR := h.rules
  have hmf := h.few
  have hms := h.some
  have hmm := h.most
  have l1 := h.ok.ps.rules
  have l2 := h.ok.ps.follow
  have l3 := h.ok.ps.last
  have q1 := fun w' (hg : Gr w w') => rises_calls vf m.first m.ps.classes.length w' (h3.gr hg) h.ok.first
  have hri := h.ok.ps.ris
  clear h h3
  obtain ⟨⟨cl, rul, fol, la⟩, fi, em⟩ := m
  dsimp only at *
  rw [l1] at h2
  obtain ⟨ac, cc, rfl, _⟩ := h1
  obtain ⟨ar, cr, rfl, hcr, hmr, hrr⟩ := h2
  obtain ⟨afo, cfo, rfl, hcf, hmfo, hrf⟩ := h4
  obtain ⟨al, cl2, rfl, _⟩ := h5
  obtain ⟨ae, ce, rfl, _⟩ := h6
  rw [l2] at hcf
  unfold maxLen at *
  have q1' := q1
  clear q1
  generalize hn : cl.length = n at *
  refine enter (args := [.agg #[.slice ac n cc, .slice ar n cr, vf, .slice afo fol.length cfo, .slice al la.length cl2, .slice ae em.length ce]]) (n := 80) Try.func15 rfl rfl rfl ?_
  refine T_seq (T_region (TL_box rfl rfl rfl fun g1 => ?_))
  conv => arg 8; simp only [zA, zB, zC, zD, zE, zF, zG, zH, zI, rowS, ret, id_eq]
  repeat (first
    | refine qv rfl (qp rfl) rfl rfl ?_ | refine TL_nil ?_ | refine T_seq ?_ | refine T_region ?_ | refine qcT rfl ?_ | refine qcF rfl ?_ | refine T_skip ?_
    | refine T_exit ?_ | refine T_ret ?_ | refine T_block ?_ | refine E_then ?_ | refine E_thenX ?_ | refine E_thenR ?_ | refine E_blockN ?_
    | refine E_blockR ?_ | refine E_blockX ?_ | refine E_blockO rfl ?_ | refine qs rfl rfl rfl rfl rfl rfl ?_
    | ((try refine qg rfl rfl rfl ?_); first | refine qv rfl (qp rfl) rfl rfl ?_ | refine qv rfl (rr_load1 (v := .slice ac n cc) TyC.ty rfl (at_blk (i := 0) rfl rfl)) rfl rfl ?_ | refine qv rfl (rr_load1 (v := .slice ar n cr) TyC.ty rfl (at_blk (i := 0) rfl rfl)) rfl rfl ?_ | refine qv rfl (rr_load1 (v := .slice afo fol.length cfo) TyC.ty rfl (at_blk (i := 0) rfl rfl)) rfl rfl ?_ | refine qv rfl (rr_load1 (v := .slice al la.length cl2) TyC.ty rfl (at_blk (i := 0) rfl rfl)) rfl rfl ?_ | refine qv rfl (rr_load1 (v := .slice ae em.length ce) TyC.ty rfl (at_blk (i := 0) rfl rfl)) rfl rfl ?_ | refine qv rfl (rr_load1 (v := vf) TyC.ty rfl (at_blk (i := 0) rfl rfl)) rfl rfl ?_ | refine qv rfl (rr_neq (b := false) rfl rfl (decide_eq_false (by omega))) rfl rfl ?_ | refine qv rfl (rr_gtr (b := false) rfl rfl (decide_eq_false (by omega))) rfl rfl ?_ | refine qv rfl (qlen Und.eq rfl) rfl rfl ?_ | refine qv rfl (qfld FldC.fld rfl rfl) rfl rfl ?_ | refine qv rfl (rr_lss rfl rfl (qT (by omega))) rfl rfl ?_ | refine qv rfl (rr_lss rfl rfl (qF (by omega))) rfl rfl ?_ | refine qv rfl (rr_gtr rfl rfl (qT (by omega))) rfl rfl ?_ | refine qv rfl (rr_gtr rfl rfl (qF (by omega))) rfl rfl ?_ | refine qv rfl (rr_neq rfl rfl (qT (by omega))) rfl rfl ?_ | refine qv rfl (rr_neq rfl rfl (qF (by omega))) rfl rfl ?_ | refine qv rfl (rr_add64 rfl rfl (by omega) (by omega) rfl) rfl rfl ?_ | refine qv rfl (rr_eql (b := false) rfl rfl (decide_eq_false (by omega))) rfl rfl ?_ | refine qv rfl (rr_not rfl rfl) rfl rfl ?_ | refine qv rfl (rr_geq rfl rfl (qT (by omega))) rfl rfl ?_ | refine qv rfl (rr_geq rfl rfl (qF (by omega))) rfl rfl ?_ | refine qv rfl (rr_eql rfl rfl (qT (by omega))) rfl rfl ?_ | refine qv rfl (rr_eql rfl rfl (qF (by omega))) rfl rfl ?_))
  refine TL_gcall (he2 EntersC.en rfl rfl rfl) (fun w hm => q1' _ hm.below) rfl rfl rfl rfl rfl ?_
  intro _ _
  conv => arg 8; simp only [zA, zB, zC, zD, zE, zF, zG, zH, zI, rowS, ret, id_eq]
  clear q1'
  repeat (first
    | refine qv rfl (qp rfl) rfl rfl ?_ | refine TL_nil ?_ | refine T_seq ?_ | refine T_region ?_ | refine qcT rfl ?_ | refine qcF rfl ?_ | refine T_skip ?_
    | refine T_exit ?_ | refine T_ret ?_ | refine T_block ?_ | refine E_then ?_ | refine E_thenX ?_ | refine E_thenR ?_ | refine E_blockN ?_
    | refine E_blockR ?_ | refine E_blockX ?_ | refine E_blockO rfl ?_ | refine qs rfl rfl rfl rfl rfl rfl ?_
    | ((try refine qg rfl rfl rfl ?_); first | refine qv rfl (qp rfl) rfl rfl ?_ | refine qv rfl (qlen Und.eq rfl) rfl rfl ?_ | refine qv rfl (qfld FldC.fld rfl rfl) rfl rfl ?_ | refine qv rfl (rr_lss rfl rfl (qT (by omega))) rfl rfl ?_ | refine qv rfl (rr_lss rfl rfl (qF (by omega))) rfl rfl ?_ | refine qv rfl (rr_gtr rfl rfl (qT (by omega))) rfl rfl ?_ | refine qv rfl (rr_gtr rfl rfl (qF (by omega))) rfl rfl ?_ | refine qv rfl (rr_neq rfl rfl (qT (by omega))) rfl rfl ?_ | refine qv rfl (rr_neq rfl rfl (qF (by omega))) rfl rfl ?_ | refine qv rfl (rr_add64 rfl rfl (by omega) (by omega) rfl) rfl rfl ?_ | refine qv rfl (rr_not rfl rfl) rfl rfl ?_ | refine qv rfl (rr_geq rfl rfl (qT (by omega))) rfl rfl ?_ | refine qv rfl (rr_geq rfl rfl (qF (by omega))) rfl rfl ?_ | refine qv rfl (rr_eql rfl rfl (qT (by omega))) rfl rfl ?_ | refine qv rfl (rr_eql rfl rfl (qF (by omega))) rfl rfl ?_))
  refine T_loop (ι := Nat) (fun k => k ≤ n) (fun k => [(1, .pointer (some ⟨g1, 0, none⟩)), (3, .int .i64 (n : Int)), (46, .int .i64 (n : Int)), (47, .int .i64 (k : Int))]) (fun _ => [blkO g1 #[.slice ac n cc, .slice ar n cr, vf, .slice afo fol.length cfo, .slice al la.length cl2, .slice ae em.length ce] 44]) (fun k => n - k) 0 (Nat.zero_le _) (by repeat' (first | exact True.intro | refine And.intro rfl ?_)) rfl ?_
  intro k hk
  by_cases c1 : k < n
  · obtain ⟨br, offr, rfl, hrd⟩ := hrr (by omega)
    obtain ⟨bf, offf, rfl, _, hrfd⟩ := hrf (by omega)
    obtain ⟨u, hu, hd⟩ := fol_at hrfd (show k < fol.length by omega)
    have hatr := fun (L : List Own) => at_el (L := L) SmIn_len hrd (show k < rul.length by omega) 0 _ rfl
    have hatf := fun (L : List Own) => at_rd (L := L) hd (j := 0) (v := u) rfl
    have hx := hmR _ (List.getElem_mem (show k < rul.length by omega))
    have q := fun w' (hg : Gr w w') => rises_calls u fol[k] n w' (hu.gr hg) (hri _ (List.getElem_mem _))
    clear hrr hrf hrd hrfd hd hu
    generalize rul[k] = x at *
    repeat (first
      | refine qv rfl (qp rfl) rfl rfl ?_ | refine TL_nil ?_ | refine T_seq ?_ | refine T_region ?_ | refine qcT rfl ?_ | refine qcF rfl ?_ | refine T_skip ?_
      | refine T_exit ?_ | refine T_ret ?_ | refine T_block ?_ | refine E_then ?_ | refine E_thenX ?_ | refine E_thenR ?_ | refine E_blockN ?_
      | refine E_blockR ?_ | refine E_blockX ?_ | refine E_blockO rfl ?_ | refine qs rfl rfl rfl rfl rfl rfl ?_
      | ((try refine qg rfl rfl rfl ?_); first | refine qv rfl (qp rfl) rfl rfl ?_ | refine qv rfl (qlen Und.eq rfl) rfl rfl ?_ | refine qv rfl (qfld FldC.fld rfl rfl) rfl rfl ?_ | refine qv rfl (rr_lss rfl rfl (qT (by omega))) rfl rfl ?_ | refine qv rfl (rr_lss rfl rfl (qF (by omega))) rfl rfl ?_ | refine qv rfl (rr_gtr rfl rfl (qT (by omega))) rfl rfl ?_ | refine qv rfl (rr_gtr rfl rfl (qF (by omega))) rfl rfl ?_ | refine qv rfl (rr_neq rfl rfl (qT (by omega))) rfl rfl ?_ | refine qv rfl (rr_neq rfl rfl (qF (by omega))) rfl rfl ?_ | refine qv rfl (rr_add64 rfl rfl (by omega) (by omega) rfl) rfl rfl ?_ | refine qv rfl (rr_not rfl rfl) rfl rfl ?_ | refine qv rfl (rr_geq rfl rfl (qT (by omega))) rfl rfl ?_ | refine qv rfl (rr_geq rfl rfl (qF (by omega))) rfl rfl ?_ | refine qv rfl (rr_eql rfl rfl (qT (by omega))) rfl rfl ?_ | refine qv rfl (rr_eql rfl rfl (qF (by omega))) rfl rfl ?_))
    refine T_ord ([blkO g1 #[.slice ac n cc, .slice (some ⟨br, offr, none⟩) n cr, vf, .slice (some ⟨bf, offf, none⟩) fol.length cfo, .slice al la.length cl2, .slice ae em.length ce] 44]) (.calm 0 (.calm 1 (.calm 2 (.calm 3 (.calm 4 (.calm 5 (.calm 6 (.calm 7 (.calm 8 (.calm 9 (.calm 10 (.calm 11 (.calm 12 (.calm 13 (.calm 14 (.calm 15 (.calm 16 (.calm 17 (.calm 18 (.calm 19 (.calm 20 (.calm 21 (.calm 22 (.calm 23 (.one 24 (.calm 25 (.calm 26 (.done)))))))))))))))))))))))))))) (sub_pick [0] (by decide) rfl) (by kernel_rfl) (by kernel_rfl) (by intro c a d v w h; cases d <;> exact h) ?_
    repeat (first
      | ((first | refine TW_plain rfl rfl ?_ | refine TW_gmet rfl rfl rfl rfl ?_); first | refine TN_val (qp rfl) rfl rfl ?_ | refine TN_val (rr_load1 (v := .slice (some ⟨br, offr, none⟩) n cr) TyC.ty rfl (at_blk (i := 0) rfl rfl)) rfl rfl ?_ | refine TN_val (rr_idxc Und.eq TyC.ty rfl rfl c1) rfl rfl ?_ | refine TN_val (rr_load1 (v := .int .i64 x) TyC.ty rfl (hatr _)) rfl rfl ?_ | refine TN_val (rr_lss (b := false) rfl rfl (decide_eq_false (by omega))) rfl rfl ?_ | refine TN_val (rr_load1 (v := .slice ae em.length ce) TyC.ty rfl (at_blk (i := 0) rfl rfl)) rfl rfl ?_ | refine TN_val (rr_load1 (v := .slice (some ⟨bf, offf, none⟩) fol.length cfo) TyC.ty rfl (at_blk (i := 0) rfl rfl)) rfl rfl ?_ | refine TN_val (rr_idxc (j := k) Und.eq TyC.ty rfl rfl (by omega)) rfl rfl ?_ | refine TN_val (rr_load1 (v := u) TyC.ty rfl (hatf _)) rfl rfl ?_ | refine TN_val (qlen Und.eq rfl) rfl rfl ?_ | refine TN_val (qfld FldC.fld rfl rfl) rfl rfl ?_ | refine TN_val (rr_lss rfl rfl (qT (by omega))) rfl rfl ?_ | refine TN_val (rr_lss rfl rfl (qF (by omega))) rfl rfl ?_ | refine TN_val (rr_gtr rfl rfl (qT (by omega))) rfl rfl ?_ | refine TN_val (rr_gtr rfl rfl (qF (by omega))) rfl rfl ?_ | refine TN_val (rr_neq rfl rfl (qT (by omega))) rfl rfl ?_ | refine TN_val (rr_neq rfl rfl (qF (by omega))) rfl rfl ?_ | refine TN_val (rr_add64 rfl rfl (by omega) (by omega) rfl) rfl rfl ?_ | refine TN_val (rr_geq (b := false) rfl rfl (decide_eq_false (by omega))) rfl rfl ?_ | refine TN_val (rr_not rfl rfl) rfl rfl ?_ | refine TN_val (rr_geq rfl rfl (qT (by omega))) rfl rfl ?_ | refine TN_val (rr_geq rfl rfl (qF (by omega))) rfl rfl ?_ | refine TN_val (rr_eql rfl rfl (qT (by omega))) rfl rfl ?_ | refine TN_val (rr_eql rfl rfl (qF (by omega))) rfl rfl ?_)
      | refine TW_skip rfl rfl rfl rfl rfl rfl rfl ?_ | refine TW_done ?_)
    refine TW_one rfl (TL_metg rfl rfl rfl (TL_call (he2 EntersC.en rfl rfl rfl) (fun w hm => q w hm.below) rfl rfl rfl fun _ _ => (TW_on (sub_pick [0] (by decide) rfl) ?_)))
    repeat (first
      | ((first | refine TW_plain rfl rfl ?_ | refine TW_gmet rfl rfl rfl rfl ?_); first | refine TN_val (qp rfl) rfl rfl ?_ | refine TN_val (qlen Und.eq rfl) rfl rfl ?_ | refine TN_val (qfld FldC.fld rfl rfl) rfl rfl ?_ | refine TN_val (rr_lss rfl rfl (qT (by omega))) rfl rfl ?_ | refine TN_val (rr_lss rfl rfl (qF (by omega))) rfl rfl ?_ | refine TN_val (rr_gtr rfl rfl (qT (by omega))) rfl rfl ?_ | refine TN_val (rr_gtr rfl rfl (qF (by omega))) rfl rfl ?_ | refine TN_val (rr_neq rfl rfl (qT (by omega))) rfl rfl ?_ | refine TN_val (rr_neq rfl rfl (qF (by omega))) rfl rfl ?_ | refine TN_val (rr_add64 rfl rfl (by omega) (by omega) rfl) rfl rfl ?_ | refine TN_val (rr_not rfl rfl) rfl rfl ?_ | refine TN_val (rr_geq rfl rfl (qT (by omega))) rfl rfl ?_ | refine TN_val (rr_geq rfl rfl (qF (by omega))) rfl rfl ?_ | refine TN_val (rr_eql rfl rfl (qT (by omega))) rfl rfl ?_ | refine TN_val (rr_eql rfl rfl (qF (by omega))) rfl rfl ?_)
      | refine TW_skip rfl rfl rfl rfl rfl rfl rfl ?_ | refine TW_done ?_)
    repeat (first
      | refine qv rfl (qp rfl) rfl rfl ?_ | refine TL_nil ?_ | refine T_seq ?_ | refine T_region ?_ | refine qcT rfl ?_ | refine qcF rfl ?_ | refine T_skip ?_
      | refine T_exit ?_ | refine T_ret ?_ | refine T_block ?_ | refine E_then ?_ | refine E_thenX ?_ | refine E_thenR ?_ | refine E_blockN ?_
      | refine E_blockR ?_ | refine E_blockX ?_ | refine E_blockO rfl ?_ | refine qs rfl rfl rfl rfl rfl rfl ?_
      | ((try refine qg rfl rfl rfl ?_); first | refine qv rfl (qp rfl) rfl rfl ?_ | refine qv rfl (qlen Und.eq rfl) rfl rfl ?_ | refine qv rfl (qfld FldC.fld rfl rfl) rfl rfl ?_ | refine qv rfl (rr_lss rfl rfl (qT (by omega))) rfl rfl ?_ | refine qv rfl (rr_lss rfl rfl (qF (by omega))) rfl rfl ?_ | refine qv rfl (rr_gtr rfl rfl (qT (by omega))) rfl rfl ?_ | refine qv rfl (rr_gtr rfl rfl (qF (by omega))) rfl rfl ?_ | refine qv rfl (rr_neq rfl rfl (qT (by omega))) rfl rfl ?_ | refine qv rfl (rr_neq rfl rfl (qF (by omega))) rfl rfl ?_ | refine qv rfl (rr_add64 rfl rfl (by omega) (by omega) rfl) rfl rfl ?_ | refine qv rfl (rr_not rfl rfl) rfl rfl ?_ | refine qv rfl (rr_geq rfl rfl (qT (by omega))) rfl rfl ?_ | refine qv rfl (rr_geq rfl rfl (qF (by omega))) rfl rfl ?_ | refine qv rfl (rr_eql rfl rfl (qT (by omega))) rfl rfl ?_ | refine qv rfl (rr_eql rfl rfl (qF (by omega))) rfl rfl ?_))
    refine E_pick [0] (by decide) rfl ?_
    exact E_round (k + 1) (by omega) (by show n - (k + 1) < n - k; omega) (by repeat' (first | exact True.intro | refine And.intro rfl ?_)) rfl
  · repeat (first
      | refine qv rfl (qp rfl) rfl rfl ?_ | refine TL_nil ?_ | refine T_seq ?_ | refine T_region ?_ | refine qcT rfl ?_ | refine qcF rfl ?_ | refine T_skip ?_
      | refine T_exit ?_ | refine T_ret ?_ | refine T_block ?_ | refine E_then ?_ | refine E_thenX ?_ | refine E_thenR ?_ | refine E_blockN ?_
      | refine E_blockR ?_ | refine E_blockX ?_ | refine E_blockO rfl ?_ | refine qs rfl rfl rfl rfl rfl rfl ?_
      | ((try refine qg rfl rfl rfl ?_); first | refine qv rfl (qp rfl) rfl rfl ?_ | refine qv rfl (rr_gtr (b := false) rfl rfl (decide_eq_false (by omega))) rfl rfl ?_ | refine qv rfl (qlen Und.eq rfl) rfl rfl ?_ | refine qv rfl (qfld FldC.fld rfl rfl) rfl rfl ?_ | refine qv rfl (rr_lss rfl rfl (qT (by omega))) rfl rfl ?_ | refine qv rfl (rr_lss rfl rfl (qF (by omega))) rfl rfl ?_ | refine qv rfl (rr_gtr rfl rfl (qT (by omega))) rfl rfl ?_ | refine qv rfl (rr_gtr rfl rfl (qF (by omega))) rfl rfl ?_ | refine qv rfl (rr_neq rfl rfl (qT (by omega))) rfl rfl ?_ | refine qv rfl (rr_neq rfl rfl (qF (by omega))) rfl rfl ?_ | refine qv rfl (rr_add64 rfl rfl (by omega) (by omega) rfl) rfl rfl ?_ | refine qv rfl (rr_not rfl rfl) rfl rfl ?_ | refine qv rfl (rr_geq rfl rfl (qT (by omega))) rfl rfl ?_ | refine qv rfl (rr_geq rfl rfl (qF (by omega))) rfl rfl ?_ | refine qv rfl (rr_eql rfl rfl (qT (by omega))) rfl rfl ?_ | refine qv rfl (rr_eql rfl rfl (qF (by omega))) rfl rfl ?_))
    exact E_ret1 rfl rfl fun w hm => hm.ret
end Go.Proofs.Ytknojgjdaafboaa.eng

/- PlT -/
namespace Go.Proofs.Ytknojgjdaafboaa.eng
open Go.RowKit kit mix classL rexL placesL
theorem at_elO {α : Type} {f : α → List Value} {c : Nat} {W0 : World} {W : Base} {L : List Own} {b off : Nat} {l : List α} (hc : ∀ a, (f a).length = c) (ho : Old W0 W) (h : Rd W0 b off (l.flatMap f)) {k : Nat} (hk : k < l.length) (j : Nat) (u : Value) (hj : (f l[k])[j]? = some u) : At W L ⟨b, off + k * c + j, none⟩ u := by
  have hjc : j < c := by rw [← hc l[k]]; exact (List.getElem?_eq_some_iff.1 hj).1
  rw [Nat.add_assoc]
  exact at_oldR ho h _ u (by rw [get_el hc l k j hk hjc]; exact hj)
end Go.Proofs.Ytknojgjdaafboaa.eng

/- DfN -/
namespace Go.Proofs.Ytknojgjdaafboaa.eng
open Go.RowKit kit mix classL rexL placesL dfaP
/-- the maker's cells -/
def dmC (vc vr vf vfol vl ve vs num rows tags : Value) : Array Value := #[vc, vr, vf, vfol, vl, ve, vs, num, rows, tags]
def setL (S : List C4) : List Value := (C4.zero :: S).flatMap clsL
/-- memory of the world at hand -/
theorem at_here {w : World} {g : Nat} {cs : Array Value} {T : TypeId} (hg : w.heap[g]? = some (.cells cs T (0, 0))) (L : List Own) {k : Nat} {v : Value} (hv : cs[k]? = some v) : At (w : Base) L ⟨g, k, none⟩ v :=
  at_old (by rw [cell_of_row w g k cs T (0, 0) hg]; exact hv)
set_option maxHeartbeats 4000000 in
theorem dfaNext_calls (m : MS) (vc vr vf vfol vl ve vs num rows tags : Value) (S : List C4) (g n : Nat) (w : World) (hp : PosR w (.agg #[vc, vr, vf, vfol, vl, ve]) m) (h : MOkP m) (hg : w.heap[g]? = some (.cells (dmC vc vr vf vfol vl ve vs num rows tags) 63 (0, 0)))
    (hs : Sl w vs (S.length + 1) (setL S)) (hn : n ≤ S.length) :
    Calls Try.prog 24 #[.pointer (some ⟨g, 0, none⟩), .int .i64 (n : Int)] w (Meets (ret (clsV (nextF m S n))) w) := by
  obtain ⟨_, _, _, _, _, _, he, h1, h2, h3, h4, h5, h6⟩ := hp
  simp only [Value.agg.injEq, Array.mk.injEq, List.cons.injEq, and_true] at he
  obtain ⟨rfl, rfl, rfl, rfl, rfl, rfl⟩ := he
  have hmf := h.few
  have hfi := h.ok.first.2
  have hri := h.ok.ps.ris
  have hfl := h.ok.ps.follow
  clear h h1 h2 h5 h6
  obtain ⟨af, cf, rfl, _, hmaf, hrf⟩ := h3
  obtain ⟨ao, co, rfl, _, hmo, hro⟩ := h4
  obtain ⟨ab, cs, rfl, hcs, hms, hrs⟩ := hs
  unfold maxLen at *
  have hm := fun L k v hv => at_here (k := k) (v := v) hg L hv
  refine enter (args := [.pointer (some ⟨g, 0, none⟩), .int .i64 (n : Int)]) (n := 59) Try.func24 rfl rfl rfl ?_
  refine T_seq (T_region (TL_new rfl fun g4 => ?_))
  conv => arg 8; simp only [zA, zB, zC, zD, zE, zF, zG, zH, zI, rowS, ret, id_eq]
  repeat (first
    | refine qv rfl (qp rfl) rfl rfl ?_ | refine TL_nil ?_ | refine T_seq ?_ | refine T_region ?_ | refine qcT rfl ?_ | refine qcF rfl ?_ | refine T_skip ?_
    | refine T_exit ?_ | refine T_ret ?_ | refine T_block ?_ | refine E_then ?_ | refine E_thenX ?_ | refine E_thenR ?_ | refine E_blockN ?_
    | refine E_blockR ?_ | refine E_blockX ?_ | refine E_blockO rfl ?_ | refine qv rfl (qlen Und.eq rfl) rfl rfl ?_
    | refine qv rfl (qfld FldC.fld rfl rfl) rfl rfl ?_ | refine qv rfl (rr_nilc rfl) rfl rfl ?_ | refine qv rfl (rr_lss rfl rfl (qT (by omega))) rfl rfl ?_
    | refine qv rfl (rr_lss rfl rfl (qF (by omega))) rfl rfl ?_ | refine qv rfl (rr_eql rfl rfl (qT (by omega))) rfl rfl ?_
    | refine qv rfl (rr_eql rfl rfl (qF (by omega))) rfl rfl ?_ | refine qv rfl (rr_add64 rfl rfl (by omega) (by omega) rfl) rfl rfl ?_)
  refine TL_new rfl fun g5 => ?_
  conv => arg 8; simp only [zA, zB, zC, zD, zE, zF, zG, zH, zI, rowS, ret, id_eq]
  by_cases c0 : n = 0
  · subst c0
    repeat (first
      | refine qv rfl (qp rfl) rfl rfl ?_ | refine TL_nil ?_ | refine T_seq ?_ | refine T_region ?_ | refine qcT rfl ?_ | refine qcF rfl ?_ | refine T_skip ?_
      | refine T_exit ?_ | refine T_ret ?_ | refine T_block ?_ | refine E_then ?_ | refine E_thenX ?_ | refine E_thenR ?_ | refine E_blockN ?_
      | refine E_blockR ?_ | refine E_blockX ?_ | refine E_blockO rfl ?_ | refine qv rfl (rr_eql (b := true) rfl rfl (decide_eq_true (by simp))) rfl rfl ?_
      | refine qv rfl (rr_nilc rfl) rfl rfl ?_ | refine qv rfl (rr_load1 (v := .slice af m.first.length cf) TyC.ty rfl (hm _ 2 _ rfl)) rfl rfl ?_
      | refine qv rfl (qlen Und.eq rfl) rfl rfl ?_ | refine qv rfl (qfld FldC.fld rfl rfl) rfl rfl ?_ | refine qv rfl (rr_nilc rfl) rfl rfl ?_
      | refine qv rfl (rr_lss rfl rfl (qT (by omega))) rfl rfl ?_ | refine qv rfl (rr_lss rfl rfl (qF (by omega))) rfl rfl ?_
      | refine qv rfl (rr_eql rfl rfl (qT (by omega))) rfl rfl ?_ | refine qv rfl (rr_eql rfl rfl (qF (by omega))) rfl rfl ?_
      | refine qv rfl (rr_add64 rfl rfl (by omega) (by omega) rfl) rfl rfl ?_)
    refine T_loop (ι := Nat) (fun k => k ≤ m.first.length) (fun k => [(4, .pointer (some ⟨g4, 0, none⟩)), (5, .pointer (some ⟨g5, 0, none⟩)), (18, .slice af m.first.length cf), (19, .int .i64 m.first.length), (20, .int .i64 (k : Int))])
      (fun k => [blkO g4 (clsL C4.zero).toArray 76, blkO g5 (clsL (putAll C4.zero (m.first.take k))).toArray 76]) (fun k => m.first.length - k) 0 (Nat.zero_le _) (by repeat' (first | exact True.intro | refine And.intro rfl ?_)) rfl ?_
    intro k hk
    by_cases c1 : k < m.first.length
    · have hx := hfi _ (List.getElem_mem c1)
      have hst := put_step C4.zero m.first c1
      obtain ⟨bf, offf, rfl, hrfd⟩ := hrf (by omega)
      have hat := fun (L : List Own) => at_el (L := L) SmIn_len hrfd c1 0 _ rfl
      generalize m.first[k] = x at *
      generalize putAll C4.zero (m.first.take k) = c at *
      obtain ⟨xn, rfl⟩ := Int.eq_ofNat_of_zero_le hx.1
      rw [Int.toNat_natCast] at hst
      repeat (first
        | refine qv rfl (qp rfl) rfl rfl ?_ | refine TL_nil ?_ | refine T_seq ?_ | refine T_region ?_ | refine qcT rfl ?_ | refine qcF rfl ?_ | refine T_skip ?_
        | refine T_exit ?_ | refine T_ret ?_ | refine T_block ?_ | refine E_then ?_ | refine E_thenX ?_ | refine E_thenR ?_ | refine E_blockN ?_
        | refine E_blockR ?_ | refine E_blockX ?_ | refine E_blockO rfl ?_ | refine qv rfl (rr_idxc Und.eq TyC.ty rfl rfl c1) rfl rfl ?_
        | refine qv rfl (rr_load1 (v := .int .i64 (xn : Int)) TyC.ty rfl (hat _)) rfl rfl ?_ | refine qv rfl (qlen Und.eq rfl) rfl rfl ?_
        | refine qv rfl (qfld FldC.fld rfl rfl) rfl rfl ?_ | refine qv rfl (rr_nilc rfl) rfl rfl ?_ | refine qv rfl (rr_lss rfl rfl (qT (by omega))) rfl rfl ?_
        | refine qv rfl (rr_lss rfl rfl (qF (by omega))) rfl rfl ?_ | refine qv rfl (rr_eql rfl rfl (qT (by omega))) rfl rfl ?_
        | refine qv rfl (rr_eql rfl rfl (qF (by omega))) rfl rfl ?_ | refine qv rfl (rr_add64 rfl rfl (by omega) (by omega) rfl) rfl rfl ?_)
      refine TL_callB [1] [0] (by decide) rfl rfl (he2 EntersC.en rfl rfl rfl) (fun w hm hb => setPut_calls c xn (by omega) g5 w _ hb) rfl rfl rfl ?_
      intro _ _
      conv => arg 8; simp only [zA, zB, zC, zD, zE, zF, zG, zH, zI, rowS, ret, id_eq]
      repeat (first
        | refine qv rfl (qp rfl) rfl rfl ?_ | refine TL_nil ?_ | refine T_seq ?_ | refine T_region ?_ | refine qcT rfl ?_ | refine qcF rfl ?_ | refine T_skip ?_
        | refine T_exit ?_ | refine T_ret ?_ | refine T_block ?_ | refine E_then ?_ | refine E_thenX ?_ | refine E_thenR ?_ | refine E_blockN ?_
        | refine E_blockR ?_ | refine E_blockX ?_ | refine E_blockO rfl ?_ | refine qv rfl (qlen Und.eq rfl) rfl rfl ?_
        | refine qv rfl (qfld FldC.fld rfl rfl) rfl rfl ?_ | refine qv rfl (rr_nilc rfl) rfl rfl ?_ | refine qv rfl (rr_lss rfl rfl (qT (by omega))) rfl rfl ?_
        | refine qv rfl (rr_lss rfl rfl (qF (by omega))) rfl rfl ?_ | refine qv rfl (rr_eql rfl rfl (qT (by omega))) rfl rfl ?_
        | refine qv rfl (rr_eql rfl rfl (qF (by omega))) rfl rfl ?_ | refine qv rfl (rr_add64 rfl rfl (by omega) (by omega) rfl) rfl rfl ?_)
      exact E_round (k + 1) (by omega) (by show m.first.length - (k + 1) < m.first.length - k; omega) (by repeat' (first | exact True.intro | refine And.intro rfl ?_)) (by rw [hst])
    · obtain rfl : k = m.first.length := by omega
      rw [List.take_of_length_le (Nat.le_refl _)]
      unfold nextF
      generalize putAll C4.zero m.first = c at *
      repeat (first
        | refine qv rfl (qp rfl) rfl rfl ?_ | refine TL_nil ?_ | refine T_seq ?_ | refine T_region ?_ | refine qcT rfl ?_ | refine qcF rfl ?_ | refine T_skip ?_
        | refine T_exit ?_ | refine T_ret ?_ | refine T_block ?_ | refine E_then ?_ | refine E_thenX ?_ | refine E_thenR ?_ | refine E_blockN ?_
        | refine E_blockR ?_ | refine E_blockX ?_ | refine E_blockO rfl ?_ | refine qv rfl (rr_loadB (i := 1) TyC.ty rfl rfl rfl) rfl rfl ?_
        | refine qv rfl (qlen Und.eq rfl) rfl rfl ?_ | refine qv rfl (qfld FldC.fld rfl rfl) rfl rfl ?_ | refine qv rfl (rr_nilc rfl) rfl rfl ?_
        | refine qv rfl (rr_lss rfl rfl (qT (by omega))) rfl rfl ?_ | refine qv rfl (rr_lss rfl rfl (qF (by omega))) rfl rfl ?_
        | refine qv rfl (rr_eql rfl rfl (qT (by omega))) rfl rfl ?_ | refine qv rfl (rr_eql rfl rfl (qF (by omega))) rfl rfl ?_
        | refine qv rfl (rr_add64 rfl rfl (by omega) (by omega) rfl) rfl rfl ?_)
      refine TL_storeB (i := 0) (cs' := (clsL c).toArray) rfl rfl rfl rfl rfl rfl ?_
      conv => arg 8; simp only [zA, zB, zC, zD, zE, zF, zG, zH, zI, rowS, ret, id_eq]
      repeat (first
        | refine qv rfl (qp rfl) rfl rfl ?_ | refine TL_nil ?_ | refine T_seq ?_ | refine T_region ?_ | refine qcT rfl ?_ | refine qcF rfl ?_ | refine T_skip ?_
        | refine T_exit ?_ | refine T_ret ?_ | refine T_block ?_ | refine E_then ?_ | refine E_thenX ?_ | refine E_thenR ?_ | refine E_blockN ?_
        | refine E_blockR ?_ | refine E_blockX ?_ | refine E_blockO rfl ?_ | refine qv rfl (qlen Und.eq rfl) rfl rfl ?_
        | refine qv rfl (qfld FldC.fld rfl rfl) rfl rfl ?_ | refine qv rfl (rr_nilc rfl) rfl rfl ?_ | refine qv rfl (rr_lss rfl rfl (qT (by omega))) rfl rfl ?_
        | refine qv rfl (rr_lss rfl rfl (qF (by omega))) rfl rfl ?_ | refine qv rfl (rr_eql rfl rfl (qT (by omega))) rfl rfl ?_
        | refine qv rfl (rr_eql rfl rfl (qF (by omega))) rfl rfl ?_ | refine qv rfl (rr_add64 rfl rfl (by omega) (by omega) rfl) rfl rfl ?_)
      exact E_retc1 (i := 0) rfl rfl rfl rfl fun w hm => hm.ret
  · obtain ⟨q, rfl⟩ : ∃ q, n = q + 1 := ⟨n - 1, by omega⟩
    obtain ⟨bs, offs, rfl, hrsd⟩ := hrs (by omega)
    have hats := fun (L : List Own) => at_el (L := L) (f := clsL) (c := 4) (fun _ => rfl) (show Rd w bs offs ((C4.zero :: S).flatMap clsL) from hrsd) (k := q + 1) (by simp; omega)
    have hgd : S.getD q C4.zero = S[q]'(by omega) := by rw [List.getD_eq_getElem?_getD, List.getElem?_eq_getElem (by omega)]; rfl
    rw [show nextF m S (q + 1) = nextTo m.ps (S.getD q C4.zero) m.ps.follow.length from rfl, hgd]
    have hats : ∀ (L : List Own) (j : Nat) (u : Value), (clsL (S[q]'(by omega)))[j]? = some u → At (w : Base) L ⟨bs, offs + (q + 1) * 4 + j, none⟩ u := fun L j u hj => hats L j u hj
    clear hgd hrsd hrs hrf hfi
    generalize S[q]'(by omega) = s at *
    repeat (first
      | refine qv rfl (qp rfl) rfl rfl ?_ | refine TL_nil ?_ | refine T_seq ?_ | refine T_region ?_ | refine qcT rfl ?_ | refine qcF rfl ?_ | refine T_skip ?_
      | refine T_exit ?_ | refine T_ret ?_ | refine T_block ?_ | refine E_then ?_ | refine E_thenX ?_ | refine E_thenR ?_ | refine E_blockN ?_
      | refine E_blockR ?_ | refine E_blockX ?_ | refine E_blockO rfl ?_ | refine qv rfl (rr_eql (b := false) rfl rfl (decide_eq_false (by omega))) rfl rfl ?_
      | refine qv rfl (rr_nilc rfl) rfl rfl ?_ | refine qv rfl (rr_load1 (v := .slice ao m.ps.follow.length co) TyC.ty rfl (hm _ 3 _ rfl)) rfl rfl ?_
      | refine qv rfl (qlen Und.eq rfl) rfl rfl ?_ | refine qv rfl (qfld FldC.fld rfl rfl) rfl rfl ?_ | refine qv rfl (rr_nilc rfl) rfl rfl ?_
      | refine qv rfl (rr_lss rfl rfl (qT (by omega))) rfl rfl ?_ | refine qv rfl (rr_lss rfl rfl (qF (by omega))) rfl rfl ?_
      | refine qv rfl (rr_eql rfl rfl (qT (by omega))) rfl rfl ?_ | refine qv rfl (rr_eql rfl rfl (qF (by omega))) rfl rfl ?_
      | refine qv rfl (rr_add64 rfl rfl (by omega) (by omega) rfl) rfl rfl ?_)
    refine T_loop (ι := Nat) (fun k => k ≤ m.ps.follow.length) (fun k => [(0, .pointer (some ⟨g, 0, none⟩)), (1, .int .i64 ((q + 1 : Nat) : Int)), (4, .pointer (some ⟨g4, 0, none⟩)), (5, .pointer (some ⟨g5, 0, none⟩)), (32, .slice ao m.ps.follow.length co), (33, .int .i64 m.ps.follow.length), (34, .int .i64 (k : Int))])
      (fun k => [blkO g4 (clsL C4.zero).toArray 76, blkO g5 (clsL (nextTo m.ps s k)).toArray 76]) (fun k => m.ps.follow.length - k) 0 (Nat.zero_le _) (by repeat' (first | exact True.intro | refine And.intro rfl ?_)) rfl ?_
    intro k hk
    by_cases c1 : k < m.ps.follow.length
    · obtain ⟨bo, offo, rfl, _, hrod⟩ := hro (by omega)
      obtain ⟨u, hu, hd⟩ := fol_at hrod c1
      have hatf := fun (L : List Own) => at_rd (L := L) hd (j := 0) (v := u) rfl
      have hrx := (hri _ (List.getElem_mem c1)).2
      have hgd : m.ps.follow.getD k [] = m.ps.follow[k] := by rw [List.getD_eq_getElem?_getD, List.getElem?_eq_getElem c1]; rfl
      have hst : nextTo m.ps s (k + 1) = if s.mem k = true then putAll (nextTo m.ps s k) m.ps.follow[k] else nextTo m.ps s k := by rw [nextTo, hgd]
      clear hgd
      obtain ⟨au, cu, rfl, _, hmu, hru⟩ := hu
      unfold maxLen at hmu
      generalize m.ps.follow[k] = l at *
      generalize nextTo m.ps s k = c at *
      repeat (first
        | refine qv rfl (qp rfl) rfl rfl ?_ | refine TL_nil ?_ | refine T_seq ?_ | refine T_region ?_ | refine qcT rfl ?_ | refine qcF rfl ?_ | refine T_skip ?_
        | refine T_exit ?_ | refine T_ret ?_ | refine T_block ?_ | refine E_then ?_ | refine E_thenX ?_ | refine E_thenR ?_ | refine E_blockN ?_
        | refine E_blockR ?_ | refine E_blockX ?_ | refine E_blockO rfl ?_ | refine qv rfl (rr_idxc Und.eq TyC.ty rfl rfl c1) rfl rfl ?_
        | refine qv rfl (rr_load1 (v := .slice au l.length cu) TyC.ty rfl (hatf _)) rfl rfl ?_ | refine qv rfl (rr_nilc rfl) rfl rfl ?_
        | refine qv rfl (rr_load1 (v := .slice (some ⟨bs, offs, none⟩) (S.length + 1) cs) TyC.ty rfl (hm _ 6 _ rfl)) rfl rfl ?_
        | refine qv rfl (rr_idxc (j := q + 1) Und.eq TyC.ty rfl rfl (by omega)) rfl rfl ?_
        | refine qv rfl (rr_loadN (cs := clsL s) TyC.ty rfl rfl (hats _)) rfl rfl ?_ | refine qv rfl (qlen Und.eq rfl) rfl rfl ?_
        | refine qv rfl (qfld FldC.fld rfl rfl) rfl rfl ?_ | refine qv rfl (rr_nilc rfl) rfl rfl ?_ | refine qv rfl (rr_lss rfl rfl (qT (by omega))) rfl rfl ?_
        | refine qv rfl (rr_lss rfl rfl (qF (by omega))) rfl rfl ?_ | refine qv rfl (rr_eql rfl rfl (qT (by omega))) rfl rfl ?_
        | refine qv rfl (rr_eql rfl rfl (qF (by omega))) rfl rfl ?_ | refine qv rfl (rr_add64 rfl rfl (by omega) (by omega) rfl) rfl rfl ?_)
      have hhas := fun w => setHas_calls s k (by omega) w
      generalize hb : s.mem k = b at *
      refine TL_call (he2 EntersC.en rfl rfl rfl) (fun w hm => hhas w) rfl rfl rfl ?_
      intro _ _
      conv => arg 8; simp only [zA, zB, zC, zD, zE, zF, zG, zH, zI, rowS, ret, id_eq]
      by_cases c2 : b = true
      · subst c2
        rw [if_pos rfl] at hst
        repeat (first
          | refine qv rfl (qp rfl) rfl rfl ?_ | refine TL_nil ?_ | refine T_seq ?_ | refine T_region ?_ | refine qcT rfl ?_ | refine qcF rfl ?_ | refine T_skip ?_
          | refine T_exit ?_ | refine T_ret ?_ | refine T_block ?_ | refine E_then ?_ | refine E_thenX ?_ | refine E_thenR ?_ | refine E_blockN ?_
          | refine E_blockR ?_ | refine E_blockX ?_ | refine E_blockO rfl ?_ | refine qv rfl (qlen Und.eq rfl) rfl rfl ?_
          | refine qv rfl (qfld FldC.fld rfl rfl) rfl rfl ?_ | refine qv rfl (rr_nilc rfl) rfl rfl ?_ | refine qv rfl (rr_lss rfl rfl (qT (by omega))) rfl rfl ?_
          | refine qv rfl (rr_lss rfl rfl (qF (by omega))) rfl rfl ?_ | refine qv rfl (rr_eql rfl rfl (qT (by omega))) rfl rfl ?_
          | refine qv rfl (rr_eql rfl rfl (qF (by omega))) rfl rfl ?_ | refine qv rfl (rr_add64 rfl rfl (by omega) (by omega) rfl) rfl rfl ?_)
        refine T_loop (ι := Nat) (fun j => j ≤ l.length) (fun j => [(0, .pointer (some ⟨g, 0, none⟩)), (1, .int .i64 ((q + 1 : Nat) : Int)), (4, .pointer (some ⟨g4, 0, none⟩)), (5, .pointer (some ⟨g5, 0, none⟩)), (32, .slice (some ⟨bo, offo, none⟩) m.ps.follow.length co), (33, .int .i64 m.ps.follow.length), (34, .int .i64 (k : Int)), (48, .slice au l.length cu), (49, .int .i64 l.length), (50, .int .i64 (j : Int))])
          (fun j => [blkO g4 (clsL C4.zero).toArray 76, blkO g5 (clsL (putAll c (l.take j))).toArray 76]) (fun j => l.length - j) 0 (Nat.zero_le _) (by repeat' (first | exact True.intro | refine And.intro rfl ?_)) rfl ?_
        intro j hj
        by_cases c3 : j < l.length
        · have hx := hrx _ (List.getElem_mem c3)
          have hst2 := put_step c l c3
          obtain ⟨bf, offf, rfl, hrfd⟩ := hru (by omega)
          have hat := fun (L : List Own) => at_el (L := L) SmIn_len hrfd c3 0 _ rfl
          generalize l[j] = x at *
          generalize putAll c (l.take j) = c' at *
          obtain ⟨xn, rfl⟩ := Int.eq_ofNat_of_zero_le hx.1
          rw [Int.toNat_natCast] at hst2
          repeat (first
            | refine qv rfl (qp rfl) rfl rfl ?_ | refine TL_nil ?_ | refine T_seq ?_ | refine T_region ?_ | refine qcT rfl ?_ | refine qcF rfl ?_ | refine T_skip ?_
            | refine T_exit ?_ | refine T_ret ?_ | refine T_block ?_ | refine E_then ?_ | refine E_thenX ?_ | refine E_thenR ?_ | refine E_blockN ?_
            | refine E_blockR ?_ | refine E_blockX ?_ | refine E_blockO rfl ?_ | refine qv rfl (rr_idxc Und.eq TyC.ty rfl rfl c3) rfl rfl ?_
            | refine qv rfl (rr_load1 (v := .int .i64 (xn : Int)) TyC.ty rfl (hat _)) rfl rfl ?_ | refine qv rfl (qlen Und.eq rfl) rfl rfl ?_
            | refine qv rfl (qfld FldC.fld rfl rfl) rfl rfl ?_ | refine qv rfl (rr_nilc rfl) rfl rfl ?_ | refine qv rfl (rr_lss rfl rfl (qT (by omega))) rfl rfl ?_
            | refine qv rfl (rr_lss rfl rfl (qF (by omega))) rfl rfl ?_ | refine qv rfl (rr_eql rfl rfl (qT (by omega))) rfl rfl ?_
            | refine qv rfl (rr_eql rfl rfl (qF (by omega))) rfl rfl ?_ | refine qv rfl (rr_add64 rfl rfl (by omega) (by omega) rfl) rfl rfl ?_)
          refine TL_callB [1] [0] (by decide) rfl rfl (he2 EntersC.en rfl rfl rfl) (fun w hm hb => setPut_calls c' xn (by omega) g5 w _ hb) rfl rfl rfl ?_
          intro _ _
          conv => arg 8; simp only [zA, zB, zC, zD, zE, zF, zG, zH, zI, rowS, ret, id_eq]
          repeat (first
            | refine qv rfl (qp rfl) rfl rfl ?_ | refine TL_nil ?_ | refine T_seq ?_ | refine T_region ?_ | refine qcT rfl ?_ | refine qcF rfl ?_ | refine T_skip ?_
            | refine T_exit ?_ | refine T_ret ?_ | refine T_block ?_ | refine E_then ?_ | refine E_thenX ?_ | refine E_thenR ?_ | refine E_blockN ?_
            | refine E_blockR ?_ | refine E_blockX ?_ | refine E_blockO rfl ?_ | refine qv rfl (qlen Und.eq rfl) rfl rfl ?_
            | refine qv rfl (qfld FldC.fld rfl rfl) rfl rfl ?_ | refine qv rfl (rr_nilc rfl) rfl rfl ?_ | refine qv rfl (rr_lss rfl rfl (qT (by omega))) rfl rfl ?_
            | refine qv rfl (rr_lss rfl rfl (qF (by omega))) rfl rfl ?_ | refine qv rfl (rr_eql rfl rfl (qT (by omega))) rfl rfl ?_
            | refine qv rfl (rr_eql rfl rfl (qF (by omega))) rfl rfl ?_ | refine qv rfl (rr_add64 rfl rfl (by omega) (by omega) rfl) rfl rfl ?_)
          exact E_round (j + 1) (by omega) (by show l.length - (j + 1) < l.length - j; omega) (by repeat' (first | exact True.intro | refine And.intro rfl ?_)) (by rw [hst2])
        · obtain rfl : j = l.length := by omega
          rw [List.take_of_length_le (Nat.le_refl _)]
          repeat (first
            | refine qv rfl (qp rfl) rfl rfl ?_ | refine TL_nil ?_ | refine T_seq ?_ | refine T_region ?_ | refine qcT rfl ?_ | refine qcF rfl ?_ | refine T_skip ?_
            | refine T_exit ?_ | refine T_ret ?_ | refine T_block ?_ | refine E_then ?_ | refine E_thenX ?_ | refine E_thenR ?_ | refine E_blockN ?_
            | refine E_blockR ?_ | refine E_blockX ?_ | refine E_blockO rfl ?_ | refine qv rfl (qlen Und.eq rfl) rfl rfl ?_
            | refine qv rfl (qfld FldC.fld rfl rfl) rfl rfl ?_ | refine qv rfl (rr_nilc rfl) rfl rfl ?_ | refine qv rfl (rr_lss rfl rfl (qT (by omega))) rfl rfl ?_
            | refine qv rfl (rr_lss rfl rfl (qF (by omega))) rfl rfl ?_ | refine qv rfl (rr_eql rfl rfl (qT (by omega))) rfl rfl ?_
            | refine qv rfl (rr_eql rfl rfl (qF (by omega))) rfl rfl ?_ | refine qv rfl (rr_add64 rfl rfl (by omega) (by omega) rfl) rfl rfl ?_)
          exact E_round (k + 1) (by omega) (by show m.ps.follow.length - (k + 1) < m.ps.follow.length - k; omega) (by repeat' (first | exact True.intro | refine And.intro rfl ?_)) (by rw [hst])
      · rw [if_neg c2] at hst
        obtain rfl := Bool.eq_false_iff.2 c2
        repeat (first
          | refine qv rfl (qp rfl) rfl rfl ?_ | refine TL_nil ?_ | refine T_seq ?_ | refine T_region ?_ | refine qcT rfl ?_ | refine qcF rfl ?_ | refine T_skip ?_
          | refine T_exit ?_ | refine T_ret ?_ | refine T_block ?_ | refine E_then ?_ | refine E_thenX ?_ | refine E_thenR ?_ | refine E_blockN ?_
          | refine E_blockR ?_ | refine E_blockX ?_ | refine E_blockO rfl ?_ | refine qv rfl (qlen Und.eq rfl) rfl rfl ?_
          | refine qv rfl (qfld FldC.fld rfl rfl) rfl rfl ?_ | refine qv rfl (rr_nilc rfl) rfl rfl ?_ | refine qv rfl (rr_lss rfl rfl (qT (by omega))) rfl rfl ?_
          | refine qv rfl (rr_lss rfl rfl (qF (by omega))) rfl rfl ?_ | refine qv rfl (rr_eql rfl rfl (qT (by omega))) rfl rfl ?_
          | refine qv rfl (rr_eql rfl rfl (qF (by omega))) rfl rfl ?_ | refine qv rfl (rr_add64 rfl rfl (by omega) (by omega) rfl) rfl rfl ?_)
        exact E_round (k + 1) (by omega) (by show m.ps.follow.length - (k + 1) < m.ps.follow.length - k; omega) (by repeat' (first | exact True.intro | refine And.intro rfl ?_)) (by rw [hst])
    · obtain rfl : k = m.ps.follow.length := by omega
      generalize nextTo m.ps s m.ps.follow.length = c at *
      repeat (first
        | refine qv rfl (qp rfl) rfl rfl ?_ | refine TL_nil ?_ | refine T_seq ?_ | refine T_region ?_ | refine qcT rfl ?_ | refine qcF rfl ?_ | refine T_skip ?_
        | refine T_exit ?_ | refine T_ret ?_ | refine T_block ?_ | refine E_then ?_ | refine E_thenX ?_ | refine E_thenR ?_ | refine E_blockN ?_
        | refine E_blockR ?_ | refine E_blockX ?_ | refine E_blockO rfl ?_ | refine qv rfl (rr_loadB (i := 1) TyC.ty rfl rfl rfl) rfl rfl ?_
        | refine qv rfl (qlen Und.eq rfl) rfl rfl ?_ | refine qv rfl (qfld FldC.fld rfl rfl) rfl rfl ?_ | refine qv rfl (rr_nilc rfl) rfl rfl ?_
        | refine qv rfl (rr_lss rfl rfl (qT (by omega))) rfl rfl ?_ | refine qv rfl (rr_lss rfl rfl (qF (by omega))) rfl rfl ?_
        | refine qv rfl (rr_eql rfl rfl (qT (by omega))) rfl rfl ?_ | refine qv rfl (rr_eql rfl rfl (qF (by omega))) rfl rfl ?_
        | refine qv rfl (rr_add64 rfl rfl (by omega) (by omega) rfl) rfl rfl ?_)
      refine TL_storeB (i := 0) (cs' := (clsL c).toArray) rfl rfl rfl rfl rfl rfl ?_
      conv => arg 8; simp only [zA, zB, zC, zD, zE, zF, zG, zH, zI, rowS, ret, id_eq]
      repeat (first
        | refine qv rfl (qp rfl) rfl rfl ?_ | refine TL_nil ?_ | refine T_seq ?_ | refine T_region ?_ | refine qcT rfl ?_ | refine qcF rfl ?_ | refine T_skip ?_
        | refine T_exit ?_ | refine T_ret ?_ | refine T_block ?_ | refine E_then ?_ | refine E_thenX ?_ | refine E_thenR ?_ | refine E_blockN ?_
        | refine E_blockR ?_ | refine E_blockX ?_ | refine E_blockO rfl ?_ | refine qv rfl (qlen Und.eq rfl) rfl rfl ?_
        | refine qv rfl (qfld FldC.fld rfl rfl) rfl rfl ?_ | refine qv rfl (rr_nilc rfl) rfl rfl ?_ | refine qv rfl (rr_lss rfl rfl (qT (by omega))) rfl rfl ?_
        | refine qv rfl (rr_lss rfl rfl (qF (by omega))) rfl rfl ?_ | refine qv rfl (rr_eql rfl rfl (qT (by omega))) rfl rfl ?_
        | refine qv rfl (rr_eql rfl rfl (qF (by omega))) rfl rfl ?_ | refine qv rfl (rr_add64 rfl rfl (by omega) (by omega) rfl) rfl rfl ?_)
      exact E_retc1 (i := 0) rfl rfl rfl rfl fun w hm => hm.ret
end Go.Proofs.Ytknojgjdaafboaa.eng

/- LookOk -/
namespace Go.Proofs.Ytknojgjdaafboaa.eng
open Go.RowKit kit mix
section
variable {P : Program} {k : TypeId} {κ : Type} (K : KeyT P k κ)
variable {n : Nat} {W : Base} {fr : Fr} {L : List Own} {dst : Option Tmp} {ty : TypeId} {pos : String} {after : Array Edge} {guard : Option (Nat × Bool)} {i g c : Nat} {t e : TypeId} {m : κ → Option Value} {x : κ} {z v : Value} {xm xk : Operand}
theorem rr_lookOkS (ht : P.underlying t = some (.map k e)) (hz : ∀ w, (zeroValue e).run P w = .ok z w) (hi : L[i]? = some (mapO K g m c)) (hm : ev fr xm = some (.map (some g))) (hk : ev fr xk = some (K.kv x)) (hx : K.ok x) (hv : m x = some v) : RR P n W ⟨dst, .lookup t xm xk true, ty, pos, after, guard⟩ fr L (.tuple #[v, .bool true]) := by
  have := rr_lookOk K (n := n) (W := W) (dst := dst) (ty := ty) (pos := pos) (after := after) (guard := guard) ht hz hi hm hk hx
  rw [hv] at this; exact this
theorem rr_lookOkN (ht : P.underlying t = some (.map k e)) (hz : ∀ w, (zeroValue e).run P w = .ok z w) (hi : L[i]? = some (mapO K g m c)) (hm : ev fr xm = some (.map (some g))) (hk : ev fr xk = some (K.kv x)) (hx : K.ok x) (hv : m x = none) : RR P n W ⟨dst, .lookup t xm xk true, ty, pos, after, guard⟩ fr L (.tuple #[z, .bool false]) := by
  have := rr_lookOk K (n := n) (W := W) (dst := dst) (ty := ty) (pos := pos) (after := after) (guard := guard) ht hz hi hm hk hx
  rw [hv] at this; exact this
end
end Go.Proofs.Ytknojgjdaafboaa.eng

/- DfT -/
namespace Go.Proofs.Ytknojgjdaafboaa.eng
open Go.RowKit kit mix classL rexL placesL dfaP smallL
theorem setLaid : laidOutB Try.prog = true := by kernel_rfl
theorem setRow : (76 : TypeId) < Try.prog.types.size := of_decide_eq_true (by kernel_rfl)
theorem setWide : (match Try.prog.underlying 76 with | some (.array _ _) | some (.struct _) => true | _ => false) = true := by kernel_rfl
theorem set_key (x : C4) : ∃ l, keyOf Try.prog 76 (clsV x) = some l := by
  obtain ⟨a, b, c, d⟩ := x
  have e1 : Try.prog.keyType 76 = true := by kernel_rfl
  have e2 : Try.prog.cellsOf 76 = 4 := by kernel_rfl
  have e3 : Try.prog.cellsOf 29 = 1 := by kernel_rfl
  have e4 : ∃ d, Try.prog.types.size + 1 = d + 2 := ⟨Try.prog.types.size - 1, by have : 0 < Try.prog.types.size := Nat.lt_of_le_of_lt (Nat.zero_le 76) setRow; omega⟩
  obtain ⟨dd, e4⟩ := e4
  have key : ∀ v : BitVec 64, Try.prog.keyLits (dd + 1) 29 [.int .u64 (n64 v)] = some [.int .u64 (n64 v)] := fun v => by
    have hw : (Lit.int .u64 (n64 v)).wf = true := by
      have h0 := n64_lo v
      have h1 := n64_hi v
      simp [Lit.wf, IntKind.min, IntKind.max, IntKind.signed, IntKind.bits, h0, h1]
    simp [Program.keyLits, Try.underlying29, hw]
  have hl : Try.prog.keyLits (dd + 2) 76 [.int .u64 (n64 a), .int .u64 (n64 b), .int .u64 (n64 c), .int .u64 (n64 d)] = some [.int .u64 (n64 a), .int .u64 (n64 b), .int .u64 (n64 c), .int .u64 (n64 d)] := by
    unfold Program.keyLits
    simp [Try.underlying76, e2, e3, List.range_succ_eq_map, key]
  have hf : (clsV ⟨a, b, c, d⟩).formed Try.prog 76 = true := by simp [clsV, Value.formed, Try.underlying76, e2]
  unfold keyOf
  rw [Try.underlying76]
  refine ⟨.string (keyBytes ([.int .u64 (n64 a), .int .u64 (n64 b), .int .u64 (n64 c), .int .u64 (n64 d)])), ?_⟩
  show (if (Try.prog.keyType 76 && (clsV ⟨a, b, c, d⟩).formed Try.prog 76) = true then (Try.prog.keyLits (Try.prog.types.size + 1) 76 [.int .u64 (n64 a), .int .u64 (n64 b), .int .u64 (n64 c), .int .u64 (n64 d)]).map (fun ls => Lit.string (keyBytes ls)) else none) = _
  rw [e1, hf, e4, hl]
  rfl
set_option maxRecDepth 100000 in
/-- sets as keys -/
def setK : KeyT Try.prog 76 C4 where
  kv := clsV
  ok _ := True
  law := deep_law_laid setLaid (m := 2) (by omega) setRow (by kernel_rfl) setWide
  key x _ := set_key x
  inj x y h := by
    simp only [clsV, Value.agg.injEq, Array.mk.injEq, List.cons.injEq, Value.int.injEq, true_and, and_true] at h
    exact C4.ext' (n64_inj h.1) (n64_inj h.2.1) (n64_inj h.2.2.1) (n64_inj h.2.2.2)
theorem zeroIntD (w : World) : (zeroValue 3).run Try.prog w = .ok (.int .i64 0) w := by kernel_rfl
/-- numbered from 1 on -/
def mapAt1 (D : List C4) (x : C4) : Option Value := if x ∈ D then some (.int .i64 ((idx D x + 1 : Nat) : Int)) else none
theorem mapAt1_add {D : List C4} {x : C4} (hn : x ∉ D) : (fun y => if y = x then some (.int .i64 ((D.length + 1 : Nat) : Int)) else mapAt1 D y) = mapAt1 (D ++ [x]) := by
  funext y
  unfold mapAt1
  by_cases c : y = x
  · subst c
    rw [if_pos rfl, if_pos (by simp)]
    have := idx_more (D := D) (k := y)
    unfold more at this
    rw [if_neg hn, if_neg hn] at this
    rw [this]
  · rw [if_neg c]
    by_cases c2 : y ∈ D
    · rw [if_pos c2, if_pos (List.mem_append_left _ c2), idx_pre c2]
    · rw [if_neg c2, if_neg (by simp [c, c2])]
theorem mapAt1_nil : (fun (_ : C4) => (none : Option Value)) = mapAt1 [] := by funext y; unfold mapAt1; rw [if_neg (by simp)]
abbrev setsO (vs : Value) (S : List C4) : Own := rowO 76 4 vs (S.length + 1) (setL S)
abbrev numO (gm : Nat) (S : List C4) : Own := mapO setK gm (mapAt1 S) S.length
/-- the maker and what it has -/
def dmL (vc vr vf vfol vl ve rows : Value) (g gm : Nat) (vs vt : Value) (d : DM) : List Own :=
  [blkO g (dmC vc vr vf vfol vl ve vs (.map (some gm)) rows vt) 63, setsO vs d.S, numO gm d.S, intR vt d.tags]
def stSp (p : PS) (vc vr vf vfol vl ve rows : Value) (g gm : Nat) (d : DM) (s : C4) : Spec (Value × Value) :=
  ⟨fun _ => True, fun _ => .int .i64 ((stateF p d s).1 : Int), fun x => dmL vc vr vf vfol vl ve rows g gm x.1 x.2 (stateF p d s).2⟩
theorem int_snoc (v : Value) (l : List Int) (x : Int) : intR v (l ++ [x]) = rowO 3 1 v (l.length + 1) (l.map (Value.int .i64) ++ [.int .i64 x]) := by
  unfold intR; rw [List.length_append, List.map_append]; rfl
theorem setL_snoc (S : List C4) (s : C4) : setL (S ++ [s]) = setL S ++ clsL s := by
  unfold setL
  rw [← List.cons_append, List.flatMap_append]; simp
theorem set_one (s : C4) : ∀ u ∈ clsL s, u.oneCell' = true := by
  intro u h
  simp only [clsL, List.mem_cons, List.not_mem_nil, or_false] at h
  rcases h with rfl | rfl | rfl | rfl <;> rfl
theorem tag_step (p : PS) (s : C4) (i : Nat) : tagTo p s (i + 1) = if s.mem i = true ∧ p.last.getD i false = true ∧ (tagTo p s i < 0 ∨ p.rules.getD i 0 < tagTo p s i) then p.rules.getD i 0 else tagTo p s i := rfl
theorem numO_add {S : List C4} {s : C4} {gm : Nat} (hn : s ∉ S) : mapO setK gm (fun y => if y = s then some (.int .i64 ((S.length + 1 : Nat) : Int)) else mapAt1 S y) (if (mapAt1 S s).isSome then S.length else S.length + 1) = numO gm (S ++ [s]) := by
  rw [mapAt1_add hn, show mapAt1 S s = none from if_neg hn]
  unfold numO
  rw [List.length_append]; rfl
attribute [local irreducible] Op.shift Go.bits in
set_option maxHeartbeats 8000000 in
theorem dfaState_calls (m : MS) (vc vr vf vfol vl ve rows : Value) (d : DM) (s : C4) (g gm : Nat) (vs vt : Value) (w0 : World) (hp : PosR w0 (.agg #[vc, vr, vf, vfol, vl, ve]) m) (h : MOkP m) (hd : d.S.length ≤ 100000) (hdt : d.tags.length ≤ 100001) (w : World) (B : Base) (ho : Old w0 B)
    (hm : Mem B (dmL vc vr vf vfol vl ve rows g gm vs vt d) w) :
    Calls Try.prog 28 #[.pointer (some ⟨g, 0, none⟩), clsV s] w (MeetsB (stSp m.ps vc vr vf vfol vl ve rows g gm d s) B) := by
  obtain ⟨_, _, _, _, _, _, he, h1, h2, h3, h4, h5, h6⟩ := hp
  simp only [Value.agg.injEq, Array.mk.injEq, List.cons.injEq, and_true] at he
  obtain ⟨rfl, rfl, rfl, rfl, rfl, rfl⟩ := he
  have hmf := h.few
  have hlr := h.ok.ps.rules
  have hll := h.ok.ps.last
  have hmr := h.rules
  clear h h3 h4 h6
  obtain ⟨ac, cc, rfl, -⟩ := h1
  obtain ⟨ar, cr, rfl, -, hmar, hrr⟩ := h2
  obtain ⟨al, cl, rfl, -, hmal, hrl⟩ := h5
  unfold dmL at hm
  unfold stSp
  obtain ⟨S, tags⟩ := d
  obtain ⟨p, fi, em⟩ := m
  dsimp only at *
  refine enterB hm (args := [.pointer (some ⟨g, 0, none⟩), clsV s]) (n := 105) Try.func28 rfl rfl rfl ?_
  clear hm
  refine T_seq (T_region (TL_box rfl rfl rfl fun g3 => ?_))
  conv => arg 8; simp only [zA, zB, zC, zD, zE, zF, zG, zH, zI, rowS, ret, id_eq]
  by_cases c1 : s ∈ S
  · have hst : stateF p ⟨S, tags⟩ s = (idx S s + 1, ⟨S, tags⟩) := if_pos c1
    have hlk : mapAt1 S s = some (.int .i64 ((idx S s + 1 : Nat) : Int)) := if_pos c1
    rw [hst]
    repeat (first
      | refine qv rfl (qp rfl) rfl rfl ?_ | refine TL_nil ?_ | refine T_seq ?_ | refine T_region ?_ | refine qcT rfl ?_ | refine qcF rfl ?_ | refine T_skip ?_
      | refine T_exit ?_ | refine T_ret ?_ | refine T_block ?_ | refine E_then ?_ | refine E_thenX ?_ | refine E_thenR ?_ | refine E_blockN ?_
      | refine E_blockR ?_ | refine E_blockX ?_ | refine E_blockO rfl ?_ | refine qs rfl rfl rfl rfl rfl rfl ?_
      | ((try refine qg rfl rfl rfl ?_); first | refine qv rfl (qp rfl) rfl rfl ?_ | refine qv rfl (qlen Und.eq rfl) rfl rfl ?_ | refine qv rfl (qfld FldC.fld rfl rfl) rfl rfl ?_ | refine qv rfl (rr_nilc rfl) rfl rfl ?_ | refine qv rfl (rr_lss rfl rfl (qT (by omega))) rfl rfl ?_ | refine qv rfl (rr_lss rfl rfl (qF (by omega))) rfl rfl ?_ | refine qv rfl (rr_add64 rfl rfl (by omega) (by omega) rfl) rfl rfl ?_ | refine qv rfl (rr_sub64 rfl rfl (by omega) (by omega) rfl) rfl rfl ?_))
    refine T_ord ([blkO g (dmC (.slice ac p.classes.length cc) (.slice ar p.rules.length cr) vf vfol (.slice al p.last.length cl) ve vs (.map (some gm)) rows vt) 63, numO gm S, blkO g3 (clsL s).toArray 76]) (.calm 0 (.calm 1 (.calm 2 (.calm 3 (.calm 4 (.calm 5 (.calm 6 (.calm 7 (.calm 8 (.calm 9 (.calm 10 (.done)))))))))))) (sub_pick [0, 2, 4] (by decide) rfl) (by kernel_rfl) (by kernel_rfl) (by intro c a d v w h; cases d <;> exact h) ?_
    repeat (first
      | ((first | refine TW_plain rfl rfl ?_ | refine TW_gmet rfl rfl rfl rfl ?_); first | refine TN_val (qp rfl) rfl rfl ?_ | refine TN_val (rr_nilc rfl) rfl rfl ?_ | refine TN_val (rr_load1 (v := .map (some gm)) TyC.ty rfl (at_blk (i := 0) rfl rfl)) rfl rfl ?_ | refine TN_val (rr_loadB (i := 2) TyC.ty rfl rfl rfl) rfl rfl ?_ | refine TN_val (rr_lookOkS setK (x := s) Und.eq zeroIntD (i := 1) rfl rfl rfl trivial hlk) rfl rfl ?_ | refine TN_val (qlen Und.eq rfl) rfl rfl ?_ | refine TN_val (qfld FldC.fld rfl rfl) rfl rfl ?_ | refine TN_val (rr_nilc rfl) rfl rfl ?_ | refine TN_val (rr_lss rfl rfl (qT (by omega))) rfl rfl ?_ | refine TN_val (rr_lss rfl rfl (qF (by omega))) rfl rfl ?_ | refine TN_val (rr_add64 rfl rfl (by omega) (by omega) rfl) rfl rfl ?_ | refine TN_val (rr_sub64 rfl rfl (by omega) (by omega) rfl) rfl rfl ?_)
      | refine TW_skip rfl rfl rfl rfl rfl rfl rfl ?_ | refine TW_done ?_)
    repeat (first
      | refine qv rfl (qp rfl) rfl rfl ?_ | refine TL_nil ?_ | refine T_seq ?_ | refine T_region ?_ | refine qcT rfl ?_ | refine qcF rfl ?_ | refine T_skip ?_
      | refine T_exit ?_ | refine T_ret ?_ | refine T_block ?_ | refine E_then ?_ | refine E_thenX ?_ | refine E_thenR ?_ | refine E_blockN ?_
      | refine E_blockR ?_ | refine E_blockX ?_ | refine E_blockO rfl ?_ | refine qs rfl rfl rfl rfl rfl rfl ?_
      | ((try refine qg rfl rfl rfl ?_); first | refine qv rfl (qp rfl) rfl rfl ?_ | refine qv rfl (qlen Und.eq rfl) rfl rfl ?_ | refine qv rfl (qfld FldC.fld rfl rfl) rfl rfl ?_ | refine qv rfl (rr_nilc rfl) rfl rfl ?_ | refine qv rfl (rr_lss rfl rfl (qT (by omega))) rfl rfl ?_ | refine qv rfl (rr_lss rfl rfl (qF (by omega))) rfl rfl ?_ | refine qv rfl (rr_add64 rfl rfl (by omega) (by omega) rfl) rfl rfl ?_ | refine qv rfl (rr_sub64 rfl rfl (by omega) (by omega) rfl) rfl rfl ?_))
    refine E_pick [0, 1, 2, 3] (by decide) rfl ?_
    exact E_ret1 rfl rfl fun w hm => hm.meetsB (S := ⟨fun (_ : Value × Value) => True, fun _ => .int .i64 ((idx S s + 1 : Nat) : Int), fun x => dmL (.slice ac p.classes.length cc) (.slice ar p.rules.length cr) vf vfol (.slice al p.last.length cl) ve rows g gm x.1 x.2 ⟨S, tags⟩⟩) (vs, vt) trivial [0, 1, 2, 3] (by decide) rfl
  · have hst : stateF p ⟨S, tags⟩ s = (S.length + 1, ⟨S ++ [s], tags ++ [tagF p s]⟩) := if_neg c1
    have hlk : mapAt1 S s = none := if_neg c1
    rw [hst]
    refine TL_know (i := 1) rfl row_slm fun hrow => ?_
    obtain ⟨ab, cs, rfl, hmS, -⟩ := hrow
    repeat (first
      | refine qv rfl (qp rfl) rfl rfl ?_ | refine TL_nil ?_ | refine T_seq ?_ | refine T_region ?_ | refine qcT rfl ?_ | refine qcF rfl ?_ | refine T_skip ?_
      | refine T_exit ?_ | refine T_ret ?_ | refine T_block ?_ | refine E_then ?_ | refine E_thenX ?_ | refine E_thenR ?_ | refine E_blockN ?_
      | refine E_blockR ?_ | refine E_blockX ?_ | refine E_blockO rfl ?_ | refine qs rfl rfl rfl rfl rfl rfl ?_
      | ((try refine qg rfl rfl rfl ?_); first | refine qv rfl (qp rfl) rfl rfl ?_ | refine qv rfl (qlen Und.eq rfl) rfl rfl ?_ | refine qv rfl (qfld FldC.fld rfl rfl) rfl rfl ?_ | refine qv rfl (rr_nilc rfl) rfl rfl ?_ | refine qv rfl (rr_lss rfl rfl (qT (by omega))) rfl rfl ?_ | refine qv rfl (rr_lss rfl rfl (qF (by omega))) rfl rfl ?_ | refine qv rfl (rr_add64 rfl rfl (by omega) (by omega) rfl) rfl rfl ?_ | refine qv rfl (rr_sub64 rfl rfl (by omega) (by omega) rfl) rfl rfl ?_))
    refine T_ord ([blkO g (dmC (.slice ac p.classes.length cc) (.slice ar p.rules.length cr) vf vfol (.slice al p.last.length cl) ve (.slice ab (S.length + 1) cs) (.map (some gm)) rows vt) 63, numO gm S, blkO g3 (clsL s).toArray 76]) (.calm 0 (.calm 1 (.calm 2 (.calm 3 (.calm 4 (.calm 5 (.calm 6 (.calm 7 (.calm 8 (.calm 9 (.calm 10 (.done)))))))))))) (sub_pick [0, 2, 4] (by decide) rfl) (by kernel_rfl) (by kernel_rfl) (by intro c a d v w h; cases d <;> exact h) ?_
    repeat (first
      | ((first | refine TW_plain rfl rfl ?_ | refine TW_gmet rfl rfl rfl rfl ?_); first | refine TN_val (qp rfl) rfl rfl ?_ | refine TN_val (rr_nilc rfl) rfl rfl ?_ | refine TN_val (rr_load1 (v := .map (some gm)) TyC.ty rfl (at_blk (i := 0) rfl rfl)) rfl rfl ?_ | refine TN_val (rr_loadB (i := 2) TyC.ty rfl rfl rfl) rfl rfl ?_ | refine TN_val (rr_lookOkN setK (x := s) Und.eq zeroIntD (i := 1) rfl rfl rfl trivial hlk) rfl rfl ?_ | refine TN_val (qlen Und.eq rfl) rfl rfl ?_ | refine TN_val (qfld FldC.fld rfl rfl) rfl rfl ?_ | refine TN_val (rr_nilc rfl) rfl rfl ?_ | refine TN_val (rr_lss rfl rfl (qT (by omega))) rfl rfl ?_ | refine TN_val (rr_lss rfl rfl (qF (by omega))) rfl rfl ?_ | refine TN_val (rr_add64 rfl rfl (by omega) (by omega) rfl) rfl rfl ?_ | refine TN_val (rr_sub64 rfl rfl (by omega) (by omega) rfl) rfl rfl ?_)
      | refine TW_skip rfl rfl rfl rfl rfl rfl rfl ?_ | refine TW_done ?_)
    repeat (first
      | refine qv rfl (qp rfl) rfl rfl ?_ | refine TL_nil ?_ | refine T_seq ?_ | refine T_region ?_ | refine qcT rfl ?_ | refine qcF rfl ?_ | refine T_skip ?_
      | refine T_exit ?_ | refine T_ret ?_ | refine T_block ?_ | refine E_then ?_ | refine E_thenX ?_ | refine E_thenR ?_ | refine E_blockN ?_
      | refine E_blockR ?_ | refine E_blockX ?_ | refine E_blockO rfl ?_ | refine qs rfl rfl rfl rfl rfl rfl ?_
      | ((try refine qg rfl rfl rfl ?_); first | refine qv rfl (qp rfl) rfl rfl ?_ | refine qv rfl (qlen Und.eq rfl) rfl rfl ?_ | refine qv rfl (qfld FldC.fld rfl rfl) rfl rfl ?_ | refine qv rfl (rr_nilc rfl) rfl rfl ?_ | refine qv rfl (rr_lss rfl rfl (qT (by omega))) rfl rfl ?_ | refine qv rfl (rr_lss rfl rfl (qF (by omega))) rfl rfl ?_ | refine qv rfl (rr_add64 rfl rfl (by omega) (by omega) rfl) rfl rfl ?_ | refine qv rfl (rr_sub64 rfl rfl (by omega) (by omega) rfl) rfl rfl ?_))
    (repeat refine T_seq ?_)
    refine T_midq (ι := Unit) (fun _ => True) (fun _ => [(0, .pointer (some ⟨g, 0, none⟩)), (3, .pointer (some ⟨g3, 0, none⟩))]) (fun _ => [blkO g (dmC (.slice ac p.classes.length cc) (.slice ar p.rules.length cr) vf vfol (.slice al p.last.length cl) ve (.slice ab (S.length + 1) cs) (.map (some gm)) rows vt) 63, setsO (.slice ab (S.length + 1) cs) S, numO gm (S ++ [s]), intR vt tags, blkO g3 (clsL s).toArray 76]) ?_ ?_
    · refine T_ord ([blkO g (dmC (.slice ac p.classes.length cc) (.slice ar p.rules.length cr) vf vfol (.slice al p.last.length cl) ve (.slice ab (S.length + 1) cs) (.map (some gm)) rows vt) 63, blkO g3 (clsL s).toArray 76]) (.calm 0 (.calm 1 (.calm 2 (.calm 3 (.calm 4 (.calm 5 (.calm 6 (.calm 7 (.calm 8 (.calm 9 (.one 10 (.done)))))))))))) (sub_pick [0, 4] (by decide) rfl) (by kernel_rfl) (by kernel_rfl) (by intro c a d v w h; cases d <;> exact h) ?_
      repeat (first
        | ((first | refine TW_plain rfl rfl ?_ | refine TW_gmet rfl rfl rfl rfl ?_); first | refine TN_val (qp rfl) rfl rfl ?_ | refine TN_val (rr_nilc rfl) rfl rfl ?_ | refine TN_val (rr_load1 (v := .map (some gm)) TyC.ty rfl (at_blk (i := 0) rfl rfl)) rfl rfl ?_ | refine TN_val (rr_loadB (i := 1) TyC.ty rfl rfl rfl) rfl rfl ?_ | refine TN_val (rr_load1 (v := .slice ab (S.length + 1) cs) TyC.ty rfl (at_blk (i := 0) rfl rfl)) rfl rfl ?_ | refine TN_val (qlen Und.eq rfl) rfl rfl ?_ | refine TN_val (qfld FldC.fld rfl rfl) rfl rfl ?_ | refine TN_val (rr_nilc rfl) rfl rfl ?_ | refine TN_val (rr_lss rfl rfl (qT (by omega))) rfl rfl ?_ | refine TN_val (rr_lss rfl rfl (qF (by omega))) rfl rfl ?_ | refine TN_val (rr_add64 rfl rfl (by omega) (by omega) rfl) rfl rfl ?_ | refine TN_val (rr_sub64 rfl rfl (by omega) (by omega) rfl) rfl rfl ?_)
        | refine TW_skip rfl rfl rfl rfl rfl rfl rfl ?_ | refine TW_done ?_)
      refine TW_one rfl (TL_mapSet setK (i := 2) (x := s) Und.eq rfl rfl rfl rfl trivial (by omega) (TW_on (sub_pick [0, 4] (by decide) rfl) ?_))
      repeat (first
        | ((first | refine TW_plain rfl rfl ?_ | refine TW_gmet rfl rfl rfl rfl ?_); first | refine TN_val (qp rfl) rfl rfl ?_ | refine TN_val (qlen Und.eq rfl) rfl rfl ?_ | refine TN_val (qfld FldC.fld rfl rfl) rfl rfl ?_ | refine TN_val (rr_nilc rfl) rfl rfl ?_ | refine TN_val (rr_lss rfl rfl (qT (by omega))) rfl rfl ?_ | refine TN_val (rr_lss rfl rfl (qF (by omega))) rfl rfl ?_ | refine TN_val (rr_add64 rfl rfl (by omega) (by omega) rfl) rfl rfl ?_ | refine TN_val (rr_sub64 rfl rfl (by omega) (by omega) rfl) rfl rfl ?_)
        | refine TW_skip rfl rfl rfl rfl rfl rfl rfl ?_ | refine TW_done ?_)
      exact E_mid () trivial (by repeat' (first | exact True.intro | refine And.intro rfl ?_)) (by rw [← numO_add c1]; rfl)
    intro _ _
    (repeat refine T_seq ?_)
    refine T_midq (ι := Value) (fun _ => True) (fun _ => [(0, .pointer (some ⟨g, 0, none⟩)), (3, .pointer (some ⟨g3, 0, none⟩))]) (fun vs' => [blkO g (dmC (.slice ac p.classes.length cc) (.slice ar p.rules.length cr) vf vfol (.slice al p.last.length cl) ve vs' (.map (some gm)) rows vt) 63, setsO vs' (S ++ [s]), numO gm (S ++ [s]), intR vt tags, blkO g3 (clsL s).toArray 76]) ?_ ?_
    · refine T_ord ([blkO g3 (clsL s).toArray 76]) (.calm 0 (.calm 1 (.calm 2 (.calm 3 (.calm 5 (.two 4 (.one 6 (.one 7 (.calm 8 (.calm 9 (.one 10 (.done)))))) 6 (.one 4 (.one 7 (.calm 8 (.calm 9 (.one 10 (.done)))))))))))) (sub_pick [4] (by decide) rfl) (by kernel_rfl) (by kernel_rfl) (by intro c a d v w h; cases d <;> exact h) ?_
      repeat (first
        | ((first | refine TW_plain rfl rfl ?_ | refine TW_gmet rfl rfl rfl rfl ?_); first | refine TN_val (qp rfl) rfl rfl ?_ | refine TN_val (rr_nilc rfl) rfl rfl ?_ | refine TN_val (rr_loadB (i := 0) TyC.ty rfl rfl rfl) rfl rfl ?_ | refine TN_val (qlen Und.eq rfl) rfl rfl ?_ | refine TN_val (qfld FldC.fld rfl rfl) rfl rfl ?_ | refine TN_val (rr_nilc rfl) rfl rfl ?_ | refine TN_val (rr_lss rfl rfl (qT (by omega))) rfl rfl ?_ | refine TN_val (rr_lss rfl rfl (qF (by omega))) rfl rfl ?_ | refine TN_val (rr_add64 rfl rfl (by omega) (by omega) rfl) rfl rfl ?_ | refine TN_val (rr_sub64 rfl rfl (by omega) (by omega) rfl) rfl rfl ?_)
        | refine TW_skip rfl rfl rfl rfl rfl rfl rfl ?_ | refine TW_done ?_)
      refine TW_two rfl rfl ?_ ?_
      · refine TL_val (rr_load1 (v := .slice ab (S.length + 1) cs) TyC.ty rfl (at_blk (i := 0) rfl rfl)) rfl rfl rfl (TW_on (sub_pick [4] (by decide) rfl) ?_)
        refine TW_one rfl (TL_litN (cs := (clsL s).toArray) [clsV s] rfl rfl rfl (by intro v hv; simp at hv; subst hv; rfl) rfl rfl rfl fun g36 => (TW_on (sub_pick [4] (by decide) rfl) ?_))
        refine TW_one rfl (TL_appSl (i := 1) (e := 76) (size := 4) (bytes := 32) (m := S.length + 1) (xs := setL S) (k := 1) (ys := clsL s) rfl (sl_blk (i := 5) rfl (fun j u h => by simpa using h) (Nat.le_refl 1) (by decide)) rfl rfl rfl (fun u hu => set_one s u hu) (by omega) (by omega) rfl fun vs' => (TW_on (sub_pick [4] (by decide) rfl) ?_))
        repeat (first
          | ((first | refine TW_plain rfl rfl ?_ | refine TW_gmet rfl rfl rfl rfl ?_); first | refine TN_val (qp rfl) rfl rfl ?_ | refine TN_val (rr_nilc rfl) rfl rfl ?_ | refine TN_val (qlen Und.eq rfl) rfl rfl ?_ | refine TN_val (qfld FldC.fld rfl rfl) rfl rfl ?_ | refine TN_val (rr_nilc rfl) rfl rfl ?_ | refine TN_val (rr_lss rfl rfl (qT (by omega))) rfl rfl ?_ | refine TN_val (rr_lss rfl rfl (qF (by omega))) rfl rfl ?_ | refine TN_val (rr_add64 rfl rfl (by omega) (by omega) rfl) rfl rfl ?_ | refine TN_val (rr_sub64 rfl rfl (by omega) (by omega) rfl) rfl rfl ?_)
          | refine TW_skip rfl rfl rfl rfl rfl rfl rfl ?_ | refine TW_done ?_)
        refine TW_one rfl (TL_slv (i := 1) rfl fun hv1 hv2 => TL_store1 (i := 0) rfl rfl rfl hv1 hv2 rfl (TW_on (sub_pick [4] (by decide) rfl) ?_))
        repeat (first
          | ((first | refine TW_plain rfl rfl ?_ | refine TW_gmet rfl rfl rfl rfl ?_); first | refine TN_val (qp rfl) rfl rfl ?_ | refine TN_val (qlen Und.eq rfl) rfl rfl ?_ | refine TN_val (qfld FldC.fld rfl rfl) rfl rfl ?_ | refine TN_val (rr_nilc rfl) rfl rfl ?_ | refine TN_val (rr_lss rfl rfl (qT (by omega))) rfl rfl ?_ | refine TN_val (rr_lss rfl rfl (qF (by omega))) rfl rfl ?_ | refine TN_val (rr_add64 rfl rfl (by omega) (by omega) rfl) rfl rfl ?_ | refine TN_val (rr_sub64 rfl rfl (by omega) (by omega) rfl) rfl rfl ?_)
          | refine TW_skip rfl rfl rfl rfl rfl rfl rfl ?_ | refine TW_done ?_)
        refine E_pick [0, 1, 2, 3, 4] (by decide) rfl ?_
        exact E_mid vs' trivial (by repeat' (first | exact True.intro | refine And.intro rfl ?_)) (by unfold setsO; rw [setL_snoc, List.length_append]; rfl)
      · refine TL_litN (cs := (clsL s).toArray) [clsV s] rfl rfl rfl (by intro v hv; simp at hv; subst hv; rfl) rfl rfl rfl fun g36 => (TW_on (sub_pick [4] (by decide) rfl) ?_)
        refine TW_one rfl (TL_val (rr_load1 (v := .slice ab (S.length + 1) cs) TyC.ty rfl (at_blk (i := 0) rfl rfl)) rfl rfl rfl (TW_on (sub_pick [4] (by decide) rfl) ?_))
        refine TW_one rfl (TL_appSl (i := 1) (e := 76) (size := 4) (bytes := 32) (m := S.length + 1) (xs := setL S) (k := 1) (ys := clsL s) rfl (sl_blk (i := 5) rfl (fun j u h => by simpa using h) (Nat.le_refl 1) (by decide)) rfl rfl rfl (fun u hu => set_one s u hu) (by omega) (by omega) rfl fun vs' => (TW_on (sub_pick [4] (by decide) rfl) ?_))
        repeat (first
          | ((first | refine TW_plain rfl rfl ?_ | refine TW_gmet rfl rfl rfl rfl ?_); first | refine TN_val (qp rfl) rfl rfl ?_ | refine TN_val (rr_nilc rfl) rfl rfl ?_ | refine TN_val (qlen Und.eq rfl) rfl rfl ?_ | refine TN_val (qfld FldC.fld rfl rfl) rfl rfl ?_ | refine TN_val (rr_nilc rfl) rfl rfl ?_ | refine TN_val (rr_lss rfl rfl (qT (by omega))) rfl rfl ?_ | refine TN_val (rr_lss rfl rfl (qF (by omega))) rfl rfl ?_ | refine TN_val (rr_add64 rfl rfl (by omega) (by omega) rfl) rfl rfl ?_ | refine TN_val (rr_sub64 rfl rfl (by omega) (by omega) rfl) rfl rfl ?_)
          | refine TW_skip rfl rfl rfl rfl rfl rfl rfl ?_ | refine TW_done ?_)
        refine TW_one rfl (TL_slv (i := 1) rfl fun hv1 hv2 => TL_store1 (i := 0) rfl rfl rfl hv1 hv2 rfl (TW_on (sub_pick [4] (by decide) rfl) ?_))
        repeat (first
          | ((first | refine TW_plain rfl rfl ?_ | refine TW_gmet rfl rfl rfl rfl ?_); first | refine TN_val (qp rfl) rfl rfl ?_ | refine TN_val (qlen Und.eq rfl) rfl rfl ?_ | refine TN_val (qfld FldC.fld rfl rfl) rfl rfl ?_ | refine TN_val (rr_nilc rfl) rfl rfl ?_ | refine TN_val (rr_lss rfl rfl (qT (by omega))) rfl rfl ?_ | refine TN_val (rr_lss rfl rfl (qF (by omega))) rfl rfl ?_ | refine TN_val (rr_add64 rfl rfl (by omega) (by omega) rfl) rfl rfl ?_ | refine TN_val (rr_sub64 rfl rfl (by omega) (by omega) rfl) rfl rfl ?_)
          | refine TW_skip rfl rfl rfl rfl rfl rfl rfl ?_ | refine TW_done ?_)
        refine E_pick [0, 1, 2, 3, 4] (by decide) rfl ?_
        exact E_mid vs' trivial (by repeat' (first | exact True.intro | refine And.intro rfl ?_)) (by unfold setsO; rw [setL_snoc, List.length_append]; rfl)
    clear hmS
    intro vs' _
    refine T_know (i := 1) rfl row_slm fun hrow => ?_
    obtain ⟨ab', cs', rfl, hmS, -⟩ := hrow
    repeat (first
      | refine qv rfl (qp rfl) rfl rfl ?_ | refine TL_nil ?_ | refine T_seq ?_ | refine T_region ?_ | refine qcT rfl ?_ | refine qcF rfl ?_ | refine T_skip ?_
      | refine T_exit ?_ | refine T_ret ?_ | refine T_block ?_ | refine E_then ?_ | refine E_thenX ?_ | refine E_thenR ?_ | refine E_blockN ?_
      | refine E_blockR ?_ | refine E_blockX ?_ | refine E_blockO rfl ?_ | refine qs rfl rfl rfl rfl rfl rfl ?_
      | ((try refine qg rfl rfl rfl ?_); first | refine qv rfl (qp rfl) rfl rfl ?_ | refine qv rfl (rr_nilc rfl) rfl rfl ?_ | refine qv rfl (rr_load1 (v := .slice ac p.classes.length cc) TyC.ty rfl (at_blk (i := 0) rfl rfl)) rfl rfl ?_ | refine qv rfl (qlen Und.eq rfl) rfl rfl ?_ | refine qv rfl (qfld FldC.fld rfl rfl) rfl rfl ?_ | refine qv rfl (rr_nilc rfl) rfl rfl ?_ | refine qv rfl (rr_lss rfl rfl (qT (by omega))) rfl rfl ?_ | refine qv rfl (rr_lss rfl rfl (qF (by omega))) rfl rfl ?_ | refine qv rfl (rr_add64 rfl rfl (by omega) (by omega) rfl) rfl rfl ?_ | refine qv rfl (rr_sub64 rfl rfl (by omega) (by omega) rfl) rfl rfl ?_))
    refine T_loop (ι := Nat × Int) (fun (k, t) => k ≤ p.classes.length ∧ t = tagTo p s k) (fun (k, t) => [(0, .pointer (some ⟨g, 0, none⟩)), (3, .pointer (some ⟨g3, 0, none⟩)), (7, .int .i64 t), (45, .int .i64 p.classes.length), (46, .int .i64 (k : Int))])
      (fun _ => [blkO g (dmC (.slice ac p.classes.length cc) (.slice ar p.rules.length cr) vf vfol (.slice al p.last.length cl) ve (.slice ab' ((S ++ [s]).length + 1) cs') (.map (some gm)) rows vt) 63, setsO (.slice ab' ((S ++ [s]).length + 1) cs') (S ++ [s]), numO gm (S ++ [s]), intR vt tags, blkO g3 (clsL s).toArray 76]) (fun (k, _) => p.classes.length - k) (0, -1) ⟨Nat.zero_le _, rfl⟩ (by repeat' (first | exact True.intro | refine And.intro rfl ?_)) rfl ?_
    rintro ⟨k, t⟩ ⟨hk, ht⟩
    dsimp only at hk ht ⊢
    by_cases q1 : k < p.classes.length
    · have hst := tag_step p s k
      have hkr : k < p.rules.length := by omega
      have hkl : k < p.last.length := by omega
      rw [List.getD_eq_getElem?_getD (l := p.rules), List.getElem?_eq_getElem hkr, Option.getD_some, List.getD_eq_getElem?_getD (l := p.last), List.getElem?_eq_getElem hkl, Option.getD_some] at hst
      obtain ⟨br, offr, rfl, hrrd⟩ := hrr (by omega)
      obtain ⟨bl, offl, rfl, hrld⟩ := hrl (by omega)
      have hatr := fun (L : List Own) => at_elO (L := L) SmIn_len ho hrrd hkr 0 _ rfl
      have hatl := fun (L : List Own) => at_elO (L := L) BoE_len ho hrld hkl 0 _ rfl
      have hr0 := (hmr _ (List.getElem_mem hkr)).1
      have hhas := fun w => setHas_calls s k (by omega) w
      clear hrrd hrld hrr hrl hmr
      generalize p.rules[k] = r at *
      generalize p.last[k] = lb at *
      generalize s.mem k = b at *
      rw [← ht] at hst
      clear ht
      have hatr' : ∀ (L : List Own), At B L ⟨br, offr + k * 1 + 0, none⟩ (.int .i64 r) := hatr
      have hatl' : ∀ (L : List Own), At B L ⟨bl, offl + k * 1 + 0, none⟩ (.bool lb) := hatl
      repeat (first
        | refine qv rfl (qp rfl) rfl rfl ?_ | refine TL_nil ?_ | refine T_seq ?_ | refine T_region ?_ | refine qcT rfl ?_ | refine qcF rfl ?_ | refine T_skip ?_
        | refine T_exit ?_ | refine T_ret ?_ | refine T_block ?_ | refine E_then ?_ | refine E_thenX ?_ | refine E_thenR ?_ | refine E_blockN ?_
        | refine E_blockR ?_ | refine E_blockX ?_ | refine E_blockO rfl ?_ | refine qs rfl rfl rfl rfl rfl rfl ?_
        | ((try refine qg rfl rfl rfl ?_); first | refine qv rfl (qp rfl) rfl rfl ?_ | refine qv rfl (rr_loadB (i := 4) TyC.ty rfl rfl rfl) rfl rfl ?_ | refine qv rfl (qlen Und.eq rfl) rfl rfl ?_ | refine qv rfl (qfld FldC.fld rfl rfl) rfl rfl ?_ | refine qv rfl (rr_nilc rfl) rfl rfl ?_ | refine qv rfl (rr_lss rfl rfl (qT (by omega))) rfl rfl ?_ | refine qv rfl (rr_lss rfl rfl (qF (by omega))) rfl rfl ?_ | refine qv rfl (rr_add64 rfl rfl (by omega) (by omega) rfl) rfl rfl ?_ | refine qv rfl (rr_sub64 rfl rfl (by omega) (by omega) rfl) rfl rfl ?_))
      refine TL_call (he2 EntersC.en rfl rfl rfl) (fun w hm => hhas w) rfl rfl rfl ?_
      intro _ _
      conv => arg 8; simp only [zA, zB, zC, zD, zE, zF, zG, zH, zI, rowS, ret, id_eq]
      have skip : ∀ (_ : ¬(b = true ∧ lb = true ∧ (t < 0 ∨ r < t))), tagTo p s (k + 1) = t := fun h => by rw [hst, if_neg h]
      have take : b = true ∧ lb = true ∧ (t < 0 ∨ r < t) → tagTo p s (k + 1) = r := fun h => by rw [hst, if_pos h]
      clear hst
      by_cases q2 : b = true
      · subst q2
        by_cases q3 : lb = true
        · subst q3
          by_cases q4 : t < 0
          · have e := (take ⟨rfl, rfl, .inl q4⟩).symm
            repeat (first
              | refine qv rfl (qp rfl) rfl rfl ?_ | refine TL_nil ?_ | refine T_seq ?_ | refine T_region ?_ | refine qcT rfl ?_ | refine qcF rfl ?_ | refine T_skip ?_
              | refine T_exit ?_ | refine T_ret ?_ | refine T_block ?_ | refine E_then ?_ | refine E_thenX ?_ | refine E_thenR ?_ | refine E_blockN ?_
              | refine E_blockR ?_ | refine E_blockX ?_ | refine E_blockO rfl ?_ | refine qs rfl rfl rfl rfl rfl rfl ?_
              | ((try refine qg rfl rfl rfl ?_); first | refine qv rfl (qp rfl) rfl rfl ?_ | refine qv rfl (rr_nilc rfl) rfl rfl ?_ | refine qv rfl (rr_load1 (v := .slice (some ⟨bl, offl, none⟩) p.last.length cl) TyC.ty rfl (at_blk (i := 0) rfl rfl)) rfl rfl ?_ | refine qv rfl (rr_idxc Und.eq TyC.ty rfl rfl hkl) rfl rfl ?_ | refine qv rfl (rr_load1 (v := .bool true) TyC.ty rfl (hatl' _)) rfl rfl ?_ | refine qv rfl (rr_lss (b := true) rfl rfl (decide_eq_true q4)) rfl rfl ?_ | refine qv rfl (rr_load1 (v := .slice (some ⟨br, offr, none⟩) p.rules.length cr) TyC.ty rfl (at_blk (i := 0) rfl rfl)) rfl rfl ?_ | refine qv rfl (rr_idxc Und.eq TyC.ty rfl rfl hkr) rfl rfl ?_ | refine qv rfl (rr_load1 (v := .int .i64 r) TyC.ty rfl (hatr' _)) rfl rfl ?_ | refine qv rfl (qlen Und.eq rfl) rfl rfl ?_ | refine qv rfl (qfld FldC.fld rfl rfl) rfl rfl ?_ | refine qv rfl (rr_nilc rfl) rfl rfl ?_ | refine qv rfl (rr_lss rfl rfl (qT (by omega))) rfl rfl ?_ | refine qv rfl (rr_lss rfl rfl (qF (by omega))) rfl rfl ?_ | refine qv rfl (rr_add64 rfl rfl (by omega) (by omega) rfl) rfl rfl ?_ | refine qv rfl (rr_sub64 rfl rfl (by omega) (by omega) rfl) rfl rfl ?_))
            exact E_round (k + 1, r) ⟨by omega, e⟩ (by show p.classes.length - (k + 1) < p.classes.length - k; omega) (by repeat' (first | exact True.intro | refine And.intro rfl ?_)) rfl
          · by_cases q5 : r < t
            · have e := (take ⟨rfl, rfl, .inr q5⟩).symm
              repeat (first
                | refine qv rfl (qp rfl) rfl rfl ?_ | refine TL_nil ?_ | refine T_seq ?_ | refine T_region ?_ | refine qcT rfl ?_ | refine qcF rfl ?_ | refine T_skip ?_
                | refine T_exit ?_ | refine T_ret ?_ | refine T_block ?_ | refine E_then ?_ | refine E_thenX ?_ | refine E_thenR ?_ | refine E_blockN ?_
                | refine E_blockR ?_ | refine E_blockX ?_ | refine E_blockO rfl ?_ | refine qs rfl rfl rfl rfl rfl rfl ?_
                | ((try refine qg rfl rfl rfl ?_); first | refine qv rfl (qp rfl) rfl rfl ?_ | refine qv rfl (rr_nilc rfl) rfl rfl ?_ | refine qv rfl (rr_load1 (v := .slice (some ⟨bl, offl, none⟩) p.last.length cl) TyC.ty rfl (at_blk (i := 0) rfl rfl)) rfl rfl ?_ | refine qv rfl (rr_idxc Und.eq TyC.ty rfl rfl hkl) rfl rfl ?_ | refine qv rfl (rr_load1 (v := .bool true) TyC.ty rfl (hatl' _)) rfl rfl ?_ | refine qv rfl (rr_lss (b := false) rfl rfl (decide_eq_false q4)) rfl rfl ?_ | refine qv rfl (rr_load1 (v := .slice (some ⟨br, offr, none⟩) p.rules.length cr) TyC.ty rfl (at_blk (i := 0) rfl rfl)) rfl rfl ?_ | refine qv rfl (rr_idxc Und.eq TyC.ty rfl rfl hkr) rfl rfl ?_ | refine qv rfl (rr_load1 (v := .int .i64 r) TyC.ty rfl (hatr' _)) rfl rfl ?_ | refine qv rfl (rr_lss (b := true) rfl rfl (decide_eq_true q5)) rfl rfl ?_ | refine qv rfl (qlen Und.eq rfl) rfl rfl ?_ | refine qv rfl (qfld FldC.fld rfl rfl) rfl rfl ?_ | refine qv rfl (rr_nilc rfl) rfl rfl ?_ | refine qv rfl (rr_lss rfl rfl (qT (by omega))) rfl rfl ?_ | refine qv rfl (rr_lss rfl rfl (qF (by omega))) rfl rfl ?_ | refine qv rfl (rr_add64 rfl rfl (by omega) (by omega) rfl) rfl rfl ?_ | refine qv rfl (rr_sub64 rfl rfl (by omega) (by omega) rfl) rfl rfl ?_))
              exact E_round (k + 1, r) ⟨by omega, e⟩ (by show p.classes.length - (k + 1) < p.classes.length - k; omega) (by repeat' (first | exact True.intro | refine And.intro rfl ?_)) rfl
            · have e := (skip (fun h => h.2.2.elim q4 q5)).symm
              repeat (first
                | refine qv rfl (qp rfl) rfl rfl ?_ | refine TL_nil ?_ | refine T_seq ?_ | refine T_region ?_ | refine qcT rfl ?_ | refine qcF rfl ?_ | refine T_skip ?_
                | refine T_exit ?_ | refine T_ret ?_ | refine T_block ?_ | refine E_then ?_ | refine E_thenX ?_ | refine E_thenR ?_ | refine E_blockN ?_
                | refine E_blockR ?_ | refine E_blockX ?_ | refine E_blockO rfl ?_ | refine qs rfl rfl rfl rfl rfl rfl ?_
                | ((try refine qg rfl rfl rfl ?_); first | refine qv rfl (qp rfl) rfl rfl ?_ | refine qv rfl (rr_nilc rfl) rfl rfl ?_ | refine qv rfl (rr_load1 (v := .slice (some ⟨bl, offl, none⟩) p.last.length cl) TyC.ty rfl (at_blk (i := 0) rfl rfl)) rfl rfl ?_ | refine qv rfl (rr_idxc Und.eq TyC.ty rfl rfl hkl) rfl rfl ?_ | refine qv rfl (rr_load1 (v := .bool true) TyC.ty rfl (hatl' _)) rfl rfl ?_ | refine qv rfl (rr_lss (b := false) rfl rfl (decide_eq_false q4)) rfl rfl ?_ | refine qv rfl (rr_load1 (v := .slice (some ⟨br, offr, none⟩) p.rules.length cr) TyC.ty rfl (at_blk (i := 0) rfl rfl)) rfl rfl ?_ | refine qv rfl (rr_idxc Und.eq TyC.ty rfl rfl hkr) rfl rfl ?_ | refine qv rfl (rr_load1 (v := .int .i64 r) TyC.ty rfl (hatr' _)) rfl rfl ?_ | refine qv rfl (rr_lss (b := false) rfl rfl (decide_eq_false q5)) rfl rfl ?_ | refine qv rfl (qlen Und.eq rfl) rfl rfl ?_ | refine qv rfl (qfld FldC.fld rfl rfl) rfl rfl ?_ | refine qv rfl (rr_nilc rfl) rfl rfl ?_ | refine qv rfl (rr_lss rfl rfl (qT (by omega))) rfl rfl ?_ | refine qv rfl (rr_lss rfl rfl (qF (by omega))) rfl rfl ?_ | refine qv rfl (rr_add64 rfl rfl (by omega) (by omega) rfl) rfl rfl ?_ | refine qv rfl (rr_sub64 rfl rfl (by omega) (by omega) rfl) rfl rfl ?_))
              exact E_round (k + 1, t) ⟨by omega, e⟩ (by show p.classes.length - (k + 1) < p.classes.length - k; omega) (by repeat' (first | exact True.intro | refine And.intro rfl ?_)) rfl
        · have e := (skip (fun h => q3 h.2.1)).symm
          obtain rfl := Bool.eq_false_iff.2 q3
          repeat (first
            | refine qv rfl (qp rfl) rfl rfl ?_ | refine TL_nil ?_ | refine T_seq ?_ | refine T_region ?_ | refine qcT rfl ?_ | refine qcF rfl ?_ | refine T_skip ?_
            | refine T_exit ?_ | refine T_ret ?_ | refine T_block ?_ | refine E_then ?_ | refine E_thenX ?_ | refine E_thenR ?_ | refine E_blockN ?_
            | refine E_blockR ?_ | refine E_blockX ?_ | refine E_blockO rfl ?_ | refine qs rfl rfl rfl rfl rfl rfl ?_
            | ((try refine qg rfl rfl rfl ?_); first | refine qv rfl (qp rfl) rfl rfl ?_ | refine qv rfl (rr_nilc rfl) rfl rfl ?_ | refine qv rfl (rr_load1 (v := .slice (some ⟨bl, offl, none⟩) p.last.length cl) TyC.ty rfl (at_blk (i := 0) rfl rfl)) rfl rfl ?_ | refine qv rfl (rr_idxc Und.eq TyC.ty rfl rfl hkl) rfl rfl ?_ | refine qv rfl (rr_load1 (v := .bool false) TyC.ty rfl (hatl' _)) rfl rfl ?_ | refine qv rfl (qlen Und.eq rfl) rfl rfl ?_ | refine qv rfl (qfld FldC.fld rfl rfl) rfl rfl ?_ | refine qv rfl (rr_nilc rfl) rfl rfl ?_ | refine qv rfl (rr_lss rfl rfl (qT (by omega))) rfl rfl ?_ | refine qv rfl (rr_lss rfl rfl (qF (by omega))) rfl rfl ?_ | refine qv rfl (rr_add64 rfl rfl (by omega) (by omega) rfl) rfl rfl ?_ | refine qv rfl (rr_sub64 rfl rfl (by omega) (by omega) rfl) rfl rfl ?_))
          exact E_round (k + 1, t) ⟨by omega, e⟩ (by show p.classes.length - (k + 1) < p.classes.length - k; omega) (by repeat' (first | exact True.intro | refine And.intro rfl ?_)) rfl
      · have e := (skip (fun h => q2 h.1)).symm
        obtain rfl := Bool.eq_false_iff.2 q2
        repeat (first
          | refine qv rfl (qp rfl) rfl rfl ?_ | refine TL_nil ?_ | refine T_seq ?_ | refine T_region ?_ | refine qcT rfl ?_ | refine qcF rfl ?_ | refine T_skip ?_
          | refine T_exit ?_ | refine T_ret ?_ | refine T_block ?_ | refine E_then ?_ | refine E_thenX ?_ | refine E_thenR ?_ | refine E_blockN ?_
          | refine E_blockR ?_ | refine E_blockX ?_ | refine E_blockO rfl ?_ | refine qs rfl rfl rfl rfl rfl rfl ?_
          | ((try refine qg rfl rfl rfl ?_); first | refine qv rfl (qp rfl) rfl rfl ?_ | refine qv rfl (qlen Und.eq rfl) rfl rfl ?_ | refine qv rfl (qfld FldC.fld rfl rfl) rfl rfl ?_ | refine qv rfl (rr_nilc rfl) rfl rfl ?_ | refine qv rfl (rr_lss rfl rfl (qT (by omega))) rfl rfl ?_ | refine qv rfl (rr_lss rfl rfl (qF (by omega))) rfl rfl ?_ | refine qv rfl (rr_add64 rfl rfl (by omega) (by omega) rfl) rfl rfl ?_ | refine qv rfl (rr_sub64 rfl rfl (by omega) (by omega) rfl) rfl rfl ?_))
        exact E_round (k + 1, t) ⟨by omega, e⟩ (by show p.classes.length - (k + 1) < p.classes.length - k; omega) (by repeat' (first | exact True.intro | refine And.intro rfl ?_)) rfl
    · obtain rfl : k = p.classes.length := by omega
      rw [show tagF p s = t from ht.symm] at *
      repeat (first
        | refine qv rfl (qp rfl) rfl rfl ?_ | refine TL_nil ?_ | refine T_seq ?_ | refine T_region ?_ | refine qcT rfl ?_ | refine qcF rfl ?_ | refine T_skip ?_
        | refine T_exit ?_ | refine T_ret ?_ | refine T_block ?_ | refine E_then ?_ | refine E_thenX ?_ | refine E_thenR ?_ | refine E_blockN ?_
        | refine E_blockR ?_ | refine E_blockX ?_ | refine E_blockO rfl ?_ | refine qs rfl rfl rfl rfl rfl rfl ?_
        | ((try refine qg rfl rfl rfl ?_); first | refine qv rfl (qp rfl) rfl rfl ?_ | refine qv rfl (rr_nilc rfl) rfl rfl ?_ | refine qv rfl (rr_load1 (v := vt) TyC.ty rfl (at_blk (i := 0) rfl rfl)) rfl rfl ?_ | refine qv rfl (qlen Und.eq rfl) rfl rfl ?_ | refine qv rfl (qfld FldC.fld rfl rfl) rfl rfl ?_ | refine qv rfl (rr_nilc rfl) rfl rfl ?_ | refine qv rfl (rr_lss rfl rfl (qT (by omega))) rfl rfl ?_ | refine qv rfl (rr_lss rfl rfl (qF (by omega))) rfl rfl ?_ | refine qv rfl (rr_add64 rfl rfl (by omega) (by omega) rfl) rfl rfl ?_ | refine qv rfl (rr_sub64 rfl rfl (by omega) (by omega) rfl) rfl rfl ?_))
      refine TL_push1 (i := 3) rfl rfl rfl rfl rfl rfl (fun z h => by cases h; rfl) (by omega) (by omega) rfl fun z' vt' => ?_
      conv => arg 8; simp only [zA, zB, zC, zD, zE, zF, zG, zH, zI, rowS, ret, id_eq]
      repeat (first
        | refine qv rfl (qp rfl) rfl rfl ?_ | refine TL_nil ?_ | refine T_seq ?_ | refine T_region ?_ | refine qcT rfl ?_ | refine qcF rfl ?_ | refine T_skip ?_
        | refine T_exit ?_ | refine T_ret ?_ | refine T_block ?_ | refine E_then ?_ | refine E_thenX ?_ | refine E_thenR ?_ | refine E_blockN ?_
        | refine E_blockR ?_ | refine E_blockX ?_ | refine E_blockO rfl ?_ | refine qs rfl rfl rfl rfl rfl rfl ?_
        | ((try refine qg rfl rfl rfl ?_); first | refine qv rfl (qp rfl) rfl rfl ?_ | refine qv rfl (rr_nilc rfl) rfl rfl ?_ | refine qv rfl (qlen Und.eq rfl) rfl rfl ?_ | refine qv rfl (qfld FldC.fld rfl rfl) rfl rfl ?_ | refine qv rfl (rr_nilc rfl) rfl rfl ?_ | refine qv rfl (rr_lss rfl rfl (qT (by omega))) rfl rfl ?_ | refine qv rfl (rr_lss rfl rfl (qF (by omega))) rfl rfl ?_ | refine qv rfl (rr_add64 rfl rfl (by omega) (by omega) rfl) rfl rfl ?_ | refine qv rfl (rr_sub64 rfl rfl (by omega) (by omega) rfl) rfl rfl ?_))
      refine TL_slv (i := 3) rfl fun hv1 hv2 => TL_store1 (i := 0) rfl rfl rfl hv1 hv2 rfl ?_
      conv => arg 8; simp only [zA, zB, zC, zD, zE, zF, zG, zH, zI, rowS, ret, id_eq]
      repeat (first
        | refine qv rfl (qp rfl) rfl rfl ?_ | refine TL_nil ?_ | refine T_seq ?_ | refine T_region ?_ | refine qcT rfl ?_ | refine qcF rfl ?_ | refine T_skip ?_
        | refine T_exit ?_ | refine T_ret ?_ | refine T_block ?_ | refine E_then ?_ | refine E_thenX ?_ | refine E_thenR ?_ | refine E_blockN ?_
        | refine E_blockR ?_ | refine E_blockX ?_ | refine E_blockO rfl ?_ | refine qs rfl rfl rfl rfl rfl rfl ?_
        | ((try refine qg rfl rfl rfl ?_); first | refine qv rfl (qp rfl) rfl rfl ?_ | refine qv rfl (rr_nilc rfl) rfl rfl ?_ | refine qv rfl (rr_load1 (v := .slice ab' ((S ++ [s]).length + 1) cs') TyC.ty rfl (at_blk (i := 0) rfl rfl)) rfl rfl ?_ | refine qv rfl (rr_sub64 (r := ((S.length + 1 : Nat) : Int)) rfl rfl (by simp; omega) (by simp; omega) (by simp)) rfl rfl ?_ | refine qv rfl (qlen Und.eq rfl) rfl rfl ?_ | refine qv rfl (qfld FldC.fld rfl rfl) rfl rfl ?_ | refine qv rfl (rr_nilc rfl) rfl rfl ?_ | refine qv rfl (rr_lss rfl rfl (qT (by omega))) rfl rfl ?_ | refine qv rfl (rr_lss rfl rfl (qF (by omega))) rfl rfl ?_ | refine qv rfl (rr_add64 rfl rfl (by omega) (by omega) rfl) rfl rfl ?_ | refine qv rfl (rr_sub64 rfl rfl (by omega) (by omega) rfl) rfl rfl ?_))
      refine E_pick [0, 1, 2, 3] (by decide) rfl ?_
      exact E_ret1 rfl rfl fun w hm => hm.meetsB (S := ⟨fun (_ : Value × Value) => True, fun _ => .int .i64 ((S.length + 1 : Nat) : Int), fun x => dmL (.slice ac p.classes.length cc) (.slice ar p.rules.length cr) vf vfol (.slice al p.last.length cl) ve rows g gm x.1 x.2 ⟨S ++ [s], tags ++ [t]⟩⟩) (.slice ab' ((S ++ [s]).length + 1) cs', vt') trivial [0, 1, 2, 3] (by decide) (by unfold dmL; rw [← int_snoc]; rfl)
    done
end Go.Proofs.Ytknojgjdaafboaa.eng

/- DfaL -/
namespace Go.Proofs.Ytknojgjdaafboaa.dfaL
/-- dfa.Check -/
def rowBad (n : Nat) (tag : Int) (row : List Int) : Bool := decide (tag < -1) || decide (20 ≤ tag) || row.any fun t => decide (t < -1) || decide ((n : Int) ≤ t)
def checkF (rows : List (List Int)) (tags : List Int) : Int :=
  if 200 < rows.length then 2 else if rows.length = 0 ∨ tags.length ≠ rows.length then 1 else if (List.range rows.length).any (fun i => rowBad rows.length (tags.getD i 0) (rows.getD i [])) then 1 else 0
theorem check_ok {rows : List (List Int)} {tags : List Int} (h : checkF rows tags = 0) : rows.length ≤ 200 ∧ 0 < rows.length ∧ tags.length = rows.length ∧ ∀ i, i < rows.length → -1 ≤ tags.getD i 0 ∧ tags.getD i 0 < 20 ∧ ∀ t ∈ rows.getD i [], -1 ≤ t ∧ t < rows.length := by
  unfold checkF at h
  split at h
  · simp at h
  · split at h
    · simp at h
    · split at h
      · simp at h
      · rename_i c1 c2 c3
        refine ⟨by omega, by omega, by omega, fun i hi => ?_⟩
        simp only [List.any_eq_true, List.mem_range, not_exists, not_and] at c3
        have := c3 i hi
        simp only [rowBad, Bool.or_eq_true, decide_eq_true_eq, List.any_eq_true, not_or, not_exists, not_and] at this
        obtain ⟨⟨a, b⟩, c⟩ := this
        refine ⟨by omega, by omega, fun t ht => ?_⟩
        have := c t ht
        omega
/-- dfa.Run, from a state on -/
def goes (rows : List (List Int)) : Int → List UInt8 → Int
  | now, [] => now
  | now, b :: s => if now < 0 then now else goes rows ((rows.getD now.toNat []).getD b.toNat 0) s
theorem goes_neg (rows : List (List Int)) (s : List UInt8) (now : Int) (h : now < 0) : goes rows now s = now := by
  cases s with
  | nil => rfl
  | cons b s => simp [goes, h]
def runF (rows : List (List Int)) (tags : List Int) (s : List UInt8) : Int × Int := if checkF rows tags ≠ 0 then (0, checkF rows tags) else (goes rows 0 s, 0)
theorem step_range {rows : List (List Int)} {tags : List Int} (h : checkF rows tags = 0) (hw : ∀ r ∈ rows, r.length = 256) {now : Int} (h0 : 0 ≤ now) (h1 : now < rows.length) (b : UInt8) : -1 ≤ (rows.getD now.toNat []).getD b.toNat 0 ∧ (rows.getD now.toNat []).getD b.toNat 0 < rows.length := by
  obtain ⟨_, _, _, h2⟩ := check_ok h
  have h3 := (h2 now.toNat (by omega)).2.2
  have hlt : now.toNat < rows.length := by omega
  have e : rows.getD now.toNat [] = rows[now.toNat] := by rw [List.getD_eq_getElem?_getD, List.getElem?_eq_getElem hlt]; rfl
  rw [e] at h3 ⊢
  have hl := hw _ (List.getElem_mem hlt)
  have hb := b.toNat_lt
  have hbl : b.toNat < (rows[now.toNat]).length := by omega
  have e2 : (rows[now.toNat]).getD b.toNat 0 = (rows[now.toNat])[b.toNat] := by rw [List.getD_eq_getElem?_getD, List.getElem?_eq_getElem hbl]; rfl
  rw [e2]
  exact h3 _ (List.getElem_mem hbl)
end Go.Proofs.Ytknojgjdaafboaa.dfaL

/- DfaO -/
namespace Go.Proofs.Ytknojgjdaafboaa.eng
open Go.RowKit kit mix dfaL
set_option maxRecDepth 100000
def isRow (cs : List Value) (r : List Int) : Prop := r.length = 256 ∧ cs = r.map (.int .i16) ∧ ∀ x ∈ r, -32768 ≤ x ∧ x ≤ 32767
/-- a Dfa's two slices -/
def IsDfa (W : World) (v : Value) (rows : List (List Int)) (tags : List Int) : Prop := ∃ vr vt, v = .agg #[vr, vt] ∧ SlX W isRow 256 vr rows ∧ SlX W (isInt .i64 (-9223372036854775808) 9223372036854775807) 1 vt tags ∧ ∀ r ∈ rows, r.length = 256
theorem IsDfa.up {W w : World} {L : List Own} {v : Value} {rows : List (List Int)} {tags : List Int} (h : IsDfa W v rows tags) (hm : Mem W L w) : IsDfa w v rows tags :=
  let ⟨vr, vt, h1, h2, h3, h4⟩ := h; ⟨vr, vt, h1, h2.up hm, h3.up hm, h4⟩
end Go.Proofs.Ytknojgjdaafboaa.eng

/- Dfa -/
namespace Go.Proofs.Ytknojgjdaafboaa.eng
open Go.RowKit kit mix dfaL
theorem row_at {rows : List (List Int)} {i : Nat} (hi : i < rows.length) : rows.getD i [] = rows[i] := by rw [List.getD_eq_getElem?_getD, List.getElem?_eq_getElem hi]; rfl
theorem int_at {l : List Int} {i : Nat} (hi : i < l.length) : l.getD i 0 = l[i] := by rw [List.getD_eq_getElem?_getD, List.getElem?_eq_getElem hi]; rfl
theorem any_range {n i : Nat} {p : Nat → Bool} (hi : i < n) (h : p i = true) : (List.range n).any p = true := List.any_eq_true.2 ⟨i, List.mem_range.2 hi, h⟩
set_option maxHeartbeats 4000000 in
theorem dfaCheck_calls (v : Value) (rows : List (List Int)) (tags : List Int) (w : World) (h : IsDfa w v rows tags) :
    Calls Try.prog 17 #[v] w (Meets (ret (.int .i64 (checkF rows tags))) w) := by
  obtain ⟨vr, vt, rfl, hr, ht, h256⟩ := h
  obtain ⟨br, cr, rfl, hr1, hr2, hr3⟩ := hr
  have ht' := ht.sl (f := .int .i64) fun cs a h => h.1
  obtain ⟨bt, ct, rfl, ht1, ht2, ht3⟩ := ht'
  have htr : ∀ i (hi : i < tags.length), -9223372036854775808 ≤ tags[i] ∧ tags[i] ≤ 9223372036854775807 := fun i hi => by
    obtain ⟨_, _, _, _, _, h5⟩ := ht
    obtain ⟨_, _, _, h6⟩ := h5 (by omega)
    obtain ⟨_, h7, _⟩ := h6 i hi
    exact h7.2
  clear ht
  unfold maxLen at hr2 ht2
  refine enter (args := [.agg #[.slice br rows.length cr, .slice bt tags.length ct]]) (n := 57) Try.func17 rfl rfl rfl ?_
  refine T_seq (T_region (TL_box rfl rfl rfl fun g => ?_))
  repeat (first
    | refine TL_val (rr_move rfl) rfl rfl rfl ?_
    | refine TL_val (rr_assign rfl) rfl rfl rfl ?_
    | refine TL_nil ?_
    | refine T_seq ?_
    | refine T_region ?_
    | refine T_condT rfl ?_
    | refine T_condF rfl ?_
    | refine T_skip ?_
    | refine T_exit ?_
    | refine T_ret ?_
    | refine T_block ?_
    | refine E_then ?_
    | refine E_thenX ?_
    | refine E_thenR ?_
    | refine E_blockN ?_
    | refine E_blockR ?_
    | refine E_blockX ?_
    | refine E_blockO rfl ?_
    | refine TL_val (rr_load1 TyC.ty rfl (at_blk (i := 0) rfl rfl)) rfl rfl rfl ?_
    | refine TL_val (rr_pickT rfl rfl) rfl rfl rfl ?_
    | refine TL_val (rr_pickF rfl rfl) rfl rfl rfl ?_
    | refine TL_val (rr_len Und.eq rfl) rfl rfl rfl ?_
    | refine TL_val (rr_field FldC.fld rfl rfl) rfl rfl rfl ?_
    | refine TL_val (rr_lss rfl rfl (decide_eq_true (by omega))) rfl rfl rfl ?_
    | refine TL_val (rr_lss rfl rfl (decide_eq_false (by omega))) rfl rfl rfl ?_
    | refine TL_val (rr_gtr rfl rfl (decide_eq_true (by omega))) rfl rfl rfl ?_
    | refine TL_val (rr_gtr rfl rfl (decide_eq_false (by omega))) rfl rfl rfl ?_
    | refine TL_val (rr_eql rfl rfl (decide_eq_true (by omega))) rfl rfl rfl ?_
    | refine TL_val (rr_eql rfl rfl (decide_eq_false (by omega))) rfl rfl rfl ?_
    | refine TL_val (rr_add64 rfl rfl (by omega) (by omega) rfl) rfl rfl rfl ?_
    | refine TL_skip rfl rfl rfl rfl rfl rfl ?_
    | refine TL_gval (rr_load1 TyC.ty rfl (at_blk (i := 0) rfl rfl)) rfl rfl rfl rfl rfl ?_
    | refine TL_gval (rr_move rfl) rfl rfl rfl rfl rfl ?_
    | refine TL_gval (rr_len Und.eq rfl) rfl rfl rfl rfl rfl ?_
    | refine TL_gval (rr_field FldC.fld rfl rfl) rfl rfl rfl rfl rfl ?_
    | refine TL_gval (rr_geq rfl rfl (decide_eq_true (by omega))) rfl rfl rfl rfl rfl ?_
    | refine TL_gval (rr_geq rfl rfl (decide_eq_false (by omega))) rfl rfl rfl rfl rfl ?_
    | refine TL_gval (rr_neq rfl rfl (decide_eq_true (by omega))) rfl rfl rfl rfl rfl ?_
    | refine TL_gval (rr_neq rfl rfl (decide_eq_false (by omega))) rfl rfl rfl rfl rfl ?_)
  unfold checkF
  by_cases c1 : 200 < rows.length
  · rw [if_pos c1]
    repeat (first
      | refine TL_val (rr_move rfl) rfl rfl rfl ?_
      | refine TL_val (rr_assign rfl) rfl rfl rfl ?_
      | refine TL_nil ?_
      | refine T_seq ?_
      | refine T_region ?_
      | refine T_condT rfl ?_
      | refine T_condF rfl ?_
      | refine T_skip ?_
      | refine T_exit ?_
      | refine T_ret ?_
      | refine T_block ?_
      | refine E_then ?_
      | refine E_thenX ?_
      | refine E_thenR ?_
      | refine E_blockN ?_
      | refine E_blockR ?_
      | refine E_blockX ?_
      | refine E_blockO rfl ?_
      | refine TL_val (rr_pickT rfl rfl) rfl rfl rfl ?_
      | refine TL_val (rr_pickF rfl rfl) rfl rfl rfl ?_
      | refine TL_val (rr_len Und.eq rfl) rfl rfl rfl ?_
      | refine TL_val (rr_field FldC.fld rfl rfl) rfl rfl rfl ?_
      | refine TL_val (rr_lss rfl rfl (decide_eq_true (by omega))) rfl rfl rfl ?_
      | refine TL_val (rr_lss rfl rfl (decide_eq_false (by omega))) rfl rfl rfl ?_
      | refine TL_val (rr_gtr rfl rfl (decide_eq_true (by omega))) rfl rfl rfl ?_
      | refine TL_val (rr_gtr rfl rfl (decide_eq_false (by omega))) rfl rfl rfl ?_
      | refine TL_val (rr_eql rfl rfl (decide_eq_true (by omega))) rfl rfl rfl ?_
      | refine TL_val (rr_eql rfl rfl (decide_eq_false (by omega))) rfl rfl rfl ?_
      | refine TL_val (rr_add64 rfl rfl (by omega) (by omega) rfl) rfl rfl rfl ?_
      | refine TL_skip rfl rfl rfl rfl rfl rfl ?_
      | refine TL_gval (rr_move rfl) rfl rfl rfl rfl rfl ?_
      | refine TL_gval (rr_len Und.eq rfl) rfl rfl rfl rfl rfl ?_
      | refine TL_gval (rr_field FldC.fld rfl rfl) rfl rfl rfl rfl rfl ?_
      | refine TL_gval (rr_geq rfl rfl (decide_eq_true (by omega))) rfl rfl rfl rfl rfl ?_
      | refine TL_gval (rr_geq rfl rfl (decide_eq_false (by omega))) rfl rfl rfl rfl rfl ?_
      | refine TL_gval (rr_neq rfl rfl (decide_eq_true (by omega))) rfl rfl rfl rfl rfl ?_
      | refine TL_gval (rr_neq rfl rfl (decide_eq_false (by omega))) rfl rfl rfl rfl rfl ?_)
    exact E_ret1 rfl rfl fun w hm => hm.ret
  · rw [if_neg c1]
    by_cases c2 : rows.length = 0
    · rw [if_pos (.inl c2)]
      repeat (first
        | refine TL_val (rr_move rfl) rfl rfl rfl ?_
        | refine TL_val (rr_assign rfl) rfl rfl rfl ?_
        | refine TL_nil ?_
        | refine T_seq ?_
        | refine T_region ?_
        | refine T_condT rfl ?_
        | refine T_condF rfl ?_
        | refine T_skip ?_
        | refine T_exit ?_
        | refine T_ret ?_
        | refine T_block ?_
        | refine E_then ?_
        | refine E_thenX ?_
        | refine E_thenR ?_
        | refine E_blockN ?_
        | refine E_blockR ?_
        | refine E_blockX ?_
        | refine E_blockO rfl ?_
        | refine TL_val (rr_load1 TyC.ty rfl (at_blk (i := 0) rfl rfl)) rfl rfl rfl ?_
        | refine TL_val (rr_pickT rfl rfl) rfl rfl rfl ?_
        | refine TL_val (rr_pickF rfl rfl) rfl rfl rfl ?_
        | refine TL_val (rr_len Und.eq rfl) rfl rfl rfl ?_
        | refine TL_val (rr_field FldC.fld rfl rfl) rfl rfl rfl ?_
        | refine TL_val (rr_lss rfl rfl (decide_eq_true (by omega))) rfl rfl rfl ?_
        | refine TL_val (rr_lss rfl rfl (decide_eq_false (by omega))) rfl rfl rfl ?_
        | refine TL_val (rr_gtr rfl rfl (decide_eq_true (by omega))) rfl rfl rfl ?_
        | refine TL_val (rr_gtr rfl rfl (decide_eq_false (by omega))) rfl rfl rfl ?_
        | refine TL_val (rr_eql rfl rfl (decide_eq_true (by omega))) rfl rfl rfl ?_
        | refine TL_val (rr_eql rfl rfl (decide_eq_false (by omega))) rfl rfl rfl ?_
        | refine TL_val (rr_add64 rfl rfl (by omega) (by omega) rfl) rfl rfl rfl ?_
        | refine TL_skip rfl rfl rfl rfl rfl rfl ?_
        | refine TL_gval (rr_load1 TyC.ty rfl (at_blk (i := 0) rfl rfl)) rfl rfl rfl rfl rfl ?_
        | refine TL_gval (rr_move rfl) rfl rfl rfl rfl rfl ?_
        | refine TL_gval (rr_len Und.eq rfl) rfl rfl rfl rfl rfl ?_
        | refine TL_gval (rr_field FldC.fld rfl rfl) rfl rfl rfl rfl rfl ?_
        | refine TL_gval (rr_geq rfl rfl (decide_eq_true (by omega))) rfl rfl rfl rfl rfl ?_
        | refine TL_gval (rr_geq rfl rfl (decide_eq_false (by omega))) rfl rfl rfl rfl rfl ?_
        | refine TL_gval (rr_neq rfl rfl (decide_eq_true (by omega))) rfl rfl rfl rfl rfl ?_
        | refine TL_gval (rr_neq rfl rfl (decide_eq_false (by omega))) rfl rfl rfl rfl rfl ?_)
      exact E_ret1 rfl rfl fun w hm => hm.ret
    · by_cases c3 : tags.length = rows.length
      · rw [if_neg (by omega)]
        repeat (first
          | refine TL_val (rr_move rfl) rfl rfl rfl ?_
          | refine TL_val (rr_assign rfl) rfl rfl rfl ?_
          | refine TL_nil ?_
          | refine T_seq ?_
          | refine T_region ?_
          | refine T_condT rfl ?_
          | refine T_condF rfl ?_
          | refine T_skip ?_
          | refine T_exit ?_
          | refine T_ret ?_
          | refine T_block ?_
          | refine E_then ?_
          | refine E_thenX ?_
          | refine E_thenR ?_
          | refine E_blockN ?_
          | refine E_blockR ?_
          | refine E_blockX ?_
          | refine E_blockO rfl ?_
          | refine TL_val (rr_load1 TyC.ty rfl (at_blk (i := 0) rfl rfl)) rfl rfl rfl ?_
          | refine TL_val (rr_pickT rfl rfl) rfl rfl rfl ?_
          | refine TL_val (rr_pickF rfl rfl) rfl rfl rfl ?_
          | refine TL_val (rr_len Und.eq rfl) rfl rfl rfl ?_
          | refine TL_val (rr_field FldC.fld rfl rfl) rfl rfl rfl ?_
          | refine TL_val (rr_lss rfl rfl (decide_eq_true (by omega))) rfl rfl rfl ?_
          | refine TL_val (rr_lss rfl rfl (decide_eq_false (by omega))) rfl rfl rfl ?_
          | refine TL_val (rr_gtr rfl rfl (decide_eq_true (by omega))) rfl rfl rfl ?_
          | refine TL_val (rr_gtr rfl rfl (decide_eq_false (by omega))) rfl rfl rfl ?_
          | refine TL_val (rr_eql rfl rfl (decide_eq_true (by omega))) rfl rfl rfl ?_
          | refine TL_val (rr_eql rfl rfl (decide_eq_false (by omega))) rfl rfl rfl ?_
          | refine TL_val (rr_add64 rfl rfl (by omega) (by omega) rfl) rfl rfl rfl ?_
          | refine TL_skip rfl rfl rfl rfl rfl rfl ?_
          | refine TL_gval (rr_load1 TyC.ty rfl (at_blk (i := 0) rfl rfl)) rfl rfl rfl rfl rfl ?_
          | refine TL_gval (rr_move rfl) rfl rfl rfl rfl rfl ?_
          | refine TL_gval (rr_len Und.eq rfl) rfl rfl rfl rfl rfl ?_
          | refine TL_gval (rr_field FldC.fld rfl rfl) rfl rfl rfl rfl rfl ?_
          | refine TL_gval (rr_geq rfl rfl (decide_eq_true (by omega))) rfl rfl rfl rfl rfl ?_
          | refine TL_gval (rr_geq rfl rfl (decide_eq_false (by omega))) rfl rfl rfl rfl rfl ?_
          | refine TL_gval (rr_neq rfl rfl (decide_eq_true (by omega))) rfl rfl rfl rfl rfl ?_
          | refine TL_gval (rr_neq rfl rfl (decide_eq_false (by omega))) rfl rfl rfl rfl rfl ?_)
        refine T_loop (ι := Nat) (fun i => i ≤ rows.length ∧ ∀ j, j < i → rowBad rows.length (tags.getD j 0) (rows.getD j []) = false) (fun i => [(1, .pointer (some ⟨g, 0, none⟩)), (3, .int .i64 rows.length), (21, .int .i64 rows.length), (22, .int .i64 (i : Int))]) (fun _ => [blkO g #[.slice br rows.length cr, .slice bt tags.length ct] 26]) (fun i => rows.length - i) 0 ⟨by omega, fun j hj => by omega⟩ ⟨rfl, rfl, rfl, rfl, trivial⟩ rfl ?_
        rintro i ⟨h1, h2⟩
        by_cases c4 : i < rows.length
        · obtain ⟨b, off, rfl, hb⟩ := hr3 (by omega)
          obtain ⟨b', off', rfl, hb'⟩ := ht3 (by omega)
          have c4' : i < tags.length := by omega
          have hat := at_rdm (L := [blkO g #[.slice (some ⟨b, off, none⟩) rows.length cr, .slice (some ⟨b', off', none⟩) tags.length ct] 26]) hb' c4'
          obtain ⟨cs, hcs, hrow⟩ := hb i c4
          obtain ⟨q1, q2, q3⟩ := hcs
          have hti := htr i c4'
          have hta := int_at c4'
          have hra := row_at c4
          have hbad : ∀ (P : Prop), rowBad rows.length (tags.getD i 0) (rows.getD i []) = true → (if (List.range rows.length).any (fun i => rowBad rows.length (tags.getD i 0) (rows.getD i [])) = true then (1 : Int) else 0) = 1 := fun _ h => if_pos (any_range c4 h)
          rw [hta, hra] at hbad
          by_cases c5 : tags[i] < -1
          · rw [hbad True (by simp [rowBad, c5])]
            repeat (first
              | refine TL_val (rr_move rfl) rfl rfl rfl ?_
              | refine TL_val (rr_assign rfl) rfl rfl rfl ?_
              | refine TL_nil ?_
              | refine T_seq ?_
              | refine T_region ?_
              | refine T_condT rfl ?_
              | refine T_condF rfl ?_
              | refine T_skip ?_
              | refine T_exit ?_
              | refine T_ret ?_
              | refine T_block ?_
              | refine E_then ?_
              | refine E_thenX ?_
              | refine E_thenR ?_
              | refine E_blockN ?_
              | refine E_blockR ?_
              | refine E_blockX ?_
              | refine E_blockO rfl ?_
              | refine TL_val (rr_load1 TyC.ty rfl (at_blk (i := 0) rfl rfl)) rfl rfl rfl ?_
              | refine TL_val (rr_idx1 Und.eq TyC.ty rfl rfl c4') rfl rfl rfl ?_
              | refine TL_val (rr_load1 TyC.ty rfl hat) rfl rfl rfl ?_
              | refine TL_val (rr_pickT rfl rfl) rfl rfl rfl ?_
              | refine TL_val (rr_pickF rfl rfl) rfl rfl rfl ?_
              | refine TL_val (rr_len Und.eq rfl) rfl rfl rfl ?_
              | refine TL_val (rr_field FldC.fld rfl rfl) rfl rfl rfl ?_
              | refine TL_val (rr_lss rfl rfl (decide_eq_true (by omega))) rfl rfl rfl ?_
              | refine TL_val (rr_lss rfl rfl (decide_eq_false (by omega))) rfl rfl rfl ?_
              | refine TL_val (rr_gtr rfl rfl (decide_eq_true (by omega))) rfl rfl rfl ?_
              | refine TL_val (rr_gtr rfl rfl (decide_eq_false (by omega))) rfl rfl rfl ?_
              | refine TL_val (rr_eql rfl rfl (decide_eq_true (by omega))) rfl rfl rfl ?_
              | refine TL_val (rr_eql rfl rfl (decide_eq_false (by omega))) rfl rfl rfl ?_
              | refine TL_val (rr_add64 rfl rfl (by omega) (by omega) rfl) rfl rfl rfl ?_
              | refine TL_skip rfl rfl rfl rfl rfl rfl ?_
              | refine TL_gval (rr_load1 TyC.ty rfl (at_blk (i := 0) rfl rfl)) rfl rfl rfl rfl rfl ?_
              | refine TL_gval (rr_idx1 Und.eq TyC.ty rfl rfl c4') rfl rfl rfl rfl rfl ?_
              | refine TL_gval (rr_load1 TyC.ty rfl hat) rfl rfl rfl rfl rfl ?_
              | refine TL_gval (rr_move rfl) rfl rfl rfl rfl rfl ?_
              | refine TL_gval (rr_len Und.eq rfl) rfl rfl rfl rfl rfl ?_
              | refine TL_gval (rr_field FldC.fld rfl rfl) rfl rfl rfl rfl rfl ?_
              | refine TL_gval (rr_geq rfl rfl (decide_eq_true (by omega))) rfl rfl rfl rfl rfl ?_
              | refine TL_gval (rr_geq rfl rfl (decide_eq_false (by omega))) rfl rfl rfl rfl rfl ?_
              | refine TL_gval (rr_neq rfl rfl (decide_eq_true (by omega))) rfl rfl rfl rfl rfl ?_
              | refine TL_gval (rr_neq rfl rfl (decide_eq_false (by omega))) rfl rfl rfl rfl rfl ?_)
            exact E_ret1 rfl rfl fun w hm => hm.ret
          · by_cases c6 : 20 ≤ tags[i]
            · rw [hbad True (by simp [rowBad, c6])]
              repeat (first
                | refine TL_val (rr_move rfl) rfl rfl rfl ?_
                | refine TL_val (rr_assign rfl) rfl rfl rfl ?_
                | refine TL_nil ?_
                | refine T_seq ?_
                | refine T_region ?_
                | refine T_condT rfl ?_
                | refine T_condF rfl ?_
                | refine T_skip ?_
                | refine T_exit ?_
                | refine T_ret ?_
                | refine T_block ?_
                | refine E_then ?_
                | refine E_thenX ?_
                | refine E_thenR ?_
                | refine E_blockN ?_
                | refine E_blockR ?_
                | refine E_blockX ?_
                | refine E_blockO rfl ?_
                | refine TL_val (rr_load1 TyC.ty rfl (at_blk (i := 0) rfl rfl)) rfl rfl rfl ?_
                | refine TL_val (rr_idx1 Und.eq TyC.ty rfl rfl c4') rfl rfl rfl ?_
                | refine TL_val (rr_load1 TyC.ty rfl hat) rfl rfl rfl ?_
                | refine TL_val (rr_pickT rfl rfl) rfl rfl rfl ?_
                | refine TL_val (rr_pickF rfl rfl) rfl rfl rfl ?_
                | refine TL_val (rr_len Und.eq rfl) rfl rfl rfl ?_
                | refine TL_val (rr_field FldC.fld rfl rfl) rfl rfl rfl ?_
                | refine TL_val (rr_lss rfl rfl (decide_eq_true (by omega))) rfl rfl rfl ?_
                | refine TL_val (rr_lss rfl rfl (decide_eq_false (by omega))) rfl rfl rfl ?_
                | refine TL_val (rr_gtr rfl rfl (decide_eq_true (by omega))) rfl rfl rfl ?_
                | refine TL_val (rr_gtr rfl rfl (decide_eq_false (by omega))) rfl rfl rfl ?_
                | refine TL_val (rr_eql rfl rfl (decide_eq_true (by omega))) rfl rfl rfl ?_
                | refine TL_val (rr_eql rfl rfl (decide_eq_false (by omega))) rfl rfl rfl ?_
                | refine TL_val (rr_add64 rfl rfl (by omega) (by omega) rfl) rfl rfl rfl ?_
                | refine TL_skip rfl rfl rfl rfl rfl rfl ?_
                | refine TL_gval (rr_load1 TyC.ty rfl (at_blk (i := 0) rfl rfl)) rfl rfl rfl rfl rfl ?_
                | refine TL_gval (rr_idx1 Und.eq TyC.ty rfl rfl c4') rfl rfl rfl rfl rfl ?_
                | refine TL_gval (rr_load1 TyC.ty rfl hat) rfl rfl rfl rfl rfl ?_
                | refine TL_gval (rr_move rfl) rfl rfl rfl rfl rfl ?_
                | refine TL_gval (rr_len Und.eq rfl) rfl rfl rfl rfl rfl ?_
                | refine TL_gval (rr_field FldC.fld rfl rfl) rfl rfl rfl rfl rfl ?_
                | refine TL_gval (rr_geq rfl rfl (decide_eq_true (by omega))) rfl rfl rfl rfl rfl ?_
                | refine TL_gval (rr_geq rfl rfl (decide_eq_false (by omega))) rfl rfl rfl rfl rfl ?_
                | refine TL_gval (rr_neq rfl rfl (decide_eq_true (by omega))) rfl rfl rfl rfl rfl ?_
                | refine TL_gval (rr_neq rfl rfl (decide_eq_false (by omega))) rfl rfl rfl rfl rfl ?_)
              exact E_ret1 rfl rfl fun w hm => hm.ret
            · repeat (first
                | refine TL_val (rr_move rfl) rfl rfl rfl ?_
                | refine TL_val (rr_assign rfl) rfl rfl rfl ?_
                | refine TL_nil ?_
                | refine T_seq ?_
                | refine T_region ?_
                | refine T_condT rfl ?_
                | refine T_condF rfl ?_
                | refine T_skip ?_
                | refine T_exit ?_
                | refine T_ret ?_
                | refine T_block ?_
                | refine E_then ?_
                | refine E_thenX ?_
                | refine E_thenR ?_
                | refine E_blockN ?_
                | refine E_blockR ?_
                | refine E_blockX ?_
                | refine E_blockO rfl ?_
                | refine TL_val (rr_load1 TyC.ty rfl (at_blk (i := 0) rfl rfl)) rfl rfl rfl ?_
                | refine TL_val (rr_idx1 Und.eq TyC.ty rfl rfl c4') rfl rfl rfl ?_
                | refine TL_val (rr_load1 TyC.ty rfl hat) rfl rfl rfl ?_
                | refine TL_val (rr_idxc Und.eq TyC.ty rfl rfl c4) rfl rfl rfl ?_
                | refine TL_val (rr_loadN TyC.ty rfl (by rw [q2, List.length_map, q1]) (fun j v hj => at_rd hrow hj)) rfl rfl rfl ?_
                | refine TL_val (rr_pickT rfl rfl) rfl rfl rfl ?_
                | refine TL_val (rr_pickF rfl rfl) rfl rfl rfl ?_
                | refine TL_val (rr_len Und.eq rfl) rfl rfl rfl ?_
                | refine TL_val (rr_field FldC.fld rfl rfl) rfl rfl rfl ?_
                | refine TL_val (rr_lss rfl rfl (decide_eq_true (by omega))) rfl rfl rfl ?_
                | refine TL_val (rr_lss rfl rfl (decide_eq_false (by omega))) rfl rfl rfl ?_
                | refine TL_val (rr_gtr rfl rfl (decide_eq_true (by omega))) rfl rfl rfl ?_
                | refine TL_val (rr_gtr rfl rfl (decide_eq_false (by omega))) rfl rfl rfl ?_
                | refine TL_val (rr_eql rfl rfl (decide_eq_true (by omega))) rfl rfl rfl ?_
                | refine TL_val (rr_eql rfl rfl (decide_eq_false (by omega))) rfl rfl rfl ?_
                | refine TL_val (rr_add64 rfl rfl (by omega) (by omega) rfl) rfl rfl rfl ?_
                | refine TL_skip rfl rfl rfl rfl rfl rfl ?_
                | refine TL_gval (rr_load1 TyC.ty rfl (at_blk (i := 0) rfl rfl)) rfl rfl rfl rfl rfl ?_
                | refine TL_gval (rr_idx1 Und.eq TyC.ty rfl rfl c4') rfl rfl rfl rfl rfl ?_
                | refine TL_gval (rr_load1 TyC.ty rfl hat) rfl rfl rfl rfl rfl ?_
                | refine TL_gval (rr_idxc Und.eq TyC.ty rfl rfl c4) rfl rfl rfl rfl rfl ?_
                | refine TL_gval (rr_loadN TyC.ty rfl (by rw [q2, List.length_map, q1]) (fun j v hj => at_rd hrow hj)) rfl rfl rfl rfl rfl ?_
                | refine TL_gval (rr_move rfl) rfl rfl rfl rfl rfl ?_
                | refine TL_gval (rr_len Und.eq rfl) rfl rfl rfl rfl rfl ?_
                | refine TL_gval (rr_field FldC.fld rfl rfl) rfl rfl rfl rfl rfl ?_
                | refine TL_gval (rr_geq rfl rfl (decide_eq_true (by omega))) rfl rfl rfl rfl rfl ?_
                | refine TL_gval (rr_geq rfl rfl (decide_eq_false (by omega))) rfl rfl rfl rfl rfl ?_
                | refine TL_gval (rr_neq rfl rfl (decide_eq_true (by omega))) rfl rfl rfl rfl rfl ?_
                | refine TL_gval (rr_neq rfl rfl (decide_eq_false (by omega))) rfl rfl rfl rfl rfl ?_)
              refine T_loop (ι := Nat) (fun b => b ≤ 256 ∧ ∀ q, q < b → -1 ≤ rows[i].getD q 0 ∧ rows[i].getD q 0 < rows.length) (fun b => [(1, .pointer (some ⟨g, 0, none⟩)), (3, .int .i64 rows.length), (21, .int .i64 rows.length), (22, .int .i64 (i : Int)), (43, .agg cs.toArray), (44, .int .i64 (b : Int))]) (fun _ => [blkO g #[.slice (some ⟨b, off, none⟩) rows.length cr, .slice (some ⟨b', off', none⟩) tags.length ct] 26]) (fun b => 256 - b) 0 ⟨by omega, fun q hq => by omega⟩ ⟨rfl, rfl, rfl, rfl, rfl, rfl, trivial⟩ rfl ?_
              rintro q ⟨k1, k2⟩
              by_cases c7 : q < 256
              · have hql : q < rows[i].length := by omega
                have hqv := int_at hql
                have hcell : cs.toArray[q]? = some (.int .i16 rows[i][q]) := by rw [q2]; simp [hql]
                have hq3 := q3 _ (List.getElem_mem hql)
                have hmem : rows[i][q] ∈ rows[i] := List.getElem_mem hql
                generalize rows[i][q] = z at *
                by_cases c8 : z < -1
                · rw [hbad True (by simp only [rowBad, Bool.or_eq_true, List.any_eq_true]; exact .inr ⟨z, hmem, by simp [c8]⟩)]
                  clear k2 h2 hr3 ht3
                  repeat (first
                    | refine TL_val (rr_move rfl) rfl rfl rfl ?_
                    | refine TL_val (rr_assign rfl) rfl rfl rfl ?_
                    | refine TL_nil ?_
                    | refine T_seq ?_
                    | refine T_region ?_
                    | refine T_condT rfl ?_
                    | refine T_condF rfl ?_
                    | refine T_skip ?_
                    | refine T_exit ?_
                    | refine T_ret ?_
                    | refine T_block ?_
                    | refine E_then ?_
                    | refine E_thenX ?_
                    | refine E_thenR ?_
                    | refine E_blockN ?_
                    | refine E_blockR ?_
                    | refine E_blockX ?_
                    | refine E_blockO rfl ?_
                    | refine TL_val (rr_arridx Und.eq TyC.ty rfl rfl c7 hcell) rfl rfl rfl ?_
                    | refine TL_val (rr_pickT rfl rfl) rfl rfl rfl ?_
                    | refine TL_val (rr_pickF rfl rfl) rfl rfl rfl ?_
                    | refine TL_val (rr_len Und.eq rfl) rfl rfl rfl ?_
                    | refine TL_val (rr_field FldC.fld rfl rfl) rfl rfl rfl ?_
                    | refine TL_val (rr_lss rfl rfl (decide_eq_true (by omega))) rfl rfl rfl ?_
                    | refine TL_val (rr_lss rfl rfl (decide_eq_false (by omega))) rfl rfl rfl ?_
                    | refine TL_val (rr_gtr rfl rfl (decide_eq_true (by omega))) rfl rfl rfl ?_
                    | refine TL_val (rr_gtr rfl rfl (decide_eq_false (by omega))) rfl rfl rfl ?_
                    | refine TL_val (rr_eql rfl rfl (decide_eq_true (by omega))) rfl rfl rfl ?_
                    | refine TL_val (rr_eql rfl rfl (decide_eq_false (by omega))) rfl rfl rfl ?_
                    | refine TL_val (rr_add64 rfl rfl (by omega) (by omega) rfl) rfl rfl rfl ?_
                    | refine TL_skip rfl rfl rfl rfl rfl rfl ?_
                    | refine TL_gval (rr_conv Und.eq Und.eq rfl (wrap_in (by omega) (by omega))) rfl rfl rfl rfl rfl ?_
                    | refine TL_gval (rr_move rfl) rfl rfl rfl rfl rfl ?_
                    | refine TL_gval (rr_len Und.eq rfl) rfl rfl rfl rfl rfl ?_
                    | refine TL_gval (rr_field FldC.fld rfl rfl) rfl rfl rfl rfl rfl ?_
                    | refine TL_gval (rr_geq rfl rfl (decide_eq_true (by omega))) rfl rfl rfl rfl rfl ?_
                    | refine TL_gval (rr_geq rfl rfl (decide_eq_false (by omega))) rfl rfl rfl rfl rfl ?_
                    | refine TL_gval (rr_neq rfl rfl (decide_eq_true (by omega))) rfl rfl rfl rfl rfl ?_
                    | refine TL_gval (rr_neq rfl rfl (decide_eq_false (by omega))) rfl rfl rfl rfl rfl ?_)
                  exact E_ret1 rfl rfl fun w hm => hm.ret
                · by_cases c9 : (rows.length : Int) ≤ z
                  · rw [hbad True (by simp only [rowBad, Bool.or_eq_true, List.any_eq_true]; exact .inr ⟨z, hmem, by simp [c9]⟩)]
                    clear k2 h2 hr3 ht3
                    repeat (first
                      | refine TL_val (rr_move rfl) rfl rfl rfl ?_
                      | refine TL_val (rr_assign rfl) rfl rfl rfl ?_
                      | refine TL_nil ?_
                      | refine T_seq ?_
                      | refine T_region ?_
                      | refine T_condT rfl ?_
                      | refine T_condF rfl ?_
                      | refine T_skip ?_
                      | refine T_exit ?_
                      | refine T_ret ?_
                      | refine T_block ?_
                      | refine E_then ?_
                      | refine E_thenX ?_
                      | refine E_thenR ?_
                      | refine E_blockN ?_
                      | refine E_blockR ?_
                      | refine E_blockX ?_
                      | refine E_blockO rfl ?_
                      | refine TL_val (rr_arridx Und.eq TyC.ty rfl rfl c7 hcell) rfl rfl rfl ?_
                      | refine TL_val (rr_pickT rfl rfl) rfl rfl rfl ?_
                      | refine TL_val (rr_pickF rfl rfl) rfl rfl rfl ?_
                      | refine TL_val (rr_len Und.eq rfl) rfl rfl rfl ?_
                      | refine TL_val (rr_field FldC.fld rfl rfl) rfl rfl rfl ?_
                      | refine TL_val (rr_lss rfl rfl (decide_eq_true (by omega))) rfl rfl rfl ?_
                      | refine TL_val (rr_lss rfl rfl (decide_eq_false (by omega))) rfl rfl rfl ?_
                      | refine TL_val (rr_gtr rfl rfl (decide_eq_true (by omega))) rfl rfl rfl ?_
                      | refine TL_val (rr_gtr rfl rfl (decide_eq_false (by omega))) rfl rfl rfl ?_
                      | refine TL_val (rr_eql rfl rfl (decide_eq_true (by omega))) rfl rfl rfl ?_
                      | refine TL_val (rr_eql rfl rfl (decide_eq_false (by omega))) rfl rfl rfl ?_
                      | refine TL_val (rr_add64 rfl rfl (by omega) (by omega) rfl) rfl rfl rfl ?_
                      | refine TL_skip rfl rfl rfl rfl rfl rfl ?_
                      | refine TL_gval (rr_conv Und.eq Und.eq rfl (wrap_in (by omega) (by omega))) rfl rfl rfl rfl rfl ?_
                      | refine TL_gval (rr_move rfl) rfl rfl rfl rfl rfl ?_
                      | refine TL_gval (rr_len Und.eq rfl) rfl rfl rfl rfl rfl ?_
                      | refine TL_gval (rr_field FldC.fld rfl rfl) rfl rfl rfl rfl rfl ?_
                      | refine TL_gval (rr_geq rfl rfl (decide_eq_true (by omega))) rfl rfl rfl rfl rfl ?_
                      | refine TL_gval (rr_geq rfl rfl (decide_eq_false (by omega))) rfl rfl rfl rfl rfl ?_
                      | refine TL_gval (rr_neq rfl rfl (decide_eq_true (by omega))) rfl rfl rfl rfl rfl ?_
                      | refine TL_gval (rr_neq rfl rfl (decide_eq_false (by omega))) rfl rfl rfl rfl rfl ?_)
                    exact E_ret1 rfl rfl fun w hm => hm.ret
                  · repeat (first
                      | refine TL_val (rr_move rfl) rfl rfl rfl ?_
                      | refine TL_val (rr_assign rfl) rfl rfl rfl ?_
                      | refine TL_nil ?_
                      | refine T_seq ?_
                      | refine T_region ?_
                      | refine T_condT rfl ?_
                      | refine T_condF rfl ?_
                      | refine T_skip ?_
                      | refine T_exit ?_
                      | refine T_ret ?_
                      | refine T_block ?_
                      | refine E_then ?_
                      | refine E_thenX ?_
                      | refine E_thenR ?_
                      | refine E_blockN ?_
                      | refine E_blockR ?_
                      | refine E_blockX ?_
                      | refine E_blockO rfl ?_
                      | refine TL_val (rr_arridx Und.eq TyC.ty rfl rfl c7 hcell) rfl rfl rfl ?_
                      | refine TL_val (rr_pickT rfl rfl) rfl rfl rfl ?_
                      | refine TL_val (rr_pickF rfl rfl) rfl rfl rfl ?_
                      | refine TL_val (rr_len Und.eq rfl) rfl rfl rfl ?_
                      | refine TL_val (rr_field FldC.fld rfl rfl) rfl rfl rfl ?_
                      | refine TL_val (rr_lss rfl rfl (decide_eq_true (by omega))) rfl rfl rfl ?_
                      | refine TL_val (rr_lss rfl rfl (decide_eq_false (by omega))) rfl rfl rfl ?_
                      | refine TL_val (rr_gtr rfl rfl (decide_eq_true (by omega))) rfl rfl rfl ?_
                      | refine TL_val (rr_gtr rfl rfl (decide_eq_false (by omega))) rfl rfl rfl ?_
                      | refine TL_val (rr_eql rfl rfl (decide_eq_true (by omega))) rfl rfl rfl ?_
                      | refine TL_val (rr_eql rfl rfl (decide_eq_false (by omega))) rfl rfl rfl ?_
                      | refine TL_val (rr_add64 rfl rfl (by omega) (by omega) rfl) rfl rfl rfl ?_
                      | refine TL_skip rfl rfl rfl rfl rfl rfl ?_
                      | refine TL_gval (rr_conv Und.eq Und.eq rfl (wrap_in (by omega) (by omega))) rfl rfl rfl rfl rfl ?_
                      | refine TL_gval (rr_move rfl) rfl rfl rfl rfl rfl ?_
                      | refine TL_gval (rr_len Und.eq rfl) rfl rfl rfl rfl rfl ?_
                      | refine TL_gval (rr_field FldC.fld rfl rfl) rfl rfl rfl rfl rfl ?_
                      | refine TL_gval (rr_geq rfl rfl (decide_eq_true (by omega))) rfl rfl rfl rfl rfl ?_
                      | refine TL_gval (rr_geq rfl rfl (decide_eq_false (by omega))) rfl rfl rfl rfl rfl ?_
                      | refine TL_gval (rr_neq rfl rfl (decide_eq_true (by omega))) rfl rfl rfl rfl rfl ?_
                      | refine TL_gval (rr_neq rfl rfl (decide_eq_false (by omega))) rfl rfl rfl rfl rfl ?_)
                    exact E_round (q + 1) ⟨by omega, fun q' hq' => if e : q' < q then k2 q' e else (by obtain rfl : q' = q := (by omega); rw [hqv]; omega)⟩ (by show 256 - (q + 1) < 256 - q; omega) ⟨rfl, rfl, rfl, rfl, rfl, rfl, trivial⟩ rfl
              · have hgood : rowBad rows.length (tags.getD i 0) (rows.getD i []) = false := by
                  rw [hta, hra]
                  simp only [rowBad, Bool.or_eq_false_iff, decide_eq_false_iff_not, List.any_eq_false, Bool.not_eq_true]
                  refine ⟨⟨c5, c6⟩, fun z hz => ?_⟩
                  obtain ⟨q', hq', rfl⟩ := List.mem_iff_getElem.1 hz
                  have := k2 q' (by omega)
                  rw [int_at hq'] at this
                  simp; omega
                repeat (first
                  | refine TL_val (rr_move rfl) rfl rfl rfl ?_
                  | refine TL_val (rr_assign rfl) rfl rfl rfl ?_
                  | refine TL_nil ?_
                  | refine T_seq ?_
                  | refine T_region ?_
                  | refine T_condT rfl ?_
                  | refine T_condF rfl ?_
                  | refine T_skip ?_
                  | refine T_exit ?_
                  | refine T_ret ?_
                  | refine T_block ?_
                  | refine E_then ?_
                  | refine E_thenX ?_
                  | refine E_thenR ?_
                  | refine E_blockN ?_
                  | refine E_blockR ?_
                  | refine E_blockX ?_
                  | refine E_blockO rfl ?_
                  | refine TL_val (rr_pickT rfl rfl) rfl rfl rfl ?_
                  | refine TL_val (rr_pickF rfl rfl) rfl rfl rfl ?_
                  | refine TL_val (rr_len Und.eq rfl) rfl rfl rfl ?_
                  | refine TL_val (rr_field FldC.fld rfl rfl) rfl rfl rfl ?_
                  | refine TL_val (rr_lss rfl rfl (decide_eq_true (by omega))) rfl rfl rfl ?_
                  | refine TL_val (rr_lss rfl rfl (decide_eq_false (by omega))) rfl rfl rfl ?_
                  | refine TL_val (rr_gtr rfl rfl (decide_eq_true (by omega))) rfl rfl rfl ?_
                  | refine TL_val (rr_gtr rfl rfl (decide_eq_false (by omega))) rfl rfl rfl ?_
                  | refine TL_val (rr_eql rfl rfl (decide_eq_true (by omega))) rfl rfl rfl ?_
                  | refine TL_val (rr_eql rfl rfl (decide_eq_false (by omega))) rfl rfl rfl ?_
                  | refine TL_val (rr_add64 rfl rfl (by omega) (by omega) rfl) rfl rfl rfl ?_
                  | refine TL_skip rfl rfl rfl rfl rfl rfl ?_
                  | refine TL_gval (rr_move rfl) rfl rfl rfl rfl rfl ?_
                  | refine TL_gval (rr_len Und.eq rfl) rfl rfl rfl rfl rfl ?_
                  | refine TL_gval (rr_field FldC.fld rfl rfl) rfl rfl rfl rfl rfl ?_
                  | refine TL_gval (rr_geq rfl rfl (decide_eq_true (by omega))) rfl rfl rfl rfl rfl ?_
                  | refine TL_gval (rr_geq rfl rfl (decide_eq_false (by omega))) rfl rfl rfl rfl rfl ?_
                  | refine TL_gval (rr_neq rfl rfl (decide_eq_true (by omega))) rfl rfl rfl rfl rfl ?_
                  | refine TL_gval (rr_neq rfl rfl (decide_eq_false (by omega))) rfl rfl rfl rfl rfl ?_)
                exact E_round (i + 1) ⟨by omega, fun j hj => if e : j < i then h2 j e else (by obtain rfl : j = i := (by omega); exact hgood)⟩ (by show rows.length - (i + 1) < rows.length - i; omega) ⟨rfl, rfl, rfl, rfl, trivial⟩ rfl
        · have hno : ¬ (List.range rows.length).any (fun i => rowBad rows.length (tags.getD i 0) (rows.getD i [])) = true := by
            simp only [List.any_eq_true, List.mem_range, not_exists, not_and]
            intro j hj; rw [h2 j (by omega)]; simp
          rw [if_neg hno]
          repeat (first
            | refine TL_val (rr_move rfl) rfl rfl rfl ?_
            | refine TL_val (rr_assign rfl) rfl rfl rfl ?_
            | refine TL_nil ?_
            | refine T_seq ?_
            | refine T_region ?_
            | refine T_condT rfl ?_
            | refine T_condF rfl ?_
            | refine T_skip ?_
            | refine T_exit ?_
            | refine T_ret ?_
            | refine T_block ?_
            | refine E_then ?_
            | refine E_thenX ?_
            | refine E_thenR ?_
            | refine E_blockN ?_
            | refine E_blockR ?_
            | refine E_blockX ?_
            | refine E_blockO rfl ?_
            | refine TL_val (rr_pickT rfl rfl) rfl rfl rfl ?_
            | refine TL_val (rr_pickF rfl rfl) rfl rfl rfl ?_
            | refine TL_val (rr_len Und.eq rfl) rfl rfl rfl ?_
            | refine TL_val (rr_field FldC.fld rfl rfl) rfl rfl rfl ?_
            | refine TL_val (rr_lss rfl rfl (decide_eq_true (by omega))) rfl rfl rfl ?_
            | refine TL_val (rr_lss rfl rfl (decide_eq_false (by omega))) rfl rfl rfl ?_
            | refine TL_val (rr_gtr rfl rfl (decide_eq_true (by omega))) rfl rfl rfl ?_
            | refine TL_val (rr_gtr rfl rfl (decide_eq_false (by omega))) rfl rfl rfl ?_
            | refine TL_val (rr_eql rfl rfl (decide_eq_true (by omega))) rfl rfl rfl ?_
            | refine TL_val (rr_eql rfl rfl (decide_eq_false (by omega))) rfl rfl rfl ?_
            | refine TL_val (rr_add64 rfl rfl (by omega) (by omega) rfl) rfl rfl rfl ?_
            | refine TL_skip rfl rfl rfl rfl rfl rfl ?_
            | refine TL_gval (rr_move rfl) rfl rfl rfl rfl rfl ?_
            | refine TL_gval (rr_len Und.eq rfl) rfl rfl rfl rfl rfl ?_
            | refine TL_gval (rr_field FldC.fld rfl rfl) rfl rfl rfl rfl rfl ?_
            | refine TL_gval (rr_geq rfl rfl (decide_eq_true (by omega))) rfl rfl rfl rfl rfl ?_
            | refine TL_gval (rr_geq rfl rfl (decide_eq_false (by omega))) rfl rfl rfl rfl rfl ?_
            | refine TL_gval (rr_neq rfl rfl (decide_eq_true (by omega))) rfl rfl rfl rfl rfl ?_
            | refine TL_gval (rr_neq rfl rfl (decide_eq_false (by omega))) rfl rfl rfl rfl rfl ?_)
          exact E_ret1 rfl rfl fun w hm => hm.ret
      · rw [if_pos (.inr c3)]
        repeat (first
          | refine TL_val (rr_move rfl) rfl rfl rfl ?_
          | refine TL_val (rr_assign rfl) rfl rfl rfl ?_
          | refine TL_nil ?_
          | refine T_seq ?_
          | refine T_region ?_
          | refine T_condT rfl ?_
          | refine T_condF rfl ?_
          | refine T_skip ?_
          | refine T_exit ?_
          | refine T_ret ?_
          | refine T_block ?_
          | refine E_then ?_
          | refine E_thenX ?_
          | refine E_thenR ?_
          | refine E_blockN ?_
          | refine E_blockR ?_
          | refine E_blockX ?_
          | refine E_blockO rfl ?_
          | refine TL_val (rr_load1 TyC.ty rfl (at_blk (i := 0) rfl rfl)) rfl rfl rfl ?_
          | refine TL_val (rr_pickT rfl rfl) rfl rfl rfl ?_
          | refine TL_val (rr_pickF rfl rfl) rfl rfl rfl ?_
          | refine TL_val (rr_len Und.eq rfl) rfl rfl rfl ?_
          | refine TL_val (rr_field FldC.fld rfl rfl) rfl rfl rfl ?_
          | refine TL_val (rr_lss rfl rfl (decide_eq_true (by omega))) rfl rfl rfl ?_
          | refine TL_val (rr_lss rfl rfl (decide_eq_false (by omega))) rfl rfl rfl ?_
          | refine TL_val (rr_gtr rfl rfl (decide_eq_true (by omega))) rfl rfl rfl ?_
          | refine TL_val (rr_gtr rfl rfl (decide_eq_false (by omega))) rfl rfl rfl ?_
          | refine TL_val (rr_eql rfl rfl (decide_eq_true (by omega))) rfl rfl rfl ?_
          | refine TL_val (rr_eql rfl rfl (decide_eq_false (by omega))) rfl rfl rfl ?_
          | refine TL_val (rr_add64 rfl rfl (by omega) (by omega) rfl) rfl rfl rfl ?_
          | refine TL_skip rfl rfl rfl rfl rfl rfl ?_
          | refine TL_gval (rr_load1 TyC.ty rfl (at_blk (i := 0) rfl rfl)) rfl rfl rfl rfl rfl ?_
          | refine TL_gval (rr_move rfl) rfl rfl rfl rfl rfl ?_
          | refine TL_gval (rr_len Und.eq rfl) rfl rfl rfl rfl rfl ?_
          | refine TL_gval (rr_field FldC.fld rfl rfl) rfl rfl rfl rfl rfl ?_
          | refine TL_gval (rr_geq rfl rfl (decide_eq_true (by omega))) rfl rfl rfl rfl rfl ?_
          | refine TL_gval (rr_geq rfl rfl (decide_eq_false (by omega))) rfl rfl rfl rfl rfl ?_
          | refine TL_gval (rr_neq rfl rfl (decide_eq_true (by omega))) rfl rfl rfl rfl rfl ?_
          | refine TL_gval (rr_neq rfl rfl (decide_eq_false (by omega))) rfl rfl rfl rfl rfl ?_)
        exact E_ret1 rfl rfl fun w hm => hm.ret
end Go.Proofs.Ytknojgjdaafboaa.eng

/- DfaR -/
namespace Go.Proofs.Ytknojgjdaafboaa.eng
open Go.RowKit kit mix dfaL
/-- a cell of a row -/
theorem dfa_cell {w : World} {rows : List (List Int)} {b off i j : Nat} (hb : ∀ i (h : i < rows.length), ∃ cs, isRow cs rows[i] ∧ Rd w b (off + i * 256) cs) (hi : i < rows.length) (hj : j < 256) : w.cell? ⟨b, off + i * 256 + j, none⟩ = some (.int .i16 ((rows.getD i []).getD j 0)) ∧ -32768 ≤ (rows.getD i []).getD j 0 ∧ (rows.getD i []).getD j 0 ≤ 32767 := by
  obtain ⟨cs, ⟨q1, q2, q3⟩, h2⟩ := hb i hi
  rw [row_at hi]
  have hjl : j < rows[i].length := by omega
  rw [int_at hjl]
  exact ⟨h2 j _ (by rw [q2]; simp [hjl]), q3 _ (List.getElem_mem hjl)⟩
set_option maxHeartbeats 4000000 in
theorem dfaRun_calls (v : Value) (rows : List (List Int)) (tags : List Int) (s : List UInt8) (w : World) (h : IsDfa w v rows tags) (hs : s.length ≤ 9223372036854775807) :
    Calls Try.prog 11 #[v, str s] w (Meets (ret (.tuple #[.int .i64 (runF rows tags s).1, .int .i64 (runF rows tags s).2])) w) := by
  have hchk : ∀ (L : List Own) w', Mem w L w' → _ := fun L w' hm => dfaCheck_calls v rows tags w' (h.up hm)
  obtain ⟨vr, vt, rfl, hr, ht, h256⟩ := h
  clear ht
  obtain ⟨br, cr, rfl, hr1, hr2, hr3⟩ := hr
  unfold maxLen at hr2
  refine enter (args := [.agg #[.slice br rows.length cr, vt], str s]) (n := 35) Try.func11 rfl rfl rfl ?_
  refine T_seq (T_region (TL_box rfl rfl rfl fun g => ?_))
  unfold runF
  repeat (first
    | refine TL_val (rr_move rfl) rfl rfl rfl ?_
    | refine TL_val (rr_assign rfl) rfl rfl rfl ?_
    | refine TL_nil ?_
    | refine T_seq ?_
    | refine T_region ?_
    | refine T_condT rfl ?_
    | refine T_condF rfl ?_
    | refine T_skip ?_
    | refine T_exit ?_
    | refine T_ret ?_
    | refine T_block ?_
    | refine E_then ?_
    | refine E_thenX ?_
    | refine E_thenR ?_
    | refine E_blockN ?_
    | refine E_blockR ?_
    | refine E_blockX ?_
    | refine E_blockO rfl ?_
    | refine TL_val (rr_loadB (i := 0) TyC.ty rfl rfl rfl) rfl rfl rfl ?_
    | refine TL_val (rr_pickT rfl rfl) rfl rfl rfl ?_
    | refine TL_val (rr_pickF rfl rfl) rfl rfl rfl ?_
    | refine TL_val (rr_strlen Und.eq rfl) rfl rfl rfl ?_
    | refine TL_val (rr_field FldC.fld rfl rfl) rfl rfl rfl ?_
    | refine TL_val (rr_lss rfl rfl (decide_eq_true (by omega))) rfl rfl rfl ?_
    | refine TL_val (rr_lss rfl rfl (decide_eq_false (by omega))) rfl rfl rfl ?_
    | refine TL_val (rr_neq rfl rfl (decide_eq_true (by omega))) rfl rfl rfl ?_
    | refine TL_val (rr_neq rfl rfl (decide_eq_false (by omega))) rfl rfl rfl ?_
    | refine TL_val (rr_add64 rfl rfl (by omega) (by omega) rfl) rfl rfl rfl ?_
    | refine TL_skip rfl rfl rfl rfl rfl rfl ?_
    | refine TL_gval (rr_move rfl) rfl rfl rfl rfl rfl ?_
    | refine TL_gval (rr_geq rfl rfl (decide_eq_true (by omega))) rfl rfl rfl rfl rfl ?_
    | refine TL_gval (rr_geq rfl rfl (decide_eq_false (by omega))) rfl rfl rfl rfl rfl ?_)
  refine TL_call (he1 EntersC.en rfl rfl) (fun w hm => hchk _ _ hm) rfl rfl rfl ?_
  intro _ _
  by_cases c1 : checkF rows tags = 0
  · rw [if_neg (by simpa using c1)]
    obtain ⟨k1, k2, k3, k4⟩ := check_ok c1
    rw [c1]
    repeat (first
      | refine TL_val (rr_move rfl) rfl rfl rfl ?_
      | refine TL_val (rr_assign rfl) rfl rfl rfl ?_
      | refine TL_nil ?_
      | refine T_seq ?_
      | refine T_region ?_
      | refine T_condT rfl ?_
      | refine T_condF rfl ?_
      | refine T_skip ?_
      | refine T_exit ?_
      | refine T_ret ?_
      | refine T_block ?_
      | refine E_then ?_
      | refine E_thenX ?_
      | refine E_thenR ?_
      | refine E_blockN ?_
      | refine E_blockR ?_
      | refine E_blockX ?_
      | refine E_blockO rfl ?_
      | refine TL_val (rr_pickT rfl rfl) rfl rfl rfl ?_
      | refine TL_val (rr_pickF rfl rfl) rfl rfl rfl ?_
      | refine TL_val (rr_strlen Und.eq rfl) rfl rfl rfl ?_
      | refine TL_val (rr_field FldC.fld rfl rfl) rfl rfl rfl ?_
      | refine TL_val (rr_lss rfl rfl (decide_eq_true (by omega))) rfl rfl rfl ?_
      | refine TL_val (rr_lss rfl rfl (decide_eq_false (by omega))) rfl rfl rfl ?_
      | refine TL_val (rr_neq rfl rfl (decide_eq_true (by omega))) rfl rfl rfl ?_
      | refine TL_val (rr_neq rfl rfl (decide_eq_false (by omega))) rfl rfl rfl ?_
      | refine TL_val (rr_add64 rfl rfl (by omega) (by omega) rfl) rfl rfl rfl ?_
      | refine TL_skip rfl rfl rfl rfl rfl rfl ?_
      | refine TL_gval (rr_move rfl) rfl rfl rfl rfl rfl ?_
      | refine TL_gval (rr_geq rfl rfl (decide_eq_true (by omega))) rfl rfl rfl rfl rfl ?_
      | refine TL_gval (rr_geq rfl rfl (decide_eq_false (by omega))) rfl rfl rfl rfl rfl ?_)
    refine T_loop (ι := Nat × Int) (fun (i, now) => goes rows 0 s = goes rows now (s.drop i) ∧ i ≤ s.length ∧ -1 ≤ now ∧ now < rows.length) (fun (i, now) => [(1, str s), (2, .pointer (some ⟨g, 0, none⟩)), (7, .int .i64 now), (8, .int .i64 (i : Int))]) (fun _ => [blkO g #[.slice br rows.length cr, vt] 26]) (fun (i, _) => s.length - i) (0, 0) ⟨rfl, by omega, by omega, by omega⟩ ⟨rfl, rfl, rfl, rfl, trivial⟩ rfl ?_
    rintro ⟨i, now⟩ ⟨h1, h2, h3, h4⟩
    by_cases c2 : i < s.length
    · obtain ⟨b, hb⟩ : ∃ b, s[i]? = some b := ⟨_, List.getElem?_eq_getElem c2⟩
      have hd : s.drop i = b :: s.drop (i + 1) := by rw [List.drop_eq_getElem_cons c2, (List.getElem?_eq_some_iff.1 hb).2]
      rw [hd] at h1
      simp only [goes] at h1
      by_cases c3 : 0 ≤ now
      · rw [if_neg (by omega)] at h1
        obtain ⟨B, off, rfl, hB⟩ := hr3 (by omega)
        have hbl := b.toNat_lt
        obtain ⟨m, rfl⟩ : ∃ m : Nat, now = m := ⟨now.toNat, by omega⟩
        have hm' : m < rows.length := by omega
        obtain ⟨d1, d2, d3⟩ := dfa_cell hB hm' (j := b.toNat) (by omega)
        have hst := step_range c1 h256 (now := (m : Int)) (by omega) h4 b
        rw [Int.toNat_natCast] at hst h1
        generalize (rows.getD m []).getD b.toNat 0 = z at *
        clear hd hr3 k4
        repeat (first
          | refine TL_val (rr_move rfl) rfl rfl rfl ?_
          | refine TL_val (rr_assign rfl) rfl rfl rfl ?_
          | refine TL_nil ?_
          | refine T_seq ?_
          | refine T_region ?_
          | refine T_condT rfl ?_
          | refine T_condF rfl ?_
          | refine T_skip ?_
          | refine T_exit ?_
          | refine T_ret ?_
          | refine T_block ?_
          | refine E_then ?_
          | refine E_thenX ?_
          | refine E_thenR ?_
          | refine E_blockN ?_
          | refine E_blockR ?_
          | refine E_blockX ?_
          | refine E_blockO rfl ?_
          | refine TL_val (rr_pickT rfl rfl) rfl rfl rfl ?_
          | refine TL_val (rr_pickF rfl rfl) rfl rfl rfl ?_
          | refine TL_val (rr_strlen Und.eq rfl) rfl rfl rfl ?_
          | refine TL_val (rr_field FldC.fld rfl rfl) rfl rfl rfl ?_
          | refine TL_val (rr_lss rfl rfl (decide_eq_true (by omega))) rfl rfl rfl ?_
          | refine TL_val (rr_lss rfl rfl (decide_eq_false (by omega))) rfl rfl rfl ?_
          | refine TL_val (rr_neq rfl rfl (decide_eq_true (by omega))) rfl rfl rfl ?_
          | refine TL_val (rr_neq rfl rfl (decide_eq_false (by omega))) rfl rfl rfl ?_
          | refine TL_val (rr_add64 rfl rfl (by omega) (by omega) rfl) rfl rfl rfl ?_
          | refine TL_skip rfl rfl rfl rfl rfl rfl ?_
          | refine TL_gval (rr_move rfl) rfl rfl rfl rfl rfl ?_
          | refine TL_gval (rr_geq rfl rfl (decide_eq_true (by omega))) rfl rfl rfl rfl rfl ?_
          | refine TL_gval (rr_geq rfl rfl (decide_eq_false (by omega))) rfl rfl rfl rfl rfl ?_)
        refine T_draw 10 (List.replicate 10 true) rfl (by kernel_rfl) (by kernel_rfl) (by intro c a d v w h; cases d <;> exact h) ?_
        repeat (first
          | refine TM_val (rr_move rfl) rfl rfl rfl ?_
          | refine TM_val (rr_assign rfl) rfl rfl rfl ?_
          | refine TM_val (rr_load1 TyC.ty rfl (at_blk (i := 0) rfl rfl)) rfl rfl rfl ?_
          | refine TM_val (rr_stridx Und.eq rfl rfl (by omega) hb) rfl rfl rfl ?_
          | refine TM_val (rr_idxc Und.eq TyC.ty rfl rfl hm') rfl rfl rfl ?_
          | refine TM_val (rr_aidx1 Und.eq TyC.ty rfl rfl hbl) rfl rfl rfl ?_
          | refine TM_val (rr_load1 TyC.ty rfl (at_old d1)) rfl rfl rfl ?_
          | refine TM_val (rr_conv Und.eq Und.eq rfl (wrap_in (by omega) (by omega))) rfl rfl rfl ?_
          | refine TM_val (rr_pickT rfl rfl) rfl rfl rfl ?_
          | refine TM_val (rr_pickF rfl rfl) rfl rfl rfl ?_
          | refine TM_val (rr_strlen Und.eq rfl) rfl rfl rfl ?_
          | refine TM_val (rr_field FldC.fld rfl rfl) rfl rfl rfl ?_
          | refine TM_val (rr_lss rfl rfl (decide_eq_true (by omega))) rfl rfl rfl ?_
          | refine TM_val (rr_lss rfl rfl (decide_eq_false (by omega))) rfl rfl rfl ?_
          | refine TM_val (rr_neq rfl rfl (decide_eq_true (by omega))) rfl rfl rfl ?_
          | refine TM_val (rr_neq rfl rfl (decide_eq_false (by omega))) rfl rfl rfl ?_
          | refine TM_val (rr_add64 rfl rfl (by omega) (by omega) rfl) rfl rfl rfl ?_
          | refine TM_skip rfl rfl rfl rfl rfl rfl ?_
          | refine TM_gval (rr_move rfl) rfl rfl rfl rfl rfl ?_
          | refine TM_gval (rr_geq rfl rfl (decide_eq_true (by omega))) rfl rfl rfl rfl rfl ?_
          | refine TM_gval (rr_geq rfl rfl (decide_eq_false (by omega))) rfl rfl rfl rfl rfl ?_
          | refine TM_end ?_)
        repeat (first
          | refine TL_val (rr_move rfl) rfl rfl rfl ?_
          | refine TL_val (rr_assign rfl) rfl rfl rfl ?_
          | refine TL_nil ?_
          | refine T_seq ?_
          | refine T_region ?_
          | refine T_condT rfl ?_
          | refine T_condF rfl ?_
          | refine T_skip ?_
          | refine T_exit ?_
          | refine T_ret ?_
          | refine T_block ?_
          | refine E_then ?_
          | refine E_thenX ?_
          | refine E_thenR ?_
          | refine E_blockN ?_
          | refine E_blockR ?_
          | refine E_blockX ?_
          | refine E_blockO rfl ?_
          | refine TL_val (rr_pickT rfl rfl) rfl rfl rfl ?_
          | refine TL_val (rr_pickF rfl rfl) rfl rfl rfl ?_
          | refine TL_val (rr_strlen Und.eq rfl) rfl rfl rfl ?_
          | refine TL_val (rr_field FldC.fld rfl rfl) rfl rfl rfl ?_
          | refine TL_val (rr_lss rfl rfl (decide_eq_true (by omega))) rfl rfl rfl ?_
          | refine TL_val (rr_lss rfl rfl (decide_eq_false (by omega))) rfl rfl rfl ?_
          | refine TL_val (rr_neq rfl rfl (decide_eq_true (by omega))) rfl rfl rfl ?_
          | refine TL_val (rr_neq rfl rfl (decide_eq_false (by omega))) rfl rfl rfl ?_
          | refine TL_val (rr_add64 rfl rfl (by omega) (by omega) rfl) rfl rfl rfl ?_
          | refine TL_skip rfl rfl rfl rfl rfl rfl ?_
          | refine TL_gval (rr_move rfl) rfl rfl rfl rfl rfl ?_
          | refine TL_gval (rr_geq rfl rfl (decide_eq_true (by omega))) rfl rfl rfl rfl rfl ?_
          | refine TL_gval (rr_geq rfl rfl (decide_eq_false (by omega))) rfl rfl rfl rfl rfl ?_)
        exact E_round (i + 1, z) ⟨h1, by omega, hst.1, hst.2⟩ (by show s.length - (i + 1) < s.length - i; omega) ⟨rfl, rfl, rfl, rfl, trivial⟩ rfl
      · rw [if_pos (by omega)] at h1
        rw [h1]
        repeat (first
          | refine TL_val (rr_move rfl) rfl rfl rfl ?_
          | refine TL_val (rr_assign rfl) rfl rfl rfl ?_
          | refine TL_nil ?_
          | refine T_seq ?_
          | refine T_region ?_
          | refine T_condT rfl ?_
          | refine T_condF rfl ?_
          | refine T_skip ?_
          | refine T_exit ?_
          | refine T_ret ?_
          | refine T_block ?_
          | refine E_then ?_
          | refine E_thenX ?_
          | refine E_thenR ?_
          | refine E_blockN ?_
          | refine E_blockR ?_
          | refine E_blockX ?_
          | refine E_blockO rfl ?_
          | refine TL_val (rr_pickT rfl rfl) rfl rfl rfl ?_
          | refine TL_val (rr_pickF rfl rfl) rfl rfl rfl ?_
          | refine TL_val (rr_strlen Und.eq rfl) rfl rfl rfl ?_
          | refine TL_val (rr_field FldC.fld rfl rfl) rfl rfl rfl ?_
          | refine TL_val (rr_lss rfl rfl (decide_eq_true (by omega))) rfl rfl rfl ?_
          | refine TL_val (rr_lss rfl rfl (decide_eq_false (by omega))) rfl rfl rfl ?_
          | refine TL_val (rr_neq rfl rfl (decide_eq_true (by omega))) rfl rfl rfl ?_
          | refine TL_val (rr_neq rfl rfl (decide_eq_false (by omega))) rfl rfl rfl ?_
          | refine TL_val (rr_add64 rfl rfl (by omega) (by omega) rfl) rfl rfl rfl ?_
          | refine TL_skip rfl rfl rfl rfl rfl rfl ?_
          | refine TL_gval (rr_move rfl) rfl rfl rfl rfl rfl ?_
          | refine TL_gval (rr_geq rfl rfl (decide_eq_true (by omega))) rfl rfl rfl rfl rfl ?_
          | refine TL_gval (rr_geq rfl rfl (decide_eq_false (by omega))) rfl rfl rfl rfl rfl ?_)
        exact E_ret2 rfl rfl rfl fun w hm => hm.ret
    · rw [List.drop_eq_nil_of_le (by omega)] at h1
      simp only [goes] at h1
      rw [h1]
      repeat (first
        | refine TL_val (rr_move rfl) rfl rfl rfl ?_
        | refine TL_val (rr_assign rfl) rfl rfl rfl ?_
        | refine TL_nil ?_
        | refine T_seq ?_
        | refine T_region ?_
        | refine T_condT rfl ?_
        | refine T_condF rfl ?_
        | refine T_skip ?_
        | refine T_exit ?_
        | refine T_ret ?_
        | refine T_block ?_
        | refine E_then ?_
        | refine E_thenX ?_
        | refine E_thenR ?_
        | refine E_blockN ?_
        | refine E_blockR ?_
        | refine E_blockX ?_
        | refine E_blockO rfl ?_
        | refine TL_val (rr_pickT rfl rfl) rfl rfl rfl ?_
        | refine TL_val (rr_pickF rfl rfl) rfl rfl rfl ?_
        | refine TL_val (rr_strlen Und.eq rfl) rfl rfl rfl ?_
        | refine TL_val (rr_field FldC.fld rfl rfl) rfl rfl rfl ?_
        | refine TL_val (rr_lss rfl rfl (decide_eq_true (by omega))) rfl rfl rfl ?_
        | refine TL_val (rr_lss rfl rfl (decide_eq_false (by omega))) rfl rfl rfl ?_
        | refine TL_val (rr_neq rfl rfl (decide_eq_true (by omega))) rfl rfl rfl ?_
        | refine TL_val (rr_neq rfl rfl (decide_eq_false (by omega))) rfl rfl rfl ?_
        | refine TL_val (rr_add64 rfl rfl (by omega) (by omega) rfl) rfl rfl rfl ?_
        | refine TL_skip rfl rfl rfl rfl rfl rfl ?_
        | refine TL_gval (rr_move rfl) rfl rfl rfl rfl rfl ?_
        | refine TL_gval (rr_geq rfl rfl (decide_eq_true (by omega))) rfl rfl rfl rfl rfl ?_
        | refine TL_gval (rr_geq rfl rfl (decide_eq_false (by omega))) rfl rfl rfl rfl rfl ?_)
      exact E_ret2 rfl rfl rfl fun w hm => hm.ret
  · rw [if_pos c1]
    repeat (first
      | refine TL_val (rr_move rfl) rfl rfl rfl ?_
      | refine TL_val (rr_assign rfl) rfl rfl rfl ?_
      | refine TL_nil ?_
      | refine T_seq ?_
      | refine T_region ?_
      | refine T_condT rfl ?_
      | refine T_condF rfl ?_
      | refine T_skip ?_
      | refine T_exit ?_
      | refine T_ret ?_
      | refine T_block ?_
      | refine E_then ?_
      | refine E_thenX ?_
      | refine E_thenR ?_
      | refine E_blockN ?_
      | refine E_blockR ?_
      | refine E_blockX ?_
      | refine E_blockO rfl ?_
      | refine TL_val (rr_pickT rfl rfl) rfl rfl rfl ?_
      | refine TL_val (rr_pickF rfl rfl) rfl rfl rfl ?_
      | refine TL_val (rr_strlen Und.eq rfl) rfl rfl rfl ?_
      | refine TL_val (rr_field FldC.fld rfl rfl) rfl rfl rfl ?_
      | refine TL_val (rr_lss rfl rfl (decide_eq_true (by omega))) rfl rfl rfl ?_
      | refine TL_val (rr_lss rfl rfl (decide_eq_false (by omega))) rfl rfl rfl ?_
      | refine TL_val (rr_neq rfl rfl (decide_eq_true (by omega))) rfl rfl rfl ?_
      | refine TL_val (rr_neq rfl rfl (decide_eq_false (by omega))) rfl rfl rfl ?_
      | refine TL_val (rr_add64 rfl rfl (by omega) (by omega) rfl) rfl rfl rfl ?_
      | refine TL_skip rfl rfl rfl rfl rfl rfl ?_
      | refine TL_gval (rr_move rfl) rfl rfl rfl rfl rfl ?_
      | refine TL_gval (rr_geq rfl rfl (decide_eq_true (by omega))) rfl rfl rfl rfl rfl ?_
      | refine TL_gval (rr_geq rfl rfl (decide_eq_false (by omega))) rfl rfl rfl rfl rfl ?_)
    exact E_ret2 rfl rfl rfl fun w hm => hm.ret
end Go.Proofs.Ytknojgjdaafboaa.eng

/- SmM -/
namespace Go.Proofs.Ytknojgjdaafboaa.smallL
section
variable (A : Aut) (bl : Nat → Nat)
end
section
variable {A : Aut} {bl : Nat → Nat}
/-- states that are to be looked at -/
structure QOk (A : Aut) (bl : Nat → Nat) (Q : List Nat) : Prop where
  head : ∃ R, Q = 0 :: R ∧ ∀ q ∈ R, bl q ≠ 0
  lt : ∀ q ∈ Q, q < A.n
  nodup : (Q.map bl).Nodup
theorem QOk.len {Q : List Nat} (h : QOk A bl Q) : Q.length ≤ A.n ∧ 0 < Q.length := by
  have h1 : Q.Nodup := List.Pairwise.of_map bl (fun a b hne e => hne (by rw [e])) h.nodup
  refine ⟨nodup_bound h1 h.lt, ?_⟩
  obtain ⟨R, rfl, _⟩ := h.head
  simp
/-- what a row tells, the states being numbered by Q -/
def RowIs (A : Aut) (bl : Nat → Nat) (Q : List Nat) (q b : Nat) (x : Int) : Prop := (val bl (A.d q b) = 0 → x = -1) ∧ (val bl (A.d q b) ≠ 0 → val bl (A.d q b) ∈ Q.map bl ∧ x = (idx (Q.map bl) (val bl (A.d q b)) : Int))
theorem RowIs.more {Q : List Nat} {q b : Nat} {x : Int} (h : RowIs A bl Q q b x) (E : List Nat) : RowIs A bl (Q ++ E) q b x := by
  refine ⟨h.1, fun h0 => ?_⟩
  obtain ⟨h1, h2⟩ := h.2 h0
  rw [List.map_append, idx_pre h1]
  exact ⟨List.mem_append_left _ h1, h2⟩
end
end Go.Proofs.Ytknojgjdaafboaa.smallL

/- SmU -/
namespace Go.Proofs.Ytknojgjdaafboaa.smallL
section
variable {A B : Aut}
def sameAB (A B : Aut) (q r : Int) : Prop := ∀ s, tg A (go A q s) = tg B (go B r s)
theorem sameAB.step {q r : Int} (h : sameAB A B q r) (b : Nat) (hb : b < 256) : sameAB A B (dt A q b) (dt B r b) := fun s => by
  have := h (UInt8.ofNat b :: s)
  have e : (UInt8.ofNat b).toNat = b := by simp; omega
  simp only [go, e] at this
  exact this
end
end Go.Proofs.Ytknojgjdaafboaa.smallL

