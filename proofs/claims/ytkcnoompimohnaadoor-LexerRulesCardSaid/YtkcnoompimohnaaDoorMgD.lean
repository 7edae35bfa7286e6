/- Part 4 of what LexerRules needs: PlM, RexPl, PlR, SmIe, BoE, PlE, PlP, PlK, PlT, PlTs, DfN, MapN, LookOk, DfT, DfaL, DfaO, Dfa, SmM, SmU, PlacesG, PlacesH, AbcL, RexN, KeyG. -/
import Derived.Test.YtkcnoompimohnaaDoorMgC
import Derived.WalkKit
import Derived.WalkSpells
import Derived.WalkLawsBesides
import Derived.Deep.RegionLaw
import Derived.Deep.AppendLies
import Derived.Deep.QuietTactic
import Derived.BigQuiet
import Derived.Deep.DeepCutAuto
import Derived.Lib.Hide
import Derived.Test.YtkcnoompimohnaaDoorRows
import Derived.ProofKit
import Derived.OpenShut
import Derived.ShutString
import Derived.SizedLaws
import Derived.JoinedCond
import Derived.Deep.CondSized
import Derived.Deep.Quiet
import Derived.StillTail
import Derived.Deep.LoopGhost
import Derived.Laws.BitsLemmas
import Derived.Laws.BytesString
import Derived.Test.YtkcnoompimohnaaDoorProg
import Derived.Laws.Entries
import Derived.Laws.BitsAllLaws
import Derived.Laws.StructEq
import Derived.ChangeKeysEq
import Derived.Lib.TrailingZeros
import Derived.Laws.MakeOwn
import Derived.Laws.AppendOwn
import Derived.Laws.Bits64b
import Derived.Maps.OwnSet
import Derived.DeepKeys4
import Derived.WideKeyEntry
import Derived.Handed
import Derived.Lay
import Derived.Lib.LaidTab
import Derived.MakeChecks
import Derived.Lib.SlicesCompact
import Derived.Shelf.Sort.Plain
import Derived.Ground.Names2Prog
import Derived.Shelf.Slices.CompactI
import Derived.Shelf.Slices.In.SortNone
import Derived.Lib.RowBridge
/- PlM -/
namespace Go.Proofs.YtkcnoompimohnaaDoor.eng
open Go.RowKit kit mix classL rexL placesL
theorem build_posz (w : World) : (Instr.build 57 (#[] : Array (Nat × Value))).run Tryd.prog w = .ok (.agg #[.slice none 0 0, .slice none 0 0, .slice none 0 0, .slice none 0 0, .slice none 0 0, .slice none 0 0]) w := by
  go_simp
theorem build_mkz (w : World) : (Instr.build 82 (#[] : Array (Nat × Value))).run Tryd.prog w = .ok (.agg #[.slice none 0 0, .slice none 0 0, .slice none 0 0, .slice none 0 0, .slice none 0 0, .slice none 0 0, .int .i64 0]) w := by
  go_simp
/-- what Make hands back -/
structure PIx where
  vc : Value
  vr : Value
  vf : Value
  vfol : Value
  vl : Value
  ve : Value
  vs : List Value
  F : Nat → Prop
def posL (x : PIx) (m : MS) : List Own :=
  [rowO 31 4 x.vc m.ps.classes.length (m.ps.classes.flatMap clsL), intR x.vr m.ps.rules, intR x.vf m.first, folR x.vfol x.vs, folE x.F x.vs m.ps.follow, rowO 4 1 x.vl m.ps.last.length (m.ps.last.map Value.bool), rowO 4 1 x.ve m.empty.length (m.empty.map Value.bool)]
def posC (x : PIx) : Array Value := #[x.vc, x.vr, x.vf, x.vfol, x.vl, x.ve]
def makeSp (R : Int × MS) : Spec PIx := ⟨fun x => x.vs.length = R.2.ps.follow.length, fun x => .tuple #[.agg (posC x), .int .i64 R.1], fun x => posL x R.2⟩
def nilP : PIx := ⟨.slice none 0 0, .slice none 0 0, .slice none 0 0, .slice none 0 0, .slice none 0 0, .slice none 0 0, [], fun _ => False⟩
/-- nothing, as what Make hands back -/
theorem E_zero {n : Nat} {W : Base} {Q : Exit → Act → World → Prop} {fr : Fr} {L : List Own} {e' : Exit} (h : E n W e' Q fr (L ++ posL nilP .zero)) : E n W e' Q fr L := by
  refine E_nilrow 31 4 (E_nilrow 3 1 (E_nilrow 3 1 (E_nilrow 24 1 (E_extra (folE (fun _ => False) [] []) (fun k hk => hk.elim (fun h => by cases h) id) (fun w => els_nil) (E_nilrow 4 1 (E_nilrow 4 1 ?_))))))
  simp only [List.append_assoc, List.cons_append, List.nil_append]
  exact h
theorem posn_at {vc vr vf vfol vl ve v : Value} {rule : Int} {j : Nat} (h : [vc, vr, vf, vfol, vl, ve][j]? = some v) : (mkC vc vr vf vfol vl ve rule)[0 + j]? = some v := by
  rw [Nat.zero_add]
  match j, h with
  | 0, h => exact h
  | 1, h => exact h
  | 2, h => exact h
  | 3, h => exact h
  | 4, h => exact h
  | 5, h => exact h
def boolC (b : Bool) : List Value := [.bool b]
theorem boolC_len (b : Bool) : (boolC b).length = 1 := rfl
theorem bool_flat (l : List Bool) : l.flatMap boolC = l.map Value.bool := by
  induction l with
  | nil => rfl
  | cons x r ih => rw [List.flatMap_cons, ih]; rfl
def MakeR (rs : List Rx) (R : Int × MS) : Prop :=
  ((rs.length = 0 ∨ 20 < rs.length) ∧ R = (1, .zero)) ∨ (¬ (rs.length = 0 ∨ 20 < rs.length) ∧ checkM rs ≠ 0 ∧ R = (checkM rs, .zero)) ∨
    (¬ (rs.length = 0 ∨ 20 < rs.length) ∧ checkM rs = 0 ∧ ∃ es : List Re, rs = es.map emb ∧ (∀ e ∈ es, e.size ≤ 100) ∧ R = loopM 0 .zero es)
theorem check_drop {l : List Rx} {k : Nat} (h : k < l.length) : checkM (l.drop k) = if chkR l[k] ≠ 0 then chkR l[k] else checkM (l.drop (k + 1)) := by
  rw [List.drop_eq_getElem_cons h, checkM]
set_option maxHeartbeats 16000000 in
theorem make_calls (v : Value) (rs : List Rx) (R : Int × MS) (w : World) (hv : SlF rexS (Low w) w v rs) (hR : MakeR rs R) :
    Calls Tryd.prog 13 #[v] w (Meets (makeSp R) w) := by
  obtain ⟨bk, ck, rfl, h1, h2, h3⟩ := hv
  unfold maxLen at h2
  refine enter (args := [.slice bk rs.length ck]) (n := 104) Tryd.func13 rfl rfl rfl ?_
  refine T_seq (T_region (TL_new rfl fun g2 => ?_))
  conv => arg 8; simp only [zA, zB, zC, zD, zE, zF, zG, zH, zI, rowS, ret, id_eq]
  rcases hR with ⟨c1, rfl⟩ | hR
  · by_cases c2 : rs.length = 0
    · repeat (first
        | refine QV QP ?_ | refine QZ ?_ | refine qcT rfl ?_ | refine qcF rfl ?_ | refine E_blockX ?_ | refine E_blockO rfl ?_
        | refine qs rfl rfl rfl rfl rfl rfl ?_
        | ((try refine qg rfl rfl rfl ?_); first | refine QV QP ?_ | refine QV (rr_eql (b := true) rfl rfl (decide_eq_true (by omega))) ?_ | refine QV (rr_build rfl build_posz) ?_ | refine QV QL ?_ | refine QV QA ?_ | refine QV (rr_nilc rfl) ?_ | refine QV QlT ?_ | refine QV QlF ?_ | refine QV QgT ?_ | refine QV QgF ?_ | refine QV QeT ?_ | refine QV QeF ?_ | refine QV QnT ?_ | refine QV QnF ?_ | refine QV QaA ?_))
      refine TL_storeB (i := 0) rfl rfl rfl rfl rfl rfl ?_
      conv => arg 8; simp only [zA, zB, zC, zD, zE, zF, zG, zH, zI, rowS, ret, id_eq]
      repeat (first
        | refine QV QP ?_ | refine QZ ?_ | refine qcT rfl ?_ | refine qcF rfl ?_ | refine E_blockX ?_ | refine E_blockO rfl ?_
        | refine qs rfl rfl rfl rfl rfl rfl ?_
        | ((try refine qg rfl rfl rfl ?_); first | refine QV QP ?_ | refine QV QL ?_ | refine QV QA ?_ | refine QV (rr_nilc rfl) ?_ | refine QV QlT ?_ | refine QV QlF ?_ | refine QV QgT ?_ | refine QV QgF ?_ | refine QV QeT ?_ | refine QV QeF ?_ | refine QV QnT ?_ | refine QV QnF ?_ | refine QV QaA ?_))
      refine E_zero ?_
      exact E_retc2 (i := 0) rfl rfl rfl rfl rfl fun w hm => hm.meets (S := makeSp (1, .zero)) nilP rfl [1, 2, 3, 4, 5, 6, 7] (by decide) rfl
    · have c3 : 20 < rs.length := c1.resolve_left c2
      repeat (first
        | refine QV QP ?_ | refine QZ ?_ | refine qcT rfl ?_ | refine qcF rfl ?_ | refine E_blockX ?_ | refine E_blockO rfl ?_
        | refine qs rfl rfl rfl rfl rfl rfl ?_
        | ((try refine qg rfl rfl rfl ?_); first | refine QV QP ?_ | refine QV (rr_eql (b := false) rfl rfl (decide_eq_false (by omega))) ?_ | refine QV (rr_gtr (b := true) rfl rfl (decide_eq_true (by omega))) ?_ | refine QV (rr_build rfl build_posz) ?_ | refine QV QL ?_ | refine QV QA ?_ | refine QV (rr_nilc rfl) ?_ | refine QV QlT ?_ | refine QV QlF ?_ | refine QV QgT ?_ | refine QV QgF ?_ | refine QV QeT ?_ | refine QV QeF ?_ | refine QV QnT ?_ | refine QV QnF ?_ | refine QV QaA ?_))
      refine TL_storeB (i := 0) rfl rfl rfl rfl rfl rfl ?_
      conv => arg 8; simp only [zA, zB, zC, zD, zE, zF, zG, zH, zI, rowS, ret, id_eq]
      repeat (first
        | refine QV QP ?_ | refine QZ ?_ | refine qcT rfl ?_ | refine qcF rfl ?_ | refine E_blockX ?_ | refine E_blockO rfl ?_
        | refine qs rfl rfl rfl rfl rfl rfl ?_
        | ((try refine qg rfl rfl rfl ?_); first | refine QV QP ?_ | refine QV QL ?_ | refine QV QA ?_ | refine QV (rr_nilc rfl) ?_ | refine QV QlT ?_ | refine QV QlF ?_ | refine QV QgT ?_ | refine QV QgF ?_ | refine QV QeT ?_ | refine QV QeF ?_ | refine QV QnT ?_ | refine QV QnF ?_ | refine QV QaA ?_))
      refine E_zero ?_
      exact E_retc2 (i := 0) rfl rfl rfl rfl rfl fun w hm => hm.meets (S := makeSp (1, .zero)) nilP rfl [1, 2, 3, 4, 5, 6, 7] (by decide) rfl
  have hlen : ¬ (rs.length = 0 ∨ 20 < rs.length) := by rcases hR with ⟨h, _⟩ | ⟨h, _⟩ <;> exact h
  repeat (first
    | refine QV QP ?_ | refine QZ ?_ | refine qcT rfl ?_ | refine qcF rfl ?_ | refine E_blockX ?_ | refine E_blockO rfl ?_
    | refine qs rfl rfl rfl rfl rfl rfl ?_
    | ((try refine qg rfl rfl rfl ?_); first | refine QV QP ?_ | refine QV (rr_eql (b := false) rfl rfl (decide_eq_false (by omega))) ?_ | refine QV (rr_gtr (b := false) rfl rfl (decide_eq_false (by omega))) ?_ | refine QV QL ?_ | refine QV QA ?_ | refine QV (rr_nilc rfl) ?_ | refine QV QlT ?_ | refine QV QlF ?_ | refine QV QgT ?_ | refine QV QgF ?_ | refine QV QeT ?_ | refine QV QeF ?_ | refine QV QnT ?_ | refine QV QnF ?_ | refine QV QaA ?_))
  refine T_loop (ι := Nat) (fun k => k ≤ rs.length ∧ checkM rs = checkM (rs.drop k)) (fun k => [(0, .slice bk rs.length ck), (2, .pointer (some ⟨g2, 0, none⟩)), (22, .slice bk rs.length ck), (23, .int .i64 rs.length), (24, .int .i64 (k : Int))])
    (fun _ => [blkO g2 #[.slice none 0 0, .slice none 0 0, .slice none 0 0, .slice none 0 0, .slice none 0 0, .slice none 0 0] 57]) (fun k => rs.length - k) 0 ⟨Nat.zero_le _, rfl⟩ (by repeat' (first | exact True.intro | refine And.intro rfl ?_)) rfl ?_
  rintro k ⟨i1, i2⟩
  by_cases c6 : k < rs.length
  · obtain ⟨b, off, rfl, hF, hrd⟩ := h3 (by omega)
    obtain ⟨kb, kc, hr, hkid⟩ := rkid_at hrd c6
    have hat := fun (L : List Own) (j : Nat) (v : Value) (hj : (rexC rs[k].kind rs[k].cls (.slice kb rs[k].kids.length kc))[j]? = some v) => at_rd (L := L) hr hj
    have hck : ∀ w', Gr w w' → Calls Tryd.prog 26 #[rexV rs[k].kind rs[k].cls (.slice kb rs[k].kids.length kc)] w' (Meets (ret (.int .i64 (chkR rs[k]))) w') := fun w' hg => rexCheck_calls _ _ w' (hkid.gr hg)
    have hdr := check_drop c6
    clear h3 hrd hr
    generalize rs[k] = r at *
    repeat (first
      | refine QV QP ?_ | refine QZ ?_ | refine qcT rfl ?_ | refine qcF rfl ?_ | refine E_blockX ?_ | refine E_blockO rfl ?_
      | refine qs rfl rfl rfl rfl rfl rfl ?_
      | ((try refine qg rfl rfl rfl ?_); first | refine QV QP ?_ | refine QV (rr_idxc Und.eq TyC.ty rfl rfl c6) ?_ | refine QV (rr_loadN TyC.ty rfl rfl (hat _)) ?_ | refine QV QL ?_ | refine QV QA ?_ | refine QV (rr_nilc rfl) ?_ | refine QV QlT ?_ | refine QV QlF ?_ | refine QV QgT ?_ | refine QV QgF ?_ | refine QV QeT ?_ | refine QV QeF ?_ | refine QV QnT ?_ | refine QV QnF ?_ | refine QV QaA ?_))
    refine TL_new rfl fun g5 => ?_
    conv => arg 8; simp only [zA, zB, zC, zD, zE, zF, zG, zH, zI, rowS, ret, id_eq]
    refine TL_storeB (i := 1) (cs' := (rexC r.kind r.cls (.slice kb r.kids.length kc)).toArray) rfl rfl rfl rfl rfl rfl ?_
    conv => arg 8; simp only [zA, zB, zC, zD, zE, zF, zG, zH, zI, rowS, ret, id_eq]
    repeat (first
      | refine QV QP ?_ | refine QZ ?_ | refine qcT rfl ?_ | refine qcF rfl ?_ | refine E_blockX ?_ | refine E_blockO rfl ?_
      | refine qs rfl rfl rfl rfl rfl rfl ?_
      | ((try refine qg rfl rfl rfl ?_); first | refine QV QP ?_ | refine QV (rr_loadB (i := 1) TyC.ty rfl rfl rfl) ?_ | refine QV QL ?_ | refine QV QA ?_ | refine QV (rr_nilc rfl) ?_ | refine QV QlT ?_ | refine QV QlF ?_ | refine QV QgT ?_ | refine QV QgF ?_ | refine QV QeT ?_ | refine QV QeF ?_ | refine QV QnT ?_ | refine QV QnF ?_ | refine QV QaA ?_))
    refine TL_call (he1 EntersC.en rfl rfl) (fun w hm => hck _ hm.below) rfl rfl rfl ?_
    intro _ _
    conv => arg 8; simp only [zA, zB, zC, zD, zE, zF, zG, zH, zI, rowS, ret, id_eq]
    by_cases c7 : chkR r = 0
    · repeat (first
        | refine QV QP ?_ | refine QZ ?_ | refine qcT rfl ?_ | refine qcF rfl ?_ | refine E_blockX ?_ | refine E_blockO rfl ?_
        | refine qs rfl rfl rfl rfl rfl rfl ?_
        | ((try refine qg rfl rfl rfl ?_); first | refine QV QP ?_ | refine QV (rr_neq (b := false) rfl rfl (decide_eq_false (by simpa using c7))) ?_ | refine QV QL ?_ | refine QV QA ?_ | refine QV (rr_nilc rfl) ?_ | refine QV QlT ?_ | refine QV QlF ?_ | refine QV QgT ?_ | refine QV QgF ?_ | refine QV QeT ?_ | refine QV QeF ?_ | refine QV QnT ?_ | refine QV QnF ?_ | refine QV QaA ?_))
      refine E_pick [0] (by decide) rfl ?_
      exact E_round (k + 1) ⟨by omega, by rw [i2, hdr, if_neg (by simpa using c7)]⟩ (by show rs.length - (k + 1) < rs.length - k; omega) (by repeat' (first | exact True.intro | refine And.intro rfl ?_)) rfl
    · have hne : checkM rs ≠ 0 := by rw [i2, hdr, if_pos c7]; exact c7
      rcases hR with ⟨_, _, rfl⟩ | ⟨_, h0, _⟩
      · rw [i2, hdr, if_pos c7]
        repeat (first
          | refine QV QP ?_ | refine QZ ?_ | refine qcT rfl ?_ | refine qcF rfl ?_ | refine E_blockX ?_ | refine E_blockO rfl ?_
          | refine qs rfl rfl rfl rfl rfl rfl ?_
          | ((try refine qg rfl rfl rfl ?_); first | refine QV QP ?_ | refine QV (rr_neq (b := true) rfl rfl (decide_eq_true c7)) ?_ | refine QV (rr_build rfl build_posz) ?_ | refine QV QL ?_ | refine QV QA ?_ | refine QV (rr_nilc rfl) ?_ | refine QV QlT ?_ | refine QV QlF ?_ | refine QV QgT ?_ | refine QV QgF ?_ | refine QV QeT ?_ | refine QV QeF ?_ | refine QV QnT ?_ | refine QV QnF ?_ | refine QV QaA ?_))
        refine TL_storeB (i := 0) rfl rfl rfl rfl rfl rfl ?_
        conv => arg 8; simp only [zA, zB, zC, zD, zE, zF, zG, zH, zI, rowS, ret, id_eq]
        repeat (first
          | refine QV QP ?_ | refine QZ ?_ | refine qcT rfl ?_ | refine qcF rfl ?_ | refine E_blockX ?_ | refine E_blockO rfl ?_
          | refine qs rfl rfl rfl rfl rfl rfl ?_
          | ((try refine qg rfl rfl rfl ?_); first | refine QV QP ?_ | refine QV QL ?_ | refine QV QA ?_ | refine QV (rr_nilc rfl) ?_ | refine QV QlT ?_ | refine QV QlF ?_ | refine QV QgT ?_ | refine QV QgF ?_ | refine QV QeT ?_ | refine QV QeF ?_ | refine QV QnT ?_ | refine QV QnF ?_ | refine QV QaA ?_))
        refine E_zero ?_
        exact E_retc2 (i := 0) rfl rfl rfl rfl rfl fun w hm => hm.meets (S := makeSp (chkR r, .zero)) nilP rfl [2, 3, 4, 5, 6, 7, 8] (by decide) rfl
      · exact absurd h0 hne
  · obtain rfl : k = rs.length := by omega
    have h0 : checkM rs = 0 := by rw [i2, List.drop_eq_nil_of_le (Nat.le_refl _)]; rfl
    obtain ⟨es, rfl, hsz, rfl⟩ : ∃ es : List Re, rs = es.map emb ∧ (∀ e ∈ es, e.size ≤ 100) ∧ R = loopM 0 .zero es := by
      rcases hR with ⟨_, h, _⟩ | ⟨_, _, h⟩
      · exact absurd h0 h
      · exact h
    have h20 : (List.map emb es).length ≤ 20 := by omega
    clear hR hlen i1 i2
    repeat (first
      | refine QV QP ?_ | refine QZ ?_ | refine qcT rfl ?_ | refine qcF rfl ?_ | refine E_blockX ?_ | refine E_blockO rfl ?_
      | refine qs rfl rfl rfl rfl rfl rfl ?_
      | ((try refine qg rfl rfl rfl ?_); first | refine QV QP ?_ | refine QV (rr_build rfl build_mkz) ?_ | refine QV QL ?_ | refine QV QA ?_ | refine QV (rr_nilc rfl) ?_ | refine QV QlT ?_ | refine QV QlF ?_ | refine QV QgT ?_ | refine QV QgF ?_ | refine QV QeT ?_ | refine QV QeF ?_ | refine QV QnT ?_ | refine QV QnF ?_ | refine QV QaA ?_))
    refine TL_box rfl rfl rfl fun g7 => ?_
    conv => arg 8; simp only [zA, zB, zC, zD, zE, zF, zG, zH, zI, rowS, ret, id_eq]
    repeat (first
      | refine QV QP ?_ | refine QZ ?_ | refine qcT rfl ?_ | refine qcF rfl ?_ | refine E_blockX ?_ | refine E_blockO rfl ?_
      | refine qs rfl rfl rfl rfl rfl rfl ?_
      | ((try refine qg rfl rfl rfl ?_); first | refine QV QP ?_ | refine QV QL ?_ | refine QV QA ?_ | refine QV (rr_nilc rfl) ?_ | refine QV QlT ?_ | refine QV QlF ?_ | refine QV QgT ?_ | refine QV QgF ?_ | refine QV QeT ?_ | refine QV QeF ?_ | refine QV QnT ?_ | refine QV QnF ?_ | refine QV QaA ?_))
    refine T_nil 31 4 (T_nil 3 1 (T_nil 24 1 (T_extra (folE (fun _ => False) [] []) (fun k hk => hk.elim (fun h => by cases h) id) (fun w => els_nil) (T_nil 4 1 (T_nil 3 1 (T_nil 4 1 ?_))))))
    refine T_loop (ι := Nat × MS × MIx × Value × Value × Int) (fun (k, m, x, _, _, _) => k ≤ es.length ∧ loopM 0 .zero es = loopM k m (es.drop k) ∧ MSOk m ∧ m.ps.classes.length ≤ 200 ∧ x.vs.length = m.ps.follow.length ∧ m.empty.length = k) (fun (k, _, _, _, _, _) => [(2, .pointer (some ⟨g2, 0, none⟩)), (7, .pointer (some ⟨g7, 0, none⟩)), (37, .slice bk (es.map emb).length ck), (38, .int .i64 (es.map emb).length), (39, .int .i64 (k : Int))])
      (fun (_, m, x, vf, ve, rule) => [blkO g2 #[.slice none 0 0, .slice none 0 0, .slice none 0 0, .slice none 0 0, .slice none 0 0, .slice none 0 0] 57] ++ mkL g7 vf ve rule x m.ps ++ [intR vf m.first, rowO 4 1 ve m.empty.length (m.empty.map Value.bool)]) (fun (k, _, _, _, _, _) => es.length - k)
      (0, .zero, ⟨.slice none 0 0, .slice none 0 0, .slice none 0 0, .slice none 0 0, [], fun _ => False⟩, .slice none 0 0, .slice none 0 0, 0) ⟨Nat.zero_le _, rfl, zero_ok, Nat.zero_le _, rfl, rfl⟩ (by repeat' (first | exact True.intro | refine And.intro rfl ?_)) rfl ?_
    rintro ⟨k, m, ⟨vc, vr, vfol, vl, vs, F⟩, vf, ve, rule⟩ ⟨i1, i2, i3, i4, i5, i6⟩
    dsimp only at i1 i2 i3 i4 i5 i6 ⊢
    conv => arg 7; simp only [zA, zB, zC, zD, zE, zF, zG, zH, zI, rowS, ret, id_eq, mkL]
    have hml : (List.map emb es).length = es.length := List.length_map ..
    by_cases c6 : k < es.length
    · obtain ⟨b, off, rfl, hF, hrd⟩ := h3 (by omega)
      obtain ⟨kb, kc, hr, hkid⟩ := rkid_at (k := k) hrd (by omega)
      have hat := fun (L : List Own) (j : Nat) (v : Value) (hj : (rexC (es.map emb)[k].kind (es.map emb)[k].cls (.slice kb (es.map emb)[k].kids.length kc))[j]? = some v) => at_rd (L := L) hr hj
      have hke : (es.map emb)[k]'(by omega) = emb es[k] := List.getElem_map ..
      rw [hke] at hat hkid
      have hse := hsz es[k] (List.getElem_mem c6)
      rw [List.drop_eq_getElem_cons c6, loopM] at i2
      clear h3 hrd hr hke
      generalize es[k] = e at *
      have hst := step_ok k i3 e
      have hnd := node_ok k e m.ps i3.ps
      have hno := fun v w B hv hm => node_at 100 e hse g7 vf ve k m.ps ⟨vc, vr, vfol, vl, vs, F⟩ v w B i3.ps i5 (by omega) ⟨by omega, by omega⟩ hv hm
      repeat (first
        | refine QV QP ?_ | refine QZ ?_ | refine qcT rfl ?_ | refine qcF rfl ?_ | refine E_blockX ?_ | refine E_blockO rfl ?_
        | refine qs rfl rfl rfl rfl rfl rfl ?_
        | ((try refine qg rfl rfl rfl ?_); first | refine QV QP ?_ | refine QV (rr_idxc Und.eq TyC.ty rfl rfl (by omega)) ?_ | refine QV (rr_loadN TyC.ty rfl rfl (hat _)) ?_ | refine QV QL ?_ | refine QV QA ?_ | refine QV (rr_nilc rfl) ?_ | refine QV QlT ?_ | refine QV QlF ?_ | refine QV QgT ?_ | refine QV QgF ?_ | refine QV QeT ?_ | refine QV QeF ?_ | refine QV QnT ?_ | refine QV QnF ?_ | refine QV QaA ?_))
      refine TL_new rfl fun g9 => ?_
      conv => arg 8; simp only [zA, zB, zC, zD, zE, zF, zG, zH, zI, rowS, ret, id_eq]
      repeat (first
        | refine QV QP ?_ | refine QZ ?_ | refine qcT rfl ?_ | refine qcF rfl ?_ | refine E_blockX ?_ | refine E_blockO rfl ?_
        | refine qs rfl rfl rfl rfl rfl rfl ?_
        | ((try refine qg rfl rfl rfl ?_); first | refine QV QP ?_ | refine QV QL ?_ | refine QV QA ?_ | refine QV (rr_nilc rfl) ?_ | refine QV QlT ?_ | refine QV QlF ?_ | refine QV QgT ?_ | refine QV QgF ?_ | refine QV QeT ?_ | refine QV QeF ?_ | refine QV QnT ?_ | refine QV QnF ?_ | refine QV QaA ?_))
      refine TL_storeB (i := 9) (cs' := (rexC (emb e).kind (emb e).cls (.slice kb (emb e).kids.length kc)).toArray) rfl rfl rfl rfl rfl rfl ?_
      conv => arg 8; simp only [zA, zB, zC, zD, zE, zF, zG, zH, zI, rowS, ret, id_eq]
      repeat (first
        | refine QV QP ?_ | refine QZ ?_ | refine qcT rfl ?_ | refine qcF rfl ?_ | refine E_blockX ?_ | refine E_blockO rfl ?_
        | refine qs rfl rfl rfl rfl rfl rfl ?_
        | ((try refine qg rfl rfl rfl ?_); first | refine QV QP ?_ | refine QV (rr_nilc rfl) ?_ | refine QV QL ?_ | refine QV QA ?_ | refine QV (rr_nilc rfl) ?_ | refine QV QlT ?_ | refine QV QlF ?_ | refine QV QgT ?_ | refine QV QgF ?_ | refine QV QeT ?_ | refine QV QeF ?_ | refine QV QnT ?_ | refine QV QnF ?_ | refine QV QaA ?_))
      refine TL_store1 (i := 1) rfl rfl rfl rfl rfl rfl ?_
      conv => arg 8; simp only [zA, zB, zC, zD, zE, zF, zG, zH, zI, rowS, ret, id_eq]
      repeat (first
        | refine QV QP ?_ | refine QZ ?_ | refine qcT rfl ?_ | refine qcF rfl ?_ | refine E_blockX ?_ | refine E_blockO rfl ?_
        | refine qs rfl rfl rfl rfl rfl rfl ?_
        | ((try refine qg rfl rfl rfl ?_); first | refine QV QP ?_ | refine QV (rr_loadB (i := 9) TyC.ty rfl rfl rfl) ?_ | refine QV QL ?_ | refine QV QA ?_ | refine QV (rr_nilc rfl) ?_ | refine QV QlT ?_ | refine QV QlF ?_ | refine QV QgT ?_ | refine QV QgF ?_ | refine QV QeT ?_ | refine QV QeF ?_ | refine QV QnT ?_ | refine QV QnF ?_ | refine QV QaA ?_))
      refine TL_callB [1, 2, 3, 4, 5, 6] [0, 7, 8, 9] (by decide) rfl rfl (he2 EntersC.en rfl rfl rfl) (fun w hm hb => hno _ w _ (rex_on (hm.pick [1, 2, 3, 4, 5, 6] (by decide) rfl) (hkid.mono fun k hk => ⟨hk, id⟩)) hb) rfl rfl rfl ?_
      rintro ⟨⟨vc', vr', vfol', vl', vs', F'⟩, va, vb⟩ hx'
      conv => arg 8; simp only [zA, zB, zC, zD, zE, zF, zG, zH, zI, rowS, ret, id_eq, nodeSp, mkL]
      conv => arg 7; simp only [nodeSp]
      have hx' : vs'.length = (nodeF k e m.ps).2.follow.length := hx'
      unfold stepM at i2 hst
      generalize nodeF k e m.ps = R at *
      obtain ⟨⟨em, first, last⟩, p'⟩ := R
      dsimp only at i2 hst hnd hx' ⊢
      obtain ⟨n1, n2, n3, n4, n5⟩ := hnd
      have hl1 := ris_len i3.first
      have hl2 := ris_len n4
      have hl3 := ris_len n5
      refine TL_slv (i := 10) rfl fun _ qa => TL_slv (i := 11) rfl fun _ qb => TL_new rfl fun g10 => ?_
      conv => arg 8; simp only [zA, zB, zC, zD, zE, zF, zG, zH, zI, rowS, ret, id_eq]
      refine TL_storeB (i := 12) (cs' := #[.bool em, va, vb]) rfl rfl rfl rfl (by simp only [List.all_cons, List.all_nil, qa, qb]; rfl) rfl ?_
      conv => arg 8; simp only [zA, zB, zC, zD, zE, zF, zG, zH, zI, rowS, ret, id_eq]
      repeat (first
        | refine QV QP ?_ | refine QZ ?_ | refine qcT rfl ?_ | refine qcF rfl ?_ | refine E_blockX ?_ | refine E_blockO rfl ?_
        | refine qs rfl rfl rfl rfl rfl rfl ?_
        | ((try refine qg rfl rfl rfl ?_); first | refine QV QP ?_ | refine QV QL ?_ | refine QV QA ?_ | refine QV (rr_nilc rfl) ?_ | refine QV QlT ?_ | refine QV QlF ?_ | refine QV QgT ?_ | refine QV QgF ?_ | refine QV QeT ?_ | refine QV QeF ?_ | refine QV QnT ?_ | refine QV QnF ?_ | refine QV QaA ?_))
      (repeat refine T_seq ?_)
      refine T_midq (ι := Value) (fun vf' => vf'.oneCell' = true) (fun _ => [(2, .pointer (some ⟨g2, 0, none⟩)), (7, .pointer (some ⟨g7, 0, none⟩)), (10, .pointer (some ⟨g10, 0, none⟩)), (37, .slice (some ⟨b, off, none⟩) (es.map emb).length ck), (38, .int .i64 (es.map emb).length), (39, .int .i64 (k : Int))])
        (fun vf' => [blkO g2 #[.slice none 0 0, .slice none 0 0, .slice none 0 0, .slice none 0 0, .slice none 0 0, .slice none 0 0] 57, blkO g7 (mkC vc' vr' vf' vfol' vl' ve (k : Int)) 82, rowO 31 4 vc' p'.classes.length (p'.classes.flatMap clsL), intR vr' p'.rules, folR vfol' vs', folE F' vs' p'.follow, rowO 4 1 vl' p'.last.length (p'.last.map Value.bool), intR vf' (uni m.first first), rowO 4 1 ve m.empty.length (m.empty.map Value.bool), blkO g10 #[.bool em, va, vb] 84, intR vb last]) ?_ ?_
      · refine T_ord ([blkO g10 #[.bool em, va, vb] 84]) (.calm 0 (.calm 1 (.calm 2 (.calm 3 (.calm 4 (.calm 6 (.calm 7 (.one 5 (.one 8 (.calm 9 (.calm 10 (.calm 11 (.one 12 (.done)))))))))))))) (sub_pick [12] (by decide) rfl) (by kernel_rfl) (by kernel_rfl) (by intro c a d v w h; cases d <;> exact h) ?_
        repeat (first
          | ((first | refine TW_plain rfl rfl ?_ | refine TW_gmet rfl rfl rfl rfl ?_); first | refine QW QP ?_ | refine QW (rr_nilc rfl) ?_ | refine QW (rr_load1 TyC.ty rfl (at_blk (i := 0) rfl rfl)) ?_ | refine QW QL ?_ | refine QW QA ?_ | refine QW (rr_nilc rfl) ?_ | refine QW QlT ?_ | refine QW QlF ?_ | refine QW QgT ?_ | refine QW QgF ?_ | refine QW QeT ?_ | refine QW QeF ?_ | refine QW QnT ?_ | refine QW QnF ?_ | refine QW QaA ?_)
          | refine TW_skip rfl rfl rfl rfl rfl rfl rfl ?_ | refine TW_done ?_)
        refine TW_one rfl (TL_val (rr_load1 (v := vf) TyC.ty rfl (at_blk (i := 4) rfl rfl)) rfl rfl rfl (TW_on (sub_pick [12] (by decide) rfl) ?_))
        refine TW_one rfl (TL_call (he2 EntersC.en rfl rfl rfl) (fun w' hm => union_calls vf va m.first first w' (Sl.of_own (hm.get (i := 1) rfl)) (Sl.of_own (hm.get (i := 10) rfl)) (by omega) (by omega)) rfl rfl rfl ?_)
        intro vf' _
        conv => arg 8; simp only [zA, zB, zC, zD, zE, zF, zG, zH, zI, rowS, ret, id_eq, intRS]
        refine TW_on (sub_pick [12] (by decide) rfl) ?_
        repeat (first
          | ((first | refine TW_plain rfl rfl ?_ | refine TW_gmet rfl rfl rfl rfl ?_); first | refine QW QP ?_ | refine QW (rr_nilc rfl) ?_ | refine QW QL ?_ | refine QW QA ?_ | refine QW (rr_nilc rfl) ?_ | refine QW QlT ?_ | refine QW QlF ?_ | refine QW QgT ?_ | refine QW QgF ?_ | refine QW QeT ?_ | refine QW QeF ?_ | refine QW QnT ?_ | refine QW QnF ?_ | refine QW QaA ?_)
          | refine TW_skip rfl rfl rfl rfl rfl rfl rfl ?_ | refine TW_done ?_)
        refine TW_one rfl (TL_slv (i := 13) rfl fun qf1 qf2 => TL_store1 (i := 4) rfl rfl rfl qf1 qf2 rfl (TW_on (sub_pick [12] (by decide) rfl) ?_))
        repeat (first
          | ((first | refine TW_plain rfl rfl ?_ | refine TW_gmet rfl rfl rfl rfl ?_); first | refine QW QP ?_ | refine QW QL ?_ | refine QW QA ?_ | refine QW (rr_nilc rfl) ?_ | refine QW QlT ?_ | refine QW QlF ?_ | refine QW QgT ?_ | refine QW QgF ?_ | refine QW QeT ?_ | refine QW QeF ?_ | refine QW QnT ?_ | refine QW QnF ?_ | refine QW QaA ?_)
          | refine TW_skip rfl rfl rfl rfl rfl rfl rfl ?_ | refine TW_done ?_)
        refine E_pick [0, 4, 5, 6, 7, 8, 9, 13, 2, 12, 11] (by decide) rfl ?_
        exact E_mid vf' qf2 (by repeat' (first | exact True.intro | refine And.intro rfl ?_)) rfl
      intro vf' hf'
      (repeat refine T_seq ?_)
      refine T_midq (ι := Value) (fun ve' => ve'.oneCell' = true) (fun _ => [(2, .pointer (some ⟨g2, 0, none⟩)), (7, .pointer (some ⟨g7, 0, none⟩)), (10, .pointer (some ⟨g10, 0, none⟩)), (37, .slice (some ⟨b, off, none⟩) (es.map emb).length ck), (38, .int .i64 (es.map emb).length), (39, .int .i64 (k : Int))])
        (fun ve' => [blkO g2 #[.slice none 0 0, .slice none 0 0, .slice none 0 0, .slice none 0 0, .slice none 0 0, .slice none 0 0] 57, blkO g7 (mkC vc' vr' vf' vfol' vl' ve' (k : Int)) 82, rowO 31 4 vc' p'.classes.length (p'.classes.flatMap clsL), intR vr' p'.rules, folR vfol' vs', folE F' vs' p'.follow, rowO 4 1 vl' p'.last.length (p'.last.map Value.bool), intR vf' (uni m.first first), rowO 4 1 ve' (m.empty ++ [em]).length ((m.empty ++ [em]).map Value.bool), blkO g10 #[.bool em, va, vb] 84, intR vb last]) ?_ ?_
      · refine T_ord ([blkO g10 #[.bool em, va, vb] 84]) (.calm 0 (.calm 1 (.calm 2 (.calm 3 (.calm 4 (.calm 6 (.calm 7 (.two 5 (.one 8 (.one 9 (.calm 10 (.calm 11 (.calm 12 (.one 13 (.done))))))) 8 (.one 5 (.one 9 (.calm 10 (.calm 11 (.calm 12 (.one 13 (.done))))))))))))))) (sub_pick [9] (by decide) rfl) (by kernel_rfl) (by kernel_rfl) (by intro c a d v w h; cases d <;> exact h) ?_
        repeat (first
          | ((first | refine TW_plain rfl rfl ?_ | refine TW_gmet rfl rfl rfl rfl ?_); first | refine QW QP ?_ | refine QW (rr_nilc rfl) ?_ | refine QW (rr_load1 TyC.ty rfl (at_blk (i := 0) rfl rfl)) ?_ | refine QW QL ?_ | refine QW QA ?_ | refine QW (rr_nilc rfl) ?_ | refine QW QlT ?_ | refine QW QlF ?_ | refine QW QgT ?_ | refine QW QgF ?_ | refine QW QeT ?_ | refine QW QeF ?_ | refine QW QnT ?_ | refine QW QnF ?_ | refine QW QaA ?_)
          | refine TW_skip rfl rfl rfl rfl rfl rfl rfl ?_ | refine TW_done ?_)
        refine TW_two rfl rfl ?_ ?_
        · refine TL_val (rr_load1 (v := ve) TyC.ty rfl (at_blk (i := 1) rfl rfl)) rfl rfl rfl (TW_on (sub_pick [9] (by decide) rfl) ?_)
          refine TW_one rfl (TL_litN (cs := #[.bool em]) [.bool em] rfl rfl rfl (by intro v hv; simp at hv; subst hv; rfl) rfl rfl rfl fun g71 => (TW_on (sub_pick [9] (by decide) rfl) ?_))
          refine TW_one rfl (TL_appSl (i := 8) (e := 4) (size := 1) (bytes := 1) (m := m.empty.length) (xs := m.empty.map Value.bool) (k := 1) (ys := [.bool em]) rfl (sl_blk (i := 11) rfl (fun j u h => by simpa using h) (Nat.le_refl 1) (by decide)) rfl rfl rfl (fun u hu => by rw [List.mem_singleton.1 hu]; rfl) (by omega) (by omega) rfl fun ve' => (TW_on (sub_pick [9] (by decide) rfl) ?_))
          repeat (first
            | ((first | refine TW_plain rfl rfl ?_ | refine TW_gmet rfl rfl rfl rfl ?_); first | refine QW QP ?_ | refine QW (rr_nilc rfl) ?_ | refine QW QL ?_ | refine QW QA ?_ | refine QW (rr_nilc rfl) ?_ | refine QW QlT ?_ | refine QW QlF ?_ | refine QW QgT ?_ | refine QW QgF ?_ | refine QW QeT ?_ | refine QW QeF ?_ | refine QW QnT ?_ | refine QW QnF ?_ | refine QW QaA ?_)
            | refine TW_skip rfl rfl rfl rfl rfl rfl rfl ?_ | refine TW_done ?_)
          refine TW_one rfl (TL_slv (i := 8) rfl fun qe1 qe2 => TL_store1 (i := 1) rfl rfl rfl qe1 qe2 rfl (TW_on (sub_pick [9] (by decide) rfl) ?_))
          repeat (first
            | ((first | refine TW_plain rfl rfl ?_ | refine TW_gmet rfl rfl rfl rfl ?_); first | refine QW QP ?_ | refine QW QL ?_ | refine QW QA ?_ | refine QW (rr_nilc rfl) ?_ | refine QW QlT ?_ | refine QW QlF ?_ | refine QW QgT ?_ | refine QW QgF ?_ | refine QW QeT ?_ | refine QW QeF ?_ | refine QW QnT ?_ | refine QW QnF ?_ | refine QW QaA ?_)
            | refine TW_skip rfl rfl rfl rfl rfl rfl rfl ?_ | refine TW_done ?_)
          refine E_pick [0, 1, 2, 3, 4, 5, 6, 7, 8, 9, 10] (by decide) rfl ?_
          exact E_mid ve' qe2 (by repeat' (first | exact True.intro | refine And.intro rfl ?_)) (by rw [← bool_snoc ve' m.empty em]; rfl)
        · refine TL_litN (cs := #[.bool em]) [.bool em] rfl rfl rfl (by intro v hv; simp at hv; subst hv; rfl) rfl rfl rfl fun g71 => (TW_on (sub_pick [9] (by decide) rfl) ?_)
          refine TW_one rfl (TL_val (rr_load1 (v := ve) TyC.ty rfl (at_blk (i := 1) rfl rfl)) rfl rfl rfl (TW_on (sub_pick [9] (by decide) rfl) ?_))
          refine TW_one rfl (TL_appSl (i := 8) (e := 4) (size := 1) (bytes := 1) (m := m.empty.length) (xs := m.empty.map Value.bool) (k := 1) (ys := [.bool em]) rfl (sl_blk (i := 11) rfl (fun j u h => by simpa using h) (Nat.le_refl 1) (by decide)) rfl rfl rfl (fun u hu => by rw [List.mem_singleton.1 hu]; rfl) (by omega) (by omega) rfl fun ve' => (TW_on (sub_pick [9] (by decide) rfl) ?_))
          repeat (first
            | ((first | refine TW_plain rfl rfl ?_ | refine TW_gmet rfl rfl rfl rfl ?_); first | refine QW QP ?_ | refine QW (rr_nilc rfl) ?_ | refine QW QL ?_ | refine QW QA ?_ | refine QW (rr_nilc rfl) ?_ | refine QW QlT ?_ | refine QW QlF ?_ | refine QW QgT ?_ | refine QW QgF ?_ | refine QW QeT ?_ | refine QW QeF ?_ | refine QW QnT ?_ | refine QW QnF ?_ | refine QW QaA ?_)
            | refine TW_skip rfl rfl rfl rfl rfl rfl rfl ?_ | refine TW_done ?_)
          refine TW_one rfl (TL_slv (i := 8) rfl fun qe1 qe2 => TL_store1 (i := 1) rfl rfl rfl qe1 qe2 rfl (TW_on (sub_pick [9] (by decide) rfl) ?_))
          repeat (first
            | ((first | refine TW_plain rfl rfl ?_ | refine TW_gmet rfl rfl rfl rfl ?_); first | refine QW QP ?_ | refine QW QL ?_ | refine QW QA ?_ | refine QW (rr_nilc rfl) ?_ | refine QW QlT ?_ | refine QW QlF ?_ | refine QW QgT ?_ | refine QW QgF ?_ | refine QW QeT ?_ | refine QW QeF ?_ | refine QW QnT ?_ | refine QW QnF ?_ | refine QW QaA ?_)
            | refine TW_skip rfl rfl rfl rfl rfl rfl rfl ?_ | refine TW_done ?_)
          refine E_pick [0, 1, 2, 3, 4, 5, 6, 7, 8, 9, 10] (by decide) rfl ?_
          exact E_mid ve' qe2 (by repeat' (first | exact True.intro | refine And.intro rfl ?_)) (by rw [← bool_snoc ve' m.empty em]; rfl)
      intro ve' he'
      rw [show p'.last.map Value.bool = p'.last.flatMap boolC from (bool_flat _).symm]
      refine T_know (i := 10) (φ := ∃ a c, vb = .slice a last.length c ∧ (0 < last.length → ∃ gl, a = some ⟨gl, 0, none⟩)) rfl (fun w h => by
        obtain ⟨y1, y2⟩ := (show w.ownsRow 0 3 1 vb last.length (last.map (Value.int .i64)) from h)
        rcases y2 with ⟨y3, y4⟩ | ⟨gl, cap, cur, hv, _⟩
        · exact ⟨none, 0, by rw [y3, y4], fun h => by omega⟩
        · exact ⟨_, _, hv, fun _ => ⟨gl, rfl⟩⟩) fun hvb => ?_
      obtain ⟨al, cl, rfl, hal⟩ := hvb
      refine T_know (i := 6) (φ := 0 < p'.last.length → ∃ gb cb, vl' = .slice (some ⟨gb, 0, none⟩) p'.last.length cb) rfl (fun w h => by
        obtain ⟨y1, y2⟩ := (show w.ownsRow 0 4 1 vl' p'.last.length (p'.last.flatMap boolC) from h)
        rcases y2 with ⟨y3, y4⟩ | ⟨gl, cap, cur, hv, _⟩
        · intro h; omega
        · exact fun _ => ⟨gl, cap, hv⟩) fun hvl => ?_
      repeat (first
        | refine QV QP ?_ | refine QZ ?_ | refine qcT rfl ?_ | refine qcF rfl ?_ | refine E_blockX ?_ | refine E_blockO rfl ?_
        | refine qs rfl rfl rfl rfl rfl rfl ?_
        | ((try refine qg rfl rfl rfl ?_); first | refine QV QP ?_ | refine QV (rr_load1 (v := .slice al last.length cl) TyC.ty rfl (at_blk (i := 9) rfl rfl)) ?_ | refine QV QL ?_ | refine QV QA ?_ | refine QV (rr_nilc rfl) ?_ | refine QV QlT ?_ | refine QV QlF ?_ | refine QV QgT ?_ | refine QV QgF ?_ | refine QV QeT ?_ | refine QV QeF ?_ | refine QV QnT ?_ | refine QV QnF ?_ | refine QV QaA ?_))
      refine T_pick [0, 1, 2, 3, 4, 5, 6, 7, 8, 10] (by decide) rfl ?_
      refine T_loop (ι := Nat) (fun j => j ≤ last.length) (fun j => [(2, .pointer (some ⟨g2, 0, none⟩)), (7, .pointer (some ⟨g7, 0, none⟩)), (37, .slice (some ⟨b, off, none⟩) (es.map emb).length ck), (38, .int .i64 (es.map emb).length), (39, .int .i64 (k : Int)), (77, .slice al last.length cl), (78, .int .i64 last.length), (79, .int .i64 (j : Int))])
        (fun j => [blkO g2 #[.slice none 0 0, .slice none 0 0, .slice none 0 0, .slice none 0 0, .slice none 0 0, .slice none 0 0] 57, blkO g7 (mkC vc' vr' vf' vfol' vl' ve' (k : Int)) 82, rowO 31 4 vc' p'.classes.length (p'.classes.flatMap clsL), intR vr' p'.rules, folR vfol' vs', folE F' vs' p'.follow, rowO 4 1 vl' p'.last.length ((markF p'.last (last.take j)).flatMap boolC), intR vf' (uni m.first first), rowO 4 1 ve' (m.empty ++ [em]).length ((m.empty ++ [em]).map Value.bool), intR (.slice al last.length cl) last]) (fun j => last.length - j) 0 (Nat.zero_le _) (by repeat' (first | exact True.intro | refine And.intro rfl ?_)) rfl ?_
      intro j j1
      by_cases c7 : j < last.length
      · obtain ⟨gl, rfl⟩ := hal (by omega)
        have hx := n5.2 last[j] (List.getElem_mem c7)
        have hgx : last[j]? = some last[j] := List.getElem?_eq_getElem c7
        have hms := mark_step p'.last last c7
        have hml2 := mark_len p'.last (last.take j)
        generalize last[j] = xx at *
        obtain ⟨xn, rfl⟩ := Int.eq_ofNat_of_zero_le hx.1
        rw [Int.toNat_natCast] at hms
        have hxn : xn < p'.last.length := by rw [n1.last]; omega
        obtain ⟨gb, cb, rfl⟩ := hvl (by omega)
        have hat3 : ∀ (L : List Own) (hi : L[9]? = some (intR (.slice (some ⟨gl, 0, none⟩) last.length cl) last)), At (w : Base) L ⟨gl, 0 + j * 1, none⟩ (.int .i64 (xn : Int)) := fun L hi => at_row hi (by rw [List.getElem?_map, Nat.zero_add, Nat.mul_one, hgx]; rfl)
        repeat (first
          | refine QV QP ?_ | refine QZ ?_ | refine qcT rfl ?_ | refine qcF rfl ?_ | refine E_blockX ?_ | refine E_blockO rfl ?_
          | refine qs rfl rfl rfl rfl rfl rfl ?_
          | ((try refine qg rfl rfl rfl ?_); first | refine QV QP ?_ | refine QV (rr_idxc Und.eq TyC.ty rfl rfl c7) ?_ | refine QV (rr_load1 (v := .int .i64 (xn : Int)) TyC.ty rfl (hat3 _ rfl)) ?_ | refine QV (rr_nilc rfl) ?_ | refine QV (rr_load1 (v := .slice (some ⟨gb, 0, none⟩) p'.last.length cb) TyC.ty rfl (at_blk (i := 1) rfl rfl)) ?_ | refine QV (rr_idxc Und.eq TyC.ty rfl rfl hxn) ?_ | refine QV QL ?_ | refine QV QA ?_ | refine QV (rr_nilc rfl) ?_ | refine QV QlT ?_ | refine QV QlF ?_ | refine QV QgT ?_ | refine QV QgF ?_ | refine QV QeT ?_ | refine QV QeF ?_ | refine QV QnT ?_ | refine QV QnF ?_ | refine QV QaA ?_))
        refine TL_setRow boolC_len (i := 6) (k := xn) (l := markF p'.last (last.take j)) (a := true) TyC.ty rfl rfl (by omega) (by omega) (by omega) rfl rfl rfl ?_
        rw [← hms]
        conv => arg 8; simp only [zA, zB, zC, zD, zE, zF, zG, zH, zI, rowS, ret, id_eq]
        repeat (first
          | refine QV QP ?_ | refine QZ ?_ | refine qcT rfl ?_ | refine qcF rfl ?_ | refine E_blockX ?_ | refine E_blockO rfl ?_
          | refine qs rfl rfl rfl rfl rfl rfl ?_
          | ((try refine qg rfl rfl rfl ?_); first | refine QV QP ?_ | refine QV QL ?_ | refine QV QA ?_ | refine QV (rr_nilc rfl) ?_ | refine QV QlT ?_ | refine QV QlF ?_ | refine QV QgT ?_ | refine QV QgF ?_ | refine QV QeT ?_ | refine QV QeF ?_ | refine QV QnT ?_ | refine QV QnF ?_ | refine QV QaA ?_))
        exact E_round (j + 1) (by omega) (by show last.length - (j + 1) < last.length - j; omega) (by repeat' (first | exact True.intro | refine And.intro rfl ?_)) rfl
      · obtain rfl : j = last.length := by omega
        rw [List.take_of_length_le (Nat.le_refl _), bool_flat]
        refine T_know (i := 2) (φ := ∃ a c, vc' = .slice a p'.classes.length c) rfl (fun w h => by
          obtain ⟨a, c, h, _⟩ := Sl.of_own (show w.ownsRow 0 31 4 vc' p'.classes.length (p'.classes.flatMap clsL) from h)
          exact ⟨a, c, h⟩) fun hvc => ?_
        obtain ⟨ac, cc, rfl⟩ := hvc
        by_cases c8 : 200 < p'.classes.length
        · rw [if_pos c8] at i2
          rw [i2]
          repeat (first
            | refine QV QP ?_ | refine QZ ?_ | refine qcT rfl ?_ | refine qcF rfl ?_ | refine E_blockX ?_ | refine E_blockO rfl ?_
            | refine qs rfl rfl rfl rfl rfl rfl ?_
            | ((try refine qg rfl rfl rfl ?_); first | refine QV QP ?_ | refine QV (rr_nilc rfl) ?_ | refine QV (rr_load1 (v := .slice ac p'.classes.length cc) TyC.ty rfl (at_blk (i := 1) rfl rfl)) ?_ | refine QV (rr_gtr (b := true) rfl rfl (decide_eq_true (by omega))) ?_ | refine QV (rr_build rfl build_posz) ?_ | refine QV QL ?_ | refine QV QA ?_ | refine QV (rr_nilc rfl) ?_ | refine QV QlT ?_ | refine QV QlF ?_ | refine QV QgT ?_ | refine QV QgF ?_ | refine QV QeT ?_ | refine QV QeF ?_ | refine QV QnT ?_ | refine QV QnF ?_ | refine QV QaA ?_))
          refine TL_storeB (i := 0) rfl rfl rfl rfl rfl rfl ?_
          conv => arg 8; simp only [zA, zB, zC, zD, zE, zF, zG, zH, zI, rowS, ret, id_eq]
          repeat (first
            | refine QV QP ?_ | refine QZ ?_ | refine qcT rfl ?_ | refine qcF rfl ?_ | refine E_blockX ?_ | refine E_blockO rfl ?_
            | refine qs rfl rfl rfl rfl rfl rfl ?_
            | ((try refine qg rfl rfl rfl ?_); first | refine QV QP ?_ | refine QV QL ?_ | refine QV QA ?_ | refine QV (rr_nilc rfl) ?_ | refine QV QlT ?_ | refine QV QlF ?_ | refine QV QgT ?_ | refine QV QgF ?_ | refine QV QeT ?_ | refine QV QeF ?_ | refine QV QnT ?_ | refine QV QnF ?_ | refine QV QaA ?_))
          refine E_zero ?_
          exact E_retc2 (i := 0) rfl rfl rfl rfl rfl fun w hm => hm.meets (S := makeSp (2, .zero)) nilP rfl [10, 11, 12, 13, 14, 15, 16] (by decide) rfl
        · rw [if_neg c8] at i2
          repeat (first
            | refine QV QP ?_ | refine QZ ?_ | refine qcT rfl ?_ | refine qcF rfl ?_ | refine E_blockX ?_ | refine E_blockO rfl ?_
            | refine qs rfl rfl rfl rfl rfl rfl ?_
            | ((try refine qg rfl rfl rfl ?_); first | refine QV QP ?_ | refine QV (rr_nilc rfl) ?_ | refine QV (rr_load1 (v := .slice ac p'.classes.length cc) TyC.ty rfl (at_blk (i := 1) rfl rfl)) ?_ | refine QV (rr_gtr (b := false) rfl rfl (decide_eq_false (by omega))) ?_ | refine QV QL ?_ | refine QV QA ?_ | refine QV (rr_nilc rfl) ?_ | refine QV QlT ?_ | refine QV QlF ?_ | refine QV QgT ?_ | refine QV QgF ?_ | refine QV QeT ?_ | refine QV QeF ?_ | refine QV QnT ?_ | refine QV QnF ?_ | refine QV QaA ?_))
          refine E_pick [0, 1, 2, 3, 4, 5, 6, 7, 8] (by decide) rfl ?_
          exact E_round (k + 1, ⟨{ p' with last := markF p'.last last }, uni m.first first, m.empty ++ [em]⟩, ⟨.slice ac p'.classes.length cc, vr', vfol', vl', vs', F'⟩, vf', ve', (k : Int)) ⟨by omega, i2, hst.1, by show p'.classes.length ≤ 200; omega, hx', by rw [List.length_append, List.length_singleton, i6]⟩ (by show es.length - (k + 1) < es.length - k; omega) (by repeat' (first | exact True.intro | refine And.intro rfl ?_)) (by dsimp only; rw [show p'.last.length = (markF p'.last last).length from (mark_len _ _).symm]; rfl)
    · obtain rfl : k = es.length := by omega
      rw [List.drop_eq_nil_of_le (Nat.le_refl _)] at i2
      rw [i2]
      repeat (first
        | refine QV QP ?_ | refine QZ ?_ | refine qcT rfl ?_ | refine qcF rfl ?_ | refine E_blockX ?_ | refine E_blockO rfl ?_
        | refine qs rfl rfl rfl rfl rfl rfl ?_
        | ((try refine qg rfl rfl rfl ?_); first | refine QV QP ?_ | refine QV (rr_nilc rfl) ?_ | refine QV QL ?_ | refine QV QA ?_ | refine QV (rr_nilc rfl) ?_ | refine QV QlT ?_ | refine QV QlF ?_ | refine QV QgT ?_ | refine QV QgF ?_ | refine QV QeT ?_ | refine QV QeF ?_ | refine QV QnT ?_ | refine QV QnF ?_ | refine QV QaA ?_))
      refine TL_slv (i := 2) rfl fun _ a1 => TL_slv (i := 3) rfl fun _ a2 => TL_slv (i := 4) rfl fun _ a3 => TL_slv (i := 6) rfl fun _ a4 => TL_slv (i := 7) rfl fun _ a5 => TL_slv (i := 8) rfl fun _ a6 => ?_
      repeat (first
        | refine QV QP ?_ | refine QZ ?_ | refine qcT rfl ?_ | refine qcF rfl ?_ | refine E_blockX ?_ | refine E_blockO rfl ?_
        | refine qs rfl rfl rfl rfl rfl rfl ?_
        | ((try refine qg rfl rfl rfl ?_); first | refine QV QP ?_ | refine QV (rr_loadN (cs := [vc, vr, vf, vfol, vl, ve]) TyC.ty rfl rfl (fun j v hj => at_blk (i := 1) rfl (posn_at hj))) ?_ | refine QV QL ?_ | refine QV QA ?_ | refine QV (rr_nilc rfl) ?_ | refine QV QlT ?_ | refine QV QlF ?_ | refine QV QgT ?_ | refine QV QgF ?_ | refine QV QeT ?_ | refine QV QeF ?_ | refine QV QnT ?_ | refine QV QnF ?_ | refine QV QaA ?_))
      refine TL_storeB (i := 0) (cs' := #[vc, vr, vf, vfol, vl, ve]) rfl rfl rfl rfl (by simp only [List.all_cons, List.all_nil, a1, a2, a3, a4, a5, a6]; rfl) rfl ?_
      conv => arg 8; simp only [zA, zB, zC, zD, zE, zF, zG, zH, zI, rowS, ret, id_eq]
      repeat (first
        | refine QV QP ?_ | refine QZ ?_ | refine qcT rfl ?_ | refine qcF rfl ?_ | refine E_blockX ?_ | refine E_blockO rfl ?_
        | refine qs rfl rfl rfl rfl rfl rfl ?_
        | ((try refine qg rfl rfl rfl ?_); first | refine QV QP ?_ | refine QV QL ?_ | refine QV QA ?_ | refine QV (rr_nilc rfl) ?_ | refine QV QlT ?_ | refine QV QlF ?_ | refine QV QgT ?_ | refine QV QgF ?_ | refine QV QeT ?_ | refine QV QeF ?_ | refine QV QnT ?_ | refine QV QnF ?_ | refine QV QaA ?_))
      exact E_retc2 (i := 0) rfl rfl rfl rfl rfl fun w hm => hm.meets (S := makeSp (0, m)) ⟨vc, vr, vf, vfol, vl, ve, vs, F⟩ i5 [2, 3, 7, 4, 5, 6, 8] (by decide) rfl
end Go.Proofs.YtkcnoompimohnaaDoor.eng

/- RexPl -/
namespace Go.Proofs.YtkcnoompimohnaaDoor.eng
open Go.RowKit kit mix classL rexL classSets
theorem build_rexL (c : C4) (w : World) : (Instr.build 33 #[(0, .int .i64 3), (1, clsV c)]).run Tryd.prog w = .ok (rexV 3 c (.slice none 0 0)) w := by kernel_rfl
theorem build_rexN (k : Int) (g n : Nat) (w : World) : (Instr.build 33 #[(0, .int .i64 k), (2, .slice (some ⟨g, 0, none⟩) n n)]).run Tryd.prog w = .ok (rexV k C4.zero (.slice (some ⟨g, 0, none⟩) n n)) w := by kernel_rfl
theorem letter_calls (b : Int) (w : World) (hb : kit.okI64 b) : Calls Tryd.prog 6 #[.int .i64 b] w (Meets (ret (rexV 3 (rangeF b b) (.slice none 0 0))) w) := by
  have hr := fun w => rangeE b b hb hb w
  have hbl := build_rexL (rangeF b b)
  generalize rangeF b b = c at *
  refine enter (args := [.int .i64 b]) (n := 7) Tryd.func6 rfl rfl rfl ?_
  refine T_seq (T_region (TL_new rfl fun g2 => ?_))
  conv => arg 8; simp only [zA, zB, zC, zD, zE, zF, zG, zH, zI, rowS, ret, id_eq]
  repeat (first
    | refine QV QP ?_ | refine QZ ?_)
  refine TL_call (he2 EntersC.en rfl rfl rfl) (fun w hm => hr _) rfl rfl rfl ?_
  intro _ _
  conv => arg 8; simp only [zA, zB, zC, zD, zE, zF, zG, zH, zI, rowS, ret, id_eq]
  repeat (first
    | refine QV QP ?_ | refine QZ ?_ | refine QV (rr_build rfl hbl) ?_)
  refine TL_storeB (i := 0) (cs' := (rexC 3 c (.slice none 0 0)).toArray) rfl rfl rfl rfl rfl rfl ?_
  conv => arg 8; simp only [zA, zB, zC, zD, zE, zF, zG, zH, zI, rowS, ret, id_eq]
  repeat (first
    | refine QV QP ?_ | refine QZ ?_)
  exact E_retc1 (i := 0) rfl rfl rfl rfl fun w hm => hm.ret
/-- kids that were put into a list -/
def kidO (g : Nat) (l : List (List Value)) : Own := blkO g l.flatten.toArray 33
def starS (cs : List Value) : Spec Nat := ⟨fun _ => True, fun g => rexV 6 C4.zero (.slice (some ⟨g, 0, none⟩) 1 1), fun g => [kidO g [cs]]⟩
def twoS (k : Int) (cs cs' : List Value) : Spec Nat := ⟨fun _ => True, fun g => rexV k C4.zero (.slice (some ⟨g, 0, none⟩) 2 2), fun g => [kidO g [cs, cs']]⟩
theorem star_calls (k : Int) (c : C4) (b : Option Addr) (l cap : Nat) (w : World) : Calls Tryd.prog 21 #[rexV k c (.slice b l cap)] w (Meets (starS (rexC k c (.slice b l cap))) w) := by
  refine enter (args := [rexV k c (.slice b l cap)]) (n := 6) Tryd.func21 rfl rfl rfl ?_
  refine T_seq (T_region (TL_box rfl rfl rfl fun g1 => TL_new rfl fun g2 => ?_))
  conv => arg 8; simp only [zA, zB, zC, zD, zE, zF, zG, zH, zI, rowS, ret, id_eq]
  repeat (first
    | refine QZ ?_ | refine QV (rr_loadB (i := 0) TyC.ty rfl rfl rfl) ?_)
  refine TL_one (cs := [rexC k c (.slice b l cap)].flatten.toArray) rfl rfl rfl rfl rfl fun g4 => ?_
  conv => arg 8; simp only [zA, zB, zC, zD, zE, zF, zG, zH, zI, rowS, ret, id_eq]
  repeat (first
    | refine QZ ?_ | refine QV (rr_build rfl (build_rexN 6 g4 1)) ?_)
  refine TL_storeB (i := 1) (cs' := (rexC 6 C4.zero (.slice (some ⟨g4, 0, none⟩) 1 1)).toArray) rfl rfl rfl rfl rfl rfl ?_
  conv => arg 8; simp only [zA, zB, zC, zD, zE, zF, zG, zH, zI, rowS, ret, id_eq]
  repeat (first
    | refine QZ ?_)
  refine E_retc1 (i := 1) rfl rfl rfl rfl fun w hm => ?_
  exact hm.meets (S := starS (rexC k c (.slice b l cap))) g4 trivial [2] (by decide) rfl
theorem two_calls (q k k' : Int) (c c' : C4) (b b' : Option Addr) (l l' cap cap' : Nat) (w : World) : Calls Tryd.prog 20 #[.int .i64 q, rexV k c (.slice b l cap), rexV k' c' (.slice b' l' cap')] w (Meets (twoS q (rexC k c (.slice b l cap)) (rexC k' c' (.slice b' l' cap'))) w) := by
  refine enter (args := [.int .i64 q, rexV k c (.slice b l cap), rexV k' c' (.slice b' l' cap')]) (n := 12) Tryd.func20 rfl rfl rfl ?_
  refine T_seq (T_region (TL_box rfl rfl rfl fun g4 => TL_box rfl rfl rfl fun g5 => TL_new rfl fun g6 => ?_))
  conv => arg 8; simp only [zA, zB, zC, zD, zE, zF, zG, zH, zI, rowS, ret, id_eq]
  repeat (first
    | refine QV QP ?_ | refine QZ ?_ | refine QV (rr_loadB (i := 0) TyC.ty rfl rfl rfl) ?_ | refine QV (rr_loadB (i := 1) TyC.ty rfl rfl rfl) ?_)
  refine TL_litN (cs := [rexC k c (.slice b l cap), rexC k' c' (.slice b' l' cap')].flatten.toArray) [rexV k c (.slice b l cap), rexV k' c' (.slice b' l' cap')] rfl rfl rfl (by intro v hv; simp only [List.mem_cons, List.not_mem_nil, or_false] at hv; rcases hv with rfl | rfl <;> rfl) rfl rfl rfl fun g10 => ?_
  conv => arg 8; simp only [zA, zB, zC, zD, zE, zF, zG, zH, zI, rowS, ret, id_eq]
  repeat (first
    | refine QV QP ?_ | refine QZ ?_ | refine QV (rr_build rfl (build_rexN q g10 2)) ?_)
  refine TL_storeB (i := 2) (cs' := (rexC q C4.zero (.slice (some ⟨g10, 0, none⟩) 2 2)).toArray) rfl rfl rfl rfl rfl rfl ?_
  conv => arg 8; simp only [zA, zB, zC, zD, zE, zF, zG, zH, zI, rowS, ret, id_eq]
  repeat (first
    | refine QV QP ?_ | refine QZ ?_)
  refine E_retc1 (i := 2) rfl rfl rfl rfl fun w hm => ?_
  exact hm.meets (S := twoS q (rexC k c (.slice b l cap)) (rexC k' c' (.slice b' l' cap'))) g10 trivial [3] (by decide) rfl
/-- what was put together can be read -/
theorem kids_rex {w : World} {g : Nat} {k : Int} {l : List (Int × C4 × Value × Rx)} (hk : kit.okI64 k) (h : (kidO g (l.map fun x => rexC x.1 x.2.1 x.2.2.1)).holds w) (hl : l.length ≤ 2) (hr : ∀ x ∈ l, RexIs (Low w) w (rexC x.1 x.2.1 x.2.2.1) x.2.2.2) :
    RexR (Low w) w (rexV k C4.zero (.slice (some ⟨g, 0, none⟩) l.length l.length)) (.mk k C4.zero (l.map fun x => x.2.2.2)) := by
  have hb : w.heap[g]? = some (.cells (l.map fun x => rexC x.1 x.2.1 x.2.2.1).flatten.toArray 33 (0, 0)) := h
  refine ⟨_, rfl, hk, some ⟨g, 0, none⟩, l.length, by show Value.slice _ l.length _ = _; rw [show (Rx.mk k C4.zero (l.map fun x => x.2.2.2)).kids.length = l.length from List.length_map ..], by rw [show (Rx.mk k C4.zero (l.map fun x => x.2.2.2)).kids.length = l.length from List.length_map ..]; exact Nat.le_refl _, by unfold maxLen; omega, fun _ => ⟨g, 0, rfl, (Array.getElem?_eq_some_iff.1 hb).1, fun i hi => ?_⟩⟩
  have hi' : i < l.length := by have : i < (l.map fun x => x.2.2.2).length := hi; simpa using this
  refine ⟨rexC l[i].1 l[i].2.1 l[i].2.2.1, ?_, fun j u hj => ?_⟩
  · have e : (Rx.mk k C4.zero (l.map fun x => x.2.2.2)).kids[i] = l[i].2.2.2 := by exact List.getElem_map (h := by simpa using hi') ..
    rw [e]
    exact hr l[i] (List.getElem_mem hi')
  · rw [cell_of_row w g _ _ _ _ hb, List.getElem?_toArray, Nat.zero_add]
    have hj6 : j < 6 := by have := (List.getElem?_eq_some_iff.1 hj).1; simpa [rexC, clsL] using this
    have := flatten_get (c := 6) (l.map fun x => rexC x.1 x.2.1 x.2.2.1) (fun x hx => by obtain ⟨y, _, rfl⟩ := List.mem_map.1 hx; rfl) i j (by simpa using hi') hj6
    show (l.map fun x => rexC x.1 x.2.1 x.2.2.1).flatten[i * 6 + j]? = some u
    rw [this, List.getElem_map]; exact hj
theorem rex_cs {F : Nat → Prop} {w : World} {vk : Value} {r : Rx} (h : RexR F w (rexV r.kind r.cls vk) r) : RexIs F w (rexC r.kind r.cls vk) r := by
  obtain ⟨k, c, kids⟩ := r
  obtain ⟨vk', e, h1, h2⟩ := h
  dsimp only [Rx.kind, Rx.cls, Rx.kids] at e h1 h2 ⊢
  have : vk = vk' := by simpa [rexV, rexC, clsL] using e
  subst this
  exact rex_iff.2 ⟨_, rfl, h1, h2⟩
theorem two_rex {w : World} {g : Nat} {k : Int} {r q : Rx} {vk vk' : Value} (hk : kit.okI64 k) (h : (kidO g [rexC r.kind r.cls vk, rexC q.kind q.cls vk']).holds w) (hr : RexR (Low w) w (rexV r.kind r.cls vk) r) (hq : RexR (Low w) w (rexV q.kind q.cls vk') q) :
    RexR (Low w) w (rexV k C4.zero (.slice (some ⟨g, 0, none⟩) 2 2)) (.mk k C4.zero [r, q]) :=
  kids_rex (l := [(r.kind, r.cls, vk, r), (q.kind, q.cls, vk', q)]) hk h (Nat.le_refl 2) fun x hx => by
    simp only [List.mem_cons, List.not_mem_nil, or_false] at hx
    rcases hx with rfl | rfl
    · exact rex_cs hr
    · exact rex_cs hq
theorem star_rex {w : World} {g : Nat} {r : Rx} {vk : Value} (h : (kidO g [rexC r.kind r.cls vk]).holds w) (hr : RexR (Low w) w (rexV r.kind r.cls vk) r) :
    RexR (Low w) w (rexV 6 C4.zero (.slice (some ⟨g, 0, none⟩) 1 1)) (.mk 6 C4.zero [r]) :=
  kids_rex (l := [(r.kind, r.cls, vk, r)]) ⟨by decide, by decide⟩ h (by show 1 ≤ 2; omega) fun x hx => by
    simp only [List.mem_cons, List.not_mem_nil, or_false] at hx
    subst hx
    exact rex_cs hr
theorem star_rexK {w : World} {g : Nat} {k : Int} {c : C4} {kids : List Rx} {vk : Value} (h : (kidO g [rexC k c vk]).holds w) (hr : RexR (Low w) w (rexV k c vk) (.mk k c kids)) :
    RexR (Low w) w (rexV 6 C4.zero (.slice (some ⟨g, 0, none⟩) 1 1)) (.mk 6 C4.zero [.mk k c kids]) := star_rex (r := .mk k c kids) h hr
theorem two_rexK {w : World} {g : Nat} {q k k' : Int} {c c' : C4} {kids kids' : List Rx} {vk vk' : Value} (hq : kit.okI64 q) (h : (kidO g [rexC k c vk, rexC k' c' vk']).holds w) (hr : RexR (Low w) w (rexV k c vk) (.mk k c kids)) (hr' : RexR (Low w) w (rexV k' c' vk') (.mk k' c' kids')) :
    RexR (Low w) w (rexV q C4.zero (.slice (some ⟨g, 0, none⟩) 2 2)) (.mk q C4.zero [.mk k c kids, .mk k' c' kids']) := two_rex (r := .mk k c kids) (q := .mk k' c' kids') hq h hr hr'
theorem leaf_rex {F : Nat → Prop} {w : World} {k : Int} {c : C4} (hk : kit.okI64 k) : RexR F w (rexV k c (.slice none 0 0)) (.mk k c []) := ⟨_, rfl, hk, SlF.nil⟩
end Go.Proofs.YtkcnoompimohnaaDoor.eng

/- PlR -/
namespace Go.Proofs.YtkcnoompimohnaaDoor.eng
open Go.RowKit kit mix classL rexL placesL classSets
theorem slr_gr {w w' : World} {v : Value} {l : List Rx} (h : SlF rexS (Low w) w v l) (hg : Gr w w') : SlF rexS (Low w') w' v l :=
  (h.stay fun k hk => hg.block k hk).mono fun k hk => Nat.lt_of_lt_of_le hk hg.size
theorem embs_of : ∀ {rs : List Rx}, checkM rs = 0 → ∃ es : List Re, rs = es.map emb ∧ ∀ e ∈ es, Fit e 1 0
  | [], _ => ⟨[], rfl, fun _ h => by cases h⟩
  | r :: l, h => by
    have hr := check_all h r (List.mem_cons_self ..)
    have hl : checkM l = 0 := by rw [checkM, if_neg (by simpa using hr)] at h; exact h
    obtain ⟨es, rfl, h2⟩ := embs_of hl
    obtain ⟨e, rfl, hf, _⟩ := chk_fit (sizeX r) r 1 0 (chk r 1 0).2 (Nat.le_refl _) (by rw [← hr])
    refine ⟨e :: es, rfl, fun x hx => ?_⟩
    rcases List.mem_cons.1 hx with rfl | hx
    · exact hf
    · exact h2 x hx
theorem fit_size {e : Re} (h : Fit e 1 0) : e.size ≤ 100 := by have := h.sz; omega
theorem checkM_fit : ∀ {es : List Re}, (∀ e ∈ es, Fit e 1 0) → checkM (es.map emb) = 0
  | [], _ => rfl
  | e :: es, h => by
    have h1 : chkR (emb e) = 0 := by show (chk (emb e) 1 0).1 = 0; rw [fit_chk e 1 0 (h e (List.mem_cons_self ..))]
    rw [List.map_cons, checkM, if_neg (by simpa using h1)]
    exact checkM_fit fun x hx => h x (List.mem_cons_of_mem _ hx)
theorem loop_zero : ∀ (es : List Re) (i : Nat) (m : MS), (loopM i m es).1 ≠ 0 → (loopM i m es).2 = .zero
  | [], _, _, h => absurd rfl h
  | e :: r, i, m, h => by
    rw [loopM] at h ⊢
    split at h
    · rename_i c; rw [if_pos c]
    · rename_i c; rw [if_neg c]; exact loop_zero r _ _ h
/-- nothing with an error, or what the rules make -/
theorem makeR_two (rs : List Rx) : (∃ k : Int, k ≠ 0 ∧ MakeR rs (k, .zero)) ∨ ∃ (es : List Re) (m : MS), rs = es.map emb ∧ (∀ e ∈ es, Fit e 1 0) ∧ 0 < es.length ∧ es.length ≤ 20 ∧ loopM 0 .zero es = (0, m) ∧ MakeR rs (0, m) := by
  by_cases c : rs.length = 0 ∨ 20 < rs.length
  · exact .inl ⟨1, by decide, .inl ⟨c, rfl⟩⟩
  · by_cases h : checkM rs = 0
    · obtain ⟨es, h1, h2⟩ := embs_of h
      have hR : MakeR rs (loopM 0 .zero es) := .inr (.inr ⟨c, h, es, h1, fun e he => fit_size (h2 e he), rfl⟩)
      have hz := loop_zero es 0 .zero
      have hl : rs.length = es.length := by rw [h1, List.length_map]
      obtain ⟨k, m, e⟩ : ∃ k m, loopM 0 .zero es = (k, m) := ⟨_, _, rfl⟩
      rw [e] at hR hz
      by_cases h0 : k = 0
      · subst h0
        exact .inr ⟨es, m, h1, h2, by omega, by omega, e, hR⟩
      · obtain rfl : m = .zero := hz h0
        exact .inl ⟨k, h0, hR⟩
    · exact .inl ⟨checkM rs, h, .inr (.inl ⟨c, h, rfl⟩)⟩
theorem letter_nz {b : Nat} (hb : b < 256) : rangeF b b ≠ C4.zero := fun h => by
  have h1 : (rangeF b b).mem b = true := by rw [range_mem _ _ _ hb, decide_eq_true_eq]; omega
  rw [h, zero_mem] at h1; cases h1
theorem make_fit {es : List Re} (h0 : es ≠ []) (h20 : es.length ≤ 20) (h : ∀ e ∈ es, Fit e 1 0) : MakeR (es.map emb) (loopM 0 .zero es) :=
  .inr (.inr ⟨by rw [List.length_map]; have := List.length_pos_iff.2 h0; omega, checkM_fit h, es, rfl, fun e he => fit_size (h e he), rfl⟩)
/-- an own row is a slice -/
theorem row_sl {e : TypeId} {size n : Nat} {v : Value} {xs : List Value} (w : World) (h : (rowO e size v n xs).holds w) : ∃ a c, v = .slice a n c ∧ (0 < n → ∃ g, a = some ⟨g, 0, none⟩) := by
  rcases (show w.ownsRow 0 e size v n xs from h).2 with ⟨rfl, rfl⟩ | ⟨g, cap, cur, rfl, _⟩
  · exact ⟨_, _, rfl, fun h => by omega⟩
  · exact ⟨_, _, rfl, fun _ => ⟨g, rfl⟩⟩
theorem row_slm {e : TypeId} {size n : Nat} {v : Value} {xs : List Value} (w : World) (h : (rowO e size v n xs).holds w) : ∃ a c, v = .slice a n c ∧ n ≤ 9223372036854775807 ∧ (0 < n → ∃ g, a = some ⟨g, 0, none⟩) := by
  rcases (show w.ownsRow 0 e size v n xs from h).2 with ⟨rfl, rfl⟩ | ⟨g, cap, cur, rfl, _, _, hn, hm, _⟩
  · exact ⟨_, _, rfl, by omega, fun h => by omega⟩
  · exact ⟨_, _, rfl, by unfold maxLen at hm; omega, fun _ => ⟨g, rfl⟩⟩
/-- what Make made, as it can be read -/
theorem pos_slf {F : Nat → Prop} {v : Value} {vs : List Value} {fol : List (List Int)} {w : World} (hr : (folR v vs).holds w) (he : (folE F vs fol).holds w) (hl : vs.length = fol.length) : SlF (sliceS intS) (Low w) w v fol := by
  have hr' : w.ownsRow 0 24 1 v vs.length (vs.flatMap one1) := hr
  obtain ⟨base, cap, h1, h2, h3, h4⟩ := Sl.of_own hr'
  rw [hl] at h1 h2
  refine ⟨base, cap, h1, h2, h3, fun h0 => ?_⟩
  obtain ⟨b, off, h5, h6⟩ := h4 (by omega)
  rw [one1_flat] at h6
  refine ⟨b, off, h5, ?_, fun i hi => ⟨[vs[i]'(by omega)], ⟨vs[i]'(by omega), rfl, ?_⟩, fun j u hj => ?_⟩⟩
  · have := h6 0 _ (List.getElem?_eq_getElem (by omega))
    exact World.block_lt_of_cell? w _ this
  · have hs := fol_sl he hi (by omega)
    obtain ⟨⟨q1, q2⟩, q3⟩ := he
    obtain ⟨v', hv', hok, _, hF⟩ := q2 i hi (by rw [List.length_map]; omega)
    rw [List.getElem_map] at hv'
    simp only [one1, List.cons.injEq, and_true] at hv'
    rw [← int_flat] at hs
    refine SlF.of_flat hs hok (fun b hb => q3 b (hF b (by rw [← hv']; exact hb))) fun a n cp hv => q3 a.block (hF _ (by rw [← hv', hv]; rfl))
  · have hj0 : j = 0 := by have := (List.getElem?_eq_some_iff.1 hj).1; simp at this; exact this
    subst hj0
    have := h6 i u (by rw [List.getElem?_eq_getElem (by omega)]; exact hj)
    show w.cell? ⟨b, off + i * 1 + 0, none⟩ = some u
    rw [Nat.mul_one, Nat.add_zero]
    exact this
end Go.Proofs.YtkcnoompimohnaaDoor.eng

/- SmIe -/
namespace Go.Proofs.YtkcnoompimohnaaDoor.eng
open Go.RowKit kit mix
theorem SmIn_len (a : Int) : (kit.intC a).length = 1 := rfl
end Go.Proofs.YtkcnoompimohnaaDoor.eng

/- BoE -/
namespace Go.Proofs.YtkcnoompimohnaaDoor.eng
open Go.RowKit kit mix
def boC (b : Bool) : List Value := [.bool b]
theorem BoE_len (a : Bool) : (boC a).length = 1 := rfl
end Go.Proofs.YtkcnoompimohnaaDoor.eng

/- PlE -/
namespace Go.Proofs.YtkcnoompimohnaaDoor.eng
open Go.RowKit kit mix classL placesL
theorem folS_sl {F : Nat → Prop} {w : World} {cs : List Value} {l : List Int} (h : (sliceS intS).is F w cs l) : ∃ v, cs = [v] ∧ Sl w v l.length (l.flatMap kit.intC) := by
  obtain ⟨v, h1, h2⟩ := h
  exact ⟨v, h1, h2.flat (by decide)⟩
theorem slii_gr {w w' : World} {v : Value} {l : List (List Int)} (h : SlF (sliceS intS) (Low w) w v l) (hg : Gr w w') : SlF (sliceS intS) (Low w') w' v l :=
  (h.stay fun k hk => hg.block k hk).mono fun k hk => Nat.lt_of_lt_of_le hk hg.size
/-- a Posn that can be read -/
def PosR (w : World) (v : Value) (m : MS) : Prop :=
  ∃ vc vr vf vfol vl ve, v = .agg #[vc, vr, vf, vfol, vl, ve] ∧ Sl w vc m.ps.classes.length (m.ps.classes.flatMap clsL) ∧ Sl w vr m.ps.rules.length (m.ps.rules.flatMap kit.intC) ∧ Sl w vf m.first.length (m.first.flatMap kit.intC) ∧
    SlF (sliceS intS) (Low w) w vfol m.ps.follow ∧ Sl w vl m.ps.last.length (m.ps.last.flatMap boC) ∧ Sl w ve m.empty.length (m.empty.flatMap boC)
theorem PosR.gr {w w' : World} {v : Value} {m : MS} (h : PosR w v m) (hg : Gr w w') : PosR w' v m := by
  obtain ⟨vc, vr, vf, vfol, vl, ve, h0, h1, h2, h3, h4, h5, h6⟩ := h
  exact ⟨vc, vr, vf, vfol, vl, ve, h0, h1.gr hg, h2.gr hg, h3.gr hg, slii_gr h4 hg, h5.gr hg, h6.gr hg⟩
end Go.Proofs.YtkcnoompimohnaaDoor.eng

/- PlP -/
namespace Go.Proofs.YtkcnoompimohnaaDoor.eng
open Go.RowKit kit mix classL rexL placesL
theorem boC_flat (l : List Bool) : l.flatMap boC = l.map Value.bool := bool_flat l
theorem posR_of {w : World} {x : PIx} {m : MS} (hl : x.vs.length = m.ps.follow.length) (h0 : (rowO 31 4 x.vc m.ps.classes.length (m.ps.classes.flatMap clsL)).holds w) (h1 : (intR x.vr m.ps.rules).holds w) (h2 : (intR x.vf m.first).holds w) (h3 : (folR x.vfol x.vs).holds w) (h4 : (folE x.F x.vs m.ps.follow).holds w)
    (h5 : (rowO 4 1 x.vl m.ps.last.length (m.ps.last.map Value.bool)).holds w) (h6 : (rowO 4 1 x.ve m.empty.length (m.empty.map Value.bool)).holds w) : PosR w (.agg (posC x)) m := by
  refine ⟨_, _, _, _, _, _, rfl, Sl.of_own h0, ?_, ?_, pos_slf h3 h4 hl, ?_, ?_⟩
  · rw [int_flat]; exact Sl.of_own h1
  · rw [int_flat]; exact Sl.of_own h2
  · rw [boC_flat]; exact Sl.of_own h5
  · rw [boC_flat]; exact Sl.of_own h6
theorem Mem.posR {w : World} {B : Base} {L : List Own} {x : PIx} {m : MS} (i : Nat) (hm : Mem B L w) (hl : x.vs.length = m.ps.follow.length) (h : posL x m = [i, i + 1, i + 2, i + 3, i + 4, i + 5, i + 6].filterMap fun j => L[j]?) (hlen : i + 6 < L.length) : PosR w (.agg (posC x)) m := by
  have g : ∀ j, j < 7 → ∃ o, L[i + j]? = some o ∧ (posL x m)[j]? = some o := by
    intro j hj
    have e : ∀ k, k < 7 → ∃ o, L[i + k]? = some o := fun k hk => ⟨_, List.getElem?_eq_getElem (by omega)⟩
    rw [h]
    obtain ⟨o0, e0⟩ : ∃ o, L[i]? = some o := e 0 (by omega)
    obtain ⟨o1, e1⟩ := e 1 (by omega)
    obtain ⟨o2, e2⟩ := e 2 (by omega)
    obtain ⟨o3, e3⟩ := e 3 (by omega)
    obtain ⟨o4, e4⟩ := e 4 (by omega)
    obtain ⟨o5, e5⟩ := e 5 (by omega)
    obtain ⟨o6, e6⟩ := e 6 (by omega)
    simp only [List.filterMap_cons, e0, e1, e2, e3, e4, e5, e6, List.filterMap_nil]
    match j, hj with
    | 0, _ => exact ⟨_, e0, rfl⟩
    | 1, _ => exact ⟨_, e1, rfl⟩
    | 2, _ => exact ⟨_, e2, rfl⟩
    | 3, _ => exact ⟨_, e3, rfl⟩
    | 4, _ => exact ⟨_, e4, rfl⟩
    | 5, _ => exact ⟨_, e5, rfl⟩
    | 6, _ => exact ⟨_, e6, rfl⟩
  have k : ∀ j o, j < 7 → (posL x m)[j]? = some o → o.holds w := fun j o hj ho => by
    obtain ⟨o', h1, h2⟩ := g j hj
    rw [h2] at ho
    cases ho
    exact hm.get h1
  exact posR_of hl (k 0 _ (by omega) rfl) (k 1 _ (by omega) rfl) (k 2 _ (by omega) rfl) (k 3 _ (by omega) rfl) (k 4 _ (by omega) rfl) (k 5 _ (by omega) rfl) (k 6 _ (by omega) rfl)
end Go.Proofs.YtkcnoompimohnaaDoor.eng

/- PlK -/
namespace Go.Proofs.YtkcnoompimohnaaDoor.eng
open Go.RowKit kit mix classL rexL placesL
set_option maxHeartbeats 2000000 in
theorem rises_calls (v : Value) (l : List Int) (n : Nat) (w : World) (hv : Sl w v l.length (l.flatMap kit.intC)) (h : Ris n l) :
    Calls Tryd.prog 37 #[v, .int .i64 (n : Int)] w (Meets (ret (.bool true)) w) := by
  obtain ⟨base, cap, rfl, hcap, hmax, hrd⟩ := hv
  unfold maxLen at hmax
  refine enter (args := [.slice base l.length cap, .int .i64 (n : Int)]) (n := 35) Tryd.func37 rfl rfl rfl ?_
  repeat (first
    | refine QV QP ?_ | refine QZ ?_ | refine qcT rfl ?_ | refine qcF rfl ?_ | refine E_blockX ?_ | refine E_blockO rfl ?_
    | refine qs rfl rfl rfl rfl rfl rfl ?_
    | ((try refine qg rfl rfl rfl ?_); first | refine QV QP ?_ | refine QV QL ?_ | refine QV QlT ?_ | refine QV QlF ?_ | refine QV QaA ?_ | refine QV QmT ?_ | refine QV QmF ?_ | refine QV QgT ?_ | refine QV QgF ?_ | refine QV QhT ?_ | refine QV QhF ?_ | refine QV QaS ?_))
  refine T_loop (ι := Nat) (fun k => k ≤ l.length) (fun k => [(0, .slice base l.length cap), (1, .int .i64 (n : Int)), (7, .slice base l.length cap), (8, .int .i64 l.length), (9, .int .i64 (k : Int))]) (fun _ => []) (fun k => l.length - k) 0 (Nat.zero_le _) (by repeat' (first | exact True.intro | refine And.intro rfl ?_)) rfl ?_
  intro k h1
  by_cases c2 : k < l.length
  · obtain ⟨b, off, rfl, hr⟩ := hrd (by omega)
    have hat := at_el (L := ([] : List Own)) SmIn_len hr c2 0 _ rfl
    have hx := h.2 _ (List.getElem_mem c2)
    by_cases c3 : 0 < k
    · have hp := List.pairwise_iff_getElem.1 h.1 (k - 1) k (by omega) c2 (by omega)
      have hat2 := at_el (L := ([] : List Own)) SmIn_len hr (k := k - 1) (by omega) 0 _ rfl
      generalize l[k] = x at *
      generalize l[k - 1]'(by omega) = y at *
      repeat (first
        | refine QV QP ?_ | refine QZ ?_ | refine qcT rfl ?_ | refine qcF rfl ?_ | refine E_blockX ?_ | refine E_blockO rfl ?_
        | refine qs rfl rfl rfl rfl rfl rfl ?_
        | ((try refine qg rfl rfl rfl ?_); first | refine QV QP ?_ | refine QV (rr_idxc Und.eq TyC.ty rfl rfl c2) ?_ | refine QV (rr_load1 (v := .int .i64 x) TyC.ty rfl hat) ?_ | refine QV (rr_lss (b := false) rfl rfl (decide_eq_false (by omega))) ?_ | refine QV (rr_idxc (j := k - 1) Und.eq TyC.ty rfl rfl (by omega)) ?_ | refine QV (rr_load1 (v := .int .i64 y) TyC.ty rfl hat2) ?_ | refine QV QL ?_ | refine QV QlT ?_ | refine QV QlF ?_ | refine QV QaA ?_ | refine QV (rr_geq (b := false) rfl rfl (decide_eq_false (by omega))) ?_ | refine QV (rr_gtr (b := true) rfl rfl (decide_eq_true (by omega))) ?_ | refine QV (rr_sub64 (r := ((k - 1 : Nat) : Int)) rfl rfl (by omega) (by omega) (by omega)) ?_ | refine QV (rr_leq (b := false) rfl rfl (decide_eq_false (by omega))) ?_ | refine QV QmT ?_ | refine QV QmF ?_ | refine QV QgT ?_ | refine QV QgF ?_ | refine QV QhT ?_ | refine QV QhF ?_ | refine QV QaS ?_))
      exact E_round (k + 1) (by omega) (by show l.length - (k + 1) < l.length - k; omega) (by repeat' (first | exact True.intro | refine And.intro rfl ?_)) rfl
    · generalize l[k] = x at *
      repeat (first
        | refine QV QP ?_ | refine QZ ?_ | refine qcT rfl ?_ | refine qcF rfl ?_ | refine E_blockX ?_ | refine E_blockO rfl ?_
        | refine qs rfl rfl rfl rfl rfl rfl ?_
        | ((try refine qg rfl rfl rfl ?_); first | refine QV QP ?_ | refine QV (rr_idxc Und.eq TyC.ty rfl rfl c2) ?_ | refine QV (rr_load1 (v := .int .i64 x) TyC.ty rfl hat) ?_ | refine QV (rr_lss (b := false) rfl rfl (decide_eq_false (by omega))) ?_ | refine QV QL ?_ | refine QV QlT ?_ | refine QV QlF ?_ | refine QV QaA ?_ | refine QV (rr_geq (b := false) rfl rfl (decide_eq_false (by omega))) ?_ | refine QV (rr_gtr (b := false) rfl rfl (decide_eq_false (by omega))) ?_ | refine QV QmT ?_ | refine QV QmF ?_ | refine QV QgT ?_ | refine QV QgF ?_ | refine QV QhT ?_ | refine QV QhF ?_ | refine QV QaS ?_))
      exact E_round (k + 1) (by omega) (by show l.length - (k + 1) < l.length - k; omega) (by repeat' (first | exact True.intro | refine And.intro rfl ?_)) rfl
  · repeat (first
      | refine QV QP ?_ | refine QZ ?_ | refine qcT rfl ?_ | refine qcF rfl ?_ | refine E_blockX ?_ | refine E_blockO rfl ?_
      | refine qs rfl rfl rfl rfl rfl rfl ?_
      | ((try refine qg rfl rfl rfl ?_); first | refine QV QP ?_ | refine QV QL ?_ | refine QV QlT ?_ | refine QV QlF ?_ | refine QV QaA ?_ | refine QV QmT ?_ | refine QV QmF ?_ | refine QV QgT ?_ | refine QV QgF ?_ | refine QV QhT ?_ | refine QV QhF ?_ | refine QV QaS ?_))
    exact E_ret1 rfl rfl fun w hm => hm.ret
/-- a list of Follow -/
theorem fol_at {w : World} {b off : Nat} {l : List (List Int)} {F : Nat → Prop} (hr : ∀ i (h : i < l.length), ∃ cs, (sliceS intS).is F w cs l[i] ∧ Rd w b (off + i * (sliceS intS).c) cs) {k : Nat} (hk : k < l.length) : ∃ u, Sl w u l[k].length (l[k].flatMap kit.intC) ∧ Rd w b (off + k * 1) [u] := by
  obtain ⟨cs, h1, h2⟩ := hr k hk
  obtain ⟨u, rfl, h3⟩ := folS_sl h1
  exact ⟨u, h3, h2⟩
set_option maxHeartbeats 4000000 in
theorem posCheck_calls (v : Value) (m : MS) (w : World) (hp : PosR w v m) (h : MOkP m) :
    Calls Tryd.prog 29 #[v] w (Meets (ret (.int .i64 0)) w) := by
  obtain ⟨vc, vr, vf, vfol, vl, ve, rfl, h1, h2, h3, h4, h5, h6⟩ := hp
  have hmR := h.rules
  have hmf := h.few
  have hms := h.some
  have hmm := h.most
  have l1 := h.ok.ps.rules
  have l2 := h.ok.ps.follow
  have l3 := h.ok.ps.last
  have q1 := fun w' (hg : Gr w w') => rises_calls vf m.first m.ps.classes.length w' (h3.gr hg) h.ok.first
  have hri := h.ok.ps.ris
  clear h h3
  obtain ⟨⟨cl, rul, fol, la⟩, fi, em⟩ := m
  dsimp only at *
  rw [l1] at h2
  obtain ⟨ac, cc, rfl, _⟩ := h1
  obtain ⟨ar, cr, rfl, hcr, hmr, hrr⟩ := h2
  obtain ⟨afo, cfo, rfl, hcf, hmfo, hrf⟩ := h4
  obtain ⟨al, cl2, rfl, _⟩ := h5
  obtain ⟨ae, ce, rfl, _⟩ := h6
  rw [l2] at hcf
  unfold maxLen at *
  have q1' := q1
  clear q1
  generalize hn : cl.length = n at *
  refine enter (args := [.agg #[.slice ac n cc, .slice ar n cr, vf, .slice afo fol.length cfo, .slice al la.length cl2, .slice ae em.length ce]]) (n := 80) Tryd.func29 rfl rfl rfl ?_
  refine T_seq (T_region (TL_box rfl rfl rfl fun g1 => ?_))
  conv => arg 8; simp only [zA, zB, zC, zD, zE, zF, zG, zH, zI, rowS, ret, id_eq]
  repeat (first
    | refine QV QP ?_ | refine QZ ?_ | refine qcT rfl ?_ | refine qcF rfl ?_ | refine E_blockX ?_ | refine E_blockO rfl ?_
    | refine qs rfl rfl rfl rfl rfl rfl ?_
    | ((try refine qg rfl rfl rfl ?_); first | refine QV QP ?_ | refine QV (rr_load1 (v := .slice ac n cc) TyC.ty rfl (at_blk (i := 0) rfl rfl)) ?_ | refine QV (rr_load1 (v := .slice ar n cr) TyC.ty rfl (at_blk (i := 0) rfl rfl)) ?_ | refine QV (rr_load1 (v := .slice afo fol.length cfo) TyC.ty rfl (at_blk (i := 0) rfl rfl)) ?_ | refine QV (rr_load1 (v := .slice al la.length cl2) TyC.ty rfl (at_blk (i := 0) rfl rfl)) ?_ | refine QV (rr_load1 (v := .slice ae em.length ce) TyC.ty rfl (at_blk (i := 0) rfl rfl)) ?_ | refine QV (rr_load1 (v := vf) TyC.ty rfl (at_blk (i := 0) rfl rfl)) ?_ | refine QV (rr_neq (b := false) rfl rfl (decide_eq_false (by omega))) ?_ | refine QV (rr_gtr (b := false) rfl rfl (decide_eq_false (by omega))) ?_ | refine QV QL ?_ | refine QV QA ?_ | refine QV QlT ?_ | refine QV QlF ?_ | refine QV QgT ?_ | refine QV QgF ?_ | refine QV QnT ?_ | refine QV QnF ?_ | refine QV QaA ?_ | refine QV (rr_eql (b := false) rfl rfl (decide_eq_false (by omega))) ?_ | refine QV (rr_not rfl rfl) ?_ | refine QV QhT ?_ | refine QV QhF ?_ | refine QV QeT ?_ | refine QV QeF ?_))
  refine TL_gcall (he2 EntersC.en rfl rfl rfl) (fun w hm => q1' _ hm.below) rfl rfl rfl rfl rfl ?_
  intro _ _
  conv => arg 8; simp only [zA, zB, zC, zD, zE, zF, zG, zH, zI, rowS, ret, id_eq]
  clear q1'
  repeat (first
    | refine QV QP ?_ | refine QZ ?_ | refine qcT rfl ?_ | refine qcF rfl ?_ | refine E_blockX ?_ | refine E_blockO rfl ?_
    | refine qs rfl rfl rfl rfl rfl rfl ?_
    | ((try refine qg rfl rfl rfl ?_); first | refine QV QP ?_ | refine QV QL ?_ | refine QV QA ?_ | refine QV QlT ?_ | refine QV QlF ?_ | refine QV QgT ?_ | refine QV QgF ?_ | refine QV QnT ?_ | refine QV QnF ?_ | refine QV QaA ?_ | refine QV (rr_not rfl rfl) ?_ | refine QV QhT ?_ | refine QV QhF ?_ | refine QV QeT ?_ | refine QV QeF ?_))
  refine T_loop (ι := Nat) (fun k => k ≤ n) (fun k => [(1, .pointer (some ⟨g1, 0, none⟩)), (3, .int .i64 (n : Int)), (46, .int .i64 (n : Int)), (47, .int .i64 (k : Int))]) (fun _ => [blkO g1 #[.slice ac n cc, .slice ar n cr, vf, .slice afo fol.length cfo, .slice al la.length cl2, .slice ae em.length ce] 57]) (fun k => n - k) 0 (Nat.zero_le _) (by repeat' (first | exact True.intro | refine And.intro rfl ?_)) rfl ?_
  intro k hk
  by_cases c1 : k < n
  · obtain ⟨br, offr, rfl, hrd⟩ := hrr (by omega)
    obtain ⟨bf, offf, rfl, _, hrfd⟩ := hrf (by omega)
    obtain ⟨u, hu, hd⟩ := fol_at hrfd (show k < fol.length by omega)
    have hatr := fun (L : List Own) => at_el (L := L) SmIn_len hrd (show k < rul.length by omega) 0 _ rfl
    have hatf := fun (L : List Own) => at_rd (L := L) hd (j := 0) (v := u) rfl
    have hx := hmR _ (List.getElem_mem (show k < rul.length by omega))
    have q := fun w' (hg : Gr w w') => rises_calls u fol[k] n w' (hu.gr hg) (hri _ (List.getElem_mem _))
    clear hrr hrf hrd hrfd hd hu
    generalize rul[k] = x at *
    repeat (first
      | refine QV QP ?_ | refine QZ ?_ | refine qcT rfl ?_ | refine qcF rfl ?_ | refine E_blockX ?_ | refine E_blockO rfl ?_
      | refine qs rfl rfl rfl rfl rfl rfl ?_
      | ((try refine qg rfl rfl rfl ?_); first | refine QV QP ?_ | refine QV QL ?_ | refine QV QA ?_ | refine QV QlT ?_ | refine QV QlF ?_ | refine QV QgT ?_ | refine QV QgF ?_ | refine QV QnT ?_ | refine QV QnF ?_ | refine QV QaA ?_ | refine QV (rr_not rfl rfl) ?_ | refine QV QhT ?_ | refine QV QhF ?_ | refine QV QeT ?_ | refine QV QeF ?_))
    refine T_ord ([blkO g1 #[.slice ac n cc, .slice (some ⟨br, offr, none⟩) n cr, vf, .slice (some ⟨bf, offf, none⟩) fol.length cfo, .slice al la.length cl2, .slice ae em.length ce] 57]) (.calm 0 (.calm 1 (.calm 2 (.calm 3 (.calm 4 (.calm 5 (.calm 6 (.calm 7 (.calm 8 (.calm 9 (.calm 10 (.calm 11 (.calm 12 (.calm 13 (.calm 14 (.calm 15 (.calm 16 (.calm 17 (.calm 18 (.calm 19 (.calm 20 (.calm 21 (.calm 22 (.calm 23 (.one 24 (.calm 25 (.calm 26 (.done)))))))))))))))))))))))))))) (sub_pick [0] (by decide) rfl) (by kernel_rfl) (by kernel_rfl) (by intro c a d v w h; cases d <;> exact h) ?_
    repeat (first
      | ((first | refine TW_plain rfl rfl ?_ | refine TW_gmet rfl rfl rfl rfl ?_); first | refine QW QP ?_ | refine QW (rr_load1 (v := .slice (some ⟨br, offr, none⟩) n cr) TyC.ty rfl (at_blk (i := 0) rfl rfl)) ?_ | refine QW (rr_idxc Und.eq TyC.ty rfl rfl c1) ?_ | refine QW (rr_load1 (v := .int .i64 x) TyC.ty rfl (hatr _)) ?_ | refine QW (rr_lss (b := false) rfl rfl (decide_eq_false (by omega))) ?_ | refine QW (rr_load1 (v := .slice ae em.length ce) TyC.ty rfl (at_blk (i := 0) rfl rfl)) ?_ | refine QW (rr_load1 (v := .slice (some ⟨bf, offf, none⟩) fol.length cfo) TyC.ty rfl (at_blk (i := 0) rfl rfl)) ?_ | refine QW (rr_idxc (j := k) Und.eq TyC.ty rfl rfl (by omega)) ?_ | refine QW (rr_load1 (v := u) TyC.ty rfl (hatf _)) ?_ | refine QW QL ?_ | refine QW QA ?_ | refine QW QlT ?_ | refine QW QlF ?_ | refine QW QgT ?_ | refine QW QgF ?_ | refine QW QnT ?_ | refine QW QnF ?_ | refine QW QaA ?_ | refine QW (rr_geq (b := false) rfl rfl (decide_eq_false (by omega))) ?_ | refine QW (rr_not rfl rfl) ?_ | refine QW QhT ?_ | refine QW QhF ?_ | refine QW QeT ?_ | refine QW QeF ?_)
      | refine TW_skip rfl rfl rfl rfl rfl rfl rfl ?_ | refine TW_done ?_)
    refine TW_one rfl (TL_metg rfl rfl rfl (TL_call (he2 EntersC.en rfl rfl rfl) (fun w hm => q w hm.below) rfl rfl rfl fun _ _ => (TW_on (sub_pick [0] (by decide) rfl) ?_)))
    repeat (first
      | ((first | refine TW_plain rfl rfl ?_ | refine TW_gmet rfl rfl rfl rfl ?_); first | refine QW QP ?_ | refine QW QL ?_ | refine QW QA ?_ | refine QW QlT ?_ | refine QW QlF ?_ | refine QW QgT ?_ | refine QW QgF ?_ | refine QW QnT ?_ | refine QW QnF ?_ | refine QW QaA ?_ | refine QW (rr_not rfl rfl) ?_ | refine QW QhT ?_ | refine QW QhF ?_ | refine QW QeT ?_ | refine QW QeF ?_)
      | refine TW_skip rfl rfl rfl rfl rfl rfl rfl ?_ | refine TW_done ?_)
    repeat (first
      | refine QV QP ?_ | refine QZ ?_ | refine qcT rfl ?_ | refine qcF rfl ?_ | refine E_blockX ?_ | refine E_blockO rfl ?_
      | refine qs rfl rfl rfl rfl rfl rfl ?_
      | ((try refine qg rfl rfl rfl ?_); first | refine QV QP ?_ | refine QV QL ?_ | refine QV QA ?_ | refine QV QlT ?_ | refine QV QlF ?_ | refine QV QgT ?_ | refine QV QgF ?_ | refine QV QnT ?_ | refine QV QnF ?_ | refine QV QaA ?_ | refine QV (rr_not rfl rfl) ?_ | refine QV QhT ?_ | refine QV QhF ?_ | refine QV QeT ?_ | refine QV QeF ?_))
    refine E_pick [0] (by decide) rfl ?_
    exact E_round (k + 1) (by omega) (by show n - (k + 1) < n - k; omega) (by repeat' (first | exact True.intro | refine And.intro rfl ?_)) rfl
  · repeat (first
      | refine QV QP ?_ | refine QZ ?_ | refine qcT rfl ?_ | refine qcF rfl ?_ | refine E_blockX ?_ | refine E_blockO rfl ?_
      | refine qs rfl rfl rfl rfl rfl rfl ?_
      | ((try refine qg rfl rfl rfl ?_); first | refine QV QP ?_ | refine QV (rr_gtr (b := false) rfl rfl (decide_eq_false (by omega))) ?_ | refine QV QL ?_ | refine QV QA ?_ | refine QV QlT ?_ | refine QV QlF ?_ | refine QV QgT ?_ | refine QV QgF ?_ | refine QV QnT ?_ | refine QV QnF ?_ | refine QV QaA ?_ | refine QV (rr_not rfl rfl) ?_ | refine QV QhT ?_ | refine QV QhF ?_ | refine QV QeT ?_ | refine QV QeF ?_))
    exact E_ret1 rfl rfl fun w hm => hm.ret
end Go.Proofs.YtkcnoompimohnaaDoor.eng

/- PlT -/
namespace Go.Proofs.YtkcnoompimohnaaDoor.eng
open Go.RowKit kit mix classL rexL placesL
theorem at_elO {α : Type} {f : α → List Value} {c : Nat} {W0 : World} {W : Base} {L : List Own} {b off : Nat} {l : List α} (hc : ∀ a, (f a).length = c) (ho : Old W0 W) (h : Rd W0 b off (l.flatMap f)) {k : Nat} (hk : k < l.length) (j : Nat) (u : Value) (hj : (f l[k])[j]? = some u) : At W L ⟨b, off + k * c + j, none⟩ u := by
  have hjc : j < c := by rw [← hc l[k]]; exact (List.getElem?_eq_some_iff.1 hj).1
  rw [Nat.add_assoc]
  exact at_oldR ho h _ u (by rw [get_el hc l k j hk hjc]; exact hj)
end Go.Proofs.YtkcnoompimohnaaDoor.eng

/- PlTs -/
namespace Go.Proofs.YtkcnoompimohnaaDoor.eng
open Go.RowKit kit mix classL rexL placesL
theorem trues_push (l : List Bool) (k : Nat) (h : l.getD k false = true) : (truesTo l (k + 1)).map (Value.int .i64) = (truesTo l k).map (Value.int .i64) ++ [.int .i64 (k : Int)] := by
  rw [trues_succ, if_pos h, List.map_append]; rfl
theorem trues_skip (l : List Bool) (k : Nat) (h : ¬ l.getD k false = true) : truesTo l (k + 1) = truesTo l k := by
  rw [trues_succ, if_neg h, List.append_nil]
theorem trues_push_len (l : List Bool) (k : Nat) (h : l.getD k false = true) : (truesTo l (k + 1)).length = (truesTo l k).length + 1 := by
  rw [trues_succ, if_pos h, List.length_append]; rfl
end Go.Proofs.YtkcnoompimohnaaDoor.eng

/- DfN -/
namespace Go.Proofs.YtkcnoompimohnaaDoor.eng
open Go.RowKit kit mix classL rexL placesL dfaP
/-- the maker's cells -/
def dmC (vc vr vf vfol vl ve vs num rows tags : Value) : Array Value := #[vc, vr, vf, vfol, vl, ve, vs, num, rows, tags]
def setL (S : List C4) : List Value := (C4.zero :: S).flatMap clsL
/-- memory of the world at hand -/
theorem at_here {w : World} {g : Nat} {cs : Array Value} {T : TypeId} (hg : w.heap[g]? = some (.cells cs T (0, 0))) (L : List Own) {k : Nat} {v : Value} (hv : cs[k]? = some v) : At (w : Base) L ⟨g, k, none⟩ v :=
  at_old (by rw [cell_of_row w g k cs T (0, 0) hg]; exact hv)
set_option maxHeartbeats 4000000 in
theorem dfaNext_calls (m : MS) (vc vr vf vfol vl ve vs num rows tags : Value) (S : List C4) (g n : Nat) (w : World) (hp : PosR w (.agg #[vc, vr, vf, vfol, vl, ve]) m) (h : MOkP m) (hg : w.heap[g]? = some (.cells (dmC vc vr vf vfol vl ve vs num rows tags) 92 (0, 0)))
    (hs : Sl w vs (S.length + 1) (setL S)) (hn : n ≤ S.length) :
    Calls Tryd.prog 38 #[.pointer (some ⟨g, 0, none⟩), .int .i64 (n : Int)] w (Meets (ret (clsV (nextF m S n))) w) := by
  obtain ⟨_, _, _, _, _, _, he, h1, h2, h3, h4, h5, h6⟩ := hp
  simp only [Value.agg.injEq, Array.mk.injEq, List.cons.injEq, and_true] at he
  obtain ⟨rfl, rfl, rfl, rfl, rfl, rfl⟩ := he
  have hmf := h.few
  have hfi := h.ok.first.2
  have hri := h.ok.ps.ris
  have hfl := h.ok.ps.follow
  clear h h1 h2 h5 h6
  obtain ⟨af, cf, rfl, _, hmaf, hrf⟩ := h3
  obtain ⟨ao, co, rfl, _, hmo, hro⟩ := h4
  obtain ⟨ab, cs, rfl, hcs, hms, hrs⟩ := hs
  unfold maxLen at *
  have hm := fun L k v hv => at_here (k := k) (v := v) hg L hv
  refine enter (args := [.pointer (some ⟨g, 0, none⟩), .int .i64 (n : Int)]) (n := 59) Tryd.func38 rfl rfl rfl ?_
  refine T_seq (T_region (TL_new rfl fun g4 => ?_))
  conv => arg 8; simp only [zA, zB, zC, zD, zE, zF, zG, zH, zI, rowS, ret, id_eq]
  repeat (first
    | refine QV QP ?_ | refine QZ ?_ | refine qcT rfl ?_ | refine qcF rfl ?_ | refine E_blockX ?_ | refine E_blockO rfl ?_ | refine QV QL ?_
    | refine QV QA ?_ | refine QV (rr_nilc rfl) ?_ | refine QV QlT ?_ | refine QV QlF ?_ | refine QV QeT ?_ | refine QV QeF ?_ | refine QV QaA ?_)
  refine TL_new rfl fun g5 => ?_
  conv => arg 8; simp only [zA, zB, zC, zD, zE, zF, zG, zH, zI, rowS, ret, id_eq]
  by_cases c0 : n = 0
  · subst c0
    repeat (first
      | refine QV QP ?_ | refine QZ ?_ | refine qcT rfl ?_ | refine qcF rfl ?_ | refine E_blockX ?_ | refine E_blockO rfl ?_
      | refine QV (rr_eql (b := true) rfl rfl (decide_eq_true (by simp))) ?_ | refine QV (rr_nilc rfl) ?_
      | refine QV (rr_load1 (v := .slice af m.first.length cf) TyC.ty rfl (hm _ 2 _ rfl)) ?_ | refine QV QL ?_ | refine QV QA ?_ | refine QV (rr_nilc rfl) ?_
      | refine QV QlT ?_ | refine QV QlF ?_ | refine QV QeT ?_ | refine QV QeF ?_ | refine QV QaA ?_)
    refine T_loop (ι := Nat) (fun k => k ≤ m.first.length) (fun k => [(4, .pointer (some ⟨g4, 0, none⟩)), (5, .pointer (some ⟨g5, 0, none⟩)), (18, .slice af m.first.length cf), (19, .int .i64 m.first.length), (20, .int .i64 (k : Int))])
      (fun k => [blkO g4 (clsL C4.zero).toArray 106, blkO g5 (clsL (putAll C4.zero (m.first.take k))).toArray 106]) (fun k => m.first.length - k) 0 (Nat.zero_le _) (by repeat' (first | exact True.intro | refine And.intro rfl ?_)) rfl ?_
    intro k hk
    by_cases c1 : k < m.first.length
    · have hx := hfi _ (List.getElem_mem c1)
      have hst := put_step C4.zero m.first c1
      obtain ⟨bf, offf, rfl, hrfd⟩ := hrf (by omega)
      have hat := fun (L : List Own) => at_el (L := L) SmIn_len hrfd c1 0 _ rfl
      generalize m.first[k] = x at *
      generalize putAll C4.zero (m.first.take k) = c at *
      obtain ⟨xn, rfl⟩ := Int.eq_ofNat_of_zero_le hx.1
      rw [Int.toNat_natCast] at hst
      repeat (first
        | refine QV QP ?_ | refine QZ ?_ | refine qcT rfl ?_ | refine qcF rfl ?_ | refine E_blockX ?_ | refine E_blockO rfl ?_
        | refine QV (rr_idxc Und.eq TyC.ty rfl rfl c1) ?_ | refine QV (rr_load1 (v := .int .i64 (xn : Int)) TyC.ty rfl (hat _)) ?_ | refine QV QL ?_
        | refine QV QA ?_ | refine QV (rr_nilc rfl) ?_ | refine QV QlT ?_ | refine QV QlF ?_ | refine QV QeT ?_ | refine QV QeF ?_ | refine QV QaA ?_)
      refine TL_callB [1] [0] (by decide) rfl rfl (he2 EntersC.en rfl rfl rfl) (fun w hm hb => setPut_calls c xn (by omega) g5 w _ hb) rfl rfl rfl ?_
      intro _ _
      conv => arg 8; simp only [zA, zB, zC, zD, zE, zF, zG, zH, zI, rowS, ret, id_eq]
      repeat (first
        | refine QV QP ?_ | refine QZ ?_ | refine qcT rfl ?_ | refine qcF rfl ?_ | refine E_blockX ?_ | refine E_blockO rfl ?_ | refine QV QL ?_
        | refine QV QA ?_ | refine QV (rr_nilc rfl) ?_ | refine QV QlT ?_ | refine QV QlF ?_ | refine QV QeT ?_ | refine QV QeF ?_ | refine QV QaA ?_)
      exact E_round (k + 1) (by omega) (by show m.first.length - (k + 1) < m.first.length - k; omega) (by repeat' (first | exact True.intro | refine And.intro rfl ?_)) (by rw [hst])
    · obtain rfl : k = m.first.length := by omega
      rw [List.take_of_length_le (Nat.le_refl _)]
      unfold nextF
      generalize putAll C4.zero m.first = c at *
      repeat (first
        | refine QV QP ?_ | refine QZ ?_ | refine qcT rfl ?_ | refine qcF rfl ?_ | refine E_blockX ?_ | refine E_blockO rfl ?_
        | refine QV (rr_loadB (i := 1) TyC.ty rfl rfl rfl) ?_ | refine QV QL ?_ | refine QV QA ?_ | refine QV (rr_nilc rfl) ?_ | refine QV QlT ?_
        | refine QV QlF ?_ | refine QV QeT ?_ | refine QV QeF ?_ | refine QV QaA ?_)
      refine TL_storeB (i := 0) (cs' := (clsL c).toArray) rfl rfl rfl rfl rfl rfl ?_
      conv => arg 8; simp only [zA, zB, zC, zD, zE, zF, zG, zH, zI, rowS, ret, id_eq]
      repeat (first
        | refine QV QP ?_ | refine QZ ?_ | refine qcT rfl ?_ | refine qcF rfl ?_ | refine E_blockX ?_ | refine E_blockO rfl ?_ | refine QV QL ?_
        | refine QV QA ?_ | refine QV (rr_nilc rfl) ?_ | refine QV QlT ?_ | refine QV QlF ?_ | refine QV QeT ?_ | refine QV QeF ?_ | refine QV QaA ?_)
      exact E_retc1 (i := 0) rfl rfl rfl rfl fun w hm => hm.ret
  · obtain ⟨q, rfl⟩ : ∃ q, n = q + 1 := ⟨n - 1, by omega⟩
    obtain ⟨bs, offs, rfl, hrsd⟩ := hrs (by omega)
    have hats := fun (L : List Own) => at_el (L := L) (f := clsL) (c := 4) (fun _ => rfl) (show Rd w bs offs ((C4.zero :: S).flatMap clsL) from hrsd) (k := q + 1) (by simp; omega)
    have hgd : S.getD q C4.zero = S[q]'(by omega) := by rw [List.getD_eq_getElem?_getD, List.getElem?_eq_getElem (by omega)]; rfl
    rw [show nextF m S (q + 1) = nextTo m.ps (S.getD q C4.zero) m.ps.follow.length from rfl, hgd]
    have hats : ∀ (L : List Own) (j : Nat) (u : Value), (clsL (S[q]'(by omega)))[j]? = some u → At (w : Base) L ⟨bs, offs + (q + 1) * 4 + j, none⟩ u := fun L j u hj => hats L j u hj
    clear hgd hrsd hrs hrf hfi
    generalize S[q]'(by omega) = s at *
    repeat (first
      | refine QV QP ?_ | refine QZ ?_ | refine qcT rfl ?_ | refine qcF rfl ?_ | refine E_blockX ?_ | refine E_blockO rfl ?_
      | refine QV (rr_eql (b := false) rfl rfl (decide_eq_false (by omega))) ?_ | refine QV (rr_nilc rfl) ?_
      | refine QV (rr_load1 (v := .slice ao m.ps.follow.length co) TyC.ty rfl (hm _ 3 _ rfl)) ?_ | refine QV QL ?_ | refine QV QA ?_
      | refine QV (rr_nilc rfl) ?_ | refine QV QlT ?_ | refine QV QlF ?_ | refine QV QeT ?_ | refine QV QeF ?_ | refine QV QaA ?_)
    refine T_loop (ι := Nat) (fun k => k ≤ m.ps.follow.length) (fun k => [(0, .pointer (some ⟨g, 0, none⟩)), (1, .int .i64 ((q + 1 : Nat) : Int)), (4, .pointer (some ⟨g4, 0, none⟩)), (5, .pointer (some ⟨g5, 0, none⟩)), (32, .slice ao m.ps.follow.length co), (33, .int .i64 m.ps.follow.length), (34, .int .i64 (k : Int))])
      (fun k => [blkO g4 (clsL C4.zero).toArray 106, blkO g5 (clsL (nextTo m.ps s k)).toArray 106]) (fun k => m.ps.follow.length - k) 0 (Nat.zero_le _) (by repeat' (first | exact True.intro | refine And.intro rfl ?_)) rfl ?_
    intro k hk
    by_cases c1 : k < m.ps.follow.length
    · obtain ⟨bo, offo, rfl, _, hrod⟩ := hro (by omega)
      obtain ⟨u, hu, hd⟩ := fol_at hrod c1
      have hatf := fun (L : List Own) => at_rd (L := L) hd (j := 0) (v := u) rfl
      have hrx := (hri _ (List.getElem_mem c1)).2
      have hgd : m.ps.follow.getD k [] = m.ps.follow[k] := by rw [List.getD_eq_getElem?_getD, List.getElem?_eq_getElem c1]; rfl
      have hst : nextTo m.ps s (k + 1) = if s.mem k = true then putAll (nextTo m.ps s k) m.ps.follow[k] else nextTo m.ps s k := by rw [nextTo, hgd]
      clear hgd
      obtain ⟨au, cu, rfl, _, hmu, hru⟩ := hu
      unfold maxLen at hmu
      generalize m.ps.follow[k] = l at *
      generalize nextTo m.ps s k = c at *
      repeat (first
        | refine QV QP ?_ | refine QZ ?_ | refine qcT rfl ?_ | refine qcF rfl ?_ | refine E_blockX ?_ | refine E_blockO rfl ?_
        | refine QV (rr_idxc Und.eq TyC.ty rfl rfl c1) ?_ | refine QV (rr_load1 (v := .slice au l.length cu) TyC.ty rfl (hatf _)) ?_ | refine QV (rr_nilc rfl) ?_
        | refine QV (rr_load1 (v := .slice (some ⟨bs, offs, none⟩) (S.length + 1) cs) TyC.ty rfl (hm _ 6 _ rfl)) ?_
        | refine QV (rr_idxc (j := q + 1) Und.eq TyC.ty rfl rfl (by omega)) ?_ | refine QV (rr_loadN (cs := clsL s) TyC.ty rfl rfl (hats _)) ?_ | refine QV QL ?_
        | refine QV QA ?_ | refine QV (rr_nilc rfl) ?_ | refine QV QlT ?_ | refine QV QlF ?_ | refine QV QeT ?_ | refine QV QeF ?_ | refine QV QaA ?_)
      have hhas := fun w => setHas_calls s k (by omega) w
      generalize hb : s.mem k = b at *
      refine TL_call (he2 EntersC.en rfl rfl rfl) (fun w hm => hhas w) rfl rfl rfl ?_
      intro _ _
      conv => arg 8; simp only [zA, zB, zC, zD, zE, zF, zG, zH, zI, rowS, ret, id_eq]
      by_cases c2 : b = true
      · subst c2
        rw [if_pos rfl] at hst
        repeat (first
          | refine QV QP ?_ | refine QZ ?_ | refine qcT rfl ?_ | refine qcF rfl ?_ | refine E_blockX ?_ | refine E_blockO rfl ?_ | refine QV QL ?_
          | refine QV QA ?_ | refine QV (rr_nilc rfl) ?_ | refine QV QlT ?_ | refine QV QlF ?_ | refine QV QeT ?_ | refine QV QeF ?_ | refine QV QaA ?_)
        refine T_loop (ι := Nat) (fun j => j ≤ l.length) (fun j => [(0, .pointer (some ⟨g, 0, none⟩)), (1, .int .i64 ((q + 1 : Nat) : Int)), (4, .pointer (some ⟨g4, 0, none⟩)), (5, .pointer (some ⟨g5, 0, none⟩)), (32, .slice (some ⟨bo, offo, none⟩) m.ps.follow.length co), (33, .int .i64 m.ps.follow.length), (34, .int .i64 (k : Int)), (48, .slice au l.length cu), (49, .int .i64 l.length), (50, .int .i64 (j : Int))])
          (fun j => [blkO g4 (clsL C4.zero).toArray 106, blkO g5 (clsL (putAll c (l.take j))).toArray 106]) (fun j => l.length - j) 0 (Nat.zero_le _) (by repeat' (first | exact True.intro | refine And.intro rfl ?_)) rfl ?_
        intro j hj
        by_cases c3 : j < l.length
        · have hx := hrx _ (List.getElem_mem c3)
          have hst2 := put_step c l c3
          obtain ⟨bf, offf, rfl, hrfd⟩ := hru (by omega)
          have hat := fun (L : List Own) => at_el (L := L) SmIn_len hrfd c3 0 _ rfl
          generalize l[j] = x at *
          generalize putAll c (l.take j) = c' at *
          obtain ⟨xn, rfl⟩ := Int.eq_ofNat_of_zero_le hx.1
          rw [Int.toNat_natCast] at hst2
          repeat (first
            | refine QV QP ?_ | refine QZ ?_ | refine qcT rfl ?_ | refine qcF rfl ?_ | refine E_blockX ?_ | refine E_blockO rfl ?_
            | refine QV (rr_idxc Und.eq TyC.ty rfl rfl c3) ?_ | refine QV (rr_load1 (v := .int .i64 (xn : Int)) TyC.ty rfl (hat _)) ?_ | refine QV QL ?_
            | refine QV QA ?_ | refine QV (rr_nilc rfl) ?_ | refine QV QlT ?_ | refine QV QlF ?_ | refine QV QeT ?_ | refine QV QeF ?_ | refine QV QaA ?_)
          refine TL_callB [1] [0] (by decide) rfl rfl (he2 EntersC.en rfl rfl rfl) (fun w hm hb => setPut_calls c' xn (by omega) g5 w _ hb) rfl rfl rfl ?_
          intro _ _
          conv => arg 8; simp only [zA, zB, zC, zD, zE, zF, zG, zH, zI, rowS, ret, id_eq]
          repeat (first
            | refine QV QP ?_ | refine QZ ?_ | refine qcT rfl ?_ | refine qcF rfl ?_ | refine E_blockX ?_ | refine E_blockO rfl ?_ | refine QV QL ?_
            | refine QV QA ?_ | refine QV (rr_nilc rfl) ?_ | refine QV QlT ?_ | refine QV QlF ?_ | refine QV QeT ?_ | refine QV QeF ?_ | refine QV QaA ?_)
          exact E_round (j + 1) (by omega) (by show l.length - (j + 1) < l.length - j; omega) (by repeat' (first | exact True.intro | refine And.intro rfl ?_)) (by rw [hst2])
        · obtain rfl : j = l.length := by omega
          rw [List.take_of_length_le (Nat.le_refl _)]
          repeat (first
            | refine QV QP ?_ | refine QZ ?_ | refine qcT rfl ?_ | refine qcF rfl ?_ | refine E_blockX ?_ | refine E_blockO rfl ?_ | refine QV QL ?_
            | refine QV QA ?_ | refine QV (rr_nilc rfl) ?_ | refine QV QlT ?_ | refine QV QlF ?_ | refine QV QeT ?_ | refine QV QeF ?_ | refine QV QaA ?_)
          exact E_round (k + 1) (by omega) (by show m.ps.follow.length - (k + 1) < m.ps.follow.length - k; omega) (by repeat' (first | exact True.intro | refine And.intro rfl ?_)) (by rw [hst])
      · rw [if_neg c2] at hst
        obtain rfl := Bool.eq_false_iff.2 c2
        repeat (first
          | refine QV QP ?_ | refine QZ ?_ | refine qcT rfl ?_ | refine qcF rfl ?_ | refine E_blockX ?_ | refine E_blockO rfl ?_ | refine QV QL ?_
          | refine QV QA ?_ | refine QV (rr_nilc rfl) ?_ | refine QV QlT ?_ | refine QV QlF ?_ | refine QV QeT ?_ | refine QV QeF ?_ | refine QV QaA ?_)
        exact E_round (k + 1) (by omega) (by show m.ps.follow.length - (k + 1) < m.ps.follow.length - k; omega) (by repeat' (first | exact True.intro | refine And.intro rfl ?_)) (by rw [hst])
    · obtain rfl : k = m.ps.follow.length := by omega
      generalize nextTo m.ps s m.ps.follow.length = c at *
      repeat (first
        | refine QV QP ?_ | refine QZ ?_ | refine qcT rfl ?_ | refine qcF rfl ?_ | refine E_blockX ?_ | refine E_blockO rfl ?_
        | refine QV (rr_loadB (i := 1) TyC.ty rfl rfl rfl) ?_ | refine QV QL ?_ | refine QV QA ?_ | refine QV (rr_nilc rfl) ?_ | refine QV QlT ?_
        | refine QV QlF ?_ | refine QV QeT ?_ | refine QV QeF ?_ | refine QV QaA ?_)
      refine TL_storeB (i := 0) (cs' := (clsL c).toArray) rfl rfl rfl rfl rfl rfl ?_
      conv => arg 8; simp only [zA, zB, zC, zD, zE, zF, zG, zH, zI, rowS, ret, id_eq]
      repeat (first
        | refine QV QP ?_ | refine QZ ?_ | refine qcT rfl ?_ | refine qcF rfl ?_ | refine E_blockX ?_ | refine E_blockO rfl ?_ | refine QV QL ?_
        | refine QV QA ?_ | refine QV (rr_nilc rfl) ?_ | refine QV QlT ?_ | refine QV QlF ?_ | refine QV QeT ?_ | refine QV QeF ?_ | refine QV QaA ?_)
      exact E_retc1 (i := 0) rfl rfl rfl rfl fun w hm => hm.ret
end Go.Proofs.YtkcnoompimohnaaDoor.eng

/- MapN -/
namespace Go.Proofs.YtkcnoompimohnaaDoor.eng
open Go.RowKit kit mix smallL
def mapAt {κ : Type} [DecidableEq κ] (D : List κ) (x : κ) : Option Value := if x ∈ D then some (.int .i64 (idx D x : Int)) else none
theorem mapAt_add {κ : Type} [DecidableEq κ] {D : List κ} {x : κ} (hn : x ∉ D) : (fun y => if y = x then some (.int .i64 (D.length : Int)) else mapAt D y) = mapAt (D ++ [x]) := by
  funext y
  unfold mapAt
  by_cases c : y = x
  · subst c
    rw [if_pos rfl, if_pos (by simp)]
    have := idx_more (D := D) (k := y)
    unfold more at this
    rw [if_neg hn, if_neg hn] at this
    rw [this]
  · rw [if_neg c]
    by_cases c2 : y ∈ D
    · rw [if_pos c2, if_pos (List.mem_append_left _ c2), idx_pre c2]
    · rw [if_neg c2, if_neg (by simp [c, c2])]
section
variable {P : Program} {k : TypeId} {κ : Type} {K : KeyT P k κ}
variable {W : Base} {fr : Fr} {L : List Own} {Q : Exit → Act → World → Prop} {ops : Array Oper} {rest : List Oper} {n d : Nat} {dst : Option Tmp} {ty : TypeId} {pos : String} {after : Array Edge} {guard : Option (Nat × Bool)} {i g c : Nat} {t e : TypeId} {D : List κ} {x : κ} {z : Value} {xm xk xv : Operand} [DecidableEq κ]
theorem rr_lookNumS (ht : P.underlying t = some (.map k e)) (hz : ∀ w, (zeroValue e).run P w = .ok z w) (hi : L[i]? = some (mapO K g (mapAt D) c)) (hm : ev fr xm = some (.map (some g))) (hk : ev fr xk = some (K.kv x)) (hx : K.ok x) (hn : x ∈ D) : RR P n W ⟨dst, .lookup t xm xk true, ty, pos, after, guard⟩ fr L (.tuple #[.int .i64 (idx D x : Int), .bool true]) := by
  have := rr_lookOk (n := n) (W := W) (dst := dst) (ty := ty) (pos := pos) (after := after) (guard := guard) K ht hz hi hm hk hx
  rw [show mapAt D x = some (.int .i64 (idx D x : Int)) from if_pos hn] at this
  exact this
theorem rr_lookNumN (ht : P.underlying t = some (.map k e)) (hz : ∀ w, (zeroValue e).run P w = .ok z w) (hi : L[i]? = some (mapO K g (mapAt D) c)) (hm : ev fr xm = some (.map (some g))) (hk : ev fr xk = some (K.kv x)) (hx : K.ok x) (hn : x ∉ D) : RR P n W ⟨dst, .lookup t xm xk true, ty, pos, after, guard⟩ fr L (.tuple #[z, .bool false]) := by
  have := rr_lookOk (n := n) (W := W) (dst := dst) (ty := ty) (pos := pos) (after := after) (guard := guard) K ht hz hi hm hk hx
  rw [show mapAt D x = none from if_neg hn] at this
  exact this
theorem TL_mapNew (hn : Nat.blt d n = true) (h : ∀ g, TL P n W ops Q rest ((d, .map (some g)) :: fr) (L ++ [mapO K g (mapAt []) 0])) :
    TL P n W ops Q (⟨some d, .makeMap t none, ty, pos, after, none⟩ :: rest) fr L := by
  refine TL_map K hn fun g => ?_
  have e : (fun (_ : κ) => (none : Option Value)) = mapAt [] := by funext y; unfold mapAt; rw [if_neg (by simp)]
  rw [e]; exact h g
theorem TL_mapNum (ht : P.underlying t = some (.map k e)) (hi : L[i]? = some (mapO K g (mapAt D) D.length)) (hm : ev fr xm = some (.map (some g))) (hk : ev fr xk = some (K.kv x)) (hv : ev fr xv = some (.int .i64 (D.length : Int))) (hx : K.ok x) (hn : x ∉ D) (hc : D.length ≤ 1152921504606846976)
    (h : TL P n W ops Q rest fr (L.set i (mapO K g (mapAt (D ++ [x])) (D ++ [x]).length))) :
    TL P n W ops Q (⟨none, .mapUpdate t xm xk xv, ty, pos, after, none⟩ :: rest) fr L := by
  refine TL_mapSet K ht hi hm hk hv hx hc ?_
  rw [mapAt_add hn]
  rw [show mapAt D x = none from if_neg hn]
  rw [show (D ++ [x]).length = D.length + 1 by simp] at h
  exact h
end
end Go.Proofs.YtkcnoompimohnaaDoor.eng

/- LookOk -/
namespace Go.Proofs.YtkcnoompimohnaaDoor.eng
open Go.RowKit kit mix
section
variable {P : Program} {k : TypeId} {κ : Type} (K : KeyT P k κ)
variable {n : Nat} {W : Base} {fr : Fr} {L : List Own} {dst : Option Tmp} {ty : TypeId} {pos : String} {after : Array Edge} {guard : Option (Nat × Bool)} {i g c : Nat} {t e : TypeId} {m : κ → Option Value} {x : κ} {z v : Value} {xm xk : Operand}
theorem rr_lookOkS (ht : P.underlying t = some (.map k e)) (hz : ∀ w, (zeroValue e).run P w = .ok z w) (hi : L[i]? = some (mapO K g m c)) (hm : ev fr xm = some (.map (some g))) (hk : ev fr xk = some (K.kv x)) (hx : K.ok x) (hv : m x = some v) : RR P n W ⟨dst, .lookup t xm xk true, ty, pos, after, guard⟩ fr L (.tuple #[v, .bool true]) := by
  have := rr_lookOk K (n := n) (W := W) (dst := dst) (ty := ty) (pos := pos) (after := after) (guard := guard) ht hz hi hm hk hx
  rw [hv] at this; exact this
theorem rr_lookOkN (ht : P.underlying t = some (.map k e)) (hz : ∀ w, (zeroValue e).run P w = .ok z w) (hi : L[i]? = some (mapO K g m c)) (hm : ev fr xm = some (.map (some g))) (hk : ev fr xk = some (K.kv x)) (hx : K.ok x) (hv : m x = none) : RR P n W ⟨dst, .lookup t xm xk true, ty, pos, after, guard⟩ fr L (.tuple #[z, .bool false]) := by
  have := rr_lookOk K (n := n) (W := W) (dst := dst) (ty := ty) (pos := pos) (after := after) (guard := guard) ht hz hi hm hk hx
  rw [hv] at this; exact this
end
end Go.Proofs.YtkcnoompimohnaaDoor.eng

/- DfT -/
namespace Go.Proofs.YtkcnoompimohnaaDoor.eng
open Go.RowKit kit mix classL rexL placesL dfaP smallL
theorem setLaid : laidOutB Tryd.prog = true := by kernel_rfl
theorem setRow : (106 : TypeId) < Tryd.prog.types.size := of_decide_eq_true (by kernel_rfl)
theorem setWide : (match Tryd.prog.underlying 106 with | some (.array _ _) | some (.struct _) => true | _ => false) = true := by kernel_rfl
theorem set_key (x : C4) : ∃ l, keyOf Tryd.prog 106 (clsV x) = some l := by
  obtain ⟨a, b, c, d⟩ := x
  have e1 : Tryd.prog.keyType 106 = true := by kernel_rfl
  have e2 : Tryd.prog.cellsOf 106 = 4 := by kernel_rfl
  have e3 : Tryd.prog.cellsOf 29 = 1 := by kernel_rfl
  have e4 : ∃ d, Tryd.prog.types.size + 1 = d + 2 := ⟨Tryd.prog.types.size - 1, by have : 0 < Tryd.prog.types.size := Nat.lt_of_le_of_lt (Nat.zero_le 106) setRow; omega⟩
  obtain ⟨dd, e4⟩ := e4
  have key : ∀ v : BitVec 64, Tryd.prog.keyLits (dd + 1) 29 [.int .u64 (n64 v)] = some [.int .u64 (n64 v)] := fun v => by
    have hw : (Lit.int .u64 (n64 v)).wf = true := by
      have h0 := n64_lo v
      have h1 := n64_hi v
      simp [Lit.wf, IntKind.min, IntKind.max, IntKind.signed, IntKind.bits, h0, h1]
    simp [Program.keyLits, Tryd.underlying29, hw]
  have hl : Tryd.prog.keyLits (dd + 2) 106 [.int .u64 (n64 a), .int .u64 (n64 b), .int .u64 (n64 c), .int .u64 (n64 d)] = some [.int .u64 (n64 a), .int .u64 (n64 b), .int .u64 (n64 c), .int .u64 (n64 d)] := by
    unfold Program.keyLits
    simp [Tryd.underlying106, e2, e3, List.range_succ_eq_map, key]
  have hf : (clsV ⟨a, b, c, d⟩).formed Tryd.prog 106 = true := by simp [clsV, Value.formed, Tryd.underlying106, e2]
  unfold keyOf
  rw [Tryd.underlying106]
  refine ⟨.string (keyBytes ([.int .u64 (n64 a), .int .u64 (n64 b), .int .u64 (n64 c), .int .u64 (n64 d)])), ?_⟩
  show (if (Tryd.prog.keyType 106 && (clsV ⟨a, b, c, d⟩).formed Tryd.prog 106) = true then (Tryd.prog.keyLits (Tryd.prog.types.size + 1) 106 [.int .u64 (n64 a), .int .u64 (n64 b), .int .u64 (n64 c), .int .u64 (n64 d)]).map (fun ls => Lit.string (keyBytes ls)) else none) = _
  rw [e1, hf, e4, hl]
  rfl
set_option maxRecDepth 100000 in
/-- sets as keys -/
def setK : KeyT Tryd.prog 106 C4 where
  kv := clsV
  ok _ := True
  law := deep_law_laid setLaid (m := 2) (by omega) setRow (by kernel_rfl) setWide
  key x _ := set_key x
  inj x y h := by
    simp only [clsV, Value.agg.injEq, Array.mk.injEq, List.cons.injEq, Value.int.injEq, true_and, and_true] at h
    exact C4.ext' (n64_inj h.1) (n64_inj h.2.1) (n64_inj h.2.2.1) (n64_inj h.2.2.2)
theorem zeroIntD (w : World) : (zeroValue 3).run Tryd.prog w = .ok (.int .i64 0) w := by kernel_rfl
/-- numbered from 1 on -/
def mapAt1 (D : List C4) (x : C4) : Option Value := if x ∈ D then some (.int .i64 ((idx D x + 1 : Nat) : Int)) else none
theorem mapAt1_add {D : List C4} {x : C4} (hn : x ∉ D) : (fun y => if y = x then some (.int .i64 ((D.length + 1 : Nat) : Int)) else mapAt1 D y) = mapAt1 (D ++ [x]) := by
  funext y
  unfold mapAt1
  by_cases c : y = x
  · subst c
    rw [if_pos rfl, if_pos (by simp)]
    have := idx_more (D := D) (k := y)
    unfold more at this
    rw [if_neg hn, if_neg hn] at this
    rw [this]
  · rw [if_neg c]
    by_cases c2 : y ∈ D
    · rw [if_pos c2, if_pos (List.mem_append_left _ c2), idx_pre c2]
    · rw [if_neg c2, if_neg (by simp [c, c2])]
theorem mapAt1_nil : (fun (_ : C4) => (none : Option Value)) = mapAt1 [] := by funext y; unfold mapAt1; rw [if_neg (by simp)]
abbrev setsO (vs : Value) (S : List C4) : Own := rowO 106 4 vs (S.length + 1) (setL S)
abbrev numO (gm : Nat) (S : List C4) : Own := mapO setK gm (mapAt1 S) S.length
/-- the maker and what it has -/
def dmL (vc vr vf vfol vl ve rows : Value) (g gm : Nat) (vs vt : Value) (d : DM) : List Own :=
  [blkO g (dmC vc vr vf vfol vl ve vs (.map (some gm)) rows vt) 92, setsO vs d.S, numO gm d.S, intR vt d.tags]
def stSp (p : PS) (vc vr vf vfol vl ve rows : Value) (g gm : Nat) (d : DM) (s : C4) : Spec (Value × Value) :=
  ⟨fun _ => True, fun _ => .int .i64 ((stateF p d s).1 : Int), fun x => dmL vc vr vf vfol vl ve rows g gm x.1 x.2 (stateF p d s).2⟩
theorem int_snoc (v : Value) (l : List Int) (x : Int) : intR v (l ++ [x]) = rowO 3 1 v (l.length + 1) (l.map (Value.int .i64) ++ [.int .i64 x]) := by
  unfold intR; rw [List.length_append, List.map_append]; rfl
theorem setL_snoc (S : List C4) (s : C4) : setL (S ++ [s]) = setL S ++ clsL s := by
  unfold setL
  rw [← List.cons_append, List.flatMap_append]; simp
theorem set_one (s : C4) : ∀ u ∈ clsL s, u.oneCell' = true := by
  intro u h
  simp only [clsL, List.mem_cons, List.not_mem_nil, or_false] at h
  rcases h with rfl | rfl | rfl | rfl <;> rfl
theorem tag_step (p : PS) (s : C4) (i : Nat) : tagTo p s (i + 1) = if s.mem i = true ∧ p.last.getD i false = true ∧ (tagTo p s i < 0 ∨ p.rules.getD i 0 < tagTo p s i) then p.rules.getD i 0 else tagTo p s i := rfl
theorem numO_add {S : List C4} {s : C4} {gm : Nat} (hn : s ∉ S) : mapO setK gm (fun y => if y = s then some (.int .i64 ((S.length + 1 : Nat) : Int)) else mapAt1 S y) (if (mapAt1 S s).isSome then S.length else S.length + 1) = numO gm (S ++ [s]) := by
  rw [mapAt1_add hn, show mapAt1 S s = none from if_neg hn]
  unfold numO
  rw [List.length_append]; rfl
attribute [local irreducible] Op.shift Go.bits in
set_option maxHeartbeats 8000000 in
theorem dfaState_calls (m : MS) (vc vr vf vfol vl ve rows : Value) (d : DM) (s : C4) (g gm : Nat) (vs vt : Value) (w0 : World) (hp : PosR w0 (.agg #[vc, vr, vf, vfol, vl, ve]) m) (h : MOkP m) (hd : d.S.length ≤ 100000) (hdt : d.tags.length ≤ 100001) (w : World) (B : Base) (ho : Old w0 B)
    (hm : Mem B (dmL vc vr vf vfol vl ve rows g gm vs vt d) w) :
    Calls Tryd.prog 42 #[.pointer (some ⟨g, 0, none⟩), clsV s] w (MeetsB (stSp m.ps vc vr vf vfol vl ve rows g gm d s) B) := by
  obtain ⟨_, _, _, _, _, _, he, h1, h2, h3, h4, h5, h6⟩ := hp
  simp only [Value.agg.injEq, Array.mk.injEq, List.cons.injEq, and_true] at he
  obtain ⟨rfl, rfl, rfl, rfl, rfl, rfl⟩ := he
  have hmf := h.few
  have hlr := h.ok.ps.rules
  have hll := h.ok.ps.last
  have hmr := h.rules
  clear h h3 h4 h6
  obtain ⟨ac, cc, rfl, -⟩ := h1
  obtain ⟨ar, cr, rfl, -, hmar, hrr⟩ := h2
  obtain ⟨al, cl, rfl, -, hmal, hrl⟩ := h5
  unfold dmL at hm
  unfold stSp
  obtain ⟨S, tags⟩ := d
  obtain ⟨p, fi, em⟩ := m
  dsimp only at *
  refine enterB hm (args := [.pointer (some ⟨g, 0, none⟩), clsV s]) (n := 105) Tryd.func42 rfl rfl rfl ?_
  clear hm
  refine T_seq (T_region (TL_box rfl rfl rfl fun g3 => ?_))
  conv => arg 8; simp only [zA, zB, zC, zD, zE, zF, zG, zH, zI, rowS, ret, id_eq]
  by_cases c1 : s ∈ S
  · have hst : stateF p ⟨S, tags⟩ s = (idx S s + 1, ⟨S, tags⟩) := if_pos c1
    have hlk : mapAt1 S s = some (.int .i64 ((idx S s + 1 : Nat) : Int)) := if_pos c1
    rw [hst]
    repeat (first
      | refine QV QP ?_ | refine QZ ?_ | refine qcT rfl ?_ | refine qcF rfl ?_ | refine E_blockX ?_ | refine E_blockO rfl ?_
      | refine qs rfl rfl rfl rfl rfl rfl ?_
      | ((try refine qg rfl rfl rfl ?_); first | refine QV QP ?_ | refine QV QL ?_ | refine QV QA ?_ | refine QV (rr_nilc rfl) ?_ | refine QV QlT ?_ | refine QV QlF ?_ | refine QV QaA ?_ | refine QV QaS ?_))
    refine T_ord ([blkO g (dmC (.slice ac p.classes.length cc) (.slice ar p.rules.length cr) vf vfol (.slice al p.last.length cl) ve vs (.map (some gm)) rows vt) 92, numO gm S, blkO g3 (clsL s).toArray 106]) (.calm 0 (.calm 1 (.calm 2 (.calm 3 (.calm 4 (.calm 5 (.calm 6 (.calm 7 (.calm 8 (.calm 9 (.calm 10 (.done)))))))))))) (sub_pick [0, 2, 4] (by decide) rfl) (by kernel_rfl) (by kernel_rfl) (by intro c a d v w h; cases d <;> exact h) ?_
    repeat (first
      | ((first | refine TW_plain rfl rfl ?_ | refine TW_gmet rfl rfl rfl rfl ?_); first | refine QW QP ?_ | refine QW (rr_nilc rfl) ?_ | refine QW (rr_load1 (v := .map (some gm)) TyC.ty rfl (at_blk (i := 0) rfl rfl)) ?_ | refine QW (rr_loadB (i := 2) TyC.ty rfl rfl rfl) ?_ | refine QW (rr_lookOkS setK (x := s) Und.eq zeroIntD (i := 1) rfl rfl rfl trivial hlk) ?_ | refine QW QL ?_ | refine QW QA ?_ | refine QW (rr_nilc rfl) ?_ | refine QW QlT ?_ | refine QW QlF ?_ | refine QW QaA ?_ | refine QW QaS ?_)
      | refine TW_skip rfl rfl rfl rfl rfl rfl rfl ?_ | refine TW_done ?_)
    repeat (first
      | refine QV QP ?_ | refine QZ ?_ | refine qcT rfl ?_ | refine qcF rfl ?_ | refine E_blockX ?_ | refine E_blockO rfl ?_
      | refine qs rfl rfl rfl rfl rfl rfl ?_
      | ((try refine qg rfl rfl rfl ?_); first | refine QV QP ?_ | refine QV QL ?_ | refine QV QA ?_ | refine QV (rr_nilc rfl) ?_ | refine QV QlT ?_ | refine QV QlF ?_ | refine QV QaA ?_ | refine QV QaS ?_))
    refine E_pick [0, 1, 2, 3] (by decide) rfl ?_
    exact E_ret1 rfl rfl fun w hm => hm.meetsB (S := ⟨fun (_ : Value × Value) => True, fun _ => .int .i64 ((idx S s + 1 : Nat) : Int), fun x => dmL (.slice ac p.classes.length cc) (.slice ar p.rules.length cr) vf vfol (.slice al p.last.length cl) ve rows g gm x.1 x.2 ⟨S, tags⟩⟩) (vs, vt) trivial [0, 1, 2, 3] (by decide) rfl
  · have hst : stateF p ⟨S, tags⟩ s = (S.length + 1, ⟨S ++ [s], tags ++ [tagF p s]⟩) := if_neg c1
    have hlk : mapAt1 S s = none := if_neg c1
    rw [hst]
    refine TL_know (i := 1) rfl row_slm fun hrow => ?_
    obtain ⟨ab, cs, rfl, hmS, -⟩ := hrow
    repeat (first
      | refine QV QP ?_ | refine QZ ?_ | refine qcT rfl ?_ | refine qcF rfl ?_ | refine E_blockX ?_ | refine E_blockO rfl ?_
      | refine qs rfl rfl rfl rfl rfl rfl ?_
      | ((try refine qg rfl rfl rfl ?_); first | refine QV QP ?_ | refine QV QL ?_ | refine QV QA ?_ | refine QV (rr_nilc rfl) ?_ | refine QV QlT ?_ | refine QV QlF ?_ | refine QV QaA ?_ | refine QV QaS ?_))
    refine T_ord ([blkO g (dmC (.slice ac p.classes.length cc) (.slice ar p.rules.length cr) vf vfol (.slice al p.last.length cl) ve (.slice ab (S.length + 1) cs) (.map (some gm)) rows vt) 92, numO gm S, blkO g3 (clsL s).toArray 106]) (.calm 0 (.calm 1 (.calm 2 (.calm 3 (.calm 4 (.calm 5 (.calm 6 (.calm 7 (.calm 8 (.calm 9 (.calm 10 (.done)))))))))))) (sub_pick [0, 2, 4] (by decide) rfl) (by kernel_rfl) (by kernel_rfl) (by intro c a d v w h; cases d <;> exact h) ?_
    repeat (first
      | ((first | refine TW_plain rfl rfl ?_ | refine TW_gmet rfl rfl rfl rfl ?_); first | refine QW QP ?_ | refine QW (rr_nilc rfl) ?_ | refine QW (rr_load1 (v := .map (some gm)) TyC.ty rfl (at_blk (i := 0) rfl rfl)) ?_ | refine QW (rr_loadB (i := 2) TyC.ty rfl rfl rfl) ?_ | refine QW (rr_lookOkN setK (x := s) Und.eq zeroIntD (i := 1) rfl rfl rfl trivial hlk) ?_ | refine QW QL ?_ | refine QW QA ?_ | refine QW (rr_nilc rfl) ?_ | refine QW QlT ?_ | refine QW QlF ?_ | refine QW QaA ?_ | refine QW QaS ?_)
      | refine TW_skip rfl rfl rfl rfl rfl rfl rfl ?_ | refine TW_done ?_)
    repeat (first
      | refine QV QP ?_ | refine QZ ?_ | refine qcT rfl ?_ | refine qcF rfl ?_ | refine E_blockX ?_ | refine E_blockO rfl ?_
      | refine qs rfl rfl rfl rfl rfl rfl ?_
      | ((try refine qg rfl rfl rfl ?_); first | refine QV QP ?_ | refine QV QL ?_ | refine QV QA ?_ | refine QV (rr_nilc rfl) ?_ | refine QV QlT ?_ | refine QV QlF ?_ | refine QV QaA ?_ | refine QV QaS ?_))
    (repeat refine T_seq ?_)
    refine T_midq (ι := Unit) (fun _ => True) (fun _ => [(0, .pointer (some ⟨g, 0, none⟩)), (3, .pointer (some ⟨g3, 0, none⟩))]) (fun _ => [blkO g (dmC (.slice ac p.classes.length cc) (.slice ar p.rules.length cr) vf vfol (.slice al p.last.length cl) ve (.slice ab (S.length + 1) cs) (.map (some gm)) rows vt) 92, setsO (.slice ab (S.length + 1) cs) S, numO gm (S ++ [s]), intR vt tags, blkO g3 (clsL s).toArray 106]) ?_ ?_
    · refine T_ord ([blkO g (dmC (.slice ac p.classes.length cc) (.slice ar p.rules.length cr) vf vfol (.slice al p.last.length cl) ve (.slice ab (S.length + 1) cs) (.map (some gm)) rows vt) 92, blkO g3 (clsL s).toArray 106]) (.calm 0 (.calm 1 (.calm 2 (.calm 3 (.calm 4 (.calm 5 (.calm 6 (.calm 7 (.calm 8 (.calm 9 (.one 10 (.done)))))))))))) (sub_pick [0, 4] (by decide) rfl) (by kernel_rfl) (by kernel_rfl) (by intro c a d v w h; cases d <;> exact h) ?_
      repeat (first
        | ((first | refine TW_plain rfl rfl ?_ | refine TW_gmet rfl rfl rfl rfl ?_); first | refine QW QP ?_ | refine QW (rr_nilc rfl) ?_ | refine QW (rr_load1 (v := .map (some gm)) TyC.ty rfl (at_blk (i := 0) rfl rfl)) ?_ | refine QW (rr_loadB (i := 1) TyC.ty rfl rfl rfl) ?_ | refine QW (rr_load1 (v := .slice ab (S.length + 1) cs) TyC.ty rfl (at_blk (i := 0) rfl rfl)) ?_ | refine QW QL ?_ | refine QW QA ?_ | refine QW (rr_nilc rfl) ?_ | refine QW QlT ?_ | refine QW QlF ?_ | refine QW QaA ?_ | refine QW QaS ?_)
        | refine TW_skip rfl rfl rfl rfl rfl rfl rfl ?_ | refine TW_done ?_)
      refine TW_one rfl (TL_mapSet setK (i := 2) (x := s) Und.eq rfl rfl rfl rfl trivial (by omega) (TW_on (sub_pick [0, 4] (by decide) rfl) ?_))
      repeat (first
        | ((first | refine TW_plain rfl rfl ?_ | refine TW_gmet rfl rfl rfl rfl ?_); first | refine QW QP ?_ | refine QW QL ?_ | refine QW QA ?_ | refine QW (rr_nilc rfl) ?_ | refine QW QlT ?_ | refine QW QlF ?_ | refine QW QaA ?_ | refine QW QaS ?_)
        | refine TW_skip rfl rfl rfl rfl rfl rfl rfl ?_ | refine TW_done ?_)
      exact E_mid () trivial (by repeat' (first | exact True.intro | refine And.intro rfl ?_)) (by rw [← numO_add c1]; rfl)
    intro _ _
    (repeat refine T_seq ?_)
    refine T_midq (ι := Value) (fun _ => True) (fun _ => [(0, .pointer (some ⟨g, 0, none⟩)), (3, .pointer (some ⟨g3, 0, none⟩))]) (fun vs' => [blkO g (dmC (.slice ac p.classes.length cc) (.slice ar p.rules.length cr) vf vfol (.slice al p.last.length cl) ve vs' (.map (some gm)) rows vt) 92, setsO vs' (S ++ [s]), numO gm (S ++ [s]), intR vt tags, blkO g3 (clsL s).toArray 106]) ?_ ?_
    · refine T_ord ([blkO g3 (clsL s).toArray 106]) (.calm 0 (.calm 1 (.calm 2 (.calm 3 (.calm 5 (.two 4 (.one 6 (.one 7 (.calm 8 (.calm 9 (.one 10 (.done)))))) 6 (.one 4 (.one 7 (.calm 8 (.calm 9 (.one 10 (.done)))))))))))) (sub_pick [4] (by decide) rfl) (by kernel_rfl) (by kernel_rfl) (by intro c a d v w h; cases d <;> exact h) ?_
      repeat (first
        | ((first | refine TW_plain rfl rfl ?_ | refine TW_gmet rfl rfl rfl rfl ?_); first | refine QW QP ?_ | refine QW (rr_nilc rfl) ?_ | refine QW (rr_loadB (i := 0) TyC.ty rfl rfl rfl) ?_ | refine QW QL ?_ | refine QW QA ?_ | refine QW (rr_nilc rfl) ?_ | refine QW QlT ?_ | refine QW QlF ?_ | refine QW QaA ?_ | refine QW QaS ?_)
        | refine TW_skip rfl rfl rfl rfl rfl rfl rfl ?_ | refine TW_done ?_)
      refine TW_two rfl rfl ?_ ?_
      · refine TL_val (rr_load1 (v := .slice ab (S.length + 1) cs) TyC.ty rfl (at_blk (i := 0) rfl rfl)) rfl rfl rfl (TW_on (sub_pick [4] (by decide) rfl) ?_)
        refine TW_one rfl (TL_litN (cs := (clsL s).toArray) [clsV s] rfl rfl rfl (by intro v hv; simp at hv; subst hv; rfl) rfl rfl rfl fun g36 => (TW_on (sub_pick [4] (by decide) rfl) ?_))
        refine TW_one rfl (TL_appSl (i := 1) (e := 106) (size := 4) (bytes := 32) (m := S.length + 1) (xs := setL S) (k := 1) (ys := clsL s) rfl (sl_blk (i := 5) rfl (fun j u h => by simpa using h) (Nat.le_refl 1) (by decide)) rfl rfl rfl (fun u hu => set_one s u hu) (by omega) (by omega) rfl fun vs' => (TW_on (sub_pick [4] (by decide) rfl) ?_))
        repeat (first
          | ((first | refine TW_plain rfl rfl ?_ | refine TW_gmet rfl rfl rfl rfl ?_); first | refine QW QP ?_ | refine QW (rr_nilc rfl) ?_ | refine QW QL ?_ | refine QW QA ?_ | refine QW (rr_nilc rfl) ?_ | refine QW QlT ?_ | refine QW QlF ?_ | refine QW QaA ?_ | refine QW QaS ?_)
          | refine TW_skip rfl rfl rfl rfl rfl rfl rfl ?_ | refine TW_done ?_)
        refine TW_one rfl (TL_slv (i := 1) rfl fun hv1 hv2 => TL_store1 (i := 0) rfl rfl rfl hv1 hv2 rfl (TW_on (sub_pick [4] (by decide) rfl) ?_))
        repeat (first
          | ((first | refine TW_plain rfl rfl ?_ | refine TW_gmet rfl rfl rfl rfl ?_); first | refine QW QP ?_ | refine QW QL ?_ | refine QW QA ?_ | refine QW (rr_nilc rfl) ?_ | refine QW QlT ?_ | refine QW QlF ?_ | refine QW QaA ?_ | refine QW QaS ?_)
          | refine TW_skip rfl rfl rfl rfl rfl rfl rfl ?_ | refine TW_done ?_)
        refine E_pick [0, 1, 2, 3, 4] (by decide) rfl ?_
        exact E_mid vs' trivial (by repeat' (first | exact True.intro | refine And.intro rfl ?_)) (by unfold setsO; rw [setL_snoc, List.length_append]; rfl)
      · refine TL_litN (cs := (clsL s).toArray) [clsV s] rfl rfl rfl (by intro v hv; simp at hv; subst hv; rfl) rfl rfl rfl fun g36 => (TW_on (sub_pick [4] (by decide) rfl) ?_)
        refine TW_one rfl (TL_val (rr_load1 (v := .slice ab (S.length + 1) cs) TyC.ty rfl (at_blk (i := 0) rfl rfl)) rfl rfl rfl (TW_on (sub_pick [4] (by decide) rfl) ?_))
        refine TW_one rfl (TL_appSl (i := 1) (e := 106) (size := 4) (bytes := 32) (m := S.length + 1) (xs := setL S) (k := 1) (ys := clsL s) rfl (sl_blk (i := 5) rfl (fun j u h => by simpa using h) (Nat.le_refl 1) (by decide)) rfl rfl rfl (fun u hu => set_one s u hu) (by omega) (by omega) rfl fun vs' => (TW_on (sub_pick [4] (by decide) rfl) ?_))
        repeat (first
          | ((first | refine TW_plain rfl rfl ?_ | refine TW_gmet rfl rfl rfl rfl ?_); first | refine QW QP ?_ | refine QW (rr_nilc rfl) ?_ | refine QW QL ?_ | refine QW QA ?_ | refine QW (rr_nilc rfl) ?_ | refine QW QlT ?_ | refine QW QlF ?_ | refine QW QaA ?_ | refine QW QaS ?_)
          | refine TW_skip rfl rfl rfl rfl rfl rfl rfl ?_ | refine TW_done ?_)
        refine TW_one rfl (TL_slv (i := 1) rfl fun hv1 hv2 => TL_store1 (i := 0) rfl rfl rfl hv1 hv2 rfl (TW_on (sub_pick [4] (by decide) rfl) ?_))
        repeat (first
          | ((first | refine TW_plain rfl rfl ?_ | refine TW_gmet rfl rfl rfl rfl ?_); first | refine QW QP ?_ | refine QW QL ?_ | refine QW QA ?_ | refine QW (rr_nilc rfl) ?_ | refine QW QlT ?_ | refine QW QlF ?_ | refine QW QaA ?_ | refine QW QaS ?_)
          | refine TW_skip rfl rfl rfl rfl rfl rfl rfl ?_ | refine TW_done ?_)
        refine E_pick [0, 1, 2, 3, 4] (by decide) rfl ?_
        exact E_mid vs' trivial (by repeat' (first | exact True.intro | refine And.intro rfl ?_)) (by unfold setsO; rw [setL_snoc, List.length_append]; rfl)
    clear hmS
    intro vs' _
    refine T_know (i := 1) rfl row_slm fun hrow => ?_
    obtain ⟨ab', cs', rfl, hmS, -⟩ := hrow
    repeat (first
      | refine QV QP ?_ | refine QZ ?_ | refine qcT rfl ?_ | refine qcF rfl ?_ | refine E_blockX ?_ | refine E_blockO rfl ?_
      | refine qs rfl rfl rfl rfl rfl rfl ?_
      | ((try refine qg rfl rfl rfl ?_); first | refine QV QP ?_ | refine QV (rr_nilc rfl) ?_ | refine QV (rr_load1 (v := .slice ac p.classes.length cc) TyC.ty rfl (at_blk (i := 0) rfl rfl)) ?_ | refine QV QL ?_ | refine QV QA ?_ | refine QV (rr_nilc rfl) ?_ | refine QV QlT ?_ | refine QV QlF ?_ | refine QV QaA ?_ | refine QV QaS ?_))
    refine T_loop (ι := Nat × Int) (fun (k, t) => k ≤ p.classes.length ∧ t = tagTo p s k) (fun (k, t) => [(0, .pointer (some ⟨g, 0, none⟩)), (3, .pointer (some ⟨g3, 0, none⟩)), (7, .int .i64 t), (45, .int .i64 p.classes.length), (46, .int .i64 (k : Int))])
      (fun _ => [blkO g (dmC (.slice ac p.classes.length cc) (.slice ar p.rules.length cr) vf vfol (.slice al p.last.length cl) ve (.slice ab' ((S ++ [s]).length + 1) cs') (.map (some gm)) rows vt) 92, setsO (.slice ab' ((S ++ [s]).length + 1) cs') (S ++ [s]), numO gm (S ++ [s]), intR vt tags, blkO g3 (clsL s).toArray 106]) (fun (k, _) => p.classes.length - k) (0, -1) ⟨Nat.zero_le _, rfl⟩ (by repeat' (first | exact True.intro | refine And.intro rfl ?_)) rfl ?_
    rintro ⟨k, t⟩ ⟨hk, ht⟩
    dsimp only at hk ht ⊢
    by_cases q1 : k < p.classes.length
    · have hst := tag_step p s k
      have hkr : k < p.rules.length := by omega
      have hkl : k < p.last.length := by omega
      rw [List.getD_eq_getElem?_getD (l := p.rules), List.getElem?_eq_getElem hkr, Option.getD_some, List.getD_eq_getElem?_getD (l := p.last), List.getElem?_eq_getElem hkl, Option.getD_some] at hst
      obtain ⟨br, offr, rfl, hrrd⟩ := hrr (by omega)
      obtain ⟨bl, offl, rfl, hrld⟩ := hrl (by omega)
      have hatr := fun (L : List Own) => at_elO (L := L) SmIn_len ho hrrd hkr 0 _ rfl
      have hatl := fun (L : List Own) => at_elO (L := L) BoE_len ho hrld hkl 0 _ rfl
      have hr0 := (hmr _ (List.getElem_mem hkr)).1
      have hhas := fun w => setHas_calls s k (by omega) w
      clear hrrd hrld hrr hrl hmr
      generalize p.rules[k] = r at *
      generalize p.last[k] = lb at *
      generalize s.mem k = b at *
      rw [← ht] at hst
      clear ht
      have hatr' : ∀ (L : List Own), At B L ⟨br, offr + k * 1 + 0, none⟩ (.int .i64 r) := hatr
      have hatl' : ∀ (L : List Own), At B L ⟨bl, offl + k * 1 + 0, none⟩ (.bool lb) := hatl
      repeat (first
        | refine QV QP ?_ | refine QZ ?_ | refine qcT rfl ?_ | refine qcF rfl ?_ | refine E_blockX ?_ | refine E_blockO rfl ?_
        | refine qs rfl rfl rfl rfl rfl rfl ?_
        | ((try refine qg rfl rfl rfl ?_); first | refine QV QP ?_ | refine QV (rr_loadB (i := 4) TyC.ty rfl rfl rfl) ?_ | refine QV QL ?_ | refine QV QA ?_ | refine QV (rr_nilc rfl) ?_ | refine QV QlT ?_ | refine QV QlF ?_ | refine QV QaA ?_ | refine QV QaS ?_))
      refine TL_call (he2 EntersC.en rfl rfl rfl) (fun w hm => hhas w) rfl rfl rfl ?_
      intro _ _
      conv => arg 8; simp only [zA, zB, zC, zD, zE, zF, zG, zH, zI, rowS, ret, id_eq]
      have skip : ∀ (_ : ¬(b = true ∧ lb = true ∧ (t < 0 ∨ r < t))), tagTo p s (k + 1) = t := fun h => by rw [hst, if_neg h]
      have take : b = true ∧ lb = true ∧ (t < 0 ∨ r < t) → tagTo p s (k + 1) = r := fun h => by rw [hst, if_pos h]
      clear hst
      by_cases q2 : b = true
      · subst q2
        by_cases q3 : lb = true
        · subst q3
          by_cases q4 : t < 0
          · have e := (take ⟨rfl, rfl, .inl q4⟩).symm
            repeat (first
              | refine QV QP ?_ | refine QZ ?_ | refine qcT rfl ?_ | refine qcF rfl ?_ | refine E_blockX ?_ | refine E_blockO rfl ?_
              | refine qs rfl rfl rfl rfl rfl rfl ?_
              | ((try refine qg rfl rfl rfl ?_); first | refine QV QP ?_ | refine QV (rr_nilc rfl) ?_ | refine QV (rr_load1 (v := .slice (some ⟨bl, offl, none⟩) p.last.length cl) TyC.ty rfl (at_blk (i := 0) rfl rfl)) ?_ | refine QV (rr_idxc Und.eq TyC.ty rfl rfl hkl) ?_ | refine QV (rr_load1 (v := .bool true) TyC.ty rfl (hatl' _)) ?_ | refine QV (rr_lss (b := true) rfl rfl (decide_eq_true q4)) ?_ | refine QV (rr_load1 (v := .slice (some ⟨br, offr, none⟩) p.rules.length cr) TyC.ty rfl (at_blk (i := 0) rfl rfl)) ?_ | refine QV (rr_idxc Und.eq TyC.ty rfl rfl hkr) ?_ | refine QV (rr_load1 (v := .int .i64 r) TyC.ty rfl (hatr' _)) ?_ | refine QV QL ?_ | refine QV QA ?_ | refine QV (rr_nilc rfl) ?_ | refine QV QlT ?_ | refine QV QlF ?_ | refine QV QaA ?_ | refine QV QaS ?_))
            exact E_round (k + 1, r) ⟨by omega, e⟩ (by show p.classes.length - (k + 1) < p.classes.length - k; omega) (by repeat' (first | exact True.intro | refine And.intro rfl ?_)) rfl
          · by_cases q5 : r < t
            · have e := (take ⟨rfl, rfl, .inr q5⟩).symm
              repeat (first
                | refine QV QP ?_ | refine QZ ?_ | refine qcT rfl ?_ | refine qcF rfl ?_ | refine E_blockX ?_ | refine E_blockO rfl ?_
                | refine qs rfl rfl rfl rfl rfl rfl ?_
                | ((try refine qg rfl rfl rfl ?_); first | refine QV QP ?_ | refine QV (rr_nilc rfl) ?_ | refine QV (rr_load1 (v := .slice (some ⟨bl, offl, none⟩) p.last.length cl) TyC.ty rfl (at_blk (i := 0) rfl rfl)) ?_ | refine QV (rr_idxc Und.eq TyC.ty rfl rfl hkl) ?_ | refine QV (rr_load1 (v := .bool true) TyC.ty rfl (hatl' _)) ?_ | refine QV (rr_lss (b := false) rfl rfl (decide_eq_false q4)) ?_ | refine QV (rr_load1 (v := .slice (some ⟨br, offr, none⟩) p.rules.length cr) TyC.ty rfl (at_blk (i := 0) rfl rfl)) ?_ | refine QV (rr_idxc Und.eq TyC.ty rfl rfl hkr) ?_ | refine QV (rr_load1 (v := .int .i64 r) TyC.ty rfl (hatr' _)) ?_ | refine QV (rr_lss (b := true) rfl rfl (decide_eq_true q5)) ?_ | refine QV QL ?_ | refine QV QA ?_ | refine QV (rr_nilc rfl) ?_ | refine QV QlT ?_ | refine QV QlF ?_ | refine QV QaA ?_ | refine QV QaS ?_))
              exact E_round (k + 1, r) ⟨by omega, e⟩ (by show p.classes.length - (k + 1) < p.classes.length - k; omega) (by repeat' (first | exact True.intro | refine And.intro rfl ?_)) rfl
            · have e := (skip (fun h => h.2.2.elim q4 q5)).symm
              repeat (first
                | refine QV QP ?_ | refine QZ ?_ | refine qcT rfl ?_ | refine qcF rfl ?_ | refine E_blockX ?_ | refine E_blockO rfl ?_
                | refine qs rfl rfl rfl rfl rfl rfl ?_
                | ((try refine qg rfl rfl rfl ?_); first | refine QV QP ?_ | refine QV (rr_nilc rfl) ?_ | refine QV (rr_load1 (v := .slice (some ⟨bl, offl, none⟩) p.last.length cl) TyC.ty rfl (at_blk (i := 0) rfl rfl)) ?_ | refine QV (rr_idxc Und.eq TyC.ty rfl rfl hkl) ?_ | refine QV (rr_load1 (v := .bool true) TyC.ty rfl (hatl' _)) ?_ | refine QV (rr_lss (b := false) rfl rfl (decide_eq_false q4)) ?_ | refine QV (rr_load1 (v := .slice (some ⟨br, offr, none⟩) p.rules.length cr) TyC.ty rfl (at_blk (i := 0) rfl rfl)) ?_ | refine QV (rr_idxc Und.eq TyC.ty rfl rfl hkr) ?_ | refine QV (rr_load1 (v := .int .i64 r) TyC.ty rfl (hatr' _)) ?_ | refine QV (rr_lss (b := false) rfl rfl (decide_eq_false q5)) ?_ | refine QV QL ?_ | refine QV QA ?_ | refine QV (rr_nilc rfl) ?_ | refine QV QlT ?_ | refine QV QlF ?_ | refine QV QaA ?_ | refine QV QaS ?_))
              exact E_round (k + 1, t) ⟨by omega, e⟩ (by show p.classes.length - (k + 1) < p.classes.length - k; omega) (by repeat' (first | exact True.intro | refine And.intro rfl ?_)) rfl
        · have e := (skip (fun h => q3 h.2.1)).symm
          obtain rfl := Bool.eq_false_iff.2 q3
          repeat (first
            | refine QV QP ?_ | refine QZ ?_ | refine qcT rfl ?_ | refine qcF rfl ?_ | refine E_blockX ?_ | refine E_blockO rfl ?_
            | refine qs rfl rfl rfl rfl rfl rfl ?_
            | ((try refine qg rfl rfl rfl ?_); first | refine QV QP ?_ | refine QV (rr_nilc rfl) ?_ | refine QV (rr_load1 (v := .slice (some ⟨bl, offl, none⟩) p.last.length cl) TyC.ty rfl (at_blk (i := 0) rfl rfl)) ?_ | refine QV (rr_idxc Und.eq TyC.ty rfl rfl hkl) ?_ | refine QV (rr_load1 (v := .bool false) TyC.ty rfl (hatl' _)) ?_ | refine QV QL ?_ | refine QV QA ?_ | refine QV (rr_nilc rfl) ?_ | refine QV QlT ?_ | refine QV QlF ?_ | refine QV QaA ?_ | refine QV QaS ?_))
          exact E_round (k + 1, t) ⟨by omega, e⟩ (by show p.classes.length - (k + 1) < p.classes.length - k; omega) (by repeat' (first | exact True.intro | refine And.intro rfl ?_)) rfl
      · have e := (skip (fun h => q2 h.1)).symm
        obtain rfl := Bool.eq_false_iff.2 q2
        repeat (first
          | refine QV QP ?_ | refine QZ ?_ | refine qcT rfl ?_ | refine qcF rfl ?_ | refine E_blockX ?_ | refine E_blockO rfl ?_
          | refine qs rfl rfl rfl rfl rfl rfl ?_
          | ((try refine qg rfl rfl rfl ?_); first | refine QV QP ?_ | refine QV QL ?_ | refine QV QA ?_ | refine QV (rr_nilc rfl) ?_ | refine QV QlT ?_ | refine QV QlF ?_ | refine QV QaA ?_ | refine QV QaS ?_))
        exact E_round (k + 1, t) ⟨by omega, e⟩ (by show p.classes.length - (k + 1) < p.classes.length - k; omega) (by repeat' (first | exact True.intro | refine And.intro rfl ?_)) rfl
    · obtain rfl : k = p.classes.length := by omega
      rw [show tagF p s = t from ht.symm] at *
      repeat (first
        | refine QV QP ?_ | refine QZ ?_ | refine qcT rfl ?_ | refine qcF rfl ?_ | refine E_blockX ?_ | refine E_blockO rfl ?_
        | refine qs rfl rfl rfl rfl rfl rfl ?_
        | ((try refine qg rfl rfl rfl ?_); first | refine QV QP ?_ | refine QV (rr_nilc rfl) ?_ | refine QV (rr_load1 (v := vt) TyC.ty rfl (at_blk (i := 0) rfl rfl)) ?_ | refine QV QL ?_ | refine QV QA ?_ | refine QV (rr_nilc rfl) ?_ | refine QV QlT ?_ | refine QV QlF ?_ | refine QV QaA ?_ | refine QV QaS ?_))
      refine TL_push1 (i := 3) rfl rfl rfl rfl rfl rfl (fun z h => by cases h; rfl) (by omega) (by omega) rfl fun z' vt' => ?_
      conv => arg 8; simp only [zA, zB, zC, zD, zE, zF, zG, zH, zI, rowS, ret, id_eq]
      repeat (first
        | refine QV QP ?_ | refine QZ ?_ | refine qcT rfl ?_ | refine qcF rfl ?_ | refine E_blockX ?_ | refine E_blockO rfl ?_
        | refine qs rfl rfl rfl rfl rfl rfl ?_
        | ((try refine qg rfl rfl rfl ?_); first | refine QV QP ?_ | refine QV (rr_nilc rfl) ?_ | refine QV QL ?_ | refine QV QA ?_ | refine QV (rr_nilc rfl) ?_ | refine QV QlT ?_ | refine QV QlF ?_ | refine QV QaA ?_ | refine QV QaS ?_))
      refine TL_slv (i := 3) rfl fun hv1 hv2 => TL_store1 (i := 0) rfl rfl rfl hv1 hv2 rfl ?_
      conv => arg 8; simp only [zA, zB, zC, zD, zE, zF, zG, zH, zI, rowS, ret, id_eq]
      repeat (first
        | refine QV QP ?_ | refine QZ ?_ | refine qcT rfl ?_ | refine qcF rfl ?_ | refine E_blockX ?_ | refine E_blockO rfl ?_
        | refine qs rfl rfl rfl rfl rfl rfl ?_
        | ((try refine qg rfl rfl rfl ?_); first | refine QV QP ?_ | refine QV (rr_nilc rfl) ?_ | refine QV (rr_load1 (v := .slice ab' ((S ++ [s]).length + 1) cs') TyC.ty rfl (at_blk (i := 0) rfl rfl)) ?_ | refine QV (rr_sub64 (r := ((S.length + 1 : Nat) : Int)) rfl rfl (by simp; omega) (by simp; omega) (by simp)) ?_ | refine QV QL ?_ | refine QV QA ?_ | refine QV (rr_nilc rfl) ?_ | refine QV QlT ?_ | refine QV QlF ?_ | refine QV QaA ?_ | refine QV QaS ?_))
      refine E_pick [0, 1, 2, 3] (by decide) rfl ?_
      exact E_ret1 rfl rfl fun w hm => hm.meetsB (S := ⟨fun (_ : Value × Value) => True, fun _ => .int .i64 ((S.length + 1 : Nat) : Int), fun x => dmL (.slice ac p.classes.length cc) (.slice ar p.rules.length cr) vf vfol (.slice al p.last.length cl) ve rows g gm x.1 x.2 ⟨S ++ [s], tags ++ [t]⟩⟩) (.slice ab' ((S ++ [s]).length + 1) cs', vt') trivial [0, 1, 2, 3] (by decide) (by unfold dmL; rw [← int_snoc]; rfl)
    done
end Go.Proofs.YtkcnoompimohnaaDoor.eng

/- DfaL -/
namespace Go.Proofs.YtkcnoompimohnaaDoor.dfaL
/-- dfa.Check -/
def rowBad (n : Nat) (tag : Int) (row : List Int) : Bool := decide (tag < -1) || decide (20 ≤ tag) || row.any fun t => decide (t < -1) || decide ((n : Int) ≤ t)
def checkF (rows : List (List Int)) (tags : List Int) : Int :=
  if 200 < rows.length then 2 else if rows.length = 0 ∨ tags.length ≠ rows.length then 1 else if (List.range rows.length).any (fun i => rowBad rows.length (tags.getD i 0) (rows.getD i [])) then 1 else 0
theorem check_ok {rows : List (List Int)} {tags : List Int} (h : checkF rows tags = 0) : rows.length ≤ 200 ∧ 0 < rows.length ∧ tags.length = rows.length ∧ ∀ i, i < rows.length → -1 ≤ tags.getD i 0 ∧ tags.getD i 0 < 20 ∧ ∀ t ∈ rows.getD i [], -1 ≤ t ∧ t < rows.length := by
  unfold checkF at h
  split at h
  · simp at h
  · split at h
    · simp at h
    · split at h
      · simp at h
      · rename_i c1 c2 c3
        refine ⟨by omega, by omega, by omega, fun i hi => ?_⟩
        simp only [List.any_eq_true, List.mem_range, not_exists, not_and] at c3
        have := c3 i hi
        simp only [rowBad, Bool.or_eq_true, decide_eq_true_eq, List.any_eq_true, not_or, not_exists, not_and] at this
        obtain ⟨⟨a, b⟩, c⟩ := this
        refine ⟨by omega, by omega, fun t ht => ?_⟩
        have := c t ht
        omega
end Go.Proofs.YtkcnoompimohnaaDoor.dfaL

/- DfaO -/
namespace Go.Proofs.YtkcnoompimohnaaDoor.eng
open Go.RowKit kit mix dfaL
set_option maxRecDepth 100000
def isRow (cs : List Value) (r : List Int) : Prop := r.length = 256 ∧ cs = r.map (.int .i16) ∧ ∀ x ∈ r, -32768 ≤ x ∧ x ≤ 32767
/-- a Dfa's two slices -/
def IsDfa (W : World) (v : Value) (rows : List (List Int)) (tags : List Int) : Prop := ∃ vr vt, v = .agg #[vr, vt] ∧ SlX W isRow 256 vr rows ∧ SlX W (isInt .i64 (-9223372036854775808) 9223372036854775807) 1 vt tags ∧ ∀ r ∈ rows, r.length = 256
theorem IsDfa.up {W w : World} {L : List Own} {v : Value} {rows : List (List Int)} {tags : List Int} (h : IsDfa W v rows tags) (hm : Mem W L w) : IsDfa w v rows tags :=
  let ⟨vr, vt, h1, h2, h3, h4⟩ := h; ⟨vr, vt, h1, h2.up hm, h3.up hm, h4⟩
end Go.Proofs.YtkcnoompimohnaaDoor.eng

/- Dfa -/
namespace Go.Proofs.YtkcnoompimohnaaDoor.eng
open Go.RowKit kit mix dfaL
theorem row_at {rows : List (List Int)} {i : Nat} (hi : i < rows.length) : rows.getD i [] = rows[i] := by rw [List.getD_eq_getElem?_getD, List.getElem?_eq_getElem hi]; rfl
theorem int_at {l : List Int} {i : Nat} (hi : i < l.length) : l.getD i 0 = l[i] := by rw [List.getD_eq_getElem?_getD, List.getElem?_eq_getElem hi]; rfl
theorem any_range {n i : Nat} {p : Nat → Bool} (hi : i < n) (h : p i = true) : (List.range n).any p = true := List.any_eq_true.2 ⟨i, List.mem_range.2 hi, h⟩
set_option maxHeartbeats 4000000 in
theorem dfaCheck_calls (v : Value) (rows : List (List Int)) (tags : List Int) (w : World) (h : IsDfa w v rows tags) :
    Calls Tryd.prog 22 #[v] w (Meets (ret (.int .i64 (checkF rows tags))) w) := by
  obtain ⟨vr, vt, rfl, hr, ht, h256⟩ := h
  obtain ⟨br, cr, rfl, hr1, hr2, hr3⟩ := hr
  have ht' := ht.sl (f := .int .i64) fun cs a h => h.1
  obtain ⟨bt, ct, rfl, ht1, ht2, ht3⟩ := ht'
  have htr : ∀ i (hi : i < tags.length), -9223372036854775808 ≤ tags[i] ∧ tags[i] ≤ 9223372036854775807 := fun i hi => by
    obtain ⟨_, _, _, _, _, h5⟩ := ht
    obtain ⟨_, _, _, h6⟩ := h5 (by omega)
    obtain ⟨_, h7, _⟩ := h6 i hi
    exact h7.2
  clear ht
  unfold maxLen at hr2 ht2
  refine enter (args := [.agg #[.slice br rows.length cr, .slice bt tags.length ct]]) (n := 57) Tryd.func22 rfl rfl rfl ?_
  refine T_seq (T_region (TL_box rfl rfl rfl fun g => ?_))
  repeat (first
    | refine QV QP ?_ | refine QZ ?_ | refine qcT rfl ?_ | refine qcF rfl ?_ | refine E_blockX ?_ | refine E_blockO rfl ?_
    | refine qs rfl rfl rfl rfl rfl rfl ?_
    | ((try refine qg rfl rfl rfl ?_); first | refine QV QP ?_ | refine QV (rr_load1 TyC.ty rfl (at_blk (i := 0) rfl rfl)) ?_ | refine QV QL ?_ | refine QV QA ?_ | refine QV QlT ?_ | refine QV QlF ?_ | refine QV QgT ?_ | refine QV QgF ?_ | refine QV QeT ?_ | refine QV QeF ?_ | refine QV QaA ?_ | refine QV QhT ?_ | refine QV QhF ?_ | refine QV QnT ?_ | refine QV QnF ?_))
  unfold checkF
  by_cases c1 : 200 < rows.length
  · rw [if_pos c1]
    repeat (first
      | refine QV QP ?_ | refine QZ ?_ | refine qcT rfl ?_ | refine qcF rfl ?_ | refine E_blockX ?_ | refine E_blockO rfl ?_
      | refine qs rfl rfl rfl rfl rfl rfl ?_
      | ((try refine qg rfl rfl rfl ?_); first | refine QV QP ?_ | refine QV QL ?_ | refine QV QA ?_ | refine QV QlT ?_ | refine QV QlF ?_ | refine QV QgT ?_ | refine QV QgF ?_ | refine QV QeT ?_ | refine QV QeF ?_ | refine QV QaA ?_ | refine QV QhT ?_ | refine QV QhF ?_ | refine QV QnT ?_ | refine QV QnF ?_))
    exact E_ret1 rfl rfl fun w hm => hm.ret
  · rw [if_neg c1]
    by_cases c2 : rows.length = 0
    · rw [if_pos (.inl c2)]
      repeat (first
        | refine QV QP ?_ | refine QZ ?_ | refine qcT rfl ?_ | refine qcF rfl ?_ | refine E_blockX ?_ | refine E_blockO rfl ?_
        | refine qs rfl rfl rfl rfl rfl rfl ?_
        | ((try refine qg rfl rfl rfl ?_); first | refine QV QP ?_ | refine QV (rr_load1 TyC.ty rfl (at_blk (i := 0) rfl rfl)) ?_ | refine QV QL ?_ | refine QV QA ?_ | refine QV QlT ?_ | refine QV QlF ?_ | refine QV QgT ?_ | refine QV QgF ?_ | refine QV QeT ?_ | refine QV QeF ?_ | refine QV QaA ?_ | refine QV QhT ?_ | refine QV QhF ?_ | refine QV QnT ?_ | refine QV QnF ?_))
      exact E_ret1 rfl rfl fun w hm => hm.ret
    · by_cases c3 : tags.length = rows.length
      · rw [if_neg (by omega)]
        repeat (first
          | refine QV QP ?_ | refine QZ ?_ | refine qcT rfl ?_ | refine qcF rfl ?_ | refine E_blockX ?_ | refine E_blockO rfl ?_
          | refine qs rfl rfl rfl rfl rfl rfl ?_
          | ((try refine qg rfl rfl rfl ?_); first | refine QV QP ?_ | refine QV (rr_load1 TyC.ty rfl (at_blk (i := 0) rfl rfl)) ?_ | refine QV QL ?_ | refine QV QA ?_ | refine QV QlT ?_ | refine QV QlF ?_ | refine QV QgT ?_ | refine QV QgF ?_ | refine QV QeT ?_ | refine QV QeF ?_ | refine QV QaA ?_ | refine QV QhT ?_ | refine QV QhF ?_ | refine QV QnT ?_ | refine QV QnF ?_))
        refine T_loop (ι := Nat) (fun i => i ≤ rows.length ∧ ∀ j, j < i → rowBad rows.length (tags.getD j 0) (rows.getD j []) = false) (fun i => [(1, .pointer (some ⟨g, 0, none⟩)), (3, .int .i64 rows.length), (21, .int .i64 rows.length), (22, .int .i64 (i : Int))]) (fun _ => [blkO g #[.slice br rows.length cr, .slice bt tags.length ct] 26]) (fun i => rows.length - i) 0 ⟨by omega, fun j hj => by omega⟩ ⟨rfl, rfl, rfl, rfl, trivial⟩ rfl ?_
        rintro i ⟨h1, h2⟩
        by_cases c4 : i < rows.length
        · obtain ⟨b, off, rfl, hb⟩ := hr3 (by omega)
          obtain ⟨b', off', rfl, hb'⟩ := ht3 (by omega)
          have c4' : i < tags.length := by omega
          have hat := at_rdm (L := [blkO g #[.slice (some ⟨b, off, none⟩) rows.length cr, .slice (some ⟨b', off', none⟩) tags.length ct] 26]) hb' c4'
          obtain ⟨cs, hcs, hrow⟩ := hb i c4
          obtain ⟨q1, q2, q3⟩ := hcs
          have hti := htr i c4'
          have hta := int_at c4'
          have hra := row_at c4
          have hbad : ∀ (P : Prop), rowBad rows.length (tags.getD i 0) (rows.getD i []) = true → (if (List.range rows.length).any (fun i => rowBad rows.length (tags.getD i 0) (rows.getD i [])) = true then (1 : Int) else 0) = 1 := fun _ h => if_pos (any_range c4 h)
          rw [hta, hra] at hbad
          by_cases c5 : tags[i] < -1
          · rw [hbad True (by simp [rowBad, c5])]
            repeat (first
              | refine QV QP ?_ | refine QZ ?_ | refine qcT rfl ?_ | refine qcF rfl ?_ | refine E_blockX ?_ | refine E_blockO rfl ?_
              | refine qs rfl rfl rfl rfl rfl rfl ?_
              | ((try refine qg rfl rfl rfl ?_); first | refine QV QP ?_ | refine QV (rr_load1 TyC.ty rfl (at_blk (i := 0) rfl rfl)) ?_ | refine QV (rr_idx1 Und.eq TyC.ty rfl rfl c4') ?_ | refine QV (rr_load1 TyC.ty rfl hat) ?_ | refine QV QL ?_ | refine QV QA ?_ | refine QV QlT ?_ | refine QV QlF ?_ | refine QV QgT ?_ | refine QV QgF ?_ | refine QV QeT ?_ | refine QV QeF ?_ | refine QV QaA ?_ | refine QV QhT ?_ | refine QV QhF ?_ | refine QV QnT ?_ | refine QV QnF ?_))
            exact E_ret1 rfl rfl fun w hm => hm.ret
          · by_cases c6 : 20 ≤ tags[i]
            · rw [hbad True (by simp [rowBad, c6])]
              repeat (first
                | refine QV QP ?_ | refine QZ ?_ | refine qcT rfl ?_ | refine qcF rfl ?_ | refine E_blockX ?_ | refine E_blockO rfl ?_
                | refine qs rfl rfl rfl rfl rfl rfl ?_
                | ((try refine qg rfl rfl rfl ?_); first | refine QV QP ?_ | refine QV (rr_load1 TyC.ty rfl (at_blk (i := 0) rfl rfl)) ?_ | refine QV (rr_idx1 Und.eq TyC.ty rfl rfl c4') ?_ | refine QV (rr_load1 TyC.ty rfl hat) ?_ | refine QV QL ?_ | refine QV QA ?_ | refine QV QlT ?_ | refine QV QlF ?_ | refine QV QgT ?_ | refine QV QgF ?_ | refine QV QeT ?_ | refine QV QeF ?_ | refine QV QaA ?_ | refine QV QhT ?_ | refine QV QhF ?_ | refine QV QnT ?_ | refine QV QnF ?_))
              exact E_ret1 rfl rfl fun w hm => hm.ret
            · repeat (first
                | refine QV QP ?_ | refine QZ ?_ | refine qcT rfl ?_ | refine qcF rfl ?_ | refine E_blockX ?_ | refine E_blockO rfl ?_
                | refine qs rfl rfl rfl rfl rfl rfl ?_
                | ((try refine qg rfl rfl rfl ?_); first | refine QV QP ?_ | refine QV (rr_load1 TyC.ty rfl (at_blk (i := 0) rfl rfl)) ?_ | refine QV (rr_idx1 Und.eq TyC.ty rfl rfl c4') ?_ | refine QV (rr_load1 TyC.ty rfl hat) ?_ | refine QV (rr_idxc Und.eq TyC.ty rfl rfl c4) ?_ | refine QV (rr_loadN TyC.ty rfl (by rw [q2, List.length_map, q1]) (fun j v hj => at_rd hrow hj)) ?_ | refine QV QL ?_ | refine QV QA ?_ | refine QV QlT ?_ | refine QV QlF ?_ | refine QV QgT ?_ | refine QV QgF ?_ | refine QV QeT ?_ | refine QV QeF ?_ | refine QV QaA ?_ | refine QV QhT ?_ | refine QV QhF ?_ | refine QV QnT ?_ | refine QV QnF ?_))
              refine T_loop (ι := Nat) (fun b => b ≤ 256 ∧ ∀ q, q < b → -1 ≤ rows[i].getD q 0 ∧ rows[i].getD q 0 < rows.length) (fun b => [(1, .pointer (some ⟨g, 0, none⟩)), (3, .int .i64 rows.length), (21, .int .i64 rows.length), (22, .int .i64 (i : Int)), (43, .agg cs.toArray), (44, .int .i64 (b : Int))]) (fun _ => [blkO g #[.slice (some ⟨b, off, none⟩) rows.length cr, .slice (some ⟨b', off', none⟩) tags.length ct] 26]) (fun b => 256 - b) 0 ⟨by omega, fun q hq => by omega⟩ ⟨rfl, rfl, rfl, rfl, rfl, rfl, trivial⟩ rfl ?_
              rintro q ⟨k1, k2⟩
              by_cases c7 : q < 256
              · have hql : q < rows[i].length := by omega
                have hqv := int_at hql
                have hcell : cs.toArray[q]? = some (.int .i16 rows[i][q]) := by rw [q2]; simp [hql]
                have hq3 := q3 _ (List.getElem_mem hql)
                have hmem : rows[i][q] ∈ rows[i] := List.getElem_mem hql
                generalize rows[i][q] = z at *
                by_cases c8 : z < -1
                · rw [hbad True (by simp only [rowBad, Bool.or_eq_true, List.any_eq_true]; exact .inr ⟨z, hmem, by simp [c8]⟩)]
                  clear k2 h2 hr3 ht3
                  repeat (first
                    | refine QV QP ?_ | refine QZ ?_ | refine qcT rfl ?_ | refine qcF rfl ?_ | refine E_blockX ?_ | refine E_blockO rfl ?_
                    | refine qs rfl rfl rfl rfl rfl rfl ?_
                    | ((try refine qg rfl rfl rfl ?_); first | refine QV QP ?_ | refine QV (rr_arridx Und.eq TyC.ty rfl rfl c7 hcell) ?_ | refine QV QL ?_ | refine QV QA ?_ | refine QV QlT ?_ | refine QV QlF ?_ | refine QV QgT ?_ | refine QV QgF ?_ | refine QV QeT ?_ | refine QV QeF ?_ | refine QV QaA ?_ | refine QV (rr_conv Und.eq Und.eq rfl (wrap_in (by omega) (by omega))) ?_ | refine QV QhT ?_ | refine QV QhF ?_ | refine QV QnT ?_ | refine QV QnF ?_))
                  exact E_ret1 rfl rfl fun w hm => hm.ret
                · by_cases c9 : (rows.length : Int) ≤ z
                  · rw [hbad True (by simp only [rowBad, Bool.or_eq_true, List.any_eq_true]; exact .inr ⟨z, hmem, by simp [c9]⟩)]
                    clear k2 h2 hr3 ht3
                    repeat (first
                      | refine QV QP ?_ | refine QZ ?_ | refine qcT rfl ?_ | refine qcF rfl ?_ | refine E_blockX ?_ | refine E_blockO rfl ?_
                      | refine qs rfl rfl rfl rfl rfl rfl ?_
                      | ((try refine qg rfl rfl rfl ?_); first | refine QV QP ?_ | refine QV (rr_arridx Und.eq TyC.ty rfl rfl c7 hcell) ?_ | refine QV QL ?_ | refine QV QA ?_ | refine QV QlT ?_ | refine QV QlF ?_ | refine QV QgT ?_ | refine QV QgF ?_ | refine QV QeT ?_ | refine QV QeF ?_ | refine QV QaA ?_ | refine QV (rr_conv Und.eq Und.eq rfl (wrap_in (by omega) (by omega))) ?_ | refine QV QhT ?_ | refine QV QhF ?_ | refine QV QnT ?_ | refine QV QnF ?_))
                    exact E_ret1 rfl rfl fun w hm => hm.ret
                  · repeat (first
                      | refine QV QP ?_ | refine QZ ?_ | refine qcT rfl ?_ | refine qcF rfl ?_ | refine E_blockX ?_ | refine E_blockO rfl ?_
                      | refine qs rfl rfl rfl rfl rfl rfl ?_
                      | ((try refine qg rfl rfl rfl ?_); first | refine QV QP ?_ | refine QV (rr_arridx Und.eq TyC.ty rfl rfl c7 hcell) ?_ | refine QV QL ?_ | refine QV QA ?_ | refine QV QlT ?_ | refine QV QlF ?_ | refine QV QgT ?_ | refine QV QgF ?_ | refine QV QeT ?_ | refine QV QeF ?_ | refine QV QaA ?_ | refine QV (rr_conv Und.eq Und.eq rfl (wrap_in (by omega) (by omega))) ?_ | refine QV QhT ?_ | refine QV QhF ?_ | refine QV QnT ?_ | refine QV QnF ?_))
                    exact E_round (q + 1) ⟨by omega, fun q' hq' => if e : q' < q then k2 q' e else (by obtain rfl : q' = q := (by omega); rw [hqv]; omega)⟩ (by show 256 - (q + 1) < 256 - q; omega) ⟨rfl, rfl, rfl, rfl, rfl, rfl, trivial⟩ rfl
              · have hgood : rowBad rows.length (tags.getD i 0) (rows.getD i []) = false := by
                  rw [hta, hra]
                  simp only [rowBad, Bool.or_eq_false_iff, decide_eq_false_iff_not, List.any_eq_false, Bool.not_eq_true]
                  refine ⟨⟨c5, c6⟩, fun z hz => ?_⟩
                  obtain ⟨q', hq', rfl⟩ := List.mem_iff_getElem.1 hz
                  have := k2 q' (by omega)
                  rw [int_at hq'] at this
                  simp; omega
                repeat (first
                  | refine QV QP ?_ | refine QZ ?_ | refine qcT rfl ?_ | refine qcF rfl ?_ | refine E_blockX ?_ | refine E_blockO rfl ?_
                  | refine qs rfl rfl rfl rfl rfl rfl ?_
                  | ((try refine qg rfl rfl rfl ?_); first | refine QV QP ?_ | refine QV QL ?_ | refine QV QA ?_ | refine QV QlT ?_ | refine QV QlF ?_ | refine QV QgT ?_ | refine QV QgF ?_ | refine QV QeT ?_ | refine QV QeF ?_ | refine QV QaA ?_ | refine QV QhT ?_ | refine QV QhF ?_ | refine QV QnT ?_ | refine QV QnF ?_))
                exact E_round (i + 1) ⟨by omega, fun j hj => if e : j < i then h2 j e else (by obtain rfl : j = i := (by omega); exact hgood)⟩ (by show rows.length - (i + 1) < rows.length - i; omega) ⟨rfl, rfl, rfl, rfl, trivial⟩ rfl
        · have hno : ¬ (List.range rows.length).any (fun i => rowBad rows.length (tags.getD i 0) (rows.getD i [])) = true := by
            simp only [List.any_eq_true, List.mem_range, not_exists, not_and]
            intro j hj; rw [h2 j (by omega)]; simp
          rw [if_neg hno]
          repeat (first
            | refine QV QP ?_ | refine QZ ?_ | refine qcT rfl ?_ | refine qcF rfl ?_ | refine E_blockX ?_ | refine E_blockO rfl ?_
            | refine qs rfl rfl rfl rfl rfl rfl ?_
            | ((try refine qg rfl rfl rfl ?_); first | refine QV QP ?_ | refine QV QL ?_ | refine QV QA ?_ | refine QV QlT ?_ | refine QV QlF ?_ | refine QV QgT ?_ | refine QV QgF ?_ | refine QV QeT ?_ | refine QV QeF ?_ | refine QV QaA ?_ | refine QV QhT ?_ | refine QV QhF ?_ | refine QV QnT ?_ | refine QV QnF ?_))
          exact E_ret1 rfl rfl fun w hm => hm.ret
      · rw [if_pos (.inr c3)]
        repeat (first
          | refine QV QP ?_ | refine QZ ?_ | refine qcT rfl ?_ | refine qcF rfl ?_ | refine E_blockX ?_ | refine E_blockO rfl ?_
          | refine qs rfl rfl rfl rfl rfl rfl ?_
          | ((try refine qg rfl rfl rfl ?_); first | refine QV QP ?_ | refine QV (rr_load1 TyC.ty rfl (at_blk (i := 0) rfl rfl)) ?_ | refine QV QL ?_ | refine QV QA ?_ | refine QV QlT ?_ | refine QV QlF ?_ | refine QV QgT ?_ | refine QV QgF ?_ | refine QV QeT ?_ | refine QV QeF ?_ | refine QV QaA ?_ | refine QV QhT ?_ | refine QV QhF ?_ | refine QV QnT ?_ | refine QV QnF ?_))
        exact E_ret1 rfl rfl fun w hm => hm.ret
end Go.Proofs.YtkcnoompimohnaaDoor.eng

/- SmM -/
namespace Go.Proofs.YtkcnoompimohnaaDoor.smallL
section
variable (A : Aut) (bl : Nat → Nat)
def addQ (Q : List Nat) (tq : Int) : List Nat := if bl tq.toNat ∈ Q.map bl then Q else Q ++ [tq.toNat]
def stepQ (Q : List Nat) (tq : Int) : List Nat × Int := if val bl tq = 0 then (Q, -1) else (addQ bl Q tq, (idx ((addQ bl Q tq).map bl) (bl tq.toNat) : Int))
/-- behind k bytes of a state's row -/
def rowQ (q : Nat) (Q : List Nat) : Nat → List Nat × List Int
  | 0 => (Q, [])
  | k + 1 => ((stepQ bl (rowQ q Q k).1 (A.d q k)).1, (rowQ q Q k).2 ++ [(stepQ bl (rowQ q Q k).1 (A.d q k)).2])
def vec (l : List Int) : Row := Vector.ofFn fun b : Fin 256 => l.getD b 0
def minGo : Nat → Nat → List Nat → List Row → List Nat × List Row
  | 0, _, Q, out => (Q, out)
  | f + 1, n, Q, out => if n < Q.length then minGo f (n + 1) (rowQ A bl (Q.getD n 0) Q 256).1 (out ++ [vec (rowQ A bl (Q.getD n 0) Q 256).2]) else (Q, out)
def minF : List Nat × List Row := minGo A bl (A.n + 1) 0 [0] []
end
/-- the smallest one -/
def minA (A : Aut) : Aut := ⟨(minF A (blocksF A)).1.length, fun k b => ((minF A (blocksF A)).2.getD k (Vector.replicate 256 0)).toList.getD b 0, fun k => ((minF A (blocksF A)).1.map A.tag).getD k 0⟩
section
variable {A : Aut} {bl : Nat → Nat}
/-- states that are to be looked at -/
structure QOk (A : Aut) (bl : Nat → Nat) (Q : List Nat) : Prop where
  head : ∃ R, Q = 0 :: R ∧ ∀ q ∈ R, bl q ≠ 0
  lt : ∀ q ∈ Q, q < A.n
  nodup : (Q.map bl).Nodup
theorem QOk.len {Q : List Nat} (h : QOk A bl Q) : Q.length ≤ A.n ∧ 0 < Q.length := by
  have h1 : Q.Nodup := List.Pairwise.of_map bl (fun a b hne e => hne (by rw [e])) h.nodup
  refine ⟨nodup_bound h1 h.lt, ?_⟩
  obtain ⟨R, rfl, _⟩ := h.head
  simp
theorem qok0 (hA : A.Ok) : QOk A bl [0] := ⟨⟨[], rfl, by simp⟩, fun q hq => by simp at hq; subst hq; exact hA.pos, by simp⟩
theorem qok_add {Q : List Nat} (h : QOk A bl Q) {tq : Int} (h1 : St A tq) (h0 : val bl tq ≠ 0) : QOk A bl (addQ bl Q tq) := by
  unfold addQ
  unfold val at h0
  split at h0
  · exact absurd rfl h0
  · split
    · exact h
    · rename_i hneg hn
      unfold St at h1
      obtain ⟨R, rfl, hR⟩ := h.head
      refine ⟨⟨R ++ [tq.toNat], rfl, fun q hq => ?_⟩, fun q hq => ?_, ?_⟩
      · rcases List.mem_append.1 hq with hq | hq
        · exact hR q hq
        · simp at hq; subst hq; exact h0
      · rcases List.mem_append.1 hq with hq | hq
        · exact h.lt q hq
        · simp at hq; subst hq; omega
      · rw [List.map_append]
        refine List.nodup_append.2 ⟨h.nodup, by simp, fun a ha b hb e => ?_⟩
        simp at hb; subst hb e
        exact hn ha
theorem add_pre (Q : List Nat) (tq : Int) : ∃ E, addQ bl Q tq = Q ++ E := by
  unfold addQ; split
  · exact ⟨[], by simp⟩
  · exact ⟨_, rfl⟩
theorem add_mem (Q : List Nat) (tq : Int) : bl tq.toNat ∈ (addQ bl Q tq).map bl := by
  unfold addQ; split
  · assumption
  · simp
theorem qok_step {Q : List Nat} (h : QOk A bl Q) {tq : Int} (h1 : St A tq) : QOk A bl (stepQ bl Q tq).1 := by
  unfold stepQ; split
  · exact h
  · rename_i h0; exact qok_add h h1 h0
theorem step_pre (Q : List Nat) (tq : Int) : ∃ E, (stepQ bl Q tq).1 = Q ++ E := by
  unfold stepQ; split
  · exact ⟨[], by simp⟩
  · exact add_pre Q tq
theorem row_len (q : Nat) (Q : List Nat) : ∀ k, (rowQ A bl q Q k).2.length = k
  | 0 => rfl
  | k + 1 => by simp [rowQ, row_len q Q k]
theorem st_d (hA : A.Ok) {q : Nat} (hq : q < A.n) {b : Nat} (hb : b < 256) : St A (A.d q b) := hA.step q hq b hb
theorem qok_row (hA : A.Ok) {Q : List Nat} (h : QOk A bl Q) {q : Nat} (hq : q < A.n) : ∀ k, k ≤ 256 → QOk A bl (rowQ A bl q Q k).1
  | 0, _ => h
  | k + 1, hk => qok_step (qok_row hA h hq k (by omega)) (st_d hA hq (by omega))
theorem row_pre (q : Nat) (Q : List Nat) : ∀ k, ∃ E, (rowQ A bl q Q k).1 = Q ++ E
  | 0 => ⟨[], by simp [rowQ]⟩
  | k + 1 => by
    obtain ⟨E, h⟩ := row_pre q Q k
    obtain ⟨E', h'⟩ := step_pre (bl := bl) (rowQ A bl q Q k).1 (A.d q k)
    exact ⟨E ++ E', by simp only [rowQ]; rw [h', h, List.append_assoc]⟩
/-- what a row tells, the states being numbered by Q -/
def RowIs (A : Aut) (bl : Nat → Nat) (Q : List Nat) (q b : Nat) (x : Int) : Prop := (val bl (A.d q b) = 0 → x = -1) ∧ (val bl (A.d q b) ≠ 0 → val bl (A.d q b) ∈ Q.map bl ∧ x = (idx (Q.map bl) (val bl (A.d q b)) : Int))
theorem RowIs.more {Q : List Nat} {q b : Nat} {x : Int} (h : RowIs A bl Q q b x) (E : List Nat) : RowIs A bl (Q ++ E) q b x := by
  refine ⟨h.1, fun h0 => ?_⟩
  obtain ⟨h1, h2⟩ := h.2 h0
  rw [List.map_append, idx_pre h1]
  exact ⟨List.mem_append_left _ h1, h2⟩
theorem step_is (Q : List Nat) (q b : Nat) : RowIs A bl (stepQ bl Q (A.d q b)).1 q b (stepQ bl Q (A.d q b)).2 := by
  unfold stepQ
  split
  · rename_i h; exact ⟨fun _ => rfl, fun h' => absurd h h'⟩
  · rename_i h
    refine ⟨fun h' => absurd h' h, fun _ => ?_⟩
    have e : val bl (A.d q b) = bl (A.d q b).toNat := by
      unfold val at h ⊢
      split at h
      · exact absurd rfl h
      · rename_i hn; rw [if_neg hn]
    rw [e]
    exact ⟨add_mem Q _, rfl⟩
theorem row_is (q : Nat) (Q : List Nat) : ∀ k b, b < k → RowIs A bl (rowQ A bl q Q k).1 q b ((rowQ A bl q Q k).2.getD b 0)
  | 0, _, h => by omega
  | k + 1, b, h => by
    have hl := row_len (A := A) (bl := bl) q Q k
    simp only [rowQ]
    by_cases c : b < k
    · have ih := row_is q Q k b c
      obtain ⟨E, e⟩ := step_pre (bl := bl) (rowQ A bl q Q k).1 (A.d q k)
      rw [e, getD_left (by omega)]
      exact ih.more E
    · obtain rfl : b = k := by omega
      rw [getD_right (by omega), hl, Nat.sub_self]
      exact step_is _ q b
theorem vec_get (l : List Int) (b : Nat) (hb : b < 256) : (vec l).toList.getD b 0 = l.getD b 0 := by
  have h : b < (vec l).toList.length := by simp; exact hb
  rw [List.getD_eq_getElem?_getD, List.getElem?_eq_getElem h, Option.getD_some, Vector.getElem_toList]
  unfold vec
  rw [Vector.getElem_ofFn]
/-- on the way: rows of the first n states are there -/
structure Outs (A : Aut) (bl : Nat → Nat) (n : Nat) (Q : List Nat) (out : List Row) : Prop where
  len : out.length = n
  le : n ≤ Q.length
  rows : ∀ k, k < n → ∀ b, b < 256 → RowIs A bl Q (Q.getD k 0) b ((out.getD k (Vector.replicate 256 0)).toList.getD b 0)
theorem outs_step (hA : A.Ok) {n : Nat} {Q : List Nat} {out : List Row} (h : Outs A bl n Q out) (hn : n < Q.length) : Outs A bl (n + 1) (rowQ A bl (Q.getD n 0) Q 256).1 (out ++ [vec (rowQ A bl (Q.getD n 0) Q 256).2]) := by
  obtain ⟨E, e⟩ := row_pre (A := A) (bl := bl) (Q.getD n 0) Q 256
  have hr := row_is (A := A) (bl := bl) (Q.getD n 0) Q 256
  have hlen := h.len
  refine ⟨by simp [hlen], by rw [e]; simp; omega, fun k hk b hb => ?_⟩
  have hk' : k < Q.length := by omega
  rw [e] at hr ⊢
  rw [getD_left hk']
  by_cases c : k < n
  · rw [getD_left (by omega)]
    exact (h.rows k c b hb).more E
  · obtain rfl : k = n := by omega
    rw [getD_right (by omega), hlen, Nat.sub_self]
    show RowIs A bl (Q ++ E) (Q.getD k 0) b ((vec _).toList.getD b 0)
    rw [vec_get _ b hb]
    exact hr b hb
theorem getD_mem {Q : List Nat} {n : Nat} (h : n < Q.length) : Q.getD n 0 ∈ Q := by
  rw [List.getD_eq_getElem?_getD, List.getElem?_eq_getElem h]; exact List.getElem_mem h
theorem min_go (hA : A.Ok) : ∀ (f n : Nat) (Q : List Nat) (out : List Row), QOk A bl Q → Outs A bl n Q out → A.n + 1 ≤ f + n → QOk A bl (minGo A bl f n Q out).1 ∧ Outs A bl (minGo A bl f n Q out).1.length (minGo A bl f n Q out).1 (minGo A bl f n Q out).2
  | 0, n, Q, out, hQ, hO, hf => by have := hQ.len; have := hO.le; omega
  | f + 1, n, Q, out, hQ, hO, hf => by
    unfold minGo
    split
    · rename_i hn
      exact min_go hA f _ _ _ (qok_row hA hQ (hQ.lt _ (getD_mem hn)) 256 (Nat.le_refl _)) (outs_step hA hO hn) (by omega)
    · rename_i hn
      have := hO.le
      obtain rfl : n = Q.length := by omega
      exact ⟨hQ, hO⟩
theorem min_ok (hA : A.Ok) : QOk A bl (minF A bl).1 ∧ Outs A bl (minF A bl).1.length (minF A bl).1 (minF A bl).2 :=
  min_go hA _ _ _ _ (qok0 hA) ⟨rfl, Nat.zero_le _, fun k hk => by omega⟩ (by omega)
theorem min_rows (hA : A.Ok) {k : Nat} (hk : k < (minA A).n) {b : Nat} (hb : b < 256) : RowIs A (blocksF A) (minF A (blocksF A)).1 ((minF A (blocksF A)).1.getD k 0) b ((minA A).d k b) :=
  (min_ok (bl := blocksF A) hA).2.rows k hk b hb
theorem min_tag {k : Nat} (hk : k < (minA A).n) : (minA A).tag k = A.tag ((minF A (blocksF A)).1.getD k 0) := by
  have hk' : k < (minF A (blocksF A)).1.length := hk
  show ((minF A (blocksF A)).1.map A.tag).getD k 0 = _
  rw [List.getD_eq_getElem?_getD, List.getElem?_map, List.getD_eq_getElem?_getD, List.getElem?_eq_getElem hk']; rfl
theorem minA_ok (hA : A.Ok) : (minA A).Ok := by
  obtain ⟨hQ, hO⟩ := min_ok (bl := blocksF A) hA
  obtain ⟨h1, h2⟩ := hQ.len
  have hle := hA.le
  refine ⟨h2, Nat.le_trans h1 hle, fun k hk b hb => ?_, fun k hk => by rw [min_tag hk]; exact hA.tags _ (hQ.lt _ (getD_mem hk))⟩
  have hr := min_rows hA hk hb
  by_cases c : val (blocksF A) (A.d ((minF A (blocksF A)).1.getD k 0) b) = 0
  · rw [hr.1 c]; exact ⟨by omega, by omega⟩
  · obtain ⟨r1, r2⟩ := hr.2 c
    have := idx_lt r1
    rw [List.length_map] at this
    rw [r2]
    exact ⟨by omega, by show _ < ((minF A (blocksF A)).1.length : Int); omega⟩
/-- the state of A that state k is of -/
def rep (A : Aut) (k : Int) : Int := if k < 0 then -1 else ((minF A (blocksF A)).1.getD k.toNat 0 : Int)
theorem rep_st (hA : A.Ok) {k : Int} (hk : St (minA A) k) : St A (rep A k) := by
  unfold rep St at *
  have := hA.pos
  split
  · omega
  · have := (min_ok (bl := blocksF A) hA).1.lt _ (getD_mem (show k.toNat < (minF A (blocksF A)).1.length by have := hk.2; show _ < (minA A).n; omega))
    omega
theorem rep0 (hA : A.Ok) : rep A 0 = 0 := by
  obtain ⟨R, e, _⟩ := (min_ok (bl := blocksF A) hA).1.head
  show ((minF A (blocksF A)).1.getD 0 0 : Int) = 0
  rw [e]; rfl
/-- step by step -/
theorem rep_step (hA : A.Ok) {k : Int} (hk : St (minA A) k) {b : Nat} (hb : b < 256) : val (blocksF A) (rep A (dt (minA A) k b)) = val (blocksF A) (dt A (rep A k) b) := by
  by_cases c : k < 0
  · unfold dt rep; rw [if_pos c, if_pos c]; rfl
  · have hkl : k.toNat < (minA A).n := by unfold St at hk; omega
    have hr := min_rows hA hkl hb
    have hq : (minF A (blocksF A)).1.getD k.toNat 0 = (rep A k).toNat := by unfold rep; rw [if_neg c]; rfl
    have hneg : ¬ rep A k < 0 := by unfold rep; rw [if_neg c]; omega
    have e1 : dt (minA A) k b = (minA A).d k.toNat b := by unfold dt; rw [if_neg c]
    have e2 : dt A (rep A k) b = A.d (rep A k).toNat b := by unfold dt; rw [if_neg hneg]
    rw [hq] at hr
    rw [e1, e2]
    by_cases c2 : val (blocksF A) (A.d (rep A k).toNat b) = 0
    · rw [hr.1 c2, c2]; rfl
    · obtain ⟨r1, r2⟩ := hr.2 c2
      have hlt := idx_lt r1
      rw [r2]
      generalize hv : val (blocksF A) (A.d (rep A k).toNat b) = v at *
      have hg := idx_get hlt
      rw [List.length_map] at hlt
      rw [List.getElem_map] at hg
      unfold rep
      rw [if_neg (by omega), Int.toNat_natCast]
      show val (blocksF A) (((minF A (blocksF A)).1.getD (idx ((minF A (blocksF A)).1.map (blocksF A)) v) 0 : Nat) : Int) = v
      unfold val
      rw [if_neg (by omega), Int.toNat_natCast, List.getD_eq_getElem?_getD, List.getElem?_eq_getElem hlt]
      exact hg
/-- state k of the smallest one tells what its state of A tells -/
theorem min_tells (hA : A.Ok) : ∀ (s : List UInt8) {k : Int}, St (minA A) k → tg (minA A) (go (minA A) k s) = tg A (go A (rep A k) s)
  | [], k, hk => by
    unfold go tg rep
    by_cases c : k < 0
    · rw [if_pos c, if_pos c]; rfl
    · rw [if_neg c, if_neg c, if_neg (by omega), Int.toNat_natCast]
      exact min_tag (by unfold St at hk; omega)
  | b :: s, k, hk => by
    have hb := b.toNat_lt
    have h1 := min_tells hA s (st_dt (minA_ok hA) hk hb)
    have h2 : same A (rep A (dt (minA A) k b.toNat)) (dt A (rep A k) b.toNat) := ((blocks_of hA).same hA (rep_st hA (st_dt (minA_ok hA) hk hb)) (st_dt hA (rep_st hA hk) hb)).1 (rep_step hA hk hb)
    show tg (minA A) (go (minA A) (dt (minA A) k b.toNat) s) = tg A (go A (dt A (rep A k) b.toNat) s)
    rw [h1]; exact h2 s
theorem min_means (hA : A.Ok) (s : List UInt8) : tg (minA A) (go (minA A) 0 s) = tg A (go A 0 s) := by
  have := min_tells hA s (k := 0) ⟨by omega, by have := (minA_ok hA).pos; omega⟩
  rwa [rep0 hA] at this
end
end Go.Proofs.YtkcnoompimohnaaDoor.smallL

/- SmU -/
namespace Go.Proofs.YtkcnoompimohnaaDoor.smallL
section
variable {A B : Aut}
def sameAB (A B : Aut) (q r : Int) : Prop := ∀ s, tg A (go A q s) = tg B (go B r s)
theorem sameAB.step {q r : Int} (h : sameAB A B q r) (b : Nat) (hb : b < 256) : sameAB A B (dt A q b) (dt B r b) := fun s => by
  have := h (UInt8.ofNat b :: s)
  have e : (UInt8.ofNat b).toNat = b := by simp; omega
  simp only [go, e] at this
  exact this
theorem val_nat (f : Nat → Nat) (q : Nat) : val f (q : Int) = f q := by unfold val; rw [if_neg (by omega), Int.toNat_natCast]
end
end Go.Proofs.YtkcnoompimohnaaDoor.smallL

/- PlacesG -/
namespace Go.Proofs.YtkcnoompimohnaaDoor.placesL
open classL rexL
/-- how many places -/
def npl : Re → Nat
  | .byte _ => 1
  | .cat a b => npl a + npl b
  | .alt a b => npl a + npl b
  | .star a => npl a
  | _ => 0
def empL : Re → Bool
  | .empty => true
  | .star _ => true
  | .cat a b => empL a && empL b
  | .alt a b => empL a || empL b
  | _ => false
def clsP : Re → List C4
  | .byte c => [c]
  | .cat a b => clsP a ++ clsP b
  | .alt a b => clsP a ++ clsP b
  | .star a => clsP a
  | _ => []
theorem clsP_len : ∀ e : Re, (clsP e).length = npl e
  | .none => rfl
  | .empty => rfl
  | .byte _ => rfl
  | .cat a b => by rw [clsP, npl, List.length_append, clsP_len a, clsP_len b]
  | .alt a b => by rw [clsP, npl, List.length_append, clsP_len a, clsP_len b]
  | .star a => by rw [clsP, npl, clsP_len a]
def Fst : Re → Nat → Nat → Prop
  | .byte _, n, x => x = n
  | .cat a b, n, x => Fst a n x ∨ (empL a = true ∧ Fst b (n + npl a) x)
  | .alt a b, n, x => Fst a n x ∨ Fst b (n + npl a) x
  | .star a, n, x => Fst a n x
  | .none, _, _ => False
  | .empty, _, _ => False
def Lst : Re → Nat → Nat → Prop
  | .byte _, n, x => x = n
  | .cat a b, n, x => Lst b (n + npl a) x ∨ (empL b = true ∧ Lst a n x)
  | .alt a b, n, x => Lst a n x ∨ Lst b (n + npl a) x
  | .star a, n, x => Lst a n x
  | .none, _, _ => False
  | .empty, _, _ => False
def Fol : Re → Nat → Nat → Nat → Prop
  | .cat a b, n, x, y => Fol a n x y ∨ Fol b (n + npl a) x y ∨ (Lst a n x ∧ Fst b (n + npl a) y)
  | .alt a b, n, x, y => Fol a n x y ∨ Fol b (n + npl a) x y
  | .star a, n, x, y => Fol a n x y ∨ (Lst a n x ∧ Fst a n y)
  | .byte _, _, _, _ => False
  | .none, _, _, _ => False
  | .empty, _, _, _ => False
theorem fst_in : ∀ (e : Re) {n x : Nat}, Fst e n x → n ≤ x ∧ x < n + npl e
  | .none, _, _, h => h.elim
  | .empty, _, _, h => h.elim
  | .byte _, n, x, h => by
    have h : x = n := h
    simp only [npl]; omega
  | .cat a b, n, x, h => by
    simp only [npl]
    rcases h with h | ⟨_, h⟩
    · have := fst_in a h; omega
    · have := fst_in b h; omega
  | .alt a b, n, x, h => by
    simp only [npl]
    rcases h with h | h
    · have := fst_in a h; omega
    · have := fst_in b h; omega
  | .star a, n, x, h => fst_in a h
theorem lst_in : ∀ (e : Re) {n x : Nat}, Lst e n x → n ≤ x ∧ x < n + npl e
  | .none, _, _, h => h.elim
  | .empty, _, _, h => h.elim
  | .byte _, n, x, h => by
    have h : x = n := h
    simp only [npl]; omega
  | .cat a b, n, x, h => by
    simp only [npl]
    rcases h with h | ⟨_, h⟩
    · have := lst_in b h; omega
    · have := lst_in a h; omega
  | .alt a b, n, x, h => by
    simp only [npl]
    rcases h with h | h
    · have := lst_in a h; omega
    · have := lst_in b h; omega
  | .star a, n, x, h => lst_in a h
theorem fol_in : ∀ (e : Re) {n x y : Nat}, Fol e n x y → (n ≤ x ∧ x < n + npl e) ∧ n ≤ y ∧ y < n + npl e
  | .none, _, _, _, h => h.elim
  | .empty, _, _, _, h => h.elim
  | .byte _, _, _, _, h => h.elim
  | .cat a b, n, x, y, h => by
    simp only [npl]
    rcases h with h | h | ⟨h, h'⟩
    · have := fol_in a h; omega
    · have := fol_in b h; omega
    · have := lst_in a h; have := fst_in b h'; omega
  | .alt a b, n, x, y, h => by
    simp only [npl]
    rcases h with h | h
    · have := fol_in a h; omega
    · have := fol_in b h; omega
  | .star a, n, x, y, h => by
    rcases h with h | ⟨h, h'⟩
    · exact fol_in a h
    · exact ⟨lst_in a h, fst_in a h'⟩
/-! ### words of places -/
inductive StarW (P : List Nat → Prop) : List Nat → Prop
  | nil : StarW P []
  | cons {u v : List Nat} : P u → StarW P v → StarW P (u ++ v)
def Wd : Re → Nat → List Nat → Prop
  | .none, _, _ => False
  | .empty, _, l => l = []
  | .byte _, n, l => l = [n]
  | .cat a b, n, l => ∃ u v, l = u ++ v ∧ Wd a n u ∧ Wd b (n + npl a) v
  | .alt a b, n, l => Wd a n l ∨ Wd b (n + npl a) l
  | .star a, n, l => StarW (Wd a n) l
/-- places one behind the other, up to one that may be the last -/
def Chn (F : Nat → Nat → Prop) (T : Nat → Prop) : Nat → List Nat → Prop
  | x, [] => T x
  | x, y :: r => F x y ∧ Chn F T y r
theorem Chn.mono {F F' : Nat → Nat → Prop} {T T' : Nat → Prop} (hF : ∀ x y, F x y → F' x y) (hT : ∀ x, T x → T' x) : ∀ {l : List Nat} {x : Nat}, Chn F T x l → Chn F' T' x l
  | [], _, h => hT _ h
  | _ :: _, _, ⟨h, h'⟩ => ⟨hF _ _ h, Chn.mono hF hT h'⟩
/-- one chain behind the other -/
theorem Chn.app {F F' : Nat → Nat → Prop} {T T' : Nat → Prop} (hF : ∀ x y, F x y → F' x y) {y : Nat} {r : List Nat} (hT : ∀ x, T x → F' x y) (hr : Chn F' T' y r) : ∀ {l : List Nat} {x : Nat}, Chn F T x l → Chn F' T' x (l ++ y :: r)
  | [], _, h => ⟨hT _ h, hr⟩
  | _ :: _, _, ⟨h, h'⟩ => ⟨hF _ _ h, Chn.app hF hT hr h'⟩
/-- GLUSHKOV: words of places are those that begin, go on and end as they may -/
theorem word_iff : ∀ (e : Re) (n : Nat), (Wd e n [] ↔ empL e = true) ∧ ∀ x l, Wd e n (x :: l) ↔ Fst e n x ∧ Chn (Fol e n) (Lst e n) x l
  | .none, n => ⟨⟨fun h => h.elim, fun h => by cases h⟩, fun x l => ⟨fun h => h.elim, fun h => h.1.elim⟩⟩
  | .empty, n => ⟨⟨fun _ => rfl, fun _ => rfl⟩, fun x l => ⟨fun h => (by cases (show x :: l = [] from h)), fun h => h.1.elim⟩⟩
  | .byte c, n => ⟨⟨fun h => (by cases (show ([] : List Nat) = [n] from h)), fun h => (by cases h)⟩, fun x l => ⟨fun h => (by cases (show x :: l = [n] from h); exact ⟨rfl, rfl⟩), fun ⟨h1, h2⟩ => by
      cases l with
      | nil => rw [show x = n from h1]; rfl
      | cons y r => exact h2.1.elim⟩⟩
  | .alt a b, n => by
    obtain ⟨a0, a1⟩ := word_iff a n
    obtain ⟨b0, b1⟩ := word_iff b (n + npl a)
    refine ⟨?_, fun x l => ?_⟩
    · show Wd a n [] ∨ Wd b (n + npl a) [] ↔ (empL a || empL b) = true
      rw [a0, b0, Bool.or_eq_true]
    · show Wd a n (x :: l) ∨ Wd b (n + npl a) (x :: l) ↔ _
      rw [a1, b1]
      constructor
      · rintro (⟨h, h'⟩ | ⟨h, h'⟩)
        · exact ⟨.inl h, h'.mono (fun _ _ => .inl) fun _ => .inl⟩
        · exact ⟨.inr h, h'.mono (fun _ _ => .inr) fun _ => .inr⟩
      · rintro ⟨h, h'⟩
        have key : ∀ l x, Chn (Fol (.alt a b) n) (Lst (.alt a b) n) x l → ((n ≤ x ∧ x < n + npl a) ∧ Chn (Fol a n) (Lst a n) x l) ∨ ((n + npl a ≤ x) ∧ Chn (Fol b (n + npl a)) (Lst b (n + npl a)) x l) := by
          intro l
          induction l with
          | nil =>
            rintro x (h | h)
            · exact .inl ⟨lst_in a h, h⟩
            · exact .inr ⟨(lst_in b h).1, h⟩
          | cons y r ih =>
            rintro x ⟨h, h'⟩
            rcases h with h | h
            · have hi := fol_in a h
              rcases ih y h' with ⟨q, q'⟩ | ⟨q, q'⟩
              · exact .inl ⟨hi.1, h, q'⟩
              · omega
            · have hi := fol_in b h
              rcases ih y h' with ⟨q, q'⟩ | ⟨q, q'⟩
              · omega
              · exact .inr ⟨hi.1.1, h, q'⟩
        rcases key l x h' with ⟨q, q'⟩ | ⟨q, q'⟩
        · rcases h with h | h
          · exact .inl ⟨h, q'⟩
          · have := fst_in b h; omega
        · rcases h with h | h
          · have := fst_in a h; omega
          · exact .inr ⟨h, q'⟩
  | .cat a b, n => by
    obtain ⟨a0, a1⟩ := word_iff a n
    obtain ⟨b0, b1⟩ := word_iff b (n + npl a)
    refine ⟨?_, fun x l => ?_⟩
    · show (∃ u v, [] = u ++ v ∧ Wd a n u ∧ Wd b (n + npl a) v) ↔ (empL a && empL b) = true
      rw [Bool.and_eq_true, ← a0, ← b0]
      constructor
      · rintro ⟨u, v, h, h1, h2⟩
        obtain ⟨rfl, rfl⟩ := List.append_eq_nil_iff.1 h.symm
        exact ⟨h1, h2⟩
      · rintro ⟨h1, h2⟩; exact ⟨[], [], rfl, h1, h2⟩
    · show (∃ u v, x :: l = u ++ v ∧ Wd a n u ∧ Wd b (n + npl a) v) ↔ _
      constructor
      · rintro ⟨u, v, h, h1, h2⟩
        cases u with
        | nil =>
          have h : x :: l = v := h
          subst h
          obtain ⟨q1, q2⟩ := (b1 x l).1 h2
          exact ⟨.inr ⟨a0.1 h1, q1⟩, q2.mono (fun _ _ h => .inr (.inl h)) fun _ => .inl⟩
        | cons z u =>
          obtain ⟨rfl, rfl⟩ : x = z ∧ l = u ++ v := by cases h; exact ⟨rfl, rfl⟩
          obtain ⟨q1, q2⟩ := (a1 x u).1 h1
          refine ⟨.inl q1, ?_⟩
          cases v with
          | nil =>
            rw [List.append_nil]
            exact q2.mono (fun _ _ => .inl) fun _ h => .inr ⟨b0.1 h2, h⟩
          | cons y r =>
            obtain ⟨q3, q4⟩ := (b1 y r).1 h2
            exact Chn.app (F' := Fol (.cat a b) n) (T' := Lst (.cat a b) n) (fun _ _ h => .inl h) (fun _ h => .inr (.inr ⟨h, q3⟩)) (q4.mono (fun _ _ h => .inr (.inl h)) fun _ h => .inl h) q2
      · rintro ⟨h, h'⟩
        have key : ∀ l x, Chn (Fol (.cat a b) n) (Lst (.cat a b) n) x l → ((n ≤ x ∧ x < n + npl a) ∧ ∃ u v, l = u ++ v ∧ Chn (Fol a n) (Lst a n) x u ∧ Wd b (n + npl a) v) ∨ ((n + npl a ≤ x) ∧ Chn (Fol b (n + npl a)) (Lst b (n + npl a)) x l) := by
          intro l
          induction l with
          | nil =>
            rintro x (h | ⟨h0, h⟩)
            · exact .inr ⟨(lst_in b h).1, h⟩
            · exact .inl ⟨lst_in a h, [], [], rfl, h, b0.2 h0⟩
          | cons y r ih =>
            rintro x ⟨h, h'⟩
            rcases h with h | h | ⟨h, h2⟩
            · have hi := fol_in a h
              rcases ih y h' with ⟨q, u, v, rfl, q1, q2⟩ | ⟨q, q'⟩
              · exact .inl ⟨hi.1, y :: u, v, rfl, ⟨h, q1⟩, q2⟩
              · omega
            · have hi := fol_in b h
              rcases ih y h' with ⟨q, _⟩ | ⟨q, q'⟩
              · omega
              · exact .inr ⟨hi.1.1, h, q'⟩
            · have hi := lst_in a h
              have hj := fst_in b h2
              rcases ih y h' with ⟨q, _⟩ | ⟨q, q'⟩
              · omega
              · exact .inl ⟨hi, [], y :: r, rfl, h, (b1 y r).2 ⟨h2, q'⟩⟩
        rcases key l x h' with ⟨q, u, v, rfl, q1, q2⟩ | ⟨q, q'⟩
        · rcases h with h | ⟨_, h⟩
          · exact ⟨x :: u, v, rfl, (a1 x u).2 ⟨h, q1⟩, q2⟩
          · have := fst_in b h; omega
        · rcases h with h | ⟨h0, h⟩
          · have := fst_in a h; omega
          · exact ⟨[], x :: l, rfl, a0.2 h0, (b1 x l).2 ⟨h, q'⟩⟩
  | .star a, n => by
    obtain ⟨a0, a1⟩ := word_iff a n
    refine ⟨⟨fun _ => rfl, fun _ => .nil⟩, fun x l => ?_⟩
    show StarW (Wd a n) (x :: l) ↔ _
    constructor
    · intro h
      have key : ∀ L, StarW (Wd a n) L → ∀ x l, L = x :: l → Fst a n x ∧ Chn (Fol (.star a) n) (Lst (.star a) n) x l := by
        intro L hL
        induction hL with
        | nil => intro x l h; cases h
        | @cons u v hu hv ih =>
          intro x l h
          cases u with
          | nil => exact ih x l h
          | cons z u =>
            obtain ⟨rfl, rfl⟩ : z = x ∧ u ++ v = l := by cases h; exact ⟨rfl, rfl⟩
            obtain ⟨q1, q2⟩ := (a1 z u).1 hu
            refine ⟨q1, ?_⟩
            cases v with
            | nil => rw [List.append_nil]; exact q2.mono (fun _ _ => .inl) fun _ h => h
            | cons y r =>
              obtain ⟨q3, q4⟩ := ih y r rfl
              exact Chn.app (F' := Fol (.star a) n) (T' := Lst (.star a) n) (fun _ _ h => .inl h) (fun _ h => .inr ⟨h, q3⟩) q4 q2
      exact key _ h x l rfl
    · rintro ⟨h, h'⟩
      have key : ∀ l x, Chn (Fol (.star a) n) (Lst (.star a) n) x l → ∃ u v, l = u ++ v ∧ Chn (Fol a n) (Lst a n) x u ∧ StarW (Wd a n) v := by
        intro l
        induction l with
        | nil => intro x h; exact ⟨[], [], rfl, h, .nil⟩
        | cons y r ih =>
          rintro x ⟨h, h'⟩
          obtain ⟨u, v, rfl, q1, q2⟩ := ih y h'
          rcases h with h | ⟨h, h2⟩
          · exact ⟨y :: u, v, rfl, ⟨h, q1⟩, q2⟩
          · exact ⟨[], y :: u ++ v, rfl, h, .cons ((a1 y u).2 ⟨h2, q1⟩) q2⟩
      obtain ⟨u, v, rfl, q1, q2⟩ := key l x h'
      exact .cons (u := x :: u) ((a1 x u).2 ⟨h, q1⟩) q2
/-! ### texts -/
/-- each place's class has its byte -/
def Mt (K : Nat → Nat → Prop) : List UInt8 → List Nat → Prop
  | [], [] => True
  | b :: s, x :: l => K x b.toNat ∧ Mt K s l
  | _, _ => False
theorem mt_app {K : Nat → Nat → Prop} : ∀ {s : List UInt8} {l : List Nat} {s' : List UInt8} {l' : List Nat}, Mt K s l → Mt K s' l' → Mt K (s ++ s') (l ++ l')
  | [], [], _, _, _, h' => h'
  | b :: s, x :: l, _, _, ⟨h, h1⟩, h' => ⟨h, mt_app h1 h'⟩
  | [], x :: l, _, _, h, _ => h.elim
  | b :: s, [], _, _, h, _ => h.elim
theorem mt_cut {K : Nat → Nat → Prop} : ∀ {l : List Nat} {s : List UInt8} {l' : List Nat}, Mt K s (l ++ l') → ∃ u v, s = u ++ v ∧ Mt K u l ∧ Mt K v l'
  | [], s, _, h => ⟨[], s, rfl, trivial, h⟩
  | x :: l, [], _, h => h.elim
  | x :: l, b :: s, _, ⟨h, h'⟩ => by
    obtain ⟨u, v, rfl, h1, h2⟩ := mt_cut h'
    exact ⟨b :: u, v, rfl, ⟨h, h1⟩, h2⟩
/-- the classes are those of the places -/
def Ag (K : Nat → Nat → Prop) : Re → Nat → Prop
  | .byte c, n => ∀ b, K n b ↔ c.mem b = true
  | .cat a b, n => Ag K a n ∧ Ag K b (n + npl a)
  | .alt a b, n => Ag K a n ∧ Ag K b (n + npl a)
  | .star a, n => Ag K a n
  | _, _ => True
theorem lang_iff {K : Nat → Nat → Prop} : ∀ (e : Re) (n : Nat) (s : List UInt8), Ag K e n → (Lang e s ↔ ∃ l, Wd e n l ∧ Mt K s l)
  | .none, n, s, _ => ⟨fun h => h.elim, fun ⟨_, h, _⟩ => h.elim⟩
  | .empty, n, s, _ => by
    constructor
    · intro h; rw [show s = [] from h]; exact ⟨[], rfl, trivial⟩
    · rintro ⟨l, h, h'⟩
      rw [show l = [] from h] at h'
      cases s with
      | nil => rfl
      | cons b s => exact h'.elim
  | .byte c, n, s, hK => by
    have hK : ∀ b, K n b ↔ c.mem b = true := hK
    constructor
    · rintro ⟨b, rfl, h⟩
      exact ⟨[n], rfl, (hK _).2 h, trivial⟩
    · rintro ⟨l, h, h'⟩
      rw [show l = [n] from h] at h'
      match s, h' with
      | [b], ⟨h1, _⟩ => exact ⟨b, rfl, (hK _).1 h1⟩
  | .cat a b, n, s, hK => by
    constructor
    · rintro ⟨u, v, rfl, h1, h2⟩
      obtain ⟨l1, q1, q2⟩ := (lang_iff a n u hK.1).1 h1
      obtain ⟨l2, q3, q4⟩ := (lang_iff b (n + npl a) v hK.2).1 h2
      exact ⟨l1 ++ l2, ⟨l1, l2, rfl, q1, q3⟩, mt_app q2 q4⟩
    · rintro ⟨l, ⟨l1, l2, rfl, q1, q3⟩, h⟩
      obtain ⟨u, v, rfl, h1, h2⟩ := mt_cut h
      exact ⟨u, v, rfl, (lang_iff a n u hK.1).2 ⟨l1, q1, h1⟩, (lang_iff b (n + npl a) v hK.2).2 ⟨l2, q3, h2⟩⟩
  | .alt a b, n, s, hK => by
    show Lang a s ∨ Lang b s ↔ ∃ l, (Wd a n l ∨ Wd b (n + npl a) l) ∧ Mt K s l
    rw [lang_iff a n s hK.1, lang_iff b (n + npl a) s hK.2]
    constructor
    · rintro (⟨l, h, h'⟩ | ⟨l, h, h'⟩)
      · exact ⟨l, .inl h, h'⟩
      · exact ⟨l, .inr h, h'⟩
    · rintro ⟨l, h | h, h'⟩
      · exact .inl ⟨l, h, h'⟩
      · exact .inr ⟨l, h, h'⟩
  | .star a, n, s, hK => by
    have ih := fun s => lang_iff a n s hK
    constructor
    · intro h
      have key : ∀ s, Star (Lang a) s → ∃ l, StarW (Wd a n) l ∧ Mt K s l := by
        intro s h
        induction h with
        | nil => exact ⟨[], .nil, trivial⟩
        | @cons u v hu hv ih2 =>
          obtain ⟨l1, q1, q2⟩ := (ih u).1 hu
          obtain ⟨l2, q3, q4⟩ := ih2
          exact ⟨l1 ++ l2, .cons q1 q3, mt_app q2 q4⟩
      exact key s h
    · rintro ⟨l, h, h'⟩
      have key : ∀ l, StarW (Wd a n) l → ∀ s, Mt K s l → Star (Lang a) s := by
        intro l h
        induction h with
        | nil =>
          intro s h'
          cases s with
          | nil => exact .nil
          | cons b s => exact h'.elim
        | @cons u v hu hv ih2 =>
          intro s h'
          obtain ⟨s1, s2, rfl, h1, h2⟩ := mt_cut h'
          exact .cons ((ih s1).2 ⟨u, hu, h1⟩) (ih2 s2 h2)
      exact key l h s h'
/-! ### sets of places, byte by byte -/
def stepS (F K : Nat → Nat → Prop) (S : Nat → Prop) (b : UInt8) : Nat → Prop := fun y => (∃ x, S x ∧ F x y) ∧ K y b.toNat
def runS (F K : Nat → Nat → Prop) (I : Nat → Prop) : List UInt8 → Nat → Prop
  | [] => fun _ => False
  | b :: s => s.foldl (stepS F K) fun y => I y ∧ K y b.toNat
theorem foldS_iff {F K : Nat → Nat → Prop} {T : Nat → Prop} : ∀ (s : List UInt8) (S : Nat → Prop), (∃ x, s.foldl (stepS F K) S x ∧ T x) ↔ ∃ x, S x ∧ ∃ l, Mt K s l ∧ Chn F T x l
  | [], S => by
    constructor
    · rintro ⟨x, h, h'⟩; exact ⟨x, h, [], trivial, h'⟩
    · rintro ⟨x, h, l, h1, h2⟩
      cases l with
      | nil => exact ⟨x, h, h2⟩
      | cons y r => exact h1.elim
  | b :: s, S => by
    rw [List.foldl_cons, foldS_iff s]
    constructor
    · rintro ⟨y, ⟨⟨x, h1, h2⟩, h3⟩, l, h4, h5⟩
      exact ⟨x, h1, y :: l, ⟨h3, h4⟩, h2, h5⟩
    · rintro ⟨x, h, l, h1, h2⟩
      cases l with
      | nil => exact h1.elim
      | cons y r => exact ⟨y, ⟨⟨x, h, h2.1⟩, h1.1⟩, r, h1.2, h2.2⟩
theorem runS_iff {F K : Nat → Nat → Prop} {I T : Nat → Prop} {s : List UInt8} (hs : s ≠ []) : (∃ x, runS F K I s x ∧ T x) ↔ ∃ x l, Mt K s (x :: l) ∧ I x ∧ Chn F T x l := by
  cases s with
  | nil => exact absurd rfl hs
  | cons b s =>
    show (∃ x, s.foldl (stepS F K) (fun y => I y ∧ K y b.toNat) x ∧ T x) ↔ _
    rw [foldS_iff]
    constructor
    · rintro ⟨x, ⟨h1, h2⟩, l, h3, h4⟩; exact ⟨x, l, ⟨h2, h3⟩, h1, h4⟩
    · rintro ⟨x, l, ⟨h2, h3⟩, h1, h4⟩; exact ⟨x, ⟨h1, h2⟩, l, h3, h4⟩
/-- one expression -/
theorem runS_lang {K : Nat → Nat → Prop} {e : Re} {n : Nat} (hK : Ag K e n) {s : List UInt8} (hs : s ≠ []) : (∃ x, runS (Fol e n) K (Fst e n) s x ∧ Lst e n x) ↔ Lang e s := by
  rw [runS_iff hs, lang_iff e n s hK]
  constructor
  · rintro ⟨x, l, h1, h2, h3⟩; exact ⟨x :: l, ((word_iff e n).2 x l).2 ⟨h2, h3⟩, h1⟩
  · rintro ⟨l, h1, h2⟩
    cases l with
    | nil =>
      cases s with
      | nil => exact absurd rfl hs
      | cons b s => exact h2.elim
    | cons x l =>
      obtain ⟨q1, q2⟩ := ((word_iff e n).2 x l).1 h1
      exact ⟨x, l, h2, q1, q2⟩
theorem lang_nil : ∀ e : Re, Lang e [] ↔ empL e = true
  | .none => ⟨fun h => h.elim, fun h => by cases h⟩
  | .empty => ⟨fun _ => rfl, fun _ => rfl⟩
  | .byte c => ⟨fun ⟨b, h, _⟩ => (by cases h), fun h => by cases h⟩
  | .cat a b => by
    show (∃ u v, [] = u ++ v ∧ Lang a u ∧ Lang b v) ↔ (empL a && empL b) = true
    rw [Bool.and_eq_true, ← lang_nil a, ← lang_nil b]
    constructor
    · rintro ⟨u, v, h, h1, h2⟩
      obtain ⟨rfl, rfl⟩ := List.append_eq_nil_iff.1 h.symm
      exact ⟨h1, h2⟩
    · rintro ⟨h1, h2⟩; exact ⟨[], [], rfl, h1, h2⟩
  | .alt a b => by
    show Lang a [] ∨ Lang b [] ↔ (empL a || empL b) = true
    rw [Bool.or_eq_true, ← lang_nil a, ← lang_nil b]
  | .star a => ⟨fun _ => rfl, fun _ => .nil⟩
end Go.Proofs.YtkcnoompimohnaaDoor.placesL

/- PlacesH -/
namespace Go.Proofs.YtkcnoompimohnaaDoor.placesL
open classL rexL
theorem behind_get {first : List Int} : ∀ (last : List Int) (fol : List (List Int)) (x : Nat) (y : Int), (∀ z ∈ last, 0 ≤ z ∧ z < fol.length) → (y ∈ (behindF fol last first).getD x [] ↔ y ∈ fol.getD x [] ∨ ((x : Int) ∈ last ∧ y ∈ first))
  | [], fol, x, y, _ => ⟨.inl, fun h => h.elim id fun h => by cases h.1⟩
  | z :: last, fol, x, y, h => by
    have hz := h z (List.mem_cons_self ..)
    show y ∈ (behindF (fol.set z.toNat (uni (fol.getD z.toNat []) first)) last first).getD x [] ↔ _
    rw [behind_get last _ x y (fun q hq => by rw [List.length_set]; exact h q (List.mem_cons_of_mem _ hq)), set_getD]
    by_cases c : z.toNat = x ∧ x < fol.length
    · rw [if_pos c, (uni_law _ _).2, c.1]
      have hzx : (x : Int) = z := by omega
      constructor
      · rintro ((h1 | h1) | ⟨h1, h2⟩)
        · exact .inl h1
        · exact .inr ⟨by rw [hzx]; exact List.mem_cons_self .., h1⟩
        · exact .inr ⟨List.mem_cons_of_mem _ h1, h2⟩
      · rintro (h1 | ⟨_, h2⟩)
        · exact .inl (.inl h1)
        · exact .inl (.inr h2)
    · rw [if_neg c]
      have hne : (x : Int) ≠ z := fun e => c ⟨by omega, by omega⟩
      constructor
      · rintro (h1 | ⟨h1, h2⟩)
        · exact .inl h1
        · exact .inr ⟨List.mem_cons_of_mem _ h1, h2⟩
      · rintro (h1 | ⟨h1, h2⟩)
        · exact .inl h1
        · rcases List.mem_cons.1 h1 with e | e
          · exact absurd e hne
          · exact .inr ⟨e, h2⟩
structure NodeL (rule : Int) (e : Re) (p : PS) (R : Shape × PS) : Prop where
  cls : R.2.classes = p.classes ++ clsP e
  rules : R.2.rules = p.rules ++ List.replicate (npl e) rule
  lasts : R.2.last = p.last ++ List.replicate (npl e) false
  empty : R.1.empty = empL e
  first : ∀ x : Int, x ∈ R.1.first ↔ ∃ k : Nat, x = k ∧ Fst e p.classes.length k
  last : ∀ x : Int, x ∈ R.1.last ↔ ∃ k : Nat, x = k ∧ Lst e p.classes.length k
  follow : ∀ (x : Nat) (y : Int), y ∈ R.2.follow.getD x [] ↔ y ∈ p.follow.getD x [] ∨ ∃ k : Nat, y = k ∧ Fol e p.classes.length x k
theorem node_law (rule : Int) : ∀ (e : Re) (p : PS), PSOk p → NodeL rule e p (nodeF rule e p)
  | .empty, p, _ => ⟨(List.append_nil _).symm, (List.append_nil _).symm, (List.append_nil _).symm, rfl, fun x => ⟨fun h => (by cases h), fun ⟨_, _, h⟩ => h.elim⟩, fun x => ⟨fun h => (by cases h), fun ⟨_, _, h⟩ => h.elim⟩, fun x y => ⟨.inl, fun h => h.elim id fun ⟨_, _, h⟩ => h.elim⟩⟩
  | .none, p, _ => ⟨(List.append_nil _).symm, (List.append_nil _).symm, (List.append_nil _).symm, rfl, fun x => ⟨fun h => (by cases h), fun ⟨_, _, h⟩ => h.elim⟩, fun x => ⟨fun h => (by cases h), fun ⟨_, _, h⟩ => h.elim⟩, fun x y => ⟨.inl, fun h => h.elim id fun ⟨_, _, h⟩ => h.elim⟩⟩
  | .byte c, p, hp => by
    have h1 : ∀ x : Int, x ∈ [(p.classes.length : Int)] ↔ ∃ k : Nat, x = k ∧ k = p.classes.length := fun x => by
      rw [List.mem_singleton]
      exact ⟨fun h => ⟨_, h, rfl⟩, fun ⟨k, h, h'⟩ => by rw [h, h']⟩
    refine ⟨rfl, rfl, rfl, rfl, h1, h1, fun x y => ?_⟩
    show y ∈ (p.follow ++ [[]]).getD x [] ↔ _
    have e : (p.follow ++ [[]]).getD x [] = p.follow.getD x [] := by
      rw [List.getD_eq_getElem?_getD, List.getD_eq_getElem?_getD]
      by_cases c1 : x < p.follow.length
      · rw [List.getElem?_append_left c1]
      · rw [List.getElem?_append_right (by omega), List.getElem?_eq_none (l := p.follow) (by omega)]
        by_cases c2 : x - p.follow.length = 0
        · rw [c2]; rfl
        · rw [List.getElem?_eq_none (by simp; omega)]
    rw [e]
    exact ⟨.inl, fun h => h.elim id fun ⟨_, _, h⟩ => h.elim⟩
  | .star a, p, hp => by
    have ha := node_law rule a p hp
    obtain ⟨k1, k2, k3, k4, k5⟩ := node_ok rule a p hp
    refine ⟨ha.cls, ha.rules, ha.lasts, rfl, ha.first, ha.last, fun x y => ?_⟩
    show y ∈ (behindF _ _ _).getD x [] ↔ _
    rw [behind_get _ _ x y (fun z hz => by have := k5.2 z hz; rw [k1.follow]; exact this), ha.follow, ha.last, ha.first]
    constructor
    · rintro ((h | ⟨k, h, h'⟩) | ⟨⟨k, h1, h2⟩, q, h3, h4⟩)
      · exact .inl h
      · exact .inr ⟨k, h, .inl h'⟩
      · obtain rfl : x = k := by omega
        exact .inr ⟨q, h3, .inr ⟨h2, h4⟩⟩
    · rintro (h | ⟨k, h, h' | ⟨h1, h2⟩⟩)
      · exact .inl (.inl h)
      · exact .inl (.inr ⟨k, h, h'⟩)
      · exact .inr ⟨⟨x, rfl, h1⟩, k, h, h2⟩
  | .alt a b, p, hp => by
    have ha := node_law rule a p hp
    obtain ⟨k1, k2, k3, k4, k5⟩ := node_ok rule a p hp
    have hb := node_law rule b _ k1
    have hn : (nodeF rule a p).2.classes.length = p.classes.length + npl a := by rw [ha.cls, List.length_append, clsP_len]
    have b5 := hb.first
    have b6 := hb.last
    have b7 := hb.follow
    rw [hn] at b5 b6 b7
    refine ⟨?_, ?_, ?_, ?_, fun x => ?_, fun x => ?_, fun x y => ?_⟩
    · exact hb.cls.trans (by rw [ha.cls, List.append_assoc]; rfl)
    · exact hb.rules.trans (by rw [ha.rules, List.append_assoc, List.replicate_append_replicate]; rfl)
    · exact hb.lasts.trans (by rw [ha.lasts, List.append_assoc, List.replicate_append_replicate]; rfl)
    · show ((nodeF rule a p).1.empty || (nodeF rule b (nodeF rule a p).2).1.empty) = _
      rw [ha.empty, hb.empty]; rfl
    · show x ∈ uni _ _ ↔ _
      rw [(uni_law _ _).2, ha.first, b5]
      constructor
      · rintro (⟨k, h, h'⟩ | ⟨k, h, h'⟩)
        · exact ⟨k, h, .inl h'⟩
        · exact ⟨k, h, .inr h'⟩
      · rintro ⟨k, h, h' | h'⟩
        · exact .inl ⟨k, h, h'⟩
        · exact .inr ⟨k, h, h'⟩
    · show x ∈ uni _ _ ↔ _
      rw [(uni_law _ _).2, ha.last, b6]
      constructor
      · rintro (⟨k, h, h'⟩ | ⟨k, h, h'⟩)
        · exact ⟨k, h, .inl h'⟩
        · exact ⟨k, h, .inr h'⟩
      · rintro ⟨k, h, h' | h'⟩
        · exact .inl ⟨k, h, h'⟩
        · exact .inr ⟨k, h, h'⟩
    · show y ∈ (nodeF rule b (nodeF rule a p).2).2.follow.getD x [] ↔ _
      rw [b7, ha.follow]
      constructor
      · rintro ((h | ⟨k, h, h'⟩) | ⟨k, h, h'⟩)
        · exact .inl h
        · exact .inr ⟨k, h, .inl h'⟩
        · exact .inr ⟨k, h, .inr h'⟩
      · rintro (h | ⟨k, h, h' | h'⟩)
        · exact .inl (.inl h)
        · exact .inl (.inr ⟨k, h, h'⟩)
        · exact .inr ⟨k, h, h'⟩
  | .cat a b, p, hp => by
    have ha := node_law rule a p hp
    obtain ⟨k1, k2, k3, k4, k5⟩ := node_ok rule a p hp
    have hb := node_law rule b _ k1
    obtain ⟨l1, l2, l3, l4, l5⟩ := node_ok rule b _ k1
    have hn : (nodeF rule a p).2.classes.length = p.classes.length + npl a := by rw [ha.cls, List.length_append, clsP_len]
    have b5 := hb.first
    have b6 := hb.last
    have b7 := hb.follow
    rw [hn] at b5 b6 b7
    refine ⟨?_, ?_, ?_, ?_, fun x => ?_, fun x => ?_, fun x y => ?_⟩
    · exact hb.cls.trans (by rw [ha.cls, List.append_assoc]; rfl)
    · exact hb.rules.trans (by rw [ha.rules, List.append_assoc, List.replicate_append_replicate]; rfl)
    · exact hb.lasts.trans (by rw [ha.lasts, List.append_assoc, List.replicate_append_replicate]; rfl)
    · show ((nodeF rule a p).1.empty && (nodeF rule b (nodeF rule a p).2).1.empty) = _
      rw [ha.empty, hb.empty]; rfl
    · show x ∈ (if (nodeF rule a p).1.empty then uni _ _ else _) ↔ ∃ k : Nat, x = k ∧ (Fst a p.classes.length k ∨ (empL a = true ∧ Fst b (p.classes.length + npl a) k))
      rw [ha.empty]
      by_cases c : empL a = true
      · rw [if_pos c, (uni_law _ _).2, ha.first, b5]
        constructor
        · rintro (⟨k, h, h'⟩ | ⟨k, h, h'⟩)
          · exact ⟨k, h, .inl h'⟩
          · exact ⟨k, h, .inr ⟨c, h'⟩⟩
        · rintro ⟨k, h, h' | h'⟩
          · exact .inl ⟨k, h, h'⟩
          · exact .inr ⟨k, h, h'.2⟩
      · rw [if_neg c, ha.first]
        constructor
        · rintro ⟨k, h, h'⟩; exact ⟨k, h, .inl h'⟩
        · rintro ⟨k, h, h' | h'⟩
          · exact ⟨k, h, h'⟩
          · exact absurd h'.1 c
    · show x ∈ (if (nodeF rule b (nodeF rule a p).2).1.empty then uni _ _ else _) ↔ ∃ k : Nat, x = k ∧ (Lst b (p.classes.length + npl a) k ∨ (empL b = true ∧ Lst a p.classes.length k))
      rw [hb.empty]
      by_cases c : empL b = true
      · rw [if_pos c, (uni_law _ _).2, ha.last, b6]
        constructor
        · rintro (⟨k, h, h'⟩ | ⟨k, h, h'⟩)
          · exact ⟨k, h, .inr ⟨c, h'⟩⟩
          · exact ⟨k, h, .inl h'⟩
        · rintro ⟨k, h, h' | h'⟩
          · exact .inr ⟨k, h, h'⟩
          · exact .inl ⟨k, h, h'.2⟩
      · rw [if_neg c, b6]
        constructor
        · rintro ⟨k, h, h'⟩; exact ⟨k, h, .inl h'⟩
        · rintro ⟨k, h, h' | h'⟩
          · exact ⟨k, h, h'⟩
          · exact absurd h'.1 c
    · show y ∈ (behindF _ _ _).getD x [] ↔ _
      rw [behind_get _ _ x y (fun z hz => by have := k5.2 z hz; rw [l1.follow]; omega), b7, ha.follow, ha.last, b5]
      constructor
      · rintro (((h | ⟨k, h, h'⟩) | ⟨k, h, h'⟩) | ⟨⟨k, h1, h2⟩, q, h3, h4⟩)
        · exact .inl h
        · exact .inr ⟨k, h, .inl h'⟩
        · exact .inr ⟨k, h, .inr (.inl h')⟩
        · obtain rfl : x = k := by omega
          exact .inr ⟨q, h3, .inr (.inr ⟨h2, h4⟩)⟩
      · rintro (h | ⟨k, h, h' | h' | ⟨h1, h2⟩⟩)
        · exact .inl (.inl (.inl h))
        · exact .inl (.inl (.inr ⟨k, h, h'⟩))
        · exact .inl (.inr ⟨k, h, h'⟩)
        · exact .inr ⟨⟨x, rfl, h1⟩, k, h, h2⟩
/-! ### rule by rule -/
def plc (es : List Re) : Nat := (es.map npl).sum
/-- rule i is e, its places begin at n -/
def RuleAt (es : List Re) (i n : Nat) (e : Re) : Prop := es[i]? = some e ∧ n = plc (es.take i)
theorem ruleAt_snoc {es : List Re} {e e' : Re} {i n : Nat} : RuleAt (es ++ [e]) i n e' ↔ RuleAt es i n e' ∨ (i = es.length ∧ n = plc es ∧ e' = e) := by
  unfold RuleAt
  by_cases c : i < es.length
  · rw [List.getElem?_append_left c, List.take_append_of_le_length (by omega)]
    exact ⟨.inl, fun h => h.elim id fun h => by omega⟩
  · by_cases c2 : i = es.length
    · subst c2
      rw [List.getElem?_append_right (Nat.le_refl _), Nat.sub_self, List.take_append_of_le_length (Nat.le_refl _), List.take_of_length_le (Nat.le_refl _), List.getElem?_eq_none (l := es) (Nat.le_refl _)]
      constructor
      · rintro ⟨h1, h2⟩; cases h1; exact .inr ⟨rfl, h2, rfl⟩
      · rintro (h | ⟨_, h2, rfl⟩)
        · cases h.1
        · exact ⟨rfl, h2⟩
    · rw [List.getElem?_eq_none (by simp; omega), List.getElem?_eq_none (l := es) (by omega)]
      constructor
      · rintro ⟨h1, _⟩; cases h1
      · rintro (⟨h1, _⟩ | h)
        · cases h1
        · exact absurd h.1 c2
structure InvL (es : List Re) (m : MS) : Prop where
  cls : m.ps.classes = es.flatMap clsP
  rules : ∀ i n e, RuleAt es i n e → ∀ x, n ≤ x → x < n + npl e → m.ps.rules.getD x 0 = i
  first : ∀ x : Int, x ∈ m.first ↔ ∃ k : Nat, x = k ∧ ∃ i n e, RuleAt es i n e ∧ Fst e n k
  follow : ∀ (x : Nat) (y : Int), y ∈ m.ps.follow.getD x [] ↔ ∃ k : Nat, y = k ∧ ∃ i n e, RuleAt es i n e ∧ Fol e n x k
  last : ∀ x : Nat, m.ps.last.getD x false = true ↔ ∃ i n e, RuleAt es i n e ∧ Lst e n x
  empty : m.empty = es.map empL
theorem mark_get : ∀ (l : List Int) (last : List Bool) (j : Nat), (∀ x ∈ l, 0 ≤ x ∧ x < last.length) → ((markF last l).getD j false = true ↔ last.getD j false = true ∨ (j : Int) ∈ l)
  | [], last, j, _ => ⟨.inl, fun h => h.elim id fun h => by cases h⟩
  | x :: l, last, j, h => by
    have hx := h x (List.mem_cons_self ..)
    show (markF (last.set x.toNat true) l).getD j false = true ↔ _
    rw [mark_get l _ j (fun y hy => by rw [List.length_set]; exact h y (List.mem_cons_of_mem _ hy)), set_getD]
    by_cases c : x.toNat = j ∧ j < last.length
    · rw [if_pos c]
      have hxj : (j : Int) = x := by omega
      exact ⟨fun _ => .inr (by rw [hxj]; exact List.mem_cons_self ..), fun _ => .inl rfl⟩
    · rw [if_neg c]
      have hne : (j : Int) ≠ x := fun e => c ⟨by omega, by omega⟩
      constructor
      · rintro (h1 | h1)
        · exact .inl h1
        · exact .inr (List.mem_cons_of_mem _ h1)
      · rintro (h1 | h1)
        · exact .inl h1
        · rcases List.mem_cons.1 h1 with e | e
          · exact absurd e hne
          · exact .inr e
theorem cls_plc : ∀ es : List Re, (es.flatMap clsP).length = plc es
  | [] => rfl
  | e :: es => by
    rw [List.flatMap_cons, List.length_append, clsP_len, cls_plc es]
    unfold plc; simp
theorem app_getD {α : Type} {l r : List α} {d : α} {x : Nat} : (l ++ r).getD x d = if x < l.length then l.getD x d else r.getD (x - l.length) d := by
  rw [List.getD_eq_getElem?_getD, List.getD_eq_getElem?_getD, List.getD_eq_getElem?_getD]
  by_cases c : x < l.length
  · rw [if_pos c, List.getElem?_append_left c]
  · rw [if_neg c, List.getElem?_append_right (by omega)]
theorem rep_getD {α : Type} {n x : Nat} {a d : α} : (List.replicate n a).getD x d = if x < n then a else d := by
  rw [List.getD_eq_getElem?_getD, List.getElem?_replicate]
  split <;> rfl
theorem ruleAt_in {es : List Re} {i n : Nat} {e : Re} (h : RuleAt es i n e) : n + npl e ≤ plc es := by
  obtain ⟨h1, rfl⟩ := h
  obtain ⟨hi, rfl⟩ := List.getElem?_eq_some_iff.1 h1
  have e0 : es = es.take i ++ es[i] :: es.drop (i + 1) := by rw [List.getElem_cons_drop, List.take_append_drop]
  have : plc es = plc (es.take i) + npl es[i] + plc (es.drop (i + 1)) := by
    conv => lhs; rw [e0]
    unfold plc
    rw [List.map_append, List.sum_append, List.map_cons, List.sum_cons]; omega
  omega
theorem inv_step {es : List Re} {m : MS} (h : MSOk m) (hi : InvL es m) (e : Re) : InvL (es ++ [e]) (stepM es.length m e) := by
  have hl := node_law es.length e m.ps h.ps
  obtain ⟨k1, k2, k3, k4, k5⟩ := node_ok es.length e m.ps h.ps
  have hn : m.ps.classes.length = plc es := by rw [hi.cls, cls_plc]
  have l5 := hl.first
  have l6 := hl.last
  have l7 := hl.follow
  rw [hn] at l5 l6 l7
  refine ⟨?_, ?_, fun x => ?_, fun x y => ?_, fun x => ?_, ?_⟩
  · show (nodeF es.length e m.ps).2.classes = _
    rw [hl.cls, hi.cls, List.flatMap_append]; simp
  · intro i n e' hr x h1 h2
    show (nodeF es.length e m.ps).2.rules.getD x 0 = i
    rw [hl.rules, app_getD, h.ps.rules, hn]
    rcases ruleAt_snoc.1 hr with hr | ⟨rfl, rfl, rfl⟩
    · have := ruleAt_in hr
      rw [if_pos (by omega)]
      exact hi.rules i n e' hr x h1 h2
    · rw [if_neg (by omega), rep_getD, if_pos (by omega)]
  · show x ∈ uni _ _ ↔ _
    rw [(uni_law _ _).2, hi.first, l5]
    constructor
    · rintro (⟨k, h, i, n, e', h1, h2⟩ | ⟨k, h, h'⟩)
      · exact ⟨k, h, i, n, e', ruleAt_snoc.2 (.inl h1), h2⟩
      · exact ⟨k, h, _, _, e, ruleAt_snoc.2 (.inr ⟨rfl, rfl, rfl⟩), h'⟩
    · rintro ⟨k, h, i, n, e', h1, h2⟩
      rcases ruleAt_snoc.1 h1 with h1 | ⟨rfl, rfl, rfl⟩
      · exact .inl ⟨k, h, i, n, e', h1, h2⟩
      · exact .inr ⟨k, h, h2⟩
  · show y ∈ (nodeF es.length e m.ps).2.follow.getD x [] ↔ _
    rw [l7, hi.follow]
    constructor
    · rintro (⟨k, h, i, n, e', h1, h2⟩ | ⟨k, h, h'⟩)
      · exact ⟨k, h, i, n, e', ruleAt_snoc.2 (.inl h1), h2⟩
      · exact ⟨k, h, _, _, e, ruleAt_snoc.2 (.inr ⟨rfl, rfl, rfl⟩), h'⟩
    · rintro ⟨k, h, i, n, e', h1, h2⟩
      rcases ruleAt_snoc.1 h1 with h1 | ⟨rfl, rfl, rfl⟩
      · exact .inl ⟨k, h, i, n, e', h1, h2⟩
      · exact .inr ⟨k, h, h2⟩
  · show (markF _ _).getD x false = true ↔ _
    rw [mark_get _ _ x (fun z hz => by have := k5.2 z hz; rw [k1.last]; exact this), l6, hl.lasts, app_getD, h.ps.last, hn]
    have hx : (if x < plc es then m.ps.last.getD x false else (List.replicate (npl e) false).getD (x - plc es) false) = true ↔ m.ps.last.getD x false = true := by
      by_cases c : x < plc es
      · rw [if_pos c]
      · rw [if_neg c, rep_getD]
        have : m.ps.last.getD x false = false := by rw [List.getD_eq_getElem?_getD, List.getElem?_eq_none (by rw [h.ps.last, hn]; omega)]; rfl
        rw [this]
        split <;> rfl
    rw [hx, hi.last]
    constructor
    · rintro (⟨i, n, e', h1, h2⟩ | ⟨k, h, h'⟩)
      · exact ⟨i, n, e', ruleAt_snoc.2 (.inl h1), h2⟩
      · obtain rfl : x = k := by omega
        exact ⟨_, _, e, ruleAt_snoc.2 (.inr ⟨rfl, rfl, rfl⟩), h'⟩
    · rintro ⟨i, n, e', h1, h2⟩
      rcases ruleAt_snoc.1 h1 with h1 | ⟨rfl, rfl, rfl⟩
      · exact .inl ⟨i, n, e', h1, h2⟩
      · exact .inr ⟨x, rfl, h2⟩
  · show m.empty ++ [(nodeF es.length e m.ps).1.empty] = _
    rw [hi.empty, hl.empty, List.map_append]; rfl
theorem inv_zero : InvL [] .zero :=
  ⟨rfl, fun i n e h => (by cases h.1), fun x => ⟨fun h => (by cases h), fun ⟨_, _, i, n, e, h, _⟩ => (by cases h.1)⟩, fun x y => ⟨fun h => (by cases h), fun ⟨_, _, i, n, e, h, _⟩ => (by cases h.1)⟩, fun x => ⟨fun h => (by cases h), fun ⟨i, n, e, h, _⟩ => (by cases h.1)⟩, rfl⟩
theorem inv_loop : ∀ (r es : List Re) (m m' : MS), MSOk m → InvL es m → loopM es.length m r = (0, m') → InvL (es ++ r) m'
  | [], es, m, m', _, h2, h => by cases h; rw [List.append_nil]; exact h2
  | e :: r, es, m, m', h1, h2, h => by
    rw [loopM] at h
    split at h
    · cases h
    · have := inv_loop r (es ++ [e]) (stepM es.length m e) m' (step_ok _ h1 e).1 (inv_step h1 h2 e) (by rw [List.length_append, List.length_singleton]; exact h)
      rw [List.append_assoc] at this
      exact this
theorem make_inv {es : List Re} {m : MS} (h : loopM 0 .zero es = (0, m)) : InvL es m := by
  have := inv_loop es [] .zero m zero_ok inv_zero h
  rwa [List.nil_append] at this
/-! ### gone along -/
def Fg (es : List Re) (x y : Nat) : Prop := ∃ i n e, RuleAt es i n e ∧ Fol e n x y
def Ig (es : List Re) (x : Nat) : Prop := ∃ i n e, RuleAt es i n e ∧ Fst e n x
def Kg (m : MS) (x b : Nat) : Prop := (m.ps.classes.getD x C4.zero).mem b = true
theorem insF_get {m : MS} (h : MOkP m) (now : List Int) (isF : Bool) (b j : Nat) :
    (insF m.ps m.first now isF b).getD j false = true ↔ Kg m j b ∧ ((isF = true ∧ (j : Int) ∈ m.first) ∨ ∃ x ∈ now, (j : Int) ∈ m.ps.follow.getD x.toNat []) := by
  have hf : ∀ x : Int, ∀ y ∈ m.ps.follow.getD x.toNat [], 0 ≤ y ∧ y < m.ps.classes.length := fun x y hy => by
    by_cases c : x.toNat < m.ps.follow.length
    · rw [List.getD_eq_getElem?_getD, List.getElem?_eq_getElem c] at hy
      exact (h.ok.ps.ris _ (List.getElem_mem c)).2 y hy
    · rw [List.getD_eq_getElem?_getD, List.getElem?_eq_none (by omega)] at hy; cases hy
  have h200 := h.few
  have key : ∀ (now : List Int) (ins : List Bool), ins.length = 200 → ((now.foldl (fun ins x => markB m.ps.classes b ins (m.ps.follow.getD x.toNat [])) ins).getD j false = true ↔ ins.getD j false = true ∨ (Kg m j b ∧ ∃ x ∈ now, (j : Int) ∈ m.ps.follow.getD x.toNat [])) := by
    intro now
    induction now with
    | nil => intro ins _; exact ⟨.inl, fun h => h.elim id fun ⟨_, _, h, _⟩ => by cases h⟩
    | cons x r ih =>
      intro ins hl
      rw [List.foldl_cons, ih _ (by rw [markB_len]; exact hl), markB_get _ _ _ _ _ (fun y hy => by have := hf x y hy; omega)]
      constructor
      · rintro ((h1 | ⟨h1, h2⟩) | ⟨h1, z, h2, h3⟩)
        · exact .inl h1
        · exact .inr ⟨h2, x, List.mem_cons_self .., h1⟩
        · exact .inr ⟨h1, z, List.mem_cons_of_mem _ h2, h3⟩
      · rintro (h1 | ⟨h1, z, h2, h3⟩)
        · exact .inl (.inl h1)
        · rcases List.mem_cons.1 h2 with rfl | h2
          · exact .inl (.inr ⟨h3, h1⟩)
          · exact .inr ⟨h1, z, h2, h3⟩
  have hrep : (List.replicate 200 false).getD j false = true ↔ False := by
    rw [rep_getD]; split <;> simp
  unfold insF
  cases isF with
  | false =>
    rw [if_neg (by decide), key now _ List.length_replicate, hrep]
    constructor
    · rintro (h | ⟨h1, h2⟩)
      · exact h.elim
      · exact ⟨h1, .inr h2⟩
    · rintro ⟨h1, ⟨h2, _⟩ | h2⟩
      · cases h2
      · exact .inr ⟨h1, h2⟩
  | true =>
    rw [if_pos rfl, key now _ (by rw [markB_len, List.length_replicate]), markB_get _ _ _ _ _ (fun y hy => by have := h.ok.first.2 y hy; rw [List.length_replicate]; omega), hrep]
    constructor
    · rintro ((h | ⟨h1, h2⟩) | ⟨h1, h2⟩)
      · exact h.elim
      · exact ⟨h2, .inl ⟨rfl, h1⟩⟩
      · exact ⟨h1, .inr h2⟩
    · rintro ⟨h1, ⟨_, h2⟩ | h2⟩
      · exact .inl (.inr ⟨h2, h1⟩)
      · exact .inr ⟨h1, h2⟩
theorem stepP_mem {es : List Re} {m : MS} (h : MOkP m) (hi : InvL es m) (now : List Int) (hnow : ∀ x ∈ now, 0 ≤ x) (isF : Bool) (b : Nat) (x : Int) :
    x ∈ stepP m now isF b ↔ ∃ k : Nat, x = k ∧ Kg m k b ∧ ((isF = true ∧ Ig es k) ∨ ∃ q : Nat, (q : Int) ∈ now ∧ Fg es q k) := by
  unfold stepP
  rw [trues_mem]
  constructor
  · rintro ⟨i, rfl, h1, h2⟩
    obtain ⟨h3, h4⟩ := (insF_get h now isF b i).1 h2
    refine ⟨i, rfl, h3, ?_⟩
    rcases h4 with ⟨h4, h5⟩ | ⟨x, h4, h5⟩
    · obtain ⟨k, e, h6⟩ := (hi.first _).1 h5
      obtain rfl : i = k := by omega
      exact .inl ⟨h4, h6⟩
    · obtain ⟨k, e, h6⟩ := (hi.follow _ _).1 h5
      obtain rfl : i = k := by omega
      have := hnow x h4
      exact .inr ⟨x.toNat, by rw [Int.toNat_of_nonneg this]; exact h4, h6⟩
  · rintro ⟨k, rfl, h1, h2⟩
    have hg : (insF m.ps m.first now isF b).getD k false = true := (insF_get h now isF b k).2 ⟨h1, by
      rcases h2 with ⟨h2, h3⟩ | ⟨q, h2, h3⟩
      · exact .inl ⟨h2, (hi.first _).2 ⟨k, rfl, h3⟩⟩
      · exact .inr ⟨q, h2, by rw [Int.toNat_natCast]; exact (hi.follow _ _).2 ⟨k, rfl, h3⟩⟩⟩
    have := insF_in h now isF b hg
    have := h.few
    exact ⟨k, rfl, by omega, hg⟩
theorem runP_cons (m : MS) (b : UInt8) (s : List UInt8) : runP m (b :: s) = s.foldl (fun now (b : UInt8) => stepP m now false b.toNat) (stepP m [] true b.toNat) := rfl
theorem runS_cons (F K : Nat → Nat → Prop) (I : Nat → Prop) (b : UInt8) (s : List UInt8) : runS F K I (b :: s) = s.foldl (stepS F K) (fun k => I k ∧ K k b.toNat) := rfl
theorem runP_mem {es : List Re} {m : MS} (h : MOkP m) (hi : InvL es m) (s : List UInt8) (x : Int) : x ∈ runP m s ↔ ∃ k : Nat, x = k ∧ runS (Fg es) (Kg m) (Ig es) s k := by
  cases s with
  | nil => exact ⟨fun h => (by cases h), fun ⟨_, _, h⟩ => h.elim⟩
  | cons b s =>
    rw [runP_cons, runS_cons]
    have h0 : ∀ x : Int, x ∈ stepP m [] true b.toNat ↔ ∃ k : Nat, x = k ∧ (Ig es k ∧ Kg m k b.toNat) := fun x => by
      rw [stepP_mem h hi [] (fun x hx => by cases hx)]
      constructor
      · rintro ⟨k, rfl, h1, ⟨_, h2⟩ | ⟨q, h2, _⟩⟩
        · exact ⟨k, rfl, h2, h1⟩
        · cases h2
      · rintro ⟨k, rfl, h2, h1⟩; exact ⟨k, rfl, h1, .inl ⟨rfl, h2⟩⟩
    have hn : ∀ x ∈ stepP m [] true b.toNat, 0 ≤ x := fun x hx => ((step_in h [] true b.toNat).2 x hx).1
    have h1 : ∀ x : Int, x ∈ stepP m [] true b.toNat ↔ ∃ k : Nat, x = k ∧ (fun k => Ig es k ∧ Kg m k b.toNat) k := h0
    clear h0
    generalize stepP m [] true b.toNat = now at *
    generalize (fun k => Ig es k ∧ Kg m k b.toNat) = S at *
    induction s generalizing now S with
    | nil => exact h1 x
    | cons c s ih =>
      rw [List.foldl_cons, List.foldl_cons]
      refine ih _ (fun x hx => ((step_in h now false c.toNat).2 x hx).1) _ fun x => ?_
      rw [stepP_mem h hi now hn]
      constructor
      · rintro ⟨k, rfl, h5, ⟨h2, _⟩ | ⟨q, h2, h3⟩⟩
        · cases h2
        · obtain ⟨k', e, h4⟩ := (h1 _).1 h2
          obtain rfl : q = k' := by omega
          exact ⟨k, rfl, ⟨q, h4, h3⟩, h5⟩
      · rintro ⟨k, rfl, ⟨q, h4, h3⟩, h5⟩
        exact ⟨k, rfl, h5, .inr ⟨q, (h1 _).2 ⟨q, rfl, h4⟩, h3⟩⟩
/-! ### each rule for itself -/
theorem ag_seg {K : Nat → Nat → Prop} : ∀ (e : Re) (n : Nat), (∀ j, j < npl e → ∀ b, K (n + j) b ↔ ((clsP e).getD j C4.zero).mem b = true) → Ag K e n
  | .none, _, _ => trivial
  | .empty, _, _ => trivial
  | .byte c, n, h => fun b => h 0 (by show 0 < 1; omega) b
  | .star a, n, h => ag_seg a n h
  | .cat a b, n, h => by
    have hl := clsP_len a
    refine ⟨ag_seg a n fun j hj q => ?_, ag_seg b (n + npl a) fun j hj q => ?_⟩
    · rw [h j (by simp only [npl]; omega) q]
      show ((clsP a ++ clsP b).getD j C4.zero).mem q = true ↔ _
      rw [app_getD, if_pos (by omega)]
    · rw [Nat.add_assoc, h (npl a + j) (by simp only [npl]; omega) q]
      show ((clsP a ++ clsP b).getD (npl a + j) C4.zero).mem q = true ↔ _
      rw [app_getD, if_neg (by omega), hl, Nat.add_sub_cancel_left]
  | .alt a b, n, h => by
    have hl := clsP_len a
    refine ⟨ag_seg a n fun j hj q => ?_, ag_seg b (n + npl a) fun j hj q => ?_⟩
    · rw [h j (by simp only [npl]; omega) q]
      show ((clsP a ++ clsP b).getD j C4.zero).mem q = true ↔ _
      rw [app_getD, if_pos (by omega)]
    · rw [Nat.add_assoc, h (npl a + j) (by simp only [npl]; omega) q]
      show ((clsP a ++ clsP b).getD (npl a + j) C4.zero).mem q = true ↔ _
      rw [app_getD, if_neg (by omega), hl, Nat.add_sub_cancel_left]
theorem kg_ag {es : List Re} {m : MS} (hi : InvL es m) {i n : Nat} {e : Re} (hr : RuleAt es i n e) : Ag (Kg m) e n := by
  refine ag_seg e n fun j hj b => ?_
  obtain ⟨h1, rfl⟩ := hr
  obtain ⟨hlt, rfl⟩ := List.getElem?_eq_some_iff.1 h1
  have e0 : es = es.take i ++ es[i] :: es.drop (i + 1) := by rw [List.getElem_cons_drop, List.take_append_drop]
  unfold Kg
  rw [hi.cls]
  have : (es.flatMap clsP).getD (plc (es.take i) + j) C4.zero = (clsP es[i]).getD j C4.zero := by
    have e1 : es.flatMap clsP = (es.take i).flatMap clsP ++ (clsP es[i] ++ (es.drop (i + 1)).flatMap clsP) := by
      conv => lhs; rw [e0]
      rw [List.flatMap_append, List.flatMap_cons]
    rw [e1, app_getD, if_neg (by rw [cls_plc]; omega), cls_plc, Nat.add_sub_cancel_left, app_getD, if_pos (by rw [clsP_len]; exact hj)]
  rw [this]
theorem rule_one {es : List Re} {m : MS} (hi : InvL es m) {i n i' n' : Nat} {e e' : Re} (hr : RuleAt es i n e) (hr' : RuleAt es i' n' e') {x : Nat} (h : n ≤ x ∧ x < n + npl e) (h' : n' ≤ x ∧ x < n' + npl e') : i = i' ∧ n = n' ∧ e = e' := by
  have h1 := hi.rules _ _ _ hr x h.1 h.2
  have h2 := hi.rules _ _ _ hr' x h'.1 h'.2
  obtain rfl : i = i' := by omega
  obtain ⟨a1, rfl⟩ := hr
  obtain ⟨b1, rfl⟩ := hr'
  rw [a1] at b1
  exact ⟨rfl, rfl, Option.some.inj b1⟩
theorem chn_one {es : List Re} {m : MS} (hi : InvL es m) {i n : Nat} {e : Re} (hr : RuleAt es i n e) : ∀ (l : List Nat) (x : Nat), Chn (Fg es) (fun k => m.ps.rules.getD k 0 = (i : Int) ∧ m.ps.last.getD k false = true) x l → (n ≤ x ∧ x < n + npl e) ∧ Chn (Fol e n) (Lst e n) x l
  | [], x, ⟨h1, h2⟩ => by
    obtain ⟨i', n', e', hr', h3⟩ := (hi.last x).1 h2
    have hin := lst_in e' h3
    have := hi.rules _ _ _ hr' x hin.1 hin.2
    obtain rfl : i = i' := by omega
    obtain ⟨a1, rfl⟩ := hr
    obtain ⟨b1, rfl⟩ := hr'
    rw [a1] at b1
    cases b1
    exact ⟨hin, h3⟩
  | y :: r, x, ⟨⟨i', n', e', hr', h1⟩, h2⟩ => by
    obtain ⟨q1, q2⟩ := chn_one hi hr r y h2
    have hin := fol_in e' h1
    obtain ⟨rfl, rfl, rfl⟩ := rule_one hi hr hr' q1 hin.2
    exact ⟨hin.1, h1, q2⟩
theorem one_chn {es : List Re} {m : MS} (hi : InvL es m) {i n : Nat} {e : Re} (hr : RuleAt es i n e) : ∀ (l : List Nat) (x : Nat), Chn (Fol e n) (Lst e n) x l → Chn (Fg es) (fun k => m.ps.rules.getD k 0 = (i : Int) ∧ m.ps.last.getD k false = true) x l
  | [], x, h => ⟨hi.rules _ _ _ hr x (lst_in e h).1 (lst_in e h).2, (hi.last x).2 ⟨i, n, e, hr, h⟩⟩
  | y :: r, x, ⟨h1, h2⟩ => ⟨⟨i, n, e, hr, h1⟩, one_chn hi hr r y h2⟩
/-- a set of places tells rule i just if its expression means the text -/
theorem tells_lang {es : List Re} {m : MS} (h : MOkP m) (hi : InvL es m) {s : List UInt8} (hs : s ≠ []) {i : Nat} {e : Re} (he : es[i]? = some e) : (∃ x ∈ runP m s, m.ps.rules.getD x.toNat 0 = (i : Int) ∧ m.ps.last.getD x.toNat false = true) ↔ Lang e s := by
  have hr : RuleAt es i (plc (es.take i)) e := ⟨he, rfl⟩
  rw [← runS_lang (kg_ag hi hr) hs, runS_iff hs]
  have h1 : (∃ x ∈ runP m s, m.ps.rules.getD x.toNat 0 = (i : Int) ∧ m.ps.last.getD x.toNat false = true) ↔ ∃ k, runS (Fg es) (Kg m) (Ig es) s k ∧ (fun k => m.ps.rules.getD k 0 = (i : Int) ∧ m.ps.last.getD k false = true) k := by
    constructor
    · rintro ⟨x, h2, h3⟩
      obtain ⟨k, rfl, h4⟩ := (runP_mem h hi s x).1 h2
      exact ⟨k, h4, by rw [Int.toNat_natCast] at h3; exact h3⟩
    · rintro ⟨k, h2, h3⟩
      exact ⟨(k : Int), (runP_mem h hi s _).2 ⟨k, rfl, h2⟩, by rw [Int.toNat_natCast]; exact h3⟩
  rw [h1, runS_iff hs]
  constructor
  · rintro ⟨x, l, q1, ⟨i', n', e', hr', q2⟩, q3⟩
    obtain ⟨q4, q5⟩ := chn_one hi hr l x q3
    obtain ⟨rfl, rfl, rfl⟩ := rule_one hi hr hr' q4 (fst_in e' q2)
    exact ⟨x, l, q1, q2, q5⟩
  · rintro ⟨x, l, q1, q2, q3⟩
    exact ⟨x, l, q1, ⟨i, _, e, hr, q2⟩, one_chn hi hr l x q3⟩
end Go.Proofs.YtkcnoompimohnaaDoor.placesL

/- AbcL -/
namespace Go.Proofs.YtkcnoompimohnaaDoor.dfaP
open classL rexL placesL smallL
theorem uni_eq {a b c : List Int} (h1 : c.Pairwise (· < ·)) (h2 : ∀ x, (x ∈ a ∨ x ∈ b) ↔ x ∈ c) : uni a b = c :=
  rising_ext (uni_law _ _).1 h1 fun x => by rw [(uni_law _ _).2, h2]
/-- a, ab, blanks -/
def abcE (a b c : C4) : List Re := [.byte a, .cat (.byte a) (.byte b), .cat (.byte c) (.star (.byte c))]
def abcM (a b c : C4) : MS := ⟨⟨[a, a, b, c, c], [0, 1, 1, 2, 2], [[], [2], [], [4], [4]], [true, false, true, true, true]⟩, [0, 1, 3], [false, false, false]⟩
theorem abc_loop (a b c : C4) : loopM 0 .zero (abcE a b c) = (0, abcM a b c) := by
  have u0 : uni [] [0] = [0] := uni_eq (by simp) (by simp)
  have u1 : uni [0] [1] = [0, 1] := uni_eq (by simp) (by simp)
  have u2 : uni [] [2] = [2] := uni_eq (by simp) (by simp)
  have u3 : uni [] [4] = [4] := uni_eq (by simp) (by simp)
  have u4 : uni [3] [4] = [3, 4] := uni_eq (by simp) (by simp)
  have u5 : uni [0, 1] [3] = [0, 1, 3] := uni_eq (by simp) (by simp [or_assoc])
  have s0 : stepM 0 .zero (.byte a) = ⟨⟨[a], [0], [[]], [true]⟩, [0], [false]⟩ := by simp [stepM, nodeF, MS.zero, markF, u0]
  have s1 : stepM 1 ⟨⟨[a], [0], [[]], [true]⟩, [0], [false]⟩ (.cat (.byte a) (.byte b)) = ⟨⟨[a, a, b], [0, 1, 1], [[], [2], []], [true, false, true]⟩, [0, 1], [false, false]⟩ := by
    simp [stepM, nodeF, markF, behindF, u1, u2]
  have s2 : stepM 2 ⟨⟨[a, a, b], [0, 1, 1], [[], [2], []], [true, false, true]⟩, [0, 1], [false, false]⟩ (.cat (.byte c) (.star (.byte c))) = abcM a b c := by
    simp [stepM, nodeF, markF, behindF, u3, u4, u5, abcM]
  unfold abcE
  rw [loopM, s0, if_neg (by simp), loopM, s1, if_neg (by simp), loopM, s2, if_neg (by simp [abcM]), loopM]
def rowB (f : Nat → Int) : Row := Vector.ofFn fun b : Fin 256 => f b
def abcR : List Row := [rowB fun b => if b = 32 then 1 else if b = 97 then 2 else -1, rowB fun b => if b = 32 then 3 else -1, rowB fun b => if b = 98 then 4 else -1, rowB fun b => if b = 32 then 3 else -1, rowB fun _ => -1]
set_option maxRecDepth 1000000 in
theorem abc_make : (makeD (abcM (rangeF 97 97) (rangeF 98 98) (rangeF 32 32))).map (fun x => (x.1, x.2.tags)) = some (abcR, [-1, 2, 0, 2, 1]) := by kernel_rfl
end Go.Proofs.YtkcnoompimohnaaDoor.dfaP

/- RexN -/
namespace Go.Proofs.YtkcnoompimohnaaDoor.eng
open Go.RowKit kit mix classL rexL
def nJ (r : Re) (n j : Nat) : Nat := n + 1 + ((r.kids.take j).map Re.size).sum
theorem nJ_0 (r : Re) (n : Nat) : nJ r n 0 = n + 1 := by simp [nJ]
theorem nJ_next (r : Re) (n : Nat) {j : Nat} (h : j < r.kids.length) : nJ r n (j + 1) = nJ r n j + r.kids[j].size := by
  unfold nJ
  rw [List.take_succ_eq_append_getElem h, List.map_append, List.sum_append]; simp; omega
theorem nJ_all (r : Re) (n : Nat) : nJ r n r.kids.length = n + r.size := by
  unfold nJ
  rw [List.take_length]
  cases r <;> simp [Re.kids, Re.size] <;> omega
theorem nJ_le (r : Re) (n : Nat) {j : Nat} (h : j < r.kids.length) : nJ r n j + r.kids[j].size ≤ n + r.size := by
  rw [← nJ_next r n h]
  cases r with
  | cat a b => match j, h with
    | 0, _ => simp [nJ, Re.kids, Re.size]; omega
    | 1, _ => simp [nJ, Re.kids, Re.size]; omega
  | alt a b => match j, h with
    | 0, _ => simp [nJ, Re.kids, Re.size]; omega
    | 1, _ => simp [nJ, Re.kids, Re.size]; omega
  | star a => match j, h with
    | 0, _ => simp [nJ, Re.kids, Re.size]; omega
  | none => simp [Re.kids] at h
  | empty => simp [Re.kids] at h
  | byte c => simp [Re.kids] at h
theorem kidsK_at (r : Re) (n : Nat) {j : Nat} (h : j < r.kids.length) : (kidsK r n)[j]'(by rw [kidsK_len]; exact h) = (r.kids[j], nJ r n j) := by
  cases r with
  | cat a b => match j, h with
    | 0, _ => rfl
    | 1, _ => simp [kidsK, nJ, Re.kids]
  | alt a b => match j, h with
    | 0, _ => rfl
    | 1, _ => simp [kidsK, nJ, Re.kids]
  | star a => match j, h with
    | 0, _ => rfl
  | none => simp [Re.kids] at h
  | empty => simp [Re.kids] at h
  | byte c => simp [Re.kids] at h
theorem kid_size {r : Re} {j : Nat} (h : j < r.kids.length) : r.kids[j].size < r.size := by
  have := nJ_le r 0 h
  unfold nJ at this
  omega
/-- numbered kids, owned -/
def nkO (F : Nat → Prop) (v : Value) (l : List (Re × Nat)) : Own := shpO (sliceS numS) F [v] l
theorem nkO_one {F : Nat → Prop} {v : Value} {l : List (Re × Nat)} {w : World} (h : (nkO F v l).holds w) : v.oneCell' = true ∧ v.cells = #[v] := by
  obtain ⟨⟨v', hv, h3⟩, h4⟩ := h
  simp only [List.cons.injEq, and_true] at hv
  subst hv
  obtain ⟨b, c, rfl, _⟩ := h3
  exact ⟨rfl, rfl⟩
theorem numC_one {r : Re} {k : Nat} {vk v : Value} (h1 : vk.oneCell' = true) (h2 : v.oneCell' = true) : (numC r k vk v).all Value.oneCell' = true := by
  simp [numC, clsL, h1, h2]; exact ⟨rfl, rfl, rfl, rfl, rfl, rfl⟩
theorem kids_two (r : Re) : r.kids.length ≤ 2 := by cases r <;> simp [Re.kids]
theorem rkid_emb {F : Nat → Prop} {w : World} {b off : Nat} {l : List Re} (h : ∀ i (h : i < (l.map emb).length), ∃ cs, rexS.is F w cs (l.map emb)[i] ∧ Rd w b (off + i * rexS.c) cs) {j : Nat} (hj : j < l.length) :
    ∃ base cap, Rd w b (off + j * 6) (rexC l[j].kind l[j].cls (.slice base l[j].kids.length cap)) ∧ kit.okI64 l[j].kind ∧ SlF rexS F w (.slice base l[j].kids.length cap) (l[j].kids.map emb) := by
  obtain ⟨cs, h1, hr⟩ := h j (by rw [List.length_map]; exact hj)
  rw [List.getElem_map, emb_eq] at h1
  obtain ⟨vk, rfl, a1, a2⟩ := rex_iff.1 (show RexIs F w cs _ from h1)
  have a2' := a2
  obtain ⟨base, cap, rfl, _⟩ := a2'
  have el : (l[j].kids.map emb).length = l[j].kids.length := List.length_map ..
  refine ⟨base, cap, ?_, a1, ?_⟩
  · rw [← el]; exact hr
  · rw [← el]; exact a2
def numSp (gn : Nat) (r : Re) (n : Nat) (vk : Value) : Spec (Value × (Nat → Prop)) := ⟨fun _ => True, fun x => .agg (numC r n vk x.1).toArray, fun x => [blkO gn #[.int .i64 ((n + r.size : Nat) : Int)] 3, nkO x.2 x.1 (kidsK r n)]⟩
theorem build_num (k : Int) (c : C4) (b : Option Addr) (l cap : Nat) (n : Nat) (w : World) : (Instr.build 119 #[(0, rexV k c (.slice b l cap)), (1, .int .i64 (n : Int))]).run Tryd.prog w = .ok (.agg (rexC k c (.slice b l cap) ++ ([.int .i64 (n : Int), .slice none 0 0] : List Value)).toArray) w := by kernel_rfl
set_option maxRecDepth 100000 in
attribute [local irreducible] Instr.build in
set_option maxHeartbeats 16000000 in
theorem number_calls (w0 : World) (gn : Nat) : ∀ (N : Nat) (r : Re), r.size ≤ N → ∀ (vk : Value) (n : Nat) (w : World) (B : Base), kit.okI64 r.kind → SlF rexS (Low w0) w0 vk (r.kids.map emb) → n + r.size ≤ 100 → Old w0 B → Mem B [blkO gn #[.int .i64 (n : Int)] 3] w →
    Calls Tryd.prog 44 #[rexV r.kind r.cls vk, .pointer (some ⟨gn, 0, none⟩)] w (MeetsB (numSp gn r n vk) B)
  | 0, r, h, _, _, _, _, _, _, _, _, _ => by have := r.size_pos; omega
  | N + 1, r, hN, vk, n, w, B, hk64, hks, hn, ho, hm => by
    have IH := number_calls w0 gn N
    obtain ⟨bk, ck, rfl, hck, hmk, hrk⟩ := hks
    unfold maxLen at hmk
    rw [List.length_map] at hck ⊢
    have hrk := fun h0 => hrk (by rw [List.length_map]; exact h0)
    have hpos := r.size_pos
    have hk2 := kids_two r
    have hbn := build_num r.kind r.cls bk r.kids.length ck n
    refine enterB hm (args := [rexV r.kind r.cls (.slice bk r.kids.length ck), .pointer (some ⟨gn, 0, none⟩)]) (n := 35) Tryd.func44 rfl rfl rfl ?_
    clear hm
    refine T_seq (T_region (TL_box rfl rfl rfl fun g2 => TL_new rfl fun g4 => ?_))
    conv => arg 8; simp only [zA, zB, zC, zD, zE, zF, zG, zH, zI, rowS, ret, id_eq]
    repeat (first
      | refine QV QP ?_ | refine QZ ?_ | refine qcT rfl ?_ | refine qcF rfl ?_ | refine E_blockX ?_ | refine E_blockO rfl ?_ | refine QV QL ?_
      | refine QV QA ?_ | refine QV (rr_nilc rfl) ?_ | refine QV QlT ?_ | refine QV QlF ?_ | refine QV QaA ?_)
    (repeat refine T_seq ?_)
    refine T_ord ([blkO gn #[.int .i64 (n : Int)] 3, blkO g2 (rexC r.kind r.cls (.slice bk r.kids.length ck)).toArray 33]) (.calm 0 (.calm 1 (.calm 2 (.calm 3 (.calm 4 (.one 5 (.one 6 (.done)))))))) (sub_pick [0, 1] (by decide) rfl) (by kernel_rfl) (by kernel_rfl) (by intro c a d v w h; cases d <;> exact h) ?_
    repeat (first
      | ((first | refine TW_plain rfl rfl ?_ | refine TW_gmet rfl rfl rfl rfl ?_); first | refine QW QP ?_ | refine QW (rr_loadB (i := 1) TyC.ty rfl rfl rfl) ?_ | refine QW (rr_nilc rfl) ?_ | refine QW (rr_load1 TyC.ty rfl (at_blk (i := 0) rfl rfl)) ?_ | refine QW (rr_build rfl hbn) ?_ | refine QW QL ?_ | refine QW QA ?_ | refine QW (rr_nilc rfl) ?_ | refine QW QlT ?_ | refine QW QlF ?_ | refine QW QaA ?_)
      | refine TW_done ?_)
    refine TW_one rfl (TL_new rfl fun g5 => TW_on (sub_pick [0, 1] (by decide) rfl) ?_)
    refine TW_one rfl (TL_storeB (i := 3) rfl rfl rfl rfl (numC_one (r := r) (k := n) rfl rfl) rfl (TW_on (sub_pick [0, 1] (by decide) rfl) ?_))
    repeat (first
      | ((first | refine TW_plain rfl rfl ?_ | refine TW_gmet rfl rfl rfl rfl ?_); first | refine QW QP ?_ | refine QW QL ?_ | refine QW QA ?_ | refine QW (rr_nilc rfl) ?_ | refine QW QlT ?_ | refine QW QlF ?_ | refine QW QaA ?_)
      | refine TW_done ?_)
    repeat (first
      | refine QV QP ?_ | refine QZ ?_ | refine qcT rfl ?_ | refine qcF rfl ?_ | refine E_blockX ?_ | refine E_blockO rfl ?_ | refine QV (rr_nilc rfl) ?_
      | refine QV (rr_load1 TyC.ty rfl (at_blk (i := 0) rfl rfl)) ?_
      | refine QV (rr_add64 (r := ((n + 1 : Nat) : Int)) rfl rfl (by omega) (by omega) (by omega)) ?_ | refine QV QL ?_ | refine QV QA ?_
      | refine QV (rr_nilc rfl) ?_ | refine QV QlT ?_ | refine QV QlF ?_ | refine QV QaA ?_)
    refine TL_store1 (i := 0) rfl rfl rfl rfl rfl rfl ?_
    conv => arg 8; simp only [zA, zB, zC, zD, zE, zF, zG, zH, zI, rowS, ret, id_eq]
    repeat (first
      | refine QV QP ?_ | refine QZ ?_ | refine qcT rfl ?_ | refine qcF rfl ?_ | refine E_blockX ?_ | refine E_blockO rfl ?_
      | refine QV (rr_load1 TyC.ty rfl (at_blk (i := 1) rfl rfl)) ?_ | refine QV QL ?_ | refine QV QA ?_ | refine QV (rr_nilc rfl) ?_ | refine QV QlT ?_
      | refine QV QlF ?_ | refine QV QaA ?_)
    refine T_nil 119 8 (T_extra (elsO numS (fun _ => False) [] []) (fun k hk => hk.elim (fun h => by cases h) id) (fun w => els_nil) ?_)
    refine T_pick [0, 2, 3, 4, 5] (by decide) rfl ?_
    refine T_loop (ι := Nat × Value × List (List Value) × (Nat → Prop)) (fun (j, v, css, _) => j ≤ r.kids.length ∧ v.oneCell' = true) (fun (j, v, _, _) => [(1, .pointer (some ⟨gn, 0, none⟩)), (4, .pointer (some ⟨g4, 0, none⟩)), (5, .pointer (some ⟨g5, 0, none⟩)), (19, .slice bk r.kids.length ck), (20, .int .i64 (r.kids.length : Int)), (21, .int .i64 (j : Int))])
      (fun (j, v, css, F) => [blkO gn #[.int .i64 ((nJ r n j : Nat) : Int)] 3, blkO g4 (rexC 0 C4.zero (.slice none 0 0) ++ ([.int .i64 0, .slice none 0 0] : List Value)).toArray 119, blkO g5 (numC r n (.slice bk r.kids.length ck) v).toArray 119, rowO 119 8 v j css.flatten, elsO numS F css ((kidsK r n).take j)]) (fun (j, _, _, _) => r.kids.length - j) (0, .slice none 0 0, [], fun _ => False) ⟨Nat.zero_le _, rfl⟩ (by repeat' (first | exact True.intro | refine And.intro rfl ?_)) (by dsimp only; rw [nJ_0]; rfl) ?_
    rintro ⟨j, v, css, F⟩ ⟨i1, i2⟩
    dsimp only at i1 i2 ⊢
    by_cases c1 : j < r.kids.length
    · obtain ⟨b, off, rfl, _, hr⟩ := hrk (by omega)
      obtain ⟨bj, cj, hrd, hkk, hkr⟩ := rkid_emb hr c1
      have hat := fun (L : List Own) j v hj => at_oldR (L := L) ho hrd j v hj
      have hnx := nJ_next r n c1
      have hnl := nJ_le r n c1
      have hks := kid_size c1
      have htk : (kidsK r n).take (j + 1) = (kidsK r n).take j ++ [(r.kids[j], nJ r n j)] := by
        have e := kidsK_at r n c1
        rw [List.take_succ_eq_append_getElem (by rw [kidsK_len]; exact c1), e]
      generalize r.kids[j] = e at *
      generalize nJ r n j = q at *
      generalize hm' : e.kids.length = m at *
      repeat (first
        | refine QV QP ?_ | refine QZ ?_ | refine qcT rfl ?_ | refine qcF rfl ?_ | refine E_blockX ?_ | refine E_blockO rfl ?_
        | refine QV (rr_idxc (j := j) Und.eq TyC.ty rfl rfl c1) ?_ | refine QV (rr_loadN TyC.ty rfl rfl (hat _)) ?_ | refine QV QL ?_ | refine QV QA ?_
        | refine QV (rr_nilc rfl) ?_ | refine QV QlT ?_ | refine QV QlF ?_ | refine QV QaA ?_)
      refine TL_new rfl fun g7 => ?_
      conv => arg 8; simp only [zA, zB, zC, zD, zE, zF, zG, zH, zI, rowS, ret, id_eq]
      refine TL_storeB (i := 5) (cs' := (rexC e.kind e.cls (.slice bj m cj)).toArray) rfl rfl rfl rfl rfl rfl ?_
      conv => arg 8; simp only [zA, zB, zC, zD, zE, zF, zG, zH, zI, rowS, ret, id_eq]
      repeat (first
        | refine QV QP ?_ | refine QZ ?_ | refine qcT rfl ?_ | refine qcF rfl ?_ | refine E_blockX ?_ | refine E_blockO rfl ?_ | refine QV QL ?_
        | refine QV QA ?_ | refine QV (rr_nilc rfl) ?_ | refine QV QlT ?_ | refine QV QlF ?_ | refine QV QaA ?_)
      (repeat refine T_seq ?_)
      refine T_ord ([blkO g7 (rexC e.kind e.cls (.slice bj m cj)).toArray 33]) (.calm 0 (.calm 2 (.calm 3 (.two 1 (.one 4 (.one 5 (.one 6 (.calm 7 (.one 8 (.done)))))) 4 (.two 1 (.one 5 (.one 6 (.calm 7 (.one 8 (.done))))) 5 (.one 1 (.one 6 (.calm 7 (.one 8 (.done)))))))))) (sub_pick [5] (by decide) rfl) (by kernel_rfl) (by kernel_rfl) (by intro c a d v w h; cases d <;> exact h) ?_
      repeat (first
        | ((first | refine TW_plain rfl rfl ?_ | refine TW_gmet rfl rfl rfl rfl ?_); first | refine QW QP ?_ | refine QW (rr_loadB (i := 0) TyC.ty rfl rfl rfl) ?_ | refine QW QL ?_ | refine QW QA ?_ | refine QW (rr_nilc rfl) ?_ | refine QW QlT ?_ | refine QW QlF ?_ | refine QW QaA ?_)
        | refine TW_done ?_)
      refine TW_two rfl rfl ?_ ?_
      · refine TL_val (rr_load1 TyC.ty rfl (at_blk (i := 2) rfl (v := v) rfl)) rfl rfl rfl (TW_on (sub_pick [5] (by decide) rfl) ?_)
        refine TW_one rfl (TL_callB [0] [1, 2, 3, 4, 5] (by decide) rfl rfl (he2 EntersC.en rfl rfl rfl) (fun w hm hb => IH e (by omega) (.slice bj m cj) q w _ hkk hkr (by omega) (ho.on hm (by intro o ho; simp at ho ⊢; simp [ho])) hb) rfl rfl rfl ?_)
        rintro ⟨vm, F2⟩ _
        conv => arg 8; simp only [zA, zB, zC, zD, zE, zF, zG, zH, zI, rowS, ret, id_eq, numSp]
        refine TL_know (i := 6) (φ := vm.oneCell' = true ∧ vm.cells = #[vm]) rfl (fun w h => nkO_one h) fun hvm => ?_
        refine TW_on (sub_pick [4] (by decide) rfl) ?_
        refine TW_one rfl (TL_one (cs := (numC e q (.slice bj m cj) vm).toArray) rfl rfl rfl rfl rfl fun g30 => ?_)
        conv => arg 8; simp only [zA, zB, zC, zD, zE, zF, zG, zH, zI, rowS, ret, id_eq]
        refine TW_on (sub_pick [4] (by decide) rfl) ?_
        refine TW_one rfl ?_
        refine TL_app1 (i := 2) (q := 7) rfl rfl rfl rfl rfl (numC_one rfl hvm.1) (by omega) (by omega) rfl fun v' => ?_
        conv => arg 8; simp only [zA, zB, zC, zD, zE, zF, zG, zH, zI, rowS, ret, id_eq]
        refine TL_slv (i := 2) rfl fun hv1 hv2 => ?_
        refine TW_on (sub_pick [4] (by decide) rfl) ?_
        repeat (first
          | ((first | refine TW_plain rfl rfl ?_ | refine TW_gmet rfl rfl rfl rfl ?_); first | refine QW QP ?_ | refine QW QL ?_ | refine QW QA ?_ | refine QW (rr_nilc rfl) ?_ | refine QW QlT ?_ | refine QW QlF ?_ | refine QW QaA ?_)
          | refine TW_done ?_)
        refine TW_one rfl (TL_store1 (i := 1) rfl rfl rfl hv1 hv2 rfl ?_)
        conv => arg 8; simp only [zA, zB, zC, zD, zE, zF, zG, zH, zI, rowS, ret, id_eq]
        refine TW_on (sub_pick [4] (by decide) rfl) ?_
        repeat (first
          | ((first | refine TW_plain rfl rfl ?_ | refine TW_gmet rfl rfl rfl rfl ?_); first | refine QW QP ?_ | refine QW QL ?_ | refine QW QA ?_ | refine QW (rr_nilc rfl) ?_ | refine QW QlT ?_ | refine QW QlF ?_ | refine QW QaA ?_)
          | refine TW_done ?_)
        repeat (first
          | refine QV QP ?_ | refine QZ ?_ | refine qcT rfl ?_ | refine qcF rfl ?_ | refine E_blockX ?_ | refine E_blockO rfl ?_ | refine QV QL ?_
          | refine QV QA ?_ | refine QV (rr_nilc rfl) ?_ | refine QV QlT ?_ | refine QV QlF ?_ | refine QV QaA ?_)
        refine E_merge (elsO numS (fun k => F k ∨ F2 k) (css ++ [numC e q (.slice bj m cj) vm]) ((kidsK r n).take j ++ [(e, q)])) 6 3 [5, 0, 1, 2] (by decide) rfl rfl rfl (fun k hk => hk.elim (fun h => by cases h) fun h => h.elim (fun h => .inr (.inr h)) fun h => .inl (.inr h)) (fun w hk he => ?_) ?_
        · obtain ⟨⟨v'', hv, h5⟩, h6⟩ := hk
          simp only [List.cons.injEq, and_true] at hv
          subst hv
          exact els_snoc he (num_iff.2 ⟨_, vm, rfl, rfl, h5⟩) h6
        exact E_round (j + 1, v', css ++ [numC e q (.slice bj m cj) vm], fun k => F k ∨ F2 k) ⟨by show j + 1 ≤ r.kids.length; omega, hv2⟩ (by show r.kids.length - (j + 1) < r.kids.length - j; omega) (by repeat' (first | exact True.intro | refine And.intro rfl ?_)) (by dsimp only; rw [hnx, htk, List.flatten_append]; rfl)
      · refine TL_callB [0] [1, 2, 3, 4, 5] (by decide) rfl rfl (he2 EntersC.en rfl rfl rfl) (fun w hm hb => IH e (by omega) (.slice bj m cj) q w _ hkk hkr (by omega) (ho.on hm (by intro o ho; simp at ho ⊢; simp [ho])) hb) rfl rfl rfl ?_
        rintro ⟨vm, F2⟩ _
        conv => arg 8; simp only [zA, zB, zC, zD, zE, zF, zG, zH, zI, rowS, ret, id_eq, numSp]
        refine TL_know (i := 6) (φ := vm.oneCell' = true ∧ vm.cells = #[vm]) rfl (fun w h => nkO_one h) fun hvm => ?_
        refine TW_on (sub_pick [4] (by decide) rfl) ?_
        refine TW_two rfl rfl ?_ ?_
        · refine TL_val (rr_load1 TyC.ty rfl (at_blk (i := 1) rfl (v := v) rfl)) rfl rfl rfl (TW_on (sub_pick [4] (by decide) rfl) ?_)
          refine TW_one rfl (TL_one (cs := (numC e q (.slice bj m cj) vm).toArray) rfl rfl rfl rfl rfl fun g30 => ?_)
          conv => arg 8; simp only [zA, zB, zC, zD, zE, zF, zG, zH, zI, rowS, ret, id_eq]
          refine TW_on (sub_pick [4] (by decide) rfl) ?_
          refine TW_one rfl ?_
          refine TL_app1 (i := 2) (q := 7) rfl rfl rfl rfl rfl (numC_one rfl hvm.1) (by omega) (by omega) rfl fun v' => ?_
          conv => arg 8; simp only [zA, zB, zC, zD, zE, zF, zG, zH, zI, rowS, ret, id_eq]
          refine TL_slv (i := 2) rfl fun hv1 hv2 => ?_
          refine TW_on (sub_pick [4] (by decide) rfl) ?_
          repeat (first
            | ((first | refine TW_plain rfl rfl ?_ | refine TW_gmet rfl rfl rfl rfl ?_); first | refine QW QP ?_ | refine QW QL ?_ | refine QW QA ?_ | refine QW (rr_nilc rfl) ?_ | refine QW QlT ?_ | refine QW QlF ?_ | refine QW QaA ?_)
            | refine TW_done ?_)
          refine TW_one rfl (TL_store1 (i := 1) rfl rfl rfl hv1 hv2 rfl ?_)
          conv => arg 8; simp only [zA, zB, zC, zD, zE, zF, zG, zH, zI, rowS, ret, id_eq]
          refine TW_on (sub_pick [4] (by decide) rfl) ?_
          repeat (first
            | ((first | refine TW_plain rfl rfl ?_ | refine TW_gmet rfl rfl rfl rfl ?_); first | refine QW QP ?_ | refine QW QL ?_ | refine QW QA ?_ | refine QW (rr_nilc rfl) ?_ | refine QW QlT ?_ | refine QW QlF ?_ | refine QW QaA ?_)
            | refine TW_done ?_)
          repeat (first
            | refine QV QP ?_ | refine QZ ?_ | refine qcT rfl ?_ | refine qcF rfl ?_ | refine E_blockX ?_ | refine E_blockO rfl ?_ | refine QV QL ?_
            | refine QV QA ?_ | refine QV (rr_nilc rfl) ?_ | refine QV QlT ?_ | refine QV QlF ?_ | refine QV QaA ?_)
          refine E_merge (elsO numS (fun k => F k ∨ F2 k) (css ++ [numC e q (.slice bj m cj) vm]) ((kidsK r n).take j ++ [(e, q)])) 6 3 [5, 0, 1, 2] (by decide) rfl rfl rfl (fun k hk => hk.elim (fun h => by cases h) fun h => h.elim (fun h => .inr (.inr h)) fun h => .inl (.inr h)) (fun w hk he => ?_) ?_
          · obtain ⟨⟨v'', hv, h5⟩, h6⟩ := hk
            simp only [List.cons.injEq, and_true] at hv
            subst hv
            exact els_snoc he (num_iff.2 ⟨_, vm, rfl, rfl, h5⟩) h6
          exact E_round (j + 1, v', css ++ [numC e q (.slice bj m cj) vm], fun k => F k ∨ F2 k) ⟨by show j + 1 ≤ r.kids.length; omega, hv2⟩ (by show r.kids.length - (j + 1) < r.kids.length - j; omega) (by repeat' (first | exact True.intro | refine And.intro rfl ?_)) (by dsimp only; rw [hnx, htk, List.flatten_append]; rfl)
        · refine TL_one (cs := (numC e q (.slice bj m cj) vm).toArray) rfl rfl rfl rfl rfl fun g30 => ?_
          conv => arg 8; simp only [zA, zB, zC, zD, zE, zF, zG, zH, zI, rowS, ret, id_eq]
          refine TW_on (sub_pick [4] (by decide) rfl) ?_
          refine TW_one rfl (TL_val (rr_load1 TyC.ty rfl (at_blk (i := 1) rfl (v := v) rfl)) rfl rfl rfl (TW_on (sub_pick [4] (by decide) rfl) ?_))
          refine TW_one rfl ?_
          refine TL_app1 (i := 2) (q := 7) rfl rfl rfl rfl rfl (numC_one rfl hvm.1) (by omega) (by omega) rfl fun v' => ?_
          conv => arg 8; simp only [zA, zB, zC, zD, zE, zF, zG, zH, zI, rowS, ret, id_eq]
          refine TL_slv (i := 2) rfl fun hv1 hv2 => ?_
          refine TW_on (sub_pick [4] (by decide) rfl) ?_
          repeat (first
            | ((first | refine TW_plain rfl rfl ?_ | refine TW_gmet rfl rfl rfl rfl ?_); first | refine QW QP ?_ | refine QW QL ?_ | refine QW QA ?_ | refine QW (rr_nilc rfl) ?_ | refine QW QlT ?_ | refine QW QlF ?_ | refine QW QaA ?_)
            | refine TW_done ?_)
          refine TW_one rfl (TL_store1 (i := 1) rfl rfl rfl hv1 hv2 rfl ?_)
          conv => arg 8; simp only [zA, zB, zC, zD, zE, zF, zG, zH, zI, rowS, ret, id_eq]
          refine TW_on (sub_pick [4] (by decide) rfl) ?_
          repeat (first
            | ((first | refine TW_plain rfl rfl ?_ | refine TW_gmet rfl rfl rfl rfl ?_); first | refine QW QP ?_ | refine QW QL ?_ | refine QW QA ?_ | refine QW (rr_nilc rfl) ?_ | refine QW QlT ?_ | refine QW QlF ?_ | refine QW QaA ?_)
            | refine TW_done ?_)
          repeat (first
            | refine QV QP ?_ | refine QZ ?_ | refine qcT rfl ?_ | refine qcF rfl ?_ | refine E_blockX ?_ | refine E_blockO rfl ?_ | refine QV QL ?_
            | refine QV QA ?_ | refine QV (rr_nilc rfl) ?_ | refine QV QlT ?_ | refine QV QlF ?_ | refine QV QaA ?_)
          refine E_merge (elsO numS (fun k => F k ∨ F2 k) (css ++ [numC e q (.slice bj m cj) vm]) ((kidsK r n).take j ++ [(e, q)])) 6 3 [5, 0, 1, 2] (by decide) rfl rfl rfl (fun k hk => hk.elim (fun h => by cases h) fun h => h.elim (fun h => .inr (.inr h)) fun h => .inl (.inr h)) (fun w hk he => ?_) ?_
          · obtain ⟨⟨v'', hv, h5⟩, h6⟩ := hk
            simp only [List.cons.injEq, and_true] at hv
            subst hv
            exact els_snoc he (num_iff.2 ⟨_, vm, rfl, rfl, h5⟩) h6
          exact E_round (j + 1, v', css ++ [numC e q (.slice bj m cj) vm], fun k => F k ∨ F2 k) ⟨by show j + 1 ≤ r.kids.length; omega, hv2⟩ (by show r.kids.length - (j + 1) < r.kids.length - j; omega) (by repeat' (first | exact True.intro | refine And.intro rfl ?_)) (by dsimp only; rw [hnx, htk, List.flatten_append]; rfl)
    · obtain rfl : j = r.kids.length := by omega
      rw [List.take_of_length_le (by rw [kidsK_len]; omega), nJ_all]
      repeat (first
        | refine QV QP ?_ | refine QZ ?_ | refine qcT rfl ?_ | refine qcF rfl ?_ | refine E_blockX ?_ | refine E_blockO rfl ?_
        | refine QV (rr_loadB (i := 2) TyC.ty rfl rfl rfl) ?_ | refine QV QL ?_ | refine QV QA ?_ | refine QV (rr_nilc rfl) ?_ | refine QV QlT ?_
        | refine QV QlF ?_ | refine QV QaA ?_)
      refine TL_storeB (i := 1) (cs' := (numC r n (.slice bk r.kids.length ck) v).toArray) rfl rfl rfl rfl (numC_one rfl i2) rfl ?_
      conv => arg 8; simp only [zA, zB, zC, zD, zE, zF, zG, zH, zI, rowS, ret, id_eq]
      repeat (first
        | refine QV QP ?_ | refine QZ ?_ | refine qcT rfl ?_ | refine qcF rfl ?_ | refine E_blockX ?_ | refine E_blockO rfl ?_ | refine QV QL ?_
        | refine QV QA ?_ | refine QV (rr_nilc rfl) ?_ | refine QV QlT ?_ | refine QV QlF ?_ | refine QV QaA ?_)
      refine E_merge (nkO (Or1 F v) v (kidsK r n)) 3 4 [0, 1, 2] (by decide) rfl rfl rfl (fun k hk => ?_) (fun w hk he => ?_) ?_
      · rcases hk with hk | hk | hk
        · cases hk
        · exact .inr (.inr hk)
        · exact .inl (.inl hk)
      · have hl : (kidsK r n).length = r.kids.length := kidsK_len r n
        rw [← hl] at hk
        exact ⟨⟨v, rfl, slf_of hk he (by decide)⟩, slO_lt hk he⟩
      refine E_retc1 (i := 1) rfl rfl rfl rfl fun w hm => ?_
      exact hm.meetsB (S := numSp gn r n (.slice bk r.kids.length ck)) (v, Or1 F v) trivial [0, 3] (by decide) rfl
end Go.Proofs.YtkcnoompimohnaaDoor.eng

/- KeyG -/
namespace Go.Proofs.YtkcnoompimohnaaDoor.eng
open Go.RowKit kit mix
theorem mapM_some {α β : Type} {f : α → Option β} : ∀ {l : List α}, (∀ x ∈ l, ∃ y, f x = some y) → ∃ ys, l.mapM f = some ys
  | [], _ => ⟨[], by simp⟩
  | a :: l, h => by
    obtain ⟨y, hy⟩ := h a (by simp)
    obtain ⟨ys, hys⟩ := mapM_some (l := l) fun x hx => h x (by simp [hx])
    exact ⟨y :: ys, by simp [List.mapM_cons, hy, hys]⟩
section
variable {P : Program}
def KL (P : Program) (d : Nat) (t : TypeId) (cs : List Value) : Prop := ∃ ls, P.keyLits d t cs = some ls
theorem kl_int {d : Nat} {t : TypeId} {q : IntKind} {n : Int} (ht : P.underlying t = some (.int q)) (h0 : q.min ≤ n) (h1 : n ≤ q.max) : KL P (d + 1) t [.int q n] := by
  refine ⟨[.int q n], ?_⟩
  have hw : (Lit.int q n).wf = true := by simp [Lit.wf, h0, h1]
  simp [Program.keyLits, ht, hw]
theorem kl_arr {d n : Nat} {t e : TypeId} {cs : List Value} (ht : P.underlying t = some (.array n e)) (hl : cs.length = P.cellsOf t) (h : ∀ i, i < n → KL P d e ((cs.drop (i * P.cellsOf e)).take (P.cellsOf e))) : KL P (d + 1) t cs := by
  obtain ⟨ys, hy⟩ := mapM_some (f := fun i => P.keyLits d e ((cs.drop (i * P.cellsOf e)).take (P.cellsOf e))) (l := List.range n) fun i hi => h i (List.mem_range.1 hi)
  refine ⟨ys.flatten, ?_⟩
  unfold Program.keyLits
  simp only [ht]
  rw [if_pos hl, hy]; rfl
theorem kl_struct {d : Nat} {t : TypeId} {fs : Array Field} {cs : List Value} (ht : P.underlying t = some (.struct fs)) (hl : cs.length = P.cellsOf t) (hn : fs.all (·.name != "_") = true) (h : ∀ f ∈ fs.toList, KL P d f.type ((cs.drop f.offset).take (P.cellsOf f.type))) : KL P (d + 1) t cs := by
  obtain ⟨ys, hy⟩ := mapM_some (f := fun f : Field => P.keyLits d f.type ((cs.drop f.offset).take (P.cellsOf f.type))) (l := fs.toList) h
  refine ⟨ys.flatten, ?_⟩
  unfold Program.keyLits
  simp only [ht]
  rw [if_pos ⟨hl, hn⟩, hy]; rfl
theorem key_ex {t : TypeId} {cs : List Value} {m : Nat} (hw : (match P.underlying t with | some (.array _ _) | some (.struct _) => true | _ => false) = true) (hk : P.keyType t = true) (hl : cs.length = P.cellsOf t) (hm : ∃ d, P.types.size + 1 = d + m) (h : ∀ d, KL P (d + m) t cs) : ∃ l, keyOf P t (.agg cs.toArray) = some l := by
  obtain ⟨d, e⟩ := hm
  obtain ⟨ls, hls⟩ := h d
  refine ⟨.string (keyBytes ls), ?_⟩
  have hf : (Value.agg cs.toArray).formed P t = true := by
    unfold Value.formed
    split at hw <;> simp_all
  have hc : (Value.agg cs.toArray).cells.toList = cs := rfl
  have key : (if (P.keyType t && (Value.agg cs.toArray).formed P t) = true then (P.keyLits (P.types.size + 1) t (Value.agg cs.toArray).cells.toList).map (fun ls => Lit.string (keyBytes ls)) else none) = some (.string (keyBytes ls)) := by
    rw [hk, hf, hc, e, hls]; rfl
  unfold keyOf
  split at hw
  · rename_i h1; rw [h1]; exact key
  · rename_i h1; rw [h1]; exact key
  · cases hw
end
theorem tryLaid : laidOutB Tryd.prog = true := by kernel_rfl
theorem trySize (m : Nat) (h : Nat.ble m (Tryd.prog.types.size + 1) = true) : ∃ d, Tryd.prog.types.size + 1 = d + m := ⟨Tryd.prog.types.size + 1 - m, by have := Nat.le_of_ble_eq_true h; omega⟩
end Go.Proofs.YtkcnoompimohnaaDoor.eng

