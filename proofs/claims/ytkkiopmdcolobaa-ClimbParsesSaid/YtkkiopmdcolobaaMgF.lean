/- Part 6 of what ClimbParses needs: ClimbD, Opens, BeginL, ClimbM, ClimbE, EachF, EvT, DownUp, EvP, EvQ, CountE, ReadD. -/
import Derived.Test.YtkkiopmdcolobaaMgE
import Derived.WalkKit
import Derived.WalkSpells
import Derived.WalkLawsBesides
import Derived.Deep.RegionLaw
import Derived.Deep.AppendLies
import Derived.Deep.QuietTactic
import Derived.BigQuiet
import Derived.Deep.DeepCutAuto
import Derived.Lib.Hide
import Derived.Test.YtkkiopmdcolobaaRows
import Derived.ProofKit
import Derived.OpenShut
import Derived.ShutString
import Derived.SizedLaws
import Derived.JoinedCond
import Derived.Deep.CondSized
import Derived.Deep.Quiet
import Derived.StillTail
import Derived.Deep.LoopGhost
import Derived.Laws.BitsLemmas
import Derived.Laws.BytesString
import Derived.Test.YtkkiopmdcolobaaProg
import Derived.Laws.StructEq
import Derived.Laws.MakeOwn
import Derived.Laws.AppendOwn
import Derived.Laws.Entries
import Derived.Maps.OwnSet
import Derived.DeepKeys4
import Derived.WideKeyEntry
/- ClimbD -/
namespace Go.Proofs.Ytkkiopmdcolobaa.eng
open Go.RowKit kit mix gramL treeL climbL
theorem build_sy2 (w : World) : (Instr.build 47 #[(0, .int .i64 2)]).run Try.prog w = .ok (.agg (symC (2, 0)).toArray) w := by
  unfold symC; go_simp
theorem build_cl0 (g : Nat) (w : World) : (Instr.build 51 #[(0, .slice (some ⟨g, 0, none⟩) 1 1)]).run Try.prog w = .ok (clV (.slice (some ⟨g, 0, none⟩) 1 1) 0 0 false) w := by
  unfold clV; go_simp
def beginCS : Spec Value := ⟨fun _ => True, fun vt => clV vt 0 0 false, fun vt => [tdO vt [.sym (2, 0)]]⟩
set_option maxRecDepth 100000 in
theorem climbBegin_calls (w : World) : Calls Try.prog 14 #[] w (Meets beginCS w) := by
  refine enter (args := []) (n := 5) Try.func14 rfl rfl rfl ?_
  refine T_seq (T_region (TL_new rfl fun g2 => ?_))
  conv => arg 8; simp only [zA, zB, zC, zD, zE, zF, zG, zH, zI, rowS, ret, id_eq]
  repeat (first
    | refine TL_nil ?_ | refine T_seq ?_ | refine T_region ?_ | refine T_ret ?_ | refine E_then ?_ | refine E_thenR ?_
    | refine qv rfl (rr_build rfl build_sy2) rfl rfl ?_ | refine qv rfl (rr_build rfl (build_tdS (2, 0))) rfl rfl ?_)
  refine TL_litN (cs := (tdC (.sym (2, 0))).toArray) [tdV (.sym (2, 0))] rfl rfl rfl (by intro v hv; simp at hv; subst hv; rfl) rfl rfl rfl fun g3 => ?_
  conv => arg 8; simp only [zA, zB, zC, zD, zE, zF, zG, zH, zI, rowS, ret, id_eq]
  repeat (first
    | refine TL_nil ?_ | refine T_seq ?_ | refine T_region ?_ | refine T_ret ?_ | refine E_then ?_ | refine E_thenR ?_
    | refine qv rfl (rr_build rfl (build_cl0 _)) rfl rfl ?_)
  refine TL_storeB (i := 0) (cs' := #[.slice (some ⟨g3, 0, none⟩) 1 1, .int .i64 0, .int .i64 0, .bool false]) rfl rfl rfl rfl rfl rfl ?_
  conv => arg 8; simp only [zA, zB, zC, zD, zE, zF, zG, zH, zI, rowS, ret, id_eq]
  refine TL_toRow (i := 1) 4 rfl rfl (by omega) ?_
  conv => arg 8; simp only [zA, zB, zC, zD, zE, zF, zG, zH, zI, rowS, ret, id_eq]
  repeat (first
    | refine TL_nil ?_ | refine T_seq ?_ | refine T_region ?_ | refine T_ret ?_ | refine E_then ?_ | refine E_thenR ?_)
  exact E_retc1 (i := 0) rfl rfl rfl rfl fun w hm => hm.meets (S := beginCS) (.slice (some ⟨g3, 0, none⟩) 1 1) trivial [1] (by decide) rfl
theorem build_cw (t n : Int) (bp : Option Addr) (mp cp : Nat) (bt : Option Addr) (mt ct : Nat) (w : World) : (Instr.build 95 #[(0, graV t n (.slice bp mp cp)), (1, .slice bt mt ct)]).run Try.prog w = .ok (.agg (cwV t n (.slice bp mp cp) (.slice bt mt ct) (.slice none 0 0) 0)) w := by
  unfold graV cwV; go_simp
def begunS (t n : Int) (vp : Value) (st : List TD) : Spec (Nat × Value) := ⟨fun _ => True, fun x => .pointer (some ⟨x.1, 0, none⟩), fun x => [cwO x.1 t n vp x.2 (.slice none 0 0) 0, tdO x.2 st]⟩
set_option maxHeartbeats 2000000 in
theorem begun_calls (t n : Int) (vp vt : Value) (st : List TD) (seen over : Int) (done : Bool) (w : World) (ht : TdR w vt st) (hl : st.length ≤ 60) (hvp : ∃ b m c, vp = .slice b m c) :
    Calls Try.prog 30 #[graV t n vp, clV vt seen over done] w (Meets (begunS t n vp st) w) := by
  have hcl := fun w' (hg : Gr w w') => cloneTdS_calls vt st.reverse w' (by rw [List.length_reverse]; exact ht.gr hg) (by rw [List.length_reverse]; omega)
  rw [List.length_reverse] at hcl
  obtain ⟨bp, mp, cp, rfl⟩ := hvp
  refine enter (args := [graV t n (.slice bp mp cp), clV vt seen over done]) (n := 11) Try.func30 rfl rfl rfl ?_
  refine T_seq (T_region (TL_box rfl rfl rfl fun g0 => TL_box rfl rfl rfl fun g1 => ?_))
  conv => arg 8; simp only [zA, zB, zC, zD, zE, zF, zG, zH, zI, rowS, ret, id_eq]
  repeat (first
    | refine qv rfl (qp rfl) rfl rfl ?_ | refine TL_nil ?_ | refine T_seq ?_ | refine T_region ?_ | refine T_ret ?_ | refine E_then ?_ | refine E_thenR ?_
    | refine qv rfl (qfld FldC.fld rfl rfl) rfl rfl ?_)
  refine T_ord ([blkO g0 (graV t n (.slice bp mp cp)).cells 24, blkO g1 (clV vt seen over done).cells 51]) (.calm 0 (.calm 1 (.calm 2 (.one 3 (.calm 4 (.one 5 (.calm 6 (.done)))))))) (fun _ h => h) (by kernel_rfl) (by kernel_rfl) (by intro c a d v w h; cases d <;> exact h) ?_
  repeat (first
    | ((first | refine TW_plain rfl rfl ?_ | refine TW_gmet rfl rfl rfl rfl ?_); first | refine TN_val (qp rfl) rfl rfl ?_ | refine TN_val (rr_loadB (i := 0) TyC.ty rfl rfl rfl) rfl rfl ?_ | refine TN_val (rr_load1 (v := vt) TyC.ty rfl (at_blk (i := 1) rfl rfl)) rfl rfl ?_ | refine TN_val (qfld FldC.fld rfl rfl) rfl rfl ?_)
    | refine TW_done ?_)
  refine TW_one rfl ?_
  refine TL_call (he1 EntersC.en rfl rfl) (fun w hm => hcl _ hm.below) rfl rfl rfl ?_
  intro vt' _
  conv => arg 8; simp only [zA, zB, zC, zD, zE, zF, zG, zH, zI, rowS, ret, id_eq]
  refine TL_rowv (i := 2) rfl fun bt ct hv q1 q2 => ?_
  subst hv
  refine TW_on (sub_pick [0, 1] (by decide) rfl) ?_
  repeat (first
    | ((first | refine TW_plain rfl rfl ?_ | refine TW_gmet rfl rfl rfl rfl ?_); first | refine TN_val (qp rfl) rfl rfl ?_ | refine TN_val (rr_build rfl (build_cw _ _ _ _ _ _ _ _)) rfl rfl ?_ | refine TN_val (qfld FldC.fld rfl rfl) rfl rfl ?_)
    | refine TW_done ?_)
  refine TW_one rfl (TL_box rfl rfl rfl fun g2 => ?_)
  conv => arg 8; simp only [zA, zB, zC, zD, zE, zF, zG, zH, zI, rowS, ret, id_eq]
  refine TW_on (sub_pick [0, 1] (by decide) rfl) ?_
  repeat (first
    | ((first | refine TW_plain rfl rfl ?_ | refine TW_gmet rfl rfl rfl rfl ?_); first | refine TN_val (qp rfl) rfl rfl ?_ | refine TN_val (qfld FldC.fld rfl rfl) rfl rfl ?_)
    | refine TW_done ?_)
  repeat (first
    | refine qv rfl (qp rfl) rfl rfl ?_ | refine TL_nil ?_ | refine T_seq ?_ | refine T_region ?_ | refine T_ret ?_ | refine E_then ?_ | refine E_thenR ?_
    | refine qv rfl (qfld FldC.fld rfl rfl) rfl rfl ?_)
  exact E_ret1 rfl rfl fun w hm => hm.meets (S := begunS t n (.slice bp mp cp) st) (g2, .slice bt st.length ct) trivial [3, 2] (by decide) rfl
theorem push_bad {l : List gramL.Prod} {nx : Int → Int} {st : List TD} {seen : Nat} {t : Int} {st1 : List TD} {out1 : List Sym} {a1 : Nat} {e : Int} (hD : downF l nx 2001 st [] 0 = (st1, out1, a1, e)) (he : e ≠ 0) : pushF l nx st seen t = (e, [], []) := by
  unfold pushF; rw [hD]; dsimp only; rw [if_pos he]
theorem push_nil {l : List gramL.Prod} {nx : Int → Int} {st : List TD} {seen : Nat} {t : Int} {out1 : List Sym} {a1 : Nat} (hD : downF l nx 2001 st [] 0 = ([], out1, a1, 0)) : pushF l nx st seen t = (13, [], []) := by
  unfold pushF; rw [hD]; dsimp only; rw [if_neg (by decide)]
theorem push_sym {l : List gramL.Prod} {nx : Int → Int} {st : List TD} {seen : Nat} {t : Int} {x : Sym} {r : List TD} {out1 : List Sym} {a1 : Nat} (hD : downF l nx 2001 st [] 0 = (.sym x :: r, out1, a1, 0)) : pushF l nx st seen t = if x.2 ≠ t then (13, [], []) else if a1 + 1 ≤ 2000 ∧ (closesF r (out1 ++ [(2, (seen : Int))]) (a1 + 1)).2.2.2 = true then (0, (closesF r (out1 ++ [(2, (seen : Int))]) (a1 + 1)).1, (closesF r (out1 ++ [(2, (seen : Int))]) (a1 + 1)).2.1) else (14, [], []) := by
  unfold pushF; rw [hD]; dsimp only; rw [if_neg (by decide)]
theorem end_bad {l : List gramL.Prod} {nx : Int → Int} {st : List TD} {st1 : List TD} {out1 : List Sym} {a1 : Nat} {e : Int} (hD : downF l nx 2001 st [] 0 = (st1, out1, a1, e)) (he : e ≠ 0) : endF l nx st = (e, []) := by
  unfold endF; rw [hD]; dsimp only; rw [if_pos he]
theorem end_nil {l : List gramL.Prod} {nx : Int → Int} {st : List TD} {out1 : List Sym} {a1 : Nat} (hD : downF l nx 2001 st [] 0 = ([], out1, a1, 0)) : endF l nx st = (0, out1) := by
  unfold endF; rw [hD]; dsimp only; rw [if_neg (by decide)]
theorem end_sym {l : List gramL.Prod} {nx : Int → Int} {st : List TD} {x : Sym} {r : List TD} {out1 : List Sym} {a1 : Nat} (hD : downF l nx 2001 st [] 0 = (.sym x :: r, out1, a1, 0)) : endF l nx st = (13, []) := by
  unfold endF; rw [hD]; dsimp only; rw [if_neg (by decide)]
/-- a push's answer -/
def pushS (seen : Int) (R : Int × List TD × List Sym) : Spec (Value × Value) :=
  ⟨fun _ => True, fun x => if R.1 = 0 then .tuple #[clV x.1 (seen + 1) 0 false, x.2, .int .i64 0] else .tuple #[clV (.slice none 0 0) seen R.1 false, .slice none 0 0, .int .i64 R.1], fun x => if R.1 = 0 then [tdO x.1 R.2.1, evO x.2 R.2.2] else []⟩
theorem build_clE (seen e : Int) (w : World) : (Instr.build 51 #[(1, .int .i64 seen), (2, .int .i64 e)]).run Try.prog w = .ok (clV (.slice none 0 0) seen e false) w := by
  unfold clV; go_simp
theorem build_clN (b : Option Addr) (m c : Nat) (seen : Int) (w : World) : (Instr.build 51 #[(0, .slice b m c), (1, .int .i64 seen)]).run Try.prog w = .ok (clV (.slice b m c) seen 0 false) w := by
  unfold clV; go_simp
set_option maxHeartbeats 4000000 in
theorem climbPush_calls (v vr vt : Value) (g : Gram) (ll : List (List Int)) (T N : Nat) (st : List TD) (seen t : Nat) (w : World) (h : GraR (fun k => k < w.heap.size) w v g) (hr : RowsR w vr ll) (ht : TdR w vt st) (h0 : chkL g ll = 0) (hg : checkG g = 0) (hT : TabOk g ll T N) (hs : ∀ d ∈ st, okTD g d) (hl : st.length ≤ 60) (h1 : seen ≤ 1000000) (h2 : t < T) :
    Calls Try.prog 15 #[v, vr, clV vt (seen : Int) 0 false, .int .i64 (t : Int)] w (Meets (pushS (seen : Int) (pushF g.prods (nxL ll t) st seen (t : Int))) w) := by
  have hck := fun w' (hg' : Gr w w') => climbCheck_calls v vr vt g ll st (seen : Int) (t : Int) w' (h.gr hg') (hr.gr hg') (ht.gr hg') h0 hs hl (by omega) (by omega) (by omega) (by have := hT.terms; omega)
  have hterm := hT.terms
  obtain ⟨vp, rfl, hp, _⟩ := h
  have hbg := fun w' (hg' : Gr w w') => begun_calls g.terms g.nons vp vt st (seen : Int) 0 false w' (ht.gr hg') hl (by obtain ⟨b, c, e, _⟩ := hp; exact ⟨b, _, c, e⟩)
  have hdw := fun gw vt0 vo0 w' B ho hm => wdown_calls w gw g.terms g.nons vp vr g ll T N t hp hr hg hT (by omega) vt0 vo0 st w' B hs hl ho hm
  have hdl := fun R => @down_len g.prods (nxL ll t) 2001 st [] 0 R
  have hdt := fun R => @down_top g.prods (nxL ll t) 2001 st [] 0 R
  have hde := @down_err g.prods (nxL ll t) 2001 st [] 0
  generalize hD : downF g.prods (nxL ll t) 2001 st [] 0 = D at *
  obtain ⟨st1, out1, a1, e⟩ := D
  have hdl := fun h => hdl _ rfl h hl (by omega)
  have hdt := fun h => hdt _ rfl h
  dsimp only at *
  refine enter (args := [graV g.terms g.nons vp, vr, clV vt (seen : Int) 0 false, .int .i64 (t : Int)]) (n := 96) Try.func15 rfl rfl rfl ?_
  refine T_seq (T_region (TL_box rfl rfl rfl fun g0 => TL_box rfl rfl rfl fun g1 => TL_new rfl fun g2 => ?_))
  conv => arg 8; simp only [zA, zB, zC, zD, zE, zF, zG, zH, zI, rowS, ret, id_eq]
  repeat (first
    | refine qv rfl (qp rfl) rfl rfl ?_ | refine TL_nil ?_ | refine T_seq ?_ | refine T_region ?_ | refine qcT rfl ?_ | refine qcF rfl ?_ | refine T_skip ?_
    | refine T_ret ?_ | refine E_then ?_ | refine E_thenR ?_ | refine qs rfl rfl rfl rfl rfl rfl ?_
    | ((try refine qg rfl rfl rfl ?_); first | refine qv rfl (qp rfl) rfl rfl ?_ | refine qv rfl (rr_load1 (v := .int .i64 g.terms) TyC.ty rfl (at_blk (i := 0) rfl rfl)) rfl rfl ?_ | refine qv rfl (rr_loadB (i := 0) TyC.ty rfl rfl rfl) rfl rfl ?_ | refine qv rfl (rr_loadB (i := 1) TyC.ty rfl rfl rfl) rfl rfl ?_ | refine qv rfl (qfld FldC.fld rfl rfl) rfl rfl ?_ | refine qv rfl (rr_not rfl rfl) rfl rfl ?_ | refine qv rfl (rr_nilc rfl) rfl rfl ?_ | refine qv rfl (rr_eql rfl rfl (qT (by omega))) rfl rfl ?_ | refine qv rfl (rr_eql rfl rfl (qF (by omega))) rfl rfl ?_ | refine qv rfl (rr_neq rfl rfl (qT (by omega))) rfl rfl ?_ | refine qv rfl (rr_neq rfl rfl (qF (by omega))) rfl rfl ?_ | refine qv rfl (rr_add64 rfl rfl (by omega) (by omega) rfl) rfl rfl ?_ | refine qv rfl (qlen Und.eq rfl) rfl rfl ?_ | refine qv rfl (rr_sub64 rfl rfl (by omega) (by omega) rfl) rfl rfl ?_))
  refine TL_call (he4 EntersC.en rfl rfl rfl rfl rfl) (fun w hm => hck _ hm.below) rfl rfl rfl ?_
  intro _ _
  conv => arg 8; simp only [zA, zB, zC, zD, zE, zF, zG, zH, zI, rowS, ret, id_eq]
  repeat (first
    | refine qv rfl (qp rfl) rfl rfl ?_ | refine TL_nil ?_ | refine T_seq ?_ | refine T_region ?_ | refine qcT rfl ?_ | refine qcF rfl ?_ | refine T_skip ?_
    | refine T_ret ?_ | refine E_then ?_ | refine E_thenR ?_ | refine qs rfl rfl rfl rfl rfl rfl ?_
    | ((try refine qg rfl rfl rfl ?_); first | refine qv rfl (qp rfl) rfl rfl ?_ | refine qv rfl (rr_loadB (i := 0) TyC.ty rfl rfl rfl) rfl rfl ?_ | refine qv rfl (rr_loadB (i := 1) TyC.ty rfl rfl rfl) rfl rfl ?_ | refine qv rfl (qfld FldC.fld rfl rfl) rfl rfl ?_ | refine qv rfl (rr_not rfl rfl) rfl rfl ?_ | refine qv rfl (rr_nilc rfl) rfl rfl ?_ | refine qv rfl (rr_eql rfl rfl (qT (by omega))) rfl rfl ?_ | refine qv rfl (rr_eql rfl rfl (qF (by omega))) rfl rfl ?_ | refine qv rfl (rr_neq rfl rfl (qT (by omega))) rfl rfl ?_ | refine qv rfl (rr_neq rfl rfl (qF (by omega))) rfl rfl ?_ | refine qv rfl (rr_add64 rfl rfl (by omega) (by omega) rfl) rfl rfl ?_ | refine qv rfl (qlen Und.eq rfl) rfl rfl ?_ | refine qv rfl (rr_sub64 rfl rfl (by omega) (by omega) rfl) rfl rfl ?_))
  refine TL_call (he2 EntersC.en rfl rfl rfl) (fun w hm => hbg _ hm.below) rfl rfl rfl ?_
  rintro ⟨gw, vt1⟩ _
  conv => arg 8; simp only [zA, zB, zC, zD, zE, zF, zG, zH, zI, rowS, ret, id_eq, begunS]
  repeat (first
    | refine qv rfl (qp rfl) rfl rfl ?_ | refine TL_nil ?_ | refine T_seq ?_ | refine T_region ?_ | refine qcT rfl ?_ | refine qcF rfl ?_ | refine T_skip ?_
    | refine T_ret ?_ | refine E_then ?_ | refine E_thenR ?_ | refine qs rfl rfl rfl rfl rfl rfl ?_
    | ((try refine qg rfl rfl rfl ?_); first | refine qv rfl (qp rfl) rfl rfl ?_ | refine qv rfl (qfld FldC.fld rfl rfl) rfl rfl ?_ | refine qv rfl (rr_not rfl rfl) rfl rfl ?_ | refine qv rfl (rr_nilc rfl) rfl rfl ?_ | refine qv rfl (rr_eql rfl rfl (qT (by omega))) rfl rfl ?_ | refine qv rfl (rr_eql rfl rfl (qF (by omega))) rfl rfl ?_ | refine qv rfl (rr_neq rfl rfl (qT (by omega))) rfl rfl ?_ | refine qv rfl (rr_neq rfl rfl (qF (by omega))) rfl rfl ?_ | refine qv rfl (rr_add64 rfl rfl (by omega) (by omega) rfl) rfl rfl ?_ | refine qv rfl (qlen Und.eq rfl) rfl rfl ?_ | refine qv rfl (rr_sub64 rfl rfl (by omega) (by omega) rfl) rfl rfl ?_))
  refine TL_nilrow 39 2 ?_
  conv => arg 8; simp only [zA, zB, zC, zD, zE, zF, zG, zH, zI, rowS, ret, id_eq]
  refine TL_callB [3, 4, 5] [0, 1, 2] (by decide) rfl rfl (he3 EntersC.en rfl rfl rfl rfl) (fun w' hm hb => hdw gw vt1 _ w' _ ((Old.self w).on hm fun o h => pick_mem h) hb) rfl rfl rfl ?_
  rintro ⟨vt2, vo2⟩ _
  conv => arg 8; simp only [zA, zB, zC, zD, zE, zF, zG, zH, zI, rowS, ret, id_eq, dwS]
  conv => arg 7; simp only [dwS]
  rcases hde with rfl | rfl | rfl
  · obtain ⟨hd1, hd2, hd3, hd4⟩ := hdl rfl
    rcases hdt rfl with rfl | ⟨x, r, rfl, hx⟩
    · rw [push_nil hD]
      repeat (first
        | refine qv rfl (qp rfl) rfl rfl ?_ | refine TL_nil ?_ | refine T_seq ?_ | refine T_region ?_ | refine qcT rfl ?_ | refine qcF rfl ?_ | refine T_skip ?_
        | refine T_ret ?_ | refine E_then ?_ | refine E_thenR ?_ | refine qs rfl rfl rfl rfl rfl rfl ?_
        | ((try refine qg rfl rfl rfl ?_); first | refine qv rfl (qp rfl) rfl rfl ?_ | refine qv rfl (qfld FldC.fld rfl rfl) rfl rfl ?_ | refine qv rfl (rr_not rfl rfl) rfl rfl ?_ | refine qv rfl (rr_nilc rfl) rfl rfl ?_ | refine qv rfl (rr_eql rfl rfl (qT (by omega))) rfl rfl ?_ | refine qv rfl (rr_eql rfl rfl (qF (by omega))) rfl rfl ?_ | refine qv rfl (rr_neq rfl rfl (qT (by omega))) rfl rfl ?_ | refine qv rfl (rr_neq rfl rfl (qF (by omega))) rfl rfl ?_ | refine qv rfl (rr_add64 rfl rfl (by omega) (by omega) rfl) rfl rfl ?_ | refine qv rfl (qlen Und.eq rfl) rfl rfl ?_ | refine qv rfl (rr_sub64 rfl rfl (by omega) (by omega) rfl) rfl rfl ?_))
      refine T_ord ([cwO gw g.terms g.nons vp vt2 vo2 a1, tdO vt2 []]) (.calm 0 (.calm 1 (.calm 2 (.calm 3 (.calm 4 (.calm 5 (.calm 6 (.calm 7 (.calm 8 (.calm 9 (.calm 10 (.calm 11 (.calm 12 (.calm 13 (.calm 14 (.calm 15 (.calm 16 (.calm 17 (.calm 18 (.calm 19 (.calm 20 (.calm 21 (.calm 22 (.calm 23 (.calm 24 (.calm 25 (.calm 26 (.calm 27 (.done))))))))))))))))))))))))))))) (sub_pick [3, 4] (by decide) rfl) (by kernel_rfl) (by kernel_rfl) (by intro c a d v w h; cases d <;> exact h) ?_
      repeat (first
        | ((first | refine TW_plain rfl rfl ?_ | refine TW_gmet rfl rfl rfl rfl ?_); first | refine TN_val (qp rfl) rfl rfl ?_ | refine TN_val (rr_load1 (v := vt2) TyC.ty rfl (at_blk (i := 0) rfl rfl)) rfl rfl ?_ | refine TN_val (rr_eql (b := true) rfl rfl rfl) rfl rfl ?_ | refine TN_val (qfld FldC.fld rfl rfl) rfl rfl ?_ | refine TN_val (rr_not rfl rfl) rfl rfl ?_ | refine TN_val (rr_nilc rfl) rfl rfl ?_ | refine TN_val (rr_eql rfl rfl (qT (by omega))) rfl rfl ?_ | refine TN_val (rr_eql rfl rfl (qF (by omega))) rfl rfl ?_ | refine TN_val (rr_neq rfl rfl (qT (by omega))) rfl rfl ?_ | refine TN_val (rr_neq rfl rfl (qF (by omega))) rfl rfl ?_ | refine TN_val (rr_add64 rfl rfl (by omega) (by omega) rfl) rfl rfl ?_ | refine TN_val (rr_rowlen (i := 1) Und.eq rfl rfl) rfl rfl ?_ | refine TN_val (qlen Und.eq rfl) rfl rfl ?_ | refine TN_val (rr_sub64 rfl rfl (by omega) (by omega) rfl) rfl rfl ?_)
        | refine TW_skip rfl rfl rfl rfl rfl rfl rfl ?_ | refine TW_done ?_)
      repeat (first
        | refine qv rfl (qp rfl) rfl rfl ?_ | refine TL_nil ?_ | refine T_seq ?_ | refine T_region ?_ | refine qcT rfl ?_ | refine qcF rfl ?_ | refine T_skip ?_
        | refine T_ret ?_ | refine E_then ?_ | refine E_thenR ?_ | refine qs rfl rfl rfl rfl rfl rfl ?_
        | ((try refine qg rfl rfl rfl ?_); first | refine qv rfl (qp rfl) rfl rfl ?_ | refine qv rfl (rr_load1 (v := .int .i64 (seen : Int)) TyC.ty rfl (at_blk (i := 1) rfl rfl)) rfl rfl ?_ | refine qv rfl (rr_build rfl (build_clE _ _)) rfl rfl ?_ | refine qv rfl (qfld FldC.fld rfl rfl) rfl rfl ?_ | refine qv rfl (rr_not rfl rfl) rfl rfl ?_ | refine qv rfl (rr_nilc rfl) rfl rfl ?_ | refine qv rfl (rr_eql rfl rfl (qT (by omega))) rfl rfl ?_ | refine qv rfl (rr_eql rfl rfl (qF (by omega))) rfl rfl ?_ | refine qv rfl (rr_neq rfl rfl (qT (by omega))) rfl rfl ?_ | refine qv rfl (rr_neq rfl rfl (qF (by omega))) rfl rfl ?_ | refine qv rfl (rr_add64 rfl rfl (by omega) (by omega) rfl) rfl rfl ?_ | refine qv rfl (qlen Und.eq rfl) rfl rfl ?_ | refine qv rfl (rr_sub64 rfl rfl (by omega) (by omega) rfl) rfl rfl ?_))
      refine TL_storeB (i := 2) (cs' := #[.slice none 0 0, .int .i64 (seen : Int), .int .i64 13, .bool false]) rfl rfl rfl rfl rfl rfl ?_
      conv => arg 8; simp only [zA, zB, zC, zD, zE, zF, zG, zH, zI, rowS, ret, id_eq]
      repeat (first
        | refine qv rfl (qp rfl) rfl rfl ?_ | refine TL_nil ?_ | refine T_seq ?_ | refine T_region ?_ | refine qcT rfl ?_ | refine qcF rfl ?_ | refine T_skip ?_
        | refine T_ret ?_ | refine E_then ?_ | refine E_thenR ?_ | refine qs rfl rfl rfl rfl rfl rfl ?_
        | ((try refine qg rfl rfl rfl ?_); first | refine qv rfl (qp rfl) rfl rfl ?_ | refine qv rfl (qfld FldC.fld rfl rfl) rfl rfl ?_ | refine qv rfl (rr_not rfl rfl) rfl rfl ?_ | refine qv rfl (rr_nilc rfl) rfl rfl ?_ | refine qv rfl (rr_eql rfl rfl (qT (by omega))) rfl rfl ?_ | refine qv rfl (rr_eql rfl rfl (qF (by omega))) rfl rfl ?_ | refine qv rfl (rr_neq rfl rfl (qT (by omega))) rfl rfl ?_ | refine qv rfl (rr_neq rfl rfl (qF (by omega))) rfl rfl ?_ | refine qv rfl (rr_add64 rfl rfl (by omega) (by omega) rfl) rfl rfl ?_ | refine qv rfl (qlen Und.eq rfl) rfl rfl ?_ | refine qv rfl (rr_sub64 rfl rfl (by omega) (by omega) rfl) rfl rfl ?_))
      exact E_retc3 (i := 2) rfl rfl rfl rfl rfl rfl fun w hm => hm.meets (S := pushS (seen : Int) (13, [], [])) (.slice none 0 0, .slice none 0 0) trivial [] (by decide) rfl
    · rw [push_sym hD]
      obtain ⟨k, m⟩ := x
      dsimp only at hx
      subst hx
      simp only [List.length_cons] at hd1
      repeat (first
        | refine qv rfl (qp rfl) rfl rfl ?_ | refine TL_nil ?_ | refine T_seq ?_ | refine T_region ?_ | refine qcT rfl ?_ | refine qcF rfl ?_ | refine T_skip ?_
        | refine T_ret ?_ | refine E_then ?_ | refine E_thenR ?_ | refine qs rfl rfl rfl rfl rfl rfl ?_
        | ((try refine qg rfl rfl rfl ?_); first | refine qv rfl (qp rfl) rfl rfl ?_ | refine qv rfl (qfld FldC.fld rfl rfl) rfl rfl ?_ | refine qv rfl (rr_not rfl rfl) rfl rfl ?_ | refine qv rfl (rr_nilc rfl) rfl rfl ?_ | refine qv rfl (rr_eql rfl rfl (qT (by omega))) rfl rfl ?_ | refine qv rfl (rr_eql rfl rfl (qF (by omega))) rfl rfl ?_ | refine qv rfl (rr_neq rfl rfl (qT (by omega))) rfl rfl ?_ | refine qv rfl (rr_neq rfl rfl (qF (by omega))) rfl rfl ?_ | refine qv rfl (rr_add64 rfl rfl (by omega) (by omega) rfl) rfl rfl ?_ | refine qv rfl (qlen Und.eq rfl) rfl rfl ?_ | refine qv rfl (rr_sub64 rfl rfl (by omega) (by omega) rfl) rfl rfl ?_))
      refine T_rowN (i := 4) rfl (by simp) fun gt ct hv q1 q2 => ?_
      subst hv
      simp only [List.length_cons] at *
      by_cases c1 : m ≠ (t : Int)
      · rw [if_pos c1]
        refine T_ord ([cwO gw g.terms g.nons vp (.slice (some ⟨gt, 0, none⟩) (r.length + 1) ct) vo2 a1, tdO (.slice (some ⟨gt, 0, none⟩) (r.length + 1) ct) (.sym (1, m) :: r)]) (.calm 0 (.calm 1 (.calm 2 (.calm 3 (.calm 4 (.calm 5 (.calm 6 (.calm 7 (.calm 8 (.calm 9 (.calm 10 (.calm 11 (.calm 12 (.calm 13 (.calm 14 (.calm 15 (.calm 16 (.calm 17 (.calm 18 (.calm 19 (.calm 20 (.calm 21 (.calm 22 (.calm 23 (.calm 24 (.calm 25 (.calm 26 (.calm 27 (.done))))))))))))))))))))))))))))) (sub_pick [3, 4] (by decide) rfl) (by kernel_rfl) (by kernel_rfl) (by intro c a d v w h; cases d <;> exact h) ?_
        repeat (first
          | ((first | refine TW_plain rfl rfl ?_ | refine TW_gmet rfl rfl rfl rfl ?_); first | refine TN_val (qp rfl) rfl rfl ?_ | refine TN_val (rr_load1 (v := .slice (some ⟨gt, 0, none⟩) (r.length + 1) ct) TyC.ty rfl (at_blk (i := 0) rfl rfl)) rfl rfl ?_ | refine TN_val (rr_eql (b := true) rfl rfl rfl) rfl rfl ?_ | refine TN_val (rr_eql (b := false) rfl rfl (decide_eq_false (by omega))) rfl rfl ?_ | refine TN_val (rr_load1 (v := .int .i64 m) TyC.ty rfl (td_at (i := 1) rfl 3 _ rfl)) rfl rfl ?_ | refine TN_val (rr_neq (b := true) rfl rfl (decide_eq_true c1)) rfl rfl ?_ | refine TN_val (qfld FldC.fld rfl rfl) rfl rfl ?_ | refine TN_val (rr_not rfl rfl) rfl rfl ?_ | refine TN_val (rr_nilc rfl) rfl rfl ?_ | refine TN_val (rr_eql rfl rfl (qT (by omega))) rfl rfl ?_ | refine TN_val (rr_eql rfl rfl (qF (by omega))) rfl rfl ?_ | refine TN_val (rr_neq rfl rfl (qT (by omega))) rfl rfl ?_ | refine TN_val (rr_neq rfl rfl (qF (by omega))) rfl rfl ?_ | refine TN_val (rr_add64 rfl rfl (by omega) (by omega) rfl) rfl rfl ?_ | refine TN_val (rr_sub64 (r := (r.length : Int)) rfl rfl (by omega) (by omega) (by omega)) rfl rfl ?_ | refine TN_val (rr_idxc (j := r.length) Und.eq TyC.ty rfl rfl (by omega)) rfl rfl ?_ | refine TN_val (qlen Und.eq rfl) rfl rfl ?_ | refine TN_val (rr_sub64 rfl rfl (by omega) (by omega) rfl) rfl rfl ?_)
          | refine TW_skip rfl rfl rfl rfl rfl rfl rfl ?_ | refine TW_done ?_)
        repeat (first
          | refine qv rfl (qp rfl) rfl rfl ?_ | refine TL_nil ?_ | refine T_seq ?_ | refine T_region ?_ | refine qcT rfl ?_ | refine qcF rfl ?_ | refine T_skip ?_
          | refine T_ret ?_ | refine E_then ?_ | refine E_thenR ?_ | refine qs rfl rfl rfl rfl rfl rfl ?_
          | ((try refine qg rfl rfl rfl ?_); first | refine qv rfl (qp rfl) rfl rfl ?_ | refine qv rfl (rr_load1 (v := .int .i64 (seen : Int)) TyC.ty rfl (at_blk (i := 1) rfl rfl)) rfl rfl ?_ | refine qv rfl (rr_build rfl (build_clE _ _)) rfl rfl ?_ | refine qv rfl (qfld FldC.fld rfl rfl) rfl rfl ?_ | refine qv rfl (rr_not rfl rfl) rfl rfl ?_ | refine qv rfl (rr_nilc rfl) rfl rfl ?_ | refine qv rfl (rr_eql rfl rfl (qT (by omega))) rfl rfl ?_ | refine qv rfl (rr_eql rfl rfl (qF (by omega))) rfl rfl ?_ | refine qv rfl (rr_neq rfl rfl (qT (by omega))) rfl rfl ?_ | refine qv rfl (rr_neq rfl rfl (qF (by omega))) rfl rfl ?_ | refine qv rfl (rr_add64 rfl rfl (by omega) (by omega) rfl) rfl rfl ?_ | refine qv rfl (qlen Und.eq rfl) rfl rfl ?_ | refine qv rfl (rr_sub64 rfl rfl (by omega) (by omega) rfl) rfl rfl ?_))
        refine TL_storeB (i := 2) (cs' := #[.slice none 0 0, .int .i64 (seen : Int), .int .i64 13, .bool false]) rfl rfl rfl rfl rfl rfl ?_
        conv => arg 8; simp only [zA, zB, zC, zD, zE, zF, zG, zH, zI, rowS, ret, id_eq]
        repeat (first
          | refine qv rfl (qp rfl) rfl rfl ?_ | refine TL_nil ?_ | refine T_seq ?_ | refine T_region ?_ | refine qcT rfl ?_ | refine qcF rfl ?_ | refine T_skip ?_
          | refine T_ret ?_ | refine E_then ?_ | refine E_thenR ?_ | refine qs rfl rfl rfl rfl rfl rfl ?_
          | ((try refine qg rfl rfl rfl ?_); first | refine qv rfl (qp rfl) rfl rfl ?_ | refine qv rfl (qfld FldC.fld rfl rfl) rfl rfl ?_ | refine qv rfl (rr_not rfl rfl) rfl rfl ?_ | refine qv rfl (rr_nilc rfl) rfl rfl ?_ | refine qv rfl (rr_eql rfl rfl (qT (by omega))) rfl rfl ?_ | refine qv rfl (rr_eql rfl rfl (qF (by omega))) rfl rfl ?_ | refine qv rfl (rr_neq rfl rfl (qT (by omega))) rfl rfl ?_ | refine qv rfl (rr_neq rfl rfl (qF (by omega))) rfl rfl ?_ | refine qv rfl (rr_add64 rfl rfl (by omega) (by omega) rfl) rfl rfl ?_ | refine qv rfl (qlen Und.eq rfl) rfl rfl ?_ | refine qv rfl (rr_sub64 rfl rfl (by omega) (by omega) rfl) rfl rfl ?_))
        exact E_retc3 (i := 2) rfl rfl rfl rfl rfl rfl fun w hm => hm.meets (S := pushS (seen : Int) (13, [], [])) (.slice none 0 0, .slice none 0 0) trivial [] (by decide) rfl
      · rw [if_neg c1]
        obtain rfl : m = (t : Int) := by simpa using c1
        refine T_ord ([cwO gw g.terms g.nons vp (.slice (some ⟨gt, 0, none⟩) (r.length + 1) ct) vo2 a1, tdO (.slice (some ⟨gt, 0, none⟩) (r.length + 1) ct) (.sym (1, (t : Int)) :: r)]) (.calm 0 (.calm 1 (.calm 2 (.calm 3 (.calm 4 (.calm 5 (.calm 6 (.calm 7 (.calm 8 (.calm 9 (.calm 10 (.calm 11 (.calm 12 (.calm 13 (.calm 14 (.calm 15 (.calm 16 (.calm 17 (.calm 18 (.calm 19 (.calm 20 (.calm 21 (.calm 22 (.calm 23 (.calm 24 (.calm 25 (.calm 26 (.calm 27 (.done))))))))))))))))))))))))))))) (sub_pick [3, 4] (by decide) rfl) (by kernel_rfl) (by kernel_rfl) (by intro c a d v w h; cases d <;> exact h) ?_
        repeat (first
          | ((first | refine TW_plain rfl rfl ?_ | refine TW_gmet rfl rfl rfl rfl ?_); first | refine TN_val (qp rfl) rfl rfl ?_ | refine TN_val (rr_load1 (v := .slice (some ⟨gt, 0, none⟩) (r.length + 1) ct) TyC.ty rfl (at_blk (i := 0) rfl rfl)) rfl rfl ?_ | refine TN_val (rr_eql (b := true) rfl rfl rfl) rfl rfl ?_ | refine TN_val (rr_eql (b := false) rfl rfl (decide_eq_false (by omega))) rfl rfl ?_ | refine TN_val (rr_load1 (v := .int .i64 (t : Int)) TyC.ty rfl (td_at (i := 1) rfl 3 _ rfl)) rfl rfl ?_ | refine TN_val (rr_neq (b := false) rfl rfl (decide_eq_false (by simp))) rfl rfl ?_ | refine TN_val (qfld FldC.fld rfl rfl) rfl rfl ?_ | refine TN_val (rr_not rfl rfl) rfl rfl ?_ | refine TN_val (rr_nilc rfl) rfl rfl ?_ | refine TN_val (rr_eql rfl rfl (qT (by omega))) rfl rfl ?_ | refine TN_val (rr_eql rfl rfl (qF (by omega))) rfl rfl ?_ | refine TN_val (rr_neq rfl rfl (qT (by omega))) rfl rfl ?_ | refine TN_val (rr_neq rfl rfl (qF (by omega))) rfl rfl ?_ | refine TN_val (rr_add64 rfl rfl (by omega) (by omega) rfl) rfl rfl ?_ | refine TN_val (rr_sub64 (r := (r.length : Int)) rfl rfl (by omega) (by omega) (by omega)) rfl rfl ?_ | refine TN_val (rr_idxc (j := r.length) Und.eq TyC.ty rfl rfl (by omega)) rfl rfl ?_ | refine TN_val (qlen Und.eq rfl) rfl rfl ?_ | refine TN_val (rr_sub64 rfl rfl (by omega) (by omega) rfl) rfl rfl ?_)
          | refine TW_skip rfl rfl rfl rfl rfl rfl rfl ?_ | refine TW_done ?_)
        repeat (first
          | refine qv rfl (qp rfl) rfl rfl ?_ | refine TL_nil ?_ | refine T_seq ?_ | refine T_region ?_ | refine qcT rfl ?_ | refine qcF rfl ?_ | refine T_skip ?_
          | refine T_ret ?_ | refine E_then ?_ | refine E_thenR ?_ | refine qs rfl rfl rfl rfl rfl rfl ?_
          | ((try refine qg rfl rfl rfl ?_); first | refine qv rfl (qp rfl) rfl rfl ?_ | refine qv rfl (rr_eql (b := true) rfl rfl rfl) rfl rfl ?_ | refine qv rfl (qfld FldC.fld rfl rfl) rfl rfl ?_ | refine qv rfl (rr_not rfl rfl) rfl rfl ?_ | refine qv rfl (rr_nilc rfl) rfl rfl ?_ | refine qv rfl (rr_eql rfl rfl (qT (by omega))) rfl rfl ?_ | refine qv rfl (rr_eql rfl rfl (qF (by omega))) rfl rfl ?_ | refine qv rfl (rr_neq rfl rfl (qT (by omega))) rfl rfl ?_ | refine qv rfl (rr_neq rfl rfl (qF (by omega))) rfl rfl ?_ | refine qv rfl (rr_add64 rfl rfl (by omega) (by omega) rfl) rfl rfl ?_ | refine qv rfl (qlen Und.eq rfl) rfl rfl ?_ | refine qv rfl (rr_sub64 rfl rfl (by omega) (by omega) rfl) rfl rfl ?_))
        refine TL_callB [3, 4] [0, 1, 2, 5] (by decide) rfl rfl (he1 EntersC.en rfl rfl) (fun w hm hb => pop_calls gw g.terms g.nons vp _ vo2 (.sym (1, (t : Int))) r a1 w _ (by omega) hb) rfl rfl rfl ?_
        intro vt3 _
        conv => arg 8; simp only [zA, zB, zC, zD, zE, zF, zG, zH, zI, rowS, ret, id_eq]
        dsimp only
        repeat (first
          | refine qv rfl (qp rfl) rfl rfl ?_ | refine TL_nil ?_ | refine T_seq ?_ | refine T_region ?_ | refine qcT rfl ?_ | refine qcF rfl ?_ | refine T_skip ?_
          | refine T_ret ?_ | refine E_then ?_ | refine E_thenR ?_ | refine qs rfl rfl rfl rfl rfl rfl ?_
          | ((try refine qg rfl rfl rfl ?_); first | refine qv rfl (qp rfl) rfl rfl ?_ | refine qv rfl (rr_load1 (v := .int .i64 (seen : Int)) TyC.ty rfl (at_blk (i := 1) rfl rfl)) rfl rfl ?_ | refine qv rfl (qfld FldC.fld rfl rfl) rfl rfl ?_ | refine qv rfl (rr_not rfl rfl) rfl rfl ?_ | refine qv rfl (rr_nilc rfl) rfl rfl ?_ | refine qv rfl (rr_eql rfl rfl (qT (by omega))) rfl rfl ?_ | refine qv rfl (rr_eql rfl rfl (qF (by omega))) rfl rfl ?_ | refine qv rfl (rr_neq rfl rfl (qT (by omega))) rfl rfl ?_ | refine qv rfl (rr_neq rfl rfl (qF (by omega))) rfl rfl ?_ | refine qv rfl (rr_add64 rfl rfl (by omega) (by omega) rfl) rfl rfl ?_ | refine qv rfl (qlen Und.eq rfl) rfl rfl ?_ | refine qv rfl (rr_sub64 rfl rfl (by omega) (by omega) rfl) rfl rfl ?_))
        refine TL_callB [4, 3] [0, 1, 2, 5] (by decide) rfl rfl (he3 EntersC.en rfl rfl rfl rfl) (fun w hm hb => act_calls gw g.terms g.nons vp vt3 vo2 out1 a1 2 (seen : Int) w _ (by simp at hd3; omega) (by omega) hb) rfl rfl rfl ?_
        intro vo3 _
        conv => arg 8; simp only [zA, zB, zC, zD, zE, zF, zG, zH, zI, rowS, ret, id_eq]
        dsimp only
        by_cases c2 : a1 + 1 ≤ 2000
        · rw [decide_eq_true (show ((a1 + 1 : Nat) : Int) ≤ 2000 by omega)]
          repeat (first
            | refine qv rfl (qp rfl) rfl rfl ?_ | refine TL_nil ?_ | refine T_seq ?_ | refine T_region ?_ | refine qcT rfl ?_ | refine qcF rfl ?_ | refine T_skip ?_
            | refine T_ret ?_ | refine E_then ?_ | refine E_thenR ?_ | refine qs rfl rfl rfl rfl rfl rfl ?_
            | ((try refine qg rfl rfl rfl ?_); first | refine qv rfl (qp rfl) rfl rfl ?_ | refine qv rfl (qfld FldC.fld rfl rfl) rfl rfl ?_ | refine qv rfl (rr_not rfl rfl) rfl rfl ?_ | refine qv rfl (rr_nilc rfl) rfl rfl ?_ | refine qv rfl (rr_eql rfl rfl (qT (by omega))) rfl rfl ?_ | refine qv rfl (rr_eql rfl rfl (qF (by omega))) rfl rfl ?_ | refine qv rfl (rr_neq rfl rfl (qT (by omega))) rfl rfl ?_ | refine qv rfl (rr_neq rfl rfl (qF (by omega))) rfl rfl ?_ | refine qv rfl (rr_add64 rfl rfl (by omega) (by omega) rfl) rfl rfl ?_ | refine qv rfl (qlen Und.eq rfl) rfl rfl ?_ | refine qv rfl (rr_sub64 rfl rfl (by omega) (by omega) rfl) rfl rfl ?_))
          refine TL_metg rfl rfl rfl ?_
          refine TL_callB [4, 3, 5] [0, 1, 2] (by decide) rfl rfl (he1 EntersC.en rfl rfl) (fun w hm hb => workCloses_calls gw g.terms g.nons vp vt3 vo3 r (out1 ++ [(2, (seen : Int))]) (a1 + 1) w _ (by omega) c2 (by simp at hd3 ⊢; omega) hb) rfl rfl rfl ?_
          rintro ⟨vt4, vo4⟩ _
          conv => arg 8; simp only [zA, zB, zC, zD, zE, zF, zG, zH, zI, rowS, ret, id_eq, clS]
          conv => arg 7; simp only [clS]
          generalize closesF r (out1 ++ [(2, (seen : Int))]) (a1 + 1) = C
          obtain ⟨st3, out3, a3, ok⟩ := C
          dsimp only
          cases ok with
          | true =>
            rw [if_pos ⟨c2, rfl⟩]
            repeat (first
              | refine qv rfl (qp rfl) rfl rfl ?_ | refine TL_nil ?_ | refine T_seq ?_ | refine T_region ?_ | refine qcT rfl ?_ | refine qcF rfl ?_ | refine T_skip ?_
              | refine T_ret ?_ | refine E_then ?_ | refine E_thenR ?_ | refine qs rfl rfl rfl rfl rfl rfl ?_
              | ((try refine qg rfl rfl rfl ?_); first | refine qv rfl (qp rfl) rfl rfl ?_ | refine qv rfl (rr_eql (b := true) rfl rfl rfl) rfl rfl ?_ | refine qv rfl (qfld FldC.fld rfl rfl) rfl rfl ?_ | refine qv rfl (rr_not rfl rfl) rfl rfl ?_ | refine qv rfl (rr_nilc rfl) rfl rfl ?_ | refine qv rfl (rr_eql rfl rfl (qT (by omega))) rfl rfl ?_ | refine qv rfl (rr_eql rfl rfl (qF (by omega))) rfl rfl ?_ | refine qv rfl (rr_neq rfl rfl (qT (by omega))) rfl rfl ?_ | refine qv rfl (rr_neq rfl rfl (qF (by omega))) rfl rfl ?_ | refine qv rfl (rr_add64 rfl rfl (by omega) (by omega) rfl) rfl rfl ?_ | refine qv rfl (qlen Und.eq rfl) rfl rfl ?_ | refine qv rfl (rr_sub64 rfl rfl (by omega) (by omega) rfl) rfl rfl ?_))
            refine T_rowv (i := 4) rfl fun bt ct' hv q3 q4 => ?_
            subst hv
            refine T_ord ([cwO gw g.terms g.nons vp (.slice bt st3.length ct') vo4 a3, blkO g1 (clV vt (seen : Int) 0 false).cells 51]) (.calm 0 (.calm 1 (.calm 2 (.calm 3 (.calm 4 (.calm 5 (.calm 6 (.calm 7 (.calm 8 (.calm 9 (.calm 10 (.calm 11 (.one 12 (.calm 13 (.calm 14 (.done)))))))))))))))) (sub_pick [3, 1] (by decide) rfl) (by kernel_rfl) (by kernel_rfl) (by intro c a d v w h; cases d <;> exact h) ?_
            repeat (first
              | ((first | refine TW_plain rfl rfl ?_ | refine TW_gmet rfl rfl rfl rfl ?_); first | refine TN_val (qp rfl) rfl rfl ?_ | refine TN_val (rr_load1 (v := .slice bt st3.length ct') TyC.ty rfl (at_blk (i := 0) rfl rfl)) rfl rfl ?_ | refine TN_val (rr_load1 (v := .int .i64 (seen : Int)) TyC.ty rfl (at_blk (i := 1) rfl rfl)) rfl rfl ?_ | refine TN_val (rr_load1 (v := vo4) TyC.ty rfl (at_blk (i := 0) rfl rfl)) rfl rfl ?_ | refine TN_val (rr_build rfl (build_clN _ _ _ _)) rfl rfl ?_ | refine TN_val (qfld FldC.fld rfl rfl) rfl rfl ?_ | refine TN_val (rr_not rfl rfl) rfl rfl ?_ | refine TN_val (rr_nilc rfl) rfl rfl ?_ | refine TN_val (rr_eql rfl rfl (qT (by omega))) rfl rfl ?_ | refine TN_val (rr_eql rfl rfl (qF (by omega))) rfl rfl ?_ | refine TN_val (rr_neq rfl rfl (qT (by omega))) rfl rfl ?_ | refine TN_val (rr_neq rfl rfl (qF (by omega))) rfl rfl ?_ | refine TN_val (rr_add64 rfl rfl (by omega) (by omega) rfl) rfl rfl ?_ | refine TN_val (qlen Und.eq rfl) rfl rfl ?_ | refine TN_val (rr_sub64 rfl rfl (by omega) (by omega) rfl) rfl rfl ?_)
              | refine TW_skip rfl rfl rfl rfl rfl rfl rfl ?_ | refine TW_done ?_)
            refine TW_one rfl (TL_storeB (i := 2) (cs' := #[.slice bt st3.length ct', .int .i64 ((seen : Int) + 1), .int .i64 0, .bool false]) rfl rfl rfl rfl rfl rfl (TW_on (sub_pick [3, 1] (by decide) rfl) ?_))
            repeat (first
              | ((first | refine TW_plain rfl rfl ?_ | refine TW_gmet rfl rfl rfl rfl ?_); first | refine TN_val (qp rfl) rfl rfl ?_ | refine TN_val (qfld FldC.fld rfl rfl) rfl rfl ?_ | refine TN_val (rr_not rfl rfl) rfl rfl ?_ | refine TN_val (rr_nilc rfl) rfl rfl ?_ | refine TN_val (rr_eql rfl rfl (qT (by omega))) rfl rfl ?_ | refine TN_val (rr_eql rfl rfl (qF (by omega))) rfl rfl ?_ | refine TN_val (rr_neq rfl rfl (qT (by omega))) rfl rfl ?_ | refine TN_val (rr_neq rfl rfl (qF (by omega))) rfl rfl ?_ | refine TN_val (rr_add64 rfl rfl (by omega) (by omega) rfl) rfl rfl ?_ | refine TN_val (qlen Und.eq rfl) rfl rfl ?_ | refine TN_val (rr_sub64 rfl rfl (by omega) (by omega) rfl) rfl rfl ?_)
              | refine TW_skip rfl rfl rfl rfl rfl rfl rfl ?_ | refine TW_done ?_)
            repeat (first
              | refine qv rfl (qp rfl) rfl rfl ?_ | refine TL_nil ?_ | refine T_seq ?_ | refine T_region ?_ | refine qcT rfl ?_ | refine qcF rfl ?_ | refine T_skip ?_
              | refine T_ret ?_ | refine E_then ?_ | refine E_thenR ?_ | refine qs rfl rfl rfl rfl rfl rfl ?_
              | ((try refine qg rfl rfl rfl ?_); first | refine qv rfl (qp rfl) rfl rfl ?_ | refine qv rfl (qfld FldC.fld rfl rfl) rfl rfl ?_ | refine qv rfl (rr_not rfl rfl) rfl rfl ?_ | refine qv rfl (rr_nilc rfl) rfl rfl ?_ | refine qv rfl (rr_eql rfl rfl (qT (by omega))) rfl rfl ?_ | refine qv rfl (rr_eql rfl rfl (qF (by omega))) rfl rfl ?_ | refine qv rfl (rr_neq rfl rfl (qT (by omega))) rfl rfl ?_ | refine qv rfl (rr_neq rfl rfl (qF (by omega))) rfl rfl ?_ | refine qv rfl (rr_add64 rfl rfl (by omega) (by omega) rfl) rfl rfl ?_ | refine qv rfl (qlen Und.eq rfl) rfl rfl ?_ | refine qv rfl (rr_sub64 rfl rfl (by omega) (by omega) rfl) rfl rfl ?_))
            exact E_retc3 (i := 2) rfl rfl rfl rfl rfl rfl fun w hm => hm.meets (S := pushS (seen : Int) (0, st3, out3)) (.slice bt st3.length ct', vo4) trivial [4, 5] (by decide) rfl
          | false =>
            rw [if_neg (by rintro ⟨_, h⟩; cases h)]
            repeat (first
              | refine qv rfl (qp rfl) rfl rfl ?_ | refine TL_nil ?_ | refine T_seq ?_ | refine T_region ?_ | refine qcT rfl ?_ | refine qcF rfl ?_ | refine T_skip ?_
              | refine T_ret ?_ | refine E_then ?_ | refine E_thenR ?_ | refine qs rfl rfl rfl rfl rfl rfl ?_
              | ((try refine qg rfl rfl rfl ?_); first | refine qv rfl (qp rfl) rfl rfl ?_ | refine qv rfl (qfld FldC.fld rfl rfl) rfl rfl ?_ | refine qv rfl (rr_not rfl rfl) rfl rfl ?_ | refine qv rfl (rr_nilc rfl) rfl rfl ?_ | refine qv rfl (rr_eql rfl rfl (qT (by omega))) rfl rfl ?_ | refine qv rfl (rr_eql rfl rfl (qF (by omega))) rfl rfl ?_ | refine qv rfl (rr_neq rfl rfl (qT (by omega))) rfl rfl ?_ | refine qv rfl (rr_neq rfl rfl (qF (by omega))) rfl rfl ?_ | refine qv rfl (rr_add64 rfl rfl (by omega) (by omega) rfl) rfl rfl ?_ | refine qv rfl (qlen Und.eq rfl) rfl rfl ?_ | refine qv rfl (rr_sub64 rfl rfl (by omega) (by omega) rfl) rfl rfl ?_))
            repeat (first
              | refine qv rfl (qp rfl) rfl rfl ?_ | refine TL_nil ?_ | refine T_seq ?_ | refine T_region ?_ | refine qcT rfl ?_ | refine qcF rfl ?_ | refine T_skip ?_
              | refine T_ret ?_ | refine E_then ?_ | refine E_thenR ?_ | refine qs rfl rfl rfl rfl rfl rfl ?_
              | ((try refine qg rfl rfl rfl ?_); first | refine qv rfl (qp rfl) rfl rfl ?_ | refine qv rfl (rr_load1 (v := .int .i64 (seen : Int)) TyC.ty rfl (at_blk (i := 1) rfl rfl)) rfl rfl ?_ | refine qv rfl (rr_build rfl (build_clE _ _)) rfl rfl ?_ | refine qv rfl (qfld FldC.fld rfl rfl) rfl rfl ?_ | refine qv rfl (rr_not rfl rfl) rfl rfl ?_ | refine qv rfl (rr_nilc rfl) rfl rfl ?_ | refine qv rfl (rr_eql rfl rfl (qT (by omega))) rfl rfl ?_ | refine qv rfl (rr_eql rfl rfl (qF (by omega))) rfl rfl ?_ | refine qv rfl (rr_neq rfl rfl (qT (by omega))) rfl rfl ?_ | refine qv rfl (rr_neq rfl rfl (qF (by omega))) rfl rfl ?_ | refine qv rfl (rr_add64 rfl rfl (by omega) (by omega) rfl) rfl rfl ?_ | refine qv rfl (qlen Und.eq rfl) rfl rfl ?_ | refine qv rfl (rr_sub64 rfl rfl (by omega) (by omega) rfl) rfl rfl ?_))
            refine TL_storeB (i := 2) (cs' := #[.slice none 0 0, .int .i64 (seen : Int), .int .i64 14, .bool false]) rfl rfl rfl rfl rfl rfl ?_
            conv => arg 8; simp only [zA, zB, zC, zD, zE, zF, zG, zH, zI, rowS, ret, id_eq]
            repeat (first
              | refine qv rfl (qp rfl) rfl rfl ?_ | refine TL_nil ?_ | refine T_seq ?_ | refine T_region ?_ | refine qcT rfl ?_ | refine qcF rfl ?_ | refine T_skip ?_
              | refine T_ret ?_ | refine E_then ?_ | refine E_thenR ?_ | refine qs rfl rfl rfl rfl rfl rfl ?_
              | ((try refine qg rfl rfl rfl ?_); first | refine qv rfl (qp rfl) rfl rfl ?_ | refine qv rfl (qfld FldC.fld rfl rfl) rfl rfl ?_ | refine qv rfl (rr_not rfl rfl) rfl rfl ?_ | refine qv rfl (rr_nilc rfl) rfl rfl ?_ | refine qv rfl (rr_eql rfl rfl (qT (by omega))) rfl rfl ?_ | refine qv rfl (rr_eql rfl rfl (qF (by omega))) rfl rfl ?_ | refine qv rfl (rr_neq rfl rfl (qT (by omega))) rfl rfl ?_ | refine qv rfl (rr_neq rfl rfl (qF (by omega))) rfl rfl ?_ | refine qv rfl (rr_add64 rfl rfl (by omega) (by omega) rfl) rfl rfl ?_ | refine qv rfl (qlen Und.eq rfl) rfl rfl ?_ | refine qv rfl (rr_sub64 rfl rfl (by omega) (by omega) rfl) rfl rfl ?_))
            exact E_retc3 (i := 2) rfl rfl rfl rfl rfl rfl fun w hm => hm.meets (S := pushS (seen : Int) (14, [], [])) (.slice none 0 0, .slice none 0 0) trivial [] (by decide) rfl
        · rw [if_neg (by rintro ⟨h, _⟩; exact c2 h)]
          rw [decide_eq_false (show ¬ ((a1 + 1 : Nat) : Int) ≤ 2000 by omega)]
          repeat (first
            | refine qv rfl (qp rfl) rfl rfl ?_ | refine TL_nil ?_ | refine T_seq ?_ | refine T_region ?_ | refine qcT rfl ?_ | refine qcF rfl ?_ | refine T_skip ?_
            | refine T_ret ?_ | refine E_then ?_ | refine E_thenR ?_ | refine qs rfl rfl rfl rfl rfl rfl ?_
            | ((try refine qg rfl rfl rfl ?_); first | refine qv rfl (qp rfl) rfl rfl ?_ | refine qv rfl (qfld FldC.fld rfl rfl) rfl rfl ?_ | refine qv rfl (rr_not rfl rfl) rfl rfl ?_ | refine qv rfl (rr_nilc rfl) rfl rfl ?_ | refine qv rfl (rr_eql rfl rfl (qT (by omega))) rfl rfl ?_ | refine qv rfl (rr_eql rfl rfl (qF (by omega))) rfl rfl ?_ | refine qv rfl (rr_neq rfl rfl (qT (by omega))) rfl rfl ?_ | refine qv rfl (rr_neq rfl rfl (qF (by omega))) rfl rfl ?_ | refine qv rfl (rr_add64 rfl rfl (by omega) (by omega) rfl) rfl rfl ?_ | refine qv rfl (qlen Und.eq rfl) rfl rfl ?_ | refine qv rfl (rr_sub64 rfl rfl (by omega) (by omega) rfl) rfl rfl ?_))
          repeat (first
            | refine qv rfl (qp rfl) rfl rfl ?_ | refine TL_nil ?_ | refine T_seq ?_ | refine T_region ?_ | refine qcT rfl ?_ | refine qcF rfl ?_ | refine T_skip ?_
            | refine T_ret ?_ | refine E_then ?_ | refine E_thenR ?_ | refine qs rfl rfl rfl rfl rfl rfl ?_
            | ((try refine qg rfl rfl rfl ?_); first | refine qv rfl (qp rfl) rfl rfl ?_ | refine qv rfl (rr_load1 (v := .int .i64 (seen : Int)) TyC.ty rfl (at_blk (i := 1) rfl rfl)) rfl rfl ?_ | refine qv rfl (rr_build rfl (build_clE _ _)) rfl rfl ?_ | refine qv rfl (qfld FldC.fld rfl rfl) rfl rfl ?_ | refine qv rfl (rr_not rfl rfl) rfl rfl ?_ | refine qv rfl (rr_nilc rfl) rfl rfl ?_ | refine qv rfl (rr_eql rfl rfl (qT (by omega))) rfl rfl ?_ | refine qv rfl (rr_eql rfl rfl (qF (by omega))) rfl rfl ?_ | refine qv rfl (rr_neq rfl rfl (qT (by omega))) rfl rfl ?_ | refine qv rfl (rr_neq rfl rfl (qF (by omega))) rfl rfl ?_ | refine qv rfl (rr_add64 rfl rfl (by omega) (by omega) rfl) rfl rfl ?_ | refine qv rfl (qlen Und.eq rfl) rfl rfl ?_ | refine qv rfl (rr_sub64 rfl rfl (by omega) (by omega) rfl) rfl rfl ?_))
          refine TL_storeB (i := 2) (cs' := #[.slice none 0 0, .int .i64 (seen : Int), .int .i64 14, .bool false]) rfl rfl rfl rfl rfl rfl ?_
          conv => arg 8; simp only [zA, zB, zC, zD, zE, zF, zG, zH, zI, rowS, ret, id_eq]
          repeat (first
            | refine qv rfl (qp rfl) rfl rfl ?_ | refine TL_nil ?_ | refine T_seq ?_ | refine T_region ?_ | refine qcT rfl ?_ | refine qcF rfl ?_ | refine T_skip ?_
            | refine T_ret ?_ | refine E_then ?_ | refine E_thenR ?_ | refine qs rfl rfl rfl rfl rfl rfl ?_
            | ((try refine qg rfl rfl rfl ?_); first | refine qv rfl (qp rfl) rfl rfl ?_ | refine qv rfl (qfld FldC.fld rfl rfl) rfl rfl ?_ | refine qv rfl (rr_not rfl rfl) rfl rfl ?_ | refine qv rfl (rr_nilc rfl) rfl rfl ?_ | refine qv rfl (rr_eql rfl rfl (qT (by omega))) rfl rfl ?_ | refine qv rfl (rr_eql rfl rfl (qF (by omega))) rfl rfl ?_ | refine qv rfl (rr_neq rfl rfl (qT (by omega))) rfl rfl ?_ | refine qv rfl (rr_neq rfl rfl (qF (by omega))) rfl rfl ?_ | refine qv rfl (rr_add64 rfl rfl (by omega) (by omega) rfl) rfl rfl ?_ | refine qv rfl (qlen Und.eq rfl) rfl rfl ?_ | refine qv rfl (rr_sub64 rfl rfl (by omega) (by omega) rfl) rfl rfl ?_))
          exact E_retc3 (i := 2) rfl rfl rfl rfl rfl rfl fun w hm => hm.meets (S := pushS (seen : Int) (14, [], [])) (.slice none 0 0, .slice none 0 0) trivial [] (by decide) rfl
  · rw [push_bad hD (by decide)]
    repeat (first
      | refine qv rfl (qp rfl) rfl rfl ?_ | refine TL_nil ?_ | refine T_seq ?_ | refine T_region ?_ | refine qcT rfl ?_ | refine qcF rfl ?_ | refine T_skip ?_
      | refine T_ret ?_ | refine E_then ?_ | refine E_thenR ?_ | refine qs rfl rfl rfl rfl rfl rfl ?_
      | ((try refine qg rfl rfl rfl ?_); first | refine qv rfl (qp rfl) rfl rfl ?_ | refine qv rfl (qfld FldC.fld rfl rfl) rfl rfl ?_ | refine qv rfl (rr_not rfl rfl) rfl rfl ?_ | refine qv rfl (rr_nilc rfl) rfl rfl ?_ | refine qv rfl (rr_eql rfl rfl (qT (by omega))) rfl rfl ?_ | refine qv rfl (rr_eql rfl rfl (qF (by omega))) rfl rfl ?_ | refine qv rfl (rr_neq rfl rfl (qT (by omega))) rfl rfl ?_ | refine qv rfl (rr_neq rfl rfl (qF (by omega))) rfl rfl ?_ | refine qv rfl (rr_add64 rfl rfl (by omega) (by omega) rfl) rfl rfl ?_ | refine qv rfl (qlen Und.eq rfl) rfl rfl ?_ | refine qv rfl (rr_sub64 rfl rfl (by omega) (by omega) rfl) rfl rfl ?_))
    refine T_ord ([]) (.calm 0 (.calm 1 (.calm 2 (.calm 3 (.calm 4 (.calm 5 (.calm 6 (.calm 7 (.calm 8 (.calm 9 (.calm 10 (.calm 11 (.calm 12 (.calm 13 (.calm 14 (.calm 15 (.calm 16 (.calm 17 (.calm 18 (.calm 19 (.calm 20 (.calm 21 (.calm 22 (.calm 23 (.calm 24 (.calm 25 (.calm 26 (.calm 27 (.done))))))))))))))))))))))))))))) (sub_pick [] (by decide) rfl) (by kernel_rfl) (by kernel_rfl) (by intro c a d v w h; cases d <;> exact h) ?_
    repeat (first
      | ((first | refine TW_plain rfl rfl ?_ | refine TW_gmet rfl rfl rfl rfl ?_); first | refine TN_val (qp rfl) rfl rfl ?_ | refine TN_val (qfld FldC.fld rfl rfl) rfl rfl ?_ | refine TN_val (rr_not rfl rfl) rfl rfl ?_ | refine TN_val (rr_nilc rfl) rfl rfl ?_ | refine TN_val (rr_eql rfl rfl (qT (by omega))) rfl rfl ?_ | refine TN_val (rr_eql rfl rfl (qF (by omega))) rfl rfl ?_ | refine TN_val (rr_neq rfl rfl (qT (by omega))) rfl rfl ?_ | refine TN_val (rr_neq rfl rfl (qF (by omega))) rfl rfl ?_ | refine TN_val (rr_add64 rfl rfl (by omega) (by omega) rfl) rfl rfl ?_ | refine TN_val (qlen Und.eq rfl) rfl rfl ?_ | refine TN_val (rr_sub64 rfl rfl (by omega) (by omega) rfl) rfl rfl ?_)
      | refine TW_skip rfl rfl rfl rfl rfl rfl rfl ?_ | refine TW_done ?_)
    repeat (first
      | refine qv rfl (qp rfl) rfl rfl ?_ | refine TL_nil ?_ | refine T_seq ?_ | refine T_region ?_ | refine qcT rfl ?_ | refine qcF rfl ?_ | refine T_skip ?_
      | refine T_ret ?_ | refine E_then ?_ | refine E_thenR ?_ | refine qs rfl rfl rfl rfl rfl rfl ?_
      | ((try refine qg rfl rfl rfl ?_); first | refine qv rfl (qp rfl) rfl rfl ?_ | refine qv rfl (rr_load1 (v := .int .i64 (seen : Int)) TyC.ty rfl (at_blk (i := 1) rfl rfl)) rfl rfl ?_ | refine qv rfl (rr_build rfl (build_clE _ _)) rfl rfl ?_ | refine qv rfl (qfld FldC.fld rfl rfl) rfl rfl ?_ | refine qv rfl (rr_not rfl rfl) rfl rfl ?_ | refine qv rfl (rr_nilc rfl) rfl rfl ?_ | refine qv rfl (rr_eql rfl rfl (qT (by omega))) rfl rfl ?_ | refine qv rfl (rr_eql rfl rfl (qF (by omega))) rfl rfl ?_ | refine qv rfl (rr_neq rfl rfl (qT (by omega))) rfl rfl ?_ | refine qv rfl (rr_neq rfl rfl (qF (by omega))) rfl rfl ?_ | refine qv rfl (rr_add64 rfl rfl (by omega) (by omega) rfl) rfl rfl ?_ | refine qv rfl (qlen Und.eq rfl) rfl rfl ?_ | refine qv rfl (rr_sub64 rfl rfl (by omega) (by omega) rfl) rfl rfl ?_))
    refine TL_storeB (i := 2) (cs' := #[.slice none 0 0, .int .i64 (seen : Int), .int .i64 13, .bool false]) rfl rfl rfl rfl rfl rfl ?_
    conv => arg 8; simp only [zA, zB, zC, zD, zE, zF, zG, zH, zI, rowS, ret, id_eq]
    repeat (first
      | refine qv rfl (qp rfl) rfl rfl ?_ | refine TL_nil ?_ | refine T_seq ?_ | refine T_region ?_ | refine qcT rfl ?_ | refine qcF rfl ?_ | refine T_skip ?_
      | refine T_ret ?_ | refine E_then ?_ | refine E_thenR ?_ | refine qs rfl rfl rfl rfl rfl rfl ?_
      | ((try refine qg rfl rfl rfl ?_); first | refine qv rfl (qp rfl) rfl rfl ?_ | refine qv rfl (qfld FldC.fld rfl rfl) rfl rfl ?_ | refine qv rfl (rr_not rfl rfl) rfl rfl ?_ | refine qv rfl (rr_nilc rfl) rfl rfl ?_ | refine qv rfl (rr_eql rfl rfl (qT (by omega))) rfl rfl ?_ | refine qv rfl (rr_eql rfl rfl (qF (by omega))) rfl rfl ?_ | refine qv rfl (rr_neq rfl rfl (qT (by omega))) rfl rfl ?_ | refine qv rfl (rr_neq rfl rfl (qF (by omega))) rfl rfl ?_ | refine qv rfl (rr_add64 rfl rfl (by omega) (by omega) rfl) rfl rfl ?_ | refine qv rfl (qlen Und.eq rfl) rfl rfl ?_ | refine qv rfl (rr_sub64 rfl rfl (by omega) (by omega) rfl) rfl rfl ?_))
    exact E_retc3 (i := 2) rfl rfl rfl rfl rfl rfl fun w hm => hm.meets (S := pushS (seen : Int) (13, [], [])) (.slice none 0 0, .slice none 0 0) trivial [] (by decide) rfl
  · rw [push_bad hD (by decide)]
    repeat (first
      | refine qv rfl (qp rfl) rfl rfl ?_ | refine TL_nil ?_ | refine T_seq ?_ | refine T_region ?_ | refine qcT rfl ?_ | refine qcF rfl ?_ | refine T_skip ?_
      | refine T_ret ?_ | refine E_then ?_ | refine E_thenR ?_ | refine qs rfl rfl rfl rfl rfl rfl ?_
      | ((try refine qg rfl rfl rfl ?_); first | refine qv rfl (qp rfl) rfl rfl ?_ | refine qv rfl (qfld FldC.fld rfl rfl) rfl rfl ?_ | refine qv rfl (rr_not rfl rfl) rfl rfl ?_ | refine qv rfl (rr_nilc rfl) rfl rfl ?_ | refine qv rfl (rr_eql rfl rfl (qT (by omega))) rfl rfl ?_ | refine qv rfl (rr_eql rfl rfl (qF (by omega))) rfl rfl ?_ | refine qv rfl (rr_neq rfl rfl (qT (by omega))) rfl rfl ?_ | refine qv rfl (rr_neq rfl rfl (qF (by omega))) rfl rfl ?_ | refine qv rfl (rr_add64 rfl rfl (by omega) (by omega) rfl) rfl rfl ?_ | refine qv rfl (qlen Und.eq rfl) rfl rfl ?_ | refine qv rfl (rr_sub64 rfl rfl (by omega) (by omega) rfl) rfl rfl ?_))
    refine T_ord ([]) (.calm 0 (.calm 1 (.calm 2 (.calm 3 (.calm 4 (.calm 5 (.calm 6 (.calm 7 (.calm 8 (.calm 9 (.calm 10 (.calm 11 (.calm 12 (.calm 13 (.calm 14 (.calm 15 (.calm 16 (.calm 17 (.calm 18 (.calm 19 (.calm 20 (.calm 21 (.calm 22 (.calm 23 (.calm 24 (.calm 25 (.calm 26 (.calm 27 (.done))))))))))))))))))))))))))))) (sub_pick [] (by decide) rfl) (by kernel_rfl) (by kernel_rfl) (by intro c a d v w h; cases d <;> exact h) ?_
    repeat (first
      | ((first | refine TW_plain rfl rfl ?_ | refine TW_gmet rfl rfl rfl rfl ?_); first | refine TN_val (qp rfl) rfl rfl ?_ | refine TN_val (qfld FldC.fld rfl rfl) rfl rfl ?_ | refine TN_val (rr_not rfl rfl) rfl rfl ?_ | refine TN_val (rr_nilc rfl) rfl rfl ?_ | refine TN_val (rr_eql rfl rfl (qT (by omega))) rfl rfl ?_ | refine TN_val (rr_eql rfl rfl (qF (by omega))) rfl rfl ?_ | refine TN_val (rr_neq rfl rfl (qT (by omega))) rfl rfl ?_ | refine TN_val (rr_neq rfl rfl (qF (by omega))) rfl rfl ?_ | refine TN_val (rr_add64 rfl rfl (by omega) (by omega) rfl) rfl rfl ?_ | refine TN_val (qlen Und.eq rfl) rfl rfl ?_ | refine TN_val (rr_sub64 rfl rfl (by omega) (by omega) rfl) rfl rfl ?_)
      | refine TW_skip rfl rfl rfl rfl rfl rfl rfl ?_ | refine TW_done ?_)
    repeat (first
      | refine qv rfl (qp rfl) rfl rfl ?_ | refine TL_nil ?_ | refine T_seq ?_ | refine T_region ?_ | refine qcT rfl ?_ | refine qcF rfl ?_ | refine T_skip ?_
      | refine T_ret ?_ | refine E_then ?_ | refine E_thenR ?_ | refine qs rfl rfl rfl rfl rfl rfl ?_
      | ((try refine qg rfl rfl rfl ?_); first | refine qv rfl (qp rfl) rfl rfl ?_ | refine qv rfl (rr_load1 (v := .int .i64 (seen : Int)) TyC.ty rfl (at_blk (i := 1) rfl rfl)) rfl rfl ?_ | refine qv rfl (rr_build rfl (build_clE _ _)) rfl rfl ?_ | refine qv rfl (qfld FldC.fld rfl rfl) rfl rfl ?_ | refine qv rfl (rr_not rfl rfl) rfl rfl ?_ | refine qv rfl (rr_nilc rfl) rfl rfl ?_ | refine qv rfl (rr_eql rfl rfl (qT (by omega))) rfl rfl ?_ | refine qv rfl (rr_eql rfl rfl (qF (by omega))) rfl rfl ?_ | refine qv rfl (rr_neq rfl rfl (qT (by omega))) rfl rfl ?_ | refine qv rfl (rr_neq rfl rfl (qF (by omega))) rfl rfl ?_ | refine qv rfl (rr_add64 rfl rfl (by omega) (by omega) rfl) rfl rfl ?_ | refine qv rfl (qlen Und.eq rfl) rfl rfl ?_ | refine qv rfl (rr_sub64 rfl rfl (by omega) (by omega) rfl) rfl rfl ?_))
    refine TL_storeB (i := 2) (cs' := #[.slice none 0 0, .int .i64 (seen : Int), .int .i64 14, .bool false]) rfl rfl rfl rfl rfl rfl ?_
    conv => arg 8; simp only [zA, zB, zC, zD, zE, zF, zG, zH, zI, rowS, ret, id_eq]
    repeat (first
      | refine qv rfl (qp rfl) rfl rfl ?_ | refine TL_nil ?_ | refine T_seq ?_ | refine T_region ?_ | refine qcT rfl ?_ | refine qcF rfl ?_ | refine T_skip ?_
      | refine T_ret ?_ | refine E_then ?_ | refine E_thenR ?_ | refine qs rfl rfl rfl rfl rfl rfl ?_
      | ((try refine qg rfl rfl rfl ?_); first | refine qv rfl (qp rfl) rfl rfl ?_ | refine qv rfl (qfld FldC.fld rfl rfl) rfl rfl ?_ | refine qv rfl (rr_not rfl rfl) rfl rfl ?_ | refine qv rfl (rr_nilc rfl) rfl rfl ?_ | refine qv rfl (rr_eql rfl rfl (qT (by omega))) rfl rfl ?_ | refine qv rfl (rr_eql rfl rfl (qF (by omega))) rfl rfl ?_ | refine qv rfl (rr_neq rfl rfl (qT (by omega))) rfl rfl ?_ | refine qv rfl (rr_neq rfl rfl (qF (by omega))) rfl rfl ?_ | refine qv rfl (rr_add64 rfl rfl (by omega) (by omega) rfl) rfl rfl ?_ | refine qv rfl (qlen Und.eq rfl) rfl rfl ?_ | refine qv rfl (rr_sub64 rfl rfl (by omega) (by omega) rfl) rfl rfl ?_))
    exact E_retc3 (i := 2) rfl rfl rfl rfl rfl rfl fun w hm => hm.meets (S := pushS (seen : Int) (14, [], [])) (.slice none 0 0, .slice none 0 0) trivial [] (by decide) rfl

/-- an end's answer -/
def endS (seen : Int) (R : Int × List Sym) : Spec Value :=
  ⟨fun _ => True, fun x => if R.1 = 0 then .tuple #[clV (.slice none 0 0) seen 0 true, x, .int .i64 0] else .tuple #[clV (.slice none 0 0) seen R.1 false, .slice none 0 0, .int .i64 R.1], fun x => if R.1 = 0 then [evO x R.2] else []⟩
theorem build_clD (seen : Int) (w : World) : (Instr.build 51 #[(1, .int .i64 seen), (3, .bool true)]).run Try.prog w = .ok (clV (.slice none 0 0) seen 0 true) w := by
  unfold clV; go_simp
set_option maxHeartbeats 4000000 in
theorem climbEnd_calls (v vr vt : Value) (g : Gram) (ll : List (List Int)) (T N : Nat) (st : List TD) (seen : Nat) (w : World) (h : GraR (fun k => k < w.heap.size) w v g) (hr : RowsR w vr ll) (ht : TdR w vt st) (h0 : chkL g ll = 0) (hg : checkG g = 0) (hT : TabOk g ll T N) (hs : ∀ d ∈ st, okTD g d) (hl : st.length ≤ 60) (h1 : seen ≤ 1000000) :
    Calls Try.prog 16 #[v, vr, clV vt (seen : Int) 0 false] w (Meets (endS (seen : Int) (endF g.prods (nxL ll T) st)) w) := by
  have hterm := hT.terms
  have hck := fun w' (hg' : Gr w w') => climbCheck_calls v vr vt g ll st (seen : Int) g.terms w' (h.gr hg') (hr.gr hg') (ht.gr hg') h0 hs hl (by omega) (by omega) (by omega) (by omega)
  obtain ⟨vp, rfl, hp, _⟩ := h
  have hbg := fun w' (hg' : Gr w w') => begun_calls g.terms g.nons vp vt st (seen : Int) 0 false w' (ht.gr hg') hl (by obtain ⟨b, c, e, _⟩ := hp; exact ⟨b, _, c, e⟩)
  have hdw := fun gw vt0 vo0 w' B ho hm => wdown_calls w gw g.terms g.nons vp vr g ll T N T hp hr hg hT (by omega) vt0 vo0 st w' B hs hl ho hm
  rw [← hterm] at hdw
  have hdt := fun R => @down_top g.prods (nxL ll T) 2001 st [] 0 R
  have hde := @down_err g.prods (nxL ll T) 2001 st [] 0
  generalize hD : downF g.prods (nxL ll T) 2001 st [] 0 = D at *
  obtain ⟨st1, out1, a1, e⟩ := D
  have hdt := fun h => hdt _ rfl h
  dsimp only at *
  refine enter (args := [graV g.terms g.nons vp, vr, clV vt (seen : Int) 0 false]) (n := 55) Try.func16 rfl rfl rfl ?_
  refine T_seq (T_region (TL_box rfl rfl rfl fun g0 => TL_box rfl rfl rfl fun g1 => TL_new rfl fun g2 => ?_))
  conv => arg 8; simp only [zA, zB, zC, zD, zE, zF, zG, zH, zI, rowS, ret, id_eq]
  repeat (first
    | refine qv rfl (qp rfl) rfl rfl ?_ | refine TL_nil ?_ | refine T_seq ?_ | refine T_region ?_ | refine qcT rfl ?_ | refine qcF rfl ?_ | refine T_skip ?_
    | refine T_ret ?_ | refine E_then ?_ | refine E_thenR ?_ | refine qs rfl rfl rfl rfl rfl rfl ?_
    | ((try refine qg rfl rfl rfl ?_); first | refine qv rfl (qp rfl) rfl rfl ?_ | refine qv rfl (rr_load1 (v := .int .i64 g.terms) TyC.ty rfl (at_blk (i := 0) rfl rfl)) rfl rfl ?_ | refine qv rfl (rr_loadB (i := 0) TyC.ty rfl rfl rfl) rfl rfl ?_ | refine qv rfl (rr_loadB (i := 1) TyC.ty rfl rfl rfl) rfl rfl ?_ | refine qv rfl (qfld FldC.fld rfl rfl) rfl rfl ?_ | refine qv rfl (rr_nilc rfl) rfl rfl ?_ | refine qv rfl (rr_eql rfl rfl (qT (by omega))) rfl rfl ?_ | refine qv rfl (rr_eql rfl rfl (qF (by omega))) rfl rfl ?_ | refine qv rfl (rr_neq rfl rfl (qT (by omega))) rfl rfl ?_ | refine qv rfl (rr_neq rfl rfl (qF (by omega))) rfl rfl ?_ | refine qv rfl (qlen Und.eq rfl) rfl rfl ?_ | refine qv rfl (rr_gtr rfl rfl (qT (by omega))) rfl rfl ?_ | refine qv rfl (rr_gtr rfl rfl (qF (by omega))) rfl rfl ?_))
  refine TL_call (he4 EntersC.en rfl rfl rfl rfl rfl) (fun w hm => hck _ hm.below) rfl rfl rfl ?_
  intro _ _
  conv => arg 8; simp only [zA, zB, zC, zD, zE, zF, zG, zH, zI, rowS, ret, id_eq]
  repeat (first
    | refine qv rfl (qp rfl) rfl rfl ?_ | refine TL_nil ?_ | refine T_seq ?_ | refine T_region ?_ | refine qcT rfl ?_ | refine qcF rfl ?_ | refine T_skip ?_
    | refine T_ret ?_ | refine E_then ?_ | refine E_thenR ?_ | refine qs rfl rfl rfl rfl rfl rfl ?_
    | ((try refine qg rfl rfl rfl ?_); first | refine qv rfl (qp rfl) rfl rfl ?_ | refine qv rfl (rr_loadB (i := 0) TyC.ty rfl rfl rfl) rfl rfl ?_ | refine qv rfl (rr_loadB (i := 1) TyC.ty rfl rfl rfl) rfl rfl ?_ | refine qv rfl (qfld FldC.fld rfl rfl) rfl rfl ?_ | refine qv rfl (rr_nilc rfl) rfl rfl ?_ | refine qv rfl (rr_eql rfl rfl (qT (by omega))) rfl rfl ?_ | refine qv rfl (rr_eql rfl rfl (qF (by omega))) rfl rfl ?_ | refine qv rfl (rr_neq rfl rfl (qT (by omega))) rfl rfl ?_ | refine qv rfl (rr_neq rfl rfl (qF (by omega))) rfl rfl ?_ | refine qv rfl (qlen Und.eq rfl) rfl rfl ?_ | refine qv rfl (rr_gtr rfl rfl (qT (by omega))) rfl rfl ?_ | refine qv rfl (rr_gtr rfl rfl (qF (by omega))) rfl rfl ?_))
  refine TL_call (he2 EntersC.en rfl rfl rfl) (fun w hm => hbg _ hm.below) rfl rfl rfl ?_
  rintro ⟨gw, vt1⟩ _
  conv => arg 8; simp only [zA, zB, zC, zD, zE, zF, zG, zH, zI, rowS, ret, id_eq, begunS]
  repeat (first
    | refine qv rfl (qp rfl) rfl rfl ?_ | refine TL_nil ?_ | refine T_seq ?_ | refine T_region ?_ | refine qcT rfl ?_ | refine qcF rfl ?_ | refine T_skip ?_
    | refine T_ret ?_ | refine E_then ?_ | refine E_thenR ?_ | refine qs rfl rfl rfl rfl rfl rfl ?_
    | ((try refine qg rfl rfl rfl ?_); first | refine qv rfl (qp rfl) rfl rfl ?_ | refine qv rfl (rr_load1 (v := .int .i64 g.terms) TyC.ty rfl (at_blk (i := 0) rfl rfl)) rfl rfl ?_ | refine qv rfl (qfld FldC.fld rfl rfl) rfl rfl ?_ | refine qv rfl (rr_nilc rfl) rfl rfl ?_ | refine qv rfl (rr_eql rfl rfl (qT (by omega))) rfl rfl ?_ | refine qv rfl (rr_eql rfl rfl (qF (by omega))) rfl rfl ?_ | refine qv rfl (rr_neq rfl rfl (qT (by omega))) rfl rfl ?_ | refine qv rfl (rr_neq rfl rfl (qF (by omega))) rfl rfl ?_ | refine qv rfl (qlen Und.eq rfl) rfl rfl ?_ | refine qv rfl (rr_gtr rfl rfl (qT (by omega))) rfl rfl ?_ | refine qv rfl (rr_gtr rfl rfl (qF (by omega))) rfl rfl ?_))
  refine TL_nilrow 39 2 ?_
  conv => arg 8; simp only [zA, zB, zC, zD, zE, zF, zG, zH, zI, rowS, ret, id_eq]
  refine TL_callB [3, 4, 5] [0, 1, 2] (by decide) rfl rfl (he3 EntersC.en rfl rfl rfl rfl) (fun w' hm hb => hdw gw vt1 _ w' _ ((Old.self w).on hm fun o h => pick_mem h) hb) rfl rfl rfl ?_
  rintro ⟨vt2, vo2⟩ _
  conv => arg 8; simp only [zA, zB, zC, zD, zE, zF, zG, zH, zI, rowS, ret, id_eq, dwS]
  conv => arg 7; simp only [dwS]
  rcases hde with rfl | rfl | rfl
  · rcases hdt rfl with rfl | ⟨x, r, rfl, hx⟩
    · rw [end_nil hD]
      repeat (first
        | refine qv rfl (qp rfl) rfl rfl ?_ | refine TL_nil ?_ | refine T_seq ?_ | refine T_region ?_ | refine qcT rfl ?_ | refine qcF rfl ?_ | refine T_skip ?_
        | refine T_ret ?_ | refine E_then ?_ | refine E_thenR ?_ | refine qs rfl rfl rfl rfl rfl rfl ?_
        | ((try refine qg rfl rfl rfl ?_); first | refine qv rfl (qp rfl) rfl rfl ?_ | refine qv rfl (rr_load1 (v := vt2) TyC.ty rfl (at_blk (i := 3) rfl rfl)) rfl rfl ?_ | refine qv rfl (rr_eql (b := true) rfl rfl rfl) rfl rfl ?_ | refine qv rfl (qfld FldC.fld rfl rfl) rfl rfl ?_ | refine qv rfl (rr_nilc rfl) rfl rfl ?_ | refine qv rfl (rr_eql rfl rfl (qT (by omega))) rfl rfl ?_ | refine qv rfl (rr_eql rfl rfl (qF (by omega))) rfl rfl ?_ | refine qv rfl (rr_neq rfl rfl (qT (by omega))) rfl rfl ?_ | refine qv rfl (rr_neq rfl rfl (qF (by omega))) rfl rfl ?_ | refine qv rfl (rr_rowlen (i := 4) Und.eq rfl rfl) rfl rfl ?_ | refine qv rfl (rr_gtr (b := false) rfl rfl rfl) rfl rfl ?_ | refine qv rfl (qlen Und.eq rfl) rfl rfl ?_ | refine qv rfl (rr_gtr rfl rfl (qT (by omega))) rfl rfl ?_ | refine qv rfl (rr_gtr rfl rfl (qF (by omega))) rfl rfl ?_))
      refine T_ord ([cwO gw g.terms g.nons vp vt2 vo2 a1, blkO g1 (clV vt (seen : Int) 0 false).cells 51]) (.calm 0 (.calm 1 (.calm 2 (.calm 3 (.calm 4 (.calm 5 (.calm 6 (.one 7 (.calm 8 (.calm 9 (.done))))))))))) (sub_pick [3, 1] (by decide) rfl) (by kernel_rfl) (by kernel_rfl) (by intro c a d v w h; cases d <;> exact h) ?_
      repeat (first
        | ((first | refine TW_plain rfl rfl ?_ | refine TW_gmet rfl rfl rfl rfl ?_); first | refine TN_val (qp rfl) rfl rfl ?_ | refine TN_val (rr_load1 (v := .int .i64 (seen : Int)) TyC.ty rfl (at_blk (i := 1) rfl rfl)) rfl rfl ?_ | refine TN_val (rr_load1 (v := vo2) TyC.ty rfl (at_blk (i := 0) rfl rfl)) rfl rfl ?_ | refine TN_val (rr_build rfl (build_clD _)) rfl rfl ?_ | refine TN_val (qfld FldC.fld rfl rfl) rfl rfl ?_ | refine TN_val (rr_nilc rfl) rfl rfl ?_ | refine TN_val (rr_eql rfl rfl (qT (by omega))) rfl rfl ?_ | refine TN_val (rr_eql rfl rfl (qF (by omega))) rfl rfl ?_ | refine TN_val (rr_neq rfl rfl (qT (by omega))) rfl rfl ?_ | refine TN_val (rr_neq rfl rfl (qF (by omega))) rfl rfl ?_ | refine TN_val (qlen Und.eq rfl) rfl rfl ?_ | refine TN_val (rr_gtr rfl rfl (qT (by omega))) rfl rfl ?_ | refine TN_val (rr_gtr rfl rfl (qF (by omega))) rfl rfl ?_)
        | refine TW_skip rfl rfl rfl rfl rfl rfl rfl ?_ | refine TW_done ?_)
      refine TW_one rfl (TL_storeB (i := 2) (cs' := #[.slice none 0 0, .int .i64 (seen : Int), .int .i64 0, .bool true]) rfl rfl rfl rfl rfl rfl (TW_on (sub_pick [3, 1] (by decide) rfl) ?_))
      repeat (first
        | ((first | refine TW_plain rfl rfl ?_ | refine TW_gmet rfl rfl rfl rfl ?_); first | refine TN_val (qp rfl) rfl rfl ?_ | refine TN_val (qfld FldC.fld rfl rfl) rfl rfl ?_ | refine TN_val (rr_nilc rfl) rfl rfl ?_ | refine TN_val (rr_eql rfl rfl (qT (by omega))) rfl rfl ?_ | refine TN_val (rr_eql rfl rfl (qF (by omega))) rfl rfl ?_ | refine TN_val (rr_neq rfl rfl (qT (by omega))) rfl rfl ?_ | refine TN_val (rr_neq rfl rfl (qF (by omega))) rfl rfl ?_ | refine TN_val (qlen Und.eq rfl) rfl rfl ?_ | refine TN_val (rr_gtr rfl rfl (qT (by omega))) rfl rfl ?_ | refine TN_val (rr_gtr rfl rfl (qF (by omega))) rfl rfl ?_)
        | refine TW_skip rfl rfl rfl rfl rfl rfl rfl ?_ | refine TW_done ?_)
      repeat (first
        | refine qv rfl (qp rfl) rfl rfl ?_ | refine TL_nil ?_ | refine T_seq ?_ | refine T_region ?_ | refine qcT rfl ?_ | refine qcF rfl ?_ | refine T_skip ?_
        | refine T_ret ?_ | refine E_then ?_ | refine E_thenR ?_ | refine qs rfl rfl rfl rfl rfl rfl ?_
        | ((try refine qg rfl rfl rfl ?_); first | refine qv rfl (qp rfl) rfl rfl ?_ | refine qv rfl (qfld FldC.fld rfl rfl) rfl rfl ?_ | refine qv rfl (rr_nilc rfl) rfl rfl ?_ | refine qv rfl (rr_eql rfl rfl (qT (by omega))) rfl rfl ?_ | refine qv rfl (rr_eql rfl rfl (qF (by omega))) rfl rfl ?_ | refine qv rfl (rr_neq rfl rfl (qT (by omega))) rfl rfl ?_ | refine qv rfl (rr_neq rfl rfl (qF (by omega))) rfl rfl ?_ | refine qv rfl (qlen Und.eq rfl) rfl rfl ?_ | refine qv rfl (rr_gtr rfl rfl (qT (by omega))) rfl rfl ?_ | refine qv rfl (rr_gtr rfl rfl (qF (by omega))) rfl rfl ?_))
      exact E_retc3 (i := 2) rfl rfl rfl rfl rfl rfl fun w hm => hm.meets (S := endS (seen : Int) (0, out1)) vo2 trivial [5] (by decide) rfl
    · rw [end_sym hD]
      repeat (first
        | refine qv rfl (qp rfl) rfl rfl ?_ | refine TL_nil ?_ | refine T_seq ?_ | refine T_region ?_ | refine qcT rfl ?_ | refine qcF rfl ?_ | refine T_skip ?_
        | refine T_ret ?_ | refine E_then ?_ | refine E_thenR ?_ | refine qs rfl rfl rfl rfl rfl rfl ?_
        | ((try refine qg rfl rfl rfl ?_); first | refine qv rfl (qp rfl) rfl rfl ?_ | refine qv rfl (rr_load1 (v := vt2) TyC.ty rfl (at_blk (i := 3) rfl rfl)) rfl rfl ?_ | refine qv rfl (rr_eql (b := true) rfl rfl rfl) rfl rfl ?_ | refine qv rfl (rr_load1 (v := .int .i64 (seen : Int)) TyC.ty rfl (at_blk (i := 1) rfl rfl)) rfl rfl ?_ | refine qv rfl (rr_build rfl (build_clE _ _)) rfl rfl ?_ | refine qv rfl (qfld FldC.fld rfl rfl) rfl rfl ?_ | refine qv rfl (rr_nilc rfl) rfl rfl ?_ | refine qv rfl (rr_eql rfl rfl (qT (by omega))) rfl rfl ?_ | refine qv rfl (rr_eql rfl rfl (qF (by omega))) rfl rfl ?_ | refine qv rfl (rr_neq rfl rfl (qT (by omega))) rfl rfl ?_ | refine qv rfl (rr_neq rfl rfl (qF (by omega))) rfl rfl ?_ | refine qv rfl (rr_rowlen (i := 4) Und.eq rfl rfl) rfl rfl ?_ | refine qv rfl (rr_gtr (b := true) rfl rfl (decide_eq_true (by rw [List.length_cons]; omega))) rfl rfl ?_ | refine qv rfl (qlen Und.eq rfl) rfl rfl ?_ | refine qv rfl (rr_gtr rfl rfl (qT (by omega))) rfl rfl ?_ | refine qv rfl (rr_gtr rfl rfl (qF (by omega))) rfl rfl ?_))
      refine TL_storeB (i := 2) (cs' := #[.slice none 0 0, .int .i64 (seen : Int), .int .i64 13, .bool false]) rfl rfl rfl rfl rfl rfl ?_
      conv => arg 8; simp only [zA, zB, zC, zD, zE, zF, zG, zH, zI, rowS, ret, id_eq]
      repeat (first
        | refine qv rfl (qp rfl) rfl rfl ?_ | refine TL_nil ?_ | refine T_seq ?_ | refine T_region ?_ | refine qcT rfl ?_ | refine qcF rfl ?_ | refine T_skip ?_
        | refine T_ret ?_ | refine E_then ?_ | refine E_thenR ?_ | refine qs rfl rfl rfl rfl rfl rfl ?_
        | ((try refine qg rfl rfl rfl ?_); first | refine qv rfl (qp rfl) rfl rfl ?_ | refine qv rfl (qfld FldC.fld rfl rfl) rfl rfl ?_ | refine qv rfl (rr_nilc rfl) rfl rfl ?_ | refine qv rfl (rr_eql rfl rfl (qT (by omega))) rfl rfl ?_ | refine qv rfl (rr_eql rfl rfl (qF (by omega))) rfl rfl ?_ | refine qv rfl (rr_neq rfl rfl (qT (by omega))) rfl rfl ?_ | refine qv rfl (rr_neq rfl rfl (qF (by omega))) rfl rfl ?_ | refine qv rfl (qlen Und.eq rfl) rfl rfl ?_ | refine qv rfl (rr_gtr rfl rfl (qT (by omega))) rfl rfl ?_ | refine qv rfl (rr_gtr rfl rfl (qF (by omega))) rfl rfl ?_))
      exact E_retc3 (i := 2) rfl rfl rfl rfl rfl rfl fun w hm => hm.meets (S := endS (seen : Int) (13, [])) (.slice none 0 0) trivial [] (by decide) rfl
  · rw [end_bad hD (by decide)]
    repeat (first
      | refine qv rfl (qp rfl) rfl rfl ?_ | refine TL_nil ?_ | refine T_seq ?_ | refine T_region ?_ | refine qcT rfl ?_ | refine qcF rfl ?_ | refine T_skip ?_
      | refine T_ret ?_ | refine E_then ?_ | refine E_thenR ?_ | refine qs rfl rfl rfl rfl rfl rfl ?_
      | ((try refine qg rfl rfl rfl ?_); first | refine qv rfl (qp rfl) rfl rfl ?_ | refine qv rfl (rr_load1 (v := .int .i64 (seen : Int)) TyC.ty rfl (at_blk (i := 1) rfl rfl)) rfl rfl ?_ | refine qv rfl (rr_build rfl (build_clE _ _)) rfl rfl ?_ | refine qv rfl (qfld FldC.fld rfl rfl) rfl rfl ?_ | refine qv rfl (rr_nilc rfl) rfl rfl ?_ | refine qv rfl (rr_eql rfl rfl (qT (by omega))) rfl rfl ?_ | refine qv rfl (rr_eql rfl rfl (qF (by omega))) rfl rfl ?_ | refine qv rfl (rr_neq rfl rfl (qT (by omega))) rfl rfl ?_ | refine qv rfl (rr_neq rfl rfl (qF (by omega))) rfl rfl ?_ | refine qv rfl (qlen Und.eq rfl) rfl rfl ?_ | refine qv rfl (rr_gtr rfl rfl (qT (by omega))) rfl rfl ?_ | refine qv rfl (rr_gtr rfl rfl (qF (by omega))) rfl rfl ?_))
    refine TL_storeB (i := 2) (cs' := #[.slice none 0 0, .int .i64 (seen : Int), .int .i64 13, .bool false]) rfl rfl rfl rfl rfl rfl ?_
    conv => arg 8; simp only [zA, zB, zC, zD, zE, zF, zG, zH, zI, rowS, ret, id_eq]
    repeat (first
      | refine qv rfl (qp rfl) rfl rfl ?_ | refine TL_nil ?_ | refine T_seq ?_ | refine T_region ?_ | refine qcT rfl ?_ | refine qcF rfl ?_ | refine T_skip ?_
      | refine T_ret ?_ | refine E_then ?_ | refine E_thenR ?_ | refine qs rfl rfl rfl rfl rfl rfl ?_
      | ((try refine qg rfl rfl rfl ?_); first | refine qv rfl (qp rfl) rfl rfl ?_ | refine qv rfl (qfld FldC.fld rfl rfl) rfl rfl ?_ | refine qv rfl (rr_nilc rfl) rfl rfl ?_ | refine qv rfl (rr_eql rfl rfl (qT (by omega))) rfl rfl ?_ | refine qv rfl (rr_eql rfl rfl (qF (by omega))) rfl rfl ?_ | refine qv rfl (rr_neq rfl rfl (qT (by omega))) rfl rfl ?_ | refine qv rfl (rr_neq rfl rfl (qF (by omega))) rfl rfl ?_ | refine qv rfl (qlen Und.eq rfl) rfl rfl ?_ | refine qv rfl (rr_gtr rfl rfl (qT (by omega))) rfl rfl ?_ | refine qv rfl (rr_gtr rfl rfl (qF (by omega))) rfl rfl ?_))
    exact E_retc3 (i := 2) rfl rfl rfl rfl rfl rfl fun w hm => hm.meets (S := endS (seen : Int) (13, [])) (.slice none 0 0) trivial [] (by decide) rfl
  · rw [end_bad hD (by decide)]
    repeat (first
      | refine qv rfl (qp rfl) rfl rfl ?_ | refine TL_nil ?_ | refine T_seq ?_ | refine T_region ?_ | refine qcT rfl ?_ | refine qcF rfl ?_ | refine T_skip ?_
      | refine T_ret ?_ | refine E_then ?_ | refine E_thenR ?_ | refine qs rfl rfl rfl rfl rfl rfl ?_
      | ((try refine qg rfl rfl rfl ?_); first | refine qv rfl (qp rfl) rfl rfl ?_ | refine qv rfl (rr_load1 (v := .int .i64 (seen : Int)) TyC.ty rfl (at_blk (i := 1) rfl rfl)) rfl rfl ?_ | refine qv rfl (rr_build rfl (build_clE _ _)) rfl rfl ?_ | refine qv rfl (qfld FldC.fld rfl rfl) rfl rfl ?_ | refine qv rfl (rr_nilc rfl) rfl rfl ?_ | refine qv rfl (rr_eql rfl rfl (qT (by omega))) rfl rfl ?_ | refine qv rfl (rr_eql rfl rfl (qF (by omega))) rfl rfl ?_ | refine qv rfl (rr_neq rfl rfl (qT (by omega))) rfl rfl ?_ | refine qv rfl (rr_neq rfl rfl (qF (by omega))) rfl rfl ?_ | refine qv rfl (qlen Und.eq rfl) rfl rfl ?_ | refine qv rfl (rr_gtr rfl rfl (qT (by omega))) rfl rfl ?_ | refine qv rfl (rr_gtr rfl rfl (qF (by omega))) rfl rfl ?_))
    refine TL_storeB (i := 2) (cs' := #[.slice none 0 0, .int .i64 (seen : Int), .int .i64 14, .bool false]) rfl rfl rfl rfl rfl rfl ?_
    conv => arg 8; simp only [zA, zB, zC, zD, zE, zF, zG, zH, zI, rowS, ret, id_eq]
    repeat (first
      | refine qv rfl (qp rfl) rfl rfl ?_ | refine TL_nil ?_ | refine T_seq ?_ | refine T_region ?_ | refine qcT rfl ?_ | refine qcF rfl ?_ | refine T_skip ?_
      | refine T_ret ?_ | refine E_then ?_ | refine E_thenR ?_ | refine qs rfl rfl rfl rfl rfl rfl ?_
      | ((try refine qg rfl rfl rfl ?_); first | refine qv rfl (qp rfl) rfl rfl ?_ | refine qv rfl (qfld FldC.fld rfl rfl) rfl rfl ?_ | refine qv rfl (rr_nilc rfl) rfl rfl ?_ | refine qv rfl (rr_eql rfl rfl (qT (by omega))) rfl rfl ?_ | refine qv rfl (rr_eql rfl rfl (qF (by omega))) rfl rfl ?_ | refine qv rfl (rr_neq rfl rfl (qT (by omega))) rfl rfl ?_ | refine qv rfl (rr_neq rfl rfl (qF (by omega))) rfl rfl ?_ | refine qv rfl (qlen Und.eq rfl) rfl rfl ?_ | refine qv rfl (rr_gtr rfl rfl (qT (by omega))) rfl rfl ?_ | refine qv rfl (rr_gtr rfl rfl (qF (by omega))) rfl rfl ?_))
    exact E_retc3 (i := 2) rfl rfl rfl rfl rfl rfl fun w hm => hm.meets (S := endS (seen : Int) (14, [])) (.slice none 0 0) trivial [] (by decide) rfl
end Go.Proofs.Ytkkiopmdcolobaa.eng

/- Opens -/
namespace Go.Proofs.Ytkkiopmdcolobaa.derL
open gramL treeL countL factsL
def partO (o : Sym → Nat → Nat → Nat) (x : Sym) (frm : Nat) (A : Nat → Bool) : Nat → Nat → Bool
  | 0, _ => false
  | k + 1, b => partO o x frm A k b || (A (frm + k) && decide (frm + k ≤ b) && decide (0 < o x (frm + k) b))
def anyO (p : Nat → Bool) (frm : Nat) : Nat → Bool
  | 0 => false
  | k + 1 => anyO p frm k || p (frm + k)
def opGo (o : Sym → Nat → Nat → Nat) (O : Nat → Nat → Bool) (n frm : Nat) : List Sym → (Nat → Bool) → Bool
  | [], A => A n
  | x :: r, A => if A n = true then true else if x.1 = 2 ∧ anyO (fun a => A a && O x.2.toNat a) frm (n + 1 - frm) = true then true else opGo o O n frm r (partO o x frm A (n + 1 - frm))
def opensF (o : Sym → Nat → Nat → Nat) (O : Nat → Nat → Bool) (M : List Bool) (n frm : Nat) (l : List Sym) : Bool := if allF M l true = true then opGo o O n frm l (fun b => decide (b = frm)) else false
section
variable {o : Sym → Nat → Nat → Nat} {x : Sym} {frm : Nat} {A : Nat → Bool}
theorem partO_iff {b : Nat} : ∀ {k : Nat}, partO o x frm A k b = true ↔ ∃ i, i < k ∧ A (frm + i) = true ∧ frm + i ≤ b ∧ 0 < o x (frm + i) b
  | 0 => by simp [partO]
  | k + 1 => by
    rw [partO, Bool.or_eq_true, partO_iff, Bool.and_eq_true, Bool.and_eq_true, decide_eq_true_iff, decide_eq_true_iff]
    constructor
    · rintro (⟨i, h1, h2⟩ | ⟨⟨h1, h2⟩, h3⟩)
      · exact ⟨i, by omega, h2⟩
      · exact ⟨k, by omega, h1, h2, h3⟩
    · rintro ⟨i, h1, h2, h3, h4⟩
      by_cases e : i = k
      · subst e; exact .inr ⟨⟨h2, h3⟩, h4⟩
      · exact .inl ⟨i, by omega, h2, h3, h4⟩
theorem anyO_iff {p : Nat → Bool} : ∀ {k : Nat}, anyO p frm k = true ↔ ∃ i, i < k ∧ p (frm + i) = true
  | 0 => by simp [anyO]
  | k + 1 => by
    rw [anyO, Bool.or_eq_true, anyO_iff]
    constructor
    · rintro (⟨i, h1, h2⟩ | h1)
      · exact ⟨i, by omega, h2⟩
      · exact ⟨k, by omega, h1⟩
    · rintro ⟨i, h1, h2⟩
      by_cases e : i = k
      · subst e; exact .inr h2
      · exact .inl ⟨i, by omega, h2⟩
end
section
variable {w : List Int} {l : List gramL.Prod} {n : Nat} {c : Chart} {O : Nat → Nat → Bool}
theorem made_all : ∀ (b : List Sym), (∀ x ∈ b, ∃ ws, Der l x ws) → ∃ ws, Ders l b ws
  | [], _ => ⟨[], .nil⟩
  | x :: r, h => by
    obtain ⟨u, h1⟩ := h x (by simp)
    obtain ⟨s, h2⟩ := made_all r fun y hy => h y (by simp [hy])
    exact ⟨u ++ s, .cons h1 h2⟩
theorem cut_drop {a b : Nat} (h : a ≤ b) : cut w a b ++ w.drop b = w.drop a := by
  unfold cut
  have e3 : w.drop b = (w.drop a).drop (b - a) := by rw [List.drop_drop, show a + (b - a) = b by omega]
  rw [e3, List.take_append_drop]
theorem opGo_sound (hc : Lfp w l n c) (hs : SymsOk n l) (hO : ∀ (k : Nat) a, O k a = true → a ≤ w.length → ∃ v, Der l (2, (k : Int)) (w.drop a ++ v)) {frm : Nat} (hf : frm ≤ w.length) : ∀ (body : List Sym) (A : Nat → Bool) (pre : List Sym), (∀ x ∈ body, (x.1 = 1 ∨ (x.1 = 2 ∧ 0 ≤ x.2 ∧ x.2 < (n : Int))) ∧ ∃ ws, Der l x ws) → (∀ b, frm ≤ b → b ≤ w.length → A b = true → Ders l pre (cut w frm b)) → opGo (oneF c w) O w.length frm body A = true → ∃ v, Ders l (pre ++ body) (w.drop frm ++ v)
  | [], A, pre, _, hA, h => by
    have := hA w.length hf (Nat.le_refl _) h
    rw [cut_end rfl] at this
    exact ⟨[], by rw [List.append_nil, List.append_nil]; exact this⟩
  | x :: r, A, pre, hx, hA, h => by
    rw [opGo] at h
    split at h
    · rename_i h1
      have h2 := hA w.length hf (Nat.le_refl _) h1
      rw [cut_end rfl] at h2
      obtain ⟨ws, h3⟩ := made_all (x :: r) fun y hy => (hx y hy).2
      exact ⟨ws, h2.app h3⟩
    · split at h
      · rename_i h1
        obtain ⟨h1, h2⟩ := h1
        obtain ⟨i, h3, h4⟩ := anyO_iff.1 h2
        rw [Bool.and_eq_true] at h4
        have hk := ((hx x (by simp)).1.resolve_left (by omega)).2
        obtain ⟨v, h5⟩ := hO _ _ h4.2 (by omega)
        obtain ⟨x1, x2⟩ := x
        dsimp only at h1 hk h5
        subst h1
        rw [Int.toNat_of_nonneg hk.1] at h5
        obtain ⟨ws, h6⟩ := made_all r fun y hy => (hx y (by simp [hy])).2
        refine ⟨v ++ ws, ?_⟩
        have h7 := (hA (frm + i) (by omega) (by omega) h4.1).app (Ders.cons h5 h6)
        rw [List.append_assoc (w.drop (frm + i)), ← List.append_assoc (cut w frm (frm + i)), cut_drop (by omega)] at h7
        exact h7
      · obtain ⟨v, h1⟩ := opGo_sound hc hs hO hf r _ (pre ++ [x]) (fun y hy => hx y (by simp [hy])) (fun b hb1 hb2 hb => by
          obtain ⟨i, h3, h4, h5, h6⟩ := partO_iff.1 hb
          rw [← cut_app (by omega : frm ≤ frm + i) h5]
          exact (hA _ (by omega) (by omega) h4).app (ders_one (der_of_one hc hs (hx x (by simp)).1 h5 hb2 h6))) h
        exact ⟨v, by rw [List.append_assoc] at h1; exact h1⟩
theorem opensF_sound {M : List Bool} (hM : ∀ i : Nat, M.getD i false = true → ∃ ws, Der l (2, (i : Int)) ws) (hc : Lfp w l n c) (hs : SymsOk n l) (hO : ∀ (k : Nat) a, O k a = true → a ≤ w.length → ∃ v, Der l (2, (k : Int)) (w.drop a ++ v)) {frm : Nat} (hf : frm ≤ w.length) {body : List Sym} (hx : ∀ x ∈ body, x.1 = 1 ∨ (x.1 = 2 ∧ 0 ≤ x.2 ∧ x.2 < (n : Int))) (h : opensF (oneF c w) O M w.length frm body = true) : ∃ v, Ders l body (w.drop frm ++ v) := by
  unfold opensF at h
  split at h
  · rename_i hm
    refine opGo_sound hc hs hO hf body _ [] (fun x hb => ⟨hx x hb, ?_⟩) (fun b _ _ hb => ?_) h
    · unfold allF at hm
      have := List.all_eq_true.1 hm x hb
      rcases hx x hb with c1 | ⟨c1, c2, _⟩
      · exact ⟨_, .term c1⟩
      · rw [if_neg (by omega), if_pos c1] at this
        obtain ⟨ws, hw⟩ := hM _ this
        obtain ⟨x1, x2⟩ := x
        dsimp only at c1 c2 hw
        subst c1
        rw [Int.toNat_of_nonneg c2] at hw
        exact ⟨ws, hw⟩
    · have : b = frm := by simpa using hb
      subst this
      rw [cut_self]; exact .nil
  · cases h
end
end Go.Proofs.Ytkkiopmdcolobaa.derL

/- BeginL -/
namespace Go.Proofs.Ytkkiopmdcolobaa.derL
open gramL treeL countL factsL eng
def setB (O : Nat → Nat → Bool) (h a : Nat) : Nat → Nat → Bool := fun i j => if i = h ∧ j = a then true else O i j
def fal (N m : Nat) (O : Nat → Nat → Bool) : Nat := sumN (fun i => sumN (fun j => if O i j = true then 0 else 1) m) N
def SoundO (l : List gramL.Prod) (w : List Int) (O : Nat → Nat → Bool) : Prop := ∀ (k : Nat) a, O k a = true → a ≤ w.length → ∃ v, Der l (2, (k : Int)) (w.drop a ++ v)
theorem sumN_lt {f f' : Nat → Nat} : ∀ {k i : Nat}, i < k → (∀ j, j < k → f j ≤ f' j) → f i < f' i → sumN f k < sumN f' k
  | k + 1, i, hi, h, hl => by
    rw [sumN, sumN]
    by_cases e : i = k
    · subst e
      have := sumN_mono (f := f) (f' := f') i fun j hj => h j (by omega)
      omega
    · have := sumN_lt (f := f) (f' := f') (k := k) (i := i) (by omega) (fun j hj => h j (by omega)) hl
      have := h k (by omega)
      omega
theorem fal_set {N m h a : Nat} {O : Nat → Nat → Bool} (hh : h < N) (ha : a < m) (ho : O h a = false) : fal N m (setB O h a) < fal N m O := by
  have hle : ∀ i j, (if setB O h a i j = true then 0 else 1) ≤ (if O i j = true then 0 else 1) := fun i j => by
    unfold setB
    by_cases e : i = h ∧ j = a
    · rw [if_pos e, if_pos rfl]; exact Nat.zero_le _
    · rw [if_neg e]; exact Nat.le_refl _
  unfold fal
  refine sumN_lt hh (fun i _ => sumN_mono m fun j _ => hle i j) (sumN_lt ha (fun j _ => hle h j) ?_)
  have e1 : setB O h a h a = true := by unfold setB; rw [if_pos ⟨rfl, rfl⟩]
  rw [e1, ho]; decide
/-- the pass: what it has come to -/
structure PassO (l : List gramL.Prod) (w : List Int) (o : Sym → Nat → Nat → Nat) (M : List Bool) (N : Nat) (O O' : Nat → Nat → Bool) (more : Bool) (i a : Nat) : Prop where
  sound : SoundO l w O'
  less : more = true → fal N (w.length + 1) O' < fal N (w.length + 1) O
  still : more = false → O' = O ∧ ∀ q a', (q < i ∨ (q = i ∧ a' < a)) → ∀ h : q < l.length, a' ≤ w.length → opensF o O M w.length a' l[q].2 = true → O l[q].1.toNat a' = true
section
variable {l : List gramL.Prod} {w : List Int} {n : Nat} {c : Chart} {M : List Bool} {O O' : Nat → Nat → Bool} {more : Bool} {i a : Nat}
theorem PassO.set (hM : ∀ i : Nat, M.getD i false = true → ∃ ws, Der l (2, (i : Int)) ws) (hc : Lfp w l n c) (hs : SymsOk n l) {N : Nat} (h : PassO l w (oneF c w) M N O O' more i a) (hi : i < l.length) (ha : a ≤ w.length) (hN : l[i].1.toNat < N) (h0 : O' l[i].1.toNat a = false) (h1 : opensF (oneF c w) O' M w.length a l[i].2 = true) : PassO l w (oneF c w) M N O (setB O' l[i].1.toNat a) true i (a + 1) := by
  obtain ⟨s1, s2, s3⟩ := hs _ (List.getElem_mem hi)
  refine ⟨fun k b hk hb => ?_, fun _ => ?_, fun e => by cases e⟩
  · unfold setB at hk
    by_cases e : k = l[i].1.toNat ∧ b = a
    · obtain ⟨rfl, rfl⟩ := e
      obtain ⟨v, hv⟩ := opensF_sound hM hc hs h.sound ha (fun x hx => (s3 x hx)) h1
      exact ⟨v, .non (by show (2 : Int) ≠ 1; decide) (List.getElem_mem hi) (by show l[i].1 = ((l[i].1.toNat : Nat) : Int); omega) hv⟩
    · rw [if_neg e] at hk
      exact h.sound k b hk hb
  · have := fal_set (N := N) (m := w.length + 1) hN (by omega : a < w.length + 1) h0
    cases hm : more
    · obtain ⟨rfl, _⟩ := h.still hm
      exact this
    · have := h.less hm; omega
end
end Go.Proofs.Ytkkiopmdcolobaa.derL

/- ClimbM -/
namespace Go.Proofs.Ytkkiopmdcolobaa.climbL
open gramL treeL countL factsL derL llL
section
variable {l : List gramL.Prod} {C : Int → Nat → Int → Prop}
mutual
theorem tree_rem {nx : Int → Nat → Int} (hd : (∀ n u p, C n u p) ∨ ∀ n u p, nx n u = p → C n u p) : ∀ {t : Tree} {x : Sym} {u : Nat} {st : List TD} {E : List Sym} {w : List Int}, Right l t x u → (∀ n u p, C n u p) ∨ (0 ≤ t.prod → DetT l nx t u) → Rem l C st (u + leaves t) E w → Rem l C (.sym x :: st) u (downX l t ++ E) (yieldX l t x ++ w)
  | .mk p k kids, x, u, st, E, w, h, hT, hr => by
    rw [Right] at h
    rcases h with ⟨h1, rfl, rfl, rfl⟩ | ⟨h1, h2, h3, h4, rfl, h5⟩
    · have e1 : downX l (.mk (-1) (u : Int) []) = [(2, (u : Int))] := by unfold downX; rw [if_pos (by show (-1 : Int) < 0; omega)]; rfl
      have e2 : yieldX l (.mk (-1) (u : Int) []) x = [x.2] := by unfold yieldX; rw [if_pos (by show (-1 : Int) < 0; omega)]
      have e3 : leaves (.mk (-1) (u : Int) []) = 1 := by rw [leaves, if_pos (by omega)]
      rw [e1, e2]; rw [e3] at hr
      exact .term h1 hr
    · have hp : ¬ p < 0 := by omega
      have e1 : downX l (.mk p 0 kids) = (1, p) :: ((actss l kids (prodAt l p).2).map evD ++ [(3, p)]) := by
        unfold downX; rw [if_neg (by show ¬ p < 0; exact hp)]; unfold downE; rw [acts]; simp [evD]
      have e2 : yieldX l (.mk p 0 kids) x = yields l kids (prodAt l p).2 := by unfold yieldX; rw [if_neg (by show ¬ p < 0; exact hp), yieldT_eq]
      have e3 : leaves (.mk p 0 kids) = leavess kids := by rw [leaves, if_neg hp]
      rw [e1, e2]; rw [e3] at hr
      have hk := trees_rem (nx := nx) hd h5 (hT.imp id fun h => by
        have := h h2
        rw [DetT] at this
        exact this.2) (.close (p := p) hr)
      have hc : C x.2 u p := by
        rcases hd with hd | hd
        · exact hd _ _ _
        · rcases hT with hT | hT
          · exact hT _ _ _
          · have := hT h2
            rw [DetT] at this
            rw [← h4]; exact hd _ _ _ this.1
      have := Rem.opn (E := (actss l kids (prodAt l p).2).map evD ++ (3, p) :: E) (w := yields l kids (prodAt l p).2 ++ w) h1 h2 h3 h4 hc hk
      simpa using this
theorem trees_rem {nx : Int → Nat → Int} (hd : (∀ n u p, C n u p) ∨ ∀ n u p, nx n u = p → C n u p) : ∀ {ks : List Tree} {b : List Sym} {u : Nat} {st : List TD} {E : List Sym} {w : List Int}, Rights l ks b u → (∀ n u p, C n u p) ∨ DetK l nx ks u → Rem l C st (u + leavess ks) E w → Rem l C (b.map .sym ++ st) u ((actss l ks b).map evD ++ E) (yields l ks b ++ w)
  | [], [], u, st, E, w, _, _, hr => hr
  | [], _ :: _, _, _, _, _, h, _, _ => by rw [Rights] at h; exact h.elim
  | _ :: _, [], _, _, _, _, h, _, _ => by rw [Rights] at h; exact h.elim
  | .mk p k kk :: r, y :: b, u, st, E, w, h, hT, hr => by
    rw [Rights] at h
    rw [leavess, ← Nat.add_assoc] at hr
    have hk := trees_rem (nx := nx) hd h.2 (hT.imp id fun h => by rw [DetK] at h; exact h.2) hr
    have ht := tree_rem (nx := nx) hd h.1 (hT.imp id fun h => by
      rw [DetK] at h
      intro h0
      rcases h.1 with h1 | h1
      · exact absurd h0 (by show ¬ 0 ≤ p; omega)
      · exact h1) hk
    rw [actss_cons, yields_X, List.append_assoc, List.append_assoc]
    exact ht
end
theorem rem_kids (N : Nat) (ih : ∀ {x : Sym} {st : List TD} {u : Nat} {E : List Sym} {w : List Int}, E.length < N → Rem l C (.sym x :: st) u E w → ∃ t E2 w2, Right l t x u ∧ E = downX l t ++ E2 ∧ w = yieldX l t x ++ w2 ∧ Rem l C st (u + leaves t) E2 w2) : ∀ {b : List Sym} {st : List TD} {u : Nat} {E : List Sym} {w : List Int}, E.length < N → Rem l C (b.map .sym ++ st) u E w → ∃ ts E2 w2, Rights l ts b u ∧ E = (actss l ts b).map evD ++ E2 ∧ w = yields l ts b ++ w2 ∧ Rem l C st (u + leavess ts) E2 w2
  | [], st, u, E, w, _, h => ⟨[], E, w, by rw [Rights]; trivial, by rw [actss]; rfl, rfl, by rw [leavess]; exact h⟩
  | y :: b, st, u, E, w, hN, h => by
    obtain ⟨t, E2, w2, h1, rfl, rfl, h4⟩ := ih hN h
    rw [List.length_append] at hN
    obtain ⟨ts, E3, w3, k1, rfl, rfl, k4⟩ := rem_kids N ih (b := b) (by omega) h4
    refine ⟨t :: ts, E3, w3, by rw [Rights]; exact ⟨h1, k1⟩, by rw [actss_cons, List.append_assoc], by rw [yields_X, List.append_assoc], by rw [leavess, ← Nat.add_assoc]; exact k4⟩
/-- what is to come of a symbol is a tree's -/
theorem rem_tree : ∀ (N : Nat) {x : Sym} {st : List TD} {u : Nat} {E : List Sym} {w : List Int}, E.length < N → Rem l C (.sym x :: st) u E w → ∃ t E2 w2, Right l t x u ∧ E = downX l t ++ E2 ∧ w = yieldX l t x ++ w2 ∧ Rem l C st (u + leaves t) E2 w2
  | 0, _, _, _, _, _, h, _ => absurd h (by omega)
  | N + 1, x, st, u, E, w, hN, h => by
    cases h with
    | @term _ _ _ E2 w2 hx h =>
      refine ⟨.mk (-1) (u : Int) [], E2, w2, by rw [Right]; exact .inl ⟨hx, rfl, rfl, rfl⟩, ?_, ?_, ?_⟩
      · unfold downX; rw [if_pos (by show (-1 : Int) < 0; omega)]; rfl
      · unfold yieldX; rw [if_pos (by show (-1 : Int) < 0; omega)]; rfl
      · rw [leaves, if_pos (by omega)]; exact h
    | @opn _ p _ _ E2 w2 hx h0 h1 h2 hc h =>
      unfold opened at h
      have hE : E2.length < N := by simp at hN; omega
      obtain ⟨ts, E3, w3, k1, rfl, rfl, k4⟩ := rem_kids N (fun hN h => rem_tree N hN h) hE h
      cases k4 with
      | @close _ _ _ E4 _ k4 =>
        have hp : ¬ p < 0 := by omega
        refine ⟨.mk p 0 ts, E4, w3, by rw [Right]; exact .inr ⟨hx, h0, h1, h2, rfl, k1⟩, ?_, ?_, ?_⟩
        · unfold downX; rw [if_neg (by show ¬ p < 0; exact hp)]; unfold downE; rw [acts]; simp [evD]
        · unfold yieldX; rw [if_neg (by show ¬ p < 0; exact hp), yieldT_eq]
        · rw [leaves, if_neg hp]; exact k4
mutual
theorem right_der : ∀ {t : Tree} {x : Sym} {u : Nat}, Right l t x u → Der l x (yieldX l t x)
  | .mk p k kids, x, u, h => by
    rw [Right] at h
    rcases h with ⟨h1, rfl, rfl, rfl⟩ | ⟨h1, h2, h3, h4, rfl, h5⟩
    · unfold yieldX; rw [if_pos (by show (-1 : Int) < 0; omega)]; exact .term h1
    · unfold yieldX; rw [if_neg (by show ¬ p < 0; omega), yieldT_eq]
      exact .non h1 (prodAt_mem h2 h3) h4 (rights_der h5)
theorem rights_der : ∀ {ks : List Tree} {b : List Sym} {u : Nat}, Rights l ks b u → Ders l b (yields l ks b)
  | [], [], _, _ => .nil
  | [], _ :: _, _, h => by rw [Rights] at h; exact h.elim
  | _ :: _, [], _, h => by rw [Rights] at h; exact h.elim
  | t :: r, y :: b, u, h => by
    rw [Rights] at h
    rw [yields_X]
    exact .cons (right_der h.1) (rights_der h.2)
end
end
theorem start_rem {l : List gramL.Prod} {C : Int → Nat → Int → Prop} {E : List Sym} {w : List Int} (h : Rem l C [.sym (2, 0)] 0 E w) : ∃ t, Right l t (2, 0) 0 ∧ downE l t = E ∧ yieldT l t = w := by
  obtain ⟨t, E2, w2, h1, h2, h3, h4⟩ := rem_tree (E.length + 1) (Nat.lt_succ_self _) h
  cases h4
  have hp : ¬ t.prod < 0 := by
    obtain ⟨p, k, kids⟩ := t
    rw [Right] at h1
    rcases h1 with ⟨h, _⟩ | ⟨_, h, _⟩
    · cases h
    · exact Int.not_lt.2 h
  refine ⟨t, h1, ?_, ?_⟩
  · rw [h2]; unfold downX; rw [if_neg hp, List.append_nil]
  · rw [h3]; unfold yieldX; rw [if_neg hp, List.append_nil]
/-! ### whole words -/
section
variable {g : Gram} {T N : Nat}
def nxC (g : Gram) (T N : Nat) : Int → Nat → Int := fun n col => llL.rowAt g.prods (eng.mayG N g.prods) T n.toNat col
theorem nx_ok (col : Nat) : NxOk g.prods (fun n => nxC g T N n col) := fun n h0 => by
  refine ⟨(first_ge n.toNat col g.prods.length).2, fun hn => ?_⟩
  have := first_head (may := eng.mayG N g.prods) (T := T) n.toNat col g.prods.length (Nat.le_refl _) h0
  show (prodAt g.prods (firstL g.prods (eng.mayG N g.prods) T n.toNat col g.prods.length)).1 = n
  rw [this]
  omega
/-- what the parse of the rest comes to -/
structure RunOk (g : Gram) (T N : Nat) (r : List Int) (st : List TD) (a : Nat) (out : List Sym) (R : List Sym × Nat × Int) : Prop where
  err : R.2.2 = 0 ∨ R.2.2 = 13 ∨ R.2.2 = 14
  ge : a ≤ R.2.1
  le : R.2.1 ≤ a + r.length
  all : R.2.2 = 0 → R.2.1 = a + r.length
  ok : R.2.2 = 0 → ∃ E, R.1 = out ++ E ∧ Rem g.prods (fun _ _ _ => True) st a E r
  far : ∃ st', (∀ d ∈ st', okTD g d) ∧ ∀ E w, Rem g.prods (fun _ _ _ => True) st' R.2.1 E w → ∃ E', Rem g.prods (fun _ _ _ => True) st a E' (r.take (R.2.1 - a) ++ w)
theorem run_ok (hg : checkG g = 0) : ∀ (r : List Int) (st : List TD) (a : Nat) (out : List Sym), (∀ d ∈ st, okTD g d) → st.length ≤ 60 → RunOk g T N r st a out (runF g.prods (nxC g T N) T r st a out)
  | [], st, a, out, hs, hl => by
    rw [runF]
    have he := end_cases (R := endF g.prods (fun n => nxC g T N n T) st) rfl
    refine ⟨?_, Nat.le_refl _, Nat.le_refl _, fun _ => rfl, fun h0 => ⟨_, rfl, end_rem hg (nx_ok T) (fun _ _ _ => trivial) rfl h0 hs⟩, st, hs, fun E w h => ⟨E, by simpa using h⟩⟩
    rcases he with ⟨h, _⟩ | ⟨_, _, h⟩
    · exact .inr h
    · exact .inl h
  | t :: r, st, a, out, hs, hl => by
    rw [runF]
    have hp := push_cases (R := pushF g.prods (fun n => nxC g T N n t.toNat) st a t) rfl
    split
    · rename_i c
      refine ⟨?_, Nat.le_refl _, Nat.le_add_right _ _, fun h => absurd h c, fun h => absurd h c, st, hs, fun E w h => ⟨E, by simpa using h⟩⟩
      rcases hp with ⟨h, _⟩ | ⟨_, _, _, _, _, _, _, _, _, h⟩
      · exact .inr h
      · rw [h]; exact .inl rfl
    · rename_i c
      have c : (pushF g.prods (fun n => nxC g T N n t.toNat) st a t).1 = 0 := by simpa using c
      obtain ⟨k1, k2, k3⟩ := push_ok hg (nx_ok t.toNat) rfl c hs hl
      have hR := run_ok hg r _ (a + 1) (out ++ (pushF g.prods (fun n => nxC g T N n t.toNat) st a t).2.2) k1 k2
      generalize runF g.prods (nxC g T N) T r (pushF g.prods (fun n => nxC g T N n t.toNat) st a t).2.1 (a + 1) (out ++ (pushF g.prods (fun n => nxC g T N n t.toNat) st a t).2.2) = R at *
      obtain ⟨z1, z2, z3, z4, z5, st', z6, z7⟩ := hR
      refine ⟨z1, by omega, by simp; omega, fun h => by rw [z4 h]; simp; omega, fun h => ?_, st', z6, fun E w h => ?_⟩
      · obtain ⟨E, y1, y2⟩ := z5 h
        exact ⟨_, by rw [y1, List.append_assoc], push_rem hg (nx_ok t.toNat) (fun _ _ _ => trivial) rfl c hs y2⟩
      · obtain ⟨E', y⟩ := z7 E w h
        refine ⟨(pushF g.prods (fun n => nxC g T N n t.toNat) st a t).2.2 ++ E', ?_⟩
        rw [show R.2.1 - a = (R.2.1 - (a + 1)) + 1 by omega, List.take_succ_cons]
        exact push_rem hg (nx_ok t.toNat) (fun _ _ _ => trivial) rfl c hs y
theorem drop_cons {W : List Int} {a : Nat} {t : Int} {r : List Int} (h : W.drop a = t :: r) : a < W.length ∧ W.getD a 0 = t ∧ W.drop (a + 1) = r := by
  have h1 : a < W.length := by
    rcases Nat.lt_or_ge a W.length with h1 | h1
    · exact h1
    · rw [List.drop_of_length_le h1] at h; cases h
  rw [List.drop_eq_getElem_cons h1] at h
  obtain ⟨e1, e2⟩ := List.cons.inj h
  exact ⟨h1, by rw [List.getD_eq_getElem?_getD, List.getElem?_eq_getElem h1, e1]; rfl, e2⟩
/-- a word of the grammar, or its beginning, is not refused -/
theorem run_det {W : List Int} : ∀ (r : List Int) (st : List TD) (a : Nat) (out : List Sym) {E : List Sym}, r = W.drop a → Rem g.prods (fun n u p => nxC g T N n (colAt T W u) = p) st a E r →
    (runF g.prods (nxC g T N) T r st a out).2.2 = 14 ∨ ((runF g.prods (nxC g T N) T r st a out).2.2 = 0 ∧ (runF g.prods (nxC g T N) T r st a out).1 = out ++ E ∧ (runF g.prods (nxC g T N) T r st a out).2.1 = a + r.length)
  | [], st, a, out, E, hr, h => by
    rw [runF]
    have hc : colAt T W a = T := by
      unfold colAt
      rw [if_neg]
      intro hl
      rw [List.drop_eq_getElem_cons hl] at hr
      cases hr
    rcases end_det (nx := fun n => nxC g T N n T) (fun n p h => by rw [hc] at h; exact h) rfl h with e | ⟨e1, e2⟩
    · exact .inl e
    · exact .inr ⟨e1, by rw [e2], rfl⟩
  | t :: r, st, a, out, E, hr, h => by
    rw [runF]
    obtain ⟨h1, h2, h3⟩ := drop_cons hr.symm
    have hc : colAt T W a = t.toNat := by unfold colAt; rw [if_pos h1, h2]
    rcases push_det (nx := fun n => nxC g T N n t.toNat) (t := t) (fun n p h => by rw [hc] at h; exact h) rfl h with e | ⟨e1, E2, e2, e3⟩
    · rw [if_pos (by rw [e]; decide)]; exact .inl e
    · rw [if_neg (by rw [e1]; simp)]
      rcases run_det r _ (a + 1) (out ++ (pushF g.prods (fun n => nxC g T N n t.toNat) st a t).2.2) h3.symm e3 with y | ⟨y1, y2, y3⟩
      · exact .inl y
      · exact .inr ⟨y1, by rw [y2, e2, List.append_assoc], by rw [y3]; simp; omega⟩
theorem start_ok (hg : checkG g = 0) : ∀ d ∈ [TD.sym (2, 0)], okTD g d := by
  intro d hd
  rw [List.mem_singleton] at hd
  subst hd
  have := (checkG_ok hg).2.2.1
  show right g.terms g.nons (2, 0) = true
  unfold right
  rw [if_neg (by decide), if_pos rfl]
  simp only [Int.le_refl, decide_true, Bool.true_and, decide_eq_true_eq]
  omega
/-- a tree's word is parsed as the tree -/
theorem tree_start (hg : checkG g = 0) (hT : g.terms = T) (hN : g.nons = N) (hf : eng.freeL g.prods (eng.mayG N g.prods) T N = true) {t : Tree} {W : List Int} (h : Right g.prods t (2, 0) 0) (hy : yieldT g.prods t = W) : Rem g.prods (fun n u p => nxC g T N n (colAt T W u) = p) [.sym (2, 0)] 0 (downE g.prods t) W := by
  have hp : ¬ t.prod < 0 := by
    obtain ⟨p, k, kids⟩ := t
    rw [Right] at h
    rcases h with ⟨h, _⟩ | ⟨_, h, _⟩
    · cases h
    · exact Int.not_lt.2 h
  have hw : ∀ x ∈ W, 0 ≤ x ∧ x < (T : Int) := by rw [← hy, ← hT]; exact yield_in hg h (by omega)
  have hd := eng.det_tree hg hT hN hf h hy hw
  have := tree_rem (C := fun n u p => nxC g T N n (colAt T W u) = p) (nx := eng.nxG g T N W) (.inr fun n u p h => h) (st := []) (E := []) (w := []) h (.inr fun _ => hd) .nil
  unfold downX yieldX at this
  rw [if_neg hp, if_neg hp, List.append_nil, List.append_nil, hy] at this
  exact this
/-- what is parsed whole is a tree's word, and the tree is told; a tree's word is parsed -/
theorem parse_tree (hg : checkG g = 0) (hT : g.terms = T) (hN : g.nons = N) (hf : eng.freeL g.prods (eng.mayG N g.prods) T N = true) {W : List Int} :
    ((runF g.prods (nxC g T N) T W [.sym (2, 0)] 0 []).2.2 = 0 → ∃ t, Right g.prods t (2, 0) 0 ∧ downE g.prods t = (runF g.prods (nxC g T N) T W [.sym (2, 0)] 0 []).1 ∧ yieldT g.prods t = W) ∧
    ∀ t, Right g.prods t (2, 0) 0 → yieldT g.prods t = W → (runF g.prods (nxC g T N) T W [.sym (2, 0)] 0 []).2.2 = 14 ∨ ((runF g.prods (nxC g T N) T W [.sym (2, 0)] 0 []).2.2 = 0 ∧ (runF g.prods (nxC g T N) T W [.sym (2, 0)] 0 []).1 = downE g.prods t ∧ (runF g.prods (nxC g T N) T W [.sym (2, 0)] 0 []).2.1 = W.length) := by
  refine ⟨fun h => ?_, fun t h hy => ?_⟩
  · obtain ⟨E, h1, h2⟩ := (run_ok (T := T) (N := N) hg W [.sym (2, 0)] 0 [] (start_ok hg) (by decide)).ok h
    obtain ⟨t, k1, k2, k3⟩ := start_rem h2
    exact ⟨t, k1, by rw [k2, h1]; rfl, k3⟩
  · rcases run_det (T := T) (N := N) W [.sym (2, 0)] 0 [] (by rfl) (tree_start hg hT hN hf h hy) with h | ⟨h1, h2, h3⟩
    · exact .inl h
    · exact .inr ⟨h1, by rw [h2]; rfl, by rw [h3]; simp⟩
theorem top_prod {l : List gramL.Prod} {t : Tree} (h : Right l t (2, 0) 0) : 0 ≤ t.prod := by
  obtain ⟨p, k, kids⟩ := t
  rw [Right] at h
  rcases h with ⟨h, _⟩ | ⟨_, h, _⟩
  · cases h
  · exact h
theorem yieldX_top {l : List gramL.Prod} {t : Tree} (h : Right l t (2, 0) 0) : yieldX l t (2, 0) = yieldT l t := by
  unfold yieldX; rw [if_neg (by have := top_prod h; omega)]
end
end Go.Proofs.Ytkkiopmdcolobaa.climbL

/- ClimbE -/
namespace Go.Proofs.Ytkkiopmdcolobaa.eng
open Go.RowKit kit mix gramL treeL climbL llL countL factsL derL
/-! ### the table that is made can be asked -/
abbrev rowsL (g : Gram) (T N : Nat) : List (List Int) := tabA N fun n => tabA (T + 1) (llL.rowAt g.prods (mayG N g.prods) T n)
theorem getD_tab {α : Type} {len : Nat} {f : Nat → α} {d : α} (k : Nat) : (tabA len f).getD k d = if k < len then f k else d := by
  rw [List.getD_eq_getElem?_getD]
  by_cases h : k < len
  · rw [tabA_get _ h, if_pos h]; rfl
  · rw [List.getElem?_eq_none (by rw [tabA_len]; omega), if_neg h]; rfl
theorem nxL_eq {g : Gram} {T N : Nat} (hg : checkG g = 0) (hN : g.nons = N) {col : Nat} (hc : col ≤ T) (n : Int) : nxL (rowsL g T N) col n = nxC g T N n col := by
  unfold nxL nxC
  rw [getD_tab]
  by_cases h : n.toNat < N
  · rw [if_pos h, getD_tab, if_pos (by omega)]
  · rw [if_neg h]
    show (-1 : Int) = _
    have h1 := first_ge (l := g.prods) (may := mayG N g.prods) (T := T) n.toNat col g.prods.length
    have h2 := first_head (l := g.prods) (may := mayG N g.prods) (T := T) n.toNat col g.prods.length (Nat.le_refl _)
    unfold llL.rowAt
    by_cases h3 : firstL g.prods (mayG N g.prods) T n.toNat col g.prods.length < 0
    · omega
    · have h3 : 0 ≤ firstL g.prods (mayG N g.prods) T n.toNat col g.prods.length := by omega
      have h4 := h2 h3
      have := ((checkG_ok hg).2.2.2.2.2 _ (prodAt_mem h3 h1.2)).2.2.1
      omega
theorem tab_ok {g : Gram} {T N : Nat} (hT : g.terms = T) (hN : g.nons = N) : TabOk g (rowsL g T N) T N where
  terms := hT
  nons := hN
  len := tabA_len _ _
  row r hr := by
    obtain ⟨n, _, rfl⟩ := List.mem_map.1 hr
    exact tabA_len _ _
  nx col n h0 := by
    unfold nxL at h0 ⊢
    rw [getD_tab] at h0 ⊢
    by_cases h : n.toNat < N
    · rw [if_pos h] at h0 ⊢
      rw [getD_tab] at h0 ⊢
      by_cases h2 : col < T + 1
      · rw [if_pos h2] at h0 ⊢
        refine ⟨(first_ge n.toNat col g.prods.length).2, fun hn => ?_⟩
        have := first_head (may := mayG N g.prods) (T := T) n.toNat col g.prods.length (Nat.le_refl _) h0
        unfold llL.rowAt
        rw [this]; omega
      · rw [if_neg h2] at h0; omega
    · rw [if_neg h] at h0
      have : ([] : List Int).getD col (-1) = -1 := rfl
      omega
theorem chkRow_ok {l : List gramL.Prod} {n : Nat} : ∀ r : List Int, (∀ p ∈ r, -1 ≤ p ∧ p < (l.length : Int) ∧ (0 ≤ p → (prodAt l p).1 = (n : Int))) → chkRow l n r = 0
  | [], _ => rfl
  | p :: r, h => by
    have hp := h p (List.mem_cons_self ..)
    rw [chkRow, if_neg (by omega), if_neg (by omega), if_neg (by rintro ⟨h1, h2⟩; exact h2 (hp.2.2 h1))]
    exact chkRow_ok r fun p hp => h p (List.mem_cons_of_mem _ hp)
theorem chkRows_ok {l : List gramL.Prod} {t : Int} : ∀ (rows : List (List Int)) (n : Nat), (∀ i (h : i < rows.length), (rows[i].length : Int) = t + 1 ∧ chkRow l (n + i) rows[i] = 0) → chkRows l t n rows = 0
  | [], _, _ => rfl
  | r :: rs, n, h => by
    have h0 := h 0 (by simp)
    simp only [List.getElem_cons_zero, Nat.add_zero] at h0
    rw [chkRows, if_neg (by simp [h0.1]), if_neg (by simp [h0.2])]
    exact chkRows_ok rs (n + 1) fun i hi => by
      have := h (i + 1) (by simp; omega)
      simp only [List.getElem_cons_succ] at this
      rw [show n + 1 + i = n + (i + 1) by omega]; exact this
theorem chk_rows {g : Gram} {T N : Nat} (hg : checkG g = 0) (hT : g.terms = T) (hN : g.nons = N) : chkL g (rowsL g T N) = 0 := by
  unfold chkL
  rw [if_neg (by simp [hg]), tabA_len, if_neg (by simp [hN])]
  refine chkRows_ok _ 0 fun i hi => ?_
  rw [tabA_len] at hi
  have hget : (rowsL g T N)[i]'(by rw [tabA_len]; exact hi) = tabA (T + 1) (llL.rowAt g.prods (mayG N g.prods) T i) := by simp [tabA]
  rw [hget]
  refine ⟨by rw [tabA_len, hT]; rfl, chkRow_ok _ fun p hp => ?_⟩
  obtain ⟨c, _, rfl⟩ := List.mem_map.1 hp
  have h1 := first_ge (l := g.prods) (may := mayG N g.prods) (T := T) i c g.prods.length
  refine ⟨h1.1, h1.2, fun h0 => ?_⟩
  rw [Nat.zero_add]
  exact first_head (l := g.prods) (may := mayG N g.prods) (T := T) i c g.prods.length (Nat.le_refl _) h0
theorem runF_congr {l : List gramL.Prod} {nx nx' : Int → Nat → Int} {T : Nat} (h : ∀ col, col ≤ T → (fun n => nx n col) = fun n => nx' n col) : ∀ (word : List Int) (st : List TD) (a : Nat) (out : List Sym), (∀ x ∈ word, 0 ≤ x ∧ x < (T : Int)) → runF l nx T word st a out = runF l nx' T word st a out
  | [], st, a, out, _ => by rw [runF, runF, h T (Nat.le_refl _)]
  | t :: r, st, a, out, hw => by
    have ht := hw t (List.mem_cons_self ..)
    rw [runF, runF, h t.toNat (by omega)]
    split
    · rfl
    · exact runF_congr h r _ _ _ fun x hx => hw x (List.mem_cons_of_mem _ hx)
theorem run_eq {g : Gram} {T N : Nat} (hg : checkG g = 0) (hN : g.nons = N) {word : List Int} (hw : ∀ x ∈ word, 0 ≤ x ∧ x < (T : Int)) : runF g.prods (fun n col => nxL (rowsL g T N) col n) T word [.sym (2, 0)] 0 [] = runF g.prods (nxC g T N) T word [.sym (2, 0)] 0 [] :=
  runF_congr (fun col hc => funext fun n => nxL_eq hg hN hc n) word _ _ _ hw
/-! ### climbed -/
theorem cl_one {v : Value} {a b : Int} {c : Bool} (h : v.oneCell' = true) : (#[v, .int .i64 a, .int .i64 b, .bool c] : Array Value).toList.all Value.oneCell' = true := by
  simp only [List.all_cons, List.all_nil, h]; rfl
theorem pushS_ok (seen : Int) (st : List TD) (l : List Sym) : pushS seen (0, st, l) = ⟨fun _ => True, fun x => .tuple #[clV x.1 (seen + 1) 0 false, x.2, .int .i64 0], fun x => [tdO x.1 st, evO x.2 l]⟩ := by unfold pushS; simp
theorem pushS_bad (seen : Int) {e : Int} (he : e ≠ 0) (st : List TD) (l : List Sym) : pushS seen (e, st, l) = ⟨fun _ => True, fun x => .tuple #[clV (.slice none 0 0) seen e false, .slice none 0 0, .int .i64 e], fun x => []⟩ := by unfold pushS; simp [he]
theorem endS_ok (seen : Int) (l : List Sym) : endS seen (0, l) = ⟨fun _ => True, fun x => .tuple #[clV (.slice none 0 0) seen 0 true, x, .int .i64 0], fun x => [evO x l]⟩ := by unfold endS; simp
theorem endS_bad (seen : Int) {e : Int} (he : e ≠ 0) (l : List Sym) : endS seen (e, l) = ⟨fun _ => True, fun x => .tuple #[clV (.slice none 0 0) seen e false, .slice none 0 0, .int .i64 e], fun x => []⟩ := by unfold endS; simp [he]
def climbedS (R : List Sym × Nat × Int) : Spec Value := ⟨fun _ => True, fun vo => .tuple #[vo, .int .i64 (R.2.1 : Int), .int .i64 R.2.2], fun vo => [evO vo R.1]⟩
theorem evO_app {v : Value} {a b : List Sym} : rowO 39 2 v (a.length + b.length) (a.flatMap symC ++ b.flatMap symC) = evO v (a ++ b) := by unfold evO; rw [List.length_append, List.flatMap_append]
theorem ev_len (l : List Sym) : (l.flatMap symC).length = l.length * 2 := len_el (f := symC) (c := 2) (fun _ => rfl) l
set_option maxHeartbeats 4000000 in
theorem climbed_calls (v vr vw : Value) (g : Gram) (ll : List (List Int)) (T N : Nat) (word : List Int) (w : World) (h : GraR (fun k => k < w.heap.size) w v g) (hr : RowsR w vr ll) (hs : Sl w vw word.length (word.map (.int .i64))) (h0 : chkL g ll = 0) (hg : checkG g = 0) (hT : TabOk g ll T N) (hw : ∀ x ∈ word, 0 ≤ x ∧ x < (T : Int)) (hl : word.length ≤ 1000) :
    Calls Try.prog 7 #[v, vr, vw] w (Meets (climbedS (runF g.prods (fun n col => nxL ll col n) T word [.sym (2, 0)] 0 [])) w) := by
  have hp := fun vt st (seen t : Nat) w' (hg' : Gr w w') ht hs hl h1 h2 => climbPush_calls v vr vt g ll T N st seen t w' (h.gr hg') (hr.gr hg') ht h0 hg hT hs hl h1 h2
  have he := fun vt st (seen : Nat) w' (hg' : Gr w w') ht hs hl h1 => climbEnd_calls v vr vt g ll T N st seen w' (h.gr hg') (hr.gr hg') ht h0 hg hT hs hl h1
  obtain ⟨vp, rfl, _⟩ := h
  obtain ⟨bw, cw, rfl, hw1, hw2, hw3⟩ := hs
  unfold maxLen at hw2
  refine enter (args := [graV g.terms g.nons vp, vr, .slice bw word.length cw]) (n := 55) Try.func7 rfl rfl rfl ?_
  refine T_seq (T_region (TL_box rfl rfl rfl fun g3 => ?_))
  conv => arg 8; simp only [zA, zB, zC, zD, zE, zF, zG, zH, zI, rowS, ret, id_eq]
  repeat (first
    | refine qv rfl (qp rfl) rfl rfl ?_ | refine TL_nil ?_ | refine T_seq ?_ | refine T_region ?_ | refine qcT rfl ?_ | refine qcF rfl ?_ | refine T_skip ?_
    | refine T_exit ?_ | refine T_ret ?_ | refine T_block ?_ | refine E_then ?_ | refine E_thenX ?_ | refine E_thenR ?_ | refine E_blockN ?_
    | refine E_blockR ?_ | refine E_blockX ?_ | refine E_blockO rfl ?_ | refine qv rfl (qlen Und.eq rfl) rfl rfl ?_
    | refine qv rfl (rr_lss rfl rfl (qT (by omega))) rfl rfl ?_ | refine qv rfl (rr_lss rfl rfl (qF (by omega))) rfl rfl ?_
    | refine qv rfl (rr_neq rfl rfl (qT (by omega))) rfl rfl ?_ | refine qv rfl (rr_neq rfl rfl (qF (by omega))) rfl rfl ?_
    | refine qv rfl (rr_add64 rfl rfl (by omega) (by omega) rfl) rfl rfl ?_)
  refine TL_call (he0 EntersC.en rfl) (fun w hm => climbBegin_calls w) rfl rfl rfl ?_
  intro vt0 _
  conv => arg 8; simp only [zA, zB, zC, zD, zE, zF, zG, zH, zI, rowS, ret, id_eq, beginCS]
  conv => arg 7; simp only [beginCS]
  refine TL_slv (i := 1) rfl fun hv1 hv2 => ?_
  refine TL_new rfl fun g9 => ?_
  refine TL_storeB (i := 2) (cs' := #[vt0, .int .i64 0, .int .i64 0, .bool false]) rfl rfl rfl rfl (cl_one hv2) rfl ?_
  conv => arg 8; simp only [zA, zB, zC, zD, zE, zF, zG, zH, zI, rowS, ret, id_eq]
  repeat (first
    | refine qv rfl (qp rfl) rfl rfl ?_ | refine TL_nil ?_ | refine T_seq ?_ | refine T_region ?_ | refine qcT rfl ?_ | refine qcF rfl ?_ | refine T_skip ?_
    | refine T_exit ?_ | refine T_ret ?_ | refine T_block ?_ | refine E_then ?_ | refine E_thenX ?_ | refine E_thenR ?_ | refine E_blockN ?_
    | refine E_blockR ?_ | refine E_blockX ?_ | refine E_blockO rfl ?_ | refine qv rfl (qlen Und.eq rfl) rfl rfl ?_
    | refine qv rfl (rr_lss rfl rfl (qT (by omega))) rfl rfl ?_ | refine qv rfl (rr_lss rfl rfl (qF (by omega))) rfl rfl ?_
    | refine qv rfl (rr_neq rfl rfl (qT (by omega))) rfl rfl ?_ | refine qv rfl (rr_neq rfl rfl (qF (by omega))) rfl rfl ?_
    | refine qv rfl (rr_add64 rfl rfl (by omega) (by omega) rfl) rfl rfl ?_)
  refine T_nil 39 2 ?_
  generalize hR : runF g.prods (fun n col => nxL ll col n) T word [.sym (2, 0)] 0 [] = R
  refine T_pick [0, 2, 1, 3] (by decide) rfl ?_
  refine T_loop (ι := Nat × List TD × List Sym × Value × Value) (fun (k, st, out, _, _) => k ≤ word.length ∧ runF g.prods (fun n col => nxL ll col n) T (word.drop k) st k out = R ∧ (∀ d ∈ st, okTD g d) ∧ st.length ≤ 60 ∧ out.length ≤ k * 2000)
    (fun (k, _, _, _, vo) => [(1, vr), (3, .pointer (some ⟨g3, 0, none⟩)), (6, vo), (7, .int .i64 (k : Int)), (9, .pointer (some ⟨g9, 0, none⟩)), (16, .slice bw word.length cw), (17, .int .i64 word.length), (18, .int .i64 (k : Int))])
    (fun (k, st, out, vt, vo) => [blkO g3 (graV g.terms g.nons vp).cells 24, blkO g9 #[vt, .int .i64 (k : Int), .int .i64 0, .bool false] 51, tdO vt st, evO vo out]) (fun (k, _, _, _, _) => word.length - k) (0, [.sym (2, 0)], [], vt0, .slice none 0 0)
    ⟨Nat.zero_le _, hR, start_ok hg, by decide, by simp⟩ (by repeat' (first | exact True.intro | refine And.intro rfl ?_)) rfl ?_
  clear hR hv1 hv2
  rintro ⟨k, st, out, vt, vo⟩ ⟨i1, i2, i3, i4, i5⟩
  dsimp only at i1 i2 i3 i4 i5 ⊢
  by_cases c : k < word.length
  · obtain ⟨b, off, rfl, hrd⟩ := hw3 (by omega)
    have hat := fun L => at_rdm (L := L) hrd c
    rw [List.drop_eq_getElem_cons c, runF] at i2
    have hwk := hw _ (List.getElem_mem c)
    clear hrd hw3
    generalize word[k] = t at *
    obtain ⟨tn, rfl⟩ : ∃ tn : Nat, t = tn := ⟨t.toNat, by omega⟩
    rw [Int.toNat_natCast] at i2
    have hpk := fun w' hg' ht => hp vt st k tn w' hg' ht i3 i4 (by omega) (by omega)
    have hok := fun h0 => push_ok (R := pushF g.prods (nxL ll tn) st k (tn : Int)) hg (hT.nx tn) rfl h0 i3 i4
    rw [show (fun n => nxL ll tn n) = nxL ll tn from rfl] at i2
    generalize pushF g.prods (nxL ll tn) st k (tn : Int) = P at *
    obtain ⟨e, st', l⟩ := P
    dsimp only at i2 hok
    by_cases c1 : e = 0
    · subst c1
      obtain ⟨o1, o2, o3⟩ := hok rfl
      rw [if_neg (by simp)] at i2
      rw [pushS_ok] at hpk
      clear hok
      repeat (first
        | refine qv rfl (qp rfl) rfl rfl ?_ | refine TL_nil ?_ | refine T_seq ?_ | refine T_region ?_ | refine qcT rfl ?_ | refine qcF rfl ?_ | refine T_skip ?_
        | refine T_exit ?_ | refine T_ret ?_ | refine T_block ?_ | refine E_then ?_ | refine E_thenX ?_ | refine E_thenR ?_ | refine E_blockN ?_
        | refine E_blockR ?_ | refine E_blockX ?_ | refine E_blockO rfl ?_ | refine qv rfl (rr_idx1 Und.eq TyC.ty rfl rfl c) rfl rfl ?_
        | refine qv rfl (rr_load1 TyC.ty rfl (hat _)) rfl rfl ?_ | refine qv rfl (rr_loadB (i := 0) TyC.ty rfl rfl rfl) rfl rfl ?_
        | refine qv rfl (rr_loadB (i := 1) TyC.ty rfl rfl rfl) rfl rfl ?_ | refine qv rfl (qlen Und.eq rfl) rfl rfl ?_
        | refine qv rfl (rr_lss rfl rfl (qT (by omega))) rfl rfl ?_ | refine qv rfl (rr_lss rfl rfl (qF (by omega))) rfl rfl ?_
        | refine qv rfl (rr_neq rfl rfl (qT (by omega))) rfl rfl ?_ | refine qv rfl (rr_neq rfl rfl (qF (by omega))) rfl rfl ?_
        | refine qv rfl (rr_add64 rfl rfl (by omega) (by omega) rfl) rfl rfl ?_)
      refine TL_call (he4 EntersC.en rfl rfl rfl rfl rfl) (fun w' hm => hpk w' hm.below (by have := Sl.of_own (hm.get (i := 2) rfl); exact this)) rfl rfl rfl ?_
      rintro ⟨vt', vl⟩ _
      conv => arg 8; simp only [zA, zB, zC, zD, zE, zF, zG, zH, zI, rowS, ret, id_eq]
      repeat (first
        | refine qv rfl (qp rfl) rfl rfl ?_ | refine TL_nil ?_ | refine T_seq ?_ | refine T_region ?_ | refine qcT rfl ?_ | refine qcF rfl ?_ | refine T_skip ?_
        | refine T_exit ?_ | refine T_ret ?_ | refine T_block ?_ | refine E_then ?_ | refine E_thenX ?_ | refine E_thenR ?_ | refine E_blockN ?_
        | refine E_blockR ?_ | refine E_blockX ?_ | refine E_blockO rfl ?_ | refine qv rfl (qlen Und.eq rfl) rfl rfl ?_
        | refine qv rfl (rr_lss rfl rfl (qT (by omega))) rfl rfl ?_ | refine qv rfl (rr_lss rfl rfl (qF (by omega))) rfl rfl ?_
        | refine qv rfl (rr_neq rfl rfl (qT (by omega))) rfl rfl ?_ | refine qv rfl (rr_neq rfl rfl (qF (by omega))) rfl rfl ?_
        | refine qv rfl (rr_add64 rfl rfl (by omega) (by omega) rfl) rfl rfl ?_)
      refine TL_slv (i := 4) rfl fun hv1 hv2 => ?_
      refine TL_storeB (i := 1) (cs' := #[vt', .int .i64 ((k : Int) + 1), .int .i64 0, .bool false]) rfl rfl rfl rfl (cl_one hv2) rfl ?_
      conv => arg 8; simp only [zA, zB, zC, zD, zE, zF, zG, zH, zI, rowS, ret, id_eq]
      repeat (first
        | refine qv rfl (qp rfl) rfl rfl ?_ | refine TL_nil ?_ | refine T_seq ?_ | refine T_region ?_ | refine qcT rfl ?_ | refine qcF rfl ?_ | refine T_skip ?_
        | refine T_exit ?_ | refine T_ret ?_ | refine T_block ?_ | refine E_then ?_ | refine E_thenX ?_ | refine E_thenR ?_ | refine E_blockN ?_
        | refine E_blockR ?_ | refine E_blockX ?_ | refine E_blockO rfl ?_ | refine qv rfl (qlen Und.eq rfl) rfl rfl ?_
        | refine qv rfl (rr_lss rfl rfl (qT (by omega))) rfl rfl ?_ | refine qv rfl (rr_lss rfl rfl (qF (by omega))) rfl rfl ?_
        | refine qv rfl (rr_neq rfl rfl (qT (by omega))) rfl rfl ?_ | refine qv rfl (rr_neq rfl rfl (qF (by omega))) rfl rfl ?_
        | refine qv rfl (rr_add64 rfl rfl (by omega) (by omega) rfl) rfl rfl ?_)
      refine TL_appSl (i := 3) (k := l.length) (ys := l.flatMap symC) rfl (sl_row (i := 5) rfl) rfl rfl (ev_len l) (one_sym l) (by omega) (by omega) rfl fun vo' => ?_
      conv => arg 8; simp only [zA, zB, zC, zD, zE, zF, zG, zH, zI, rowS, ret, id_eq]
      repeat (first
        | refine qv rfl (qp rfl) rfl rfl ?_ | refine TL_nil ?_ | refine T_seq ?_ | refine T_region ?_ | refine qcT rfl ?_ | refine qcF rfl ?_ | refine T_skip ?_
        | refine T_exit ?_ | refine T_ret ?_ | refine T_block ?_ | refine E_then ?_ | refine E_thenX ?_ | refine E_thenR ?_ | refine E_blockN ?_
        | refine E_blockR ?_ | refine E_blockX ?_ | refine E_blockO rfl ?_ | refine qv rfl (qlen Und.eq rfl) rfl rfl ?_
        | refine qv rfl (rr_lss rfl rfl (qT (by omega))) rfl rfl ?_ | refine qv rfl (rr_lss rfl rfl (qF (by omega))) rfl rfl ?_
        | refine qv rfl (rr_neq rfl rfl (qT (by omega))) rfl rfl ?_ | refine qv rfl (rr_neq rfl rfl (qF (by omega))) rfl rfl ?_
        | refine qv rfl (rr_add64 rfl rfl (by omega) (by omega) rfl) rfl rfl ?_)
      refine E_pick [0, 1, 4, 3] (by decide) rfl ?_
      exact E_round (k + 1, st', out ++ l, vt', vo') ⟨by omega, i2, o1, o2, (by show (out ++ l).length ≤ (k + 1) * 2000; rw [List.length_append]; omega)⟩ (by show word.length - (k + 1) < word.length - k; omega) (by repeat' (first | exact True.intro | refine And.intro rfl ?_)) (by rw [evO_app]; push_cast; rfl)
    · rw [if_pos c1] at i2
      subst i2
      rw [pushS_bad _ c1] at hpk
      clear hok
      repeat (first
        | refine qv rfl (qp rfl) rfl rfl ?_ | refine TL_nil ?_ | refine T_seq ?_ | refine T_region ?_ | refine qcT rfl ?_ | refine qcF rfl ?_ | refine T_skip ?_
        | refine T_exit ?_ | refine T_ret ?_ | refine T_block ?_ | refine E_then ?_ | refine E_thenX ?_ | refine E_thenR ?_ | refine E_blockN ?_
        | refine E_blockR ?_ | refine E_blockX ?_ | refine E_blockO rfl ?_ | refine qv rfl (rr_idx1 Und.eq TyC.ty rfl rfl c) rfl rfl ?_
        | refine qv rfl (rr_load1 TyC.ty rfl (hat _)) rfl rfl ?_ | refine qv rfl (rr_loadB (i := 0) TyC.ty rfl rfl rfl) rfl rfl ?_
        | refine qv rfl (rr_loadB (i := 1) TyC.ty rfl rfl rfl) rfl rfl ?_ | refine qv rfl (qlen Und.eq rfl) rfl rfl ?_
        | refine qv rfl (rr_lss rfl rfl (qT (by omega))) rfl rfl ?_ | refine qv rfl (rr_lss rfl rfl (qF (by omega))) rfl rfl ?_
        | refine qv rfl (rr_neq rfl rfl (qT (by omega))) rfl rfl ?_ | refine qv rfl (rr_neq rfl rfl (qF (by omega))) rfl rfl ?_
        | refine qv rfl (rr_add64 rfl rfl (by omega) (by omega) rfl) rfl rfl ?_)
      refine TL_call (he4 EntersC.en rfl rfl rfl rfl rfl) (fun w' hm => hpk w' hm.below (by have := Sl.of_own (hm.get (i := 2) rfl); exact this)) rfl rfl rfl ?_
      intro _ _
      conv => arg 8; simp only [zA, zB, zC, zD, zE, zF, zG, zH, zI, rowS, ret, id_eq]
      repeat (first
        | refine qv rfl (qp rfl) rfl rfl ?_ | refine TL_nil ?_ | refine T_seq ?_ | refine T_region ?_ | refine qcT rfl ?_ | refine qcF rfl ?_ | refine T_skip ?_
        | refine T_exit ?_ | refine T_ret ?_ | refine T_block ?_ | refine E_then ?_ | refine E_thenX ?_ | refine E_thenR ?_ | refine E_blockN ?_
        | refine E_blockR ?_ | refine E_blockX ?_ | refine E_blockO rfl ?_ | refine qv rfl (qlen Und.eq rfl) rfl rfl ?_
        | refine qv rfl (rr_lss rfl rfl (qT (by omega))) rfl rfl ?_ | refine qv rfl (rr_lss rfl rfl (qF (by omega))) rfl rfl ?_
        | refine qv rfl (rr_neq rfl rfl (qT (by omega))) rfl rfl ?_ | refine qv rfl (rr_neq rfl rfl (qF (by omega))) rfl rfl ?_
        | refine qv rfl (rr_add64 rfl rfl (by omega) (by omega) rfl) rfl rfl ?_)
      refine TL_storeB (i := 1) (cs' := #[.slice none 0 0, .int .i64 (k : Int), .int .i64 e, .bool false]) rfl rfl rfl rfl rfl rfl ?_
      conv => arg 8; simp only [zA, zB, zC, zD, zE, zF, zG, zH, zI, rowS, ret, id_eq]
      repeat (first
        | refine qv rfl (qp rfl) rfl rfl ?_ | refine TL_nil ?_ | refine T_seq ?_ | refine T_region ?_ | refine qcT rfl ?_ | refine qcF rfl ?_ | refine T_skip ?_
        | refine T_exit ?_ | refine T_ret ?_ | refine T_block ?_ | refine E_then ?_ | refine E_thenX ?_ | refine E_thenR ?_ | refine E_blockN ?_
        | refine E_blockR ?_ | refine E_blockX ?_ | refine E_blockO rfl ?_ | refine qv rfl (rr_neq (b := true) rfl rfl (decide_eq_true c1)) rfl rfl ?_
        | refine qv rfl (qlen Und.eq rfl) rfl rfl ?_ | refine qv rfl (rr_lss rfl rfl (qT (by omega))) rfl rfl ?_
        | refine qv rfl (rr_lss rfl rfl (qF (by omega))) rfl rfl ?_ | refine qv rfl (rr_neq rfl rfl (qT (by omega))) rfl rfl ?_
        | refine qv rfl (rr_neq rfl rfl (qF (by omega))) rfl rfl ?_ | refine qv rfl (rr_add64 rfl rfl (by omega) (by omega) rfl) rfl rfl ?_)
      exact E_ret3 rfl rfl rfl rfl fun w hm => hm.meets (S := climbedS (out, k, e)) vo trivial [3] (by decide) rfl
  · rw [List.drop_of_length_le (by omega), runF] at i2
    obtain rfl : k = word.length := by omega
    have hek := fun w' hg' ht => he vt st word.length w' hg' ht i3 i4 (by omega)
    rw [show (fun n => nxL ll T n) = nxL ll T from rfl] at i2
    have hel := end_cases (l := g.prods) (nx := nxL ll T) (st := st) rfl
    generalize endF g.prods (nxL ll T) st = P at *
    obtain ⟨e, l⟩ := P
    dsimp only at i2 hel
    by_cases c1 : e = 0
    · subst c1
      have hll : l.length ≤ 2000 := by
        rcases hel with ⟨h | h, _⟩ | ⟨a1, hd, _⟩
        · omega
        · omega
        · have := (down_len hd rfl i4 (by omega)).2.2
          simp at this
          have h2 := (down_len hd rfl i4 (by omega)).2.1
          simp at h2
          omega
      subst i2
      rw [endS_ok] at hek
      clear hel
      repeat (first
        | refine qv rfl (qp rfl) rfl rfl ?_ | refine TL_nil ?_ | refine T_seq ?_ | refine T_region ?_ | refine qcT rfl ?_ | refine qcF rfl ?_ | refine T_skip ?_
        | refine T_exit ?_ | refine T_ret ?_ | refine T_block ?_ | refine E_then ?_ | refine E_thenX ?_ | refine E_thenR ?_ | refine E_blockN ?_
        | refine E_blockR ?_ | refine E_blockX ?_ | refine E_blockO rfl ?_ | refine qv rfl (rr_loadB (i := 0) TyC.ty rfl rfl rfl) rfl rfl ?_
        | refine qv rfl (rr_loadB (i := 1) TyC.ty rfl rfl rfl) rfl rfl ?_ | refine qv rfl (qlen Und.eq rfl) rfl rfl ?_
        | refine qv rfl (rr_lss rfl rfl (qT (by omega))) rfl rfl ?_ | refine qv rfl (rr_lss rfl rfl (qF (by omega))) rfl rfl ?_
        | refine qv rfl (rr_neq rfl rfl (qT (by omega))) rfl rfl ?_ | refine qv rfl (rr_neq rfl rfl (qF (by omega))) rfl rfl ?_
        | refine qv rfl (rr_add64 rfl rfl (by omega) (by omega) rfl) rfl rfl ?_)
      refine TL_call (he3 EntersC.en rfl rfl rfl rfl) (fun w' hm => hek w' hm.below (by have := Sl.of_own (hm.get (i := 2) rfl); exact this)) rfl rfl rfl ?_
      intro vl _
      conv => arg 8; simp only [zA, zB, zC, zD, zE, zF, zG, zH, zI, rowS, ret, id_eq]
      repeat (first
        | refine qv rfl (qp rfl) rfl rfl ?_ | refine TL_nil ?_ | refine T_seq ?_ | refine T_region ?_ | refine qcT rfl ?_ | refine qcF rfl ?_ | refine T_skip ?_
        | refine T_exit ?_ | refine T_ret ?_ | refine T_block ?_ | refine E_then ?_ | refine E_thenX ?_ | refine E_thenR ?_ | refine E_blockN ?_
        | refine E_blockR ?_ | refine E_blockX ?_ | refine E_blockO rfl ?_ | refine qv rfl (qlen Und.eq rfl) rfl rfl ?_
        | refine qv rfl (rr_lss rfl rfl (qT (by omega))) rfl rfl ?_ | refine qv rfl (rr_lss rfl rfl (qF (by omega))) rfl rfl ?_
        | refine qv rfl (rr_neq rfl rfl (qT (by omega))) rfl rfl ?_ | refine qv rfl (rr_neq rfl rfl (qF (by omega))) rfl rfl ?_
        | refine qv rfl (rr_add64 rfl rfl (by omega) (by omega) rfl) rfl rfl ?_)
      refine TL_new rfl fun g13 => ?_
      refine TL_storeB (i := 5) (cs' := #[.slice none 0 0, .int .i64 (word.length : Int), .int .i64 0, .bool true]) rfl rfl rfl rfl rfl rfl ?_
      conv => arg 8; simp only [zA, zB, zC, zD, zE, zF, zG, zH, zI, rowS, ret, id_eq]
      repeat (first
        | refine qv rfl (qp rfl) rfl rfl ?_ | refine TL_nil ?_ | refine T_seq ?_ | refine T_region ?_ | refine qcT rfl ?_ | refine qcF rfl ?_ | refine T_skip ?_
        | refine T_exit ?_ | refine T_ret ?_ | refine T_block ?_ | refine E_then ?_ | refine E_thenX ?_ | refine E_thenR ?_ | refine E_blockN ?_
        | refine E_blockR ?_ | refine E_blockX ?_ | refine E_blockO rfl ?_ | refine qv rfl (qlen Und.eq rfl) rfl rfl ?_
        | refine qv rfl (rr_lss rfl rfl (qT (by omega))) rfl rfl ?_ | refine qv rfl (rr_lss rfl rfl (qF (by omega))) rfl rfl ?_
        | refine qv rfl (rr_neq rfl rfl (qT (by omega))) rfl rfl ?_ | refine qv rfl (rr_neq rfl rfl (qF (by omega))) rfl rfl ?_
        | refine qv rfl (rr_add64 rfl rfl (by omega) (by omega) rfl) rfl rfl ?_)
      refine TL_appSl (i := 3) (k := l.length) (ys := l.flatMap symC) rfl (sl_row (i := 4) rfl) rfl rfl (ev_len l) (one_sym l) (by omega) (by omega) rfl fun vo' => ?_
      conv => arg 8; simp only [zA, zB, zC, zD, zE, zF, zG, zH, zI, rowS, ret, id_eq]
      repeat (first
        | refine qv rfl (qp rfl) rfl rfl ?_ | refine TL_nil ?_ | refine T_seq ?_ | refine T_region ?_ | refine qcT rfl ?_ | refine qcF rfl ?_ | refine T_skip ?_
        | refine T_exit ?_ | refine T_ret ?_ | refine T_block ?_ | refine E_then ?_ | refine E_thenX ?_ | refine E_thenR ?_ | refine E_blockN ?_
        | refine E_blockR ?_ | refine E_blockX ?_ | refine E_blockO rfl ?_ | refine qv rfl (qlen Und.eq rfl) rfl rfl ?_
        | refine qv rfl (rr_lss rfl rfl (qT (by omega))) rfl rfl ?_ | refine qv rfl (rr_lss rfl rfl (qF (by omega))) rfl rfl ?_
        | refine qv rfl (rr_neq rfl rfl (qT (by omega))) rfl rfl ?_ | refine qv rfl (rr_neq rfl rfl (qF (by omega))) rfl rfl ?_
        | refine qv rfl (rr_add64 rfl rfl (by omega) (by omega) rfl) rfl rfl ?_)
      exact E_ret3 rfl rfl rfl rfl fun w hm => hm.meets (S := climbedS (out ++ l, word.length, 0)) vo' trivial [3] (by decide) (by show [evO vo' (out ++ l)] = _; rw [← evO_app]; rfl)
    · have hl0 : l = [] := by
        rcases hel with ⟨_, h⟩ | ⟨_, _, h⟩
        · exact h
        · exact absurd h c1
      subst hl0
      rw [List.append_nil] at i2
      subst i2
      rw [endS_bad _ c1] at hek
      clear hel
      repeat (first
        | refine qv rfl (qp rfl) rfl rfl ?_ | refine TL_nil ?_ | refine T_seq ?_ | refine T_region ?_ | refine qcT rfl ?_ | refine qcF rfl ?_ | refine T_skip ?_
        | refine T_exit ?_ | refine T_ret ?_ | refine T_block ?_ | refine E_then ?_ | refine E_thenX ?_ | refine E_thenR ?_ | refine E_blockN ?_
        | refine E_blockR ?_ | refine E_blockX ?_ | refine E_blockO rfl ?_ | refine qv rfl (rr_loadB (i := 0) TyC.ty rfl rfl rfl) rfl rfl ?_
        | refine qv rfl (rr_loadB (i := 1) TyC.ty rfl rfl rfl) rfl rfl ?_ | refine qv rfl (qlen Und.eq rfl) rfl rfl ?_
        | refine qv rfl (rr_lss rfl rfl (qT (by omega))) rfl rfl ?_ | refine qv rfl (rr_lss rfl rfl (qF (by omega))) rfl rfl ?_
        | refine qv rfl (rr_neq rfl rfl (qT (by omega))) rfl rfl ?_ | refine qv rfl (rr_neq rfl rfl (qF (by omega))) rfl rfl ?_
        | refine qv rfl (rr_add64 rfl rfl (by omega) (by omega) rfl) rfl rfl ?_)
      refine TL_call (he3 EntersC.en rfl rfl rfl rfl) (fun w' hm => hek w' hm.below (by have := Sl.of_own (hm.get (i := 2) rfl); exact this)) rfl rfl rfl ?_
      intro _ _
      conv => arg 8; simp only [zA, zB, zC, zD, zE, zF, zG, zH, zI, rowS, ret, id_eq]
      repeat (first
        | refine qv rfl (qp rfl) rfl rfl ?_ | refine TL_nil ?_ | refine T_seq ?_ | refine T_region ?_ | refine qcT rfl ?_ | refine qcF rfl ?_ | refine T_skip ?_
        | refine T_exit ?_ | refine T_ret ?_ | refine T_block ?_ | refine E_then ?_ | refine E_thenX ?_ | refine E_thenR ?_ | refine E_blockN ?_
        | refine E_blockR ?_ | refine E_blockX ?_ | refine E_blockO rfl ?_ | refine qv rfl (qlen Und.eq rfl) rfl rfl ?_
        | refine qv rfl (rr_lss rfl rfl (qT (by omega))) rfl rfl ?_ | refine qv rfl (rr_lss rfl rfl (qF (by omega))) rfl rfl ?_
        | refine qv rfl (rr_neq rfl rfl (qT (by omega))) rfl rfl ?_ | refine qv rfl (rr_neq rfl rfl (qF (by omega))) rfl rfl ?_
        | refine qv rfl (rr_add64 rfl rfl (by omega) (by omega) rfl) rfl rfl ?_)
      refine TL_new rfl fun g13 => ?_
      refine TL_storeB (i := 4) (cs' := #[.slice none 0 0, .int .i64 (word.length : Int), .int .i64 e, .bool false]) rfl rfl rfl rfl rfl rfl ?_
      conv => arg 8; simp only [zA, zB, zC, zD, zE, zF, zG, zH, zI, rowS, ret, id_eq]
      repeat (first
        | refine qv rfl (qp rfl) rfl rfl ?_ | refine TL_nil ?_ | refine T_seq ?_ | refine T_region ?_ | refine qcT rfl ?_ | refine qcF rfl ?_ | refine T_skip ?_
        | refine T_exit ?_ | refine T_ret ?_ | refine T_block ?_ | refine E_then ?_ | refine E_thenX ?_ | refine E_thenR ?_ | refine E_blockN ?_
        | refine E_blockR ?_ | refine E_blockX ?_ | refine E_blockO rfl ?_ | refine qv rfl (qlen Und.eq rfl) rfl rfl ?_
        | refine qv rfl (rr_lss rfl rfl (qT (by omega))) rfl rfl ?_ | refine qv rfl (rr_lss rfl rfl (qF (by omega))) rfl rfl ?_
        | refine qv rfl (rr_neq rfl rfl (qT (by omega))) rfl rfl ?_ | refine qv rfl (rr_neq rfl rfl (qF (by omega))) rfl rfl ?_
        | refine qv rfl (rr_add64 rfl rfl (by omega) (by omega) rfl) rfl rfl ?_)
      refine TL_append0 ElC.el (i := 3) rfl rfl rfl rfl ?_
      conv => arg 8; simp only [zA, zB, zC, zD, zE, zF, zG, zH, zI, rowS, ret, id_eq]
      repeat (first
        | refine qv rfl (qp rfl) rfl rfl ?_ | refine TL_nil ?_ | refine T_seq ?_ | refine T_region ?_ | refine qcT rfl ?_ | refine qcF rfl ?_ | refine T_skip ?_
        | refine T_exit ?_ | refine T_ret ?_ | refine T_block ?_ | refine E_then ?_ | refine E_thenX ?_ | refine E_thenR ?_ | refine E_blockN ?_
        | refine E_blockR ?_ | refine E_blockX ?_ | refine E_blockO rfl ?_ | refine qv rfl (qlen Und.eq rfl) rfl rfl ?_
        | refine qv rfl (rr_lss rfl rfl (qT (by omega))) rfl rfl ?_ | refine qv rfl (rr_lss rfl rfl (qF (by omega))) rfl rfl ?_
        | refine qv rfl (rr_neq rfl rfl (qT (by omega))) rfl rfl ?_ | refine qv rfl (rr_neq rfl rfl (qF (by omega))) rfl rfl ?_
        | refine qv rfl (rr_add64 rfl rfl (by omega) (by omega) rfl) rfl rfl ?_)
      exact E_ret3 rfl rfl rfl rfl fun w hm => hm.meets (S := climbedS (out, word.length, e)) vo trivial [3] (by decide) rfl
end Go.Proofs.Ytkkiopmdcolobaa.eng

/- EachF -/
namespace Go.Proofs.Ytkkiopmdcolobaa.eng
open Go.RowKit kit mix gramL treeL
theorem pick_mem2 {L : List Own} {R : List Nat} {o : Own} (h : o ∈ R.filterMap fun i => L[i]?) : o ∈ L := by
  obtain ⟨i, _, hi⟩ := List.mem_filterMap.1 h
  exact List.mem_of_getElem? hi
set_option maxRecDepth 100000 in
set_option maxHeartbeats 16000000 in
/-- each node of a right tree: closures that turn what they have captured -/
theorem each5_calls (w0 : World) (t n : Int) (vp : Value) (prods : List gramL.Prod) (hG : SlF prodS (fun k => k < w0.heap.size) w0 vp prods) {α : Type} (O1 O2 : α → Value → Own) (X1 X2 X3 : Own) (step : α → Deed → α) (len : α → Nat) (fa fb fl : FuncId) (a1 a2 b1 b2 l1 l2 : Array Value) (ea : Enters Try.prog fa) (eb : Enters Try.prog fb) (el : Enters Try.prog fl)
    (hA : ∀ s z p w B, len s ≤ 100000 → Mem B [O1 s z, O2 s z, X1, X2, X3] w → Calls Try.prog fa (a1 ++ #[.int .i64 p] ++ a2) w (MeetsB ⟨fun (_ : Value) => True, fun _ => .tuple #[], fun z' => [O1 (step s (.ahead p)) z', O2 (step s (.ahead p)) z', X1, X2, X3]⟩ B))
    (hB : ∀ s z p w B, len s ≤ 100000 → Mem B [O1 s z, O2 s z, X1, X2, X3] w → Calls Try.prog fb (b1 ++ #[.int .i64 p] ++ b2) w (MeetsB ⟨fun (_ : Value) => True, fun _ => .tuple #[], fun z' => [O1 (step s (.behind p)) z', O2 (step s (.behind p)) z', X1, X2, X3]⟩ B))
    (hL : ∀ s z p q w B, len s ≤ 100000 → Mem B [O1 s z, O2 s z, X1, X2, X3] w → Calls Try.prog fl (l1 ++ #[.int .i64 p, .int .i64 q] ++ l2) w (MeetsB ⟨fun (_ : Value) => True, fun _ => .tuple #[], fun z' => [O1 (step s (.leaf p q)) z', O2 (step s (.leaf p q)) z', X1, X2, X3]⟩ B))
    (hlen : ∀ s x, len (step s x) ≤ len s + 1) : ∀ (N : Nat) (tr : Tree), size tr ≤ N → ∀ (vt : Value) (x : Sym) (u : Nat) (s : α) (z : Value) (w : World) (B : Base), TreeR (fun k => k < w0.heap.size) w0 vt tr → Right prods tr x u → 0 ≤ tr.prod → len s + (acts prods tr).length ≤ 100000 → Old w0 B → Mem B [O1 s z, O2 s z, X1, X2, X3] w →
    Calls Try.prog 45 #[graV t n vp, vt, .func (.func fa) a1 a2, .func (.func fb) b1 b2, .func (.func fl) l1 l2] w (MeetsB ⟨fun (_ : Value) => True, fun _ => .tuple #[], fun z' => [O1 ((acts prods tr).foldl step s) z', O2 ((acts prods tr).foldl step s) z', X1, X2, X3]⟩ B)
  | 0, tr, h, _, _, _, _, _, _, _, _, _, _, _, _, _ => by have := size_pos tr; omega
  | N + 1, .mk p k kids, hN, vt, x, u, s, z, w, B, hv, hR, hp0, hsl, ho, hm => by
    have IH := each5_calls w0 t n vp prods hG O1 O2 X1 X2 X3 step len fa fb fl a1 a2 b1 b2 l1 l2 ea eb el hA hB hL hlen N
    obtain ⟨vk, rfl, hp64, hk64, hks⟩ := hv
    dsimp only [Tree.prod, Tree.tok, Tree.kids] at hp64 hk64 hks hp0 ⊢
    obtain ⟨bk, ck, rfl, hck, hmk, hrk⟩ := hks
    unfold maxLen at hmk
    rw [size] at hN
    rw [Right] at hR
    rw [acts] at hsl ⊢
    obtain ⟨r1, r2, r3, r4, r5, r6⟩ : x.1 ≠ 1 ∧ 0 ≤ p ∧ p < (prods.length : Int) ∧ (prodAt prods p).1 = x.2 ∧ k = 0 ∧ Rights prods kids (prodAt prods p).2 u := by
      rcases hR with ⟨_, h, _⟩ | h
      · omega
      · exact h
    clear hR
    obtain ⟨pn, rfl⟩ : ∃ pn : Nat, p = pn := ⟨p.toNat, by omega⟩
    have c6 : pn < prods.length := by omega
    obtain ⟨bp, cp, rfl, hcp, hmp, hrp⟩ := hG
    unfold maxLen at hmp
    obtain ⟨b, off, rfl, _, hr⟩ := hrp (by omega)
    obtain ⟨bb, cb, q1, q2, q3⟩ := prod_at hr c6
    rw [prodAt_eq c6] at r4 r6 hsl ⊢
    have hat : ∀ (L : List Own) (j : Nat) (v : Value), ([.int .i64 prods[pn].1, .slice bb prods[pn].2.length cb] : List Value)[j]? = some v → At B L ⟨b, off + pn * 2 + j, none⟩ v := fun L j v hj => at_old0 ho (q1 j v hj)
    have hfl := q3.flat (by decide)
    clear hr hrp q1 q3 q2
    generalize prods[pn] = pd at *
    obtain ⟨hd, body⟩ := pd
    dsimp only at *
    have hat1 := fun L => hat L 1 _ rfl
    clear hat
    obtain ⟨b2', cb2, he, hb4, hb5, hb6⟩ := hfl
    simp only [Value.slice.injEq, true_and] at he
    obtain ⟨rfl, rfl⟩ := he
    unfold maxLen at hb5
    have hkl := rights_len r6
    have hall := rights_at r6
    refine enterB hm (args := [graV t n (.slice (some ⟨b, off, none⟩) prods.length cp), treeV (pn : Int) k (.slice bk kids.length ck), .func (.func fa) a1 a2, .func (.func fb) b1 b2, .func (.func fl) l1 l2]) (n := 53) Try.func45 rfl rfl rfl ?_
    clear hm
    refine T_seq (T_region (TL_box rfl rfl rfl fun g5 => TL_box rfl rfl rfl fun g6 => ?_))
    conv => arg 8; simp only [zA, zB, zC, zD, zE, zF, zG, zH, zI, rowS, ret, id_eq]
    repeat (first
      | refine qv rfl (qp rfl) rfl rfl ?_ | refine TL_nil ?_ | refine T_seq ?_ | refine T_region ?_ | refine qcT rfl ?_ | refine qcF rfl ?_ | refine T_skip ?_
      | refine T_exit ?_ | refine T_block ?_ | refine E_then ?_ | refine E_thenX ?_ | refine E_thenR ?_ | refine E_blockN ?_ | refine E_blockR ?_
      | refine E_blockX ?_ | refine E_blockO rfl ?_ | refine qv rfl (rr_load1 TyC.ty rfl (at_blk (i := 6) rfl rfl)) rfl rfl ?_
      | refine qv rfl (qlen Und.eq rfl) rfl rfl ?_ | refine qv rfl (qfld FldC.fld rfl rfl) rfl rfl ?_
      | refine qv rfl (rr_lss rfl rfl (qT (by omega))) rfl rfl ?_ | refine qv rfl (rr_lss rfl rfl (qF (by omega))) rfl rfl ?_
      | refine qv rfl (rr_add64 rfl rfl (by omega) (by omega) rfl) rfl rfl ?_)
    refine TL_callB [0, 1, 2, 3, 4] [5, 6] (by decide) rfl rfl (he1c ea rfl rfl) (fun w hm hb => hA s z _ w _ (by omega) hb) rfl rfl rfl ?_
    intro z1 _
    conv => arg 8; simp only [zA, zB, zC, zD, zE, zF, zG, zH, zI, rowS, ret, id_eq]
    repeat (first
      | refine qv rfl (qp rfl) rfl rfl ?_ | refine TL_nil ?_ | refine T_seq ?_ | refine T_region ?_ | refine qcT rfl ?_ | refine qcF rfl ?_ | refine T_skip ?_
      | refine T_exit ?_ | refine T_block ?_ | refine E_then ?_ | refine E_thenX ?_ | refine E_thenR ?_ | refine E_blockN ?_ | refine E_blockR ?_
      | refine E_blockX ?_ | refine E_blockO rfl ?_ | refine qv rfl (rr_load1 TyC.ty rfl (at_blk (i := 1) rfl rfl)) rfl rfl ?_
      | refine qv rfl (qlen Und.eq rfl) rfl rfl ?_ | refine qv rfl (qfld FldC.fld rfl rfl) rfl rfl ?_
      | refine qv rfl (rr_lss rfl rfl (qT (by omega))) rfl rfl ?_ | refine qv rfl (rr_lss rfl rfl (qF (by omega))) rfl rfl ?_
      | refine qv rfl (rr_add64 rfl rfl (by omega) (by omega) rfl) rfl rfl ?_)
    rw [List.foldl_cons] at *
    have hl1 := hlen s (.ahead (pn : Int))
    rw [List.length_cons] at hsl
    generalize step s (.ahead (pn : Int)) = s1 at *
    generalize hfin : (actss prods kids body ++ [Deed.behind (pn : Int)]).foldl step s1 = fin
    refine T_loop (ι := Nat × α × Value) (fun (i, a, _) => i ≤ kids.length ∧ len a + (actss prods (kids.drop i) (body.drop i) ++ [Deed.behind (pn : Int)]).length ≤ 100000 ∧ (actss prods (kids.drop i) (body.drop i) ++ [Deed.behind (pn : Int)]).foldl step a = fin) (fun (i, _, _) => [(2, .func (.func fa) a1 a2), (3, .func (.func fb) b1 b2), (4, .func (.func fl) l1 l2), (5, .pointer (some ⟨g5, 0, none⟩)), (6, .pointer (some ⟨g6, 0, none⟩)), (17, .slice bk kids.length ck), (18, .int .i64 kids.length), (19, .int .i64 (i : Int))])
      (fun (_, a, z) => [blkO g5 (graV t n (.slice (some ⟨b, off, none⟩) prods.length cp)).cells 24, blkO g6 (treeV (pn : Int) k (.slice bk kids.length ck)).cells 75, O1 a z, O2 a z, X1, X2, X3]) (fun (i, _, _) => kids.length - i) (0, s1, z1) ⟨Nat.zero_le _, by rw [List.drop_zero, List.drop_zero]; omega, hfin⟩ (by repeat' (first | exact True.intro | refine And.intro rfl ?_)) rfl ?_
    clear hfin hsl hl1
    rintro ⟨i, a, z'⟩ ⟨i1, i2, i3⟩
    dsimp only at i1 i2 i3 ⊢
    by_cases c7 : i < kids.length
    · obtain ⟨bk2, offk, rfl, _, hrkk⟩ := hrk (by omega)
      obtain ⟨kb, kc, y1, y2⟩ := kid_at hrkk c7
      have c8 : i < body.length := by omega
      obtain ⟨b3, off3, rfl, hr3⟩ := hb6 (by omega)
      obtain ⟨uu, hru⟩ := hall i c7 c8
      rw [List.drop_eq_getElem_cons c7, List.drop_eq_getElem_cons c8] at i2 i3
      have hatk : ∀ (L : List Own) (j : Nat) (v : Value), ([.int .i64 kids[i].prod, .int .i64 kids[i].tok, .slice kb kids[i].kids.length kc] : List Value)[j]? = some v → At B L ⟨bk2, offk + i * 3 + j, none⟩ v := fun L j v hj => at_old0 ho (y1 j v hj)
      have hatx := fun L => at_elL (W := B) (L := L) SymS_len (fun q x hq => at_old0 ho (hr3 q x hq)) c8
      have hszk : size kids[i] ≤ N := by have := size_mem kids i c7; omega
      have IHk := IH kids[i] hszk
      clear hrk hrkk hb6 hr3 y1 IH hall
      generalize kids[i] = kt at *
      generalize body[i] = y at *
      have IHk := IHk (treeV kt.prod kt.tok (.slice kb kt.kids.length kc)) y uu a z'
      obtain ⟨kp, kk, kk2⟩ := kt
      dsimp only [Tree.prod, Tree.tok, Tree.kids] at *
      obtain ⟨yq, ym⟩ := y
      rw [actss] at i2 i3
      repeat (first
        | refine qv rfl (qp rfl) rfl rfl ?_ | refine TL_nil ?_ | refine T_seq ?_ | refine T_region ?_ | refine qcT rfl ?_ | refine qcF rfl ?_ | refine T_skip ?_
        | refine T_exit ?_ | refine T_block ?_ | refine E_then ?_ | refine E_thenX ?_ | refine E_thenR ?_ | refine E_blockN ?_ | refine E_blockR ?_
        | refine E_blockX ?_ | refine E_blockO rfl ?_ | refine qv rfl (rr_idxc Und.eq TyC.ty rfl rfl c7) rfl rfl ?_
        | refine qv rfl (rr_loadN TyC.ty rfl rfl (hatk _)) rfl rfl ?_ | refine qv rfl (qlen Und.eq rfl) rfl rfl ?_
        | refine qv rfl (qfld FldC.fld rfl rfl) rfl rfl ?_ | refine qv rfl (rr_lss rfl rfl (qT (by omega))) rfl rfl ?_
        | refine qv rfl (rr_lss rfl rfl (qF (by omega))) rfl rfl ?_ | refine qv rfl (rr_add64 rfl rfl (by omega) (by omega) rfl) rfl rfl ?_)
      refine TL_new rfl fun g11 => ?_
      repeat (first
        | refine qv rfl (qp rfl) rfl rfl ?_ | refine TL_nil ?_ | refine T_seq ?_ | refine T_region ?_ | refine qcT rfl ?_ | refine qcF rfl ?_ | refine T_skip ?_
        | refine T_exit ?_ | refine T_block ?_ | refine E_then ?_ | refine E_thenX ?_ | refine E_thenR ?_ | refine E_blockN ?_ | refine E_blockR ?_
        | refine E_blockX ?_ | refine E_blockO rfl ?_ | refine qv rfl (qlen Und.eq rfl) rfl rfl ?_ | refine qv rfl (qfld FldC.fld rfl rfl) rfl rfl ?_
        | refine qv rfl (rr_lss rfl rfl (qT (by omega))) rfl rfl ?_ | refine qv rfl (rr_lss rfl rfl (qF (by omega))) rfl rfl ?_
        | refine qv rfl (rr_add64 rfl rfl (by omega) (by omega) rfl) rfl rfl ?_)
      refine TL_storeB (i := 7) rfl rfl rfl rfl rfl rfl ?_
      conv => arg 8; simp only [zA, zB, zC, zD, zE, zF, zG, zH, zI, rowS, ret, id_eq]
      by_cases c9 : kp < 0
      · rw [if_pos c9] at i2 i3
        have hl2 := hlen a (.leaf ym kk)
        simp only [List.cons_append, List.nil_append, List.foldl_cons, List.length_cons] at i2 i3
        repeat (first
          | refine qv rfl (qp rfl) rfl rfl ?_ | refine TL_nil ?_ | refine T_seq ?_ | refine T_region ?_ | refine qcT rfl ?_ | refine qcF rfl ?_ | refine T_skip ?_
          | refine T_exit ?_ | refine T_block ?_ | refine E_then ?_ | refine E_thenX ?_ | refine E_thenR ?_ | refine E_blockN ?_ | refine E_blockR ?_
          | refine E_blockX ?_ | refine E_blockO rfl ?_ | refine qv rfl (rr_load1 TyC.ty rfl (at_blk (i := 7) rfl rfl)) rfl rfl ?_
          | refine qv rfl (qlen Und.eq rfl) rfl rfl ?_ | refine qv rfl (qfld FldC.fld rfl rfl) rfl rfl ?_
          | refine qv rfl (rr_lss rfl rfl (qT (by omega))) rfl rfl ?_ | refine qv rfl (rr_lss rfl rfl (qF (by omega))) rfl rfl ?_
          | refine qv rfl (rr_add64 rfl rfl (by omega) (by omega) rfl) rfl rfl ?_)
        refine T_ord ([blkO g5 (graV t n (.slice (some ⟨b, off, none⟩) prods.length cp)).cells 24, blkO g6 (treeV (pn : Int) k (.slice (some ⟨bk2, offk, none⟩) kids.length ck)).cells 75, blkO g11 #[.int .i64 kp, .int .i64 kk, .slice kb kk2.length kc] 75]) (.calm 0 (.calm 1 (.calm 2 (.calm 3 (.calm 4 (.calm 5 (.calm 6 (.calm 7 (.calm 8 (.calm 9 (.calm 10 (.calm 11 (.calm 12 (.calm 13 (.one 14 (.done)))))))))))))))) (sub_pick [0, 1, 7] (by decide) rfl) (by kernel_rfl) (by kernel_rfl) (by intro c a d v w h; cases d <;> exact h) ?_
        repeat (first
          | ((first | refine TW_plain rfl rfl ?_ | refine TW_gmet rfl rfl rfl rfl ?_); first | refine TN_val (qp rfl) rfl rfl ?_ | refine TN_val (rr_load1 TyC.ty rfl (at_blk (i := 0) rfl rfl)) rfl rfl ?_ | refine TN_val (rr_load1 TyC.ty rfl (at_blk (i := 1) rfl rfl)) rfl rfl ?_ | refine TN_val (rr_load1 TyC.ty rfl (at_blk (i := 2) rfl rfl)) rfl rfl ?_ | refine TN_val (rr_idxc Und.eq TyC.ty rfl rfl c6) rfl rfl ?_ | refine TN_val (rr_load1 TyC.ty rfl (hat1 _)) rfl rfl ?_ | refine TN_val (rr_idxc Und.eq TyC.ty rfl rfl c8) rfl rfl ?_ | refine TN_val (rr_load1 TyC.ty rfl (hatx _ 1 _ rfl)) rfl rfl ?_ | refine TN_val (qlen Und.eq rfl) rfl rfl ?_ | refine TN_val (qfld FldC.fld rfl rfl) rfl rfl ?_ | refine TN_val (rr_lss rfl rfl (qT (by omega))) rfl rfl ?_ | refine TN_val (rr_lss rfl rfl (qF (by omega))) rfl rfl ?_ | refine TN_val (rr_add64 rfl rfl (by omega) (by omega) rfl) rfl rfl ?_)
          | refine TW_done ?_)
        refine TW_one rfl ?_
        refine TL_callB [2, 3, 4, 5, 6] [0, 1, 7] (by decide) rfl rfl (he2c el rfl rfl rfl) (fun w hm hb => hL a z' _ _ w _ (by omega) hb) rfl rfl rfl ?_
        intro z2 _
        conv => arg 8; simp only [zA, zB, zC, zD, zE, zF, zG, zH, zI, rowS, ret, id_eq]
        refine TW_on (sub_pick [0, 1, 2] (by decide) rfl) ?_
        repeat (first
          | ((first | refine TW_plain rfl rfl ?_ | refine TW_gmet rfl rfl rfl rfl ?_); first | refine TN_val (qp rfl) rfl rfl ?_ | refine TN_val (qlen Und.eq rfl) rfl rfl ?_ | refine TN_val (qfld FldC.fld rfl rfl) rfl rfl ?_ | refine TN_val (rr_lss rfl rfl (qT (by omega))) rfl rfl ?_ | refine TN_val (rr_lss rfl rfl (qF (by omega))) rfl rfl ?_ | refine TN_val (rr_add64 rfl rfl (by omega) (by omega) rfl) rfl rfl ?_)
          | refine TW_done ?_)
        repeat (first
          | refine qv rfl (qp rfl) rfl rfl ?_ | refine TL_nil ?_ | refine T_seq ?_ | refine T_region ?_ | refine qcT rfl ?_ | refine qcF rfl ?_ | refine T_skip ?_
          | refine T_exit ?_ | refine T_block ?_ | refine E_then ?_ | refine E_thenX ?_ | refine E_thenR ?_ | refine E_blockN ?_ | refine E_blockR ?_
          | refine E_blockX ?_ | refine E_blockO rfl ?_ | refine qv rfl (qlen Und.eq rfl) rfl rfl ?_ | refine qv rfl (qfld FldC.fld rfl rfl) rfl rfl ?_
          | refine qv rfl (rr_lss rfl rfl (qT (by omega))) rfl rfl ?_ | refine qv rfl (rr_lss rfl rfl (qF (by omega))) rfl rfl ?_
          | refine qv rfl (rr_add64 rfl rfl (by omega) (by omega) rfl) rfl rfl ?_)
        refine E_pick [0, 1, 3, 4, 5, 6, 7] (by decide) rfl ?_
        exact E_round (i + 1, step a (.leaf ym kk), z2) ⟨by omega, by dsimp only; omega, i3⟩ (by show kids.length - (i + 1) < kids.length - i; omega) (by repeat' (first | exact True.intro | refine And.intro rfl ?_)) rfl
      · rw [if_neg c9] at i2 i3
        rw [List.append_assoc, List.foldl_append] at i3
        rw [List.append_assoc, List.length_append] at i2
        have hfl : len ((acts prods (.mk kp kk kk2)).foldl step a) ≤ len a + (acts prods (.mk kp kk kk2)).length := by
          have : ∀ (l : List Deed) (a : α), len (l.foldl step a) ≤ len a + l.length := by
            intro l
            induction l with
            | nil => intro a; simp
            | cons y r ih => intro a; rw [List.foldl_cons, List.length_cons]; have := ih (step a y); have := hlen a y; omega
          exact this _ a
        have IHk := fun w' B' ho' hm' => IHk w' B' y2 hru (by omega) (by omega) ho' hm'
        generalize (acts prods (.mk kp kk kk2)).foldl step a = a' at *
        repeat (first
          | refine qv rfl (qp rfl) rfl rfl ?_ | refine TL_nil ?_ | refine T_seq ?_ | refine T_region ?_ | refine qcT rfl ?_ | refine qcF rfl ?_ | refine T_skip ?_
          | refine T_exit ?_ | refine T_block ?_ | refine E_then ?_ | refine E_thenX ?_ | refine E_thenR ?_ | refine E_blockN ?_ | refine E_blockR ?_
          | refine E_blockX ?_ | refine E_blockO rfl ?_ | refine qv rfl (rr_load1 TyC.ty rfl (at_blk (i := 7) rfl rfl)) rfl rfl ?_
          | refine qv rfl (rr_loadB (i := 0) TyC.ty rfl rfl rfl) rfl rfl ?_ | refine qv rfl (rr_loadB (i := 7) TyC.ty rfl rfl rfl) rfl rfl ?_
          | refine qv rfl (qlen Und.eq rfl) rfl rfl ?_ | refine qv rfl (qfld FldC.fld rfl rfl) rfl rfl ?_
          | refine qv rfl (rr_lss rfl rfl (qT (by omega))) rfl rfl ?_ | refine qv rfl (rr_lss rfl rfl (qF (by omega))) rfl rfl ?_
          | refine qv rfl (rr_add64 rfl rfl (by omega) (by omega) rfl) rfl rfl ?_)
        refine TL_callB [2, 3, 4, 5, 6] [0, 1, 7] (by decide) rfl rfl (he5 EntersC.en rfl rfl rfl rfl rfl rfl) (fun w hm hb => IHk w _ (ho.on hm fun o h => pick_mem2 h) hb) rfl rfl rfl ?_
        intro z2 _
        conv => arg 8; simp only [zA, zB, zC, zD, zE, zF, zG, zH, zI, rowS, ret, id_eq]
        repeat (first
          | refine qv rfl (qp rfl) rfl rfl ?_ | refine TL_nil ?_ | refine T_seq ?_ | refine T_region ?_ | refine qcT rfl ?_ | refine qcF rfl ?_ | refine T_skip ?_
          | refine T_exit ?_ | refine T_block ?_ | refine E_then ?_ | refine E_thenX ?_ | refine E_thenR ?_ | refine E_blockN ?_ | refine E_blockR ?_
          | refine E_blockX ?_ | refine E_blockO rfl ?_ | refine qv rfl (qlen Und.eq rfl) rfl rfl ?_ | refine qv rfl (qfld FldC.fld rfl rfl) rfl rfl ?_
          | refine qv rfl (rr_lss rfl rfl (qT (by omega))) rfl rfl ?_ | refine qv rfl (rr_lss rfl rfl (qF (by omega))) rfl rfl ?_
          | refine qv rfl (rr_add64 rfl rfl (by omega) (by omega) rfl) rfl rfl ?_)
        refine E_pick [0, 1, 3, 4, 5, 6, 7] (by decide) rfl ?_
        exact E_round (i + 1, a', z2) ⟨by omega, by dsimp only; omega, i3⟩ (by show kids.length - (i + 1) < kids.length - i; omega) (by repeat' (first | exact True.intro | refine And.intro rfl ?_)) rfl
    · have e1 : actss prods (kids.drop i) (body.drop i) = [] := by rw [List.drop_of_length_le (by omega), actss]
      rw [e1] at i2 i3
      simp only [List.nil_append, List.foldl_cons, List.foldl_nil, List.length_cons, List.length_nil] at i2 i3
      subst i3
      repeat (first
        | refine qv rfl (qp rfl) rfl rfl ?_ | refine TL_nil ?_ | refine T_seq ?_ | refine T_region ?_ | refine qcT rfl ?_ | refine qcF rfl ?_ | refine T_skip ?_
        | refine T_exit ?_ | refine T_block ?_ | refine E_then ?_ | refine E_thenX ?_ | refine E_thenR ?_ | refine E_blockN ?_ | refine E_blockR ?_
        | refine E_blockX ?_ | refine E_blockO rfl ?_ | refine qv rfl (rr_load1 TyC.ty rfl (at_blk (i := 1) rfl rfl)) rfl rfl ?_
        | refine qv rfl (qlen Und.eq rfl) rfl rfl ?_ | refine qv rfl (qfld FldC.fld rfl rfl) rfl rfl ?_
        | refine qv rfl (rr_lss rfl rfl (qT (by omega))) rfl rfl ?_ | refine qv rfl (rr_lss rfl rfl (qF (by omega))) rfl rfl ?_
        | refine qv rfl (rr_add64 rfl rfl (by omega) (by omega) rfl) rfl rfl ?_)
      refine TL_callB [2, 3, 4, 5, 6] [0, 1] (by decide) rfl rfl (he1c eb rfl rfl) (fun w hm hb => hB a z' _ w _ (by omega) hb) rfl rfl rfl ?_
      intro z2 _
      conv => arg 8; simp only [zA, zB, zC, zD, zE, zF, zG, zH, zI, rowS, ret, id_eq]
      repeat (first
        | refine qv rfl (qp rfl) rfl rfl ?_ | refine TL_nil ?_ | refine T_seq ?_ | refine T_region ?_ | refine qcT rfl ?_ | refine qcF rfl ?_ | refine T_skip ?_
        | refine T_exit ?_ | refine T_block ?_ | refine E_then ?_ | refine E_thenX ?_ | refine E_thenR ?_ | refine E_blockN ?_ | refine E_blockR ?_
        | refine E_blockX ?_ | refine E_blockO rfl ?_ | refine qv rfl (qlen Und.eq rfl) rfl rfl ?_ | refine qv rfl (qfld FldC.fld rfl rfl) rfl rfl ?_
        | refine qv rfl (rr_lss rfl rfl (qT (by omega))) rfl rfl ?_ | refine qv rfl (rr_lss rfl rfl (qF (by omega))) rfl rfl ?_
        | refine qv rfl (rr_add64 rfl rfl (by omega) (by omega) rfl) rfl rfl ?_)
      exact E_end0 rfl fun w hm => hm.meetsB (S := ⟨fun (_ : Value) => True, fun _ => .tuple #[], fun z' => [O1 (step a (.behind (pn : Int))) z', O2 (step a (.behind (pn : Int))) z', X1, X2, X3]⟩) z2 trivial [2, 3, 4, 5, 6] (by decide) rfl
end Go.Proofs.Ytkkiopmdcolobaa.eng

/- EvT -/
namespace Go.Proofs.Ytkkiopmdcolobaa.eng
open Go.RowKit kit mix gramL treeL
instance : TyC Try.prog 109 false 1 := ⟨Ty.of (by kernel_rfl)⟩
instance : ZeroC Try.prog 109 #[.nilFunc] := ⟨by kernel_rfl⟩
theorem build_ev (k q : Int) (w : World) : (Instr.build 39 #[(0, .int .i64 k), (1, .int .i64 q)]).run Try.prog w = .ok (.agg #[.int .i64 k, .int .i64 q]) w := by
  go_simp
def eO1 (g : Nat) (_ : List Sym) (z : Value) : Own := blkO g #[z] 30
def eO2 (s : List Sym) (z : Value) : Own := rowO 39 2 z s.length (s.flatMap symC)
def eS (l : List Sym) : Spec Value := rowS 39 2 l.length (l.flatMap symC) fun v => .tuple #[v, .int .i64 0]
theorem putDown_calls (g gb : Nat) (kind n : Int) (s : List Sym) (z : Value) (w : World) (B : Base) (Y1 Y2 Y3 : Own) (i : Nat) (hi : ∀ a b, ([a, b, Y1, Y2, Y3] : List Own)[i]? = some (blkO gb #[.int .i64 kind] 3)) (hs : s.length ≤ 100000) (hm : Mem B [eO1 g s z, eO2 s z, Y1, Y2, Y3] w) :
    Calls Try.prog 44 #[.int .i64 n, .pointer (some ⟨g, 0, none⟩), .pointer (some ⟨gb, 0, none⟩)] w (MeetsB ⟨fun (_ : Value) => True, fun _ => .tuple #[], fun z' => [eO1 g (s ++ [(kind, n)]) z', eO2 (s ++ [(kind, n)]) z', Y1, Y2, Y3]⟩ B) := by
  refine enterB hm (args := [.int .i64 n, .pointer (some ⟨g, 0, none⟩), .pointer (some ⟨gb, 0, none⟩)]) (n := 10) Try.func44 rfl rfl rfl ?_
  repeat (first
    | refine qv rfl (qp rfl) rfl rfl ?_ | refine TL_nil ?_ | refine T_region ?_ | refine qv rfl (rr_load1 TyC.ty rfl (at_blk (i := 0) rfl rfl)) rfl rfl ?_
    | refine qv rfl (rr_load1 TyC.ty rfl (at_blk (i := i) (hi _ _) rfl)) rfl rfl ?_ | refine qv rfl (rr_build rfl (build_ev _ _)) rfl rfl ?_)
  refine TL_pushN (i := 1) rfl rfl rfl rfl rfl rfl rfl (fun z h => by cases h; rfl) (by omega) (by omega) rfl fun z' v' => ?_
  conv => arg 8; simp only [zA, zB, zC, zD, zE, zF, zG, zH, zI, rowS, ret, id_eq]
  refine TL_slv (i := 1) rfl fun hv1 hv2 => ?_
  refine TL_store1 (i := 0) rfl rfl rfl hv1 hv2 rfl ?_
  conv => arg 8; simp only [zA, zB, zC, zD, zE, zF, zG, zH, zI, rowS, ret, id_eq]
  repeat (first
    | refine qv rfl (qp rfl) rfl rfl ?_ | refine TL_nil ?_ | refine T_region ?_)
  exact E_end0 rfl fun w hm => hm.meetsB (S := ⟨fun (_ : Value) => True, fun _ => .tuple #[], fun z' => [eO1 g (s ++ [(kind, n)]) z', eO2 (s ++ [(kind, n)]) z', Y1, Y2, Y3]⟩) v' trivial [0, 1, 2, 3, 4] (by decide) (by simp [eO1, eO2, symC])
theorem kindDown_calls (g : Nat) (kind : Int) (w : World) : Calls Try.prog 43 #[.int .i64 kind, .pointer (some ⟨g, 0, none⟩)] w (Meets ⟨fun (_ : Nat) => True, fun gb => .func (.func 44) #[] #[.pointer (some ⟨g, 0, none⟩), .pointer (some ⟨gb, 0, none⟩)], fun gb => [blkO gb #[.int .i64 kind] 3]⟩ w) := by
  refine enter (args := [.int .i64 kind, .pointer (some ⟨g, 0, none⟩)]) (n := 5) Try.func43 rfl rfl rfl ?_
  refine T_seq (T_region (TL_box rfl rfl rfl fun gb => ?_))
  conv => arg 8; simp only [zA, zB, zC, zD, zE, zF, zG, zH, zI, rowS, ret, id_eq]
  repeat (first
    | refine qv rfl (qp rfl) rfl rfl ?_ | refine TL_nil ?_ | refine T_seq ?_ | refine T_region ?_ | refine T_ret ?_ | refine E_then ?_ | refine E_thenR ?_
    | refine qv rfl (rr_func rfl rfl) rfl rfl ?_)
  exact E_ret1 rfl rfl fun w hm => hm.meets (S := ⟨fun (_ : Nat) => True, fun gb => .func (.func 44) #[] #[.pointer (some ⟨g, 0, none⟩), .pointer (some ⟨gb, 0, none⟩)], fun gb => [blkO gb #[.int .i64 kind] 3]⟩) gb trivial [0] (by decide) rfl
theorem leafDown_calls (g g8 : Nat) (p q : Int) (s : List Sym) (z : Value) (w : World) (B : Base) (Y2 Y3 : Own) (hs : s.length ≤ 100000) (hm : Mem B [eO1 g s z, eO2 s z, blkO g8 #[.func (.func 43) #[] #[.pointer (some ⟨g, 0, none⟩)]] 109, Y2, Y3] w) :
    Calls Try.prog 46 #[.int .i64 p, .int .i64 q, .pointer (some ⟨g8, 0, none⟩)] w (MeetsB ⟨fun (_ : Value) => True, fun _ => .tuple #[], fun z' => [eO1 g (s ++ [(2, q)]) z', eO2 (s ++ [(2, q)]) z', blkO g8 #[.func (.func 43) #[] #[.pointer (some ⟨g, 0, none⟩)]] 109, Y2, Y3]⟩ B) := by
  refine enterB hm (args := [.int .i64 p, .int .i64 q, .pointer (some ⟨g8, 0, none⟩)]) (n := 9) Try.func46 rfl rfl rfl ?_
  repeat (first
    | refine qv rfl (qp rfl) rfl rfl ?_ | refine TL_nil ?_ | refine T_region ?_ | refine qv rfl (rr_load1 TyC.ty rfl (at_blk (i := 2) rfl rfl)) rfl rfl ?_)
  refine TL_call (he1c EntersC.en rfl rfl) (fun w hm => kindDown_calls g 2 w) rfl rfl rfl ?_
  intro gb _
  conv => arg 8; simp only [zA, zB, zC, zD, zE, zF, zG, zH, zI, rowS, ret, id_eq]
  repeat (first
    | refine qv rfl (qp rfl) rfl rfl ?_ | refine TL_nil ?_ | refine T_region ?_)
  refine TL_callB [0, 1, 5, 2, 3] [4] (by decide) rfl rfl (he1c EntersC.en rfl rfl) (fun w hm hb => putDown_calls g gb 2 q s z w _ _ _ _ 2 (fun _ _ => rfl) hs hb) rfl rfl rfl ?_
  intro z' _
  conv => arg 8; simp only [zA, zB, zC, zD, zE, zF, zG, zH, zI, rowS, ret, id_eq]
  repeat (first
    | refine qv rfl (qp rfl) rfl rfl ?_ | refine TL_nil ?_ | refine T_region ?_)
  exact E_end0 rfl fun w hm => hm.meetsB (S := ⟨fun (_ : Value) => True, fun _ => .tuple #[], fun z' => [eO1 g (s ++ [(2, q)]) z', eO2 (s ++ [(2, q)]) z', blkO g8 #[.func (.func 43) #[] #[.pointer (some ⟨g, 0, none⟩)]] 109, Y2, Y3]⟩) z' trivial [1, 2, 4, 5, 0] (by decide) rfl
theorem putUp_calls (g gb : Nat) (kind n : Int) (s : List Sym) (z : Value) (w : World) (B : Base) (Y1 Y2 Y3 : Own) (i : Nat) (hi : ∀ a b, ([a, b, Y1, Y2, Y3] : List Own)[i]? = some (blkO gb #[.int .i64 kind] 3)) (hs : s.length ≤ 100000) (hm : Mem B [eO1 g s z, eO2 s z, Y1, Y2, Y3] w) :
    Calls Try.prog 48 #[.int .i64 n, .pointer (some ⟨g, 0, none⟩), .pointer (some ⟨gb, 0, none⟩)] w (MeetsB ⟨fun (_ : Value) => True, fun _ => .tuple #[], fun z' => [eO1 g (s ++ [(kind, n)]) z', eO2 (s ++ [(kind, n)]) z', Y1, Y2, Y3]⟩ B) := by
  refine enterB hm (args := [.int .i64 n, .pointer (some ⟨g, 0, none⟩), .pointer (some ⟨gb, 0, none⟩)]) (n := 10) Try.func48 rfl rfl rfl ?_
  repeat (first
    | refine qv rfl (qp rfl) rfl rfl ?_ | refine TL_nil ?_ | refine T_region ?_ | refine qv rfl (rr_load1 TyC.ty rfl (at_blk (i := 0) rfl rfl)) rfl rfl ?_
    | refine qv rfl (rr_load1 TyC.ty rfl (at_blk (i := i) (hi _ _) rfl)) rfl rfl ?_ | refine qv rfl (rr_build rfl (build_ev _ _)) rfl rfl ?_)
  refine TL_pushN (i := 1) rfl rfl rfl rfl rfl rfl rfl (fun z h => by cases h; rfl) (by omega) (by omega) rfl fun z' v' => ?_
  conv => arg 8; simp only [zA, zB, zC, zD, zE, zF, zG, zH, zI, rowS, ret, id_eq]
  refine TL_slv (i := 1) rfl fun hv1 hv2 => ?_
  refine TL_store1 (i := 0) rfl rfl rfl hv1 hv2 rfl ?_
  conv => arg 8; simp only [zA, zB, zC, zD, zE, zF, zG, zH, zI, rowS, ret, id_eq]
  repeat (first
    | refine qv rfl (qp rfl) rfl rfl ?_ | refine TL_nil ?_ | refine T_region ?_)
  exact E_end0 rfl fun w hm => hm.meetsB (S := ⟨fun (_ : Value) => True, fun _ => .tuple #[], fun z' => [eO1 g (s ++ [(kind, n)]) z', eO2 (s ++ [(kind, n)]) z', Y1, Y2, Y3]⟩) v' trivial [0, 1, 2, 3, 4] (by decide) (by simp [eO1, eO2, symC])
theorem kindUp_calls (g : Nat) (kind : Int) (w : World) : Calls Try.prog 47 #[.int .i64 kind, .pointer (some ⟨g, 0, none⟩)] w (Meets ⟨fun (_ : Nat) => True, fun gb => .func (.func 48) #[] #[.pointer (some ⟨g, 0, none⟩), .pointer (some ⟨gb, 0, none⟩)], fun gb => [blkO gb #[.int .i64 kind] 3]⟩ w) := by
  refine enter (args := [.int .i64 kind, .pointer (some ⟨g, 0, none⟩)]) (n := 5) Try.func47 rfl rfl rfl ?_
  refine T_seq (T_region (TL_box rfl rfl rfl fun gb => ?_))
  conv => arg 8; simp only [zA, zB, zC, zD, zE, zF, zG, zH, zI, rowS, ret, id_eq]
  repeat (first
    | refine qv rfl (qp rfl) rfl rfl ?_ | refine TL_nil ?_ | refine T_seq ?_ | refine T_region ?_ | refine T_ret ?_ | refine E_then ?_ | refine E_thenR ?_
    | refine qv rfl (rr_func rfl rfl) rfl rfl ?_)
  exact E_ret1 rfl rfl fun w hm => hm.meets (S := ⟨fun (_ : Nat) => True, fun gb => .func (.func 48) #[] #[.pointer (some ⟨g, 0, none⟩), .pointer (some ⟨gb, 0, none⟩)], fun gb => [blkO gb #[.int .i64 kind] 3]⟩) gb trivial [0] (by decide) rfl
theorem leafUp_calls (g g8 : Nat) (p q : Int) (s : List Sym) (z : Value) (w : World) (B : Base) (Y2 Y3 : Own) (hs : s.length ≤ 100000) (hm : Mem B [eO1 g s z, eO2 s z, blkO g8 #[.func (.func 47) #[] #[.pointer (some ⟨g, 0, none⟩)]] 109, Y2, Y3] w) :
    Calls Try.prog 50 #[.int .i64 p, .int .i64 q, .pointer (some ⟨g8, 0, none⟩)] w (MeetsB ⟨fun (_ : Value) => True, fun _ => .tuple #[], fun z' => [eO1 g (s ++ [(2, q)]) z', eO2 (s ++ [(2, q)]) z', blkO g8 #[.func (.func 47) #[] #[.pointer (some ⟨g, 0, none⟩)]] 109, Y2, Y3]⟩ B) := by
  refine enterB hm (args := [.int .i64 p, .int .i64 q, .pointer (some ⟨g8, 0, none⟩)]) (n := 9) Try.func50 rfl rfl rfl ?_
  repeat (first
    | refine qv rfl (qp rfl) rfl rfl ?_ | refine TL_nil ?_ | refine T_region ?_ | refine qv rfl (rr_load1 TyC.ty rfl (at_blk (i := 2) rfl rfl)) rfl rfl ?_)
  refine TL_call (he1c EntersC.en rfl rfl) (fun w hm => kindUp_calls g 2 w) rfl rfl rfl ?_
  intro gb _
  conv => arg 8; simp only [zA, zB, zC, zD, zE, zF, zG, zH, zI, rowS, ret, id_eq]
  repeat (first
    | refine qv rfl (qp rfl) rfl rfl ?_ | refine TL_nil ?_ | refine T_region ?_)
  refine TL_callB [0, 1, 5, 2, 3] [4] (by decide) rfl rfl (he1c EntersC.en rfl rfl) (fun w hm hb => putUp_calls g gb 2 q s z w _ _ _ _ 2 (fun _ _ => rfl) hs hb) rfl rfl rfl ?_
  intro z' _
  conv => arg 8; simp only [zA, zB, zC, zD, zE, zF, zG, zH, zI, rowS, ret, id_eq]
  repeat (first
    | refine qv rfl (qp rfl) rfl rfl ?_ | refine TL_nil ?_ | refine T_region ?_)
  exact E_end0 rfl fun w hm => hm.meetsB (S := ⟨fun (_ : Value) => True, fun _ => .tuple #[], fun z' => [eO1 g (s ++ [(2, q)]) z', eO2 (s ++ [(2, q)]) z', blkO g8 #[.func (.func 47) #[] #[.pointer (some ⟨g, 0, none⟩)]] 109, Y2, Y3]⟩) z' trivial [1, 2, 4, 5, 0] (by decide) rfl
end Go.Proofs.Ytkkiopmdcolobaa.eng

/- DownUp -/
namespace Go.Proofs.Ytkkiopmdcolobaa.eng
open Go.RowKit kit mix gramL treeL
set_option maxHeartbeats 4000000 in
theorem down_calls (v vt : Value) (g : Gram) (tr : Tree) (w : World) (h : GraR (fun k => k < w.heap.size) w v g) (ht : TreeR (fun k => k < w.heap.size) w vt tr) (hc : checkT g tr = 0) :
    Calls Try.prog 23 #[v, vt] w (Meets (eS (downE g.prods tr)) w) := by
  have hck := fun w' (hg : Gr w w') => treeCheck_calls v vt g tr w' (h.gr hg) (ht.gr hg)
  rw [hc] at hck
  obtain ⟨c1, c2, c3, c4⟩ := checkT_iff.1 hc
  obtain ⟨vp, rfl, h1, _⟩ := h
  have ht0 := ht
  obtain ⟨vk, rfl, _, _, hk4⟩ := ht
  obtain ⟨bk, ck, rfl, _⟩ := hk4
  obtain ⟨t, n, prods⟩ := g
  dsimp only at *
  have hea := fun g7 g8 ga gb w' B ho hm => each5_calls w t n vp prods h1 (eO1 g7) eO2 (blkO g8 #[.func (.func 43) #[] #[.pointer (some ⟨g7, 0, none⟩)]] 109) (blkO ga #[.int .i64 1] 3) (blkO gb #[.int .i64 3] 3) stepD List.length 44 44 46 #[] #[.pointer (some ⟨g7, 0, none⟩), .pointer (some ⟨ga, 0, none⟩)] #[] #[.pointer (some ⟨g7, 0, none⟩), .pointer (some ⟨gb, 0, none⟩)] #[] #[.pointer (some ⟨g8, 0, none⟩)] EntersC.en EntersC.en EntersC.en
    (fun s z p w B hs hm => putDown_calls g7 ga 1 p s z w B _ _ _ 3 (fun _ _ => rfl) hs hm) (fun s z p w B hs hm => putDown_calls g7 gb 3 p s z w B _ _ _ 4 (fun _ _ => rfl) hs hm) (fun s z p q w B hs hm => leafDown_calls g7 g8 p q s z w B _ _ hs hm)
    (fun s x => by simp [stepD]) (size tr) tr (Nat.le_refl _) (treeV tr.prod tr.tok (.slice bk tr.kids.length ck)) (2, 0) 0 [] (.slice none 0 0) w' B ht0 c2 (right_prod c2) (by have := acts_le prods tr; simp only [List.length_nil]; omega) ho hm
  rw [foldD] at hea
  refine enter (args := [graV t n vp, treeV tr.prod tr.tok (.slice bk tr.kids.length ck)]) (n := 25) Try.func23 rfl rfl rfl ?_
  refine T_seq (T_region (TL_box rfl rfl rfl fun g2 => TL_box rfl rfl rfl fun g3 => ?_))
  conv => arg 8; simp only [zA, zB, zC, zD, zE, zF, zG, zH, zI, rowS, ret, id_eq]
  repeat (first
    | refine qv rfl (qp rfl) rfl rfl ?_ | refine TL_nil ?_ | refine T_seq ?_ | refine T_region ?_ | refine qcT rfl ?_ | refine qcF rfl ?_ | refine T_skip ?_
    | refine T_ret ?_ | refine E_then ?_ | refine E_thenR ?_ | refine qv rfl (rr_loadB (i := 0) TyC.ty rfl rfl rfl) rfl rfl ?_
    | refine qv rfl (rr_loadB (i := 1) TyC.ty rfl rfl rfl) rfl rfl ?_ | refine qv rfl (rr_neq rfl rfl (qT (by omega))) rfl rfl ?_
    | refine qv rfl (rr_neq rfl rfl (qF (by omega))) rfl rfl ?_)
  refine TL_call (he2 EntersC.en rfl rfl rfl) (fun w hm => hck _ hm.below) rfl rfl rfl ?_
  intro _ _
  conv => arg 8; simp only [zA, zB, zC, zD, zE, zF, zG, zH, zI, rowS, ret, id_eq]
  repeat (first
    | refine qv rfl (qp rfl) rfl rfl ?_ | refine TL_nil ?_ | refine T_seq ?_ | refine T_region ?_ | refine qcT rfl ?_ | refine qcF rfl ?_ | refine T_skip ?_
    | refine T_ret ?_ | refine E_then ?_ | refine E_thenR ?_ | refine qv rfl (rr_neq rfl rfl (qT (by omega))) rfl rfl ?_
    | refine qv rfl (rr_neq rfl rfl (qF (by omega))) rfl rfl ?_)
  refine TL_new rfl fun g7 => ?_
  conv => arg 8; simp only [zA, zB, zC, zD, zE, zF, zG, zH, zI, rowS, ret, id_eq]
  repeat (first
    | refine qv rfl (qp rfl) rfl rfl ?_ | refine TL_nil ?_ | refine T_seq ?_ | refine T_region ?_ | refine qcT rfl ?_ | refine qcF rfl ?_ | refine T_skip ?_
    | refine T_ret ?_ | refine E_then ?_ | refine E_thenR ?_ | refine qv rfl (rr_func rfl rfl) rfl rfl ?_
    | refine qv rfl (rr_neq rfl rfl (qT (by omega))) rfl rfl ?_ | refine qv rfl (rr_neq rfl rfl (qF (by omega))) rfl rfl ?_)
  refine TL_new rfl fun g8 => ?_
  refine TL_store1 (i := 3) rfl rfl rfl rfl rfl rfl ?_
  conv => arg 8; simp only [zA, zB, zC, zD, zE, zF, zG, zH, zI, rowS, ret, id_eq]
  repeat (first
    | refine qv rfl (qp rfl) rfl rfl ?_ | refine TL_nil ?_ | refine E_then ?_ | refine qv rfl (rr_neq rfl rfl (qT (by omega))) rfl rfl ?_
    | refine qv rfl (rr_neq rfl rfl (qF (by omega))) rfl rfl ?_)
  (repeat refine T_seq ?_)
  refine T_nil 39 2 ?_
  conv => arg 7; simp only [zA, zB, zC, zD, zE, zF, zG, zH, zI, rowS, ret, id_eq]
  refine T_ord ([blkO g2 (graV t n vp).cells 24, blkO g3 (treeV tr.prod tr.tok (.slice bk tr.kids.length ck)).cells 75, blkO g8 #[.func (.func 43) #[] #[.pointer (some ⟨g7, 0, none⟩)]] 109]) (.calm 0 (.calm 1 (.calm 2 (.calm 4 (.calm 6 (.one 3 (.one 5 (.one 7 (.done))))))))) (sub_pick [0, 1, 3] (by decide) rfl) (by kernel_rfl) (by kernel_rfl) (by intro c a d v w h; cases d <;> exact h) ?_
  repeat (first
    | ((first | refine TW_plain rfl rfl ?_ | refine TW_gmet rfl rfl rfl rfl ?_); first | refine TN_val (qp rfl) rfl rfl ?_ | refine TN_val (rr_loadB (i := 0) TyC.ty rfl rfl rfl) rfl rfl ?_ | refine TN_val (rr_loadB (i := 1) TyC.ty rfl rfl rfl) rfl rfl ?_ | refine TN_val (rr_load1 TyC.ty rfl (at_blk (i := 2) rfl rfl)) rfl rfl ?_ | refine TN_val (rr_func rfl rfl) rfl rfl ?_ | refine TN_val (rr_neq rfl rfl (qT (by omega))) rfl rfl ?_ | refine TN_val (rr_neq rfl rfl (qF (by omega))) rfl rfl ?_)
    | refine TW_done ?_)
  refine TW_one rfl ?_
  refine TL_call (he1c EntersC.en rfl rfl) (fun w hm => kindDown_calls g7 1 w) rfl rfl rfl ?_
  intro ga _
  conv => arg 8; simp only [zA, zB, zC, zD, zE, zF, zG, zH, zI, rowS, ret, id_eq]
  refine TW_on (sub_pick [0, 1, 3] (by decide) rfl) ?_
  refine TW_one rfl ?_
  refine TL_call (he1c EntersC.en rfl rfl) (fun w hm => kindDown_calls g7 3 w) rfl rfl rfl ?_
  intro gb _
  conv => arg 8; simp only [zA, zB, zC, zD, zE, zF, zG, zH, zI, rowS, ret, id_eq]
  refine TW_on (sub_pick [0, 1, 3] (by decide) rfl) ?_
  refine TW_one rfl ?_
  refine TL_callB [2, 4, 3, 5, 6] [0, 1] (by decide) rfl rfl (he5 EntersC.en rfl rfl rfl rfl rfl rfl) (fun w' hm hb => hea g7 g8 ga gb w' _ ((Old.self w).on hm fun o h => pick_mem2 h) hb) rfl rfl rfl ?_
  intro z _
  conv => arg 8; simp only [zA, zB, zC, zD, zE, zF, zG, zH, zI, rowS, ret, id_eq]
  refine TW_on (sub_pick [0, 1, 4] (by decide) rfl) ?_
  repeat (first
    | ((first | refine TW_plain rfl rfl ?_ | refine TW_gmet rfl rfl rfl rfl ?_); first | refine TN_val (qp rfl) rfl rfl ?_ | refine TN_val (rr_neq rfl rfl (qT (by omega))) rfl rfl ?_ | refine TN_val (rr_neq rfl rfl (qF (by omega))) rfl rfl ?_)
    | refine TW_done ?_)
  repeat (first
    | refine qv rfl (qp rfl) rfl rfl ?_ | refine TL_nil ?_ | refine T_seq ?_ | refine T_region ?_ | refine qcT rfl ?_ | refine qcF rfl ?_ | refine T_skip ?_
    | refine T_ret ?_ | refine E_then ?_ | refine E_thenR ?_ | refine qv rfl (rr_load1 TyC.ty rfl (at_blk (i := 2) rfl rfl)) rfl rfl ?_
    | refine qv rfl (rr_neq rfl rfl (qT (by omega))) rfl rfl ?_ | refine qv rfl (rr_neq rfl rfl (qF (by omega))) rfl rfl ?_)
  exact E_ret2 rfl rfl rfl fun w hm => hm.meets (S := eS (downE prods tr)) z trivial [3] (by decide) rfl
set_option maxHeartbeats 4000000 in
theorem up_calls (v vt : Value) (g : Gram) (tr : Tree) (w : World) (h : GraR (fun k => k < w.heap.size) w v g) (ht : TreeR (fun k => k < w.heap.size) w vt tr) (hc : checkT g tr = 0) :
    Calls Try.prog 24 #[v, vt] w (Meets (eS (upE g.prods tr)) w) := by
  have hck := fun w' (hg : Gr w w') => treeCheck_calls v vt g tr w' (h.gr hg) (ht.gr hg)
  rw [hc] at hck
  obtain ⟨c1, c2, c3, c4⟩ := checkT_iff.1 hc
  obtain ⟨vp, rfl, h1, _⟩ := h
  have ht0 := ht
  obtain ⟨vk, rfl, _, _, hk4⟩ := ht
  obtain ⟨bk, ck, rfl, _⟩ := hk4
  obtain ⟨t, n, prods⟩ := g
  dsimp only at *
  have hea := fun g7 g8 ga w' B ho hm => each5_calls w t n vp prods h1 (eO1 g7) eO2 (blkO g8 #[.func (.func 47) #[] #[.pointer (some ⟨g7, 0, none⟩)]] 109) (blkO ga #[.int .i64 4] 3) (kidsO (fun _ => False) (.slice none 0 0) []) stepU List.length 49 48 50 #[] #[] #[] #[.pointer (some ⟨g7, 0, none⟩), .pointer (some ⟨ga, 0, none⟩)] #[] #[.pointer (some ⟨g8, 0, none⟩)] EntersC.en EntersC.en EntersC.en
    (fun s z p w B _ hm => nothing_calls p (fun z => [eO1 g7 s z, eO2 s z, (blkO g8 #[.func (.func 47) #[] #[.pointer (some ⟨g7, 0, none⟩)]] 109), (blkO ga #[.int .i64 4] 3), (kidsO (fun _ => False) (.slice none 0 0) [])]) z w B hm) (fun s z p w B hs hm => putUp_calls g7 ga 4 p s z w B _ _ _ 3 (fun _ _ => rfl) hs hm) (fun s z p q w B hs hm => leafUp_calls g7 g8 p q s z w B _ _ hs hm)
    (fun s x => by cases x <;> simp [stepU, evU]) (size tr) tr (Nat.le_refl _) (treeV tr.prod tr.tok (.slice bk tr.kids.length ck)) (2, 0) 0 [] (.slice none 0 0) w' B ht0 c2 (right_prod c2) (by have := acts_le prods tr; simp only [List.length_nil]; omega) ho hm
  rw [foldU] at hea
  refine enter (args := [graV t n vp, treeV tr.prod tr.tok (.slice bk tr.kids.length ck)]) (n := 23) Try.func24 rfl rfl rfl ?_
  refine T_seq (T_region (TL_box rfl rfl rfl fun g2 => TL_box rfl rfl rfl fun g3 => ?_))
  conv => arg 8; simp only [zA, zB, zC, zD, zE, zF, zG, zH, zI, rowS, ret, id_eq]
  repeat (first
    | refine qv rfl (qp rfl) rfl rfl ?_ | refine TL_nil ?_ | refine T_seq ?_ | refine T_region ?_ | refine qcT rfl ?_ | refine qcF rfl ?_ | refine T_skip ?_
    | refine T_ret ?_ | refine E_then ?_ | refine E_thenR ?_ | refine qv rfl (rr_loadB (i := 0) TyC.ty rfl rfl rfl) rfl rfl ?_
    | refine qv rfl (rr_loadB (i := 1) TyC.ty rfl rfl rfl) rfl rfl ?_ | refine qv rfl (rr_neq rfl rfl (qT (by omega))) rfl rfl ?_
    | refine qv rfl (rr_neq rfl rfl (qF (by omega))) rfl rfl ?_)
  refine TL_call (he2 EntersC.en rfl rfl rfl) (fun w hm => hck _ hm.below) rfl rfl rfl ?_
  intro _ _
  conv => arg 8; simp only [zA, zB, zC, zD, zE, zF, zG, zH, zI, rowS, ret, id_eq]
  repeat (first
    | refine qv rfl (qp rfl) rfl rfl ?_ | refine TL_nil ?_ | refine T_seq ?_ | refine T_region ?_ | refine qcT rfl ?_ | refine qcF rfl ?_ | refine T_skip ?_
    | refine T_ret ?_ | refine E_then ?_ | refine E_thenR ?_ | refine qv rfl (rr_neq rfl rfl (qT (by omega))) rfl rfl ?_
    | refine qv rfl (rr_neq rfl rfl (qF (by omega))) rfl rfl ?_)
  refine TL_new rfl fun g7 => ?_
  conv => arg 8; simp only [zA, zB, zC, zD, zE, zF, zG, zH, zI, rowS, ret, id_eq]
  repeat (first
    | refine qv rfl (qp rfl) rfl rfl ?_ | refine TL_nil ?_ | refine T_seq ?_ | refine T_region ?_ | refine qcT rfl ?_ | refine qcF rfl ?_ | refine T_skip ?_
    | refine T_ret ?_ | refine E_then ?_ | refine E_thenR ?_ | refine qv rfl (rr_func rfl rfl) rfl rfl ?_
    | refine qv rfl (rr_neq rfl rfl (qT (by omega))) rfl rfl ?_ | refine qv rfl (rr_neq rfl rfl (qF (by omega))) rfl rfl ?_)
  refine TL_new rfl fun g8 => ?_
  refine TL_store1 (i := 3) rfl rfl rfl rfl rfl rfl ?_
  conv => arg 8; simp only [zA, zB, zC, zD, zE, zF, zG, zH, zI, rowS, ret, id_eq]
  repeat (first
    | refine qv rfl (qp rfl) rfl rfl ?_ | refine TL_nil ?_ | refine E_then ?_ | refine qv rfl (rr_neq rfl rfl (qT (by omega))) rfl rfl ?_
    | refine qv rfl (rr_neq rfl rfl (qF (by omega))) rfl rfl ?_)
  (repeat refine T_seq ?_)
  refine T_nil 39 2 (T_extra (kidsO (fun _ => False) (.slice none 0 0) []) (fun k hk => hk.elim (fun h => by cases h) id) kidsO_nil ?_)
  conv => arg 7; simp only [zA, zB, zC, zD, zE, zF, zG, zH, zI, rowS, ret, id_eq]
  refine T_ord ([blkO g2 (graV t n vp).cells 24, blkO g3 (treeV tr.prod tr.tok (.slice bk tr.kids.length ck)).cells 75, blkO g8 #[.func (.func 47) #[] #[.pointer (some ⟨g7, 0, none⟩)]] 109]) (.calm 0 (.calm 1 (.calm 2 (.calm 4 (.one 3 (.one 5 (.done))))))) (sub_pick [0, 1, 3] (by decide) rfl) (by kernel_rfl) (by kernel_rfl) (by intro c a d v w h; cases d <;> exact h) ?_
  repeat (first
    | ((first | refine TW_plain rfl rfl ?_ | refine TW_gmet rfl rfl rfl rfl ?_); first | refine TN_val (qp rfl) rfl rfl ?_ | refine TN_val (rr_loadB (i := 0) TyC.ty rfl rfl rfl) rfl rfl ?_ | refine TN_val (rr_loadB (i := 1) TyC.ty rfl rfl rfl) rfl rfl ?_ | refine TN_val (rr_load1 TyC.ty rfl (at_blk (i := 2) rfl rfl)) rfl rfl ?_ | refine TN_val (rr_func rfl rfl) rfl rfl ?_ | refine TN_val (rr_neq rfl rfl (qT (by omega))) rfl rfl ?_ | refine TN_val (rr_neq rfl rfl (qF (by omega))) rfl rfl ?_)
    | refine TW_done ?_)
  refine TW_one rfl ?_
  refine TL_call (he1c EntersC.en rfl rfl) (fun w hm => kindUp_calls g7 4 w) rfl rfl rfl ?_
  intro ga _
  conv => arg 8; simp only [zA, zB, zC, zD, zE, zF, zG, zH, zI, rowS, ret, id_eq]
  refine TW_on (sub_pick [0, 1, 3] (by decide) rfl) ?_
  refine TW_one rfl ?_
  refine TL_callB [2, 4, 3, 6, 5] [0, 1] (by decide) rfl rfl (he5 EntersC.en rfl rfl rfl rfl rfl rfl) (fun w' hm hb => hea g7 g8 ga w' _ ((Old.self w).on hm fun o h => pick_mem2 h) hb) rfl rfl rfl ?_
  intro z _
  conv => arg 8; simp only [zA, zB, zC, zD, zE, zF, zG, zH, zI, rowS, ret, id_eq]
  refine TW_on (sub_pick [0, 1, 4] (by decide) rfl) ?_
  repeat (first
    | ((first | refine TW_plain rfl rfl ?_ | refine TW_gmet rfl rfl rfl rfl ?_); first | refine TN_val (qp rfl) rfl rfl ?_ | refine TN_val (rr_neq rfl rfl (qT (by omega))) rfl rfl ?_ | refine TN_val (rr_neq rfl rfl (qF (by omega))) rfl rfl ?_)
    | refine TW_done ?_)
  repeat (first
    | refine qv rfl (qp rfl) rfl rfl ?_ | refine TL_nil ?_ | refine T_seq ?_ | refine T_region ?_ | refine qcT rfl ?_ | refine qcF rfl ?_ | refine T_skip ?_
    | refine T_ret ?_ | refine E_then ?_ | refine E_thenR ?_ | refine qv rfl (rr_load1 TyC.ty rfl (at_blk (i := 2) rfl rfl)) rfl rfl ?_
    | refine qv rfl (rr_neq rfl rfl (qT (by omega))) rfl rfl ?_ | refine qv rfl (rr_neq rfl rfl (qF (by omega))) rfl rfl ?_)
  exact E_ret2 rfl rfl rfl fun w hm => hm.meets (S := eS (upE prods tr)) z trivial [3] (by decide) rfl
end Go.Proofs.Ytkkiopmdcolobaa.eng

/- EvP -/
namespace Go.Proofs.Ytkkiopmdcolobaa.eng
open Go.RowKit kit mix gramL
theorem eq_evt (f f' : Sym) (w : World) : (Op.equalIn 10000 39 (.agg (symC f).toArray) (.agg (symC f').toArray)).run Try.prog w = .ok (decide (f = f')) w := by
  obtain ⟨k, q⟩ := f
  obtain ⟨k', q'⟩ := f'
  unfold symC
  go_simp
  by_cases e1 : k = k' <;> by_cases e2 : q = q' <;> simp [e1, e2]
end Go.Proofs.Ytkkiopmdcolobaa.eng

/- EvQ -/
namespace Go.Proofs.Ytkkiopmdcolobaa.eng
open Go.RowKit kit mix
theorem EvQ_len (a : gramL.Sym) : (symC a).length = 2 := rfl
set_option maxHeartbeats 2000000 in
theorem equalEvQ_calls (v v' : Value) (l l' : List gramL.Sym) (w : World) (hs : Sl w v l.length (l.flatMap symC)) (hs' : Sl w v' l'.length (l'.flatMap symC)) :
    Calls Try.prog 25 #[v, v'] w (Meets (ret (.bool (decide (l = l')))) w) := by
  obtain ⟨base, cap, rfl, hcap, hmax, hrd⟩ := hs
  obtain ⟨base', cap', rfl, hcap', hmax', hrd'⟩ := hs'
  unfold maxLen at hmax hmax'
  refine enter (args := [.slice base l.length cap, .slice base' l'.length cap']) (n := 26) Try.func25 rfl rfl rfl ?_
  by_cases c1 : l.length = l'.length
  · repeat (first
      | refine qv rfl (qp rfl) rfl rfl ?_ | refine TL_nil ?_ | refine T_seq ?_ | refine T_region ?_ | refine qcT rfl ?_ | refine qcF rfl ?_ | refine T_skip ?_
      | refine T_exit ?_ | refine T_ret ?_ | refine T_block ?_ | refine E_then ?_ | refine E_thenX ?_ | refine E_thenR ?_ | refine E_blockN ?_
      | refine E_blockR ?_ | refine E_blockX ?_ | refine E_blockO rfl ?_ | refine qv rfl (qlen Und.eq rfl) rfl rfl ?_
      | refine qv rfl (rr_lss rfl rfl (qT (by omega))) rfl rfl ?_ | refine qv rfl (rr_lss rfl rfl (qF (by omega))) rfl rfl ?_
      | refine qv rfl (rr_neq rfl rfl (qT (by omega))) rfl rfl ?_ | refine qv rfl (rr_neq rfl rfl (qF (by omega))) rfl rfl ?_
      | refine qv rfl (rr_add64 rfl rfl (by omega) (by omega) rfl) rfl rfl ?_)
    refine T_loop (ι := Nat) (fun k => k ≤ l.length ∧ l.take k = l'.take k) (fun k => [(0, .slice base l.length cap), (1, .slice base' l'.length cap'), (12, .int .i64 l.length), (13, .int .i64 (k : Int))]) (fun _ => []) (fun k => l.length - k) 0 ⟨by omega, rfl⟩ ⟨rfl, rfl, rfl, rfl, trivial⟩ rfl ?_
    rintro k ⟨h1, h2⟩
    by_cases c2 : k < l.length
    · obtain ⟨b, off, rfl, hr⟩ := hrd (by omega)
      obtain ⟨b', off', rfl, hr'⟩ := hrd' (by omega)
      have c2' : k < l'.length := by omega
      have hat := at_el (L := ([] : List Own)) EvQ_len hr c2
      have hat' := at_el (L := ([] : List Own)) EvQ_len hr' c2'
      have heq := eq_evt l[k] l'[k]
      by_cases c3 : l[k] = l'[k]
      · rw [decide_eq_true c3] at heq
        repeat (first
          | refine qv rfl (qp rfl) rfl rfl ?_ | refine TL_nil ?_ | refine T_seq ?_ | refine T_region ?_ | refine qcT rfl ?_ | refine qcF rfl ?_ | refine T_skip ?_
          | refine T_exit ?_ | refine T_ret ?_ | refine T_block ?_ | refine E_then ?_ | refine E_thenX ?_ | refine E_thenR ?_ | refine E_blockN ?_
          | refine E_blockR ?_ | refine E_blockX ?_ | refine E_blockO rfl ?_ | refine qv rfl (qlen Und.eq rfl) rfl rfl ?_
          | refine qv rfl (rr_lss rfl rfl (qT (by omega))) rfl rfl ?_ | refine qv rfl (rr_lss rfl rfl (qF (by omega))) rfl rfl ?_
          | refine qv rfl (rr_neq rfl rfl (qT (by omega))) rfl rfl ?_ | refine qv rfl (rr_neq rfl rfl (qF (by omega))) rfl rfl ?_
          | refine qv rfl (rr_add64 rfl rfl (by omega) (by omega) rfl) rfl rfl ?_)
        refine T_draw 8 (List.replicate 8 true) rfl (by kernel_rfl) (by kernel_rfl) (by intro c a d v w h; cases d <;> exact h) ?_
        repeat (first
          | refine TM_valg rfl (qp rfl) rfl rfl ?_ | refine TM_valg rfl (rr_idxc Und.eq TyC.ty rfl rfl c2) rfl rfl ?_
          | refine TM_valg rfl (rr_idxc Und.eq TyC.ty rfl rfl c2') rfl rfl ?_ | refine TM_valg rfl (rr_loadN TyC.ty rfl rfl hat) rfl rfl ?_
          | refine TM_valg rfl (rr_loadN TyC.ty rfl rfl hat') rfl rfl ?_ | refine TM_valg rfl (qlen Und.eq rfl) rfl rfl ?_
          | refine TM_valg rfl (rr_lss rfl rfl (qT (by omega))) rfl rfl ?_ | refine TM_valg rfl (rr_lss rfl rfl (qF (by omega))) rfl rfl ?_
          | refine TM_valg rfl (rr_neq rfl rfl (qT (by omega))) rfl rfl ?_ | refine TM_valg rfl (rr_neq rfl rfl (qF (by omega))) rfl rfl ?_
          | refine TM_valg rfl (rr_add64 rfl rfl (by omega) (by omega) rfl) rfl rfl ?_ | refine TM_end ?_)
        repeat (first
          | refine qv rfl (qp rfl) rfl rfl ?_ | refine TL_nil ?_ | refine T_seq ?_ | refine T_region ?_ | refine qcT rfl ?_ | refine qcF rfl ?_ | refine T_skip ?_
          | refine T_exit ?_ | refine T_ret ?_ | refine T_block ?_ | refine E_then ?_ | refine E_thenX ?_ | refine E_thenR ?_ | refine E_blockN ?_
          | refine E_blockR ?_ | refine E_blockX ?_ | refine E_blockO rfl ?_ | refine qv rfl (rr_aggne rfl rfl (by kernel_rfl) heq rfl) rfl rfl ?_
          | refine qv rfl (qlen Und.eq rfl) rfl rfl ?_ | refine qv rfl (rr_lss rfl rfl (qT (by omega))) rfl rfl ?_
          | refine qv rfl (rr_lss rfl rfl (qF (by omega))) rfl rfl ?_ | refine qv rfl (rr_neq rfl rfl (qT (by omega))) rfl rfl ?_
          | refine qv rfl (rr_neq rfl rfl (qF (by omega))) rfl rfl ?_ | refine qv rfl (rr_add64 rfl rfl (by omega) (by omega) rfl) rfl rfl ?_)
        exact E_round (k + 1) ⟨by omega, by rw [List.take_succ_eq_append_getElem c2, List.take_succ_eq_append_getElem c2', h2, c3]⟩ (by show l.length - (k + 1) < l.length - k; omega) ⟨rfl, rfl, rfl, rfl, trivial⟩ rfl
      · rw [decide_eq_false c3] at heq
        rw [decide_eq_false (fun h => c3 (by subst h; rfl))]
        repeat (first
          | refine qv rfl (qp rfl) rfl rfl ?_ | refine TL_nil ?_ | refine T_seq ?_ | refine T_region ?_ | refine qcT rfl ?_ | refine qcF rfl ?_ | refine T_skip ?_
          | refine T_exit ?_ | refine T_ret ?_ | refine T_block ?_ | refine E_then ?_ | refine E_thenX ?_ | refine E_thenR ?_ | refine E_blockN ?_
          | refine E_blockR ?_ | refine E_blockX ?_ | refine E_blockO rfl ?_ | refine qv rfl (qlen Und.eq rfl) rfl rfl ?_
          | refine qv rfl (rr_lss rfl rfl (qT (by omega))) rfl rfl ?_ | refine qv rfl (rr_lss rfl rfl (qF (by omega))) rfl rfl ?_
          | refine qv rfl (rr_neq rfl rfl (qT (by omega))) rfl rfl ?_ | refine qv rfl (rr_neq rfl rfl (qF (by omega))) rfl rfl ?_
          | refine qv rfl (rr_add64 rfl rfl (by omega) (by omega) rfl) rfl rfl ?_)
        refine T_draw 8 (List.replicate 8 true) rfl (by kernel_rfl) (by kernel_rfl) (by intro c a d v w h; cases d <;> exact h) ?_
        repeat (first
          | refine TM_valg rfl (qp rfl) rfl rfl ?_ | refine TM_valg rfl (rr_idxc Und.eq TyC.ty rfl rfl c2) rfl rfl ?_
          | refine TM_valg rfl (rr_idxc Und.eq TyC.ty rfl rfl c2') rfl rfl ?_ | refine TM_valg rfl (rr_loadN TyC.ty rfl rfl hat) rfl rfl ?_
          | refine TM_valg rfl (rr_loadN TyC.ty rfl rfl hat') rfl rfl ?_ | refine TM_valg rfl (qlen Und.eq rfl) rfl rfl ?_
          | refine TM_valg rfl (rr_lss rfl rfl (qT (by omega))) rfl rfl ?_ | refine TM_valg rfl (rr_lss rfl rfl (qF (by omega))) rfl rfl ?_
          | refine TM_valg rfl (rr_neq rfl rfl (qT (by omega))) rfl rfl ?_ | refine TM_valg rfl (rr_neq rfl rfl (qF (by omega))) rfl rfl ?_
          | refine TM_valg rfl (rr_add64 rfl rfl (by omega) (by omega) rfl) rfl rfl ?_ | refine TM_end ?_)
        repeat (first
          | refine qv rfl (qp rfl) rfl rfl ?_ | refine TL_nil ?_ | refine T_seq ?_ | refine T_region ?_ | refine qcT rfl ?_ | refine qcF rfl ?_ | refine T_skip ?_
          | refine T_exit ?_ | refine T_ret ?_ | refine T_block ?_ | refine E_then ?_ | refine E_thenX ?_ | refine E_thenR ?_ | refine E_blockN ?_
          | refine E_blockR ?_ | refine E_blockX ?_ | refine E_blockO rfl ?_ | refine qv rfl (rr_aggne rfl rfl (by kernel_rfl) heq rfl) rfl rfl ?_
          | refine qv rfl (qlen Und.eq rfl) rfl rfl ?_ | refine qv rfl (rr_lss rfl rfl (qT (by omega))) rfl rfl ?_
          | refine qv rfl (rr_lss rfl rfl (qF (by omega))) rfl rfl ?_ | refine qv rfl (rr_neq rfl rfl (qT (by omega))) rfl rfl ?_
          | refine qv rfl (rr_neq rfl rfl (qF (by omega))) rfl rfl ?_ | refine qv rfl (rr_add64 rfl rfl (by omega) (by omega) rfl) rfl rfl ?_)
        exact E_ret1 rfl rfl fun w hm => hm.ret
    · have e : l = l' := by
        rw [List.take_of_length_le (by omega), List.take_of_length_le (by omega)] at h2; exact h2
      rw [decide_eq_true e]
      repeat (first
        | refine qv rfl (qp rfl) rfl rfl ?_ | refine TL_nil ?_ | refine T_seq ?_ | refine T_region ?_ | refine qcT rfl ?_ | refine qcF rfl ?_ | refine T_skip ?_
        | refine T_exit ?_ | refine T_ret ?_ | refine T_block ?_ | refine E_then ?_ | refine E_thenX ?_ | refine E_thenR ?_ | refine E_blockN ?_
        | refine E_blockR ?_ | refine E_blockX ?_ | refine E_blockO rfl ?_ | refine qv rfl (qlen Und.eq rfl) rfl rfl ?_
        | refine qv rfl (rr_lss rfl rfl (qT (by omega))) rfl rfl ?_ | refine qv rfl (rr_lss rfl rfl (qF (by omega))) rfl rfl ?_
        | refine qv rfl (rr_neq rfl rfl (qT (by omega))) rfl rfl ?_ | refine qv rfl (rr_neq rfl rfl (qF (by omega))) rfl rfl ?_
        | refine qv rfl (rr_add64 rfl rfl (by omega) (by omega) rfl) rfl rfl ?_)
      exact E_ret1 rfl rfl fun w hm => hm.ret
  · rw [decide_eq_false (fun h => c1 (by rw [h]))]
    repeat (first
      | refine qv rfl (qp rfl) rfl rfl ?_ | refine TL_nil ?_ | refine T_seq ?_ | refine T_region ?_ | refine qcT rfl ?_ | refine qcF rfl ?_ | refine T_skip ?_
      | refine T_exit ?_ | refine T_ret ?_ | refine T_block ?_ | refine E_then ?_ | refine E_thenX ?_ | refine E_thenR ?_ | refine E_blockN ?_
      | refine E_blockR ?_ | refine E_blockX ?_ | refine E_blockO rfl ?_ | refine qv rfl (qlen Und.eq rfl) rfl rfl ?_
      | refine qv rfl (rr_lss rfl rfl (qT (by omega))) rfl rfl ?_ | refine qv rfl (rr_lss rfl rfl (qF (by omega))) rfl rfl ?_
      | refine qv rfl (rr_neq rfl rfl (qT (by omega))) rfl rfl ?_ | refine qv rfl (rr_neq rfl rfl (qF (by omega))) rfl rfl ?_
      | refine qv rfl (rr_add64 rfl rfl (by omega) (by omega) rfl) rfl rfl ?_)
    exact E_ret1 rfl rfl fun w hm => hm.ret
end Go.Proofs.Ytkkiopmdcolobaa.eng

/- CountE -/
namespace Go.Proofs.Ytkkiopmdcolobaa.eng
open Go.RowKit kit mix gramL countL
attribute [local irreducible] Instr.build in
set_option maxHeartbeats 2000000 in
theorem trees_calls (v vw : Value) (g : Gram) (word : List Int) (w : World) (h : GraR (fun k => k < w.heap.size) w v g) (hs : Sl w vw word.length (word.map (.int .i64))) :
    Calls Try.prog 8 #[v, vw] w (Meets (ret (.tuple #[.int .i64 (treesN g word : Int), .int .i64 (checkC g word)])) w) := by
  have hck := fun w' (hg : Gr w w') => checkC_calls v vw g word w' (h.gr hg) (hs.gr hg)
  by_cases c0 : checkC g word = 0
  · have h0 := h
    obtain ⟨vp, rfl, h1, _⟩ := h
    have hfi := fun w' (hg : Gr w w') => filled_calls vp vw g word w' (h0.gr hg) (hs.gr hg) c0
    have hN := fun (c : Chart) hc => treesN_eq (c := c) c0 hc
    obtain ⟨hg, hl, hw⟩ := checkC_ok c0
    rw [c0] at hck ⊢
    obtain ⟨bw, cw, rfl, _⟩ := hs
    obtain ⟨t, n, prods⟩ := g
    dsimp only at *
    refine enter (args := [graV t n vp, .slice bw word.length cw]) (n := 23) Try.func8 rfl rfl rfl ?_
    refine T_seq (T_region (TL_box rfl rfl rfl fun g2 => ?_))
    repeat (first
      | refine qv rfl (qp rfl) rfl rfl ?_ | refine TL_nil ?_ | refine T_seq ?_ | refine T_region ?_ | refine qcT rfl ?_ | refine qcF rfl ?_ | refine T_skip ?_
      | refine T_ret ?_ | refine E_then ?_ | refine E_thenR ?_ | refine qv rfl (rr_loadB (i := 0) TyC.ty rfl rfl rfl) rfl rfl ?_
      | refine qv rfl (qlen Und.eq rfl) rfl rfl ?_ | refine qv rfl (qfld FldC.fld rfl rfl) rfl rfl ?_ | refine qv rfl (rr_nilc rfl) rfl rfl ?_
      | refine qv rfl (rr_neq rfl rfl (qT (by omega))) rfl rfl ?_ | refine qv rfl (rr_neq rfl rfl (qF (by omega))) rfl rfl ?_)
    refine TL_call (he2 EntersC.en rfl rfl rfl) (fun w hm => hck _ hm.below) rfl rfl rfl ?_
    intro _ _
    conv => arg 8; simp only [zA, zB, zC, zD, zE, zF, zG, zH, zI, rowS, ret, id_eq]
    repeat (first
      | refine qv rfl (qp rfl) rfl rfl ?_ | refine TL_nil ?_ | refine T_seq ?_ | refine T_region ?_ | refine qcT rfl ?_ | refine qcF rfl ?_ | refine T_skip ?_
      | refine T_ret ?_ | refine E_then ?_ | refine E_thenR ?_ | refine qv rfl (rr_loadB (i := 0) TyC.ty rfl rfl rfl) rfl rfl ?_
      | refine qv rfl (qlen Und.eq rfl) rfl rfl ?_ | refine qv rfl (qfld FldC.fld rfl rfl) rfl rfl ?_ | refine qv rfl (rr_nilc rfl) rfl rfl ?_
      | refine qv rfl (rr_neq rfl rfl (qT (by omega))) rfl rfl ?_ | refine qv rfl (rr_neq rfl rfl (qF (by omega))) rfl rfl ?_)
    refine TL_call (he2 EntersC.en rfl rfl rfl) (fun w' hm => hfi w' hm.below) rfl rfl rfl ?_
    rintro ⟨gc, gm, c, Bd⟩ ⟨hx, _⟩
    have hN := hN c hx
    conv => arg 8; simp only [zA, zB, zC, zD, zE, zF, zG, zH, zI, rowS, ret, id_eq, filledS]
    repeat (first
      | refine qv rfl (qp rfl) rfl rfl ?_ | refine TL_nil ?_ | refine T_seq ?_ | refine T_region ?_ | refine qcT rfl ?_ | refine qcF rfl ?_ | refine T_skip ?_
      | refine T_ret ?_ | refine E_then ?_ | refine E_thenR ?_ | refine qv rfl (rr_load1 TyC.ty rfl (at_blk (i := 1) rfl rfl)) rfl rfl ?_
      | refine qv rfl (rr_build rfl (build_span _ _ _)) rfl rfl ?_
      | refine qv rfl (rr_lookT (x := (0, 0, (word.length : Int))) (i := 2) spanK Und.eq zero_int rfl rfl rfl (span_ok (m := 0) (a := 0) ⟨by decide, by decide⟩ (by omega) (by omega)) (by rw [hN])) rfl rfl ?_
      | refine qv rfl (qlen Und.eq rfl) rfl rfl ?_ | refine qv rfl (qfld FldC.fld rfl rfl) rfl rfl ?_ | refine qv rfl (rr_nilc rfl) rfl rfl ?_
      | refine qv rfl (rr_neq rfl rfl (qT (by omega))) rfl rfl ?_ | refine qv rfl (rr_neq rfl rfl (qF (by omega))) rfl rfl ?_)
    exact E_ret2 rfl rfl rfl fun w hm => hm.ret
  · have hN : treesN g word = 0 := by unfold treesN; rw [if_neg c0]
    rw [hN]
    obtain ⟨vp, rfl, h1, _⟩ := h
    obtain ⟨bw, cw, rfl, _⟩ := hs
    generalize checkC g word = e at *
    obtain ⟨t, n, prods⟩ := g
    dsimp only at *
    refine enter (args := [graV t n vp, .slice bw word.length cw]) (n := 23) Try.func8 rfl rfl rfl ?_
    refine T_seq (T_region (TL_box rfl rfl rfl fun g2 => ?_))
    repeat (first
      | refine qv rfl (qp rfl) rfl rfl ?_ | refine TL_nil ?_ | refine T_seq ?_ | refine T_region ?_ | refine qcT rfl ?_ | refine qcF rfl ?_ | refine T_skip ?_
      | refine T_ret ?_ | refine E_then ?_ | refine E_thenR ?_ | refine qv rfl (rr_loadB (i := 0) TyC.ty rfl rfl rfl) rfl rfl ?_
      | refine qv rfl (qlen Und.eq rfl) rfl rfl ?_ | refine qv rfl (qfld FldC.fld rfl rfl) rfl rfl ?_ | refine qv rfl (rr_nilc rfl) rfl rfl ?_
      | refine qv rfl (rr_neq rfl rfl (qT (by omega))) rfl rfl ?_ | refine qv rfl (rr_neq rfl rfl (qF (by omega))) rfl rfl ?_)
    refine TL_call (he2 EntersC.en rfl rfl rfl) (fun w hm => hck _ hm.below) rfl rfl rfl ?_
    intro _ _
    repeat (first
      | refine qv rfl (qp rfl) rfl rfl ?_ | refine TL_nil ?_ | refine T_seq ?_ | refine T_region ?_ | refine qcT rfl ?_ | refine qcF rfl ?_ | refine T_skip ?_
      | refine T_ret ?_ | refine E_then ?_ | refine E_thenR ?_ | refine qv rfl (qlen Und.eq rfl) rfl rfl ?_ | refine qv rfl (qfld FldC.fld rfl rfl) rfl rfl ?_
      | refine qv rfl (rr_nilc rfl) rfl rfl ?_ | refine qv rfl (rr_neq rfl rfl (qT (by omega))) rfl rfl ?_
      | refine qv rfl (rr_neq rfl rfl (qF (by omega))) rfl rfl ?_)
    exact E_ret2 rfl rfl rfl fun w hm => hm.ret
end Go.Proofs.Ytkkiopmdcolobaa.eng

/- ReadD -/
namespace Go.Proofs.Ytkkiopmdcolobaa.eng
open Go.RowKit kit mix gramL treeL
theorem build_tree0 (w : World) : (Instr.build 75 (#[] : Array (Nat × Value))).run Try.prog w = .ok (treeV 0 0 (.slice none 0 0)) w := by
  unfold treeV; go_simp
end Go.Proofs.Ytkkiopmdcolobaa.eng

