/- The walk of RexAlgebra. -/
import Derived.Test.YtbiacehgfmgfdaaDoorRexW
namespace Go.Proofs.YtbiacehgfmgfdaaDoor.rexAlgebra
open Go.RowKit kit mix eng classL rexL classSets
set_option maxRecDepth 100000 in
set_option maxHeartbeats 8000000 in
theorem walk (w : World) (hT : TabW w) (v : Value) (r : Rx) (hv : RexR (Low w) w v r) (v' : Value) (q : Rx) (hv' : RexR (Low w) w v' q) (s : List UInt8) (hs : s.length ≤ 140737488351232) :
    Calls Tryd.prog 6 #[v, v', str s] w (Meets (ret (.bool true)) w) := by
  have hlaw := alg_law r q s
  have hs1 : ([97, 97, 97] : List UInt8).length ≤ 9223372036854775807 := by simp
  have hs2 : s.length ≤ 9223372036854775807 := by omega
  have hi1 := fun c w' hT' g h => is_calls (rexV 6 C4.zero (.slice (some ⟨g, 0, none⟩) 1 1)) (.mk 6 C4.zero [.mk 3 c []]) [97, 97, 97] w' hT' h hs1
  have hi1 := hi1 (rangeF 97 97)
  rw [aaa_law] at hi1
  have hl := fun w => letter_calls 97 w ⟨by decide, by decide⟩
  have hr0 := hv
  have hq0 := hv'
  obtain ⟨kr, cr, lr⟩ := r
  obtain ⟨kq, cq, lq⟩ := q
  obtain ⟨vk, rfl, hk1, hks⟩ := hv
  obtain ⟨br, capr, rfl, -⟩ := hks
  obtain ⟨vk', rfl, hk2, hks'⟩ := hv'
  obtain ⟨bq, capq, rfl, -⟩ := hks'
  dsimp only [Rx.kind, Rx.cls, Rx.kids] at hr0 hq0 ⊢
  have i1 := fun w' hT' g h => is_calls (rexV 5 C4.zero (.slice (some ⟨g, 0, none⟩) 2 2)) (.mk 5 C4.zero [.mk kr cr lr, .mk kq cq lq]) s w' hT' h hs2
  have i2 := fun w' hT' g h => is_calls (rexV 5 C4.zero (.slice (some ⟨g, 0, none⟩) 2 2)) (.mk 5 C4.zero [.mk kq cq lq, .mk kr cr lr]) s w' hT' h hs2
  have i3 := fun w' hT' h => is_calls _ _ s w' hT' (hr0.gr h) hs2
  have i4 := fun w' hT' h => is_calls _ _ s w' hT' (hq0.gr h) hs2
  have i5 := fun w' hT' g h => is_calls (rexV 4 C4.zero (.slice (some ⟨g, 0, none⟩) 2 2)) (.mk 4 C4.zero [.mk kr cr lr, .mk 2 C4.zero []]) s w' hT' h hs2
  have i6 := fun w' hT' g h => is_calls (rexV 4 C4.zero (.slice (some ⟨g, 0, none⟩) 2 2)) (.mk 4 C4.zero [.mk kr cr lr, .mk 1 C4.zero []]) s w' hT' h hs2
  generalize isF (.mk 5 C4.zero [.mk kr cr lr, .mk kq cq lq]) s = z1 at *
  generalize isF (.mk 5 C4.zero [.mk kq cq lq, .mk kr cr lr]) s = z2 at *
  generalize isF (.mk kr cr lr) s = z3 at *
  generalize isF (.mk kq cq lq) s = z4 at *
  generalize isF (.mk 4 C4.zero [.mk kr cr lr, .mk 2 C4.zero []]) s = z5 at *
  generalize isF (.mk 4 C4.zero [.mk kr cr lr, .mk 1 C4.zero []]) s = z6 at *
  generalize rangeF 97 97 = c97 at *
  obtain ⟨a, b1⟩ := z1
  obtain ⟨b, b2⟩ := z2
  obtain ⟨x, b3⟩ := z3
  obtain ⟨y, b4⟩ := z4
  obtain ⟨c, b5⟩ := z5
  obtain ⟨d, b6⟩ := z6
  dsimp only at hlaw hi1 i1 i2 i3 i4 i5 i6
  have ok5 : kit.okI64 5 := ⟨by decide, by decide⟩
  have ok4 : kit.okI64 4 := ⟨by decide, by decide⟩
  have ok3 : kit.okI64 3 := ⟨by decide, by decide⟩
  have ok2 : kit.okI64 2 := ⟨by decide, by decide⟩
  have ok1 : kit.okI64 1 := ⟨by decide, by decide⟩
  have hb2 := build_rexK 2
  have hb1 := build_rexK 1
  generalize lr.length = nr at *
  generalize lq.length = nq at *
  refine enter (args := [rexV kr cr (.slice br nr capr), rexV kq cq (.slice bq nq capq), str s]) (n := 111) Tryd.func6 rfl rfl rfl ?_
  refine T_seq (T_region (TL_box rfl rfl rfl fun g3 => TL_box rfl rfl rfl fun g4 => ?_))
  conv => arg 8; simp only [zA, zB, zC, zD, zE, zF, zG, zH, zI, rowS, ret, id_eq]
  repeat (first
    | refine qv rfl (qp rfl) rfl rfl ?_ | refine TL_nil ?_ | refine T_seq ?_ | refine T_region ?_ | refine qcT rfl ?_ | refine qcF rfl ?_ | refine T_skip ?_
    | refine T_ret ?_ | refine E_then ?_ | refine E_thenR ?_ | refine qs rfl rfl rfl rfl rfl rfl ?_
    | ((try refine qg rfl rfl rfl ?_); first | refine qv rfl (qp rfl) rfl rfl ?_ | refine qv rfl (rr_not rfl rfl) rfl rfl ?_))
  refine TL_call (he1 EntersC.en rfl rfl) (fun w hm => hl _) rfl rfl rfl ?_
  intro _ _
  conv => arg 8; simp only [zA, zB, zC, zD, zE, zF, zG, zH, zI, rowS, ret, id_eq]
  refine TL_call (he1 EntersC.en rfl rfl) (fun w hm => star_calls _ _ _ _ _ w) rfl rfl rfl ?_
  intro g _
  conv => arg 8; simp only [zA, zB, zC, zD, zE, zF, zG, zH, zI, rowS, ret, id_eq, starS]
  refine TL_call (he2 EntersC.en rfl rfl rfl) (fun w hm => hi1 w (hT.up hm) g (star_rexK (hm.get (i := 2) rfl) (leaf_rex ok3))) rfl rfl rfl ?_
  intro _ _
  refine TL_pick [0, 1] (by decide) rfl ?_
  repeat (first
    | refine qv rfl (qp rfl) rfl rfl ?_ | refine TL_nil ?_ | refine T_seq ?_ | refine T_region ?_ | refine qcT rfl ?_ | refine qcF rfl ?_ | refine T_skip ?_
    | refine T_ret ?_ | refine E_then ?_ | refine E_thenR ?_ | refine qs rfl rfl rfl rfl rfl rfl ?_
    | ((try refine qg rfl rfl rfl ?_); first | refine qv rfl (qp rfl) rfl rfl ?_ | refine qv rfl (rr_loadB (i := 0) TyC.ty rfl rfl rfl) rfl rfl ?_ | refine qv rfl (rr_loadB (i := 1) TyC.ty rfl rfl rfl) rfl rfl ?_ | refine qv rfl (rr_not rfl rfl) rfl rfl ?_))
  refine TL_call (he3 EntersC.en rfl rfl rfl rfl) (fun w hm => two_calls 5 _ _ _ _ _ _ _ _ _ _ w) rfl rfl rfl ?_
  intro g _
  conv => arg 8; simp only [zA, zB, zC, zD, zE, zF, zG, zH, zI, rowS, ret, id_eq, twoS]
  repeat (first
    | refine qv rfl (qp rfl) rfl rfl ?_ | refine TL_nil ?_ | refine T_seq ?_ | refine T_region ?_ | refine qcT rfl ?_ | refine qcF rfl ?_ | refine T_skip ?_
    | refine T_ret ?_ | refine E_then ?_ | refine E_thenR ?_ | refine qs rfl rfl rfl rfl rfl rfl ?_
    | ((try refine qg rfl rfl rfl ?_); first | refine qv rfl (qp rfl) rfl rfl ?_ | refine qv rfl (rr_not rfl rfl) rfl rfl ?_))
  refine TL_call (he2 EntersC.en rfl rfl rfl) (fun w hm => i1 w (hT.up hm) g (two_rexK ok5 (hm.get (i := 2) rfl) (hr0.gr hm.below) (hq0.gr hm.below))) rfl rfl rfl ?_
  intro _ _
  refine TL_pick [0, 1] (by decide) rfl ?_
  repeat (first
    | refine qv rfl (qp rfl) rfl rfl ?_ | refine TL_nil ?_ | refine T_seq ?_ | refine T_region ?_ | refine qcT rfl ?_ | refine qcF rfl ?_ | refine T_skip ?_
    | refine T_ret ?_ | refine E_then ?_ | refine E_thenR ?_ | refine qs rfl rfl rfl rfl rfl rfl ?_
    | ((try refine qg rfl rfl rfl ?_); first | refine qv rfl (qp rfl) rfl rfl ?_ | refine qv rfl (rr_loadB (i := 0) TyC.ty rfl rfl rfl) rfl rfl ?_ | refine qv rfl (rr_loadB (i := 1) TyC.ty rfl rfl rfl) rfl rfl ?_ | refine qv rfl (rr_not rfl rfl) rfl rfl ?_))
  refine TL_call (he3 EntersC.en rfl rfl rfl rfl) (fun w hm => two_calls 5 _ _ _ _ _ _ _ _ _ _ w) rfl rfl rfl ?_
  intro g _
  conv => arg 8; simp only [zA, zB, zC, zD, zE, zF, zG, zH, zI, rowS, ret, id_eq, twoS]
  repeat (first
    | refine qv rfl (qp rfl) rfl rfl ?_ | refine TL_nil ?_ | refine T_seq ?_ | refine T_region ?_ | refine qcT rfl ?_ | refine qcF rfl ?_ | refine T_skip ?_
    | refine T_ret ?_ | refine E_then ?_ | refine E_thenR ?_ | refine qs rfl rfl rfl rfl rfl rfl ?_
    | ((try refine qg rfl rfl rfl ?_); first | refine qv rfl (qp rfl) rfl rfl ?_ | refine qv rfl (rr_not rfl rfl) rfl rfl ?_))
  refine TL_call (he2 EntersC.en rfl rfl rfl) (fun w hm => i2 w (hT.up hm) g (two_rexK ok5 (hm.get (i := 2) rfl) (hq0.gr hm.below) (hr0.gr hm.below))) rfl rfl rfl ?_
  intro _ _
  refine TL_pick [0, 1] (by decide) rfl ?_
  repeat (first
    | refine qv rfl (qp rfl) rfl rfl ?_ | refine TL_nil ?_ | refine T_seq ?_ | refine T_region ?_ | refine qcT rfl ?_ | refine qcF rfl ?_ | refine T_skip ?_
    | refine T_ret ?_ | refine E_then ?_ | refine E_thenR ?_ | refine qs rfl rfl rfl rfl rfl rfl ?_
    | ((try refine qg rfl rfl rfl ?_); first | refine qv rfl (qp rfl) rfl rfl ?_ | refine qv rfl (rr_loadB (i := 0) TyC.ty rfl rfl rfl) rfl rfl ?_ | refine qv rfl (rr_not rfl rfl) rfl rfl ?_))
  refine TL_call (he2 EntersC.en rfl rfl rfl) (fun w hm => i3 w (hT.up hm) hm.below) rfl rfl rfl ?_
  intro _ _
  repeat (first
    | refine qv rfl (qp rfl) rfl rfl ?_ | refine TL_nil ?_ | refine T_seq ?_ | refine T_region ?_ | refine qcT rfl ?_ | refine qcF rfl ?_ | refine T_skip ?_
    | refine T_ret ?_ | refine E_then ?_ | refine E_thenR ?_ | refine qs rfl rfl rfl rfl rfl rfl ?_
    | ((try refine qg rfl rfl rfl ?_); first | refine qv rfl (qp rfl) rfl rfl ?_ | refine qv rfl (rr_loadB (i := 1) TyC.ty rfl rfl rfl) rfl rfl ?_ | refine qv rfl (rr_not rfl rfl) rfl rfl ?_))
  refine TL_call (he2 EntersC.en rfl rfl rfl) (fun w hm => i4 w (hT.up hm) hm.below) rfl rfl rfl ?_
  intro _ _
  repeat (first
    | refine qv rfl (qp rfl) rfl rfl ?_ | refine TL_nil ?_ | refine T_seq ?_ | refine T_region ?_ | refine qcT rfl ?_ | refine qcF rfl ?_ | refine T_skip ?_
    | refine T_ret ?_ | refine E_then ?_ | refine E_thenR ?_ | refine qs rfl rfl rfl rfl rfl rfl ?_
    | ((try refine qg rfl rfl rfl ?_); first | refine qv rfl (qp rfl) rfl rfl ?_ | refine qv rfl (rr_loadB (i := 0) TyC.ty rfl rfl rfl) rfl rfl ?_ | refine qv rfl (rr_build rfl hb2) rfl rfl ?_ | refine qv rfl (rr_not rfl rfl) rfl rfl ?_))
  refine TL_call (he3 EntersC.en rfl rfl rfl rfl) (fun w hm => two_calls 4 _ _ _ _ _ _ _ _ _ _ w) rfl rfl rfl ?_
  intro g _
  conv => arg 8; simp only [zA, zB, zC, zD, zE, zF, zG, zH, zI, rowS, ret, id_eq, twoS]
  repeat (first
    | refine qv rfl (qp rfl) rfl rfl ?_ | refine TL_nil ?_ | refine T_seq ?_ | refine T_region ?_ | refine qcT rfl ?_ | refine qcF rfl ?_ | refine T_skip ?_
    | refine T_ret ?_ | refine E_then ?_ | refine E_thenR ?_ | refine qs rfl rfl rfl rfl rfl rfl ?_
    | ((try refine qg rfl rfl rfl ?_); first | refine qv rfl (qp rfl) rfl rfl ?_ | refine qv rfl (rr_not rfl rfl) rfl rfl ?_))
  refine TL_call (he2 EntersC.en rfl rfl rfl) (fun w hm => i5 w (hT.up hm) g (two_rexK ok4 (hm.get (i := 2) rfl) (hr0.gr hm.below) (leaf_rex ok2))) rfl rfl rfl ?_
  intro _ _
  refine TL_pick [0, 1] (by decide) rfl ?_
  repeat (first
    | refine qv rfl (qp rfl) rfl rfl ?_ | refine TL_nil ?_ | refine T_seq ?_ | refine T_region ?_ | refine qcT rfl ?_ | refine qcF rfl ?_ | refine T_skip ?_
    | refine T_ret ?_ | refine E_then ?_ | refine E_thenR ?_ | refine qs rfl rfl rfl rfl rfl rfl ?_
    | ((try refine qg rfl rfl rfl ?_); first | refine qv rfl (qp rfl) rfl rfl ?_ | refine qv rfl (rr_loadB (i := 0) TyC.ty rfl rfl rfl) rfl rfl ?_ | refine qv rfl (rr_build rfl hb1) rfl rfl ?_ | refine qv rfl (rr_not rfl rfl) rfl rfl ?_))
  refine TL_call (he3 EntersC.en rfl rfl rfl rfl) (fun w hm => two_calls 4 _ _ _ _ _ _ _ _ _ _ w) rfl rfl rfl ?_
  intro g _
  conv => arg 8; simp only [zA, zB, zC, zD, zE, zF, zG, zH, zI, rowS, ret, id_eq, twoS]
  repeat (first
    | refine qv rfl (qp rfl) rfl rfl ?_ | refine TL_nil ?_ | refine T_seq ?_ | refine T_region ?_ | refine qcT rfl ?_ | refine qcF rfl ?_ | refine T_skip ?_
    | refine T_ret ?_ | refine E_then ?_ | refine E_thenR ?_ | refine qs rfl rfl rfl rfl rfl rfl ?_
    | ((try refine qg rfl rfl rfl ?_); first | refine qv rfl (qp rfl) rfl rfl ?_ | refine qv rfl (rr_not rfl rfl) rfl rfl ?_))
  refine TL_call (he2 EntersC.en rfl rfl rfl) (fun w hm => i6 w (hT.up hm) g (two_rexK ok4 (hm.get (i := 2) rfl) (hr0.gr hm.below) (leaf_rex ok1))) rfl rfl rfl ?_
  intro _ _
  refine TL_pick [0, 1] (by decide) rfl ?_
  clear i1 i2 i3 i4 i5 i6 hi1 hl hr0 hq0
  cases b1 with
  | true =>
    repeat (first
      | refine qv rfl (qp rfl) rfl rfl ?_ | refine TL_nil ?_ | refine T_seq ?_ | refine T_region ?_ | refine qcT rfl ?_ | refine qcF rfl ?_ | refine T_skip ?_
      | refine T_ret ?_ | refine E_then ?_ | refine E_thenR ?_ | refine qs rfl rfl rfl rfl rfl rfl ?_
      | ((try refine qg rfl rfl rfl ?_); first | refine qv rfl (qp rfl) rfl rfl ?_ | refine qv rfl (rr_not rfl rfl) rfl rfl ?_ | refine qv rfl (rr_booleq (c := true) Und.eq rfl rfl rfl) rfl rfl ?_))
    exact E_ret1e rfl rfl rfl
  | false =>
    cases b2 with
    | true =>
      repeat (first
        | refine qv rfl (qp rfl) rfl rfl ?_ | refine TL_nil ?_ | refine T_seq ?_ | refine T_region ?_ | refine qcT rfl ?_ | refine qcF rfl ?_ | refine T_skip ?_
        | refine T_ret ?_ | refine E_then ?_ | refine E_thenR ?_ | refine qs rfl rfl rfl rfl rfl rfl ?_
        | ((try refine qg rfl rfl rfl ?_); first | refine qv rfl (qp rfl) rfl rfl ?_ | refine qv rfl (rr_not rfl rfl) rfl rfl ?_ | refine qv rfl (rr_booleq (c := true) Und.eq rfl rfl rfl) rfl rfl ?_))
      exact E_ret1e rfl rfl rfl
    | false =>
      cases b3 with
      | true =>
        repeat (first
          | refine qv rfl (qp rfl) rfl rfl ?_ | refine TL_nil ?_ | refine T_seq ?_ | refine T_region ?_ | refine qcT rfl ?_ | refine qcF rfl ?_ | refine T_skip ?_
          | refine T_ret ?_ | refine E_then ?_ | refine E_thenR ?_ | refine qs rfl rfl rfl rfl rfl rfl ?_
          | ((try refine qg rfl rfl rfl ?_); first | refine qv rfl (qp rfl) rfl rfl ?_ | refine qv rfl (rr_not rfl rfl) rfl rfl ?_ | refine qv rfl (rr_booleq (c := true) Und.eq rfl rfl rfl) rfl rfl ?_))
        exact E_ret1e rfl rfl rfl
      | false =>
        cases b4 with
        | true =>
          repeat (first
            | refine qv rfl (qp rfl) rfl rfl ?_ | refine TL_nil ?_ | refine T_seq ?_ | refine T_region ?_ | refine qcT rfl ?_ | refine qcF rfl ?_ | refine T_skip ?_
            | refine T_ret ?_ | refine E_then ?_ | refine E_thenR ?_ | refine qs rfl rfl rfl rfl rfl rfl ?_
            | ((try refine qg rfl rfl rfl ?_); first | refine qv rfl (qp rfl) rfl rfl ?_ | refine qv rfl (rr_not rfl rfl) rfl rfl ?_ | refine qv rfl (rr_booleq (c := true) Und.eq rfl rfl rfl) rfl rfl ?_))
          exact E_ret1e rfl rfl rfl
        | false =>
          cases b5 with
          | true =>
            repeat (first
              | refine qv rfl (qp rfl) rfl rfl ?_ | refine TL_nil ?_ | refine T_seq ?_ | refine T_region ?_ | refine qcT rfl ?_ | refine qcF rfl ?_ | refine T_skip ?_
              | refine T_ret ?_ | refine E_then ?_ | refine E_thenR ?_ | refine qs rfl rfl rfl rfl rfl rfl ?_
              | ((try refine qg rfl rfl rfl ?_); first | refine qv rfl (qp rfl) rfl rfl ?_ | refine qv rfl (rr_not rfl rfl) rfl rfl ?_ | refine qv rfl (rr_booleq (c := true) Und.eq rfl rfl rfl) rfl rfl ?_))
            exact E_ret1e rfl rfl rfl
          | false =>
            cases b6 with
            | true =>
              repeat (first
                | refine qv rfl (qp rfl) rfl rfl ?_ | refine TL_nil ?_ | refine T_seq ?_ | refine T_region ?_ | refine qcT rfl ?_ | refine qcF rfl ?_ | refine T_skip ?_
                | refine T_ret ?_ | refine E_then ?_ | refine E_thenR ?_ | refine qs rfl rfl rfl rfl rfl rfl ?_
                | ((try refine qg rfl rfl rfl ?_); first | refine qv rfl (qp rfl) rfl rfl ?_ | refine qv rfl (rr_not rfl rfl) rfl rfl ?_ | refine qv rfl (rr_booleq (c := true) Und.eq rfl rfl rfl) rfl rfl ?_))
              exact E_ret1e rfl rfl rfl
            | false =>
              obtain ⟨rfl, rfl, rfl, rfl⟩ : a = b ∧ c = x ∧ a = (x || y) ∧ d = false := by
                rcases hlaw with h | ⟨h1, h2, h3, h4⟩
                · cases h
                · exact ⟨h1, h3, h2, h4⟩
              cases c with
              | true =>
                cases y with
                | true =>
                  repeat (first
                    | refine qv rfl (qp rfl) rfl rfl ?_ | refine TL_nil ?_ | refine T_seq ?_ | refine T_region ?_ | refine qcT rfl ?_ | refine qcF rfl ?_ | refine T_skip ?_
                    | refine T_ret ?_ | refine E_then ?_ | refine E_thenR ?_ | refine qs rfl rfl rfl rfl rfl rfl ?_
                    | ((try refine qg rfl rfl rfl ?_); first | refine qv rfl (qp rfl) rfl rfl ?_ | refine qv rfl (rr_not rfl rfl) rfl rfl ?_ | refine qv rfl (rr_booleq (c := true) Und.eq rfl rfl rfl) rfl rfl ?_))
                  exact E_ret1e rfl rfl rfl
                | false =>
                  repeat (first
                    | refine qv rfl (qp rfl) rfl rfl ?_ | refine TL_nil ?_ | refine T_seq ?_ | refine T_region ?_ | refine qcT rfl ?_ | refine qcF rfl ?_ | refine T_skip ?_
                    | refine T_ret ?_ | refine E_then ?_ | refine E_thenR ?_ | refine qs rfl rfl rfl rfl rfl rfl ?_
                    | ((try refine qg rfl rfl rfl ?_); first | refine qv rfl (qp rfl) rfl rfl ?_ | refine qv rfl (rr_not rfl rfl) rfl rfl ?_ | refine qv rfl (rr_booleq (c := true) Und.eq rfl rfl rfl) rfl rfl ?_))
                  exact E_ret1e rfl rfl rfl
              | false =>
                cases y with
                | true =>
                  repeat (first
                    | refine qv rfl (qp rfl) rfl rfl ?_ | refine TL_nil ?_ | refine T_seq ?_ | refine T_region ?_ | refine qcT rfl ?_ | refine qcF rfl ?_ | refine T_skip ?_
                    | refine T_ret ?_ | refine E_then ?_ | refine E_thenR ?_ | refine qs rfl rfl rfl rfl rfl rfl ?_
                    | ((try refine qg rfl rfl rfl ?_); first | refine qv rfl (qp rfl) rfl rfl ?_ | refine qv rfl (rr_not rfl rfl) rfl rfl ?_ | refine qv rfl (rr_booleq (c := true) Und.eq rfl rfl rfl) rfl rfl ?_))
                  exact E_ret1e rfl rfl rfl
                | false =>
                  repeat (first
                    | refine qv rfl (qp rfl) rfl rfl ?_ | refine TL_nil ?_ | refine T_seq ?_ | refine T_region ?_ | refine qcT rfl ?_ | refine qcF rfl ?_ | refine T_skip ?_
                    | refine T_ret ?_ | refine E_then ?_ | refine E_thenR ?_ | refine qs rfl rfl rfl rfl rfl rfl ?_
                    | ((try refine qg rfl rfl rfl ?_); first | refine qv rfl (qp rfl) rfl rfl ?_ | refine qv rfl (rr_not rfl rfl) rfl rfl ?_ | refine qv rfl (rr_booleq (c := true) Und.eq rfl rfl rfl) rfl rfl ?_))
                  exact E_ret1e rfl rfl rfl
end Go.Proofs.YtbiacehgfmgfdaaDoor.rexAlgebra
