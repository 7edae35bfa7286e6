/- The walk of RexStars. -/
import Derived.Test.YtbiacehgfmgfdaaDoorRexV
namespace Go.Proofs.YtbiacehgfmgfdaaDoor.rexStars
open Go.RowKit kit mix eng classL rexL classSets
set_option maxRecDepth 100000 in
set_option maxHeartbeats 8000000 in
theorem walk (w : World) (hT : TabW w) (v : Value) (r : Rx) (hv : RexR (Low w) w v r) (s : List UInt8) (hs : s.length ≤ 140737488351232) :
    Calls Tryd.prog 8 #[v, str s] w (Meets (ret (.bool true)) w) := by
  have hs1 : ([] : List UInt8).length ≤ 9223372036854775807 := by simp
  have hi1 := fun c w' hT' g h => is_calls (rexV 6 C4.zero (.slice (some ⟨g, 0, none⟩) 1 1)) (.mk 6 C4.zero [.mk 3 c []]) [] w' hT' h hs1
  have hi1 := hi1 (rangeF 97 97)
  rw [nil_law] at hi1
  dsimp only at hi1
  have hl := fun w => letter_calls 97 w ⟨by decide, by decide⟩
  have hr0 := hv
  obtain ⟨kr, cr, lr⟩ := r
  obtain ⟨vk, rfl, hk1, hks⟩ := hv
  obtain ⟨br, capr, rfl, -⟩ := hks
  dsimp only [Rx.kind, Rx.cls, Rx.kids] at hr0 ⊢
  have hS := cut60_len s
  have i1 := fun w' hT' g h => is_calls (rexV 6 C4.zero (.slice (some ⟨g, 0, none⟩) 1 1)) (.mk 6 C4.zero [.mk kr cr lr]) (cut60 s) w' hT' h (by omega)
  have i2 := fun w' hT' g h => is_calls (rexV 6 C4.zero (.slice (some ⟨g, 0, none⟩) 1 1)) (.mk 6 C4.zero [.mk 6 C4.zero [.mk kr cr lr]]) (cut60 s) w' hT' h (by omega)
  have i3 := fun u (hu : u.length ≤ 60) w' hT' h => is_calls _ _ u w' hT' (hr0.gr h) (by omega)
  have i4 := fun u (hu : u.length ≤ 60) w' hT' g h => is_calls (rexV 6 C4.zero (.slice (some ⟨g, 0, none⟩) 1 1)) (.mk 6 C4.zero [.mk kr cr lr]) u w' hT' h (by omega)
  have hst := star_ok (r := .mk kr cr lr) (s := cut60 s)
  have hst2 := fun x hx => star2_ok (r := .mk kr cr lr) (s := cut60 s) (x := x) hx
  generalize isF (.mk 6 C4.zero [.mk kr cr lr]) (cut60 s) = z1 at *
  generalize isF (.mk 6 C4.zero [.mk 6 C4.zero [.mk kr cr lr]]) (cut60 s) = z2 at *
  generalize rangeF 97 97 = c97 at *
  obtain ⟨a, b1⟩ := z1
  obtain ⟨b, b2⟩ := z2
  dsimp only at i1 i2 hst hst2
  have ok3 : kit.okI64 3 := ⟨by decide, by decide⟩
  generalize hnr : lr.length = nr at *
  refine enter (args := [rexV kr cr (.slice br nr capr), str s]) (n := 90) Tryd.func8 rfl rfl rfl ?_
  refine T_seq (T_region (TL_box rfl rfl rfl fun g2 => ?_))
  conv => arg 8; simp only [zA, zB, zC, zD, zE, zF, zG, zH, zI, rowS, ret, id_eq]
  repeat (first
    | refine qv rfl (qp rfl) rfl rfl ?_ | refine TL_nil ?_ | refine T_seq ?_ | refine T_region ?_ | refine qcT rfl ?_ | refine qcF rfl ?_ | refine T_skip ?_
    | refine T_exit ?_ | refine T_ret ?_ | refine T_block ?_ | refine E_then ?_ | refine E_thenX ?_ | refine E_thenR ?_ | refine E_blockN ?_
    | refine E_blockR ?_ | refine E_blockX ?_ | refine E_blockO rfl ?_ | refine qs rfl rfl rfl rfl rfl rfl ?_
    | ((try refine qg rfl rfl rfl ?_); first | refine qv rfl (qp rfl) rfl rfl ?_ | refine qv rfl (rr_strlen Und.eq rfl) rfl rfl ?_ | refine qv rfl (rr_not rfl rfl) rfl rfl ?_ | refine qv rfl (rr_leq rfl rfl (qT (by omega))) rfl rfl ?_ | refine qv rfl (rr_leq rfl rfl (qF (by omega))) rfl rfl ?_ | refine qv rfl (rr_gtr rfl rfl (qT (by omega))) rfl rfl ?_ | refine qv rfl (rr_gtr rfl rfl (qF (by omega))) rfl rfl ?_ | refine qv rfl (rr_add64 rfl rfl (by omega) (by omega) rfl) rfl rfl ?_))
  refine TL_call (he1 EntersC.en rfl rfl) (fun w hm => hl _) rfl rfl rfl ?_
  intro _ _
  conv => arg 8; simp only [zA, zB, zC, zD, zE, zF, zG, zH, zI, rowS, ret, id_eq]
  refine TL_call (he1 EntersC.en rfl rfl) (fun w hm => star_calls _ _ _ _ _ w) rfl rfl rfl ?_
  intro g _
  conv => arg 8; simp only [zA, zB, zC, zD, zE, zF, zG, zH, zI, rowS, ret, id_eq, starS]
  refine TL_call (he2 EntersC.en rfl rfl rfl) (fun w hm => hi1 w (hT.up hm) g (star_rexK (hm.get (i := 1) rfl) (leaf_rex ok3))) rfl rfl rfl ?_
  intro _ _
  refine TL_pick [0] (by decide) rfl ?_
  by_cases cl : 60 < s.length
  · have e : cut60 s = s.take 60 := if_pos cl
    rw [e] at hS i1 i2 hst hst2
    repeat (first
      | refine qv rfl (qp rfl) rfl rfl ?_ | refine TL_nil ?_ | refine T_seq ?_ | refine T_region ?_ | refine qcT rfl ?_ | refine qcF rfl ?_ | refine T_skip ?_
      | refine T_exit ?_ | refine T_ret ?_ | refine T_block ?_ | refine E_then ?_ | refine E_thenX ?_ | refine E_thenR ?_ | refine E_blockN ?_
      | refine E_blockR ?_ | refine E_blockX ?_ | refine E_blockO rfl ?_ | refine qs rfl rfl rfl rfl rfl rfl ?_
      | ((try refine qg rfl rfl rfl ?_); first | refine qv rfl (qp rfl) rfl rfl ?_ | refine qv rfl (rr_strlen Und.eq rfl) rfl rfl ?_ | refine qv rfl (rr_strupto (j := 60) Und.eq rfl rfl (by omega)) rfl rfl ?_ | refine qv rfl (rr_strlen Und.eq rfl) rfl rfl ?_ | refine qv rfl (rr_not rfl rfl) rfl rfl ?_ | refine qv rfl (rr_leq rfl rfl (qT (by omega))) rfl rfl ?_ | refine qv rfl (rr_leq rfl rfl (qF (by omega))) rfl rfl ?_ | refine qv rfl (rr_gtr rfl rfl (qT (by omega))) rfl rfl ?_ | refine qv rfl (rr_gtr rfl rfl (qF (by omega))) rfl rfl ?_ | refine qv rfl (rr_add64 rfl rfl (by omega) (by omega) rfl) rfl rfl ?_))
    generalize hSS : List.take 60 s = S at *
    repeat (first
      | refine qv rfl (qp rfl) rfl rfl ?_ | refine TL_nil ?_ | refine T_seq ?_ | refine T_region ?_ | refine qcT rfl ?_ | refine qcF rfl ?_ | refine T_skip ?_
      | refine T_exit ?_ | refine T_ret ?_ | refine T_block ?_ | refine E_then ?_ | refine E_thenX ?_ | refine E_thenR ?_ | refine E_blockN ?_
      | refine E_blockR ?_ | refine E_blockX ?_ | refine E_blockO rfl ?_ | refine qs rfl rfl rfl rfl rfl rfl ?_
      | ((try refine qg rfl rfl rfl ?_); first | refine qv rfl (qp rfl) rfl rfl ?_ | refine qv rfl (rr_loadB (i := 0) TyC.ty rfl rfl rfl) rfl rfl ?_ | refine qv rfl (rr_strlen Und.eq rfl) rfl rfl ?_ | refine qv rfl (rr_not rfl rfl) rfl rfl ?_ | refine qv rfl (rr_leq rfl rfl (qT (by omega))) rfl rfl ?_ | refine qv rfl (rr_leq rfl rfl (qF (by omega))) rfl rfl ?_ | refine qv rfl (rr_gtr rfl rfl (qT (by omega))) rfl rfl ?_ | refine qv rfl (rr_gtr rfl rfl (qF (by omega))) rfl rfl ?_ | refine qv rfl (rr_add64 rfl rfl (by omega) (by omega) rfl) rfl rfl ?_))
    refine TL_call (he1 EntersC.en rfl rfl) (fun w hm => star_calls _ _ _ _ _ w) rfl rfl rfl ?_
    intro g _
    conv => arg 8; simp only [zA, zB, zC, zD, zE, zF, zG, zH, zI, rowS, ret, id_eq, starS]
    repeat (first
      | refine qv rfl (qp rfl) rfl rfl ?_ | refine TL_nil ?_ | refine T_seq ?_ | refine T_region ?_ | refine qcT rfl ?_ | refine qcF rfl ?_ | refine T_skip ?_
      | refine T_exit ?_ | refine T_ret ?_ | refine T_block ?_ | refine E_then ?_ | refine E_thenX ?_ | refine E_thenR ?_ | refine E_blockN ?_
      | refine E_blockR ?_ | refine E_blockX ?_ | refine E_blockO rfl ?_ | refine qs rfl rfl rfl rfl rfl rfl ?_
      | ((try refine qg rfl rfl rfl ?_); first | refine qv rfl (qp rfl) rfl rfl ?_ | refine qv rfl (rr_strlen Und.eq rfl) rfl rfl ?_ | refine qv rfl (rr_not rfl rfl) rfl rfl ?_ | refine qv rfl (rr_leq rfl rfl (qT (by omega))) rfl rfl ?_ | refine qv rfl (rr_leq rfl rfl (qF (by omega))) rfl rfl ?_ | refine qv rfl (rr_gtr rfl rfl (qT (by omega))) rfl rfl ?_ | refine qv rfl (rr_gtr rfl rfl (qF (by omega))) rfl rfl ?_ | refine qv rfl (rr_add64 rfl rfl (by omega) (by omega) rfl) rfl rfl ?_))
    refine TL_call (he2 EntersC.en rfl rfl rfl) (fun w hm => i1 w (hT.up hm) g (star_rexK (hm.get (i := 1) rfl) (hr0.gr hm.below))) rfl rfl rfl ?_
    intro _ _
    refine TL_pick [0] (by decide) rfl ?_
    repeat (first
      | refine qv rfl (qp rfl) rfl rfl ?_ | refine TL_nil ?_ | refine T_seq ?_ | refine T_region ?_ | refine qcT rfl ?_ | refine qcF rfl ?_ | refine T_skip ?_
      | refine T_exit ?_ | refine T_ret ?_ | refine T_block ?_ | refine E_then ?_ | refine E_thenX ?_ | refine E_thenR ?_ | refine E_blockN ?_
      | refine E_blockR ?_ | refine E_blockX ?_ | refine E_blockO rfl ?_ | refine qs rfl rfl rfl rfl rfl rfl ?_
      | ((try refine qg rfl rfl rfl ?_); first | refine qv rfl (qp rfl) rfl rfl ?_ | refine qv rfl (rr_loadB (i := 0) TyC.ty rfl rfl rfl) rfl rfl ?_ | refine qv rfl (rr_strlen Und.eq rfl) rfl rfl ?_ | refine qv rfl (rr_not rfl rfl) rfl rfl ?_ | refine qv rfl (rr_leq rfl rfl (qT (by omega))) rfl rfl ?_ | refine qv rfl (rr_leq rfl rfl (qF (by omega))) rfl rfl ?_ | refine qv rfl (rr_gtr rfl rfl (qT (by omega))) rfl rfl ?_ | refine qv rfl (rr_gtr rfl rfl (qF (by omega))) rfl rfl ?_ | refine qv rfl (rr_add64 rfl rfl (by omega) (by omega) rfl) rfl rfl ?_))
    refine TL_call (he1 EntersC.en rfl rfl) (fun w hm => star_calls _ _ _ _ _ w) rfl rfl rfl ?_
    intro g _
    conv => arg 8; simp only [zA, zB, zC, zD, zE, zF, zG, zH, zI, rowS, ret, id_eq, starS]
    repeat (first
      | refine qv rfl (qp rfl) rfl rfl ?_ | refine TL_nil ?_ | refine T_seq ?_ | refine T_region ?_ | refine qcT rfl ?_ | refine qcF rfl ?_ | refine T_skip ?_
      | refine T_exit ?_ | refine T_ret ?_ | refine T_block ?_ | refine E_then ?_ | refine E_thenX ?_ | refine E_thenR ?_ | refine E_blockN ?_
      | refine E_blockR ?_ | refine E_blockX ?_ | refine E_blockO rfl ?_ | refine qs rfl rfl rfl rfl rfl rfl ?_
      | ((try refine qg rfl rfl rfl ?_); first | refine qv rfl (qp rfl) rfl rfl ?_ | refine qv rfl (rr_strlen Und.eq rfl) rfl rfl ?_ | refine qv rfl (rr_not rfl rfl) rfl rfl ?_ | refine qv rfl (rr_leq rfl rfl (qT (by omega))) rfl rfl ?_ | refine qv rfl (rr_leq rfl rfl (qF (by omega))) rfl rfl ?_ | refine qv rfl (rr_gtr rfl rfl (qT (by omega))) rfl rfl ?_ | refine qv rfl (rr_gtr rfl rfl (qF (by omega))) rfl rfl ?_ | refine qv rfl (rr_add64 rfl rfl (by omega) (by omega) rfl) rfl rfl ?_))
    refine TL_call (he1 EntersC.en rfl rfl) (fun w hm => star_calls _ _ _ _ _ w) rfl rfl rfl ?_
    intro g' _
    conv => arg 8; simp only [zA, zB, zC, zD, zE, zF, zG, zH, zI, rowS, ret, id_eq, starS]
    repeat (first
      | refine qv rfl (qp rfl) rfl rfl ?_ | refine TL_nil ?_ | refine T_seq ?_ | refine T_region ?_ | refine qcT rfl ?_ | refine qcF rfl ?_ | refine T_skip ?_
      | refine T_exit ?_ | refine T_ret ?_ | refine T_block ?_ | refine E_then ?_ | refine E_thenX ?_ | refine E_thenR ?_ | refine E_blockN ?_
      | refine E_blockR ?_ | refine E_blockX ?_ | refine E_blockO rfl ?_ | refine qs rfl rfl rfl rfl rfl rfl ?_
      | ((try refine qg rfl rfl rfl ?_); first | refine qv rfl (qp rfl) rfl rfl ?_ | refine qv rfl (rr_strlen Und.eq rfl) rfl rfl ?_ | refine qv rfl (rr_not rfl rfl) rfl rfl ?_ | refine qv rfl (rr_leq rfl rfl (qT (by omega))) rfl rfl ?_ | refine qv rfl (rr_leq rfl rfl (qF (by omega))) rfl rfl ?_ | refine qv rfl (rr_gtr rfl rfl (qT (by omega))) rfl rfl ?_ | refine qv rfl (rr_gtr rfl rfl (qF (by omega))) rfl rfl ?_ | refine qv rfl (rr_add64 rfl rfl (by omega) (by omega) rfl) rfl rfl ?_))
    refine TL_call (he2 EntersC.en rfl rfl rfl) (fun w hm => i2 w (hT.up hm) g' (star_rexK (hm.get (i := 2) rfl) (star_rexK (hm.get (i := 1) rfl) (hr0.gr hm.below)))) rfl rfl rfl ?_
    intro _ _
    refine TL_pick [0] (by decide) rfl ?_
    cases b1 with
    | true =>
      repeat (first
        | refine qv rfl (qp rfl) rfl rfl ?_ | refine TL_nil ?_ | refine T_seq ?_ | refine T_region ?_ | refine qcT rfl ?_ | refine qcF rfl ?_ | refine T_skip ?_
        | refine T_exit ?_ | refine T_ret ?_ | refine T_block ?_ | refine E_then ?_ | refine E_thenX ?_ | refine E_thenR ?_ | refine E_blockN ?_
        | refine E_blockR ?_ | refine E_blockX ?_ | refine E_blockO rfl ?_ | refine qs rfl rfl rfl rfl rfl rfl ?_
        | ((try refine qg rfl rfl rfl ?_); first | refine qv rfl (qp rfl) rfl rfl ?_ | refine qv rfl (rr_strlen Und.eq rfl) rfl rfl ?_ | refine qv rfl (rr_not rfl rfl) rfl rfl ?_ | refine qv rfl (rr_leq rfl rfl (qT (by omega))) rfl rfl ?_ | refine qv rfl (rr_leq rfl rfl (qF (by omega))) rfl rfl ?_ | refine qv rfl (rr_gtr rfl rfl (qT (by omega))) rfl rfl ?_ | refine qv rfl (rr_gtr rfl rfl (qF (by omega))) rfl rfl ?_ | refine qv rfl (rr_add64 rfl rfl (by omega) (by omega) rfl) rfl rfl ?_))
      exact E_ret1e rfl rfl rfl
    | false =>
      cases b2 with
      | true =>
        repeat (first
          | refine qv rfl (qp rfl) rfl rfl ?_ | refine TL_nil ?_ | refine T_seq ?_ | refine T_region ?_ | refine qcT rfl ?_ | refine qcF rfl ?_ | refine T_skip ?_
          | refine T_exit ?_ | refine T_ret ?_ | refine T_block ?_ | refine E_then ?_ | refine E_thenX ?_ | refine E_thenR ?_ | refine E_blockN ?_
          | refine E_blockR ?_ | refine E_blockX ?_ | refine E_blockO rfl ?_ | refine qs rfl rfl rfl rfl rfl rfl ?_
          | ((try refine qg rfl rfl rfl ?_); first | refine qv rfl (qp rfl) rfl rfl ?_ | refine qv rfl (rr_strlen Und.eq rfl) rfl rfl ?_ | refine qv rfl (rr_not rfl rfl) rfl rfl ?_ | refine qv rfl (rr_leq rfl rfl (qT (by omega))) rfl rfl ?_ | refine qv rfl (rr_leq rfl rfl (qF (by omega))) rfl rfl ?_ | refine qv rfl (rr_gtr rfl rfl (qT (by omega))) rfl rfl ?_ | refine qv rfl (rr_gtr rfl rfl (qF (by omega))) rfl rfl ?_ | refine qv rfl (rr_add64 rfl rfl (by omega) (by omega) rfl) rfl rfl ?_))
        exact E_ret1e rfl rfl rfl
      | false =>
        obtain ⟨x, hx, hy, hxy, hxe⟩ := hst rfl
        have hxy2 := hst2 x hxe rfl
        obtain rfl : a = b := Bool.eq_iff_iff.2 (by rw [hxy, hxy2])
        have hc0 := cut0 x (.star x) S 1
        clear hst hst2 i1 i2 hi1 hl hxe hxy2
        by_cases hz : S = []
        · have ha : a = true := hxy.2 (star_cut.2 (.inl hz))
          subst ha
          repeat (first
            | refine qv rfl (qp rfl) rfl rfl ?_ | refine TL_nil ?_ | refine T_seq ?_ | refine T_region ?_ | refine qcT rfl ?_ | refine qcF rfl ?_ | refine T_skip ?_
            | refine T_exit ?_ | refine T_ret ?_ | refine T_block ?_ | refine E_then ?_ | refine E_thenX ?_ | refine E_thenR ?_ | refine E_blockN ?_
            | refine E_blockR ?_ | refine E_blockX ?_ | refine E_blockO rfl ?_ | refine qs rfl rfl rfl rfl rfl rfl ?_
            | ((try refine qg rfl rfl rfl ?_); first | refine qv rfl (qp rfl) rfl rfl ?_ | refine qv rfl (rr_streq (b := true) rfl rfl (decide_eq_true hz)) rfl rfl ?_ | refine qv rfl (rr_strlen Und.eq rfl) rfl rfl ?_ | refine qv rfl (rr_not rfl rfl) rfl rfl ?_ | refine qv rfl (rr_leq rfl rfl (qT (by omega))) rfl rfl ?_ | refine qv rfl (rr_leq rfl rfl (qF (by omega))) rfl rfl ?_ | refine qv rfl (rr_gtr rfl rfl (qT (by omega))) rfl rfl ?_ | refine qv rfl (rr_gtr rfl rfl (qF (by omega))) rfl rfl ?_ | refine qv rfl (rr_add64 rfl rfl (by omega) (by omega) rfl) rfl rfl ?_))
          refine T_loop (ι := Unit) (fun _ => True) (fun _ => [(1, str S), (2, .pointer (some ⟨g2, 0, none⟩)), (7, .bool true), (9, .bool true), (11, .bool true), (12, .int .i64 1)]) (fun _ => [blkO g2 (rexV kr cr (.slice br nr capr)).cells 44]) (fun _ => 0) () trivial (by repeat' (first | exact True.intro | refine And.intro rfl ?_)) rfl ?_
          intro _ _
          have hz0 : S.length = 0 := by rw [hz]; rfl
          repeat (first
            | refine qv rfl (qp rfl) rfl rfl ?_ | refine TL_nil ?_ | refine T_seq ?_ | refine T_region ?_ | refine qcT rfl ?_ | refine qcF rfl ?_ | refine T_skip ?_
            | refine T_exit ?_ | refine T_ret ?_ | refine T_block ?_ | refine E_then ?_ | refine E_thenX ?_ | refine E_thenR ?_ | refine E_blockN ?_
            | refine E_blockR ?_ | refine E_blockX ?_ | refine E_blockO rfl ?_ | refine qs rfl rfl rfl rfl rfl rfl ?_
            | ((try refine qg rfl rfl rfl ?_); first | refine qv rfl (qp rfl) rfl rfl ?_ | refine qv rfl (rr_strlen Und.eq rfl) rfl rfl ?_ | refine qv rfl (rr_booleq (c := true) Und.eq rfl rfl rfl) rfl rfl ?_ | refine qv rfl (rr_strlen Und.eq rfl) rfl rfl ?_ | refine qv rfl (rr_not rfl rfl) rfl rfl ?_ | refine qv rfl (rr_leq rfl rfl (qT (by omega))) rfl rfl ?_ | refine qv rfl (rr_leq rfl rfl (qF (by omega))) rfl rfl ?_ | refine qv rfl (rr_gtr rfl rfl (qT (by omega))) rfl rfl ?_ | refine qv rfl (rr_gtr rfl rfl (qF (by omega))) rfl rfl ?_ | refine qv rfl (rr_add64 rfl rfl (by omega) (by omega) rfl) rfl rfl ?_))
          exact E_ret1e rfl rfl rfl
        · repeat (first
            | refine qv rfl (qp rfl) rfl rfl ?_ | refine TL_nil ?_ | refine T_seq ?_ | refine T_region ?_ | refine qcT rfl ?_ | refine qcF rfl ?_ | refine T_skip ?_
            | refine T_exit ?_ | refine T_ret ?_ | refine T_block ?_ | refine E_then ?_ | refine E_thenX ?_ | refine E_thenR ?_ | refine E_blockN ?_
            | refine E_blockR ?_ | refine E_blockX ?_ | refine E_blockO rfl ?_ | refine qs rfl rfl rfl rfl rfl rfl ?_
            | ((try refine qg rfl rfl rfl ?_); first | refine qv rfl (qp rfl) rfl rfl ?_ | refine qv rfl (rr_streq (b := false) rfl rfl (decide_eq_false hz)) rfl rfl ?_ | refine qv rfl (rr_strlen Und.eq rfl) rfl rfl ?_ | refine qv rfl (rr_not rfl rfl) rfl rfl ?_ | refine qv rfl (rr_leq rfl rfl (qT (by omega))) rfl rfl ?_ | refine qv rfl (rr_leq rfl rfl (qF (by omega))) rfl rfl ?_ | refine qv rfl (rr_gtr rfl rfl (qT (by omega))) rfl rfl ?_ | refine qv rfl (rr_gtr rfl rfl (qF (by omega))) rfl rfl ?_ | refine qv rfl (rr_add64 rfl rfl (by omega) (by omega) rfl) rfl rfl ?_))
          refine T_loop (ι := Nat × Bool) (fun (i, wn) => 1 ≤ i ∧ i ≤ S.length + 1 ∧ Cut x (.star x) S 1 i wn) (fun (i, wn) => [(1, str S), (2, .pointer (some ⟨g2, 0, none⟩)), (7, .bool a), (9, .bool a), (11, .bool wn), (12, .int .i64 (i : Int))])
            (fun _ => [blkO g2 (rexV kr cr (.slice br nr capr)).cells 44]) (fun (i, _) => S.length + 1 - i) (1, false) ⟨Nat.le_refl 1, by omega, hc0⟩ (by repeat' (first | exact True.intro | refine And.intro rfl ?_)) rfl ?_
          rintro ⟨i, wn⟩ ⟨hi1, hi, hc⟩
          dsimp only at hi1 hi hc ⊢
          cases wn with
          | true =>
            have ha : a = true := hxy.2 (star_cut.2 (.inr ((cut_end hc (.inl rfl)).1 rfl)))
            subst ha
            by_cases c : i ≤ S.length
            · repeat (first
                | refine qv rfl (qp rfl) rfl rfl ?_ | refine TL_nil ?_ | refine T_seq ?_ | refine T_region ?_ | refine qcT rfl ?_ | refine qcF rfl ?_ | refine T_skip ?_
                | refine T_exit ?_ | refine T_ret ?_ | refine T_block ?_ | refine E_then ?_ | refine E_thenX ?_ | refine E_thenR ?_ | refine E_blockN ?_
                | refine E_blockR ?_ | refine E_blockX ?_ | refine E_blockO rfl ?_ | refine qs rfl rfl rfl rfl rfl rfl ?_
                | ((try refine qg rfl rfl rfl ?_); first | refine qv rfl (qp rfl) rfl rfl ?_ | refine qv rfl (rr_strlen Und.eq rfl) rfl rfl ?_ | refine qv rfl (rr_booleq (c := true) Und.eq rfl rfl rfl) rfl rfl ?_ | refine qv rfl (rr_strlen Und.eq rfl) rfl rfl ?_ | refine qv rfl (rr_not rfl rfl) rfl rfl ?_ | refine qv rfl (rr_leq rfl rfl (qT (by omega))) rfl rfl ?_ | refine qv rfl (rr_leq rfl rfl (qF (by omega))) rfl rfl ?_ | refine qv rfl (rr_gtr rfl rfl (qT (by omega))) rfl rfl ?_ | refine qv rfl (rr_gtr rfl rfl (qF (by omega))) rfl rfl ?_ | refine qv rfl (rr_add64 rfl rfl (by omega) (by omega) rfl) rfl rfl ?_))
              exact E_ret1e rfl rfl rfl
            · repeat (first
                | refine qv rfl (qp rfl) rfl rfl ?_ | refine TL_nil ?_ | refine T_seq ?_ | refine T_region ?_ | refine qcT rfl ?_ | refine qcF rfl ?_ | refine T_skip ?_
                | refine T_exit ?_ | refine T_ret ?_ | refine T_block ?_ | refine E_then ?_ | refine E_thenX ?_ | refine E_thenR ?_ | refine E_blockN ?_
                | refine E_blockR ?_ | refine E_blockX ?_ | refine E_blockO rfl ?_ | refine qs rfl rfl rfl rfl rfl rfl ?_
                | ((try refine qg rfl rfl rfl ?_); first | refine qv rfl (qp rfl) rfl rfl ?_ | refine qv rfl (rr_strlen Und.eq rfl) rfl rfl ?_ | refine qv rfl (rr_booleq (c := true) Und.eq rfl rfl rfl) rfl rfl ?_ | refine qv rfl (rr_strlen Und.eq rfl) rfl rfl ?_ | refine qv rfl (rr_not rfl rfl) rfl rfl ?_ | refine qv rfl (rr_leq rfl rfl (qT (by omega))) rfl rfl ?_ | refine qv rfl (rr_leq rfl rfl (qF (by omega))) rfl rfl ?_ | refine qv rfl (rr_gtr rfl rfl (qT (by omega))) rfl rfl ?_ | refine qv rfl (rr_gtr rfl rfl (qF (by omega))) rfl rfl ?_ | refine qv rfl (rr_add64 rfl rfl (by omega) (by omega) rfl) rfl rfl ?_))
              exact E_ret1e rfl rfl rfl
          | false =>
            by_cases c : i ≤ S.length
            · have q1 : (S.take i).length ≤ 60 := by rw [List.length_take]; omega
              have q2 : (S.drop i).length ≤ 60 := by rw [List.length_drop]; omega
              obtain ⟨bx, ex, lx⟩ := hx (S.take i) (by omega)
              obtain ⟨by', ey, ly⟩ := hy (S.drop i) (by omega)
              have c1 := i3 (S.take i) q1
              have c2 := i4 (S.drop i) q2
              rw [ex] at c1
              rw [ey] at c2
              dsimp only at c1 c2
              have hn := cut_next hc hi1 c lx ly
              clear i3 i4 ex ey lx ly
              repeat (first
                | refine qv rfl (qp rfl) rfl rfl ?_ | refine TL_nil ?_ | refine T_seq ?_ | refine T_region ?_ | refine qcT rfl ?_ | refine qcF rfl ?_ | refine T_skip ?_
                | refine T_exit ?_ | refine T_ret ?_ | refine T_block ?_ | refine E_then ?_ | refine E_thenX ?_ | refine E_thenR ?_ | refine E_blockN ?_
                | refine E_blockR ?_ | refine E_blockX ?_ | refine E_blockO rfl ?_ | refine qs rfl rfl rfl rfl rfl rfl ?_
                | ((try refine qg rfl rfl rfl ?_); first | refine qv rfl (qp rfl) rfl rfl ?_ | refine qv rfl (rr_strlen Und.eq rfl) rfl rfl ?_ | refine qv rfl (rr_strlen Und.eq rfl) rfl rfl ?_ | refine qv rfl (rr_not rfl rfl) rfl rfl ?_ | refine qv rfl (rr_leq rfl rfl (qT (by omega))) rfl rfl ?_ | refine qv rfl (rr_leq rfl rfl (qF (by omega))) rfl rfl ?_ | refine qv rfl (rr_gtr rfl rfl (qT (by omega))) rfl rfl ?_ | refine qv rfl (rr_gtr rfl rfl (qF (by omega))) rfl rfl ?_ | refine qv rfl (rr_add64 rfl rfl (by omega) (by omega) rfl) rfl rfl ?_))
              (repeat refine T_seq ?_)
              refine T_ord ([blkO g2 (rexV kr cr (.slice br nr capr)).cells 44]) (.calm 0 (.calm 1 (.calm 2 (.calm 3 (.calm 4 (.calm 5 (.calm 6 (.calm 7 (.calm 8 (.calm 9 (.done))))))))))) (sub_pick [0] (by decide) rfl) (by kernel_rfl) (by kernel_rfl) (by intro c a d v w h; cases d <;> exact h) ?_
              repeat (first
                | ((first | refine TW_plain rfl rfl ?_ | refine TW_gmet rfl rfl rfl rfl ?_); first | refine TN_val (qp rfl) rfl rfl ?_ | refine TN_val (rr_loadB (i := 0) TyC.ty rfl rfl rfl) rfl rfl ?_ | refine TN_val (rr_strupto Und.eq rfl rfl c) rfl rfl ?_ | refine TN_val (rr_strlen Und.eq rfl) rfl rfl ?_ | refine TN_val (rr_not rfl rfl) rfl rfl ?_ | refine TN_val (rr_leq rfl rfl (qT (by omega))) rfl rfl ?_ | refine TN_val (rr_leq rfl rfl (qF (by omega))) rfl rfl ?_ | refine TN_val (rr_gtr rfl rfl (qT (by omega))) rfl rfl ?_ | refine TN_val (rr_gtr rfl rfl (qF (by omega))) rfl rfl ?_ | refine TN_val (rr_add64 rfl rfl (by omega) (by omega) rfl) rfl rfl ?_)
                | refine TW_skip rfl rfl rfl rfl rfl rfl rfl ?_ | refine TW_done ?_)
              refine TW_call rfl (he2 EntersC.en rfl rfl rfl) (fun w hm => c1 _ (hT.up hm) hm.below) rfl rfl rfl ?_
              repeat (first
                | ((first | refine TW_plain rfl rfl ?_ | refine TW_gmet rfl rfl rfl rfl ?_); first | refine TN_val (qp rfl) rfl rfl ?_ | refine TN_val (rr_strlen Und.eq rfl) rfl rfl ?_ | refine TN_val (rr_not rfl rfl) rfl rfl ?_ | refine TN_val (rr_leq rfl rfl (qT (by omega))) rfl rfl ?_ | refine TN_val (rr_leq rfl rfl (qF (by omega))) rfl rfl ?_ | refine TN_val (rr_gtr rfl rfl (qT (by omega))) rfl rfl ?_ | refine TN_val (rr_gtr rfl rfl (qF (by omega))) rfl rfl ?_ | refine TN_val (rr_add64 rfl rfl (by omega) (by omega) rfl) rfl rfl ?_)
                | refine TW_skip rfl rfl rfl rfl rfl rfl rfl ?_ | refine TW_done ?_)
              repeat (first
                | refine qv rfl (qp rfl) rfl rfl ?_ | refine TL_nil ?_ | refine T_seq ?_ | refine T_region ?_ | refine qcT rfl ?_ | refine qcF rfl ?_ | refine T_skip ?_
                | refine T_exit ?_ | refine T_ret ?_ | refine T_block ?_ | refine E_then ?_ | refine E_thenX ?_ | refine E_thenR ?_ | refine E_blockN ?_
                | refine E_blockR ?_ | refine E_blockX ?_ | refine E_blockO rfl ?_ | refine qs rfl rfl rfl rfl rfl rfl ?_
                | ((try refine qg rfl rfl rfl ?_); first | refine qv rfl (qp rfl) rfl rfl ?_ | refine qv rfl (rr_strlen Und.eq rfl) rfl rfl ?_ | refine qv rfl (rr_not rfl rfl) rfl rfl ?_ | refine qv rfl (rr_leq rfl rfl (qT (by omega))) rfl rfl ?_ | refine qv rfl (rr_leq rfl rfl (qF (by omega))) rfl rfl ?_ | refine qv rfl (rr_gtr rfl rfl (qT (by omega))) rfl rfl ?_ | refine qv rfl (rr_gtr rfl rfl (qF (by omega))) rfl rfl ?_ | refine qv rfl (rr_add64 rfl rfl (by omega) (by omega) rfl) rfl rfl ?_))
              (repeat refine T_seq ?_)
              refine T_ord ([blkO g2 (rexV kr cr (.slice br nr capr)).cells 44]) (.calm 0 (.calm 2 (.calm 3 (.calm 4 (.one 1 (.one 5 (.calm 6 (.calm 7 (.calm 8 (.calm 9 (.calm 10 (.done)))))))))))) (sub_pick [0] (by decide) rfl) (by kernel_rfl) (by kernel_rfl) (by intro c a d v w h; cases d <;> exact h) ?_
              repeat (first
                | ((first | refine TW_plain rfl rfl ?_ | refine TW_gmet rfl rfl rfl rfl ?_); first | refine TN_val (qp rfl) rfl rfl ?_ | refine TN_val (rr_loadB (i := 0) TyC.ty rfl rfl rfl) rfl rfl ?_ | refine TN_val (rr_strfrom Und.eq rfl rfl c) rfl rfl ?_ | refine TN_val (rr_strlen Und.eq rfl) rfl rfl ?_ | refine TN_val (rr_not rfl rfl) rfl rfl ?_ | refine TN_val (rr_leq rfl rfl (qT (by omega))) rfl rfl ?_ | refine TN_val (rr_leq rfl rfl (qF (by omega))) rfl rfl ?_ | refine TN_val (rr_gtr rfl rfl (qT (by omega))) rfl rfl ?_ | refine TN_val (rr_gtr rfl rfl (qF (by omega))) rfl rfl ?_ | refine TN_val (rr_add64 rfl rfl (by omega) (by omega) rfl) rfl rfl ?_)
                | refine TW_skip rfl rfl rfl rfl rfl rfl rfl ?_ | refine TW_done ?_)
              refine TW_one rfl (TL_call (he1 EntersC.en rfl rfl) (fun w hm => star_calls _ _ _ _ _ w) rfl rfl rfl fun g _ => ?_)
              conv => arg 8; simp only [zA, zB, zC, zD, zE, zF, zG, zH, zI, rowS, ret, id_eq, starS]
              refine TW_on (sub_pick [0] (by decide) rfl) ?_
              refine TW_one rfl (TL_call (he2 EntersC.en rfl rfl rfl) (fun w hm => c2 w (hT.up hm) g (star_rexK (hm.get (i := 1) rfl) (hr0.gr hm.below))) rfl rfl rfl fun _ _ => ?_)
              refine TW_on (sub_pick [0] (by decide) rfl) ?_
              repeat (first
                | ((first | refine TW_plain rfl rfl ?_ | refine TW_gmet rfl rfl rfl rfl ?_); first | refine TN_val (qp rfl) rfl rfl ?_ | refine TN_val (rr_strlen Und.eq rfl) rfl rfl ?_ | refine TN_val (rr_not rfl rfl) rfl rfl ?_ | refine TN_val (rr_leq rfl rfl (qT (by omega))) rfl rfl ?_ | refine TN_val (rr_leq rfl rfl (qF (by omega))) rfl rfl ?_ | refine TN_val (rr_gtr rfl rfl (qT (by omega))) rfl rfl ?_ | refine TN_val (rr_gtr rfl rfl (qF (by omega))) rfl rfl ?_ | refine TN_val (rr_add64 rfl rfl (by omega) (by omega) rfl) rfl rfl ?_)
                | refine TW_skip rfl rfl rfl rfl rfl rfl rfl ?_ | refine TW_done ?_)
              cases bx with
              | true =>
                repeat (first
                  | refine qv rfl (qp rfl) rfl rfl ?_ | refine TL_nil ?_ | refine T_seq ?_ | refine T_region ?_ | refine qcT rfl ?_ | refine qcF rfl ?_ | refine T_skip ?_
                  | refine T_exit ?_ | refine T_ret ?_ | refine T_block ?_ | refine E_then ?_ | refine E_thenX ?_ | refine E_thenR ?_ | refine E_blockN ?_
                  | refine E_blockR ?_ | refine E_blockX ?_ | refine E_blockO rfl ?_ | refine qs rfl rfl rfl rfl rfl rfl ?_
                  | ((try refine qg rfl rfl rfl ?_); first | refine qv rfl (qp rfl) rfl rfl ?_ | refine qv rfl (rr_strlen Und.eq rfl) rfl rfl ?_ | refine qv rfl (rr_not rfl rfl) rfl rfl ?_ | refine qv rfl (rr_leq rfl rfl (qT (by omega))) rfl rfl ?_ | refine qv rfl (rr_leq rfl rfl (qF (by omega))) rfl rfl ?_ | refine qv rfl (rr_gtr rfl rfl (qT (by omega))) rfl rfl ?_ | refine qv rfl (rr_gtr rfl rfl (qF (by omega))) rfl rfl ?_ | refine qv rfl (rr_add64 rfl rfl (by omega) (by omega) rfl) rfl rfl ?_))
                refine E_pick [0] (by decide) rfl ?_
                exact E_round (i + 1, by') ⟨by show 1 ≤ i + 1; omega, by show i + 1 ≤ S.length + 1; omega, hn⟩ (by show S.length + 1 - (i + 1) < S.length + 1 - i; omega) (by repeat' (first | exact True.intro | refine And.intro rfl ?_)) rfl
              | false =>
                repeat (first
                  | refine qv rfl (qp rfl) rfl rfl ?_ | refine TL_nil ?_ | refine T_seq ?_ | refine T_region ?_ | refine qcT rfl ?_ | refine qcF rfl ?_ | refine T_skip ?_
                  | refine T_exit ?_ | refine T_ret ?_ | refine T_block ?_ | refine E_then ?_ | refine E_thenX ?_ | refine E_thenR ?_ | refine E_blockN ?_
                  | refine E_blockR ?_ | refine E_blockX ?_ | refine E_blockO rfl ?_ | refine qs rfl rfl rfl rfl rfl rfl ?_
                  | ((try refine qg rfl rfl rfl ?_); first | refine qv rfl (qp rfl) rfl rfl ?_ | refine qv rfl (rr_strlen Und.eq rfl) rfl rfl ?_ | refine qv rfl (rr_not rfl rfl) rfl rfl ?_ | refine qv rfl (rr_leq rfl rfl (qT (by omega))) rfl rfl ?_ | refine qv rfl (rr_leq rfl rfl (qF (by omega))) rfl rfl ?_ | refine qv rfl (rr_gtr rfl rfl (qT (by omega))) rfl rfl ?_ | refine qv rfl (rr_gtr rfl rfl (qF (by omega))) rfl rfl ?_ | refine qv rfl (rr_add64 rfl rfl (by omega) (by omega) rfl) rfl rfl ?_))
                refine E_pick [0] (by decide) rfl ?_
                exact E_round (i + 1, false) ⟨by show 1 ≤ i + 1; omega, by show i + 1 ≤ S.length + 1; omega, hn⟩ (by show S.length + 1 - (i + 1) < S.length + 1 - i; omega) (by repeat' (first | exact True.intro | refine And.intro rfl ?_)) rfl
            · have ha : a = false := by
                cases a with
                | false => rfl
                | true =>
                  rcases star_cut.1 (hxy.1 rfl) with hh | hh
                  · exact absurd hh hz
                  · have := (cut_end hc (.inr (by omega))).2 hh
                    cases this
              subst ha
              repeat (first
                | refine qv rfl (qp rfl) rfl rfl ?_ | refine TL_nil ?_ | refine T_seq ?_ | refine T_region ?_ | refine qcT rfl ?_ | refine qcF rfl ?_ | refine T_skip ?_
                | refine T_exit ?_ | refine T_ret ?_ | refine T_block ?_ | refine E_then ?_ | refine E_thenX ?_ | refine E_thenR ?_ | refine E_blockN ?_
                | refine E_blockR ?_ | refine E_blockX ?_ | refine E_blockO rfl ?_ | refine qs rfl rfl rfl rfl rfl rfl ?_
                | ((try refine qg rfl rfl rfl ?_); first | refine qv rfl (qp rfl) rfl rfl ?_ | refine qv rfl (rr_strlen Und.eq rfl) rfl rfl ?_ | refine qv rfl (rr_booleq (c := true) Und.eq rfl rfl rfl) rfl rfl ?_ | refine qv rfl (rr_strlen Und.eq rfl) rfl rfl ?_ | refine qv rfl (rr_not rfl rfl) rfl rfl ?_ | refine qv rfl (rr_leq rfl rfl (qT (by omega))) rfl rfl ?_ | refine qv rfl (rr_leq rfl rfl (qF (by omega))) rfl rfl ?_ | refine qv rfl (rr_gtr rfl rfl (qT (by omega))) rfl rfl ?_ | refine qv rfl (rr_gtr rfl rfl (qF (by omega))) rfl rfl ?_ | refine qv rfl (rr_add64 rfl rfl (by omega) (by omega) rfl) rfl rfl ?_))
              exact E_ret1e rfl rfl rfl
  · have e : cut60 s = s := if_neg cl
    rw [e] at hS i1 i2 hst hst2
    clear e
    repeat (first
      | refine qv rfl (qp rfl) rfl rfl ?_ | refine TL_nil ?_ | refine T_seq ?_ | refine T_region ?_ | refine qcT rfl ?_ | refine qcF rfl ?_ | refine T_skip ?_
      | refine T_exit ?_ | refine T_ret ?_ | refine T_block ?_ | refine E_then ?_ | refine E_thenX ?_ | refine E_thenR ?_ | refine E_blockN ?_
      | refine E_blockR ?_ | refine E_blockX ?_ | refine E_blockO rfl ?_ | refine qs rfl rfl rfl rfl rfl rfl ?_
      | ((try refine qg rfl rfl rfl ?_); first | refine qv rfl (qp rfl) rfl rfl ?_ | refine qv rfl (rr_strlen Und.eq rfl) rfl rfl ?_ | refine qv rfl (rr_strlen Und.eq rfl) rfl rfl ?_ | refine qv rfl (rr_not rfl rfl) rfl rfl ?_ | refine qv rfl (rr_leq rfl rfl (qT (by omega))) rfl rfl ?_ | refine qv rfl (rr_leq rfl rfl (qF (by omega))) rfl rfl ?_ | refine qv rfl (rr_gtr rfl rfl (qT (by omega))) rfl rfl ?_ | refine qv rfl (rr_gtr rfl rfl (qF (by omega))) rfl rfl ?_ | refine qv rfl (rr_add64 rfl rfl (by omega) (by omega) rfl) rfl rfl ?_))
    generalize s = S at *
    repeat (first
      | refine qv rfl (qp rfl) rfl rfl ?_ | refine TL_nil ?_ | refine T_seq ?_ | refine T_region ?_ | refine qcT rfl ?_ | refine qcF rfl ?_ | refine T_skip ?_
      | refine T_exit ?_ | refine T_ret ?_ | refine T_block ?_ | refine E_then ?_ | refine E_thenX ?_ | refine E_thenR ?_ | refine E_blockN ?_
      | refine E_blockR ?_ | refine E_blockX ?_ | refine E_blockO rfl ?_ | refine qs rfl rfl rfl rfl rfl rfl ?_
      | ((try refine qg rfl rfl rfl ?_); first | refine qv rfl (qp rfl) rfl rfl ?_ | refine qv rfl (rr_loadB (i := 0) TyC.ty rfl rfl rfl) rfl rfl ?_ | refine qv rfl (rr_strlen Und.eq rfl) rfl rfl ?_ | refine qv rfl (rr_not rfl rfl) rfl rfl ?_ | refine qv rfl (rr_leq rfl rfl (qT (by omega))) rfl rfl ?_ | refine qv rfl (rr_leq rfl rfl (qF (by omega))) rfl rfl ?_ | refine qv rfl (rr_gtr rfl rfl (qT (by omega))) rfl rfl ?_ | refine qv rfl (rr_gtr rfl rfl (qF (by omega))) rfl rfl ?_ | refine qv rfl (rr_add64 rfl rfl (by omega) (by omega) rfl) rfl rfl ?_))
    refine TL_call (he1 EntersC.en rfl rfl) (fun w hm => star_calls _ _ _ _ _ w) rfl rfl rfl ?_
    intro g _
    conv => arg 8; simp only [zA, zB, zC, zD, zE, zF, zG, zH, zI, rowS, ret, id_eq, starS]
    repeat (first
      | refine qv rfl (qp rfl) rfl rfl ?_ | refine TL_nil ?_ | refine T_seq ?_ | refine T_region ?_ | refine qcT rfl ?_ | refine qcF rfl ?_ | refine T_skip ?_
      | refine T_exit ?_ | refine T_ret ?_ | refine T_block ?_ | refine E_then ?_ | refine E_thenX ?_ | refine E_thenR ?_ | refine E_blockN ?_
      | refine E_blockR ?_ | refine E_blockX ?_ | refine E_blockO rfl ?_ | refine qs rfl rfl rfl rfl rfl rfl ?_
      | ((try refine qg rfl rfl rfl ?_); first | refine qv rfl (qp rfl) rfl rfl ?_ | refine qv rfl (rr_strlen Und.eq rfl) rfl rfl ?_ | refine qv rfl (rr_not rfl rfl) rfl rfl ?_ | refine qv rfl (rr_leq rfl rfl (qT (by omega))) rfl rfl ?_ | refine qv rfl (rr_leq rfl rfl (qF (by omega))) rfl rfl ?_ | refine qv rfl (rr_gtr rfl rfl (qT (by omega))) rfl rfl ?_ | refine qv rfl (rr_gtr rfl rfl (qF (by omega))) rfl rfl ?_ | refine qv rfl (rr_add64 rfl rfl (by omega) (by omega) rfl) rfl rfl ?_))
    refine TL_call (he2 EntersC.en rfl rfl rfl) (fun w hm => i1 w (hT.up hm) g (star_rexK (hm.get (i := 1) rfl) (hr0.gr hm.below))) rfl rfl rfl ?_
    intro _ _
    refine TL_pick [0] (by decide) rfl ?_
    repeat (first
      | refine qv rfl (qp rfl) rfl rfl ?_ | refine TL_nil ?_ | refine T_seq ?_ | refine T_region ?_ | refine qcT rfl ?_ | refine qcF rfl ?_ | refine T_skip ?_
      | refine T_exit ?_ | refine T_ret ?_ | refine T_block ?_ | refine E_then ?_ | refine E_thenX ?_ | refine E_thenR ?_ | refine E_blockN ?_
      | refine E_blockR ?_ | refine E_blockX ?_ | refine E_blockO rfl ?_ | refine qs rfl rfl rfl rfl rfl rfl ?_
      | ((try refine qg rfl rfl rfl ?_); first | refine qv rfl (qp rfl) rfl rfl ?_ | refine qv rfl (rr_loadB (i := 0) TyC.ty rfl rfl rfl) rfl rfl ?_ | refine qv rfl (rr_strlen Und.eq rfl) rfl rfl ?_ | refine qv rfl (rr_not rfl rfl) rfl rfl ?_ | refine qv rfl (rr_leq rfl rfl (qT (by omega))) rfl rfl ?_ | refine qv rfl (rr_leq rfl rfl (qF (by omega))) rfl rfl ?_ | refine qv rfl (rr_gtr rfl rfl (qT (by omega))) rfl rfl ?_ | refine qv rfl (rr_gtr rfl rfl (qF (by omega))) rfl rfl ?_ | refine qv rfl (rr_add64 rfl rfl (by omega) (by omega) rfl) rfl rfl ?_))
    refine TL_call (he1 EntersC.en rfl rfl) (fun w hm => star_calls _ _ _ _ _ w) rfl rfl rfl ?_
    intro g _
    conv => arg 8; simp only [zA, zB, zC, zD, zE, zF, zG, zH, zI, rowS, ret, id_eq, starS]
    repeat (first
      | refine qv rfl (qp rfl) rfl rfl ?_ | refine TL_nil ?_ | refine T_seq ?_ | refine T_region ?_ | refine qcT rfl ?_ | refine qcF rfl ?_ | refine T_skip ?_
      | refine T_exit ?_ | refine T_ret ?_ | refine T_block ?_ | refine E_then ?_ | refine E_thenX ?_ | refine E_thenR ?_ | refine E_blockN ?_
      | refine E_blockR ?_ | refine E_blockX ?_ | refine E_blockO rfl ?_ | refine qs rfl rfl rfl rfl rfl rfl ?_
      | ((try refine qg rfl rfl rfl ?_); first | refine qv rfl (qp rfl) rfl rfl ?_ | refine qv rfl (rr_strlen Und.eq rfl) rfl rfl ?_ | refine qv rfl (rr_not rfl rfl) rfl rfl ?_ | refine qv rfl (rr_leq rfl rfl (qT (by omega))) rfl rfl ?_ | refine qv rfl (rr_leq rfl rfl (qF (by omega))) rfl rfl ?_ | refine qv rfl (rr_gtr rfl rfl (qT (by omega))) rfl rfl ?_ | refine qv rfl (rr_gtr rfl rfl (qF (by omega))) rfl rfl ?_ | refine qv rfl (rr_add64 rfl rfl (by omega) (by omega) rfl) rfl rfl ?_))
    refine TL_call (he1 EntersC.en rfl rfl) (fun w hm => star_calls _ _ _ _ _ w) rfl rfl rfl ?_
    intro g' _
    conv => arg 8; simp only [zA, zB, zC, zD, zE, zF, zG, zH, zI, rowS, ret, id_eq, starS]
    repeat (first
      | refine qv rfl (qp rfl) rfl rfl ?_ | refine TL_nil ?_ | refine T_seq ?_ | refine T_region ?_ | refine qcT rfl ?_ | refine qcF rfl ?_ | refine T_skip ?_
      | refine T_exit ?_ | refine T_ret ?_ | refine T_block ?_ | refine E_then ?_ | refine E_thenX ?_ | refine E_thenR ?_ | refine E_blockN ?_
      | refine E_blockR ?_ | refine E_blockX ?_ | refine E_blockO rfl ?_ | refine qs rfl rfl rfl rfl rfl rfl ?_
      | ((try refine qg rfl rfl rfl ?_); first | refine qv rfl (qp rfl) rfl rfl ?_ | refine qv rfl (rr_strlen Und.eq rfl) rfl rfl ?_ | refine qv rfl (rr_not rfl rfl) rfl rfl ?_ | refine qv rfl (rr_leq rfl rfl (qT (by omega))) rfl rfl ?_ | refine qv rfl (rr_leq rfl rfl (qF (by omega))) rfl rfl ?_ | refine qv rfl (rr_gtr rfl rfl (qT (by omega))) rfl rfl ?_ | refine qv rfl (rr_gtr rfl rfl (qF (by omega))) rfl rfl ?_ | refine qv rfl (rr_add64 rfl rfl (by omega) (by omega) rfl) rfl rfl ?_))
    refine TL_call (he2 EntersC.en rfl rfl rfl) (fun w hm => i2 w (hT.up hm) g' (star_rexK (hm.get (i := 2) rfl) (star_rexK (hm.get (i := 1) rfl) (hr0.gr hm.below)))) rfl rfl rfl ?_
    intro _ _
    refine TL_pick [0] (by decide) rfl ?_
    cases b1 with
    | true =>
      repeat (first
        | refine qv rfl (qp rfl) rfl rfl ?_ | refine TL_nil ?_ | refine T_seq ?_ | refine T_region ?_ | refine qcT rfl ?_ | refine qcF rfl ?_ | refine T_skip ?_
        | refine T_exit ?_ | refine T_ret ?_ | refine T_block ?_ | refine E_then ?_ | refine E_thenX ?_ | refine E_thenR ?_ | refine E_blockN ?_
        | refine E_blockR ?_ | refine E_blockX ?_ | refine E_blockO rfl ?_ | refine qs rfl rfl rfl rfl rfl rfl ?_
        | ((try refine qg rfl rfl rfl ?_); first | refine qv rfl (qp rfl) rfl rfl ?_ | refine qv rfl (rr_strlen Und.eq rfl) rfl rfl ?_ | refine qv rfl (rr_not rfl rfl) rfl rfl ?_ | refine qv rfl (rr_leq rfl rfl (qT (by omega))) rfl rfl ?_ | refine qv rfl (rr_leq rfl rfl (qF (by omega))) rfl rfl ?_ | refine qv rfl (rr_gtr rfl rfl (qT (by omega))) rfl rfl ?_ | refine qv rfl (rr_gtr rfl rfl (qF (by omega))) rfl rfl ?_ | refine qv rfl (rr_add64 rfl rfl (by omega) (by omega) rfl) rfl rfl ?_))
      exact E_ret1e rfl rfl rfl
    | false =>
      cases b2 with
      | true =>
        repeat (first
          | refine qv rfl (qp rfl) rfl rfl ?_ | refine TL_nil ?_ | refine T_seq ?_ | refine T_region ?_ | refine qcT rfl ?_ | refine qcF rfl ?_ | refine T_skip ?_
          | refine T_exit ?_ | refine T_ret ?_ | refine T_block ?_ | refine E_then ?_ | refine E_thenX ?_ | refine E_thenR ?_ | refine E_blockN ?_
          | refine E_blockR ?_ | refine E_blockX ?_ | refine E_blockO rfl ?_ | refine qs rfl rfl rfl rfl rfl rfl ?_
          | ((try refine qg rfl rfl rfl ?_); first | refine qv rfl (qp rfl) rfl rfl ?_ | refine qv rfl (rr_strlen Und.eq rfl) rfl rfl ?_ | refine qv rfl (rr_not rfl rfl) rfl rfl ?_ | refine qv rfl (rr_leq rfl rfl (qT (by omega))) rfl rfl ?_ | refine qv rfl (rr_leq rfl rfl (qF (by omega))) rfl rfl ?_ | refine qv rfl (rr_gtr rfl rfl (qT (by omega))) rfl rfl ?_ | refine qv rfl (rr_gtr rfl rfl (qF (by omega))) rfl rfl ?_ | refine qv rfl (rr_add64 rfl rfl (by omega) (by omega) rfl) rfl rfl ?_))
        exact E_ret1e rfl rfl rfl
      | false =>
        obtain ⟨x, hx, hy, hxy, hxe⟩ := hst rfl
        have hxy2 := hst2 x hxe rfl
        obtain rfl : a = b := Bool.eq_iff_iff.2 (by rw [hxy, hxy2])
        have hc0 := cut0 x (.star x) S 1
        clear hst hst2 i1 i2 hi1 hl hxe hxy2
        by_cases hz : S = []
        · have ha : a = true := hxy.2 (star_cut.2 (.inl hz))
          subst ha
          repeat (first
            | refine qv rfl (qp rfl) rfl rfl ?_ | refine TL_nil ?_ | refine T_seq ?_ | refine T_region ?_ | refine qcT rfl ?_ | refine qcF rfl ?_ | refine T_skip ?_
            | refine T_exit ?_ | refine T_ret ?_ | refine T_block ?_ | refine E_then ?_ | refine E_thenX ?_ | refine E_thenR ?_ | refine E_blockN ?_
            | refine E_blockR ?_ | refine E_blockX ?_ | refine E_blockO rfl ?_ | refine qs rfl rfl rfl rfl rfl rfl ?_
            | ((try refine qg rfl rfl rfl ?_); first | refine qv rfl (qp rfl) rfl rfl ?_ | refine qv rfl (rr_streq (b := true) rfl rfl (decide_eq_true hz)) rfl rfl ?_ | refine qv rfl (rr_strlen Und.eq rfl) rfl rfl ?_ | refine qv rfl (rr_not rfl rfl) rfl rfl ?_ | refine qv rfl (rr_leq rfl rfl (qT (by omega))) rfl rfl ?_ | refine qv rfl (rr_leq rfl rfl (qF (by omega))) rfl rfl ?_ | refine qv rfl (rr_gtr rfl rfl (qT (by omega))) rfl rfl ?_ | refine qv rfl (rr_gtr rfl rfl (qF (by omega))) rfl rfl ?_ | refine qv rfl (rr_add64 rfl rfl (by omega) (by omega) rfl) rfl rfl ?_))
          refine T_loop (ι := Unit) (fun _ => True) (fun _ => [(1, str S), (2, .pointer (some ⟨g2, 0, none⟩)), (7, .bool true), (9, .bool true), (11, .bool true), (12, .int .i64 1)]) (fun _ => [blkO g2 (rexV kr cr (.slice br nr capr)).cells 44]) (fun _ => 0) () trivial (by repeat' (first | exact True.intro | refine And.intro rfl ?_)) rfl ?_
          intro _ _
          have hz0 : S.length = 0 := by rw [hz]; rfl
          repeat (first
            | refine qv rfl (qp rfl) rfl rfl ?_ | refine TL_nil ?_ | refine T_seq ?_ | refine T_region ?_ | refine qcT rfl ?_ | refine qcF rfl ?_ | refine T_skip ?_
            | refine T_exit ?_ | refine T_ret ?_ | refine T_block ?_ | refine E_then ?_ | refine E_thenX ?_ | refine E_thenR ?_ | refine E_blockN ?_
            | refine E_blockR ?_ | refine E_blockX ?_ | refine E_blockO rfl ?_ | refine qs rfl rfl rfl rfl rfl rfl ?_
            | ((try refine qg rfl rfl rfl ?_); first | refine qv rfl (qp rfl) rfl rfl ?_ | refine qv rfl (rr_strlen Und.eq rfl) rfl rfl ?_ | refine qv rfl (rr_booleq (c := true) Und.eq rfl rfl rfl) rfl rfl ?_ | refine qv rfl (rr_strlen Und.eq rfl) rfl rfl ?_ | refine qv rfl (rr_not rfl rfl) rfl rfl ?_ | refine qv rfl (rr_leq rfl rfl (qT (by omega))) rfl rfl ?_ | refine qv rfl (rr_leq rfl rfl (qF (by omega))) rfl rfl ?_ | refine qv rfl (rr_gtr rfl rfl (qT (by omega))) rfl rfl ?_ | refine qv rfl (rr_gtr rfl rfl (qF (by omega))) rfl rfl ?_ | refine qv rfl (rr_add64 rfl rfl (by omega) (by omega) rfl) rfl rfl ?_))
          exact E_ret1e rfl rfl rfl
        · repeat (first
            | refine qv rfl (qp rfl) rfl rfl ?_ | refine TL_nil ?_ | refine T_seq ?_ | refine T_region ?_ | refine qcT rfl ?_ | refine qcF rfl ?_ | refine T_skip ?_
            | refine T_exit ?_ | refine T_ret ?_ | refine T_block ?_ | refine E_then ?_ | refine E_thenX ?_ | refine E_thenR ?_ | refine E_blockN ?_
            | refine E_blockR ?_ | refine E_blockX ?_ | refine E_blockO rfl ?_ | refine qs rfl rfl rfl rfl rfl rfl ?_
            | ((try refine qg rfl rfl rfl ?_); first | refine qv rfl (qp rfl) rfl rfl ?_ | refine qv rfl (rr_streq (b := false) rfl rfl (decide_eq_false hz)) rfl rfl ?_ | refine qv rfl (rr_strlen Und.eq rfl) rfl rfl ?_ | refine qv rfl (rr_not rfl rfl) rfl rfl ?_ | refine qv rfl (rr_leq rfl rfl (qT (by omega))) rfl rfl ?_ | refine qv rfl (rr_leq rfl rfl (qF (by omega))) rfl rfl ?_ | refine qv rfl (rr_gtr rfl rfl (qT (by omega))) rfl rfl ?_ | refine qv rfl (rr_gtr rfl rfl (qF (by omega))) rfl rfl ?_ | refine qv rfl (rr_add64 rfl rfl (by omega) (by omega) rfl) rfl rfl ?_))
          refine T_loop (ι := Nat × Bool) (fun (i, wn) => 1 ≤ i ∧ i ≤ S.length + 1 ∧ Cut x (.star x) S 1 i wn) (fun (i, wn) => [(1, str S), (2, .pointer (some ⟨g2, 0, none⟩)), (7, .bool a), (9, .bool a), (11, .bool wn), (12, .int .i64 (i : Int))])
            (fun _ => [blkO g2 (rexV kr cr (.slice br nr capr)).cells 44]) (fun (i, _) => S.length + 1 - i) (1, false) ⟨Nat.le_refl 1, by omega, hc0⟩ (by repeat' (first | exact True.intro | refine And.intro rfl ?_)) rfl ?_
          rintro ⟨i, wn⟩ ⟨hi1, hi, hc⟩
          dsimp only at hi1 hi hc ⊢
          cases wn with
          | true =>
            have ha : a = true := hxy.2 (star_cut.2 (.inr ((cut_end hc (.inl rfl)).1 rfl)))
            subst ha
            by_cases c : i ≤ S.length
            · repeat (first
                | refine qv rfl (qp rfl) rfl rfl ?_ | refine TL_nil ?_ | refine T_seq ?_ | refine T_region ?_ | refine qcT rfl ?_ | refine qcF rfl ?_ | refine T_skip ?_
                | refine T_exit ?_ | refine T_ret ?_ | refine T_block ?_ | refine E_then ?_ | refine E_thenX ?_ | refine E_thenR ?_ | refine E_blockN ?_
                | refine E_blockR ?_ | refine E_blockX ?_ | refine E_blockO rfl ?_ | refine qs rfl rfl rfl rfl rfl rfl ?_
                | ((try refine qg rfl rfl rfl ?_); first | refine qv rfl (qp rfl) rfl rfl ?_ | refine qv rfl (rr_strlen Und.eq rfl) rfl rfl ?_ | refine qv rfl (rr_booleq (c := true) Und.eq rfl rfl rfl) rfl rfl ?_ | refine qv rfl (rr_strlen Und.eq rfl) rfl rfl ?_ | refine qv rfl (rr_not rfl rfl) rfl rfl ?_ | refine qv rfl (rr_leq rfl rfl (qT (by omega))) rfl rfl ?_ | refine qv rfl (rr_leq rfl rfl (qF (by omega))) rfl rfl ?_ | refine qv rfl (rr_gtr rfl rfl (qT (by omega))) rfl rfl ?_ | refine qv rfl (rr_gtr rfl rfl (qF (by omega))) rfl rfl ?_ | refine qv rfl (rr_add64 rfl rfl (by omega) (by omega) rfl) rfl rfl ?_))
              exact E_ret1e rfl rfl rfl
            · repeat (first
                | refine qv rfl (qp rfl) rfl rfl ?_ | refine TL_nil ?_ | refine T_seq ?_ | refine T_region ?_ | refine qcT rfl ?_ | refine qcF rfl ?_ | refine T_skip ?_
                | refine T_exit ?_ | refine T_ret ?_ | refine T_block ?_ | refine E_then ?_ | refine E_thenX ?_ | refine E_thenR ?_ | refine E_blockN ?_
                | refine E_blockR ?_ | refine E_blockX ?_ | refine E_blockO rfl ?_ | refine qs rfl rfl rfl rfl rfl rfl ?_
                | ((try refine qg rfl rfl rfl ?_); first | refine qv rfl (qp rfl) rfl rfl ?_ | refine qv rfl (rr_strlen Und.eq rfl) rfl rfl ?_ | refine qv rfl (rr_booleq (c := true) Und.eq rfl rfl rfl) rfl rfl ?_ | refine qv rfl (rr_strlen Und.eq rfl) rfl rfl ?_ | refine qv rfl (rr_not rfl rfl) rfl rfl ?_ | refine qv rfl (rr_leq rfl rfl (qT (by omega))) rfl rfl ?_ | refine qv rfl (rr_leq rfl rfl (qF (by omega))) rfl rfl ?_ | refine qv rfl (rr_gtr rfl rfl (qT (by omega))) rfl rfl ?_ | refine qv rfl (rr_gtr rfl rfl (qF (by omega))) rfl rfl ?_ | refine qv rfl (rr_add64 rfl rfl (by omega) (by omega) rfl) rfl rfl ?_))
              exact E_ret1e rfl rfl rfl
          | false =>
            by_cases c : i ≤ S.length
            · have q1 : (S.take i).length ≤ 60 := by rw [List.length_take]; omega
              have q2 : (S.drop i).length ≤ 60 := by rw [List.length_drop]; omega
              obtain ⟨bx, ex, lx⟩ := hx (S.take i) (by omega)
              obtain ⟨by', ey, ly⟩ := hy (S.drop i) (by omega)
              have c1 := i3 (S.take i) q1
              have c2 := i4 (S.drop i) q2
              rw [ex] at c1
              rw [ey] at c2
              dsimp only at c1 c2
              have hn := cut_next hc hi1 c lx ly
              clear i3 i4 ex ey lx ly
              repeat (first
                | refine qv rfl (qp rfl) rfl rfl ?_ | refine TL_nil ?_ | refine T_seq ?_ | refine T_region ?_ | refine qcT rfl ?_ | refine qcF rfl ?_ | refine T_skip ?_
                | refine T_exit ?_ | refine T_ret ?_ | refine T_block ?_ | refine E_then ?_ | refine E_thenX ?_ | refine E_thenR ?_ | refine E_blockN ?_
                | refine E_blockR ?_ | refine E_blockX ?_ | refine E_blockO rfl ?_ | refine qs rfl rfl rfl rfl rfl rfl ?_
                | ((try refine qg rfl rfl rfl ?_); first | refine qv rfl (qp rfl) rfl rfl ?_ | refine qv rfl (rr_strlen Und.eq rfl) rfl rfl ?_ | refine qv rfl (rr_strlen Und.eq rfl) rfl rfl ?_ | refine qv rfl (rr_not rfl rfl) rfl rfl ?_ | refine qv rfl (rr_leq rfl rfl (qT (by omega))) rfl rfl ?_ | refine qv rfl (rr_leq rfl rfl (qF (by omega))) rfl rfl ?_ | refine qv rfl (rr_gtr rfl rfl (qT (by omega))) rfl rfl ?_ | refine qv rfl (rr_gtr rfl rfl (qF (by omega))) rfl rfl ?_ | refine qv rfl (rr_add64 rfl rfl (by omega) (by omega) rfl) rfl rfl ?_))
              (repeat refine T_seq ?_)
              refine T_ord ([blkO g2 (rexV kr cr (.slice br nr capr)).cells 44]) (.calm 0 (.calm 1 (.calm 2 (.calm 3 (.calm 4 (.calm 5 (.calm 6 (.calm 7 (.calm 8 (.calm 9 (.done))))))))))) (sub_pick [0] (by decide) rfl) (by kernel_rfl) (by kernel_rfl) (by intro c a d v w h; cases d <;> exact h) ?_
              repeat (first
                | ((first | refine TW_plain rfl rfl ?_ | refine TW_gmet rfl rfl rfl rfl ?_); first | refine TN_val (qp rfl) rfl rfl ?_ | refine TN_val (rr_loadB (i := 0) TyC.ty rfl rfl rfl) rfl rfl ?_ | refine TN_val (rr_strupto Und.eq rfl rfl c) rfl rfl ?_ | refine TN_val (rr_strlen Und.eq rfl) rfl rfl ?_ | refine TN_val (rr_not rfl rfl) rfl rfl ?_ | refine TN_val (rr_leq rfl rfl (qT (by omega))) rfl rfl ?_ | refine TN_val (rr_leq rfl rfl (qF (by omega))) rfl rfl ?_ | refine TN_val (rr_gtr rfl rfl (qT (by omega))) rfl rfl ?_ | refine TN_val (rr_gtr rfl rfl (qF (by omega))) rfl rfl ?_ | refine TN_val (rr_add64 rfl rfl (by omega) (by omega) rfl) rfl rfl ?_)
                | refine TW_skip rfl rfl rfl rfl rfl rfl rfl ?_ | refine TW_done ?_)
              refine TW_call rfl (he2 EntersC.en rfl rfl rfl) (fun w hm => c1 _ (hT.up hm) hm.below) rfl rfl rfl ?_
              repeat (first
                | ((first | refine TW_plain rfl rfl ?_ | refine TW_gmet rfl rfl rfl rfl ?_); first | refine TN_val (qp rfl) rfl rfl ?_ | refine TN_val (rr_strlen Und.eq rfl) rfl rfl ?_ | refine TN_val (rr_not rfl rfl) rfl rfl ?_ | refine TN_val (rr_leq rfl rfl (qT (by omega))) rfl rfl ?_ | refine TN_val (rr_leq rfl rfl (qF (by omega))) rfl rfl ?_ | refine TN_val (rr_gtr rfl rfl (qT (by omega))) rfl rfl ?_ | refine TN_val (rr_gtr rfl rfl (qF (by omega))) rfl rfl ?_ | refine TN_val (rr_add64 rfl rfl (by omega) (by omega) rfl) rfl rfl ?_)
                | refine TW_skip rfl rfl rfl rfl rfl rfl rfl ?_ | refine TW_done ?_)
              repeat (first
                | refine qv rfl (qp rfl) rfl rfl ?_ | refine TL_nil ?_ | refine T_seq ?_ | refine T_region ?_ | refine qcT rfl ?_ | refine qcF rfl ?_ | refine T_skip ?_
                | refine T_exit ?_ | refine T_ret ?_ | refine T_block ?_ | refine E_then ?_ | refine E_thenX ?_ | refine E_thenR ?_ | refine E_blockN ?_
                | refine E_blockR ?_ | refine E_blockX ?_ | refine E_blockO rfl ?_ | refine qs rfl rfl rfl rfl rfl rfl ?_
                | ((try refine qg rfl rfl rfl ?_); first | refine qv rfl (qp rfl) rfl rfl ?_ | refine qv rfl (rr_strlen Und.eq rfl) rfl rfl ?_ | refine qv rfl (rr_not rfl rfl) rfl rfl ?_ | refine qv rfl (rr_leq rfl rfl (qT (by omega))) rfl rfl ?_ | refine qv rfl (rr_leq rfl rfl (qF (by omega))) rfl rfl ?_ | refine qv rfl (rr_gtr rfl rfl (qT (by omega))) rfl rfl ?_ | refine qv rfl (rr_gtr rfl rfl (qF (by omega))) rfl rfl ?_ | refine qv rfl (rr_add64 rfl rfl (by omega) (by omega) rfl) rfl rfl ?_))
              (repeat refine T_seq ?_)
              refine T_ord ([blkO g2 (rexV kr cr (.slice br nr capr)).cells 44]) (.calm 0 (.calm 2 (.calm 3 (.calm 4 (.one 1 (.one 5 (.calm 6 (.calm 7 (.calm 8 (.calm 9 (.calm 10 (.done)))))))))))) (sub_pick [0] (by decide) rfl) (by kernel_rfl) (by kernel_rfl) (by intro c a d v w h; cases d <;> exact h) ?_
              repeat (first
                | ((first | refine TW_plain rfl rfl ?_ | refine TW_gmet rfl rfl rfl rfl ?_); first | refine TN_val (qp rfl) rfl rfl ?_ | refine TN_val (rr_loadB (i := 0) TyC.ty rfl rfl rfl) rfl rfl ?_ | refine TN_val (rr_strfrom Und.eq rfl rfl c) rfl rfl ?_ | refine TN_val (rr_strlen Und.eq rfl) rfl rfl ?_ | refine TN_val (rr_not rfl rfl) rfl rfl ?_ | refine TN_val (rr_leq rfl rfl (qT (by omega))) rfl rfl ?_ | refine TN_val (rr_leq rfl rfl (qF (by omega))) rfl rfl ?_ | refine TN_val (rr_gtr rfl rfl (qT (by omega))) rfl rfl ?_ | refine TN_val (rr_gtr rfl rfl (qF (by omega))) rfl rfl ?_ | refine TN_val (rr_add64 rfl rfl (by omega) (by omega) rfl) rfl rfl ?_)
                | refine TW_skip rfl rfl rfl rfl rfl rfl rfl ?_ | refine TW_done ?_)
              refine TW_one rfl (TL_call (he1 EntersC.en rfl rfl) (fun w hm => star_calls _ _ _ _ _ w) rfl rfl rfl fun g _ => ?_)
              conv => arg 8; simp only [zA, zB, zC, zD, zE, zF, zG, zH, zI, rowS, ret, id_eq, starS]
              refine TW_on (sub_pick [0] (by decide) rfl) ?_
              refine TW_one rfl (TL_call (he2 EntersC.en rfl rfl rfl) (fun w hm => c2 w (hT.up hm) g (star_rexK (hm.get (i := 1) rfl) (hr0.gr hm.below))) rfl rfl rfl fun _ _ => ?_)
              refine TW_on (sub_pick [0] (by decide) rfl) ?_
              repeat (first
                | ((first | refine TW_plain rfl rfl ?_ | refine TW_gmet rfl rfl rfl rfl ?_); first | refine TN_val (qp rfl) rfl rfl ?_ | refine TN_val (rr_strlen Und.eq rfl) rfl rfl ?_ | refine TN_val (rr_not rfl rfl) rfl rfl ?_ | refine TN_val (rr_leq rfl rfl (qT (by omega))) rfl rfl ?_ | refine TN_val (rr_leq rfl rfl (qF (by omega))) rfl rfl ?_ | refine TN_val (rr_gtr rfl rfl (qT (by omega))) rfl rfl ?_ | refine TN_val (rr_gtr rfl rfl (qF (by omega))) rfl rfl ?_ | refine TN_val (rr_add64 rfl rfl (by omega) (by omega) rfl) rfl rfl ?_)
                | refine TW_skip rfl rfl rfl rfl rfl rfl rfl ?_ | refine TW_done ?_)
              cases bx with
              | true =>
                repeat (first
                  | refine qv rfl (qp rfl) rfl rfl ?_ | refine TL_nil ?_ | refine T_seq ?_ | refine T_region ?_ | refine qcT rfl ?_ | refine qcF rfl ?_ | refine T_skip ?_
                  | refine T_exit ?_ | refine T_ret ?_ | refine T_block ?_ | refine E_then ?_ | refine E_thenX ?_ | refine E_thenR ?_ | refine E_blockN ?_
                  | refine E_blockR ?_ | refine E_blockX ?_ | refine E_blockO rfl ?_ | refine qs rfl rfl rfl rfl rfl rfl ?_
                  | ((try refine qg rfl rfl rfl ?_); first | refine qv rfl (qp rfl) rfl rfl ?_ | refine qv rfl (rr_strlen Und.eq rfl) rfl rfl ?_ | refine qv rfl (rr_not rfl rfl) rfl rfl ?_ | refine qv rfl (rr_leq rfl rfl (qT (by omega))) rfl rfl ?_ | refine qv rfl (rr_leq rfl rfl (qF (by omega))) rfl rfl ?_ | refine qv rfl (rr_gtr rfl rfl (qT (by omega))) rfl rfl ?_ | refine qv rfl (rr_gtr rfl rfl (qF (by omega))) rfl rfl ?_ | refine qv rfl (rr_add64 rfl rfl (by omega) (by omega) rfl) rfl rfl ?_))
                refine E_pick [0] (by decide) rfl ?_
                exact E_round (i + 1, by') ⟨by show 1 ≤ i + 1; omega, by show i + 1 ≤ S.length + 1; omega, hn⟩ (by show S.length + 1 - (i + 1) < S.length + 1 - i; omega) (by repeat' (first | exact True.intro | refine And.intro rfl ?_)) rfl
              | false =>
                repeat (first
                  | refine qv rfl (qp rfl) rfl rfl ?_ | refine TL_nil ?_ | refine T_seq ?_ | refine T_region ?_ | refine qcT rfl ?_ | refine qcF rfl ?_ | refine T_skip ?_
                  | refine T_exit ?_ | refine T_ret ?_ | refine T_block ?_ | refine E_then ?_ | refine E_thenX ?_ | refine E_thenR ?_ | refine E_blockN ?_
                  | refine E_blockR ?_ | refine E_blockX ?_ | refine E_blockO rfl ?_ | refine qs rfl rfl rfl rfl rfl rfl ?_
                  | ((try refine qg rfl rfl rfl ?_); first | refine qv rfl (qp rfl) rfl rfl ?_ | refine qv rfl (rr_strlen Und.eq rfl) rfl rfl ?_ | refine qv rfl (rr_not rfl rfl) rfl rfl ?_ | refine qv rfl (rr_leq rfl rfl (qT (by omega))) rfl rfl ?_ | refine qv rfl (rr_leq rfl rfl (qF (by omega))) rfl rfl ?_ | refine qv rfl (rr_gtr rfl rfl (qT (by omega))) rfl rfl ?_ | refine qv rfl (rr_gtr rfl rfl (qF (by omega))) rfl rfl ?_ | refine qv rfl (rr_add64 rfl rfl (by omega) (by omega) rfl) rfl rfl ?_))
                refine E_pick [0] (by decide) rfl ?_
                exact E_round (i + 1, false) ⟨by show 1 ≤ i + 1; omega, by show i + 1 ≤ S.length + 1; omega, hn⟩ (by show S.length + 1 - (i + 1) < S.length + 1 - i; omega) (by repeat' (first | exact True.intro | refine And.intro rfl ?_)) rfl
            · have ha : a = false := by
                cases a with
                | false => rfl
                | true =>
                  rcases star_cut.1 (hxy.1 rfl) with hh | hh
                  · exact absurd hh hz
                  · have := (cut_end hc (.inr (by omega))).2 hh
                    cases this
              subst ha
              repeat (first
                | refine qv rfl (qp rfl) rfl rfl ?_ | refine TL_nil ?_ | refine T_seq ?_ | refine T_region ?_ | refine qcT rfl ?_ | refine qcF rfl ?_ | refine T_skip ?_
                | refine T_exit ?_ | refine T_ret ?_ | refine T_block ?_ | refine E_then ?_ | refine E_thenX ?_ | refine E_thenR ?_ | refine E_blockN ?_
                | refine E_blockR ?_ | refine E_blockX ?_ | refine E_blockO rfl ?_ | refine qs rfl rfl rfl rfl rfl rfl ?_
                | ((try refine qg rfl rfl rfl ?_); first | refine qv rfl (qp rfl) rfl rfl ?_ | refine qv rfl (rr_strlen Und.eq rfl) rfl rfl ?_ | refine qv rfl (rr_booleq (c := true) Und.eq rfl rfl rfl) rfl rfl ?_ | refine qv rfl (rr_strlen Und.eq rfl) rfl rfl ?_ | refine qv rfl (rr_not rfl rfl) rfl rfl ?_ | refine qv rfl (rr_leq rfl rfl (qT (by omega))) rfl rfl ?_ | refine qv rfl (rr_leq rfl rfl (qF (by omega))) rfl rfl ?_ | refine qv rfl (rr_gtr rfl rfl (qT (by omega))) rfl rfl ?_ | refine qv rfl (rr_gtr rfl rfl (qF (by omega))) rfl rfl ?_ | refine qv rfl (rr_add64 rfl rfl (by omega) (by omega) rfl) rfl rfl ?_))
              exact E_ret1e rfl rfl rfl
end Go.Proofs.YtbiacehgfmgfdaaDoor.rexStars
