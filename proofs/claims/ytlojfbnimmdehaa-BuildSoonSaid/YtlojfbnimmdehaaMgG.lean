/- Part 7 of what BuildSoon needs: BuildSoonW. -/
import Derived.Test.YtlojfbnimmdehaaMgF
import Derived.WalkKit
import Derived.WalkSpells
import Derived.WalkLawsBesides
import Derived.Deep.RegionLaw
import Derived.Deep.AppendLies
import Derived.Deep.QuietTactic
import Derived.BigQuiet
import Derived.Deep.DeepCutAuto
import Derived.Lib.Hide
import Derived.Test.YtlojfbnimmdehaaRows
import Derived.ProofKit
import Derived.OpenShut
import Derived.ShutString
import Derived.SizedLaws
import Derived.JoinedCond
import Derived.Deep.CondSized
import Derived.Deep.Quiet
import Derived.StillTail
import Derived.Deep.LoopGhost
import Derived.Laws.BitsLemmas
import Derived.Laws.BytesString
import Derived.Test.YtlojfbnimmdehaaProg
import Derived.Laws.StructEq
import Derived.Laws.MakeOwn
import Derived.Laws.AppendOwn
import Derived.Laws.Entries
import Derived.Maps.OwnSet
import Derived.DeepKeys4
import Derived.WideKeyEntry
import Derived.Sort.Grow
import Derived.Lib.Walk
import Derived.Deep.RegionWith
import Derived.Deep.RegionHeld
import Derived.StringKeys
import Derived.Laws.BitsAllLaws
import Derived.Shelf.SlGeneric
import Derived.Shelf.SlSortCmp.NoneTotal
import Derived.Ground.SlsfProg
/- BuildSoonW -/
namespace Go.Proofs.Ytlojfbnimmdehaa.buildSoon
open Go.RowKit kit mix gramL treeL countL factsL itemL derL eng
theorem brk_tab : LrOk brkG 2 1 (actTab brkP 2 brkNx brkSt 10) (gotoTab 2 brkNx 10) := brk_made.tab
theorem brk_run : (bRun brkG.prods (actT (actTab brkP 2 brkNx brkSt 10)) (gotoT (gotoTab 2 brkNx 10)) 2 [0, 1, 1, 0] [0] 0 []).2 = (2, 13) := by kernel_rfl
set_option maxRecDepth 100000 in
set_option maxHeartbeats 8000000 in
theorem walk (w : World) (v : Value) (g : Gram) (h : GraR (fun k => k < w.heap.size) w v g) (_ : g.prods.length * 32 ≤ 140737488351232) (vw : Value) (word : List Int) (hs : Sl w vw word.length (word.map (.int .i64))) (_ : ∀ n ∈ word, kit.okI64 n) (hl : word.length * 8 ≤ 140737488351232) :
    Calls Try.prog 6 #[v, vw] w (Meets (ret (.bool true)) w) := by
  have hT := fun w' (hg : Gr w w') => trees_calls v vw g word w' (h.gr hg) (hs.gr hg)
  have hA := fun w' (hg : Gr w w') => calm_calls v g w' (h.gr hg)
  have hC := fun t T N A G w' (hg : Gr w w') ht hk hw hl => built_calls v t vw g T N A G word w' (h.gr hg) ht (hs.gr hg) hk hw hl
  have hS := fun had n e w' (hg : Gr w w') hc hn hle H => soon_calls v vw g word had n e w' (h.gr hg) (hs.gr hg) hc hn hle H
  obtain ⟨vp, rfl, -⟩ := h
  refine enter (args := [graV g.terms g.nons vp, vw]) (n := 65) Try.func6 rfl rfl rfl ?_
  refine T_seq (T_region (TL_box rfl rfl rfl fun g2 => ?_))
  conv=>arg 8;simp only[zA,zB,zC,zD,zE,zF,zG,zH,zI,rowS,ret,id_eq]
  repeat(first|refine QV QP ?_|refine QZ ?_|refine qcT rfl ?_|refine qcF rfl ?_|refine qs rfl rfl rfl rfl rfl rfl ?_|((try refine qg rfl rfl rfl ?_);first|refine QV QP ?_|refine QV (rr_not rfl rfl) ?_|refine QV QnT ?_|refine QV QnF ?_))
  refine TL_call (he0 EntersC.en rfl) (fun w hm => brackets_calls w) rfl rfl rfl ?_
  rintro ⟨vb, F1⟩ _
  conv=>arg 8;simp only[zA,zB,zC,zD,zE,zF,zG,zH,zI,rowS,ret,id_eq, gramS]
  conv => arg 7; simp only [gramS]
  refine TL_call (he1 EntersC.en rfl rfl) (fun w' hm => calm_calls _ brkG w' (prodsO_gra ok2 ok1 (hm.get (i := 1) rfl))) rfl rfl rfl ?_
  rintro x _
  unfold calmS tabL
  rw [brk_calm, brk_outT]
  conv=>arg 8;simp only[zA,zB,zC,zD,zE,zF,zG,zH,zI,rowS,ret,id_eq]
  refine TL_know (i := 2) rfl (fun w h => row_slm w h) fun hrow => ?_
  obtain ⟨aA, cA, hvA, -⟩ := hrow
  refine TL_know (i := 4) rfl (fun w h => row_slm w h) fun hrow => ?_
  obtain ⟨aG, cG, hvG, -⟩ := hrow
  obtain ⟨vA, vas, FA, vG, vgs, FG⟩ := x
  dsimp only at hvA hvG ⊢
  subst hvA hvG
  repeat(first|refine QV QP ?_|refine QZ ?_|refine qcT rfl ?_|refine qcF rfl ?_|refine qs rfl rfl rfl rfl rfl rfl ?_|((try refine qg rfl rfl rfl ?_);first|refine QV QP ?_|refine QV (rr_not rfl rfl) ?_|refine QV QnT ?_|refine QV QnF ?_))
  refine TL_new rfl fun g5 => ?_
  conv=>arg 8;simp only[zA,zB,zC,zD,zE,zF,zG,zH,zI,rowS,ret,id_eq]
  refine TL_storeB (i := 6) rfl rfl rfl rfl rfl rfl ?_
  conv=>arg 8;simp only[zA,zB,zC,zD,zE,zF,zG,zH,zI,rowS,ret,id_eq]
  repeat(first|refine QV QP ?_|refine QZ ?_|refine qcT rfl ?_|refine qcF rfl ?_|refine qs rfl rfl rfl rfl rfl rfl ?_|((try refine qg rfl rfl rfl ?_);first|refine QV QP ?_|refine QV (rr_not rfl rfl) ?_|refine QV QnT ?_|refine QV QnF ?_))
  refine T_ord ([blkO g5 #[.slice aA (actTab brkP 2 brkNx brkSt 10).length cA, .slice aG (gotoTab 2 brkNx 10).length cG] 29]) (.calm 1 (.two 0 (.one 2 (.one 3 (.calm 4 (.calm 5 (.calm 6 (.calm 7 (.calm 8 (.calm 9 (.calm 10 (.done)))))))))) 2 (.one 0 (.one 3 (.calm 4 (.calm 5 (.calm 6 (.calm 7 (.calm 8 (.calm 9 (.calm 10 (.done)))))))))))) (sub_pick [6] (by decide) rfl) (by kernel_rfl) (by kernel_rfl) (by intro c a d v w h; cases d <;> exact h) ?_
  repeat(first|((first|refine TW_plain rfl rfl ?_|refine TW_gmet rfl rfl rfl rfl ?_);first|refine QW QP ?_|refine QW (rr_loadB (i := 0) TyC.ty rfl rfl rfl) ?_|refine QW (rr_not rfl rfl) ?_|refine QW QnT ?_|refine QW QnF ?_)|refine TW_skip rfl rfl rfl rfl rfl rfl rfl ?_|refine TW_done ?_)
  refine TW_two rfl rfl ?bs1 ?bs2
  case' bs1 =>
    refine TL_call (he0 EntersC.en rfl) (fun w hm => brackets_calls w) rfl rfl rfl ?_
    rintro ⟨vb2, F2⟩ _
    conv=>arg 8;simp only[zA,zB,zC,zD,zE,zF,zG,zH,zI,rowS,ret,id_eq, gramS]
    conv => arg 7; simp only [gramS]
    refine TW_on (sub_pick [6] (by decide) rfl) ?_
    refine TW_one rfl (TL_litV [.int .i64 0, .int .i64 1, .int .i64 1, .int .i64 0] rfl rfl rfl (by intro v hv; simp at hv; rcases hv with rfl | rfl | rfl | rfl <;> rfl) rfl rfl fun g24 => ?_)
    conv=>arg 8;simp only[zA,zB,zC,zD,zE,zF,zG,zH,zI,rowS,ret,id_eq]
    refine TL_toRow (i := 8) (m := 4) 1 rfl rfl (by omega) ?_
    conv=>arg 8;simp only[zA,zB,zC,zD,zE,zF,zG,zH,zI,rowS,ret,id_eq]
    refine TW_on (sub_pick [6] (by decide) rfl) ?_
    refine TW_one rfl (TL_call (he3 EntersC.en rfl rfl rfl rfl) (fun w hm => built_calls _ _ _ brkG 2 1 _ _ [0, 1, 1, 0] w (prodsO_gra ok2 ok1 (hm.get (i := 7) rfl)) (tabR_of (x := ⟨_, vas, FA, _, vgs, FG⟩) (hm.get (i := 2) rfl) (hm.get (i := 3) rfl) (hm.get (i := 4) rfl) (hm.get (i := 5) rfl)) (Sl.of_own (hm.get (i := 8) rfl)) brk_tab (by decide) (by decide)) rfl rfl rfl ?_)
  case' bs2 =>
    refine TL_litV [.int .i64 0, .int .i64 1, .int .i64 1, .int .i64 0] rfl rfl rfl (by intro v hv; simp at hv; rcases hv with rfl | rfl | rfl | rfl <;> rfl) rfl rfl fun g24 => ?_
    conv=>arg 8;simp only[zA,zB,zC,zD,zE,zF,zG,zH,zI,rowS,ret,id_eq]
    refine TL_toRow (i := 7) (m := 4) 1 rfl rfl (by omega) ?_
    conv=>arg 8;simp only[zA,zB,zC,zD,zE,zF,zG,zH,zI,rowS,ret,id_eq]
    refine TW_on (sub_pick [6] (by decide) rfl) ?_
    refine TW_one rfl (TL_call (he0 EntersC.en rfl) (fun w hm => brackets_calls w) rfl rfl rfl ?_)
    rintro ⟨vb2, F2⟩ _
    conv=>arg 8;simp only[zA,zB,zC,zD,zE,zF,zG,zH,zI,rowS,ret,id_eq, gramS]
    conv => arg 7; simp only [gramS]
    refine TW_on (sub_pick [6] (by decide) rfl) ?_
    refine TW_one rfl (TL_call (he3 EntersC.en rfl rfl rfl rfl) (fun w hm => built_calls _ _ _ brkG 2 1 _ _ [0, 1, 1, 0] w (prodsO_gra ok2 ok1 (hm.get (i := 8) rfl)) (tabR_of (x := ⟨_, vas, FA, _, vgs, FG⟩) (hm.get (i := 2) rfl) (hm.get (i := 3) rfl) (hm.get (i := 4) rfl) (hm.get (i := 5) rfl)) (Sl.of_own (hm.get (i := 7) rfl)) brk_tab (by decide) (by decide)) rfl rfl rfl ?_)
  all_goals
    intro vo _
    conv=>arg 8;simp only[zA,zB,zC,zD,zE,zF,zG,zH,zI,rowS,ret,id_eq, climbedS]
    conv => arg 7; simp only [climbedS]
    rw [brk_run]
    refine TW_on (sub_pick [6] (by decide) rfl) ?_
    repeat(first|((first|refine TW_plain rfl rfl ?_|refine TW_gmet rfl rfl rfl rfl ?_);first|refine QW QP ?_|refine QW (rr_not rfl rfl) ?_|refine QW QnT ?_|refine QW QnF ?_)|refine TW_skip rfl rfl rfl rfl rfl rfl rfl ?_|refine TW_done ?_)
    refine E_pick [0, 6] (by decide) rfl ?_
    repeat(first|refine QV QP ?_|refine QZ ?_|refine qcT rfl ?_|refine qcF rfl ?_|refine qs rfl rfl rfl rfl rfl rfl ?_|((try refine qg rfl rfl rfl ?_);first|refine QV QP ?_|refine QV (rr_loadB (i := 0) TyC.ty rfl rfl rfl) ?_|refine QV (rr_not rfl rfl) ?_|refine QV QnT ?_|refine QV QnF ?_))
    refine TL_call (he1 EntersC.en rfl rfl) (fun w' hm => hA w' hm.below) rfl rfl rfl ?_
    rintro x2 _
    unfold calmS tabL
    conv=>arg 8;simp only[zA,zB,zC,zD,zE,zF,zG,zH,zI,rowS,ret,id_eq]
    cases hc : calmB g
    · generalize outT g = R at *
      refine TL_know (i := 2) rfl (fun w h => row_slm w h) fun hrow => ?_
      obtain ⟨aA2, cA2, hvA2, -⟩ := hrow
      refine TL_know (i := 4) rfl (fun w h => row_slm w h) fun hrow => ?_
      obtain ⟨aG2, cG2, hvG2, -⟩ := hrow
      obtain ⟨vA2, vas2, FA2, vG2, vgs2, FG2⟩ := x2
      dsimp only at hvA2 hvG2 ⊢
      subst hvA2 hvG2
      repeat(first|refine QV QP ?_|refine QZ ?_|refine qcT rfl ?_|refine qcF rfl ?_|refine qs rfl rfl rfl rfl rfl rfl ?_|((try refine qg rfl rfl rfl ?_);first|refine QV QP ?_|refine QV (rr_not rfl rfl) ?_|refine QV QnT ?_|refine QV QnF ?_))
      refine TL_storeB (i := 1) rfl rfl rfl rfl rfl rfl ?_
      conv=>arg 8;simp only[zA,zB,zC,zD,zE,zF,zG,zH,zI,rowS,ret,id_eq]
      repeat(first|refine QV QP ?_|refine QZ ?_|refine qcT rfl ?_|refine qcF rfl ?_|refine qs rfl rfl rfl rfl rfl rfl ?_|((try refine qg rfl rfl rfl ?_);first|refine QV QP ?_|refine QV (rr_loadB (i := 0) TyC.ty rfl rfl rfl) ?_|refine QV (rr_not rfl rfl) ?_|refine QV QnT ?_|refine QV QnF ?_))
      refine TL_call (he2 EntersC.en rfl rfl rfl) (fun w hm => hT _ hm.below) rfl rfl rfl ?_
      intro _ _
      conv=>arg 8;simp only[zA,zB,zC,zD,zE,zF,zG,zH,zI,rowS,ret,id_eq]
      repeat(first|refine QV QP ?_|refine QZ ?_|refine qcT rfl ?_|refine qcF rfl ?_|refine qs rfl rfl rfl rfl rfl rfl ?_|((try refine qg rfl rfl rfl ?_);first|refine QV QP ?_|refine QV (rr_not rfl rfl) ?_|refine QV QnT ?_|refine QV QnF ?_))
      exact E_ret1 rfl rfl fun w hm => hm.ret
    · obtain ⟨T, N, Nx, S, hMd⟩ := calm_made hc
      rw [hMd.acts, hMd.gos]
      have hsoon := fun hck hM => bR_soon hMd hc (W := word) hck hM
      have htab := hMd.tab
      have htm := hMd.terms
      have hnn := hMd.nons
      have hle := bR_le (g := g) (T := T) (Nx := Nx) (S := S) (W := word)
      have hgr := hMd.gram
      unfold bR at hsoon hle
      clear hMd hA
      generalize actTab g.prods T Nx S S.length = A2 at *
      generalize gotoTab T Nx S.length = G2 at *
      refine TL_know (i := 2) rfl (fun w h => row_slm w h) fun hrow => ?_
      obtain ⟨aA2, cA2, hvA2, -⟩ := hrow
      refine TL_know (i := 4) rfl (fun w h => row_slm w h) fun hrow => ?_
      obtain ⟨aG2, cG2, hvG2, -⟩ := hrow
      obtain ⟨vA2, vas2, FA2, vG2, vgs2, FG2⟩ := x2
      dsimp only at hvA2 hvG2 ⊢
      subst hvA2 hvG2
      repeat(first|refine QV QP ?_|refine QZ ?_|refine qcT rfl ?_|refine qcF rfl ?_|refine qs rfl rfl rfl rfl rfl rfl ?_|((try refine qg rfl rfl rfl ?_);first|refine QV QP ?_|refine QV (rr_not rfl rfl) ?_|refine QV QnT ?_|refine QV QnF ?_))
      refine TL_storeB (i := 1) rfl rfl rfl rfl rfl rfl ?_
      conv=>arg 8;simp only[zA,zB,zC,zD,zE,zF,zG,zH,zI,rowS,ret,id_eq]
      repeat(first|refine QV QP ?_|refine QZ ?_|refine qcT rfl ?_|refine qcF rfl ?_|refine qs rfl rfl rfl rfl rfl rfl ?_|((try refine qg rfl rfl rfl ?_);first|refine QV QP ?_|refine QV (rr_loadB (i := 0) TyC.ty rfl rfl rfl) ?_|refine QV (rr_not rfl rfl) ?_|refine QV QnT ?_|refine QV QnF ?_))
      refine TL_call (he2 EntersC.en rfl rfl rfl) (fun w hm => hT _ hm.below) rfl rfl rfl ?_
      intro _ _
      conv=>arg 8;simp only[zA,zB,zC,zD,zE,zF,zG,zH,zI,rowS,ret,id_eq]
      by_cases c1 : checkC g word = 0
      · obtain ⟨_, k1, k2⟩ := checkC_ok c1
        have hsoon := hsoon c1
        have hw : ∀ x ∈ word, 0 ≤ x ∧ x < (T : Int) := by
          intro x hx
          rw [← htm]; exact k2 x hx
        repeat(first|refine QV QP ?_|refine QZ ?_|refine qcT rfl ?_|refine qcF rfl ?_|refine qs rfl rfl rfl rfl rfl rfl ?_|((try refine qg rfl rfl rfl ?_);first|refine QV QP ?_|refine QV (rr_neq (b := false) rfl rfl (decide_eq_false (by omega))) ?_|refine QV (rr_loadB (i := 0) TyC.ty rfl rfl rfl) ?_|refine QV (rr_loadB (i := 1) TyC.ty rfl rfl rfl) ?_|refine QV (rr_not rfl rfl) ?_|refine QV QnT ?_|refine QV QnF ?_))
        refine TL_call (he3 EntersC.en rfl rfl rfl rfl) (fun w' hm => hC _ T N A2 G2 w' hm.below (tabR_of (x := ⟨_, vas2, FA2, _, vgs2, FG2⟩) (hm.get (i := 2) rfl) (hm.get (i := 3) rfl) (hm.get (i := 4) rfl) (hm.get (i := 5) rfl)) htab hw (by omega)) rfl rfl rfl ?_
        intro vl _
        conv=>arg 8;simp only[zA,zB,zC,zD,zE,zF,zG,zH,zI,rowS,ret,id_eq, climbedS]
        conv => arg 7; simp only [climbedS]
        clear hC
        generalize bRun g.prods (actT A2) (gotoT G2) T word [0] 0 [] = R at *
        obtain ⟨l, had, e⟩ := R
        dsimp only at *
        repeat(first|refine QV QP ?_|refine QZ ?_|refine qcT rfl ?_|refine qcF rfl ?_|refine qs rfl rfl rfl rfl rfl rfl ?_|((try refine qg rfl rfl rfl ?_);first|refine QV QP ?_|refine QV (rr_loadB (i := 0) TyC.ty rfl rfl rfl) ?_|refine QV (rr_not rfl rfl) ?_|refine QV QnT ?_|refine QV QnF ?_))
        refine TL_call (he4 EntersC.en rfl rfl rfl rfl rfl) (fun w' hm => hS had N e w' hm.below c1 hnn hle (fun hM h14 => by
          obtain ⟨⟨_, _, m1⟩, hS2⟩ := sound_of hgr hnn
          refine hsoon (fun i hi => hS2.2 i ?_) h14
          have hi2 : i < (ofS N g.prods).M.length := by rw [m1]; exact hi
          rw [List.getD_eq_getElem?_getD, List.getElem?_eq_getElem hi2]
          rw [List.any_eq_false] at hM
          have := hM _ (List.getElem_mem hi2)
          show (ofS N g.prods).M[i] = true
          cases hb : (ofS N g.prods).M[i] with
          | true => rfl
          | false => rw [hb] at this; exact absurd rfl this)) rfl rfl rfl ?_
        intro _ _
        repeat(first|refine QV QP ?_|refine QZ ?_|refine qcT rfl ?_|refine qcF rfl ?_|refine qs rfl rfl rfl rfl rfl rfl ?_|((try refine qg rfl rfl rfl ?_);first|refine QV QP ?_|refine QV (rr_not rfl rfl) ?_|refine QV QnT ?_|refine QV QnF ?_))
        exact E_ret1 rfl rfl fun w hm => hm.ret
      · repeat(first|refine QV QP ?_|refine QZ ?_|refine qcT rfl ?_|refine qcF rfl ?_|refine qs rfl rfl rfl rfl rfl rfl ?_|((try refine qg rfl rfl rfl ?_);first|refine QV QP ?_|refine QV (rr_neq (b := true) rfl rfl (decide_eq_true c1)) ?_|refine QV (rr_not rfl rfl) ?_|refine QV QnT ?_|refine QV QnF ?_))
        exact E_ret1 rfl rfl fun w hm => hm.ret
end Go.Proofs.Ytlojfbnimmdehaa.buildSoon

