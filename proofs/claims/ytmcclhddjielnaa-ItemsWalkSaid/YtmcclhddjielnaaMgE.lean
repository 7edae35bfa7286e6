/- Part 5 of what ItemsWalk needs: ItemsWalkW. -/
import Derived.Test.YtmcclhddjielnaaMgD
import Derived.WalkKit
import Derived.WalkSpells
import Derived.WalkLawsBesides
import Derived.Deep.RegionLaw
import Derived.Deep.AppendLies
import Derived.Deep.QuietTactic
import Derived.BigQuiet
import Derived.Deep.DeepCutAuto
import Derived.Lib.Hide
import Derived.Test.YtmcclhddjielnaaRows
import Derived.ProofKit
import Derived.OpenShut
import Derived.ShutString
import Derived.SizedLaws
import Derived.JoinedCond
import Derived.Deep.CondSized
import Derived.Deep.Quiet
import Derived.StillTail
import Derived.Deep.LoopGhost
import Derived.Laws.BitsLemmas
import Derived.Laws.BytesString
import Derived.Test.YtmcclhddjielnaaProg
import Derived.Laws.StructEq
import Derived.Laws.MakeOwn
import Derived.Laws.AppendOwn
import Derived.Laws.Entries
import Derived.Maps.OwnSet
import Derived.DeepKeys4
import Derived.WideKeyEntry
import Derived.Sort.Grow
import Derived.Lib.Walk
import Derived.Deep.RegionWith
import Derived.Shelf.SlGeneric
import Derived.Shelf.SlSortCmp.NoneTotal
import Derived.Ground.SlsfProg
import Derived.Deep.RegionHeld
import Derived.Laws.BitsAllLaws
import Derived.StringKeys
/- ItemsWalkW -/
namespace Go.Proofs.Ytmcclhddjielnaa.eng
open Go.RowKit kit mix gramL treeL factsL itemL smallL
theorem brk_ok : checkG brkG = 0 := by kernel_rfl
theorem brk_out : outA brkG = (brkNx, brkSt, 0) := by
  unfold outA
  rw [if_neg (by rw [brk_ok]; simp)]
  rw [show allI brkG.prods brkG.terms.toNat brkG.nons.toNat (lkG brkG) = some (brkNx, brkSt) from brk_all]
theorem outA_ok {g : Gram} (h : (outA g).2.2 = 0) : checkG g = 0 ∧ allI g.prods g.terms.toNat g.nons.toNat (lkG g) = some ((outA g).1, (outA g).2.1) := by
  unfold outA at h ⊢
  by_cases c : checkG g = 0
  · rw [if_neg (by rw [c]; simp)] at h ⊢
    refine ⟨c, ?_⟩
    cases e : allI g.prods g.terms.toNat g.nons.toNat (lkG g) with
    | none => rw [e] at h; cases h
    | some r => rfl
  · rw [if_pos c] at h; exact absurd h c
theorem outA_no {g : Gram} (h : (outA g).2.2 ≠ 0) : (outA g).2.1 = [] ∧ (outA g).1 = [] := by
  unfold outA at h ⊢
  by_cases c : checkG g = 0
  · rw [if_neg (by rw [c]; simp)] at h ⊢
    cases e : allI g.prods g.terms.toNat g.nons.toNat (lkG g) with
    | none => exact ⟨rfl, rfl⟩
    | some r => rw [e] at h; exact absurd rfl h
  · rw [if_pos c]; exact ⟨rfl, rfl⟩
end Go.Proofs.Ytmcclhddjielnaa.eng
namespace Go.Proofs.Ytmcclhddjielnaa.itemsWalk
open Go.RowKit kit mix gramL treeL factsL itemL smallL eng
set_option maxHeartbeats 8000000 in
theorem walk (w : World) (v : Value) (g : Gram) (h : GraR (fun k => k < w.heap.size) w v g) (_ : g.prods.length * 32 ≤ 140737488351232) (vl : Value) (l : List Sym) (hl : Sl w vl l.length (l.flatMap symC)) :
    Calls Try.prog 4 #[v, vl] w (Meets (ret (.bool true)) w) := by
  have hC := fun vs s w' (hg : Gr w w') hs => itemsClosed_calls v g vs s w' (h.gr hg) hs
  have hS := fun vs s x w' (hg : Gr w w') hs => itemsStep_calls v g vs s x w' (h.gr hg) hs
  have hAl := fun w' (hg : Gr w w') => all_calls v g w' (h.gr hg)
  obtain ⟨vp, rfl, hp, ht, hn⟩ := id h
  obtain ⟨bp, cp, rfl, -⟩ := hp
  obtain ⟨bl, cl, rfl, hc1, hc2, hrl⟩ := hl
  unfold maxLen at hc2
  refine enter (args := [graV g.terms g.nons (.slice bp g.prods.length cp), .slice bl l.length cl]) (n := 146) Try.func4 rfl rfl rfl ?_
  refine T_seq (T_region (TL_box rfl rfl rfl fun g2 => ?_))
  conv => arg 8; simp only [zA, zB, zC, zD, zE, zF, zG, zH, zI, rowS, ret, id_eq]
  repeat (first
    | refine QV QP ?_ | refine QZ ?_ | refine qcT rfl ?_ | refine qcF rfl ?_ | refine E_blockX ?_ | refine E_blockO rfl ?_
    | refine qs rfl rfl rfl rfl rfl rfl ?_
    | ((try refine qg rfl rfl rfl ?_); first | refine QV QP ?_ | refine QV QL ?_ | refine QV QA ?_ | refine QV (rr_not rfl rfl) ?_ | refine QV QlT ?_ | refine QV QlF ?_ | refine QV QeT ?_ | refine QV QeF ?_ | refine QV QnT ?_ | refine QV QnF ?_ | refine QV QaA ?_))
  refine TL_call (he0 EntersC.en rfl) (fun w hm => brackets_calls w) rfl rfl rfl ?_
  rintro ⟨vk, F⟩ _
  conv => arg 8; simp only [zA, zB, zC, zD, zE, zF, zG, zH, zI, rowS, ret, id_eq, gramS]
  conv => arg 7; simp only [gramS]
  repeat (first
    | refine QV QP ?_ | refine QZ ?_ | refine qcT rfl ?_ | refine qcF rfl ?_ | refine E_blockX ?_ | refine E_blockO rfl ?_
    | refine qs rfl rfl rfl rfl rfl rfl ?_
    | ((try refine qg rfl rfl rfl ?_); first | refine QV QP ?_ | refine QV QL ?_ | refine QV QA ?_ | refine QV (rr_not rfl rfl) ?_ | refine QV QlT ?_ | refine QV QlF ?_ | refine QV QeT ?_ | refine QV QeF ?_ | refine QV QnT ?_ | refine QV QnF ?_ | refine QV QaA ?_))
  refine TL_call (he1 EntersC.en rfl rfl) (fun w hm => all_calls _ brkG w (prodsO_gra ok2 ok1 (hm.get (i := 1) rfl))) rfl rfl rfl ?_
  rintro ⟨vS0, vN0, vss0, F0, vns0, G0⟩ _
  conv => arg 8; simp only [zA, zB, zC, zD, zE, zF, zG, zH, zI, rowS, ret, id_eq, allS]
  conv => arg 7; simp only [allS]
  rw [brk_out]
  dsimp only
  refine TL_know (i := 2) rfl row_slm fun hrow => ?_
  obtain ⟨aS0, cS0, rfl, -⟩ := hrow
  refine TL_know (i := 4) rfl row_slm fun hrow => ?_
  obtain ⟨aN0, cN0, rfl, -⟩ := hrow
  repeat (first
    | refine QV QP ?_ | refine QZ ?_ | refine qcT rfl ?_ | refine qcF rfl ?_ | refine E_blockX ?_ | refine E_blockO rfl ?_
    | refine qs rfl rfl rfl rfl rfl rfl ?_
    | ((try refine qg rfl rfl rfl ?_); first | refine QV QP ?_ | refine QV QL ?_ | refine QV QA ?_ | refine QV (rr_not rfl rfl) ?_ | refine QV QlT ?_ | refine QV QlF ?_ | refine QV QeT ?_ | refine QV QeF ?_ | refine QV QnT ?_ | refine QV QnF ?_ | refine QV QaA ?_))
  refine TL_new rfl fun g5 => ?_
  conv => arg 8; simp only [zA, zB, zC, zD, zE, zF, zG, zH, zI, rowS, ret, id_eq]
  refine TL_storeB (i := 6) rfl rfl rfl rfl rfl rfl ?_
  conv => arg 8; simp only [zA, zB, zC, zD, zE, zF, zG, zH, zI, rowS, ret, id_eq]
  repeat (first
    | refine QV QP ?_ | refine QZ ?_ | refine qcT rfl ?_ | refine qcF rfl ?_ | refine E_blockX ?_ | refine E_blockO rfl ?_
    | refine qs rfl rfl rfl rfl rfl rfl ?_
    | ((try refine qg rfl rfl rfl ?_); first | refine QV QP ?_ | refine QV (rr_load1 (v := .slice aS0 brkSt.length cS0) TyC.ty rfl (at_blk (i := 6) rfl rfl)) ?_ | refine QV (rr_load1 (v := .slice aN0 brkNx.length cN0) TyC.ty rfl (at_blk (i := 6) rfl rfl)) ?_ | refine QV (rr_lss (b := false) rfl rfl (by decide)) ?_ | refine QV (rr_neq (b := false) rfl rfl (by decide)) ?_ | refine QV (rr_loadB (i := 0) TyC.ty rfl rfl rfl) ?_ | refine QV QL ?_ | refine QV QA ?_ | refine QV (rr_not rfl rfl) ?_ | refine QV QlT ?_ | refine QV QlF ?_ | refine QV QeT ?_ | refine QV QeF ?_ | refine QV QnT ?_ | refine QV QnF ?_ | refine QV QaA ?_))
  refine TL_call (he1 EntersC.en rfl rfl) (fun w hm => hAl w hm.below) rfl rfl rfl ?_
  rintro ⟨vS, vN, vss, F, vns, G⟩ _
  conv => arg 8; simp only [zA, zB, zC, zD, zE, zF, zG, zH, zI, rowS, ret, id_eq, allS]
  conv => arg 7; simp only [allS]
  refine TL_pick [0, 7, 8, 9, 10] (by decide) rfl ?_
  conv => arg 8; simp only [zA, zB, zC, zD, zE, zF, zG, zH, zI, rowS, ret, id_eq]
  have hok := outA_ok (g := g)
  have hno := outA_no (g := g)
  obtain ⟨⟨Nx, S, e⟩, hO⟩ : ∃ R, outA g = R := ⟨_, rfl⟩
  rw [hO] at hok hno
  rw [hO]
  dsimp only at hok hno ⊢
  refine TL_know (i := 1) rfl row_slm fun hrow => ?_
  obtain ⟨aS, cS, rfl, -, haS⟩ := hrow
  refine TL_know (i := 3) rfl row_slm fun hrow => ?_
  obtain ⟨aN, cN, rfl, -, haN⟩ := hrow
  clear hO hAl
  repeat (first
    | refine QV QP ?_ | refine QZ ?_ | refine qcT rfl ?_ | refine qcF rfl ?_ | refine E_blockX ?_ | refine E_blockO rfl ?_
    | refine qs rfl rfl rfl rfl rfl rfl ?_
    | ((try refine qg rfl rfl rfl ?_); first | refine QV QP ?_ | refine QV QL ?_ | refine QV QA ?_ | refine QV (rr_not rfl rfl) ?_ | refine QV QlT ?_ | refine QV QlF ?_ | refine QV QeT ?_ | refine QV QeF ?_ | refine QV QnT ?_ | refine QV QnF ?_ | refine QV QaA ?_))
  refine TL_new rfl fun g7 => ?_
  conv => arg 8; simp only [zA, zB, zC, zD, zE, zF, zG, zH, zI, rowS, ret, id_eq]
  refine TL_storeB (i := 5) (cs' := #[.slice aS S.length cS, .slice aN Nx.length cN]) rfl rfl rfl rfl rfl rfl ?_
  conv => arg 8; simp only [zA, zB, zC, zD, zE, zF, zG, zH, zI, rowS, ret, id_eq]
  repeat (first
    | refine QV QP ?_ | refine QZ ?_ | refine qcT rfl ?_ | refine qcF rfl ?_ | refine E_blockX ?_ | refine E_blockO rfl ?_
    | refine qs rfl rfl rfl rfl rfl rfl ?_
    | ((try refine qg rfl rfl rfl ?_); first | refine QV QP ?_ | refine QV QL ?_ | refine QV QA ?_ | refine QV (rr_not rfl rfl) ?_ | refine QV QlT ?_ | refine QV QlF ?_ | refine QV QeT ?_ | refine QV QeF ?_ | refine QV QnT ?_ | refine QV QnF ?_ | refine QV QaA ?_))
  by_cases c0 : e = 0
  · subst c0
    obtain ⟨hg, hA⟩ := hok rfl
    obtain ⟨hT1, hT2, hN1, hN2, hpl, hgb⟩ := checkG_ok hg
    have hwl : ∀ q ∈ g.prods, q.2.length ≤ 8 := fun q hq => (hgb q hq).1
    obtain ⟨T, hTt⟩ : ∃ T : Nat, g.terms = (T : Int) := ⟨g.terms.toNat, by omega⟩
    obtain ⟨N, hNn⟩ : ∃ N : Nat, g.nons = (N : Int) := ⟨g.nons.toNat, by omega⟩
    have hTn : g.terms.toNat = T := by omega
    rw [hTn, show g.nons.toNat = N by omega] at hA
    have hT : T ≤ 30 := by omega
    have hI := allI_law hwl hpl hT hA
    have hsr : ∀ x ∈ [(((g.prods.length : Int), 0, g.terms) : itemL.Item)], RightI g.prods g.terms.toNat x := by rw [hTn, hTt]; exact start_right hpl hT
    have hck0 : checkI g [((g.prods.length : Int), 0, g.terms)] = 0 := checkI_of hg (by simp) hsr
    have hstart : closedA g [((g.prods.length : Int), 0, g.terms)] = S.getD 0 [] := by
      rw [closedA, if_pos hck0, hTn, hTt, List.getD_eq_getElem?_getD, hI.start]; rfl
    have hS0 : 0 < S.length := (List.getElem?_eq_some_iff.1 hI.start).1
    obtain ⟨gS, rfl⟩ := haS hS0
    obtain ⟨gN, rfl⟩ := haN (by rw [hI.len]; exact hS0)
    clear hok hno haS haN
    repeat (first
      | refine QV QP ?_ | refine QZ ?_ | refine qcT rfl ?_ | refine qcF rfl ?_ | refine E_blockX ?_ | refine E_blockO rfl ?_
      | refine qs rfl rfl rfl rfl rfl rfl ?_
      | ((try refine qg rfl rfl rfl ?_); first | refine QV QP ?_ | refine QV (rr_loadB (i := 0) TyC.ty rfl rfl rfl) ?_ | refine QV (rr_load1 (v := .slice bp g.prods.length cp) TyC.ty rfl (at_blk (i := 0) rfl rfl)) ?_ | refine QV (rr_load1 (v := .int .i64 g.terms) TyC.ty rfl (at_blk (i := 0) rfl rfl)) ?_ | refine QV (rr_build rfl (build_it2 _ _)) ?_ | refine QV QL ?_ | refine QV QA ?_ | refine QV (rr_not rfl rfl) ?_ | refine QV QlT ?_ | refine QV QlF ?_ | refine QV QeT ?_ | refine QV QeF ?_ | refine QV QnT ?_ | refine QV QnF ?_ | refine QV QaA ?_))
    refine TL_one (cs := (itC ((g.prods.length : Int), 0, g.terms)).toArray) rfl rfl rfl rfl rfl fun g58 => ?_
    conv => arg 8; simp only [zA, zB, zC, zD, zE, zF, zG, zH, zI, rowS, ret, id_eq]
    refine TL_call (he2 EntersC.en rfl rfl rfl) (fun w hm => hC _ [((g.prods.length : Int), 0, g.terms)] w hm.below (sl_blk (i := 6) (xs := [((g.prods.length : Int), 0, g.terms)].flatMap itC) rfl (fun j u hj => by simpa using hj) (Nat.le_refl 1) (by decide) w hm)) rfl rfl rfl ?_
    intro va _
    conv => arg 8; simp only [zA, zB, zC, zD, zE, zF, zG, zH, zI, rowS, ret, id_eq, itemsS]
    conv => arg 7; simp only [itemsS]
    rw [hck0, hstart]
    refine TL_pick [0, 1, 2, 3, 4, 5, 7] (by decide) rfl ?_
    conv => arg 8; simp only [zA, zB, zC, zD, zE, zF, zG, zH, zI, rowS, ret, id_eq]
    repeat (first
      | refine QV QP ?_ | refine QZ ?_ | refine qcT rfl ?_ | refine qcF rfl ?_ | refine E_blockX ?_ | refine E_blockO rfl ?_
      | refine qs rfl rfl rfl rfl rfl rfl ?_
      | ((try refine qg rfl rfl rfl ?_); first | refine QV QP ?_ | refine QV QL ?_ | refine QV QA ?_ | refine QV (rr_not rfl rfl) ?_ | refine QV QlT ?_ | refine QV QlF ?_ | refine QV QeT ?_ | refine QV QeF ?_ | refine QV QnT ?_ | refine QV QnF ?_ | refine QV QaA ?_))
    clear hck0 hstart hC hsr
    refine T_loop (ι := Nat × Nat × Value) (fun (k, q, _) => k ≤ l.length ∧ q < S.length)
      (fun (k, q, va) => [(2, .pointer (some ⟨g2, 0, none⟩)), (7, .pointer (some ⟨g7, 0, none⟩)), (9, .int .i64 (q : Int)), (10, va), (62, .slice bl l.length cl), (63, .int .i64 (l.length : Int)), (64, .int .i64 (k : Int))])
      (fun (_, q, va) => [blkO g2 (graV g.terms g.nons (.slice bp g.prods.length cp)).cells 24, rowO 25 1 (.slice (some ⟨gS, 0, none⟩) S.length cS) S.length vss, elsO (sliceS itS) F (vss.map fun v => [v]) S, rowO 49 1 (.slice (some ⟨gN, 0, none⟩) Nx.length cN) Nx.length vns, elsO (sliceS intS) G (vns.map fun v => [v]) Nx, blkO g7 #[.slice (some ⟨gS, 0, none⟩) S.length cS, .slice (some ⟨gN, 0, none⟩) Nx.length cN] 42, rowO 31 3 va (S.getD q []).length ((S.getD q []).flatMap itC)]) (fun (k, _, _) => l.length - k) (0, 0, va) ⟨Nat.zero_le _, hS0⟩ (by repeat' (first | exact True.intro | refine And.intro rfl ?_)) rfl ?_
    rintro ⟨k, q, va⟩ ⟨i1, i2⟩
    dsimp only at i1 i2 ⊢
    refine T_know (i := 2) rfl (fun w h => els_count h) fun hvl => ?_
    refine T_know (i := 4) rfl (fun w h => els_count h) fun hnl => ?_
    have hSq : S.getD q [] = S[q] := by rw [List.getD_eq_getElem?_getD, List.getElem?_eq_getElem i2]; rfl
    have hvq : vss[0 + q]? = some (vss[q]'(by omega)) := by rw [Nat.zero_add]; exact List.getElem?_eq_getElem _
    have hvq2 : vss[q]? = some (vss[q]'(by omega)) := List.getElem?_eq_getElem _
    generalize vss[q]'(by omega) = vq at hvq hvq2
    have heq := fun L (i : Nat) (hL : L[i]? = some (elsO (sliceS itS) F (vss.map fun v => [v]) S)) => els_sl (W := (w : Base)) (L := L) (f := itC) (c := 3) (by decide) hL i2 hvq2
    rw [← hSq] at heq
    have hsr : ∀ it ∈ S.getD q [], RightI g.prods T it := by rw [hSq]; exact hI.ss.right _ (List.getElem_mem i2)
    by_cases c1 : k < l.length
    · obtain ⟨b, off, rfl, hrd⟩ := hrl (by omega)
      have hat := fun L => at_el (L := L) SymC_len hrd c1
      have hatA : ∀ (L : List Own) (j : Nat) (u : Value), (symC l[k])[j]? = some u → At (w : Base) L ⟨b, off + k * 2 + j, none⟩ u := hat
      clear hat hrl hrd
      generalize l[k] = x at *
      repeat (first
        | refine QV QP ?_ | refine QZ ?_ | refine qcT rfl ?_ | refine qcF rfl ?_ | refine E_blockX ?_ | refine E_blockO rfl ?_
        | refine qs rfl rfl rfl rfl rfl rfl ?_
        | ((try refine qg rfl rfl rfl ?_); first | refine QV QP ?_ | refine QV (rr_idxc Und.eq TyC.ty rfl rfl c1) ?_ | refine QV (rr_loadN (cs := symC x) TyC.ty rfl rfl (hatA _)) ?_ | refine QV QL ?_ | refine QV QA ?_ | refine QV (rr_not rfl rfl) ?_ | refine QV QlT ?_ | refine QV QlF ?_ | refine QV QeT ?_ | refine QV QeF ?_ | refine QV QnT ?_ | refine QV QnF ?_ | refine QV QaA ?_))
      refine TL_new rfl fun g13 => ?_
      conv => arg 8; simp only [zA, zB, zC, zD, zE, zF, zG, zH, zI, rowS, ret, id_eq]
      refine TL_storeB (i := 7) (cs' := (symC x).toArray) rfl rfl rfl rfl rfl rfl ?_
      conv => arg 8; simp only [zA, zB, zC, zD, zE, zF, zG, zH, zI, rowS, ret, id_eq]
      repeat (first
        | refine QV QP ?_ | refine QZ ?_ | refine qcT rfl ?_ | refine qcF rfl ?_ | refine E_blockX ?_ | refine E_blockO rfl ?_
        | refine qs rfl rfl rfl rfl rfl rfl ?_
        | ((try refine qg rfl rfl rfl ?_); first | refine QV QP ?_ | refine QV (rr_loadB (i := 0) TyC.ty rfl rfl rfl) ?_ | refine QV (rr_loadB (i := 7) TyC.ty rfl rfl rfl) ?_ | refine QV QL ?_ | refine QV QA ?_ | refine QV (rr_not rfl rfl) ?_ | refine QV QlT ?_ | refine QV QlF ?_ | refine QV QeT ?_ | refine QV QeF ?_ | refine QV QnT ?_ | refine QV QnF ?_ | refine QV QaA ?_))
      refine TL_call (he2 EntersC.en rfl rfl rfl) (fun w hm => rightSym_calls g.terms g.nons _ x w) rfl rfl rfl ?_
      intro _ _
      conv => arg 8; simp only [zA, zB, zC, zD, zE, zF, zG, zH, zI, rowS, ret, id_eq]
      by_cases c2 : right g.terms g.nons x = true
      · rw [c2]
        repeat (first
          | refine QV QP ?_ | refine QZ ?_ | refine qcT rfl ?_ | refine qcF rfl ?_ | refine E_blockX ?_ | refine E_blockO rfl ?_
          | refine qs rfl rfl rfl rfl rfl rfl ?_
          | ((try refine qg rfl rfl rfl ?_); first | refine QV QP ?_ | refine QV (rr_loadB (i := 0) TyC.ty rfl rfl rfl) ?_ | refine QV (rr_loadB (i := 7) TyC.ty rfl rfl rfl) ?_ | refine QV QL ?_ | refine QV QA ?_ | refine QV (rr_not rfl rfl) ?_ | refine QV QlT ?_ | refine QV QlF ?_ | refine QV QeT ?_ | refine QV QeF ?_ | refine QV QnT ?_ | refine QV QnF ?_ | refine QV QaA ?_))
        refine TL_call (he3 EntersC.en rfl rfl rfl rfl) (fun w hm => hS va (S.getD q []) x w hm.below (Sl.of_own (hm.get (i := 6) rfl))) rfl rfl rfl ?_
        intro vn _
        conv => arg 8; simp only [zA, zB, zC, zD, zE, zF, zG, zH, zI, rowS, ret, id_eq, itemsS]
        conv => arg 7; simp only [itemsS]
        clear hS
        by_cases c3 : 4000 < (S.getD q []).length
        · have hck : checkI g (S.getD q []) = 2 := by unfold checkI; rw [if_neg (by rw [hg]; simp), if_pos c3]
          have hE : stepE g (S.getD q []) x = 2 := by unfold stepE; rw [if_pos (by rw [hck]; decide), hck]
          rw [hE]
          repeat (first
            | refine QV QP ?_ | refine QZ ?_ | refine qcT rfl ?_ | refine qcF rfl ?_ | refine E_blockX ?_ | refine E_blockO rfl ?_
            | refine qs rfl rfl rfl rfl rfl rfl ?_
            | ((try refine qg rfl rfl rfl ?_); first | refine QV QP ?_ | refine QV (rr_load1 (v := .slice (some ⟨gS, 0, none⟩) S.length cS) TyC.ty rfl (at_blk (i := 5) rfl rfl)) ?_ | refine QV (rr_idx1 Und.eq TyC.ty rfl rfl i2) ?_ | refine QV (rr_load1 (v := vq) TyC.ty rfl (at_row (i := 1) rfl hvq)) ?_ | refine QV QL ?_ | refine QV QA ?_ | refine QV (rr_not rfl rfl) ?_ | refine QV QlT ?_ | refine QV QlF ?_ | refine QV QeT ?_ | refine QV QeF ?_ | refine QV QnT ?_ | refine QV QnF ?_ | refine QV QaA ?_))
          refine TL_gcall (he2 EntersC.en rfl rfl rfl) (fun w hm => equalItT_calls va vq (S.getD q []) (S.getD q []) w (Sl.of_own (hm.get (i := 6) rfl)) (heq _ 2 rfl w hm)) rfl rfl rfl rfl rfl ?_
          intro _ _
          rw [decide_eq_true rfl]
          repeat (first
            | refine QV QP ?_ | refine QZ ?_ | refine qcT rfl ?_ | refine qcF rfl ?_ | refine E_blockX ?_ | refine E_blockO rfl ?_
            | refine qs rfl rfl rfl rfl rfl rfl ?_
            | ((try refine qg rfl rfl rfl ?_); first | refine QV QP ?_ | refine QV QL ?_ | refine QV QA ?_ | refine QV (rr_not rfl rfl) ?_ | refine QV QlT ?_ | refine QV QlF ?_ | refine QV QeT ?_ | refine QV QeF ?_ | refine QV QnT ?_ | refine QV QnF ?_ | refine QV QaA ?_))
          exact E_ret1 rfl rfl fun w hm => hm.ret
        have hck : checkI g (S.getD q []) = 0 := checkI_of hg (by omega) (by rw [hTn]; exact hsr)
        have hE : stepE g (S.getD q []) x = 0 := by unfold stepE; rw [if_neg (by rw [hck]; simp), if_pos c2]
        have hA2 : stepA g (S.getD q []) x = stepI g.prods T (lkG g) (S.getD q []) x := by unfold stepA; rw [if_pos hE, hTn]
        rw [hE, hA2]
        clear hck hE hA2
        obtain ⟨kk, hkk, hk3⟩ : ∃ kk : Nat, (symsI T N)[kk]? = some x ∧ kk < T + N ∧ ((x.1 = 1 ∧ x.2 = (kk : Int)) ∨ (x.1 = 2 ∧ x.2 + (T : Int) = (kk : Int))) := by
          obtain ⟨xk, xn⟩ := x
          rcases right_cases c2 with ⟨h1, h2, h3⟩ | ⟨h1, h2, h3⟩
          · dsimp only at h1 h2 h3
            subst h1
            obtain ⟨m, rfl⟩ := Int.eq_ofNat_of_zero_le h2
            exact ⟨m, syms_term (by omega), by omega, .inl ⟨rfl, rfl⟩⟩
          · dsimp only at h1 h2 h3
            subst h1
            obtain ⟨m, rfl⟩ := Int.eq_ofNat_of_zero_le h2
            exact ⟨T + m, syms_non (by omega), by omega, .inr ⟨rfl, by dsimp only; omega⟩⟩
        have hcell := hI.cell q i2 kk x hkk
        have hqN : q < Nx.length := by rw [hI.len]; exact i2
        have hNq : Nx.getD q [] = Nx[q] := by rw [List.getD_eq_getElem?_getD, List.getElem?_eq_getElem hqN]; rfl
        have hwd := hI.wide q i2
        rw [hNq] at hwd hcell
        have hkl : kk < Nx[q].length := by omega
        have hgk : Nx[q].getD kk 0 = Nx[q][kk] := by rw [List.getD_eq_getElem?_getD, List.getElem?_eq_getElem hkl]; rfl
        rw [hgk] at hcell
        have hnq : vns[0 + q]? = some (vns[q]'(by omega)) := by rw [Nat.zero_add]; exact List.getElem?_eq_getElem _
        have hnq2 : vns[q]? = some (vns[q]'(by omega)) := List.getElem?_eq_getElem _
        generalize vns[q]'(by omega) = nq at hnq hnq2
        refine TL_know (i := 4) rfl (fun w h => els_form h hqN hnq2) fun hform => ?_
        obtain ⟨aq, cq, rfl, -, -, haq⟩ := hform
        obtain ⟨bq, oq, rfl⟩ := haq (by omega)
        have hatn := fun L (i : Nat) (hL : L[i]? = some (elsO (sliceS intS) G (vns.map fun v => [v]) Nx)) => els_at (W := (w : Base)) (L := L) (by decide) hL hqN hnq2 hkl 0 _ rfl
        generalize hyy : Nx[q][kk] = y at *
        refine TL_know (i := 8) rfl row_slm fun hrow => ?_
        obtain ⟨an, cn, rfl, -, -⟩ := hrow
        obtain ⟨xk, xn⟩ := x
        dsimp only at hk3
        have hnxt : stepI g.prods T (lkG g) (S.getD q []) (xk, xn) ∈ S → S.getD (idx S (stepI g.prods T (lkG g) (S.getD q []) (xk, xn))) [] = stepI g.prods T (lkG g) (S.getD q []) (xk, xn) := fun hm => by
          rw [List.getD_eq_getElem?_getD, List.getElem?_eq_getElem (idx_lt hm)]; exact idx_get (idx_lt hm)
        have hidx : stepI g.prods T (lkG g) (S.getD q []) (xk, xn) ∈ S → idx S (stepI g.prods T (lkG g) (S.getD q []) (xk, xn)) < S.length := fun hm => idx_lt hm
        unfold CellI at hcell
        generalize stepI g.prods T (lkG g) (S.getD q []) (xk, xn) = nx at *
        rcases hk3.2 with ⟨rfl, rfl⟩ | ⟨rfl, hxn⟩
        all_goals
          rcases hcell with ⟨e1, rfl⟩ | ⟨e1, e2, rfl⟩
          · have hl0 : nx.length = 0 := by rw [e1]; rfl
            repeat (first
              | refine QV QP ?_ | refine QZ ?_ | refine qcT rfl ?_ | refine qcF rfl ?_ | refine E_blockX ?_ | refine E_blockO rfl ?_
              | refine qs rfl rfl rfl rfl rfl rfl ?_
              | ((try refine qg rfl rfl rfl ?_); first | refine QV QP ?_ | refine QV (rr_eql (b := false) rfl rfl (by decide)) ?_ | refine QV (rr_load1 (v := .int .i64 (kk : Int)) TyC.ty rfl (at_blk (i := 7) rfl rfl)) ?_ | refine QV (rr_load1 (v := .int .i64 xn) TyC.ty rfl (at_blk (i := 7) rfl rfl)) ?_ | refine QV (rr_load1 (v := .int .i64 1) TyC.ty rfl (at_blk (i := 7) rfl rfl)) ?_ | refine QV (rr_load1 (v := .int .i64 2) TyC.ty rfl (at_blk (i := 7) rfl rfl)) ?_ | refine QV (rr_load1 (v := .int .i64 g.terms) TyC.ty rfl (at_blk (i := 0) rfl rfl)) ?_ | refine QV (rr_add64 (r := (kk : Int)) rfl rfl (by omega) (by omega) (by omega)) ?_ | refine QV (rr_load1 (v := .slice (some ⟨gS, 0, none⟩) S.length cS) TyC.ty rfl (at_blk (i := 5) rfl rfl)) ?_ | refine QV (rr_idx1 Und.eq TyC.ty rfl rfl i2) ?_ | refine QV (rr_load1 (v := vq) TyC.ty rfl (at_row (i := 1) rfl hvq)) ?_ | refine QV QL ?_ | refine QV QA ?_ | refine QV (rr_not rfl rfl) ?_ | refine QV QlT ?_ | refine QV QlF ?_ | refine QV QeT ?_ | refine QV QeF ?_ | refine QV QnT ?_ | refine QV QnF ?_ | refine QV QaA ?_))
            refine TL_gcall (he2 EntersC.en rfl rfl rfl) (fun w hm => equalItT_calls va vq (S.getD q []) (S.getD q []) w (Sl.of_own (hm.get (i := 6) rfl)) (heq _ 2 rfl w hm)) rfl rfl rfl rfl rfl ?_
            intro _ _
            rw [decide_eq_true rfl]
            conv => arg 8; simp only [zA, zB, zC, zD, zE, zF, zG, zH, zI, rowS, ret, id_eq]
            repeat (first
              | refine QV QP ?_ | refine QZ ?_ | refine qcT rfl ?_ | refine qcF rfl ?_ | refine E_blockX ?_ | refine E_blockO rfl ?_
              | refine qs rfl rfl rfl rfl rfl rfl ?_
              | ((try refine qg rfl rfl rfl ?_); first | refine QV QP ?_ | refine QV (rr_load1 (v := .slice (some ⟨gN, 0, none⟩) Nx.length cN) TyC.ty rfl (at_blk (i := 5) rfl rfl)) ?_ | refine QV (rr_idx1 Und.eq TyC.ty rfl rfl hqN) ?_ | refine QV (rr_load1 (v := .slice (some ⟨bq, oq, none⟩) Nx[q].length cq) TyC.ty rfl (at_row (i := 3) rfl hnq)) ?_ | refine QV (rr_idxc Und.eq TyC.ty rfl rfl hkl) ?_ | refine QV (rr_load1 (v := .int .i64 (-1)) TyC.ty rfl (hatn _ 4 rfl)) ?_ | refine QV QL ?_ | refine QV QA ?_ | refine QV (rr_not rfl rfl) ?_ | refine QV QlT ?_ | refine QV QlF ?_ | refine QV QeT ?_ | refine QV QeF ?_ | refine QV QnT ?_ | refine QV QnF ?_ | refine QV QaA ?_ | refine QV (rr_boolne Und.eq rfl rfl rfl) ?_))
            exact E_ret1 rfl rfl fun w hm => hm.ret
          · have hpos := List.length_pos_iff.2 e1
            repeat (first
              | refine QV QP ?_ | refine QZ ?_ | refine qcT rfl ?_ | refine qcF rfl ?_ | refine E_blockX ?_ | refine E_blockO rfl ?_
              | refine qs rfl rfl rfl rfl rfl rfl ?_
              | ((try refine qg rfl rfl rfl ?_); first | refine QV QP ?_ | refine QV (rr_eql (b := false) rfl rfl (by decide)) ?_ | refine QV (rr_load1 (v := .int .i64 (kk : Int)) TyC.ty rfl (at_blk (i := 7) rfl rfl)) ?_ | refine QV (rr_load1 (v := .int .i64 xn) TyC.ty rfl (at_blk (i := 7) rfl rfl)) ?_ | refine QV (rr_load1 (v := .int .i64 1) TyC.ty rfl (at_blk (i := 7) rfl rfl)) ?_ | refine QV (rr_load1 (v := .int .i64 2) TyC.ty rfl (at_blk (i := 7) rfl rfl)) ?_ | refine QV (rr_load1 (v := .int .i64 g.terms) TyC.ty rfl (at_blk (i := 0) rfl rfl)) ?_ | refine QV (rr_add64 (r := (kk : Int)) rfl rfl (by omega) (by omega) (by omega)) ?_ | refine QV (rr_load1 (v := .slice (some ⟨gS, 0, none⟩) S.length cS) TyC.ty rfl (at_blk (i := 5) rfl rfl)) ?_ | refine QV (rr_idx1 Und.eq TyC.ty rfl rfl i2) ?_ | refine QV (rr_load1 (v := vq) TyC.ty rfl (at_row (i := 1) rfl hvq)) ?_ | refine QV QL ?_ | refine QV QA ?_ | refine QV (rr_not rfl rfl) ?_ | refine QV QlT ?_ | refine QV QlF ?_ | refine QV QeT ?_ | refine QV QeF ?_ | refine QV QnT ?_ | refine QV QnF ?_ | refine QV QaA ?_))
            refine TL_gcall (he2 EntersC.en rfl rfl rfl) (fun w hm => equalItT_calls va vq (S.getD q []) (S.getD q []) w (Sl.of_own (hm.get (i := 6) rfl)) (heq _ 2 rfl w hm)) rfl rfl rfl rfl rfl ?_
            intro _ _
            rw [decide_eq_true rfl]
            conv => arg 8; simp only [zA, zB, zC, zD, zE, zF, zG, zH, zI, rowS, ret, id_eq]
            have hnx2 := hnxt e2
            have hix2 := hidx e2
            repeat (first
              | refine QV QP ?_ | refine QZ ?_ | refine qcT rfl ?_ | refine qcF rfl ?_ | refine E_blockX ?_ | refine E_blockO rfl ?_
              | refine qs rfl rfl rfl rfl rfl rfl ?_
              | ((try refine qg rfl rfl rfl ?_); first | refine QV QP ?_ | refine QV (rr_load1 (v := .slice (some ⟨gN, 0, none⟩) Nx.length cN) TyC.ty rfl (at_blk (i := 5) rfl rfl)) ?_ | refine QV (rr_idx1 Und.eq TyC.ty rfl rfl hqN) ?_ | refine QV (rr_load1 (v := .slice (some ⟨bq, oq, none⟩) Nx[q].length cq) TyC.ty rfl (at_row (i := 3) rfl hnq)) ?_ | refine QV (rr_idxc Und.eq TyC.ty rfl rfl hkl) ?_ | refine QV (rr_load1 (v := .int .i64 ((idx S nx : Nat) : Int)) TyC.ty rfl (hatn _ 4 rfl)) ?_ | refine QV QL ?_ | refine QV QA ?_ | refine QV (rr_not rfl rfl) ?_ | refine QV QlT ?_ | refine QV QlF ?_ | refine QV QeT ?_ | refine QV QeF ?_ | refine QV QnT ?_ | refine QV QnF ?_ | refine QV QaA ?_ | refine QV (rr_boolne Und.eq rfl rfl rfl) ?_))
            refine T_ord ([blkO g7 #[.slice (some ⟨gS, 0, none⟩) S.length cS, .slice (some ⟨gN, 0, none⟩) Nx.length cN] 42, rowO 49 1 (.slice (some ⟨gN, 0, none⟩) Nx.length cN) Nx.length vns, elsO (sliceS intS) G (vns.map fun v => [v]) Nx]) (.calm 0 (.calm 1 (.calm 2 (.calm 3 (.calm 4 (.calm 5 (.calm 6 (.calm 7 (.calm 8 (.calm 9 (.calm 10 (.done)))))))))))) (sub_pick [5, 3, 4] (by decide) rfl) (by kernel_rfl) (by kernel_rfl) (by intro c a d v w h; cases d <;> exact h) ?_
            repeat (first
              | ((first | refine TW_plain rfl rfl ?_ | refine TW_gmet rfl rfl rfl rfl ?_); first | refine QW QP ?_ | refine QW (rr_load1 (v := .slice (some ⟨gN, 0, none⟩) Nx.length cN) TyC.ty rfl (at_blk (i := 0) rfl rfl)) ?_ | refine QW (rr_idx1 Und.eq TyC.ty rfl rfl hqN) ?_ | refine QW (rr_load1 (v := .slice (some ⟨bq, oq, none⟩) Nx[q].length cq) TyC.ty rfl (at_row (i := 1) rfl hnq)) ?_ | refine QW (rr_idxc Und.eq TyC.ty rfl rfl hkl) ?_ | refine QW (rr_load1 (v := .int .i64 ((idx S nx : Nat) : Int)) TyC.ty rfl (hatn _ 2 rfl)) ?_ | refine QW QL ?_ | refine QW QA ?_ | refine QW (rr_not rfl rfl) ?_ | refine QW QlT ?_ | refine QW QlF ?_ | refine QW QeT ?_ | refine QW QeF ?_ | refine QW QnT ?_ | refine QW QnF ?_ | refine QW QaA ?_)
              | refine TW_skip rfl rfl rfl rfl rfl rfl rfl ?_ | refine TW_done ?_)
            repeat (first
              | refine QV QP ?_ | refine QZ ?_ | refine qcT rfl ?_ | refine qcF rfl ?_ | refine E_blockX ?_ | refine E_blockO rfl ?_
              | refine qs rfl rfl rfl rfl rfl rfl ?_
              | ((try refine qg rfl rfl rfl ?_); first | refine QV QP ?_ | refine QV QL ?_ | refine QV QA ?_ | refine QV (rr_not rfl rfl) ?_ | refine QV QlT ?_ | refine QV QlF ?_ | refine QV QeT ?_ | refine QV QeF ?_ | refine QV QnT ?_ | refine QV QnF ?_ | refine QV QaA ?_))
            refine E_pick [0, 1, 2, 3, 4, 5, 8] (by decide) rfl ?_
            exact E_round (k + 1, idx S nx, .slice an nx.length cn) ⟨by show k + 1 ≤ l.length; omega, hix2⟩ (by show l.length - (k + 1) < l.length - k; omega) (by repeat' (first | exact True.intro | refine And.intro rfl ?_)) (by dsimp only; rw [hnx2]; rfl)
      · rw [Bool.eq_false_iff.2 c2]
        repeat (first
          | refine QV QP ?_ | refine QZ ?_ | refine qcT rfl ?_ | refine qcF rfl ?_ | refine E_blockX ?_ | refine E_blockO rfl ?_
          | refine qs rfl rfl rfl rfl rfl rfl ?_
          | ((try refine qg rfl rfl rfl ?_); first | refine QV QP ?_ | refine QV QL ?_ | refine QV QA ?_ | refine QV (rr_not rfl rfl) ?_ | refine QV QlT ?_ | refine QV QlF ?_ | refine QV QeT ?_ | refine QV QeF ?_ | refine QV QnT ?_ | refine QV QnF ?_ | refine QV QaA ?_))
        refine E_pick [0, 1, 2, 3, 4, 5, 6] (by decide) rfl ?_
        exact E_round (k + 1, q, va) ⟨by show k + 1 ≤ l.length; omega, i2⟩ (by show l.length - (k + 1) < l.length - k; omega) (by repeat' (first | exact True.intro | refine And.intro rfl ?_)) rfl
    · repeat (first
        | refine QV QP ?_ | refine QZ ?_ | refine qcT rfl ?_ | refine qcF rfl ?_ | refine E_blockX ?_ | refine E_blockO rfl ?_
        | refine qs rfl rfl rfl rfl rfl rfl ?_
        | ((try refine qg rfl rfl rfl ?_); first | refine QV QP ?_ | refine QV (rr_load1 (v := .slice (some ⟨gS, 0, none⟩) S.length cS) TyC.ty rfl (at_blk (i := 5) rfl rfl)) ?_ | refine QV (rr_idx1 Und.eq TyC.ty rfl rfl i2) ?_ | refine QV (rr_load1 (v := vq) TyC.ty rfl (at_row (i := 1) rfl hvq)) ?_ | refine QV QL ?_ | refine QV QA ?_ | refine QV (rr_not rfl rfl) ?_ | refine QV QlT ?_ | refine QV QlF ?_ | refine QV QeT ?_ | refine QV QeF ?_ | refine QV QnT ?_ | refine QV QnF ?_ | refine QV QaA ?_))
      refine TL_call (he2 EntersC.en rfl rfl rfl) (fun w hm => equalItT_calls va vq (S.getD q []) (S.getD q []) w (Sl.of_own (hm.get (i := 6) rfl)) (heq _ 2 rfl w hm)) rfl rfl rfl ?_
      intro _ _
      rw [decide_eq_true rfl]
      repeat (first
        | refine QV QP ?_ | refine QZ ?_ | refine qcT rfl ?_ | refine qcF rfl ?_ | refine E_blockX ?_ | refine E_blockO rfl ?_
        | refine qs rfl rfl rfl rfl rfl rfl ?_
        | ((try refine qg rfl rfl rfl ?_); first | refine QV QP ?_ | refine QV QL ?_ | refine QV QA ?_ | refine QV (rr_not rfl rfl) ?_ | refine QV QlT ?_ | refine QV QlF ?_ | refine QV QeT ?_ | refine QV QeF ?_ | refine QV QnT ?_ | refine QV QnF ?_ | refine QV QaA ?_))
      exact E_ret1 rfl rfl fun w hm => hm.ret
  · obtain ⟨rfl, rfl⟩ := hno c0
    repeat (first
      | refine QV QP ?_ | refine QZ ?_ | refine qcT rfl ?_ | refine qcF rfl ?_ | refine E_blockX ?_ | refine E_blockO rfl ?_
      | refine qs rfl rfl rfl rfl rfl rfl ?_
      | ((try refine qg rfl rfl rfl ?_); first | refine QV QP ?_ | refine QV (rr_neq (b := true) rfl rfl (decide_eq_true c0)) ?_ | refine QV (rr_load1 (v := .slice aS 0 cS) TyC.ty rfl (at_blk (i := 5) rfl rfl)) ?_ | refine QV QL ?_ | refine QV QA ?_ | refine QV (rr_not rfl rfl) ?_ | refine QV QlT ?_ | refine QV QlF ?_ | refine QV QeT ?_ | refine QV QeF ?_ | refine QV QnT ?_ | refine QV QnF ?_ | refine QV QaA ?_))
    exact E_ret1 rfl rfl fun w hm => hm.ret
end Go.Proofs.Ytmcclhddjielnaa.itemsWalk

