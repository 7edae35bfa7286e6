/- Part 4 of what GrammarOwn needs: LrA, ItD, SortJ, ItE, ItF, ItG, ItA, ItP, OutA, LrK, LrKW, SymZ, GrR, GrT. -/
import Derived.Test.YtomkjjpdnmcnnaaMgC
import Derived.WalkKit
import Derived.WalkSpells
import Derived.WalkLawsBesides
import Derived.Deep.RegionLaw
import Derived.Deep.AppendLies
import Derived.Deep.QuietTactic
import Derived.BigQuiet
import Derived.Deep.DeepCutAuto
import Derived.Lib.Hide
import Derived.Test.YtomkjjpdnmcnnaaRows
import Derived.ProofKit
import Derived.OpenShut
import Derived.ShutString
import Derived.SizedLaws
import Derived.JoinedCond
import Derived.Deep.CondSized
import Derived.Deep.Quiet
import Derived.StillTail
import Derived.Deep.LoopGhost
import Derived.Laws.BitsLemmas
import Derived.Laws.BytesString
import Derived.Test.YtomkjjpdnmcnnaaProg
import Derived.Laws.StructEq
import Derived.Laws.MakeOwn
import Derived.Laws.AppendOwn
import Derived.Laws.Entries
import Derived.Maps.OwnSet
import Derived.DeepKeys4
import Derived.WideKeyEntry
import Derived.Sort.Grow
import Derived.Lib.Walk
import Derived.Deep.RegionWith
import Derived.Deep.RegionHeld
import Derived.StringKeys
import Derived.Laws.BitsAllLaws
import Derived.Shelf.SlGeneric
import Derived.Shelf.SlSortCmp.NoneTotal
import Derived.Ground.SlsfProg
/- LrA -/
namespace Go.Proofs.Ytomkjjpdnmcnnaa.eng
open Go.RowKit kit mix gramL treeL factsL itemL smallL
def actC (x : itemL.Act) : List Value := [.int .i64 x.1, .int .i64 x.2]
theorem actC_len (x : itemL.Act) : (actC x).length = 2 := rfl
/-- acts so far: t terminals, then some items -/
def actsK (l : List gramL.Prod) (T : Nat) (nx : List Int) (t : Nat) (s : List itemL.Item) (c : Nat) : List itemL.Act := (if c < t ∧ 0 ≤ nx.getD c 0 then [(1, nx.getD c 0)] else []) ++ s.filterMap (actOf l c)
theorem actsK_all {l : List gramL.Prod} {T : Nat} {nx : List Int} {s : List itemL.Item} {c : Nat} : actsK l T nx T s c = actsI l T s nx c := rfl
def actF (vs : Nat → Value) (A : Nat → List itemL.Act) (j : Nat) : Own := rowO 89 2 (vs j) (A j).length ((A j).flatMap actC)
def actsS (T : Nat) (A : Nat → List itemL.Act) : Spec (Nat × (Nat → Value)) := ⟨fun _ => True, fun x => .slice (some ⟨x.1, 0, none⟩) (T + 1) (T + 1), fun x => [rowA 87 vals x.1 (T + 1) x.2, famP (fun j => j < T + 1) (actF x.2 A)]⟩
theorem build_act1 (n : Int) (w : World) : (Instr.build 89 #[(0, .int .i64 1), (1, .int .i64 n)]).run Try.prog w = .ok (.agg (actC (1, n)).toArray) w := by kernel_rfl
theorem build_act2 (n : Int) (w : World) : (Instr.build 89 #[(0, .int .i64 2), (1, .int .i64 n)]).run Try.prog w = .ok (.agg (actC (2, n)).toArray) w := by kernel_rfl
theorem build_act3 (w : World) : (Instr.build 89 #[(0, .int .i64 3)]).run Try.prog w = .ok (.agg (actC (3, 0)).toArray) w := by kernel_rfl
theorem actsK_len {l : List gramL.Prod} {T : Nat} {nx : List Int} {t : Nat} {s : List itemL.Item} {c : Nat} : (actsK l T nx t s c).length ≤ 1 + s.length := by
  unfold actsK
  rw [List.length_append]
  have := List.length_filterMap_le (actOf l c) s
  split
  · rw [List.length_singleton]; omega
  · rw [List.length_nil]; omega
set_option maxHeartbeats 8000000 in
theorem lrActs_calls (v : Value) (g : Gram) (T : Nat) (hTt : g.terms = (T : Int)) (hT : T ≤ 30) (bS oS lS cS bN oN lN cN n : Nat) (vs1 vn1 : Value) (s : List itemL.Item) (nx : List Int) (w : World) (hG : GraR (fun k => k < w.heap.size) w v g) (hpl : g.prods.length ≤ 40) (hnS : n < lS) (hcS : w.cell? ⟨bS, oS + n, none⟩ = some vs1) (hs1 : Sl w vs1 s.length (s.flatMap itC)) (hnN : n < lN) (hcN : w.cell? ⟨bN, oN + n, none⟩ = some vn1) (hn1 : Sl w vn1 nx.length (nx.map (Value.int .i64))) (hnl : T ≤ nx.length) (hr : ∀ it ∈ s, RightI g.prods T it) (hsl : s.length ≤ 20000) (_ : n ≤ 1000000) :
    Calls Try.prog 32 #[v, .agg #[.slice (some ⟨bS, oS, none⟩) lS cS, .slice (some ⟨bN, oN, none⟩) lN cN], .int .i64 (n : Int)] w (Meets (actsS T (actsI g.prods T s nx)) w) := by
  obtain ⟨vp, rfl, hp, -, -⟩ := hG
  obtain ⟨bp, cp, rfl, hcp, hmp, hrp⟩ := hp
  obtain ⟨bs, cs, rfl, -, hmS, hrS⟩ := hs1
  obtain ⟨bn, cn, rfl, -, hmN, hrN⟩ := hn1
  unfold maxLen at hmS hmN
  rw [hTt]
  have hb1 := build_act1
  have hb2 := build_act2
  have hb3 := build_act3
  refine enter (args := [graV (T : Int) g.nons (.slice bp g.prods.length cp), .agg #[.slice (some ⟨bS, oS, none⟩) lS cS, .slice (some ⟨bN, oN, none⟩) lN cN], .int .i64 (n : Int)]) (n := 113) Try.func32 rfl rfl rfl ?_
  refine T_seq (T_region (TL_box rfl rfl rfl fun g3 => ?_))
  conv=>arg 8;simp only[zA,zB,zC,zD,zE,zF,zG,zH,zI,rowS,ret,id_eq]
  refine TL_box rfl rfl rfl fun g4 => ?_
  conv=>arg 8;simp only[zA,zB,zC,zD,zE,zF,zG,zH,zI,rowS,ret,id_eq]
  repeat(first|refine QV QP ?_|refine QZ ?_|refine qcT rfl ?_|refine qcF rfl ?_|refine E_blockX ?_|refine E_blockO rfl ?_|refine qs rfl rfl rfl rfl rfl rfl ?_|((try refine qg rfl rfl rfl ?_);first|refine QV QP ?_|refine QV (rr_load1 (v := .int .i64 (T : Int)) TyC.ty rfl (at_blk (i := 0) rfl rfl)) ?_|refine QV (rr_add64 (r := ((T + 1 : Nat) : Int)) rfl rfl (by omega) (by omega) (by omega)) ?_|refine QV QL ?_|refine QV QA ?_|refine QV QlT ?_|refine QV QlF ?_|refine QV QhT ?_|refine QV QhF ?_|refine QV QeT ?_|refine QV QeF ?_|refine QV QaA ?_))
  refine TL_makeA (m := T + 1) vals (.slice none 0 0) rfl rfl (by omega) (by omega) rfl fun g7 => ?_
  conv=>arg 8;simp only[zA,zB,zC,zD,zE,zF,zG,zH,zI,rowS,ret,id_eq]
  repeat(first|refine QV QP ?_|refine QZ ?_|refine qcT rfl ?_|refine qcF rfl ?_|refine E_blockX ?_|refine E_blockO rfl ?_|refine qs rfl rfl rfl rfl rfl rfl ?_|((try refine qg rfl rfl rfl ?_);first|refine QV QP ?_|refine QV (rr_load1 (v := .int .i64 (T : Int)) TyC.ty rfl (at_blk (i := 0) rfl rfl)) ?_|refine QV QL ?_|refine QV QA ?_|refine QV QlT ?_|refine QV QlF ?_|refine QV QhT ?_|refine QV QhF ?_|refine QV QeT ?_|refine QV QeF ?_|refine QV QaA ?_))
  refine T_extra (famP (fun j => j < T + 1) (actF (fun _ => .slice none 0 0) (actsK g.prods T nx 0 []))) (fun k hk => hk.elim (fun h => by cases h) fun ⟨i, hi, h⟩ => h.elim (fun h => by cases h) id) (fun w => ⟨fun i hi => ?_, fun i j _ _ _ k h => h.elim (fun h => by cases h) False.elim⟩) ?_
  · unfold actF actsK
    rw [if_neg (by omega)]
    exact World.ownsRow_nil _ _ _ _
  conv => arg 7; simp only [zA, zB, zC, zD, zE, zF, zG, zH, zI, rowS, ret, id_eq]
  refine T_loop (ι := Nat × (Nat → Value)) (fun (t, _) => t ≤ T) (fun (t, _) => [(2, .int .i64 (n : Int)), (3, .pointer (some ⟨g3, 0, none⟩)), (4, .pointer (some ⟨g4, 0, none⟩)), (7, .slice (some ⟨g7, 0, none⟩) (T + 1) (T + 1)), (17, .int .i64 (T : Int)), (18, .int .i64 (t : Int))])
    (fun (t, vs) => [blkO g3 (graV (T : Int) g.nons (.slice bp g.prods.length cp)).cells 24, blkO g4 (Value.agg #[.slice (some ⟨bS, oS, none⟩) lS cS, .slice (some ⟨bN, oN, none⟩) lN cN]).cells 84, rowA 87 vals g7 (T + 1) vs, famP (fun j => j < T + 1) (actF vs (actsK g.prods T nx t []))]) (fun (t, _) => T - t) (0, fun _ => .slice none 0 0) (Nat.zero_le _) (by repeat' (first | exact True.intro | refine And.intro rfl ?_)) rfl ?_
  rintro ⟨t, vs⟩ i1
  dsimp only at i1 ⊢
  by_cases c1 : t < T
  · obtain ⟨b, off, rfl, hrd⟩ := hrN (by omega)
    have hny : (nx.map (Value.int .i64))[t]? = some (.int .i64 (nx.getD t 0)) := by
      rw [List.getElem?_map, List.getD_eq_getElem?_getD, List.getElem?_eq_getElem (by omega)]; rfl
    have hat := fun (L : List Own) => at_rd (W := w) (L := L) hrd hny
    have htl : t < nx.length := by omega
    have hoth : ∀ j, j ≠ t → actsK g.prods T nx (t + 1) [] j = actsK g.prods T nx t [] j := fun j hj => by
      unfold actsK
      have : (j < t + 1 ∧ 0 ≤ nx.getD j 0) ↔ (j < t ∧ 0 ≤ nx.getD j 0) := by constructor <;> (rintro ⟨h1, h2⟩; exact ⟨by omega, h2⟩)
      simp only [this]
    have hmine : actsK g.prods T nx (t + 1) [] t = if 0 ≤ nx.getD t 0 then [(1, nx.getD t 0)] else [] := by
      unfold actsK
      by_cases c : 0 ≤ nx.getD t 0
      · rw [if_pos ⟨Nat.lt_succ_self t, c⟩, if_pos c]; rfl
      · rw [if_neg (fun h => c h.2), if_neg c]; rfl
    have hmine0 : actsK g.prods T nx t [] t = [] := by unfold actsK; rw [if_neg (fun h => Nat.lt_irrefl t h.1)]; rfl
    generalize nx.getD t 0 = y at *
    repeat(first|refine QV QP ?_|refine QZ ?_|refine qcT rfl ?_|refine qcF rfl ?_|refine E_blockX ?_|refine E_blockO rfl ?_|refine qs rfl rfl rfl rfl rfl rfl ?_|((try refine qg rfl rfl rfl ?_);first|refine QV QP ?_|refine QV (rr_load1 (v := .slice (some ⟨bN, oN, none⟩) lN cN) TyC.ty rfl (at_blk (i := 1) rfl rfl)) ?_|refine QV (rr_idx1 Und.eq TyC.ty rfl rfl hnN) ?_|refine QV (rr_load1 (v := .slice (some ⟨b, off, none⟩) nx.length cn) TyC.ty rfl (at_old hcN)) ?_|refine QV (rr_idx1 Und.eq TyC.ty rfl rfl htl) ?_|refine QV (rr_load1 (v := .int .i64 y) TyC.ty rfl (hat _)) ?_|refine QV QL ?_|refine QV QA ?_|refine QV QlT ?_|refine QV QlF ?_|refine QV QhT ?_|refine QV QhF ?_|refine QV QeT ?_|refine QV QeF ?_|refine QV QaA ?_))
    by_cases c2 : 0 ≤ y
    · rw [if_pos c2] at hmine
      repeat(first|refine QV QP ?_|refine QZ ?_|refine qcT rfl ?_|refine qcF rfl ?_|refine E_blockX ?_|refine E_blockO rfl ?_|refine qs rfl rfl rfl rfl rfl rfl ?_|((try refine qg rfl rfl rfl ?_);first|refine QV QP ?_|refine QV (rr_geq (b := true) rfl rfl (decide_eq_true c2)) ?_|refine QV (rr_idx1 Und.eq TyC.ty rfl rfl (show t < T + 1 by omega)) ?_|refine QV (rr_load1 TyC.ty rfl (at_rowA (i := 2) rfl (show t < T + 1 by omega))) ?_|refine QV (rr_build rfl (hb1 _)) ?_|refine QV QL ?_|refine QV QA ?_|refine QV QlT ?_|refine QV QlF ?_|refine QV QhT ?_|refine QV QhF ?_|refine QV QeT ?_|refine QV QeF ?_|refine QV QaA ?_))
      refine TL_take (q := 3) t rfl (show t < T + 1 by omega) ?_
      have hFt : actF vs (actsK g.prods T nx t []) t = rowO 89 2 (vs t) 0 [] := by unfold actF; rw [hmine0]; rfl
      rw [hFt]
      conv=>arg 8;simp only[zA,zB,zC,zD,zE,zF,zG,zH,zI,rowS,ret,id_eq]
      refine TL_pushN (i := 4) rfl rfl rfl rfl rfl rfl rfl (fun z h => by cases h; rfl) (by omega) (by omega) rfl fun z v3 => ?_
      conv=>arg 8;simp only[zA,zB,zC,zD,zE,zF,zG,zH,zI,rowS,ret,id_eq]
      repeat(first|refine QV QP ?_|refine QZ ?_|refine qcT rfl ?_|refine qcF rfl ?_|refine E_blockX ?_|refine E_blockO rfl ?_|refine qs rfl rfl rfl rfl rfl rfl ?_|((try refine qg rfl rfl rfl ?_);first|refine QV QP ?_|refine QV (rr_idx1 Und.eq TyC.ty rfl rfl (show t < T + 1 by omega)) ?_|refine QV QL ?_|refine QV QA ?_|refine QV QlT ?_|refine QV QlF ?_|refine QV QhT ?_|refine QV QhF ?_|refine QV QeT ?_|refine QV QeF ?_|refine QV QaA ?_))
      refine TL_slv (i := 4) rfl fun hv1 hv2 => ?_
      refine TL_storeA (i := 2) (v := v3) (fun j => if j = t then v3 else vs j) TyC.ty rfl rfl rfl hv1 hv2 (show t < T + 1 by omega) (fun j _ => rfl) ?_
      conv=>arg 8;simp only[zA,zB,zC,zD,zE,zF,zG,zH,zI,rowS,ret,id_eq]
      refine TL_put (D' := fun j => j < T + 1) (f' := actF (fun j => if j = t then v3 else vs j) (actsK g.prods T nx (t + 1) [])) t 3 4 [0, 1, 2] (by decide) rfl rfl rfl (fun h => h.2 rfl) (fun j hj => by
        by_cases e : j = t
        · exact .inr e
        · exact .inl ⟨hj, e⟩) (fun j hj => by
        by_cases e : j = t
        · subst e
          rw [upd_eq]
          unfold actF
          dsimp only
          rw [hmine, if_pos rfl]
          rfl
        · rw [upd_ne e]
          unfold actF
          dsimp only
          rw [hoth j e, if_neg e]) ?_
      conv=>arg 8;simp only[zA,zB,zC,zD,zE,zF,zG,zH,zI,rowS,ret,id_eq]
      repeat(first|refine QV QP ?_|refine QZ ?_|refine qcT rfl ?_|refine qcF rfl ?_|refine E_blockX ?_|refine E_blockO rfl ?_|refine qs rfl rfl rfl rfl rfl rfl ?_|((try refine qg rfl rfl rfl ?_);first|refine QV QP ?_|refine QV QL ?_|refine QV QA ?_|refine QV QlT ?_|refine QV QlF ?_|refine QV QhT ?_|refine QV QhF ?_|refine QV QeT ?_|refine QV QeF ?_|refine QV QaA ?_))
      exact E_round (t + 1, fun j => if j = t then v3 else vs j) (by show t + 1 ≤ T; omega) (by show T - (t + 1) < T - t; omega) (by repeat' (first | exact True.intro | refine And.intro rfl ?_)) rfl
    · rw [if_neg c2] at hmine
      have hsame : actsK g.prods T nx (t + 1) [] = actsK g.prods T nx t [] := funext fun j => by
        by_cases e : j = t
        · subst e; rw [hmine, hmine0]
        · exact hoth j e
      repeat(first|refine QV QP ?_|refine QZ ?_|refine qcT rfl ?_|refine qcF rfl ?_|refine E_blockX ?_|refine E_blockO rfl ?_|refine qs rfl rfl rfl rfl rfl rfl ?_|((try refine qg rfl rfl rfl ?_);first|refine QV QP ?_|refine QV (rr_geq (b := false) rfl rfl (decide_eq_false c2)) ?_|refine QV QL ?_|refine QV QA ?_|refine QV QlT ?_|refine QV QlF ?_|refine QV QhT ?_|refine QV QhF ?_|refine QV QeT ?_|refine QV QeF ?_|refine QV QaA ?_))
      exact E_round (t + 1, vs) (by show t + 1 ≤ T; omega) (by show T - (t + 1) < T - t; omega) (by repeat' (first | exact True.intro | refine And.intro rfl ?_)) (by dsimp only; rw [hsame])
  obtain rfl : t = T := by omega
  repeat(first|refine QV QP ?_|refine QZ ?_|refine qcT rfl ?_|refine qcF rfl ?_|refine E_blockX ?_|refine E_blockO rfl ?_|refine qs rfl rfl rfl rfl rfl rfl ?_|((try refine qg rfl rfl rfl ?_);first|refine QV QP ?_|refine QV (rr_load1 (v := .slice (some ⟨bS, oS, none⟩) lS cS) TyC.ty rfl (at_blk (i := 1) rfl rfl)) ?_|refine QV (rr_idx1 Und.eq TyC.ty rfl rfl hnS) ?_|refine QV (rr_load1 (v := .slice bs s.length cs) TyC.ty rfl (at_old hcS)) ?_|refine QV QL ?_|refine QV QA ?_|refine QV QlT ?_|refine QV QlF ?_|refine QV QhT ?_|refine QV QhF ?_|refine QV QeT ?_|refine QV QeF ?_|refine QV QaA ?_))
  refine T_loop (ι := Nat × (Nat → Value)) (fun (k, _) => k ≤ s.length) (fun (k, _) => [(3, .pointer (some ⟨g3, 0, none⟩)), (7, .slice (some ⟨g7, 0, none⟩) (t + 1) (t + 1)), (47, .slice bs s.length cs), (48, .int .i64 (s.length : Int)), (49, .int .i64 (k : Int))])
    (fun (k, vs) => [blkO g3 (graV (t : Int) g.nons (.slice bp g.prods.length cp)).cells 24, blkO g4 (Value.agg #[.slice (some ⟨bS, oS, none⟩) lS cS, .slice (some ⟨bN, oN, none⟩) lN cN]).cells 84, rowA 87 vals g7 (t + 1) vs, famP (fun j => j < t + 1) (actF vs (actsK g.prods t nx t (s.take k)))]) (fun (k, _) => s.length - k) (0, vs) (Nat.zero_le _) (by repeat' (first | exact True.intro | refine And.intro rfl ?_)) rfl ?_
  rintro ⟨k, vs⟩ j1
  dsimp only at j1 ⊢
  clear hb1
  by_cases c2 : k < s.length
  · obtain ⟨b, off, rfl, hrd⟩ := hrS (by omega)
    have hat := fun (L : List Own) => at_el (L := L) itC_len hrd c2
    have hatA : ∀ (L : List Own) (j : Nat) (u : Value), (itC s[k])[j]? = some u → At (w : Base) L ⟨b, off + k * 3 + j, none⟩ u := hat
    clear hat hrd hrS
    have hxr := hr s[k] (List.getElem_mem c2)
    have htk : s.take (k + 1) = s.take k ++ [s[k]] := List.take_succ_eq_append_getElem c2
    have hall : ∀ c, actsK g.prods t nx t (s.take (k + 1)) c = actsK g.prods t nx t (s.take k) c ++ (match actOf g.prods c s[k] with | some x => [x] | none => []) := fun c => by
      rw [htk]
      unfold actsK
      rw [List.filterMap_append, ← List.append_assoc]
      congr 1
      rw [List.filterMap_cons]
      cases actOf g.prods c s[k] <;> rfl
    have hlen : ∀ c, (actsK g.prods t nx t (s.take k) c).length ≤ 20001 := fun c => Nat.le_trans actsK_len (by rw [List.length_take]; omega)
    generalize hit : s[k] = it at *
    obtain ⟨p, d, lo⟩ := it
    obtain ⟨r1, r2, r3, r4, r5, r6⟩ := hxr
    dsimp only at r1 r2 r3 r4 r5 r6
    obtain ⟨pn, rfl⟩ := Int.eq_ofNat_of_zero_le r1
    obtain ⟨dn, rfl⟩ := Int.eq_ofNat_of_zero_le r3
    obtain ⟨ln, rfl⟩ := Int.eq_ofNat_of_zero_le r5
    have hln : ln < t + 1 := by omega
    have hoth : ∀ j, j ≠ ln → actsK g.prods t nx t (s.take (k + 1)) j = actsK g.prods t nx t (s.take k) j := fun j hj => by
      rw [hall j]
      have : actOf g.prods j ((pn : Int), (dn : Int), (ln : Int)) = none := by
        unfold actOf
        rw [if_pos (by show (ln : Int) ≠ (j : Int); omega)]
      rw [this, List.append_nil]
    have hall2 := hall ln
    unfold actOf at hall2
    rw [if_neg (by show ¬ (ln : Int) ≠ (ln : Int); simp)] at hall2
    dsimp only at hall2
    clear hall htk
    repeat(first|refine QV QP ?_|refine QZ ?_|refine qcT rfl ?_|refine qcF rfl ?_|refine E_blockX ?_|refine E_blockO rfl ?_|refine qs rfl rfl rfl rfl rfl rfl ?_|((try refine qg rfl rfl rfl ?_);first|refine QV QP ?_|refine QV (rr_idxc Und.eq TyC.ty rfl rfl c2) ?_|refine QV (rr_loadN (cs := itC ((pn : Int), (dn : Int), (ln : Int))) TyC.ty rfl rfl (hatA _)) ?_|refine QV QL ?_|refine QV QA ?_|refine QV QlT ?_|refine QV QlF ?_|refine QV QhT ?_|refine QV QhF ?_|refine QV QeT ?_|refine QV QeF ?_|refine QV QaA ?_))
    refine TL_new rfl fun g11 => ?_
    conv=>arg 8;simp only[zA,zB,zC,zD,zE,zF,zG,zH,zI,rowS,ret,id_eq]
    refine TL_storeB (i := 4) (cs' := (itC ((pn : Int), (dn : Int), (ln : Int))).toArray) rfl rfl rfl rfl rfl rfl ?_
    conv=>arg 8;simp only[zA,zB,zC,zD,zE,zF,zG,zH,zI,rowS,ret,id_eq]
    have hFt : actF vs (actsK g.prods t nx t (s.take k)) ln = rowO 89 2 (vs ln) (actsK g.prods t nx t (s.take k) ln).length ((actsK g.prods t nx t (s.take k) ln).flatMap actC) := rfl
    have hll := hlen ln
    by_cases q1 : pn = g.prods.length
    · subst q1
      by_cases q2 : dn = 1
      · subst q2
        have hmine : actsK g.prods t nx t (s.take (k + 1)) ln = actsK g.prods t nx t (s.take k) ln ++ [(3, 0)] := by
          rw [if_pos ⟨rfl, rfl⟩] at hall2; exact hall2
        repeat(first|refine QV QP ?_|refine QZ ?_|refine qcT rfl ?_|refine qcF rfl ?_|refine E_blockX ?_|refine E_blockO rfl ?_|refine qs rfl rfl rfl rfl rfl rfl ?_|((try refine qg rfl rfl rfl ?_);first|refine QV QP ?_|refine QV (rr_load1 (v := .int .i64 (g.prods.length : Int)) TyC.ty rfl (at_blk (i := 4) rfl rfl)) ?_|refine QV (rr_load1 (v := .slice bp g.prods.length cp) TyC.ty rfl (at_blk (i := 0) rfl rfl)) ?_|refine QV (rr_load1 (v := .int .i64 1) TyC.ty rfl (at_blk (i := 4) rfl rfl)) ?_|refine QV QL ?_|refine QV QA ?_|refine QV QlT ?_|refine QV QlF ?_|refine QV QhT ?_|refine QV QhF ?_|refine QV QeT ?_|refine QV QeF ?_|refine QV QaA ?_))
        refine T_take (q := 3) ln rfl hln ?_
        rw [hFt]
        conv => arg 7; simp only [zA, zB, zC, zD, zE, zF, zG, zH, zI, rowS, ret, id_eq]
        refine T_ord ([blkO g11 (itC ((g.prods.length : Int), 1, (ln : Int))).toArray 43]) (.calm 0 (.calm 1 (.calm 2 (.calm 3 (.calm 4 (.calm 5 (.calm 6 (.calm 8 (.two 7 (.one 9 (.one 10 (.calm 11 (.one 12 (.done))))) 9 (.one 7 (.one 10 (.calm 11 (.one 12 (.done)))))))))))))) (sub_pick [4] (by decide) rfl) (by kernel_rfl) (by kernel_rfl) (by intro c a d v w h; cases d <;> exact h) ?_
        repeat(first|((first|refine TW_plain rfl rfl ?_|refine TW_gmet rfl rfl rfl rfl ?_);first|refine QW QP ?_|refine QW (rr_load1 (v := .int .i64 (ln : Int)) TyC.ty rfl (at_blk (i := 0) rfl rfl)) ?_|refine QW (rr_idx1 Und.eq TyC.ty rfl rfl hln) ?_|refine QW (rr_build rfl hb3) ?_|refine QW QL ?_|refine QW QA ?_|refine QW QlT ?_|refine QW QlF ?_|refine QW QhT ?_|refine QW QhF ?_|refine QW QeT ?_|refine QW QeF ?_|refine QW QaA ?_)|refine TW_skip rfl rfl rfl rfl rfl rfl rfl ?_|refine TW_done ?_)
        refine TW_two rfl rfl ?way1x ?way2x
        case' way1x =>
          refine TL_val (rr_load1 TyC.ty rfl (at_rowA (i := 2) rfl hln)) rfl rfl rfl (TW_on (sub_pick [4] (by decide) rfl) ?_)
          refine TW_one rfl (TL_one (cs := (actC (3, 0)).toArray) rfl rfl rfl rfl rfl fun g74 => TW_on (sub_pick [4] (by decide) rfl) ?_)
        case' way2x =>
          refine TL_one (cs := (actC (3, 0)).toArray) rfl rfl rfl rfl rfl fun g74 => TW_on (sub_pick [4] (by decide) rfl) ?_
          refine TW_one rfl (TL_val (rr_load1 TyC.ty rfl (at_rowA (i := 2) rfl hln)) rfl rfl rfl (TW_on (sub_pick [4] (by decide) rfl) ?_))
        all_goals
          refine TW_one rfl (TL_app1 (i := 5) (q := 6) rfl rfl rfl rfl rfl rfl (by omega) (by omega) rfl fun v3 => TW_on (sub_pick [4] (by decide) rfl) ?_)
          repeat(first|((first|refine TW_plain rfl rfl ?_|refine TW_gmet rfl rfl rfl rfl ?_);first|refine QW QP ?_|refine QW (rr_idx1 Und.eq TyC.ty rfl rfl hln) ?_|refine QW QL ?_|refine QW QA ?_|refine QW QlT ?_|refine QW QlF ?_|refine QW QhT ?_|refine QW QhF ?_|refine QW QeT ?_|refine QW QeF ?_|refine QW QaA ?_)|refine TW_skip rfl rfl rfl rfl rfl rfl rfl ?_|refine TW_done ?_)
          refine TW_one rfl (TL_slv (i := 5) rfl fun hv1 hv2 => TL_storeA (i := 2) (v := v3) (fun j => if j = ln then v3 else vs j) TyC.ty rfl rfl rfl hv1 hv2 hln (fun j _ => rfl) (TW_on (sub_pick [4] (by decide) rfl) ?_))
          repeat(first|((first|refine TW_plain rfl rfl ?_|refine TW_gmet rfl rfl rfl rfl ?_);first|refine QW QP ?_|refine QW QL ?_|refine QW QA ?_|refine QW QlT ?_|refine QW QlF ?_|refine QW QhT ?_|refine QW QhF ?_|refine QW QeT ?_|refine QW QeF ?_|refine QW QaA ?_)|refine TW_skip rfl rfl rfl rfl rfl rfl rfl ?_|refine TW_done ?_)
          refine E_put (D' := fun j => j < t + 1) (f' := actF (fun j => if j = ln then v3 else vs j) (actsK g.prods t nx t (s.take (k + 1)))) ln 3 5 [0, 1, 2] (by decide) rfl rfl rfl (fun h => h.2 rfl) (fun j hj => by
            by_cases e : j = ln
            · exact .inr e
            · exact .inl ⟨hj, e⟩) (fun j hj => by
            by_cases e : j = ln
            · subst e
              rw [upd_eq]
              unfold actF
              dsimp only
              rw [hmine, if_pos rfl, List.length_append, List.flatMap_append]
              rfl
            · rw [upd_ne e]
              unfold actF
              dsimp only
              rw [hoth j e, if_neg e]) ?_
          repeat(first|refine QV QP ?_|refine QZ ?_|refine qcT rfl ?_|refine qcF rfl ?_|refine E_blockX ?_|refine E_blockO rfl ?_|refine qs rfl rfl rfl rfl rfl rfl ?_|((try refine qg rfl rfl rfl ?_);first|refine QV QP ?_|refine QV QL ?_|refine QV QA ?_|refine QV QlT ?_|refine QV QlF ?_|refine QV QhT ?_|refine QV QhF ?_|refine QV QeT ?_|refine QV QeF ?_|refine QV QaA ?_))
          exact E_round (k + 1, fun j => if j = ln then v3 else vs j) (by show k + 1 ≤ s.length; omega) (by show s.length - (k + 1) < s.length - k; omega) (by repeat' (first | exact True.intro | refine And.intro rfl ?_)) rfl
      · have hsame : actsK g.prods t nx t (s.take (k + 1)) = actsK g.prods t nx t (s.take k) := funext fun j => by
          by_cases e : j = ln
          · subst e
            rw [if_neg (fun h => q2 (by have := h.2; omega)), if_neg (fun h => by have := h.1; omega)] at hall2
            rw [hall2]; exact List.append_nil _
          · exact hoth j e
        repeat(first|refine QV QP ?_|refine QZ ?_|refine qcT rfl ?_|refine qcF rfl ?_|refine E_blockX ?_|refine E_blockO rfl ?_|refine qs rfl rfl rfl rfl rfl rfl ?_|((try refine qg rfl rfl rfl ?_);first|refine QV QP ?_|refine QV (rr_load1 (v := .int .i64 (g.prods.length : Int)) TyC.ty rfl (at_blk (i := 4) rfl rfl)) ?_|refine QV (rr_load1 (v := .slice bp g.prods.length cp) TyC.ty rfl (at_blk (i := 0) rfl rfl)) ?_|refine QV (rr_load1 (v := .int .i64 (dn : Int)) TyC.ty rfl (at_blk (i := 4) rfl rfl)) ?_|refine QV QL ?_|refine QV QA ?_|refine QV QlT ?_|refine QV QlF ?_|refine QV QhT ?_|refine QV QhF ?_|refine QV QeT ?_|refine QV QeF ?_|refine QV QaA ?_))
        refine T_ord ([blkO g3 (graV (t : Int) g.nons (.slice bp g.prods.length cp)).cells 24, blkO g11 (itC ((g.prods.length : Int), (dn : Int), (ln : Int))).toArray 43]) (.calm 0 (.calm 1 (.calm 2 (.calm 3 (.calm 4 (.calm 5 (.calm 6 (.calm 7 (.calm 8 (.calm 9 (.calm 10 (.calm 11 (.calm 12 (.calm 13 (.calm 14 (.calm 15 (.calm 16 (.calm 17 (.calm 18 (.calm 19 (.done))))))))))))))))))))) (sub_pick [0, 4] (by decide) rfl) (by kernel_rfl) (by kernel_rfl) (by intro c a d v w h; cases d <;> exact h) ?_
        repeat(first|((first|refine TW_plain rfl rfl ?_|refine TW_gmet rfl rfl rfl rfl ?_);first|refine QW QP ?_|refine QW (rr_load1 (v := .int .i64 (g.prods.length : Int)) TyC.ty rfl (at_blk (i := 1) rfl rfl)) ?_|refine QW (rr_load1 (v := .slice bp g.prods.length cp) TyC.ty rfl (at_blk (i := 0) rfl rfl)) ?_|refine QW QL ?_|refine QW QA ?_|refine QW QlT ?_|refine QW QlF ?_|refine QW QhT ?_|refine QW QhF ?_|refine QW QeT ?_|refine QW QeF ?_|refine QW QaA ?_)|refine TW_skip rfl rfl rfl rfl rfl rfl rfl ?_|refine TW_done ?_)
        repeat(first|refine QV QP ?_|refine QZ ?_|refine qcT rfl ?_|refine qcF rfl ?_|refine E_blockX ?_|refine E_blockO rfl ?_|refine qs rfl rfl rfl rfl rfl rfl ?_|((try refine qg rfl rfl rfl ?_);first|refine QV QP ?_|refine QV QL ?_|refine QV QA ?_|refine QV QlT ?_|refine QV QlF ?_|refine QV QhT ?_|refine QV QhF ?_|refine QV QeT ?_|refine QV QeF ?_|refine QV QaA ?_))
        refine E_pick [0, 1, 2, 3] (by decide) rfl ?_
        exact E_round (k + 1, vs) (by show k + 1 ≤ s.length; omega) (by show s.length - (k + 1) < s.length - k; omega) (by repeat' (first | exact True.intro | refine And.intro rfl ?_)) (by dsimp only; rw [hsame]; rfl)
    · have hpn : pn < g.prods.length := by omega
      obtain ⟨pb, po, rfl, hFb, hpr⟩ := hrp (by omega)
      obtain ⟨bb, cb, hq1, hq2, hq3⟩ := prod_at hpr hpn
      have hpg : g.prods[pn] = prodAt g.prods (pn : Int) := by
        unfold prodAt
        rw [Int.toNat_natCast, List.getD_eq_getElem?_getD, List.getElem?_eq_getElem hpn]; rfl
      rw [hpg] at hq1 hq2 hq3
      have hatP : ∀ (L : List Own) (j : Nat) (v : Value), ([.int .i64 (prodAt g.prods (pn : Int)).1, .slice bb (prodAt g.prods (pn : Int)).2.length cb] : List Value)[j]? = some v → At w L ⟨pb, po + pn * 2 + j, none⟩ v := fun L j v hj => at_rd hq1 hj
      clear hpr hrp hq1 hq3
      by_cases q2 : dn = (prodAt g.prods (pn : Int)).2.length
      · subst q2
        have hmine : actsK g.prods t nx t (s.take (k + 1)) ln = actsK g.prods t nx t (s.take k) ln ++ [(2, (pn : Int))] := by
          rw [if_neg (fun h => q1 (by have := h.1; omega)), if_pos ⟨by omega, rfl⟩] at hall2; exact hall2
        repeat(first|refine QV QP ?_|refine QZ ?_|refine qcT rfl ?_|refine qcF rfl ?_|refine E_blockX ?_|refine E_blockO rfl ?_|refine qs rfl rfl rfl rfl rfl rfl ?_|((try refine qg rfl rfl rfl ?_);first|refine QV QP ?_|refine QV (rr_load1 (v := .int .i64 (pn : Int)) TyC.ty rfl (at_blk (i := 4) rfl rfl)) ?_|refine QV (rr_load1 (v := .slice (some ⟨pb, po, none⟩) g.prods.length cp) TyC.ty rfl (at_blk (i := 0) rfl rfl)) ?_|refine QV QL ?_|refine QV QA ?_|refine QV QlT ?_|refine QV QlF ?_|refine QV QhT ?_|refine QV QhF ?_|refine QV QeT ?_|refine QV QeF ?_|refine QV QaA ?_))
        refine T_ord ([blkO g3 (graV (t : Int) g.nons (.slice (some ⟨pb, po, none⟩) g.prods.length cp)).cells 24, blkO g11 (itC ((pn : Int), ((prodAt g.prods (pn : Int)).2.length : Int), (ln : Int))).toArray 43]) (.calm 0 (.calm 1 (.calm 2 (.calm 3 (.calm 4 (.calm 5 (.calm 6 (.calm 7 (.calm 8 (.calm 9 (.calm 10 (.calm 11 (.calm 12 (.calm 13 (.calm 14 (.calm 15 (.calm 16 (.calm 17 (.calm 18 (.calm 19 (.done))))))))))))))))))))) (sub_pick [0, 4] (by decide) rfl) (by kernel_rfl) (by kernel_rfl) (by intro c a d v w h; cases d <;> exact h) ?_
        repeat(first|((first|refine TW_plain rfl rfl ?_|refine TW_gmet rfl rfl rfl rfl ?_);first|refine QW QP ?_|refine QW (rr_load1 (v := .int .i64 (pn : Int)) TyC.ty rfl (at_blk (i := 1) rfl rfl)) ?_|refine QW (rr_load1 (v := .int .i64 ((prodAt g.prods (pn : Int)).2.length : Int)) TyC.ty rfl (at_blk (i := 1) rfl rfl)) ?_|refine QW (rr_load1 (v := .slice (some ⟨pb, po, none⟩) g.prods.length cp) TyC.ty rfl (at_blk (i := 0) rfl rfl)) ?_|refine QW (rr_idxc Und.eq TyC.ty rfl rfl hpn) ?_|refine QW (rr_load1 (v := .slice bb (prodAt g.prods (pn : Int)).2.length cb) TyC.ty rfl (hatP _ 1 _ rfl)) ?_|refine QW QL ?_|refine QW QA ?_|refine QW QlT ?_|refine QW QlF ?_|refine QW QhT ?_|refine QW QhF ?_|refine QW QeT ?_|refine QW QeF ?_|refine QW QaA ?_)|refine TW_skip rfl rfl rfl rfl rfl rfl rfl ?_|refine TW_done ?_)
        repeat(first|refine QV QP ?_|refine QZ ?_|refine qcT rfl ?_|refine qcF rfl ?_|refine E_blockX ?_|refine E_blockO rfl ?_|refine qs rfl rfl rfl rfl rfl rfl ?_|((try refine qg rfl rfl rfl ?_);first|refine QV QP ?_|refine QV QL ?_|refine QV QA ?_|refine QV QlT ?_|refine QV QlF ?_|refine QV QhT ?_|refine QV QhF ?_|refine QV QeT ?_|refine QV QeF ?_|refine QV QaA ?_))
        refine T_take (q := 3) ln rfl hln ?_
        rw [hFt]
        conv => arg 7; simp only [zA, zB, zC, zD, zE, zF, zG, zH, zI, rowS, ret, id_eq]
        refine T_ord ([blkO g11 (itC ((pn : Int), ((prodAt g.prods (pn : Int)).2.length : Int), (ln : Int))).toArray 43]) (.calm 0 (.calm 1 (.calm 2 (.calm 3 (.calm 4 (.calm 5 (.calm 6 (.calm 8 (.calm 9 (.calm 10 (.two 7 (.one 11 (.one 12 (.calm 13 (.one 14 (.done))))) 11 (.one 7 (.one 12 (.calm 13 (.one 14 (.done)))))))))))))))) (sub_pick [4] (by decide) rfl) (by kernel_rfl) (by kernel_rfl) (by intro c a d v w h; cases d <;> exact h) ?_
        repeat(first|((first|refine TW_plain rfl rfl ?_|refine TW_gmet rfl rfl rfl rfl ?_);first|refine QW QP ?_|refine QW (rr_load1 (v := .int .i64 (ln : Int)) TyC.ty rfl (at_blk (i := 0) rfl rfl)) ?_|refine QW (rr_load1 (v := .int .i64 (pn : Int)) TyC.ty rfl (at_blk (i := 0) rfl rfl)) ?_|refine QW (rr_idx1 Und.eq TyC.ty rfl rfl hln) ?_|refine QW (rr_build rfl (hb2 _)) ?_|refine QW QL ?_|refine QW QA ?_|refine QW QlT ?_|refine QW QlF ?_|refine QW QhT ?_|refine QW QhF ?_|refine QW QeT ?_|refine QW QeF ?_|refine QW QaA ?_)|refine TW_skip rfl rfl rfl rfl rfl rfl rfl ?_|refine TW_done ?_)
        refine TW_two rfl rfl ?way1y ?way2y
        case' way1y =>
          refine TL_val (rr_load1 TyC.ty rfl (at_rowA (i := 2) rfl hln)) rfl rfl rfl (TW_on (sub_pick [4] (by decide) rfl) ?_)
          refine TW_one rfl (TL_one (cs := (actC (2, (pn : Int))).toArray) rfl rfl rfl rfl rfl fun g74 => TW_on (sub_pick [4] (by decide) rfl) ?_)
        case' way2y =>
          refine TL_one (cs := (actC (2, (pn : Int))).toArray) rfl rfl rfl rfl rfl fun g74 => TW_on (sub_pick [4] (by decide) rfl) ?_
          refine TW_one rfl (TL_val (rr_load1 TyC.ty rfl (at_rowA (i := 2) rfl hln)) rfl rfl rfl (TW_on (sub_pick [4] (by decide) rfl) ?_))
        all_goals
          refine TW_one rfl (TL_app1 (i := 5) (q := 6) rfl rfl rfl rfl rfl rfl (by omega) (by omega) rfl fun v3 => TW_on (sub_pick [4] (by decide) rfl) ?_)
          repeat(first|((first|refine TW_plain rfl rfl ?_|refine TW_gmet rfl rfl rfl rfl ?_);first|refine QW QP ?_|refine QW (rr_idx1 Und.eq TyC.ty rfl rfl hln) ?_|refine QW QL ?_|refine QW QA ?_|refine QW QlT ?_|refine QW QlF ?_|refine QW QhT ?_|refine QW QhF ?_|refine QW QeT ?_|refine QW QeF ?_|refine QW QaA ?_)|refine TW_skip rfl rfl rfl rfl rfl rfl rfl ?_|refine TW_done ?_)
          refine TW_one rfl (TL_slv (i := 5) rfl fun hv1 hv2 => TL_storeA (i := 2) (v := v3) (fun j => if j = ln then v3 else vs j) TyC.ty rfl rfl rfl hv1 hv2 hln (fun j _ => rfl) (TW_on (sub_pick [4] (by decide) rfl) ?_))
          repeat(first|((first|refine TW_plain rfl rfl ?_|refine TW_gmet rfl rfl rfl rfl ?_);first|refine QW QP ?_|refine QW QL ?_|refine QW QA ?_|refine QW QlT ?_|refine QW QlF ?_|refine QW QhT ?_|refine QW QhF ?_|refine QW QeT ?_|refine QW QeF ?_|refine QW QaA ?_)|refine TW_skip rfl rfl rfl rfl rfl rfl rfl ?_|refine TW_done ?_)
          refine E_put (D' := fun j => j < t + 1) (f' := actF (fun j => if j = ln then v3 else vs j) (actsK g.prods t nx t (s.take (k + 1)))) ln 3 5 [0, 1, 2] (by decide) rfl rfl rfl (fun h => h.2 rfl) (fun j hj => by
            by_cases e : j = ln
            · exact .inr e
            · exact .inl ⟨hj, e⟩) (fun j hj => by
            by_cases e : j = ln
            · subst e
              rw [upd_eq]
              unfold actF
              dsimp only
              rw [hmine, if_pos rfl, List.length_append, List.flatMap_append]
              rfl
            · rw [upd_ne e]
              unfold actF
              dsimp only
              rw [hoth j e, if_neg e]) ?_
          repeat(first|refine QV QP ?_|refine QZ ?_|refine qcT rfl ?_|refine qcF rfl ?_|refine E_blockX ?_|refine E_blockO rfl ?_|refine qs rfl rfl rfl rfl rfl rfl ?_|((try refine qg rfl rfl rfl ?_);first|refine QV QP ?_|refine QV QL ?_|refine QV QA ?_|refine QV QlT ?_|refine QV QlF ?_|refine QV QhT ?_|refine QV QhF ?_|refine QV QeT ?_|refine QV QeF ?_|refine QV QaA ?_))
          exact E_round (k + 1, fun j => if j = ln then v3 else vs j) (by show k + 1 ≤ s.length; omega) (by show s.length - (k + 1) < s.length - k; omega) (by repeat' (first | exact True.intro | refine And.intro rfl ?_)) rfl
      · have hsame : actsK g.prods t nx t (s.take (k + 1)) = actsK g.prods t nx t (s.take k) := funext fun j => by
          by_cases e : j = ln
          · subst e
            rw [if_neg (fun h => q1 (by have := h.1; omega)), if_neg (fun h => q2 (by have := h.2; omega))] at hall2
            rw [hall2]; exact List.append_nil _
          · exact hoth j e
        repeat(first|refine QV QP ?_|refine QZ ?_|refine qcT rfl ?_|refine qcF rfl ?_|refine E_blockX ?_|refine E_blockO rfl ?_|refine qs rfl rfl rfl rfl rfl rfl ?_|((try refine qg rfl rfl rfl ?_);first|refine QV QP ?_|refine QV (rr_load1 (v := .int .i64 (pn : Int)) TyC.ty rfl (at_blk (i := 4) rfl rfl)) ?_|refine QV (rr_load1 (v := .slice (some ⟨pb, po, none⟩) g.prods.length cp) TyC.ty rfl (at_blk (i := 0) rfl rfl)) ?_|refine QV QL ?_|refine QV QA ?_|refine QV QlT ?_|refine QV QlF ?_|refine QV QhT ?_|refine QV QhF ?_|refine QV QeT ?_|refine QV QeF ?_|refine QV QaA ?_))
        refine T_ord ([blkO g3 (graV (t : Int) g.nons (.slice (some ⟨pb, po, none⟩) g.prods.length cp)).cells 24, blkO g11 (itC ((pn : Int), (dn : Int), (ln : Int))).toArray 43]) (.calm 0 (.calm 1 (.calm 2 (.calm 3 (.calm 4 (.calm 5 (.calm 6 (.calm 7 (.calm 8 (.calm 9 (.calm 10 (.calm 11 (.calm 12 (.calm 13 (.calm 14 (.calm 15 (.calm 16 (.calm 17 (.calm 18 (.calm 19 (.done))))))))))))))))))))) (sub_pick [0, 4] (by decide) rfl) (by kernel_rfl) (by kernel_rfl) (by intro c a d v w h; cases d <;> exact h) ?_
        repeat(first|((first|refine TW_plain rfl rfl ?_|refine TW_gmet rfl rfl rfl rfl ?_);first|refine QW QP ?_|refine QW (rr_load1 (v := .int .i64 (pn : Int)) TyC.ty rfl (at_blk (i := 1) rfl rfl)) ?_|refine QW (rr_load1 (v := .int .i64 (dn : Int)) TyC.ty rfl (at_blk (i := 1) rfl rfl)) ?_|refine QW (rr_load1 (v := .slice (some ⟨pb, po, none⟩) g.prods.length cp) TyC.ty rfl (at_blk (i := 0) rfl rfl)) ?_|refine QW (rr_idxc Und.eq TyC.ty rfl rfl hpn) ?_|refine QW (rr_load1 (v := .slice bb (prodAt g.prods (pn : Int)).2.length cb) TyC.ty rfl (hatP _ 1 _ rfl)) ?_|refine QW QL ?_|refine QW QA ?_|refine QW QlT ?_|refine QW QlF ?_|refine QW QhT ?_|refine QW QhF ?_|refine QW QeT ?_|refine QW QeF ?_|refine QW QaA ?_)|refine TW_skip rfl rfl rfl rfl rfl rfl rfl ?_|refine TW_done ?_)
        repeat(first|refine QV QP ?_|refine QZ ?_|refine qcT rfl ?_|refine qcF rfl ?_|refine E_blockX ?_|refine E_blockO rfl ?_|refine qs rfl rfl rfl rfl rfl rfl ?_|((try refine qg rfl rfl rfl ?_);first|refine QV QP ?_|refine QV QL ?_|refine QV QA ?_|refine QV QlT ?_|refine QV QlF ?_|refine QV QhT ?_|refine QV QhF ?_|refine QV QeT ?_|refine QV QeF ?_|refine QV QaA ?_))
        refine E_pick [0, 1, 2, 3] (by decide) rfl ?_
        exact E_round (k + 1, vs) (by show k + 1 ≤ s.length; omega) (by show s.length - (k + 1) < s.length - k; omega) (by repeat' (first | exact True.intro | refine And.intro rfl ?_)) (by dsimp only; rw [hsame]; rfl)
  · obtain rfl : k = s.length := by omega
    rw [List.take_length]
    repeat(first|refine QV QP ?_|refine QZ ?_|refine qcT rfl ?_|refine qcF rfl ?_|refine E_blockX ?_|refine E_blockO rfl ?_|refine qs rfl rfl rfl rfl rfl rfl ?_|((try refine qg rfl rfl rfl ?_);first|refine QV QP ?_|refine QV QL ?_|refine QV QA ?_|refine QV QlT ?_|refine QV QlF ?_|refine QV QhT ?_|refine QV QhF ?_|refine QV QeT ?_|refine QV QeF ?_|refine QV QaA ?_))
    exact E_ret1 rfl rfl fun w hm => hm.meets (S := actsS t (actsI g.prods t s nx)) (g7, vs) trivial [2, 3] (by decide) rfl
end Go.Proofs.Ytomkjjpdnmcnnaa.eng


/- ItD -/
namespace Go.Proofs.Ytomkjjpdnmcnnaa.eng
open Go.RowKit kit mix gramL treeL factsL itemL smallL
def itCnt (c : itemL.Item → Nat) (x : itemL.Item) : Value := .int .i64 (c x : Int)
def itUp (c : itemL.Item → Nat) (it : itemL.Item) (x : itemL.Item) : Nat := if x = it then c x + 1 else c x
/-- how often each was handed in, and what is told -/
structure PutOk (c : itemL.Item → Nat) (out : List itemL.Item) (b : Nat) : Prop where
  zero : ∀ x, c x = 0 ↔ x ∉ out
  le : ∀ x, c x ≤ b
theorem PutOk.put {c : itemL.Item → Nat} {out : List itemL.Item} {b : Nat} (h : PutOk c out b) (it : itemL.Item) : PutOk (itUp c it) (more out it) (b + 2) := by
  refine ⟨fun x => ?_, fun x => ?_⟩
  · unfold itUp
    by_cases e : x = it
    · subst e
      rw [if_pos rfl]
      constructor
      · intro h; omega
      · intro h; exact absurd (mem_more.2 (.inr rfl)) h
    · rw [if_neg e, h.zero x]
      rw [mem_more]
      constructor
      · intro h1 h2; exact h2.elim h1 e
      · intro h1 h2; exact h1 (.inl h2)
  · unfold itUp
    have := h.le x
    split <;> omega
def putL (g5 gm g6 b : Nat) (v : Value) (c : itemL.Item → Nat) (out : List itemL.Item) : List Own :=
  [blkO g5 #[.map (some gm)] 106, mapT itK gm (.int .i64 0) (itCnt c) b, blkO g6 #[v] 25, rowO 43 3 v out.length (out.flatMap itC)]
theorem it_oneC (x : itemL.Item) : ∀ u ∈ itC x, u.oneCell' = true := by
  intro u hu
  simp only [itC, List.mem_cons, List.not_mem_nil, or_false] at hu
  rcases hu with rfl | rfl | rfl <;> rfl
set_option maxHeartbeats 2000000 in
theorem itPut_calls (g5 gm g6 b : Nat) (v : Value) (c : itemL.Item → Nat) (out : List itemL.Item) (it : itemL.Item) (hit : itK.ok it) (hp : PutOk c out b) (hb : b + 2 ≤ 1152921504606846976) (ho : out.length + 1 ≤ 1000000) (w : World) (B : Base) (hm : Mem B (putL g5 gm g6 b v c out) w) :
    Calls Try.prog 45 #[.agg (itC it).toArray, .pointer (some ⟨g5, 0, none⟩), .pointer (some ⟨g6, 0, none⟩)] w (MeetsB ⟨fun _ => True, fun _ => .tuple #[], fun v' => putL g5 gm g6 (b + 2) v' (itUp c it) (more out it)⟩ B) := by
  unfold putL at hm
  have hle := hp.le it
  have hz := hp.zero it
  obtain ⟨n, hn⟩ : ∃ n, c it = n := ⟨_, rfl⟩
  obtain ⟨F, hF⟩ : ∃ F, itCnt c = F := ⟨_, rfl⟩
  obtain ⟨F', hF'⟩ : ∃ F', itCnt (itUp c it) = F' := ⟨_, rfl⟩
  have hcv : F it = .int .i64 (n : Int) := by rw [← hF, ← hn]; rfl
  have hF1 : F' it = .int .i64 ((n + 1 : Nat) : Int) := by rw [← hF', ← hn]; show Value.int .i64 ((itUp c it it : Nat) : Int) = _; unfold itUp; rw [if_pos rfl]
  have hnx : ∀ y, itK.ok y → F' y = if y = it then .int .i64 ((n + 1 : Nat) : Int) else F y := fun y _ => by
    rw [← hF', ← hF, ← hn]
    show Value.int .i64 ((itUp c it y : Nat) : Int) = if y = it then _ else Value.int .i64 ((c y : Nat) : Int)
    unfold itUp
    by_cases e : y = it
    · subst e; rw [if_pos rfl, if_pos rfl]
    · rw [if_neg e, if_neg e]
  rw [hF] at hm
  rw [hn] at hle hz
  clear hp
  refine enterB hm (args := [.agg (itC it).toArray, .pointer (some ⟨g5, 0, none⟩), .pointer (some ⟨g6, 0, none⟩)]) (n := 18) Try.func45 rfl rfl rfl ?_
  refine T_seq (T_region (TL_box rfl rfl rfl fun g3 => ?_))
  conv=>arg 8;simp only[zA,zB,zC,zD,zE,zF,zG,zH,zI,rowS,ret,id_eq]
  repeat(first|refine QV QP ?_|refine QZ ?_|refine qcT rfl ?_|refine qcF rfl ?_|refine QV QeT ?_|refine QV QeF ?_|refine QV QaA ?_)
  (repeat refine T_seq ?_)
  refine T_midq (ι := Unit) (fun _ => True) (fun _ => [(1, .pointer (some ⟨g5, 0, none⟩)), (2, .pointer (some ⟨g6, 0, none⟩)), (3, .pointer (some ⟨g3, 0, none⟩))]) (fun _ => [blkO g5 #[.map (some gm)] 106, mapT itK gm (.int .i64 0) F' (b + 1 + 1), blkO g6 #[v] 25, rowO 43 3 v out.length (out.flatMap itC), blkO g3 (itC it).toArray 43]) ?_ ?_
  · refine T_ord ([blkO g5 #[.map (some gm)] 106, blkO g3 (itC it).toArray 43]) (.calm 0 (.calm 1 (.two 2 (.calm 3 (.one 4 (.calm 5 (.one 6 (.done))))) 4 (.calm 5 (.one 2 (.calm 3 (.one 6 (.done)))))))) (sub_pick [0, 4] (by decide) rfl) (by kernel_rfl) (by kernel_rfl) (by intro c a d v w h; cases d <;> exact h) ?_
    repeat(first|((first|refine TW_plain rfl rfl ?_|refine TW_gmet rfl rfl rfl rfl ?_);first|refine QW QP ?_|refine QW (rr_load1 (v := .map (some gm)) TyC.ty rfl (at_blk (i := 0) rfl rfl)) ?_|refine QW (rr_loadB (i := 1) TyC.ty rfl rfl rfl) ?_|refine QW QeT ?_|refine QW QeF ?_|refine QW QaA ?_)|refine TW_done ?_)
    refine TW_two rfl rfl ?_ ?_
    · refine TL_val (rr_lookT itK Und.eq zero_i64 (i := 1) rfl rfl (x := it) rfl hit hcv) rfl rfl rfl (TW_on (sub_pick [0, 4] (by decide) rfl) ?_)
      repeat(first|((first|refine TW_plain rfl rfl ?_|refine TW_gmet rfl rfl rfl rfl ?_);first|refine QW QP ?_|refine QW (rr_add64 (r := ((n + 1 : Nat) : Int)) rfl rfl (by omega) (by omega) (by omega)) ?_|refine QW QeT ?_|refine QW QeF ?_|refine QW QaA ?_)|refine TW_done ?_)
      refine TW_one rfl (TL_entry itK Und.eq zero_i64 (i := 1) rfl rfl (x := it) rfl hit (by omega) rfl fun st => TW_on (sub_pick [0, 4] (by decide) rfl) ?_)
      repeat(first|((first|refine TW_plain rfl rfl ?_|refine TW_gmet rfl rfl rfl rfl ?_);first|refine QW QP ?_|refine QW QeT ?_|refine QW QeF ?_|refine QW QaA ?_)|refine TW_done ?_)
      refine TW_one rfl (TL_entSet itK F' Und.eq (i := 1) rfl rfl rfl rfl hit (by omega) hnx (TW_on (sub_pick [0, 4] (by decide) rfl) ?_))
      repeat(first|((first|refine TW_plain rfl rfl ?_|refine TW_gmet rfl rfl rfl rfl ?_);first|refine QW QP ?_|refine QW QeT ?_|refine QW QeF ?_|refine QW QaA ?_)|refine TW_done ?_)
      exact E_mid () trivial (by repeat' (first | exact True.intro | refine And.intro rfl ?_)) rfl
    · refine TL_entry itK Und.eq zero_i64 (i := 1) rfl rfl (x := it) rfl hit (by omega) rfl fun st => TW_on (sub_pick [0, 4] (by decide) rfl) ?_
      repeat(first|((first|refine TW_plain rfl rfl ?_|refine TW_gmet rfl rfl rfl rfl ?_);first|refine QW QP ?_|refine QW QeT ?_|refine QW QeF ?_|refine QW QaA ?_)|refine TW_done ?_)
      refine TW_one rfl (TL_val (rr_lookE itK Und.eq zero_i64 (i := 1) rfl rfl (x := it) rfl hit hcv) rfl rfl rfl (TW_on (sub_pick [0, 4] (by decide) rfl) ?_))
      repeat(first|((first|refine TW_plain rfl rfl ?_|refine TW_gmet rfl rfl rfl rfl ?_);first|refine QW QP ?_|refine QW (rr_add64 (r := ((n + 1 : Nat) : Int)) rfl rfl (by omega) (by omega) (by omega)) ?_|refine QW QeT ?_|refine QW QeF ?_|refine QW QaA ?_)|refine TW_done ?_)
      refine TW_one rfl (TL_entSet itK F' Und.eq (i := 1) rfl rfl rfl rfl hit (by omega) hnx (TW_on (sub_pick [0, 4] (by decide) rfl) ?_))
      repeat(first|((first|refine TW_plain rfl rfl ?_|refine TW_gmet rfl rfl rfl rfl ?_);first|refine QW QP ?_|refine QW QeT ?_|refine QW QeF ?_|refine QW QaA ?_)|refine TW_done ?_)
      exact E_mid () trivial (by repeat' (first | exact True.intro | refine And.intro rfl ?_)) rfl
  rintro ⟨⟩ _
  by_cases c1 : it ∈ out
  · have hm1 : more out it = out := if_pos c1
    rw [hm1]
    have hn0 : n ≠ 0 := fun e => hz.1 e c1
    clear hnx hcv
    repeat(first|refine QV QP ?_|refine QZ ?_|refine qcT rfl ?_|refine qcF rfl ?_|refine QV (rr_load1 (v := .map (some gm)) TyC.ty rfl (at_blk (i := 0) rfl rfl)) ?_|refine QV (rr_loadB (i := 4) TyC.ty rfl rfl rfl) ?_|refine QV (rr_lookT itK Und.eq zero_i64 (i := 1) rfl rfl (x := it) rfl hit hF1) ?_|refine QV (rr_eql (b := false) rfl rfl (decide_eq_false (by omega))) ?_|refine QV QeT ?_|refine QV QeF ?_|refine QV QaA ?_)
    exact E_end0 rfl fun w hm => hm.meetsB (S := ⟨fun (_ : Value) => True, fun _ => .tuple #[], fun v' => putL g5 gm g6 (b + 2) v' (itUp c it) out⟩) v trivial [0, 1, 2, 3] (by decide) (by unfold putL; rw [← hF']; rfl)
  · have hm1 : more out it = out ++ [it] := if_neg c1
    rw [hm1]
    have hn0 : n = 0 := hz.2 c1
    clear hnx hcv
    repeat(first|refine QV QP ?_|refine QZ ?_|refine qcT rfl ?_|refine qcF rfl ?_|refine QV (rr_load1 (v := .map (some gm)) TyC.ty rfl (at_blk (i := 0) rfl rfl)) ?_|refine QV (rr_loadB (i := 4) TyC.ty rfl rfl rfl) ?_|refine QV (rr_lookT itK Und.eq zero_i64 (i := 1) rfl rfl (x := it) rfl hit hF1) ?_|refine QV (rr_eql (b := true) rfl rfl (decide_eq_true (by omega))) ?_|refine QV (rr_load1 (v := v) TyC.ty rfl (at_blk (i := 2) rfl rfl)) ?_|refine QV QeT ?_|refine QV QeF ?_|refine QV QaA ?_)
    refine TL_litN (cs := (itC it).toArray) [.agg (itC it).toArray] rfl rfl rfl (by intro v hv; simp only [List.mem_cons, List.not_mem_nil, or_false] at hv; subst hv; rfl) rfl rfl rfl fun g16 => ?_
    conv=>arg 8;simp only[zA,zB,zC,zD,zE,zF,zG,zH,zI,rowS,ret,id_eq]
    refine TL_appSl (i := 3) (e := 43) (size := 3) (bytes := 24) (m := out.length) (xs := out.flatMap itC) (k := 1) (ys := itC it) rfl (sl_blk (i := 5) rfl (fun j u h => by simpa using h) (Nat.le_refl 1) (by decide)) rfl rfl rfl (it_oneC it) (by omega) (by omega) rfl fun v' => ?_
    conv=>arg 8;simp only[zA,zB,zC,zD,zE,zF,zG,zH,zI,rowS,ret,id_eq]
    refine TL_slv (i := 3) rfl fun hv1 hv2 => ?_
    refine TL_store1 (i := 2) rfl rfl rfl hv1 hv2 rfl ?_
    conv=>arg 8;simp only[zA,zB,zC,zD,zE,zF,zG,zH,zI,rowS,ret,id_eq]
    repeat(first|refine QV QP ?_|refine QZ ?_|refine qcT rfl ?_|refine qcF rfl ?_|refine QV QeT ?_|refine QV QeF ?_|refine QV QaA ?_)
    exact E_end0 rfl fun w hm => hm.meetsB (S := ⟨fun (_ : Value) => True, fun _ => .tuple #[], fun v' => putL g5 gm g6 (b + 2) v' (itUp c it) (out ++ [it])⟩) v' trivial [0, 1, 2, 3] (by decide) (by unfold putL; rw [← hF', List.flatMap_append, List.length_append]; rfl)
end Go.Proofs.Ytomkjjpdnmcnnaa.eng


/- SortJ -/
namespace Go.Proofs.Ytomkjjpdnmcnnaa.eng
open Go.Shelf
def sortIt_ren : Go.Shelf.Ren := ⟨fun | 6 => 47 | 15 => 57 | 14 => 56 | 28 => 68 | 29 => 69 | 20 => 60 | 21 => 61 | 22 => 62 | 23 => 63 | 24 => 64 | 25 => 65 | 26 => 66 | 27 => 67 | 46 => 71 | 47 => 72 | 48 => 73 | 49 => 74 | 50 => 75 | 57 => 76 | n => n, fun | 22 => 25 | 24 => 43 | 25 => 110 | 3 => 3 | 39 => 123 | 0 => 0 | 53 => 137 | 55 => 70 | 4 => 4 | 46 => 131 | 45 => 130 | 50 => 112 | 5 => 5 | 9 => 9 | 66 => 140 | 70 => 144 | 76 => 146 | 77 => 147 | n => n, fun | n => n⟩
theorem sortIt : Go.Proofs.SlLaysF0.n6 Try.prog sortIt_ren := {
  mixed := by kernel_rfl
  f6 := ⟨Try.f47.name, by decide, Try.func47.trans (congrArg some (by kernel_rfl))⟩
  f14 := ⟨Try.f56.name, by decide, Try.func56.trans (congrArg some (by kernel_rfl))⟩
  f15 := Try.func57.trans (congrArg some (by kernel_rfl))
  f20 := ⟨Try.f60.name, by decide, Try.func60.trans (congrArg some (by kernel_rfl))⟩
  f21 := ⟨Try.f61.name, by decide, Try.func61.trans (congrArg some (by kernel_rfl))⟩
  f22 := ⟨Try.f62.name, by decide, Try.func62.trans (congrArg some (by kernel_rfl))⟩
  f23 := ⟨Try.f63.name, by decide, Try.func63.trans (congrArg some (by kernel_rfl))⟩
  f24 := ⟨Try.f64.name, by decide, Try.func64.trans (congrArg some (by kernel_rfl))⟩
  f25 := ⟨Try.f65.name, by decide, Try.func65.trans (congrArg some (by kernel_rfl))⟩
  f26 := ⟨Try.f66.name, by decide, Try.func66.trans (congrArg some (by kernel_rfl))⟩
  f27 := ⟨Try.f67.name, by decide, Try.func67.trans (congrArg some (by kernel_rfl))⟩
  f28 := Try.func68.trans (congrArg some (by kernel_rfl))
  f29 := Try.func69.trans (congrArg some (by kernel_rfl))
  f46 := ⟨Try.f71.name, by decide, Try.func71.trans (congrArg some (by kernel_rfl))⟩
  f47 := Try.func72.trans (congrArg some (by kernel_rfl))
  f48 := Try.func73.trans (congrArg some (by kernel_rfl))
  f49 := ⟨Try.f74.name, by decide, Try.func74.trans (congrArg some (by kernel_rfl))⟩
  f50 := ⟨Try.f75.name, by decide, Try.func75.trans (congrArg some (by kernel_rfl))⟩
  f57 := ⟨Try.f76.name, by decide, Try.func76.trans (congrArg some (by kernel_rfl))⟩
  t0 := Try.underlying0
  a0 := Try.isAgg0
  z0 := Try.sizeOf0
  v0 := Try.zeroValue0
  t3 := Try.underlying3
  a3 := Try.isAgg3
  z3 := Try.sizeOf3
  v3 := Try.zeroValue3
  t4 := Try.underlying4
  a4 := Try.isAgg4
  z4 := Try.sizeOf4
  v4 := Try.zeroValue4
  t5 := Try.underlying5
  a5 := Try.isAgg5
  z5 := Try.sizeOf5
  v5 := Try.zeroValue5
  t9 := Try.underlying9
  a9 := Try.isAgg9
  z9 := Try.sizeOf9
  v9 := Try.zeroValue9
  t22 := Try.underlying25
  a22 := Try.isAgg25
  z22 := Try.sizeOf25
  v22 := Try.zeroValue25
  t25 := Try.underlying110
  a25 := Try.isAgg110
  z25 := Try.sizeOf110
  v25 := Try.zeroValue110
  t39 := Try.underlying123
  a39 := Try.isAgg123
  z39 := Try.sizeOf123
  v39 := Try.zeroValue123
  t45 := Try.underlying130
  a45 := Try.isAgg130
  z45 := Try.sizeOf130
  v45 := Try.zeroValue130
  t46 := Try.underlying131
  a46 := Try.isAgg131
  z46 := Try.sizeOf131
  v46 := Try.zeroValue131
  t50 := Try.underlying112
  a50 := Try.isAgg112
  z50 := Try.sizeOf112
  v50 := Try.zeroValue112
  t53 := Try.underlying137
  a53 := Try.isAgg137
  z53 := Try.sizeOf137
  v53 := Try.zeroValue137
  t55 := Try.underlying70
  a55 := Try.isAgg70
  z55 := Try.sizeOf70
  v55 := Try.zeroValue70
  t66 := Try.underlying140
  a66 := Try.isAgg140
  z66 := Try.sizeOf140
  v66 := Try.zeroValue140
  t70 := Try.underlying144
  a70 := Try.isAgg144
  z70 := Try.sizeOf144
  v70 := Try.zeroValue144
  t76 := Try.underlying146
  a76 := Try.isAgg146
  z76 := Try.sizeOf146
  v76 := Try.zeroValue146
  t77 := Try.underlying147
  a77 := Try.isAgg147
  z77 := Try.sizeOf147
  v77 := Try.zeroValue147 }
end Go.Proofs.Ytomkjjpdnmcnnaa.eng

/- ItE -/
namespace Go.Proofs.Ytomkjjpdnmcnnaa.eng
open Go.RowKit kit mix itemL Go.Sort
theorem put_blockV (w : World) (n g : Nat) (d : Array Value) (os : Array Obj) {k : Nat} (hk : k < w.heap.size) (hg : k ≠ g) : (grow (putRow id (Go.Sort.ahead w n) g 0 d) os).heap[k]? = w.heap[k]? := by
  rw [heap_grow_old _ _ (by rw [size_putRow]; exact hk)]
  show (w.heap.modify g _)[k]? = w.heap[k]?
  rw [Array.getElem?_modify, if_neg (fun h => hg h.symm)]
theorem put_memV {B : Base} {w : World} {e : TypeId} {g cap m size : Nat} {xs : List Value} (hm : Mem B [rowO e size (.slice (some ⟨g, 0, none⟩) m cap) m xs] w) (d : Array Value) (hd : d.size = m * size) (n : Nat) (os : Array Obj) :
    Mem B [rowO e size (.slice (some ⟨g, 0, none⟩) m cap) m d.toList] (grow (putRow id (Go.Sort.ahead w n) g 0 d) os) := by
  have ho : w.ownsRow 0 e size (.slice (some ⟨g, 0, none⟩) m cap) m xs := hm.get (i := 0) rfl
  obtain ⟨hl, hr⟩ := ho
  rcases hr with ⟨h, _⟩ | ⟨g2, cap2, cur, hv, _, hg, hc, hx, hs, ht⟩
  · cases h
  cases hv
  have hmay : B.may g := (hm.owns.all 0 _ rfl).2 g (.inl rfl)
  have hgw : g < w.heap.size := (Array.getElem?_eq_some_iff.1 hg).1
  have hheap : (grow (putRow id (Go.Sort.ahead w n) g 0 d) os).heap[g]? = some (.cells (putCells id 0 d cur) e (0, 0)) := by
    rw [heap_grow_old _ _ (by rw [size_putRow]; exact hgw)]
    show (w.heap.modify g (onCells (putCells id 0 d)))[g]? = _
    rw [Array.getElem?_modify, if_pos rfl, hg]; rfl
  have hle : m * size ≤ cap * size := Nat.mul_le_mul_right _ hc
  refine ⟨⟨hm.low.os, hm.low.tape, hm.low.output, ?_, fun k hk hx => ?_⟩, OwnsP.one ⟨?_, .inr ⟨g, cap, _, rfl, Nat.zero_le _, hheap, hc, hx, ?_, ?_⟩⟩ fun k hk => ?_⟩
  · rw [size_grow, size_putRow]; exact Nat.le_trans hm.low.size (Nat.le_add_right _ _)
  · have hkg : k ≠ g := fun e => by
      subst e
      rcases hmay with h | h
      · omega
      · exact hx h
    rw [put_blockV w n g d os (Nat.lt_of_lt_of_le hk hm.low.size) hkg]
    exact hm.low.block k hk hx
  · rw [Array.length_toList, hd]
  · unfold putCells; rw [Array.size_mapIdx]; exact hs
  · apply List.ext_getElem?
    intro j
    rw [List.getElem?_take]
    by_cases hj : j < m * size
    · have hjc : j < cur.size := by omega
      rw [if_pos hj, Array.getElem?_toList, Array.getElem?_toList]
      unfold putCells
      rw [Array.getElem?_mapIdx, Array.getElem?_eq_getElem hjc, Option.map_some, if_pos ⟨Nat.zero_le _, by omega⟩, Nat.sub_zero, getElem!_pos d j (by omega), Array.getElem?_eq_getElem (by omega : j < d.size)]
      rfl
    · rw [if_neg hj, Array.getElem?_toList, Array.getElem?_eq_none (by omega)]
  · rcases hk with h | h
    · simp only [rowO, Value.ownBlock, Option.some.injEq] at h; subst h; exact hmay
    · exact h.elim
theorem swo_it : SWO (ltOf ordI) := ⟨ltI_irr, fun _ _ _ h1 h2 => ltI_tr h1 h2, fun x y z h1 h2 => by
  have h1 : ltI x y = false := h1
  have h2 : ltI y z = false := h2
  show ltI x z = false
  rw [ltI_no] at *; omega⟩
theorem flat_it (l : List itemL.Item) : (flatK itC 3 l.toArray).toList = l.flatMap itC := by
  have hL : (l.flatMap itC).length = l.length * 3 := len_el itC_len l
  apply List.ext_getElem?
  intro t
  by_cases ht : t < l.length * 3
  · have hd : t / 3 < l.length := by omega
    have h1 := get_flatK itC 3 l.toArray t (by simpa using ht)
    rw [getElem!_pos (flatK itC 3 l.toArray) t (by simpa using ht), getElem!_pos l.toArray (t / 3) (by simpa using hd)] at h1
    have h2 := flatten_get (c := 3) (l.map itC) (fun x hx => by obtain ⟨y, _, rfl⟩ := List.mem_map.1 hx; exact itC_len y) (t / 3) (t % 3) (by simpa using hd) (Nat.mod_lt _ (by decide))
    rw [show t / 3 * 3 + t % 3 = t by omega, List.getElem_map] at h2
    rw [Array.getElem?_toList, Array.getElem?_eq_getElem (by simpa using ht), h1]
    show _ = (l.map itC).flatten[t]?
    rw [h2]
    have h3 : t % 3 < (itC l[t / 3]).length := by rw [itC_len]; exact Nat.mod_lt _ (by decide)
    rw [List.getElem?_eq_getElem h3]
    simp only [List.getElem_toArray]
    rw [getElem!_pos (itC l[t / 3]) (t % 3) h3]
  · rw [List.getElem?_eq_none (by rw [Array.length_toList, size_flatK]; simp; omega), List.getElem?_eq_none (by omega)]
theorem row_holdsV {w : World} {e : TypeId} {g cap m size : Nat} {xs : List Value} (ho : w.ownsRow 0 e size (.slice (some ⟨g, 0, none⟩) m cap) m xs) (d : Array Value) (hd : d.toList = xs) : Holds id w g 0 d ∧ g < w.heap.size := by
  obtain ⟨hl, hr⟩ := ho
  rcases hr with ⟨h, _⟩ | ⟨g2, cap2, cur, hv, _, hg, hc, hx, hs, ht⟩
  · cases h
  cases hv
  refine ⟨fun j hj => ?_, (Array.getElem?_eq_some_iff.1 hg).1⟩
  have hle : m * size ≤ cap * size := Nat.mul_le_mul_right _ hc
  have hj2 : j < xs.length := by rw [← hd]; simpa using hj
  have hcj : cur[j]? = some d[j] := by
    have := congrArg (fun l => l[j]?) ht
    rw [List.getElem?_take, if_pos (by omega), Array.getElem?_toList, ← hd, Array.getElem?_toList, Array.getElem?_eq_getElem hj] at this
    exact this
  refine ⟨?_, ?_⟩
  · rw [cell_of_row w g (0 + j) _ _ _ hg, Nat.zero_add, hcj, getElem!_pos d j hj]; rfl
  · unfold World.frozen?
    rw [hg]
    simp
def OrdLays : Prop := ∀ (x y : itemL.Item) (w : World), Calls Try.prog 48 #[.agg (itC x).toArray, .agg (itC y).toArray] w fun e w' => e = .returned (.int .i64 (ordI x y)) ∧ ∃ q os', w' = grow (w.drewN q) os'
theorem itSortG (hord : OrdLays) (v : Value) (l : List itemL.Item) (w : World) (B : Base) (hm : Mem B [rowO 43 3 v l.length (l.flatMap itC)] w) (hl : l.length < 4611686018427387904) :
    Calls Try.prog 47 #[v, .func (.func 48) #[] #[]] w (MeetsB ⟨fun (_ : Unit) => True, fun _ => .tuple #[], fun _ => [rowO 43 3 v l.length ((sortI l).flatMap itC)]⟩ B) := by
  have ho : w.ownsRow 0 43 3 v l.length (l.flatMap itC) := hm.get (i := 0) rfl
  have ho2 := ho
  rcases ho.2 with ⟨rfl, h0⟩ | ⟨g, cap, cur, rfl, _, hg, hc, hx, hs, ht⟩
  · obtain rfl : l = [] := List.length_eq_zero_iff.1 h0
    refine (AnyF.slices_SortFunc_none sortIt none 0 _ w).mono fun e w' ⟨he, hw⟩ => ⟨(), trivial, he, ?_⟩
    rw [hw]; exact (by simpa [sortI] using hm)
  · obtain ⟨h1, h2⟩ := row_holdsV ho2 (flatK itC 3 l.toArray) (flat_it l)
    have hcmp : CmpLays Try.prog 48 #[] itC 3 ordI g 0 l.toArray.size w := fun m os dk _ x y => by
      have h := hord x y (sortWorldK itC 3 w g 0 m dk os)
      simpa using h
    have h := AnyQ.slices_SortFunc_total sortIt 3 Try.isAgg43 Try.sizeOf43 itC itC_len (fun x v hv => by simp only [itC, List.mem_cons, List.not_mem_nil, or_false] at hv; rcases hv with rfl | rfl | rfl <;> rfl) ordI swo_it 48 #[] g 0 cap l.toArray w EntersC.en hcmp h1 h2 (by simpa using hl) ltI_parts
    have hz : l.toArray.size = l.length := by simp
    rw [hz] at h
    refine h.mono fun e w' ⟨he, n, os, hw⟩ => ⟨(), trivial, he, ?_⟩
    have hlen : (sortI l).length = l.length := sort_len l
    have hq := put_memV hm (flatK itC 3 (sortI l).toArray) (by rw [size_flatK]; simp [hlen]) n os
    rw [flat_it] at hq
    rw [hw]; exact hq
end Go.Proofs.Ytomkjjpdnmcnnaa.eng


/- ItF -/
namespace Go.Proofs.Ytomkjjpdnmcnnaa.eng
open Go.RowKit kit mix gramL treeL factsL itemL smallL
/-- a slice that the caller keeps as it is -/
def SlB (B : Base) (v : Value) (n : Nat) (xs : List Value) : Prop :=
  ∃ base cap, v = .slice base n cap ∧ n ≤ cap ∧ cap ≤ maxLen ∧ (0 < n → ∃ b off, base = some ⟨b, off, none⟩ ∧ OldB B b ∧ Rd B.w b off xs)
theorem SlB.old {w0 : World} {B : Base} {v : Value} {n : Nat} {xs : List Value} (ho : Old w0 B) (h : Sl w0 v n xs) (hx : 0 < n → xs ≠ []) : SlB B v n xs := by
  obtain ⟨base, cap, rfl, h1, h2, h3⟩ := h
  refine ⟨base, cap, rfl, h1, h2, fun hn => ?_⟩
  obtain ⟨b, off, rfl, hr⟩ := h3 hn
  obtain ⟨x, r, hxs⟩ : ∃ x r, xs = x :: r := List.exists_cons_of_ne_nil (hx hn)
  have h0 := hr 0 x (by rw [hxs]; rfl)
  have hlt : b < w0.heap.size := World.block_lt_of_cell? w0 _ h0
  refine ⟨b, off, rfl, ⟨Nat.lt_of_lt_of_le hlt ho.below.size, ho.free b hlt⟩, fun j v hj => ?_⟩
  have h2 := hr j v hj
  rw [ho.below.cell (show (⟨b, off + j, none⟩ : Addr).block < w0.heap.size from hlt)]
  rw [← h2]
/-- a symbol of the body, read -/
theorem body_at {l : List gramL.Prod} {w0 : World} {W : Base} {vb : Nat → Value} {k dn : Nat} {x : Option Nat} {bb : Option Addr} {cc m : Nat} (ho : Old w0 W) (hv : BodR (fun q => q < w0.heap.size) w0 vb l) (hk : k ≤ l.length) (hx : x.isSome = decide (k = l.length)) (hb : bodV vb k x = .slice bb m cc) (hd : dn < (bodyI l (k : Int)).length) :
    ∃ b off, bb = some ⟨b, off, none⟩ ∧ ∀ (L : List Own) (i : Nat), L[i]? = some (bodO x) → ∀ j u, (symC (bodyI l (k : Int))[dn])[j]? = some u → At W L ⟨b, off + dn * 2 + j, none⟩ u := by
  cases x with
  | some g =>
    have hk : k = l.length := by simpa using hx
    subst hk
    have e : bodyI l (l.length : Int) = [(2, 0)] := by unfold bodyI; rw [if_pos rfl]
    have hb : Value.slice (some ⟨g, 0, none⟩) 1 1 = .slice bb m cc := hb
    cases hb
    refine ⟨g, 0, rfl, fun L i hi j u hj => ?_⟩
    have hd0 : dn = 0 := by rw [e] at hd; simpa using hd
    subst hd0
    simp only [e, List.getElem_cons_zero] at hj
    rw [show 0 + 0 * 2 + j = j by omega]
    exact at_blk hi (by simpa [symC] using hj)
  | none =>
    have hk' : k < l.length := by
      have : ¬ k = l.length := by simpa using hx
      omega
    have e : bodyI l (k : Int) = (prodAt l (k : Int)).2 := by unfold bodyI; rw [if_neg (by omega)]
    have hs := (hv k hk').flat (f := symC) (by decide)
    have hb : vb k = .slice bb m cc := hb
    rw [hb] at hs
    obtain ⟨base, cap, h1, _, _, h3⟩ := hs
    cases h1
    have hd' : dn < (prodAt l (k : Int)).2.length := by rw [← e]; exact hd
    obtain ⟨b, off, rfl, hr⟩ := h3 (by omega)
    refine ⟨b, off, rfl, fun L i _ j u hj => ?_⟩
    simp only [e] at hj
    exact at_elL (W := W) (L := L) SymC_len (off := off) (fun q y hq => at_old0 ho (hr q y hq)) hd' j u hj
theorem looksI_lt (g : Gram) {it : itemL.Item} (h : it.2.2.toNat < 64) : looksI (lkG g) it < 18446744073709551616 := by
  have h1 : lkG g it.1 it.2.1 < 18446744073709551616 := begV_lt (by decide)
  unfold looksI
  split
  · exact Nat.or_lt_two_pow (n := 64) (Nat.xor_lt_two_pow (n := 64) h1 (by decide)) (Nat.pow_lt_pow_right (by decide) h)
  · exact h1
theorem expLook_le {i bits : Nat} {out : List itemL.Item} : ∀ k, (expLook i bits out k).length ≤ out.length + k
  | 0 => Nat.le_refl _
  | k + 1 => by
    rw [expLook]
    have := expLook_le (i := i) (bits := bits) (out := out) k
    have h2 : (more (expLook i bits out k) ((i : Int), 0, (k : Int))).length ≤ (expLook i bits out k).length + 1 := by unfold more; split <;> simp
    split <;> omega
theorem expProd_le {l : List gramL.Prod} {T : Nat} {N : Int} {bits : Nat} {out : List itemL.Item} : ∀ i, (expProd l T N bits out i).length ≤ out.length + i * (T + 1)
  | 0 => by rw [Nat.zero_mul]; exact Nat.le_refl _
  | i + 1 => by
    rw [expProd, Nat.succ_mul]
    have := expProd_le (l := l) (T := T) (N := N) (bits := bits) (out := out) i
    have h2 := expLook_le (i := i) (bits := bits) (out := expProd l T N bits out i) (T + 1)
    split <;> omega
theorem pickMem {L : List Own} {is : List Nat} {o : Own} (h : o ∈ is.filterMap fun i => L[i]?) : o ∈ L := by
  obtain ⟨i, _, hi⟩ := List.mem_filterMap.1 h
  exact List.mem_of_getElem? hi
/-- what the opener owns -/
def opL (g : Gram) (bp : Option Addr) (cp go gm : Nat) (f : RK → Option Value) (c : Nat) : List Own := [blkO go (opC g.terms g.nons (.slice bp g.prods.length cp) gm).toArray 105, mapO restK gm f c]
theorem firstsLe {κ : Type} [DecidableEq κ] : ∀ (l D : List κ), (firsts D l).length ≤ D.length + l.length
  | [], D => by simp [firsts]
  | k :: r, D => by
    rw [firsts]
    have := firstsLe r (if k ∈ D then D else D ++ [k])
    have h2 : (if k ∈ D then D else D ++ [k]).length ≤ D.length + 1 := by split <;> simp
    rw [List.length_cons]; omega
theorem right_ok {l : List gramL.Prod} {T : Nat} {x : itemL.Item} (h : RightI l T x) (hl : l.length ≤ 40) (hw : ∀ q ∈ l, q.2.length ≤ 8) (hT : T ≤ 30) : itK.ok x := by
  obtain ⟨a1, a2, a3, a4, a5, a6⟩ := h
  have := body_len (l := l) (p := x.1) hw
  exact ⟨⟨by omega, by omega⟩, ⟨by omega, by omega⟩, by omega, by omega⟩
def itClS (g : Gram) (T : Nat) (l0 : List itemL.Item) (bp : Option Addr) (cp go gm c : Nat) : Spec ((RK → Option Value) × Nat × Value) :=
  ⟨fun x => CacheOk (lkG g) x.1 ∧ x.2.1 ≤ c + 12000, fun x => x.2.2, fun x => opL g bp cp go gm x.1 x.2.1 ++ [rowO 43 3 x.2.2 (closedI g.prods T (lkG g) l0).length ((closedI g.prods T (lkG g) l0).flatMap itC)]⟩
theorem it_ok {i j : Nat} (hi : i ≤ 1000) (hj : j ≤ 1000) : itK.ok ((i : Int), 0, (j : Int)) := by
  show (-9223372036854775808 ≤ (i : Int) ∧ (i : Int) ≤ 9223372036854775807) ∧ (-9223372036854775808 ≤ (0 : Int) ∧ (0 : Int) ≤ 9223372036854775807) ∧ (-9223372036854775808 ≤ (j : Int) ∧ (j : Int) ≤ 9223372036854775807)
  omega
theorem build_it2 (a c : Int) (w : World) : (Instr.build 43 #[(0, .int .i64 a), (2, .int .i64 c)]).run Try.prog w = .ok (.agg #[.int .i64 a, .int .i64 0, .int .i64 c]) w := by kernel_rfl
attribute [local irreducible] Op.shift Go.bits in
set_option maxHeartbeats 8000000 in
theorem itClosed_calls (g : Gram) (hg : checkG g = 0) (bp : Option Addr) (cp : Nat) (vb : Nat → Value) (w0 : World) (hG : GraR (fun q => q < w0.heap.size) w0 (graV g.terms g.nons (.slice bp g.prods.length cp)) g) (hvb : BodR (fun q => q < w0.heap.size) w0 vb g.prods) (hrp : 0 < g.prods.length → ∃ b off, bp = some ⟨b, off, none⟩ ∧ ∀ i, i < g.prods.length → Rd w0 b (off + i * 2) [.int .i64 (prodAt g.prods (i : Int)).1, vb i])
    (go gm c : Nat) (f : RK → Option Value) (T : Nat) (hTt : g.terms = (T : Int)) (hT : T ≤ 30) (l0 : List itemL.Item) (vl : Value) (h0 : ∀ x ∈ l0, RightI g.prods T x) (hl0 : l0.length ≤ 20000) (hc : CacheOk (lkG g) f) (hcc : c ≤ 900000000000000) (w : World) (B : Base) (ho : Old w0 B) (hvl : SlB B vl l0.length (l0.flatMap itC))
    (hm : Mem B (opL g bp cp go gm f c) w) :
    Calls Try.prog 30 #[.pointer (some ⟨go, 0, none⟩), vl] w (MeetsB (itClS g T l0 bp cp go gm c) B) := by
  obtain ⟨-, -, -, -, hpl, hgb⟩ := checkG_ok hg
  have hwl : ∀ q ∈ g.prods, q.2.length ≤ 8 := fun q hq => (hgb q hq).1
  have hput := fun g5 gm2 g6 b v cn out it hit hp hb hn w' B' hm' => itPut_calls g5 gm2 g6 b v cn out it hit hp hb hn w' B' hm'
  unfold opL at hm
  obtain ⟨bl, cl, rfl, hc1, hc2, hrl⟩ := hvl
  unfold maxLen at hc2
  refine enterB hm (args := [.pointer (some ⟨go, 0, none⟩), .slice bl l0.length cl]) (n := 117) Try.func30 rfl rfl rfl ?_
  repeat(first|refine QV QP ?_|refine QZ ?_|refine qcT rfl ?_|refine qcF rfl ?_|refine E_blockX ?_|refine E_blockO rfl ?_|refine qs rfl rfl rfl rfl rfl rfl ?_|((try refine qg rfl rfl rfl ?_);first|refine QV QP ?_|refine QV QL ?_|refine QV QA ?_|refine QV (rr_nilc rfl) ?_|refine QV QlT ?_|refine QV QlF ?_|refine QV QeT ?_|refine QV QeF ?_|refine QV QnT ?_|refine QV QnF ?_|refine QV QaA ?_))
  refine TL_mapT itK (z := .int .i64 0) rfl fun gm2 => ?_
  conv=>arg 8;simp only[zA,zB,zC,zD,zE,zF,zG,zH,zI,rowS,ret,id_eq]
  repeat(first|refine QV QP ?_|refine QZ ?_|refine qcT rfl ?_|refine qcF rfl ?_|refine E_blockX ?_|refine E_blockO rfl ?_|refine qs rfl rfl rfl rfl rfl rfl ?_|((try refine qg rfl rfl rfl ?_);first|refine QV QP ?_|refine QV QL ?_|refine QV QA ?_|refine QV (rr_nilc rfl) ?_|refine QV QlT ?_|refine QV QlF ?_|refine QV QeT ?_|refine QV QeF ?_|refine QV QnT ?_|refine QV QnF ?_|refine QV QaA ?_))
  refine TL_new rfl fun g5 => ?_
  conv=>arg 8;simp only[zA,zB,zC,zD,zE,zF,zG,zH,zI,rowS,ret,id_eq]
  refine TL_store1 (i := 3) rfl rfl rfl rfl rfl rfl ?_
  conv=>arg 8;simp only[zA,zB,zC,zD,zE,zF,zG,zH,zI,rowS,ret,id_eq]
  repeat(first|refine QV QP ?_|refine QZ ?_|refine qcT rfl ?_|refine qcF rfl ?_|refine E_blockX ?_|refine E_blockO rfl ?_|refine qs rfl rfl rfl rfl rfl rfl ?_|((try refine qg rfl rfl rfl ?_);first|refine QV QP ?_|refine QV QL ?_|refine QV QA ?_|refine QV (rr_nilc rfl) ?_|refine QV QlT ?_|refine QV QlF ?_|refine QV QeT ?_|refine QV QeF ?_|refine QV QnT ?_|refine QV QnF ?_|refine QV QaA ?_))
  refine TL_new rfl fun g6 => ?_
  conv=>arg 8;simp only[zA,zB,zC,zD,zE,zF,zG,zH,zI,rowS,ret,id_eq]
  repeat(first|refine QV QP ?_|refine QZ ?_|refine qcT rfl ?_|refine qcF rfl ?_|refine E_blockX ?_|refine E_blockO rfl ?_|refine qs rfl rfl rfl rfl rfl rfl ?_|((try refine qg rfl rfl rfl ?_);first|refine QV QP ?_|refine QV (rr_func rfl rfl) ?_|refine QV QL ?_|refine QV QA ?_|refine QV (rr_nilc rfl) ?_|refine QV QlT ?_|refine QV QlF ?_|refine QV QeT ?_|refine QV QeF ?_|refine QV QnT ?_|refine QV QnF ?_|refine QV QaA ?_))
  conv => arg 7; simp only [zA, zB, zC, zD, zE, zF, zG, zH, zI, rowS, ret, id_eq]
  refine T_extra (rowO 43 3 (.slice none 0 0) 0 []) (fun k hk => hk.elim (fun h => by cases h) id) (fun w => ⟨by decide, .inl ⟨rfl, rfl⟩⟩) ?_
  refine T_pick [0, 1, 3, 2, 4, 5] (by decide) rfl ?_
  conv => arg 7; simp only [zA, zB, zC, zD, zE, zF, zG, zH, zI, rowS, ret, id_eq]
  refine T_loop (ι := Nat × Value × (itemL.Item → Nat)) (fun (j, _, cn) => j ≤ l0.length ∧ PutOk cn (firsts [] (l0.take j)) (2 * j)) (fun (j, _, _) => [(0, .pointer (some ⟨go, 0, none⟩)), (6, .pointer (some ⟨g6, 0, none⟩)), (7, .func (.func 45) #[] #[.pointer (some ⟨g5, 0, none⟩), .pointer (some ⟨g6, 0, none⟩)]), (18, .slice bl l0.length cl), (19, .int .i64 (l0.length : Int)), (20, .int .i64 (j : Int))])
    (fun (j, v, cn) => [blkO go (opC g.terms g.nons (.slice bp g.prods.length cp) gm).toArray 105, mapO restK gm f c] ++ putL g5 gm2 g6 (2 * j) v cn (firsts [] (l0.take j))) (fun (j, _, _) => l0.length - j) (0, .slice none 0 0, fun _ => 0) ⟨Nat.zero_le _, ⟨fun x => by simp [firsts], fun x => Nat.zero_le _⟩⟩ (by repeat' (first | exact True.intro | refine And.intro rfl ?_)) rfl ?_
  rintro ⟨j, v, cn⟩ ⟨j1, j2⟩
  dsimp only at j1 j2 ⊢
  by_cases c1 : j < l0.length
  · obtain ⟨b, off, rfl, hb1, hb2⟩ := hrl (by omega)
    have hat := fun L => at_elL (W := B) (L := L) itC_len (off := off) (fun q u hq => at_oldB hb1 hb2 q u hq) c1
    have hx0 := h0 l0[j] (List.getElem_mem c1)
    have hxo := right_ok hx0 hpl hwl hT
    have hnd : (firsts [] (l0.take j)).length ≤ j := Nat.le_trans (firstsLe _ _) (by rw [List.length_nil, List.length_take]; omega)
    have hnx : more (firsts [] (l0.take j)) l0[j] = firsts [] (l0.take (j + 1)) := by rw [List.take_succ_eq_append_getElem c1, firsts_snoc]
    have hpo := j2.put l0[j]
    rw [hnx] at hpo
    have hput := fun w' B' hm' => hput g5 gm2 g6 (2 * j) v cn (firsts [] (l0.take j)) l0[j] hxo j2 (by omega) (by omega) w' B' hm'
    rw [hnx] at hput
    generalize firsts [] (l0.take j) = out at *
    generalize hoq : firsts [] (l0.take (j + 1)) = out' at *
    generalize l0[j] = x at *
    repeat(first|refine QV QP ?_|refine QZ ?_|refine qcT rfl ?_|refine qcF rfl ?_|refine E_blockX ?_|refine E_blockO rfl ?_|refine qs rfl rfl rfl rfl rfl rfl ?_|((try refine qg rfl rfl rfl ?_);first|refine QV QP ?_|refine QV (rr_idxc Und.eq TyC.ty rfl rfl c1) ?_|refine QV (rr_loadN TyC.ty rfl (itC_len x) (hat _)) ?_|refine QV QL ?_|refine QV QA ?_|refine QV (rr_nilc rfl) ?_|refine QV QlT ?_|refine QV QlF ?_|refine QV QeT ?_|refine QV QeF ?_|refine QV QnT ?_|refine QV QnF ?_|refine QV QaA ?_))
    refine TL_new rfl fun g9 => ?_
    conv=>arg 8;simp only[zA,zB,zC,zD,zE,zF,zG,zH,zI,rowS,ret,id_eq]
    refine TL_storeB (i := 6) (cs' := (itC x).toArray) rfl rfl rfl rfl rfl rfl ?_
    conv=>arg 8;simp only[zA,zB,zC,zD,zE,zF,zG,zH,zI,rowS,ret,id_eq]
    repeat(first|refine QV QP ?_|refine QZ ?_|refine qcT rfl ?_|refine qcF rfl ?_|refine E_blockX ?_|refine E_blockO rfl ?_|refine qs rfl rfl rfl rfl rfl rfl ?_|((try refine qg rfl rfl rfl ?_);first|refine QV QP ?_|refine QV (rr_loadB (i := 6) TyC.ty rfl rfl rfl) ?_|refine QV QL ?_|refine QV QA ?_|refine QV (rr_nilc rfl) ?_|refine QV QlT ?_|refine QV QlF ?_|refine QV QeT ?_|refine QV QeF ?_|refine QV QnT ?_|refine QV QnF ?_|refine QV QaA ?_))
    refine TL_callB [2, 3, 4, 5] [0, 1, 6] (by decide) rfl rfl (he1c EntersC.en rfl rfl) (fun w hm hb => hput w _ hb) rfl rfl rfl ?_
    intro v' _
    conv=>arg 8;simp only[zA,zB,zC,zD,zE,zF,zG,zH,zI,rowS,ret,id_eq]
    repeat(first|refine QV QP ?_|refine QZ ?_|refine qcT rfl ?_|refine qcF rfl ?_|refine E_blockX ?_|refine E_blockO rfl ?_|refine qs rfl rfl rfl rfl rfl rfl ?_|((try refine qg rfl rfl rfl ?_);first|refine QV QP ?_|refine QV QL ?_|refine QV QA ?_|refine QV (rr_nilc rfl) ?_|refine QV QlT ?_|refine QV QlF ?_|refine QV QeT ?_|refine QV QeF ?_|refine QV QnT ?_|refine QV QnF ?_|refine QV QaA ?_))
    refine E_pick [0, 1, 3, 4, 5, 6] (by decide) rfl ?_
    exact E_round (j + 1, v', itUp cn x) ⟨by show j + 1 ≤ l0.length; omega, by show PutOk _ (firsts [] (l0.take (j + 1))) _; rw [hoq]; exact hpo⟩ (by show l0.length - (j + 1) < l0.length - j; omega) (by repeat' (first | exact True.intro | refine And.intro rfl ?_)) (by dsimp only; rw [hoq]; rfl)
  · obtain rfl : j = l0.length := by omega
    rw [List.take_length] at j2
    have hfl : (firsts [] l0).length ≤ 20000 := Nat.le_trans (firstsLe _ _) (by rw [List.length_nil]; omega)
    clear hrl
    repeat(first|refine QV QP ?_|refine QZ ?_|refine qcT rfl ?_|refine qcF rfl ?_|refine E_blockX ?_|refine E_blockO rfl ?_|refine qs rfl rfl rfl rfl rfl rfl ?_|((try refine qg rfl rfl rfl ?_);first|refine QV QP ?_|refine QV QL ?_|refine QV QA ?_|refine QV (rr_nilc rfl) ?_|refine QV QlT ?_|refine QV QlF ?_|refine QV QeT ?_|refine QV QeF ?_|refine QV QnT ?_|refine QV QnF ?_|refine QV QaA ?_))
    conv => arg 7; simp only [zA, zB, zC, zD, zE, zF, zG, zH, zI, rowS, ret, id_eq, List.take_length, putL, List.cons_append, List.nil_append]
    refine T_loop (ι := Nat × List itemL.Item × (RK → Option Value) × Nat × Value × (itemL.Item → Nat) × Nat) (fun (n, out, f', c', _, cn', b) => WkI g.prods T (lkG g) l0 n out ∧ workI g.prods T (lkG g) (12000 - n) n out = workI g.prods T (lkG g) 12000 0 (firsts [] l0) ∧ CacheOk (lkG g) f' ∧ c' ≤ c + n ∧ PutOk cn' out b ∧ b ≤ 40000 + 2480 * n)
      (fun (n, _, _, _, _, _, _) => [(0, .pointer (some ⟨go, 0, none⟩)), (6, .pointer (some ⟨g6, 0, none⟩)), (7, .func (.func 45) #[] #[.pointer (some ⟨g5, 0, none⟩), .pointer (some ⟨g6, 0, none⟩)]), (10, .int .i64 (n : Int))])
      (fun (_, out, f', c', v', cn', b) => [blkO go (opC g.terms g.nons (.slice bp g.prods.length cp) gm).toArray 105, mapO restK gm f' c', blkO g5 #[.map (some gm2)] 106, mapT itK gm2 (.int .i64 0) (itCnt cn') b, blkO g6 #[v'] 25, rowO 43 3 v' out.length (out.flatMap itC)]) (fun (n, _) => 12000 - n) (0, firsts [] l0, f, c, v, cn, 2 * l0.length) ⟨wk_start l0, rfl, hc, Nat.le_refl _, j2, by omega⟩ (by repeat' (first | exact True.intro | refine And.intro rfl ?_)) rfl ?_
    rintro ⟨n, out, f', c', v', cn', b⟩ ⟨i1, i2, i3, i4, i5, i6⟩
    dsimp only at i1 i2 i3 i4 i5 i6 ⊢
    have hfew := items_few hwl hpl hT i1.nd fun x hx => right_cl h0 (i1.cl x hx)
    refine T_know (i := 5) rfl row_slm fun hrow => ?_
    obtain ⟨bv, cv, rfl, -, hab⟩ := hrow
    by_cases c2 : n < out.length
    · obtain ⟨gz, rfl⟩ := hab (by omega)
      have hcl := i1.cl out[n] (List.getElem_mem c2)
      have hxr := right_cl h0 hcl
      have hat := fun (L : List Own) (i : Nat) (hL : L[i]? = some (rowO 43 3 (.slice (some ⟨gz, 0, none⟩) out.length cv) out.length (out.flatMap itC))) => at_rowel (W := B) itC_len hL c2
      have hwx : workI g.prods T (lkG g) (12000 - (n + 1)) (n + 1) (expI g.prods T (lkG g) out[n] out) = workI g.prods T (lkG g) 12000 0 (firsts [] l0) := by
        rw [← i2, show 12000 - n = (12000 - (n + 1)) + 1 by omega, workI, if_pos c2, List.getD_eq_getElem?_getD, List.getElem?_eq_getElem c2]; rfl
      have hwk := wk_step i1 c2
      clear i2 hcl
      generalize hxx : out[n] = x at *
      obtain ⟨p, d, lo⟩ := x
      have hxr2 := hxr
      obtain ⟨r1, r2, r3, r4, r5, r6⟩ := hxr2
      dsimp only at r1 r2 r3 r4 r5 r6
      obtain ⟨k, rfl⟩ := Int.eq_ofNat_of_zero_le r1
      obtain ⟨dn, rfl⟩ := Int.eq_ofNat_of_zero_le r3
      obtain ⟨ln, rfl⟩ := Int.eq_ofNat_of_zero_le r5
      have hk : k ≤ g.prods.length := by omega
      have hbd := fun w' (hm' : Mem B [] w') => itBody_calls g.terms g.nons bp cp g.prods vb w0 w' B k hk ho hm' (fun i hi => let ⟨b, c, h, _⟩ := hvb i hi; ⟨b, _, c, h⟩) hrp
      repeat(first|refine QV QP ?_|refine QZ ?_|refine qcT rfl ?_|refine qcF rfl ?_|refine E_blockX ?_|refine E_blockO rfl ?_|refine qs rfl rfl rfl rfl rfl rfl ?_|((try refine qg rfl rfl rfl ?_);first|refine QV QP ?_|refine QV (rr_load1 (v := .slice (some ⟨gz, 0, none⟩) out.length cv) TyC.ty rfl (at_blk (i := 4) rfl rfl)) ?_|refine QV (rr_rowlen (i := 5) Und.eq rfl rfl) ?_|refine QV QL ?_|refine QV QA ?_|refine QV (rr_nilc rfl) ?_|refine QV QlT ?_|refine QV QlF ?_|refine QV QeT ?_|refine QV QeF ?_|refine QV QnT ?_|refine QV QnF ?_|refine QV QaA ?_))
      refine T_ord ([blkO go (opC g.terms g.nons (.slice bp g.prods.length cp) gm).toArray 105, blkO g6 #[.slice (some ⟨gz, 0, none⟩) out.length cv] 25, rowO 43 3 (.slice (some ⟨gz, 0, none⟩) out.length cv) out.length (out.flatMap itC)]) (.calm 0 (.calm 1 (.calm 2 (.calm 3 (.calm 4 (.calm 5 (.calm 6 (.calm 7 (.calm 8 (.one 9 (.calm 10 (.done)))))))))))) (sub_pick [0, 4, 5] (by decide) rfl) (by kernel_rfl) (by kernel_rfl) (by intro c a d v w h; cases d <;> exact h) ?_
      repeat(first|((first|refine TW_plain rfl rfl ?_|refine TW_gmet rfl rfl rfl rfl ?_);first|refine QW QP ?_|refine QW (rr_nilc rfl) ?_|refine QW (rr_loadN TyC.ty rfl (cs := [.int .i64 g.terms, .int .i64 g.nons, .slice bp g.prods.length cp]) rfl (fun j v h => at_blk (i := 0) rfl (op_gram h))) ?_|refine QW (rr_load1 (v := .slice (some ⟨gz, 0, none⟩) out.length cv) TyC.ty rfl (at_blk (i := 1) rfl rfl)) ?_|refine QW (rr_idxc Und.eq TyC.ty rfl rfl c2) ?_|refine QW (rr_load1 (v := .int .i64 (k : Int)) TyC.ty rfl (hat _ 2 rfl 0 _ rfl)) ?_|refine QW QL ?_|refine QW QA ?_|refine QW (rr_nilc rfl) ?_|refine QW QlT ?_|refine QW QlF ?_|refine QW QeT ?_|refine QW QeF ?_|refine QW QnT ?_|refine QW QnF ?_|refine QW QaA ?_)|refine TW_skip rfl rfl rfl rfl rfl rfl rfl ?_|refine TW_done ?_)
      refine TW_one rfl ?_
      refine TL_call (he2 EntersC.en rfl rfl rfl) (fun w hm => hbd _ (hm.pick [] (by decide) rfl)) rfl rfl rfl ?_
      rintro xb hxb
      conv=>arg 8;simp only[zA,zB,zC,zD,zE,zF,zG,zH,zI,rowS,ret,id_eq, bodyS]
      conv => arg 7; simp only [bodyS]
      obtain ⟨bb, cc, hbv, hlc, -⟩ := body_slL (W := B) (i := 6) (L := [blkO go (opC g.terms g.nons (.slice bp g.prods.length cp) gm).toArray 105, mapO restK gm f' c', blkO g5 #[.map (some gm2)] 106, mapT itK gm2 (.int .i64 0) (itCnt cn') b, blkO g6 #[.slice (some ⟨gz, 0, none⟩) out.length cv] 25, rowO 43 3 (.slice (some ⟨gz, 0, none⟩) out.length cv) out.length (out.flatMap itC), bodO xb]) ho hvb hk hxb rfl
      have hsl := fun (L : List Own) (i : Nat) (hi : L[i]? = some (bodO xb)) => (body_slL (W := B) (L := L) ho hvb hk hxb hi)
      rw [hbv] at hsl ⊢
      have hb8 := body_len (l := g.prods) (p := (k : Int)) hwl
      refine TW_on (sub_pick [0, 4, 5] (by decide) rfl) ?_
      repeat(first|((first|refine TW_plain rfl rfl ?_|refine TW_gmet rfl rfl rfl rfl ?_);first|refine QW QP ?_|refine QW QL ?_|refine QW QA ?_|refine QW (rr_nilc rfl) ?_|refine QW QlT ?_|refine QW QlF ?_|refine QW QeT ?_|refine QW QeF ?_|refine QW QnT ?_|refine QW QnF ?_|refine QW QaA ?_)|refine TW_skip rfl rfl rfl rfl rfl rfl rfl ?_|refine TW_done ?_)
      clear hbd
      by_cases c3 : dn = (bodyI g.prods (k : Int)).length
      · repeat(first|refine QV QP ?_|refine QZ ?_|refine qcT rfl ?_|refine qcF rfl ?_|refine E_blockX ?_|refine E_blockO rfl ?_|refine qs rfl rfl rfl rfl rfl rfl ?_|((try refine qg rfl rfl rfl ?_);first|refine QV QP ?_|refine QV (rr_load1 (v := .slice (some ⟨gz, 0, none⟩) out.length cv) TyC.ty rfl (at_blk (i := 4) rfl rfl)) ?_|refine QV (rr_idxc Und.eq TyC.ty rfl rfl c2) ?_|refine QV (rr_load1 (v := .int .i64 (dn : Int)) TyC.ty rfl (hat _ 5 rfl 1 _ rfl)) ?_|refine QV (rr_eql (b := true) rfl rfl (decide_eq_true (by omega))) ?_|refine QV QL ?_|refine QV QA ?_|refine QV (rr_nilc rfl) ?_|refine QV QlT ?_|refine QV QlF ?_|refine QV QeT ?_|refine QV QeF ?_|refine QV QnT ?_|refine QV QnF ?_|refine QV QaA ?_))
        have hexp : expI g.prods T (lkG g) ((k : Int), (dn : Int), (ln : Int)) out = out := by
          unfold expI nextS
          dsimp only
          rw [Int.toNat_natCast, List.getElem?_eq_none (by omega)]
        rw [hexp] at hwk hwx
        refine E_pick [0, 1, 2, 3, 4, 5] (by decide) rfl ?_
        exact E_round (n + 1, out, f', c', .slice (some ⟨gz, 0, none⟩) out.length cv, cn', b) ⟨hwk, hwx, i3, by show c' ≤ c + (n + 1); omega, i5, by show b ≤ 40000 + 2480 * (n + 1); omega⟩ (by show 12000 - (n + 1) < 12000 - n; omega) (by repeat' (first | exact True.intro | refine And.intro rfl ?_)) rfl
      · have hlt : dn < (bodyI g.prods (k : Int)).length := by omega
        obtain ⟨b2, o2, rfl, hba⟩ := body_at ho hvb hk hxb hbv hlt
        have hnx : nextS g.prods ((k : Int), (dn : Int), (ln : Int)) = some (bodyI g.prods (k : Int))[dn] := by
          unfold nextS
          dsimp only
          rw [Int.toNat_natCast, List.getElem?_eq_getElem hlt]
        generalize hyy : (bodyI g.prods (k : Int))[dn] = y at *
        obtain ⟨yk, yn⟩ := y
        by_cases c4 : yk = 2
        · subst c4
          have hexp : expI g.prods T (lkG g) ((k : Int), (dn : Int), (ln : Int)) out = expProd g.prods T yn (looksI (lkG g) ((k : Int), (dn : Int), (ln : Int))) out g.prods.length := by
            unfold expI
            rw [hnx]
            dsimp only
            rw [if_pos rfl]
          rw [hexp] at hwk hwx
          repeat(first|refine QV QP ?_|refine QZ ?_|refine qcT rfl ?_|refine qcF rfl ?_|refine E_blockX ?_|refine E_blockO rfl ?_|refine qs rfl rfl rfl rfl rfl rfl ?_|((try refine qg rfl rfl rfl ?_);first|refine QV QP ?_|refine QV (rr_load1 (v := .slice (some ⟨gz, 0, none⟩) out.length cv) TyC.ty rfl (at_blk (i := 4) rfl rfl)) ?_|refine QV (rr_idxc Und.eq TyC.ty rfl rfl c2) ?_|refine QV (rr_idxc Und.eq TyC.ty rfl rfl hlt) ?_|refine QV (rr_load1 (v := .int .i64 (dn : Int)) TyC.ty rfl (hat _ 5 rfl 1 _ rfl)) ?_|refine QV (rr_eql (b := false) rfl rfl (decide_eq_false (by omega))) ?_|refine QV (rr_load1 (v := .int .i64 2) TyC.ty rfl (hba _ 6 rfl 0 _ rfl)) ?_|refine QV (rr_neq (b := false) rfl rfl (decide_eq_false (fun h => h rfl))) ?_|refine QV (rr_loadN (cs := itC ((k : Int), (dn : Int), (ln : Int))) TyC.ty rfl rfl (hat _ 5 rfl)) ?_|refine QV QL ?_|refine QV QA ?_|refine QV (rr_nilc rfl) ?_|refine QV QlT ?_|refine QV QlF ?_|refine QV QeT ?_|refine QV QeF ?_|refine QV QnT ?_|refine QV QnF ?_|refine QV QaA ?_))
          refine TL_callB [0, 1] [2, 3, 4, 5, 6] (by decide) rfl rfl (he2 EntersC.en rfl rfl rfl) (fun w hm hb => looks_calls g hg bp cp vb w0 hG hvb hrp go gm c' f' ((k : Int), (dn : Int), (ln : Int)) T hT hxr (by dsimp only; rw [Int.toNat_natCast]; exact hlt) i3 (by omega) w _ (ho.on hm fun o h => pickMem h) hb) rfl rfl rfl ?_
          rintro ⟨f2, c2'⟩ ⟨hf2, hc2'⟩
          dsimp only at hf2 hc2'
          conv=>arg 8;simp only[zA,zB,zC,zD,zE,zF,zG,zH,zI,rowS,ret,id_eq]
          have hblt := looksI_lt g (it := ((k : Int), (dn : Int), (ln : Int))) (by show ((ln : Int)).toNat < 64; omega)
          generalize looksI (lkG g) ((k : Int), (dn : Int), (ln : Int)) = bits at *
          repeat(first|refine QV QP ?_|refine QZ ?_|refine qcT rfl ?_|refine qcF rfl ?_|refine E_blockX ?_|refine E_blockO rfl ?_|refine qs rfl rfl rfl rfl rfl rfl ?_|((try refine qg rfl rfl rfl ?_);first|refine QV QP ?_|refine QV (rr_load1 (v := .slice bp g.prods.length cp) TyC.ty rfl (at_blk (i := 5) rfl rfl)) ?_|refine QV QL ?_|refine QV QA ?_|refine QV (rr_nilc rfl) ?_|refine QV QlT ?_|refine QV QlF ?_|refine QV QeT ?_|refine QV QeF ?_|refine QV QnT ?_|refine QV QnF ?_|refine QV QaA ?_))
          refine T_pick [5, 6, 0, 1, 2, 3, 4] (by decide) rfl ?_
          conv => arg 7; simp only [zA, zB, zC, zD, zE, zF, zG, zH, zI, rowS, ret, id_eq]
          refine T_loop (ι := Nat × Value × (itemL.Item → Nat) × Nat) (fun (i, _, cn2, b3) => i ≤ g.prods.length ∧ PutOk cn2 (expProd g.prods T yn bits out i) b3 ∧ b3 ≤ b + 62 * i)
            (fun (i, _, _, _) => [(0, .pointer (some ⟨go, 0, none⟩)), (6, .pointer (some ⟨g6, 0, none⟩)), (7, .func (.func 45) #[] #[.pointer (some ⟨g5, 0, none⟩), .pointer (some ⟨g6, 0, none⟩)]), (10, .int .i64 (n : Int)), (11, .slice (some ⟨b2, o2, none⟩) (bodyI g.prods (k : Int)).length cc), (12, bitV bits), (74, .slice bp g.prods.length cp), (75, .int .i64 (g.prods.length : Int)), (76, .int .i64 (i : Int))])
            (fun (i, v2, cn2, b3) => [blkO go (opC g.terms g.nons (.slice bp g.prods.length cp) gm).toArray 105, mapO restK gm f2 c2', blkO g5 #[.map (some gm2)] 106, mapT itK gm2 (.int .i64 0) (itCnt cn2) b3, blkO g6 #[v2] 25, rowO 43 3 v2 (expProd g.prods T yn bits out i).length ((expProd g.prods T yn bits out i).flatMap itC), bodO xb]) (fun (i, _) => g.prods.length - i) (0, .slice (some ⟨gz, 0, none⟩) out.length cv, cn', b) ⟨Nat.zero_le _, i5, by omega⟩ (by repeat' (first | exact True.intro | refine And.intro rfl ?_)) rfl ?_
          rintro ⟨i, v2, cn2, b3⟩ ⟨p1, p2, p3⟩
          dsimp only at p1 p2 p3 ⊢
          by_cases c5 : i < g.prods.length
          · obtain ⟨E, hE⟩ := expProd_pre (l := g.prods) (T := T) yn bits out i
            have hnd := expProd_le (l := g.prods) (T := T) (N := yn) (bits := bits) (out := out) i
            have hnx2 : expProd g.prods T yn bits out (i + 1) = if (prodAt g.prods (i : Int)).1 = yn then expLook i bits (expProd g.prods T yn bits out i) (T + 1) else expProd g.prods T yn bits out i := rfl
            have hm30 : i * (T + 1) ≤ 40 * 31 := Nat.mul_le_mul (by omega) (by omega)
            generalize hou : expProd g.prods T yn bits out i = ou at *
            have hno : n < ou.length := by rw [hE, List.length_append]; omega
            have hox : ou[n] = ((k : Int), (dn : Int), (ln : Int)) := by
              subst hE
              rw [List.getElem_append_left c2]; exact hxx
            refine T_know (i := 5) rfl row_slm fun hrow => ?_
            obtain ⟨bv2, cv2, rfl, -, hab2⟩ := hrow
            obtain ⟨gz2, rfl⟩ := hab2 (by omega)
            have hat2 := fun (L : List Own) (i : Nat) (hL : L[i]? = some (rowO 43 3 (.slice (some ⟨gz2, 0, none⟩) ou.length cv2) ou.length (ou.flatMap itC))) => at_rowel (W := B) itC_len hL hno
            rw [hox] at hat2
            obtain ⟨pb, po, rfl, hpr⟩ := hrp (by omega)
            have hpi := hpr i c5
            have hvo : (vb i).oneCell' = true := slf_one (hvb i c5)
            generalize hhd : (prodAt g.prods (i : Int)).1 = hd at *
            generalize vb i = vbi at hpi hvo
            repeat(first|refine QV QP ?_|refine QZ ?_|refine qcT rfl ?_|refine qcF rfl ?_|refine E_blockX ?_|refine E_blockO rfl ?_|refine qs rfl rfl rfl rfl rfl rfl ?_|((try refine qg rfl rfl rfl ?_);first|refine QV QP ?_|refine QV (rr_idxc Und.eq TyC.ty rfl rfl c5) ?_|refine QV (rr_loadN TyC.ty rfl (cs := [.int .i64 hd, vbi]) rfl (fun j v h => at_old0 ho (hpi j v h))) ?_|refine QV QL ?_|refine QV QA ?_|refine QV (rr_nilc rfl) ?_|refine QV QlT ?_|refine QV QlF ?_|refine QV QeT ?_|refine QV QeF ?_|refine QV QnT ?_|refine QV QnF ?_|refine QV QaA ?_))
            refine TL_new rfl fun g14 => ?_
            conv=>arg 8;simp only[zA,zB,zC,zD,zE,zF,zG,zH,zI,rowS,ret,id_eq]
            repeat(first|refine QV QP ?_|refine QZ ?_|refine qcT rfl ?_|refine qcF rfl ?_|refine E_blockX ?_|refine E_blockO rfl ?_|refine qs rfl rfl rfl rfl rfl rfl ?_|((try refine qg rfl rfl rfl ?_);first|refine QV QP ?_|refine QV QL ?_|refine QV QA ?_|refine QV (rr_nilc rfl) ?_|refine QV QlT ?_|refine QV QlF ?_|refine QV QeT ?_|refine QV QeF ?_|refine QV QnT ?_|refine QV QnF ?_|refine QV QaA ?_))
            refine TL_storeB (i := 7) (cs' := #[.int .i64 hd, vbi]) rfl rfl rfl rfl (by simp only [List.all_cons, List.all_nil, hvo]; rfl) rfl ?_
            conv=>arg 8;simp only[zA,zB,zC,zD,zE,zF,zG,zH,zI,rowS,ret,id_eq]
            repeat(first|refine QV QP ?_|refine QZ ?_|refine qcT rfl ?_|refine qcF rfl ?_|refine E_blockX ?_|refine E_blockO rfl ?_|refine qs rfl rfl rfl rfl rfl rfl ?_|((try refine qg rfl rfl rfl ?_);first|refine QV QP ?_|refine QV QL ?_|refine QV QA ?_|refine QV (rr_nilc rfl) ?_|refine QV QlT ?_|refine QV QlF ?_|refine QV QeT ?_|refine QV QeF ?_|refine QV QnT ?_|refine QV QnF ?_|refine QV QaA ?_))
            refine T_ord ([blkO g14 #[.int .i64 hd, vbi] 57, blkO g6 #[.slice (some ⟨gz2, 0, none⟩) ou.length cv2] 25, rowO 43 3 (.slice (some ⟨gz2, 0, none⟩) ou.length cv2) ou.length (ou.flatMap itC), bodO xb]) (.calm 0 (.calm 1 (.calm 2 (.calm 3 (.calm 4 (.calm 5 (.calm 6 (.calm 7 (.calm 8 (.calm 9 (.calm 10 (.calm 11 (.done))))))))))))) (sub_pick [7, 4, 5, 6] (by decide) rfl) (by kernel_rfl) (by kernel_rfl) (by intro c a d v w h; cases d <;> exact h) ?_
            by_cases c6 : hd = yn
            · rw [if_pos c6] at hnx2
              repeat(first|((first|refine TW_plain rfl rfl ?_|refine TW_gmet rfl rfl rfl rfl ?_);first|refine QW QP ?_|refine QW (rr_load1 (v := .int .i64 hd) TyC.ty rfl (at_blk (i := 0) rfl rfl)) ?_|refine QW (rr_load1 (v := .slice (some ⟨gz2, 0, none⟩) ou.length cv2) TyC.ty rfl (at_blk (i := 1) rfl rfl)) ?_|refine QW (rr_idxc Und.eq TyC.ty rfl rfl hno) ?_|refine QW (rr_load1 (v := .int .i64 (dn : Int)) TyC.ty rfl (hat2 _ 2 rfl 1 _ rfl)) ?_|refine QW (rr_idxc Und.eq TyC.ty rfl rfl hlt) ?_|refine QW (rr_load1 (v := .int .i64 yn) TyC.ty rfl (hba _ 3 rfl 1 _ rfl)) ?_|refine QW (rr_neq (b := false) rfl rfl (decide_eq_false (fun h => h c6))) ?_|refine QW QL ?_|refine QW QA ?_|refine QW (rr_nilc rfl) ?_|refine QW QlT ?_|refine QW QlF ?_|refine QW QeT ?_|refine QW QeF ?_|refine QW QnT ?_|refine QW QnF ?_|refine QW QaA ?_)|refine TW_skip rfl rfl rfl rfl rfl rfl rfl ?_|refine TW_done ?_)
              repeat(first|refine QV QP ?_|refine QZ ?_|refine qcT rfl ?_|refine qcF rfl ?_|refine E_blockX ?_|refine E_blockO rfl ?_|refine qs rfl rfl rfl rfl rfl rfl ?_|((try refine qg rfl rfl rfl ?_);first|refine QV QP ?_|refine QV (rr_load1 (v := .int .i64 g.terms) TyC.ty rfl (at_blk (i := 0) rfl rfl)) ?_|refine QV (rr_add64 (r := ((T + 1 : Nat) : Int)) rfl rfl (by omega) (by omega) (by omega)) ?_|refine QV QL ?_|refine QV QA ?_|refine QV (rr_nilc rfl) ?_|refine QV QlT ?_|refine QV QlF ?_|refine QV QeT ?_|refine QV QeF ?_|refine QV QnT ?_|refine QV QnF ?_|refine QV QaA ?_))
              refine T_pick [0, 1, 2, 3, 4, 5, 6] (by decide) rfl ?_
              conv => arg 7; simp only [zA, zB, zC, zD, zE, zF, zG, zH, zI, rowS, ret, id_eq]
              refine T_loop (ι := Nat × Value × (itemL.Item → Nat) × Nat) (fun (j, _, cn3, b4) => j ≤ T + 1 ∧ PutOk cn3 (expLook i bits ou j) b4 ∧ b4 ≤ b3 + 2 * j)
                (fun (j, _, _, _) => [(0, .pointer (some ⟨go, 0, none⟩)), (6, .pointer (some ⟨g6, 0, none⟩)), (7, .func (.func 45) #[] #[.pointer (some ⟨g5, 0, none⟩), .pointer (some ⟨g6, 0, none⟩)]), (10, .int .i64 (n : Int)), (11, .slice (some ⟨b2, o2, none⟩) (bodyI g.prods (k : Int)).length cc), (12, bitV bits), (13, .int .i64 (i : Int)), (74, .slice (some ⟨pb, po, none⟩) g.prods.length cp), (75, .int .i64 (g.prods.length : Int)), (76, .int .i64 (i : Int)), (98, .int .i64 ((T + 1 : Nat) : Int)), (99, .int .i64 (j : Int))])
                (fun (j, v3, cn3, b4) => [blkO go (opC g.terms g.nons (.slice (some ⟨pb, po, none⟩) g.prods.length cp) gm).toArray 105, mapO restK gm f2 c2', blkO g5 #[.map (some gm2)] 106, mapT itK gm2 (.int .i64 0) (itCnt cn3) b4, blkO g6 #[v3] 25, rowO 43 3 v3 (expLook i bits ou j).length ((expLook i bits ou j).flatMap itC), bodO xb]) (fun (j, _) => T + 1 - j) (0, .slice (some ⟨gz2, 0, none⟩) ou.length cv2, cn2, b3) ⟨Nat.zero_le _, p2, by omega⟩ (by repeat' (first | exact True.intro | refine And.intro rfl ?_)) rfl ?_
              rintro ⟨j, v3, cn3, b4⟩ ⟨s1, s2, s3⟩
              dsimp only at s1 s2 s3 ⊢
              by_cases c7 : j < T + 1
              · have hle6 := expLook_le (i := i) (bits := bits) (out := ou) j
                have hnx3 : expLook i bits ou (j + 1) = if bits.testBit j = true then more (expLook i bits ou j) ((i : Int), 0, (j : Int)) else expLook i bits ou j := rfl
                have hpo := s2.put ((i : Int), 0, (j : Int))
                have hdv : bits / 2 ^ j ≤ bits := Nat.div_le_self _ _
                have ha1 := and1 (y := bits / 2 ^ j) (by omega)
                have hs1 : ∀ w, (Op.shift .shr .u64 (bits : Int) .i64 (j : Int)).run Try.prog w = .ok (.int .u64 ((bits / 2 ^ j : Nat) : Int)) w := fun w => shrU2 bits j 64 .u64 .i64 rfl (by omega) w
                have hbd := bit_dec bits j
                generalize hol : expLook i bits ou j = ol at *
                generalize bits / 2 ^ j = D1 at *
                by_cases c8 : bits.testBit j = true
                · rw [if_pos c8] at hnx3
                  have hb1 : D1 % 2 = 1 := by rw [c8] at hbd; simpa using hbd
                  repeat(first|refine QV QP ?_|refine QZ ?_|refine qcT rfl ?_|refine qcF rfl ?_|refine E_blockX ?_|refine E_blockO rfl ?_|refine qs rfl rfl rfl rfl rfl rfl ?_|((try refine qg rfl rfl rfl ?_);first|refine QV QP ?_|refine QV (rr_shr rfl rfl hs1) ?_|refine QV (rr_and rfl rfl ha1) ?_|refine QV (rr_eql (b := true) rfl rfl (decide_eq_true (by omega))) ?_|refine QV (rr_build rfl (build_it2 _ _)) ?_|refine QV QL ?_|refine QV QA ?_|refine QV (rr_nilc rfl) ?_|refine QV QlT ?_|refine QV QlF ?_|refine QV QeT ?_|refine QV QeF ?_|refine QV QnT ?_|refine QV QnF ?_|refine QV QaA ?_))
                  refine TL_callB [2, 3, 4, 5] [0, 1, 6] (by decide) rfl rfl (he1c EntersC.en rfl rfl) (fun w hm hb => hput g5 gm2 g6 b4 v3 cn3 ol ((i : Int), 0, (j : Int)) (it_ok (by omega) (by omega)) s2 (by omega) (by omega) w _ hb) rfl rfl rfl ?_
                  intro v4 _
                  conv=>arg 8;simp only[zA,zB,zC,zD,zE,zF,zG,zH,zI,rowS,ret,id_eq, putL]
                  repeat(first|refine QV QP ?_|refine QZ ?_|refine qcT rfl ?_|refine qcF rfl ?_|refine E_blockX ?_|refine E_blockO rfl ?_|refine qs rfl rfl rfl rfl rfl rfl ?_|((try refine qg rfl rfl rfl ?_);first|refine QV QP ?_|refine QV QL ?_|refine QV QA ?_|refine QV (rr_nilc rfl) ?_|refine QV QlT ?_|refine QV QlF ?_|refine QV QeT ?_|refine QV QeF ?_|refine QV QnT ?_|refine QV QnF ?_|refine QV QaA ?_))
                  refine E_pick [0, 1, 3, 4, 5, 6, 2] (by decide) rfl ?_
                  exact E_round (j + 1, v4, itUp cn3 ((i : Int), 0, (j : Int)), b4 + 2) ⟨by show j + 1 ≤ T + 1; omega, by show PutOk _ (expLook i bits ou (j + 1)) _; rw [hnx3]; exact hpo, by show b4 + 2 ≤ b3 + 2 * (j + 1); omega⟩ (by show T + 1 - (j + 1) < T + 1 - j; omega) (by repeat' (first | exact True.intro | refine And.intro rfl ?_)) (by dsimp only; rw [hnx3]; rfl)
                · rw [if_neg c8] at hnx3
                  have hb1 : ¬ D1 % 2 = 1 := by rw [Bool.eq_false_iff.2 c8] at hbd; simpa using hbd
                  repeat(first|refine QV QP ?_|refine QZ ?_|refine qcT rfl ?_|refine qcF rfl ?_|refine E_blockX ?_|refine E_blockO rfl ?_|refine qs rfl rfl rfl rfl rfl rfl ?_|((try refine qg rfl rfl rfl ?_);first|refine QV QP ?_|refine QV (rr_shr rfl rfl hs1) ?_|refine QV (rr_and rfl rfl ha1) ?_|refine QV (rr_eql (b := false) rfl rfl (decide_eq_false (by omega))) ?_|refine QV QL ?_|refine QV QA ?_|refine QV (rr_nilc rfl) ?_|refine QV QlT ?_|refine QV QlF ?_|refine QV QeT ?_|refine QV QeF ?_|refine QV QnT ?_|refine QV QnF ?_|refine QV QaA ?_))
                  exact E_round (j + 1, v3, cn3, b4) ⟨by show j + 1 ≤ T + 1; omega, by show PutOk _ (expLook i bits ou (j + 1)) _; rw [hnx3]; exact s2, by show b4 ≤ b3 + 2 * (j + 1); omega⟩ (by show T + 1 - (j + 1) < T + 1 - j; omega) (by repeat' (first | exact True.intro | refine And.intro rfl ?_)) (by dsimp only; rw [hnx3])
              · obtain rfl : j = T + 1 := by omega
                repeat(first|refine QV QP ?_|refine QZ ?_|refine qcT rfl ?_|refine qcF rfl ?_|refine E_blockX ?_|refine E_blockO rfl ?_|refine qs rfl rfl rfl rfl rfl rfl ?_|((try refine qg rfl rfl rfl ?_);first|refine QV QP ?_|refine QV QL ?_|refine QV QA ?_|refine QV (rr_nilc rfl) ?_|refine QV QlT ?_|refine QV QlF ?_|refine QV QeT ?_|refine QV QeF ?_|refine QV QnT ?_|refine QV QnF ?_|refine QV QaA ?_))
                exact E_round (i + 1, v3, cn3, b4) ⟨by show i + 1 ≤ g.prods.length; omega, by show PutOk cn3 (expProd g.prods T yn bits out (i + 1)) b4; rw [hnx2]; exact s2, by show b4 ≤ b + 62 * (i + 1); omega⟩ (by show g.prods.length - (i + 1) < g.prods.length - i; omega) (by repeat' (first | exact True.intro | refine And.intro rfl ?_)) (by dsimp only; rw [hnx2])
            · rw [if_neg c6] at hnx2
              repeat(first|((first|refine TW_plain rfl rfl ?_|refine TW_gmet rfl rfl rfl rfl ?_);first|refine QW QP ?_|refine QW (rr_load1 (v := .int .i64 hd) TyC.ty rfl (at_blk (i := 0) rfl rfl)) ?_|refine QW (rr_load1 (v := .slice (some ⟨gz2, 0, none⟩) ou.length cv2) TyC.ty rfl (at_blk (i := 1) rfl rfl)) ?_|refine QW (rr_idxc Und.eq TyC.ty rfl rfl hno) ?_|refine QW (rr_load1 (v := .int .i64 (dn : Int)) TyC.ty rfl (hat2 _ 2 rfl 1 _ rfl)) ?_|refine QW (rr_idxc Und.eq TyC.ty rfl rfl hlt) ?_|refine QW (rr_load1 (v := .int .i64 yn) TyC.ty rfl (hba _ 3 rfl 1 _ rfl)) ?_|refine QW (rr_neq (b := true) rfl rfl (decide_eq_true c6)) ?_|refine QW QL ?_|refine QW QA ?_|refine QW (rr_nilc rfl) ?_|refine QW QlT ?_|refine QW QlF ?_|refine QW QeT ?_|refine QW QeF ?_|refine QW QnT ?_|refine QW QnF ?_|refine QW QaA ?_)|refine TW_skip rfl rfl rfl rfl rfl rfl rfl ?_|refine TW_done ?_)
              repeat(first|refine QV QP ?_|refine QZ ?_|refine qcT rfl ?_|refine qcF rfl ?_|refine E_blockX ?_|refine E_blockO rfl ?_|refine qs rfl rfl rfl rfl rfl rfl ?_|((try refine qg rfl rfl rfl ?_);first|refine QV QP ?_|refine QV QL ?_|refine QV QA ?_|refine QV (rr_nilc rfl) ?_|refine QV QlT ?_|refine QV QlF ?_|refine QV QeT ?_|refine QV QeF ?_|refine QV QnT ?_|refine QV QnF ?_|refine QV QaA ?_))
              refine E_pick [0, 1, 2, 3, 4, 5, 6] (by decide) rfl ?_
              exact E_round (i + 1, .slice (some ⟨gz2, 0, none⟩) ou.length cv2, cn2, b3) ⟨by show i + 1 ≤ g.prods.length; omega, by show PutOk cn2 (expProd g.prods T yn bits out (i + 1)) b3; rw [hnx2]; exact p2, by show b3 ≤ b + 62 * (i + 1); omega⟩ (by show g.prods.length - (i + 1) < g.prods.length - i; omega) (by repeat' (first | exact True.intro | refine And.intro rfl ?_)) (by dsimp only; rw [hnx2]; rfl)
          · obtain rfl : i = g.prods.length := by omega
            repeat(first|refine QV QP ?_|refine QZ ?_|refine qcT rfl ?_|refine qcF rfl ?_|refine E_blockX ?_|refine E_blockO rfl ?_|refine qs rfl rfl rfl rfl rfl rfl ?_|((try refine qg rfl rfl rfl ?_);first|refine QV QP ?_|refine QV QL ?_|refine QV QA ?_|refine QV (rr_nilc rfl) ?_|refine QV QlT ?_|refine QV QlF ?_|refine QV QeT ?_|refine QV QeF ?_|refine QV QnT ?_|refine QV QnF ?_|refine QV QaA ?_))
            refine E_pick [0, 1, 2, 3, 4, 5] (by decide) rfl ?_
            exact E_round (n + 1, expProd g.prods T yn bits out g.prods.length, f2, c2', v2, cn2, b3) ⟨hwk, hwx, hf2, by show c2' ≤ c + (n + 1); omega, p2, by show b3 ≤ 40000 + 2480 * (n + 1); omega⟩ (by show 12000 - (n + 1) < 12000 - n; omega) (by repeat' (first | exact True.intro | refine And.intro rfl ?_)) rfl
        · repeat(first|refine QV QP ?_|refine QZ ?_|refine qcT rfl ?_|refine qcF rfl ?_|refine E_blockX ?_|refine E_blockO rfl ?_|refine qs rfl rfl rfl rfl rfl rfl ?_|((try refine qg rfl rfl rfl ?_);first|refine QV QP ?_|refine QV (rr_load1 (v := .slice (some ⟨gz, 0, none⟩) out.length cv) TyC.ty rfl (at_blk (i := 4) rfl rfl)) ?_|refine QV (rr_idxc Und.eq TyC.ty rfl rfl c2) ?_|refine QV (rr_idxc Und.eq TyC.ty rfl rfl hlt) ?_|refine QV (rr_load1 (v := .int .i64 (dn : Int)) TyC.ty rfl (hat _ 5 rfl 1 _ rfl)) ?_|refine QV (rr_eql (b := false) rfl rfl (decide_eq_false (by omega))) ?_|refine QV (rr_load1 (v := .int .i64 yk) TyC.ty rfl (hba _ 6 rfl 0 _ rfl)) ?_|refine QV (rr_neq (b := true) rfl rfl (decide_eq_true c4)) ?_|refine QV QL ?_|refine QV QA ?_|refine QV (rr_nilc rfl) ?_|refine QV QlT ?_|refine QV QlF ?_|refine QV QeT ?_|refine QV QeF ?_|refine QV QnT ?_|refine QV QnF ?_|refine QV QaA ?_))
          have hexp : expI g.prods T (lkG g) ((k : Int), (dn : Int), (ln : Int)) out = out := by
            unfold expI
            rw [hnx]
            dsimp only
            rw [if_neg c4]
          rw [hexp] at hwk hwx
          refine E_pick [0, 1, 2, 3, 4, 5] (by decide) rfl ?_
          exact E_round (n + 1, out, f', c', .slice (some ⟨gz, 0, none⟩) out.length cv, cn', b) ⟨hwk, hwx, i3, by show c' ≤ c + (n + 1); omega, i5, by show b ≤ 40000 + 2480 * (n + 1); omega⟩ (by show 12000 - (n + 1) < 12000 - n; omega) (by repeat' (first | exact True.intro | refine And.intro rfl ?_)) rfl
    · have hn : n = out.length := by have := i1.le; omega
      have hR : workI g.prods T (lkG g) 12000 0 (firsts [] l0) = out := by
        rw [← i2, show 12000 - n = (11999 - n) + 1 by omega, workI, if_neg c2]
      have hcI : closedI g.prods T (lkG g) l0 = sortI out := by unfold closedI; rw [hR]
      repeat(first|refine QV QP ?_|refine QZ ?_|refine qcT rfl ?_|refine qcF rfl ?_|refine E_blockX ?_|refine E_blockO rfl ?_|refine qs rfl rfl rfl rfl rfl rfl ?_|((try refine qg rfl rfl rfl ?_);first|refine QV QP ?_|refine QV (rr_load1 (v := .slice bv out.length cv) TyC.ty rfl (at_blk (i := 4) rfl rfl)) ?_|refine QV QL ?_|refine QV QA ?_|refine QV (rr_nilc rfl) ?_|refine QV QlT ?_|refine QV QlF ?_|refine QV QeT ?_|refine QV QeF ?_|refine QV QnT ?_|refine QV QnF ?_|refine QV QaA ?_))
      refine TL_callB [5] [0, 1, 2, 3, 4] (by decide) rfl rfl (he2 EntersC.en rfl rfl rfl) (fun w hm hb => itSortG order_k (.slice bv out.length cv) out w _ hb (by omega)) rfl rfl rfl ?_
      intro _ _
      conv=>arg 8;simp only[zA,zB,zC,zD,zE,zF,zG,zH,zI,rowS,ret,id_eq]
      repeat(first|refine QV QP ?_|refine QZ ?_|refine qcT rfl ?_|refine qcF rfl ?_|refine E_blockX ?_|refine E_blockO rfl ?_|refine qs rfl rfl rfl rfl rfl rfl ?_|((try refine qg rfl rfl rfl ?_);first|refine QV QP ?_|refine QV (rr_load1 (v := .slice bv out.length cv) TyC.ty rfl (at_blk (i := 4) rfl rfl)) ?_|refine QV QL ?_|refine QV QA ?_|refine QV (rr_nilc rfl) ?_|refine QV QlT ?_|refine QV QlF ?_|refine QV QeT ?_|refine QV QeF ?_|refine QV QnT ?_|refine QV QnF ?_|refine QV QaA ?_))
      exact E_ret1 rfl rfl fun w hm => hm.meetsB (S := itClS g T l0 bp cp go gm c) (f', c', .slice bv out.length cv) ⟨i3, by show c' ≤ c + 12000; omega⟩ [0, 1, 5] (by decide) (by unfold itClS opL; dsimp only; rw [hcI, sort_len]; rfl)
end Go.Proofs.Ytomkjjpdnmcnnaa.eng


/- ItG -/
namespace Go.Proofs.Ytomkjjpdnmcnnaa.eng
open Go.RowKit kit mix gramL treeL factsL itemL smallL
/-- an own slice, handed to a call that can't turn it -/
theorem SlB.row {W : Base} {L Lx : List Own} {w : World} (hm : Mem W L w) {i n size : Nat} {e : TypeId} {v : Value} {xs : List Value} (hi : L[i]? = some (rowO e size v n xs)) (is : List Nat) (hL : Lx = is.filterMap fun i => L[i]?) (hni : i ∉ is) : SlB (Base.on w Lx) v n xs := by
  have hh : (rowO e size v n xs).holds w := hm.get hi
  obtain ⟨base, cap, rfl, h1, h2, h3⟩ := Sl.of_own hh
  refine ⟨base, cap, rfl, h1, h2, fun hn => ?_⟩
  obtain ⟨b, off, rfl, hr⟩ := h3 hn
  have hf : (rowO e size (.slice (some ⟨b, off, none⟩) n cap) n xs).foot b := by
    rcases (show w.ownsRow 0 e size _ n xs from hh).2 with ⟨hv, _⟩ | ⟨g, cp, cur, hv, _⟩
    · cases hv
    · cases hv; exact .inl rfl
  refine ⟨b, off, rfl, ⟨(rowO e size _ n xs).lt w hh b hf, ?_⟩, hr⟩
  rintro ⟨o, ho, hfo⟩
  subst hL
  obtain ⟨j, hj, hoj⟩ := List.mem_filterMap.1 ho
  exact hm.owns.apart i j _ _ (fun h => hni (h ▸ hj)) hi hoj b hf hfo
theorem SlB.at {B : Base} {L : List Own} {α : Type} {f : α → List Value} {c : Nat} (hc : ∀ a, (f a).length = c) {base : Option Addr} {cap n : Nat} {l : List α} (h : SlB B (.slice base n cap) n (l.flatMap f)) (hn : 0 < n) : ∃ b off, base = some ⟨b, off, none⟩ ∧ ∀ (k : Nat) (hk : k < l.length) (j : Nat) (u : Value), (f l[k])[j]? = some u → At B L ⟨b, off + k * c + j, none⟩ u := by
  obtain ⟨base', cap', h0, h1, h2, h3⟩ := h
  cases h0
  obtain ⟨b, off, rfl, ho, hr⟩ := h3 hn
  exact ⟨b, off, rfl, fun k hk j u hj => at_elL (W := B) (L := L) hc (off := off) (fun q y hq => at_oldB ho hr q y hq) hk j u hj⟩
theorem over_take {l : List gramL.Prod} {s : List itemL.Item} {x : Sym} {k : Nat} (h : k < s.length) : overI l (s.take (k + 1)) x = if nextS l s[k] = some x then overI l (s.take k) x ++ [advI s[k]] else overI l (s.take k) x := by
  unfold overI
  rw [List.take_succ_eq_append_getElem h, List.filter_append, List.map_append]
  by_cases c : nextS l s[k] = some x
  · rw [if_pos c, List.filter_cons_of_pos (by simpa using c)]; rfl
  · rw [if_neg c, List.filter_cons_of_neg (by simpa using c)]; simp
theorem over_len {l : List gramL.Prod} {s : List itemL.Item} {x : Sym} : (overI l s x).length ≤ s.length := by
  unfold overI; rw [List.length_map]; exact List.length_filter_le _ _
set_option maxHeartbeats 8000000 in
theorem itStep_calls (g : Gram) (hg : checkG g = 0) (bp : Option Addr) (cp : Nat) (vb : Nat → Value) (w0 : World) (hG : GraR (fun q => q < w0.heap.size) w0 (graV g.terms g.nons (.slice bp g.prods.length cp)) g) (hvb : BodR (fun q => q < w0.heap.size) w0 vb g.prods) (hrp : 0 < g.prods.length → ∃ b off, bp = some ⟨b, off, none⟩ ∧ ∀ i, i < g.prods.length → Rd w0 b (off + i * 2) [.int .i64 (prodAt g.prods (i : Int)).1, vb i])
    (go gm c : Nat) (f : RK → Option Value) (T : Nat) (hTt : g.terms = (T : Int)) (hT : T ≤ 30) (s : List itemL.Item) (x : Sym) (vl : Value) (h0 : ∀ it ∈ s, RightI g.prods T it) (hl0 : s.length ≤ 20000) (hc : CacheOk (lkG g) f) (hcc : c ≤ 900000000000000) (w : World) (B : Base) (ho : Old w0 B) (hvl : SlB B vl s.length (s.flatMap itC))
    (hm : Mem B (opL g bp cp go gm f c) w) :
    Calls Try.prog 52 #[.pointer (some ⟨go, 0, none⟩), vl, .agg (symC x).toArray] w (MeetsB (itClS g T (overI g.prods s x) bp cp go gm c) B) := by
  have hcl := fun v h2 h3 w' B' ho' hs' hm' => itClosed_calls g hg bp cp vb w0 hG hvb hrp go gm c f T hTt hT (overI g.prods s x) v h2 h3 hc hcc w' B' ho' hs' hm'
  have hol := over_len (l := g.prods) (s := s) (x := x)
  have hor := over_right (l := g.prods) (T := T) (x := x) h0
  obtain ⟨bl, cl, rfl, hc1, hc2, hrl⟩ := id hvl
  clear hrl
  unfold maxLen at hc2
  unfold opL at hm
  refine enterB hm (args := [.pointer (some ⟨go, 0, none⟩), .slice bl s.length cl, .agg (symC x).toArray]) (n := 50) Try.func52 rfl rfl rfl ?_
  refine T_seq (T_region (TL_box rfl rfl rfl fun g5 => ?_))
  conv=>arg 8;simp only[zA,zB,zC,zD,zE,zF,zG,zH,zI,rowS,ret,id_eq]
  repeat(first|refine QV QP ?_|refine QZ ?_|refine qcT rfl ?_|refine qcF rfl ?_|refine E_blockX ?_|refine E_blockO rfl ?_|refine qs rfl rfl rfl rfl rfl rfl ?_|((try refine qg rfl rfl rfl ?_);first|refine QV QP ?_|refine QV QL ?_|refine QV QA ?_|refine QV (rr_nilc rfl) ?_|refine QV QlT ?_|refine QV QlF ?_|refine QV QaA ?_))
  refine T_nil 43 3 ?_
  conv => arg 7; simp only [zA, zB, zC, zD, zE, zF, zG, zH, zI, rowS, ret, id_eq]
  refine T_loop (ι := Nat × Value) (fun (k, _) => k ≤ s.length) (fun (k, v) => [(0, .pointer (some ⟨go, 0, none⟩)), (5, .pointer (some ⟨g5, 0, none⟩)), (7, v), (11, .slice bl s.length cl), (12, .int .i64 s.length), (13, .int .i64 (k : Int))])
    (fun (k, v) => [blkO go (opC g.terms g.nons (.slice bp g.prods.length cp) gm).toArray 105, mapO restK gm f c, blkO g5 (symC x).toArray 60, rowO 43 3 v (overI g.prods (s.take k) x).length ((overI g.prods (s.take k) x).flatMap itC)]) (fun (k, _) => s.length - k) (0, .slice none 0 0) (Nat.zero_le _) (by repeat' (first | exact True.intro | refine And.intro rfl ?_)) rfl ?_
  rintro ⟨k, v⟩ i1
  dsimp only at i1 ⊢
  by_cases c1 : k < s.length
  · obtain ⟨b, off, rfl, hat⟩ := hvl.at (L := []) itC_len (by omega)
    have hatA : ∀ (L : List Own) (j : Nat) (u : Value), (itC s[k])[j]? = some u → At B L ⟨b, off + k * 3 + j, none⟩ u := fun L => by
      obtain ⟨b', off', he, h⟩ := hvl.at (L := L) itC_len (by omega)
      cases he
      exact h k c1
    clear hat
    have hxr := h0 s[k] (List.getElem_mem c1)
    have hnx := over_take (l := g.prods) (x := x) c1
    have hln : (overI g.prods (s.take k) x).length ≤ 20000 := Nat.le_trans over_len (by rw [List.length_take]; omega)
    generalize overI g.prods (s.take k) x = ov at *
    generalize hnx2 : overI g.prods (s.take (k + 1)) x = ov' at *
    clear hcl hor hol
    generalize s[k] = it at *
    obtain ⟨p, d, lo⟩ := it
    have hxr2 := hxr
    obtain ⟨r1, r2, r3, r4, r5, r6⟩ := hxr2
    dsimp only at r1 r2 r3 r4 r5 r6
    obtain ⟨kn, rfl⟩ := Int.eq_ofNat_of_zero_le r1
    obtain ⟨dn, rfl⟩ := Int.eq_ofNat_of_zero_le r3
    obtain ⟨ln, rfl⟩ := Int.eq_ofNat_of_zero_le r5
    have hk : kn ≤ g.prods.length := by omega
    have hbd := fun w' (hm' : Mem B [] w') => itBody_calls g.terms g.nons bp cp g.prods vb w0 w' B kn hk ho hm' (fun i hi => let ⟨b, c, h, _⟩ := hvb i hi; ⟨b, _, c, h⟩) hrp
    have hwl : ∀ q ∈ g.prods, q.2.length ≤ 8 := fun q hq => ((checkG_ok hg).2.2.2.2.2 q hq).1
    have hb8 := body_len (l := g.prods) (p := (kn : Int)) hwl
    repeat(first|refine QV QP ?_|refine QZ ?_|refine qcT rfl ?_|refine qcF rfl ?_|refine E_blockX ?_|refine E_blockO rfl ?_|refine qs rfl rfl rfl rfl rfl rfl ?_|((try refine qg rfl rfl rfl ?_);first|refine QV QP ?_|refine QV (rr_idxc Und.eq TyC.ty rfl rfl c1) ?_|refine QV (rr_loadN (cs := itC ((kn : Int), (dn : Int), (ln : Int))) TyC.ty rfl rfl (hatA _)) ?_|refine QV QL ?_|refine QV QA ?_|refine QV (rr_nilc rfl) ?_|refine QV QlT ?_|refine QV QlF ?_|refine QV QaA ?_))
    refine TL_new rfl fun g9 => ?_
    conv=>arg 8;simp only[zA,zB,zC,zD,zE,zF,zG,zH,zI,rowS,ret,id_eq]
    refine TL_storeB (i := 4) (cs' := (itC ((kn : Int), (dn : Int), (ln : Int))).toArray) rfl rfl rfl rfl rfl rfl ?_
    conv=>arg 8;simp only[zA,zB,zC,zD,zE,zF,zG,zH,zI,rowS,ret,id_eq]
    repeat(first|refine QV QP ?_|refine QZ ?_|refine qcT rfl ?_|refine qcF rfl ?_|refine E_blockX ?_|refine E_blockO rfl ?_|refine qs rfl rfl rfl rfl rfl rfl ?_|((try refine qg rfl rfl rfl ?_);first|refine QV QP ?_|refine QV QL ?_|refine QV QA ?_|refine QV (rr_nilc rfl) ?_|refine QV QlT ?_|refine QV QlF ?_|refine QV QaA ?_))
    refine T_ord ([blkO go (opC g.terms g.nons (.slice bp g.prods.length cp) gm).toArray 105, blkO g9 (itC ((kn : Int), (dn : Int), (ln : Int))).toArray 43]) (.calm 0 (.calm 1 (.calm 2 (.calm 3 (.calm 4 (.calm 5 (.one 6 (.calm 7 (.done))))))))) (sub_pick [0, 4] (by decide) rfl) (by kernel_rfl) (by kernel_rfl) (by intro c a d v w h; cases d <;> exact h) ?_
    repeat(first|((first|refine TW_plain rfl rfl ?_|refine TW_gmet rfl rfl rfl rfl ?_);first|refine QW QP ?_|refine QW (rr_nilc rfl) ?_|refine QW (rr_loadN TyC.ty rfl (cs := [.int .i64 g.terms, .int .i64 g.nons, .slice bp g.prods.length cp]) rfl (fun j v h => at_blk (i := 0) rfl (op_gram h))) ?_|refine QW (rr_load1 (v := .int .i64 (kn : Int)) TyC.ty rfl (at_blk (i := 1) rfl rfl)) ?_|refine QW QL ?_|refine QW QA ?_|refine QW (rr_nilc rfl) ?_|refine QW QlT ?_|refine QW QlF ?_|refine QW QaA ?_)|refine TW_skip rfl rfl rfl rfl rfl rfl rfl ?_|refine TW_done ?_)
    refine TW_one rfl ?_
    refine TL_call (he2 EntersC.en rfl rfl rfl) (fun w hm => hbd _ (hm.pick [] (by decide) rfl)) rfl rfl rfl ?_
    rintro xb hxb
    conv=>arg 8;simp only[zA,zB,zC,zD,zE,zF,zG,zH,zI,rowS,ret,id_eq, bodyS]
    conv => arg 7; simp only [bodyS]
    obtain ⟨bb, cc, hbv, hlc, -⟩ := body_slL (W := B) (i := 5) (L := [blkO go (opC g.terms g.nons (.slice bp g.prods.length cp) gm).toArray 105, mapO restK gm f c, blkO g5 (symC x).toArray 60, rowO 43 3 v ov.length (ov.flatMap itC), blkO g9 (itC ((kn : Int), (dn : Int), (ln : Int))).toArray 43, bodO xb]) ho hvb hk hxb rfl
    rw [hbv]
    refine TW_on (sub_pick [0, 4] (by decide) rfl) ?_
    repeat(first|((first|refine TW_plain rfl rfl ?_|refine TW_gmet rfl rfl rfl rfl ?_);first|refine QW QP ?_|refine QW QL ?_|refine QW QA ?_|refine QW (rr_nilc rfl) ?_|refine QW QlT ?_|refine QW QlF ?_|refine QW QaA ?_)|refine TW_skip rfl rfl rfl rfl rfl rfl rfl ?_|refine TW_done ?_)
    clear hbd
    by_cases c2 : dn < (bodyI g.prods (kn : Int)).length
    · obtain ⟨b2, o2, rfl, hba⟩ := body_at ho hvb hk hxb hbv c2
      have hns : nextS g.prods ((kn : Int), (dn : Int), (ln : Int)) = some (bodyI g.prods (kn : Int))[dn] := by
        unfold nextS
        dsimp only
        rw [Int.toNat_natCast, List.getElem?_eq_getElem c2]
      have heq := fun w => eq_sym (bodyI g.prods (kn : Int))[dn] x w
      generalize (bodyI g.prods (kn : Int))[dn] = y at *
      rw [hns] at hnx
      repeat(first|refine QV QP ?_|refine QZ ?_|refine qcT rfl ?_|refine qcF rfl ?_|refine E_blockX ?_|refine E_blockO rfl ?_|refine qs rfl rfl rfl rfl rfl rfl ?_|((try refine qg rfl rfl rfl ?_);first|refine QV QP ?_|refine QV QL ?_|refine QV QA ?_|refine QV (rr_nilc rfl) ?_|refine QV QlT ?_|refine QV QlF ?_|refine QV QaA ?_))
      refine T_ord ([blkO g5 (symC x).toArray 60, blkO g9 (itC ((kn : Int), (dn : Int), (ln : Int))).toArray 43, bodO xb]) (.calm 0 (.calm 1 (.calm 2 (.calm 3 (.calm 4 (.calm 5 (.calm 6 (.calm 7 (.calm 8 (.calm 9 (.calm 10 (.calm 11 (.calm 12 (.calm 13 (.done))))))))))))))) (sub_pick [2, 4, 5] (by decide) rfl) (by kernel_rfl) (by kernel_rfl) (by intro c a d v w h; cases d <;> exact h) ?_
      by_cases c3 : y = x
      · subst c3
        rw [if_pos rfl] at hnx
        rw [decide_eq_true rfl] at heq
        repeat(first|((first|refine TW_plain rfl rfl ?_|refine TW_gmet rfl rfl rfl rfl ?_);first|refine QW QP ?_|refine QW (rr_load1 (v := .int .i64 (dn : Int)) TyC.ty rfl (at_blk (i := 1) rfl rfl)) ?_|refine QW (rr_idxc Und.eq TyC.ty rfl rfl c2) ?_|refine QW (rr_loadN (cs := symC y) TyC.ty rfl rfl (hba _ 2 rfl)) ?_|refine QW (rr_loadB (i := 0) TyC.ty rfl rfl rfl) ?_|refine QW QL ?_|refine QW QA ?_|refine QW (rr_nilc rfl) ?_|refine QW QlT ?_|refine QW QlF ?_|refine QW QaA ?_|refine QW (rr_aggeq rfl rfl (by kernel_rfl) heq) ?_)|refine TW_skip rfl rfl rfl rfl rfl rfl rfl ?_|refine TW_done ?_)
        repeat(first|refine QV QP ?_|refine QZ ?_|refine qcT rfl ?_|refine qcF rfl ?_|refine E_blockX ?_|refine E_blockO rfl ?_|refine qs rfl rfl rfl rfl rfl rfl ?_|((try refine qg rfl rfl rfl ?_);first|refine QV QP ?_|refine QV (rr_load1 (v := .int .i64 (dn : Int)) TyC.ty rfl (at_blk (i := 4) rfl rfl)) ?_|refine QV QL ?_|refine QV QA ?_|refine QV (rr_nilc rfl) ?_|refine QV QlT ?_|refine QV QlF ?_|refine QV QaA ?_))
        refine TL_store1 (i := 4) rfl rfl rfl rfl rfl rfl ?_
        conv=>arg 8;simp only[zA,zB,zC,zD,zE,zF,zG,zH,zI,rowS,ret,id_eq]
        repeat(first|refine QV QP ?_|refine QZ ?_|refine qcT rfl ?_|refine qcF rfl ?_|refine E_blockX ?_|refine E_blockO rfl ?_|refine qs rfl rfl rfl rfl rfl rfl ?_|((try refine qg rfl rfl rfl ?_);first|refine QV QP ?_|refine QV (rr_loadB (i := 4) TyC.ty rfl rfl rfl) ?_|refine QV QL ?_|refine QV QA ?_|refine QV (rr_nilc rfl) ?_|refine QV QlT ?_|refine QV QlF ?_|refine QV QaA ?_))
        refine TL_pushN (i := 3) rfl rfl rfl rfl rfl rfl rfl (fun z h => by cases h; rfl) (by omega) (by omega) rfl fun z v' => ?_
        conv=>arg 8;simp only[zA,zB,zC,zD,zE,zF,zG,zH,zI,rowS,ret,id_eq]
        repeat(first|refine QV QP ?_|refine QZ ?_|refine qcT rfl ?_|refine qcF rfl ?_|refine E_blockX ?_|refine E_blockO rfl ?_|refine qs rfl rfl rfl rfl rfl rfl ?_|((try refine qg rfl rfl rfl ?_);first|refine QV QP ?_|refine QV QL ?_|refine QV QA ?_|refine QV (rr_nilc rfl) ?_|refine QV QlT ?_|refine QV QlF ?_|refine QV QaA ?_))
        refine E_pick [0, 1, 2, 3] (by decide) rfl ?_
        exact E_round (k + 1, v') (by show k + 1 ≤ s.length; omega) (by show s.length - (k + 1) < s.length - k; omega) (by repeat' (first | exact True.intro | refine And.intro rfl ?_)) (by dsimp only; rw [hnx2, hnx, List.length_append, List.flatMap_append]; rfl)
      · rw [if_neg (fun h => c3 (Option.some.inj h))] at hnx
        rw [decide_eq_false c3] at heq
        repeat(first|((first|refine TW_plain rfl rfl ?_|refine TW_gmet rfl rfl rfl rfl ?_);first|refine QW QP ?_|refine QW (rr_load1 (v := .int .i64 (dn : Int)) TyC.ty rfl (at_blk (i := 1) rfl rfl)) ?_|refine QW (rr_idxc Und.eq TyC.ty rfl rfl c2) ?_|refine QW (rr_loadN (cs := symC y) TyC.ty rfl rfl (hba _ 2 rfl)) ?_|refine QW (rr_loadB (i := 0) TyC.ty rfl rfl rfl) ?_|refine QW QL ?_|refine QW QA ?_|refine QW (rr_nilc rfl) ?_|refine QW QlT ?_|refine QW QlF ?_|refine QW QaA ?_|refine QW (rr_aggeq rfl rfl (by kernel_rfl) heq) ?_)|refine TW_skip rfl rfl rfl rfl rfl rfl rfl ?_|refine TW_done ?_)
        repeat(first|refine QV QP ?_|refine QZ ?_|refine qcT rfl ?_|refine qcF rfl ?_|refine E_blockX ?_|refine E_blockO rfl ?_|refine qs rfl rfl rfl rfl rfl rfl ?_|((try refine qg rfl rfl rfl ?_);first|refine QV QP ?_|refine QV QL ?_|refine QV QA ?_|refine QV (rr_nilc rfl) ?_|refine QV QlT ?_|refine QV QlF ?_|refine QV QaA ?_))
        refine E_pick [0, 1, 2, 3] (by decide) rfl ?_
        exact E_round (k + 1, v) (by show k + 1 ≤ s.length; omega) (by show s.length - (k + 1) < s.length - k; omega) (by repeat' (first | exact True.intro | refine And.intro rfl ?_)) (by dsimp only; rw [hnx2, hnx]; rfl)
    · have hns : nextS g.prods ((kn : Int), (dn : Int), (ln : Int)) = none := by
        unfold nextS
        dsimp only
        rw [Int.toNat_natCast, List.getElem?_eq_none (by omega)]
      rw [hns, if_neg (fun h => by cases h)] at hnx
      repeat(first|refine QV QP ?_|refine QZ ?_|refine qcT rfl ?_|refine qcF rfl ?_|refine E_blockX ?_|refine E_blockO rfl ?_|refine qs rfl rfl rfl rfl rfl rfl ?_|((try refine qg rfl rfl rfl ?_);first|refine QV QP ?_|refine QV QL ?_|refine QV QA ?_|refine QV (rr_nilc rfl) ?_|refine QV QlT ?_|refine QV QlF ?_|refine QV QaA ?_))
      refine T_ord ([blkO g5 (symC x).toArray 60, blkO g9 (itC ((kn : Int), (dn : Int), (ln : Int))).toArray 43, bodO xb]) (.calm 0 (.calm 1 (.calm 2 (.calm 3 (.calm 4 (.calm 5 (.calm 6 (.calm 7 (.calm 8 (.calm 9 (.calm 10 (.calm 11 (.calm 12 (.calm 13 (.done))))))))))))))) (sub_pick [2, 4, 5] (by decide) rfl) (by kernel_rfl) (by kernel_rfl) (by intro c a d v w h; cases d <;> exact h) ?_
      repeat(first|((first|refine TW_plain rfl rfl ?_|refine TW_gmet rfl rfl rfl rfl ?_);first|refine QW QP ?_|refine QW (rr_load1 (v := .int .i64 (dn : Int)) TyC.ty rfl (at_blk (i := 1) rfl rfl)) ?_|refine QW QL ?_|refine QW QA ?_|refine QW (rr_nilc rfl) ?_|refine QW QlT ?_|refine QW QlF ?_|refine QW QaA ?_)|refine TW_skip rfl rfl rfl rfl rfl rfl rfl ?_|refine TW_done ?_)
      repeat(first|refine QV QP ?_|refine QZ ?_|refine qcT rfl ?_|refine qcF rfl ?_|refine E_blockX ?_|refine E_blockO rfl ?_|refine qs rfl rfl rfl rfl rfl rfl ?_|((try refine qg rfl rfl rfl ?_);first|refine QV QP ?_|refine QV QL ?_|refine QV QA ?_|refine QV (rr_nilc rfl) ?_|refine QV QlT ?_|refine QV QlF ?_|refine QV QaA ?_))
      refine E_pick [0, 1, 2, 3] (by decide) rfl ?_
      exact E_round (k + 1, v) (by show k + 1 ≤ s.length; omega) (by show s.length - (k + 1) < s.length - k; omega) (by repeat' (first | exact True.intro | refine And.intro rfl ?_)) (by dsimp only; rw [hnx2, hnx]; rfl)
  · obtain rfl : k = s.length := by omega
    rw [List.take_length]
    repeat(first|refine QV QP ?_|refine QZ ?_|refine qcT rfl ?_|refine qcF rfl ?_|refine E_blockX ?_|refine E_blockO rfl ?_|refine qs rfl rfl rfl rfl rfl rfl ?_|((try refine qg rfl rfl rfl ?_);first|refine QV QP ?_|refine QV QL ?_|refine QV QA ?_|refine QV (rr_nilc rfl) ?_|refine QV QlT ?_|refine QV QlF ?_|refine QV QaA ?_))
    refine TL_callB [0, 1] [2, 3] (by decide) rfl rfl (he2 EntersC.en rfl rfl rfl) (fun w hm hb => hcl v hor (by omega) w _ (ho.on hm fun o h => pickMem h) (SlB.row hm (i := 3) rfl [0, 1] rfl (by decide)) hb) rfl rfl rfl ?_
    rintro ⟨f2, c2, v2⟩ ⟨hf2, hc2'⟩
    conv=>arg 8;simp only[zA,zB,zC,zD,zE,zF,zG,zH,zI,rowS,ret,id_eq, itClS, opL]
    conv => arg 7; simp only [itClS]
    repeat(first|refine QV QP ?_|refine QZ ?_|refine qcT rfl ?_|refine qcF rfl ?_|refine E_blockX ?_|refine E_blockO rfl ?_|refine qs rfl rfl rfl rfl rfl rfl ?_|((try refine qg rfl rfl rfl ?_);first|refine QV QP ?_|refine QV QL ?_|refine QV QA ?_|refine QV (rr_nilc rfl) ?_|refine QV QlT ?_|refine QV QlF ?_|refine QV QaA ?_))
    exact E_ret1 rfl rfl fun w hm => hm.meetsB (S := itClS g T (overI g.prods s x) bp cp go gm c) (f2, c2, v2) ⟨hf2, hc2'⟩ [2, 3, 4] (by decide) rfl
end Go.Proofs.Ytomkjjpdnmcnnaa.eng


/- ItA -/
namespace Go.Proofs.Ytomkjjpdnmcnnaa.eng
open Go.RowKit kit mix gramL treeL factsL itemL smallL
def outA (g : Gram) : List (List Int) × List (List itemL.Item) × Int := if checkG g ≠ 0 then ([], [], checkG g) else match allI g.prods g.terms.toNat g.nons.toNat (lkG g) with
  | some (Nx, S) => (Nx, S, 0)
  | none => ([], [], 8)
def allS (g : Gram) : Spec (Value × Value × List Value × (Nat → Prop) × List Value × (Nat → Prop)) := ⟨fun _ => True, fun x => .tuple #[.agg #[x.1, x.2.1], .int .i64 (outA g).2.2], fun x => [rowO 25 1 x.1 (outA g).2.1.length x.2.2.1, elsO (sliceS itS) x.2.2.2.1 (x.2.2.1.map fun v => [v]) (outA g).2.1, rowO 61 1 x.2.1 (outA g).1.length x.2.2.2.2.1, elsO (sliceS intS) x.2.2.2.2.2 (x.2.2.2.2.1.map fun v => [v]) (outA g).1]⟩
theorem build_auto0 (w : World) : (Instr.build 84 (#[] : Array (Nat × Value))).run Try.prog w = .ok (.agg #[.slice none 0 0, .slice none 0 0]) w := by kernel_rfl
theorem small_right {l : List gramL.Prod} {T : Nat} {s : List itemL.Item} (hw : ∀ q ∈ l, q.2.length ≤ 8) (hl : l.length ≤ 40) (hT : T ≤ 30) (h : ∀ it ∈ s, RightI l T it) : SmallIt s := fun it hit => by
  obtain ⟨a1, a2, a3, a4, a5, a6⟩ := h it hit
  have := body_len (l := l) (p := it.1) hw
  omega
/-- a list among owned ones, handed to a call that can't turn it -/
theorem SlB.els {W : Base} {L Lx : List Own} {w : World} (hm : Mem W L w) {i n : Nat} {F : Nat → Prop} {vss : List Value} {S : List (List itemL.Item)} (hi : L[i]? = some (elsO (sliceS itS) F (vss.map fun v => [v]) S)) (is : List Nat) (hL : Lx = is.filterMap fun i => L[i]?) (hni : i ∉ is) {s : List itemL.Item} (hs : S[n]? = some s) {v : Value} (hv : vss[n]? = some v) : SlB (Base.on w Lx) v s.length (s.flatMap itC) := by
  obtain ⟨hn, rfl⟩ := List.getElem?_eq_some_iff.1 hs
  obtain ⟨⟨h1, h2⟩, h3⟩ := hm.get hi
  have hnv : n < vss.length := (List.getElem?_eq_some_iff.1 hv).1
  obtain ⟨v', e, hs⟩ := h2 n hn (by rw [List.length_map]; exact hnv)
  rw [List.getElem_map] at e
  obtain rfl : v = v' := by
    have := (List.getElem?_eq_some_iff.1 hv).2
    rw [this] at e
    exact (List.cons.inj e).1
  obtain ⟨base, cap, rfl, a1, a2, a3⟩ := hs
  refine ⟨base, cap, rfl, a1, a2, fun h0 => ?_⟩
  obtain ⟨b, off, rfl, hF, _⟩ := a3 h0
  have hfl := SlF.flat (f := itC) (c := 3) (hc := fun _ => rfl) (p := fun _ => True) (F := F) (by decide) (⟨some ⟨b, off, none⟩, cap, rfl, a1, a2, a3⟩ : SlF itS F w _ S[n])
  obtain ⟨base', cap', e', _, _, q⟩ := hfl
  obtain ⟨b', off', e2, hr⟩ := q h0
  cases e'
  cases e2
  refine ⟨b, off, rfl, ⟨h3 b hF, ?_⟩, hr⟩
  rintro ⟨o, ho, hfo⟩
  subst hL
  obtain ⟨j, hj, hoj⟩ := List.mem_filterMap.1 ho
  exact hm.owns.apart i j _ _ (fun h => hni (h ▸ hj)) hi hoj b (.inr hF) hfo
theorem step_cnt {a b c k : Nat} (h1 : a ≤ b + 12000) (h2 : b ≤ c + 12000 * k) : a ≤ c + 12000 * (k + 1) := by rw [Nat.mul_succ, ← Nat.add_assoc]; exact Nat.le_trans h1 (Nat.add_le_add_right h2 _)
theorem ints_of_row {w : World} {v : Value} {l : List Int} (hp : ∀ x ∈ l, kit.okI64 x) (h : (rowO 3 1 v l.length (l.map (Value.int .i64))).holds w) : (sliceS intS).is (fun k => v.ownBlock = some k) w [v] l :=
  ⟨v, rfl, SlF.of_flat (by have := Sl.of_own h; rwa [show l.map (Value.int .i64) = l.flatMap (fun n => [Value.int .i64 n]) by rw [List.map_eq_flatMap]] at this) hp (fun _ h => h) (fun a n cp hv => by rw [hv]; rfl)⟩
set_option maxHeartbeats 8000000 in
theorem all_calls (v : Value) (g : Gram) (w : World) (hG : GraR (fun k => k < w.heap.size) w v g) :
    Calls Try.prog 31 #[v] w (Meets (allS g) w) := by
  have hG0 := hG
  have hck := fun w' (hg : Gr w w') => checkG_calls v g w' (hG.gr hg)
  obtain ⟨vp, rfl, hp, ht, hn⟩ := hG
  obtain ⟨vb, bp, cp, rfl, -, -, hvb, hrp⟩ := prods_vb hp
  have hbg := begunI_calls g.terms g.nons (.slice bp g.prods.length cp)
  have hb0 := build_auto0
  have hO : outA g = if checkG g ≠ 0 then ([], [], checkG g) else match allI g.prods g.terms.toNat g.nons.toNat (lkG g) with
    | some (Nx, S) => (Nx, S, 0)
    | none => ([], [], 8) := rfl
  unfold allS
  refine enter (args := [graV g.terms g.nons (.slice bp g.prods.length cp)]) (n := 81) Try.func31 rfl rfl rfl ?_
  refine T_seq (T_region (TL_box rfl rfl rfl fun g1 => ?_))
  conv=>arg 8;simp only[zA,zB,zC,zD,zE,zF,zG,zH,zI,rowS,ret,id_eq]
  repeat(first|refine QV QP ?_|refine QZ ?_|refine qcT rfl ?_|refine qcF rfl ?_|refine E_blockX ?_|refine E_blockO rfl ?_|refine QV QL ?_|refine QV QA ?_|refine QV QlT ?_|refine QV QlF ?_|refine QV QgT ?_|refine QV QgF ?_|refine QV QnT ?_|refine QV QnF ?_|refine QV QaA ?_)
  refine TL_new rfl fun g2 => ?_
  conv=>arg 8;simp only[zA,zB,zC,zD,zE,zF,zG,zH,zI,rowS,ret,id_eq]
  repeat(first|refine QV QP ?_|refine QZ ?_|refine qcT rfl ?_|refine qcF rfl ?_|refine E_blockX ?_|refine E_blockO rfl ?_|refine QV (rr_loadB (i := 0) TyC.ty rfl rfl rfl) ?_|refine QV QL ?_|refine QV QA ?_|refine QV QlT ?_|refine QV QlF ?_|refine QV QgT ?_|refine QV QgF ?_|refine QV QnT ?_|refine QV QnF ?_|refine QV QaA ?_)
  refine TL_call (he1 EntersC.en rfl rfl) (fun w hm => hck w hm.below) rfl rfl rfl ?_
  intro _ _
  conv=>arg 8;simp only[zA,zB,zC,zD,zE,zF,zG,zH,zI,rowS,ret,id_eq]
  by_cases c0 : checkG g = 0
  · rw [if_neg (by rw [c0]; simp)] at hO
    rw [c0]
    obtain ⟨hT1, hT2, hN1, hN2, hpl, hgb⟩ := checkG_ok c0
    have hwl : ∀ q ∈ g.prods, q.2.length ≤ 8 := fun q hq => (hgb q hq).1
    obtain ⟨T, hTt⟩ : ∃ T : Nat, g.terms = (T : Int) := ⟨g.terms.toNat, by omega⟩
    obtain ⟨N, hNn⟩ : ∃ N : Nat, g.nons = (N : Int) := ⟨g.nons.toNat, by omega⟩
    rw [show g.terms.toNat = T by omega, show g.nons.toNat = N by omega] at hO
    have hT : T ≤ 30 := by omega
    have hrp' : 0 < g.prods.length → ∃ b off, bp = some ⟨b, off, none⟩ ∧ ∀ i, i < g.prods.length → Rd w b (off + i * 2) [.int .i64 (prodAt g.prods (i : Int)).1, vb i] := fun h => let ⟨b, off, h1, _, h3⟩ := hrp h; ⟨b, off, h1, fun i hi => (h3 i hi).1⟩
    have hcl := fun go gm l0 vl h1 h2 w' B' ho' hs' hm' => itClosed_calls g c0 bp cp vb w hG0 hvb hrp' go gm 0 (fun _ => none) T hTt hT l0 vl h1 h2 (fun x v h => by cases h) (by omega) w' B' ho' hs' hm'
    have hst := fun go gm c f s x vl h1 h2 h3 h4 w' B' ho' hs' hm' => itStep_calls g c0 bp cp vb w hG0 hvb hrp' go gm c f T hTt hT s x vl h1 h2 h3 h4 w' B' ho' hs' hm'
    have hsy := symbols_calls T N (by omega) (by omega) (.slice bp g.prods.length cp)
    repeat(first|refine QV QP ?_|refine QZ ?_|refine qcT rfl ?_|refine qcF rfl ?_|refine E_blockX ?_|refine E_blockO rfl ?_|refine QV (rr_loadB (i := 0) TyC.ty rfl rfl rfl) ?_|refine QV QL ?_|refine QV QA ?_|refine QV QlT ?_|refine QV QlF ?_|refine QV QgT ?_|refine QV QgF ?_|refine QV QnT ?_|refine QV QnF ?_|refine QV QaA ?_)
    refine TL_call (he1 EntersC.en rfl rfl) (fun w hm => hbg w) rfl rfl rfl ?_
    rintro ⟨go, gm⟩ _
    conv=>arg 8;simp only[zA,zB,zC,zD,zE,zF,zG,zH,zI,rowS,ret,id_eq, begS]
    conv => arg 7; simp only [begS]
    repeat(first|refine QV QP ?_|refine QZ ?_|refine qcT rfl ?_|refine qcF rfl ?_|refine E_blockX ?_|refine E_blockO rfl ?_|refine QV QL ?_|refine QV QA ?_|refine QV QlT ?_|refine QV QlF ?_|refine QV QgT ?_|refine QV QgF ?_|refine QV QnT ?_|refine QV QnF ?_|refine QV QaA ?_)
    refine TL_mapNew (K := strK) rfl fun gq => ?_
    conv=>arg 8;simp only[zA,zB,zC,zD,zE,zF,zG,zH,zI,rowS,ret,id_eq]
    repeat(first|refine QV QP ?_|refine QZ ?_|refine qcT rfl ?_|refine qcF rfl ?_|refine E_blockX ?_|refine E_blockO rfl ?_|refine QV QL ?_|refine QV QA ?_|refine QV QlT ?_|refine QV QlF ?_|refine QV QgT ?_|refine QV QgF ?_|refine QV QnT ?_|refine QV QnF ?_|refine QV QaA ?_)
    refine TL_new rfl fun g6 => ?_
    conv=>arg 8;simp only[zA,zB,zC,zD,zE,zF,zG,zH,zI,rowS,ret,id_eq]
    refine TL_store1 (i := 5) rfl rfl rfl rfl rfl rfl ?_
    conv=>arg 8;simp only[zA,zB,zC,zD,zE,zF,zG,zH,zI,rowS,ret,id_eq]
    repeat(first|refine QV QP ?_|refine QZ ?_|refine qcT rfl ?_|refine qcF rfl ?_|refine E_blockX ?_|refine E_blockO rfl ?_|refine QV QL ?_|refine QV QA ?_|refine QV QlT ?_|refine QV QlF ?_|refine QV QgT ?_|refine QV QgF ?_|refine QV QnT ?_|refine QV QnF ?_|refine QV QaA ?_)
    refine TL_new rfl fun g7 => ?_
    conv=>arg 8;simp only[zA,zB,zC,zD,zE,zF,zG,zH,zI,rowS,ret,id_eq]
    repeat(first|refine QV QP ?_|refine QZ ?_|refine qcT rfl ?_|refine qcF rfl ?_|refine E_blockX ?_|refine E_blockO rfl ?_|refine QV (rr_func rfl rfl) ?_|refine QV (rr_load1 (v := .slice bp g.prods.length cp) TyC.ty rfl (at_blk (i := 0) rfl rfl)) ?_|refine QV (rr_load1 (v := .int .i64 g.terms) TyC.ty rfl (at_blk (i := 0) rfl rfl)) ?_|refine QV (rr_build rfl (build_it2 _ _)) ?_|refine QV QL ?_|refine QV QA ?_|refine QV QlT ?_|refine QV QlF ?_|refine QV QgT ?_|refine QV QgF ?_|refine QV QnT ?_|refine QV QnF ?_|refine QV QaA ?_)
    refine TL_one (cs := (itC ((g.prods.length : Int), 0, g.terms)).toArray) rfl rfl rfl rfl rfl fun g33 => ?_
    conv=>arg 8;simp only[zA,zB,zC,zD,zE,zF,zG,zH,zI,rowS,ret,id_eq]
    refine TL_toRow (i := 7) (m := 1) 3 rfl rfl (by decide) ?_
    conv=>arg 8;simp only[zA,zB,zC,zD,zE,zF,zG,zH,zI,rowS,ret,id_eq]
    have hsr : ∀ x ∈ [(((g.prods.length : Int), 0, g.terms) : itemL.Item)], RightI g.prods T x := by rw [hTt]; exact start_right hpl hT
    repeat(first|refine QV QP ?_|refine QZ ?_|refine qcT rfl ?_|refine qcF rfl ?_|refine E_blockX ?_|refine E_blockO rfl ?_|refine QV QL ?_|refine QV QA ?_|refine QV QlT ?_|refine QV QlF ?_|refine QV QgT ?_|refine QV QgF ?_|refine QV QnT ?_|refine QV QnF ?_|refine QV QaA ?_)
    refine TL_callB [3, 2] [0, 1, 4, 5, 6] (by decide) rfl rfl (he2 EntersC.en rfl rfl rfl) (fun w' hm hb => hcl go gm [((g.prods.length : Int), 0, g.terms)] _ hsr (by simp) w' _ ((Old.self w).on hm fun o h => pickMem h) (SlB.row hm (i := 7) rfl [3, 2] rfl (by decide)) hb) rfl rfl rfl ?_
    rintro ⟨f2, c2, v2⟩ ⟨hf2, hc2⟩
    conv=>arg 8;simp only[zA,zB,zC,zD,zE,zF,zG,zH,zI,rowS,ret,id_eq, itClS, opL]
    conv => arg 7; simp only [itClS]
    have hstart : closedI g.prods T (lkG g) [((g.prods.length : Int), 0, g.terms)] = startI g.prods T (lkG g) := by rw [hTt]; rfl
    rw [hstart]
    have hs0r : ∀ it ∈ startI g.prods T (lkG g), RightI g.prods T it := closed_right hwl hpl hT (start_right hpl hT)
    have hs0s := closed_shut (lk := lkG g) hwl hpl hT (l0 := [((g.prods.length : Int), 0, (T : Int))]) (start_right hpl hT)
    have hs0l : (startI g.prods T (lkG g)).length ≤ 11439 := closed_len hwl hpl hT (start_right hpl hT)
    dsimp only at hf2 hc2
    refine TL_nilrow 25 1 ?_
    refine TL_extra (elsO (sliceS itS) (fun _ => False) [] []) (fun k hk => hk.elim (fun h => by cases h) id) (fun w => els_nil) ?_
    conv=>arg 8;simp only[zA,zB,zC,zD,zE,zF,zG,zH,zI,rowS,ret,id_eq]
    have hsm := small_right hwl hpl hT hs0r
    have hs1 : stateI [] (startI g.prods T (lkG g)) = (0, [startI g.prods T (lkG g)]) := if_neg (by simp)
    repeat(first|refine QV QP ?_|refine QZ ?_|refine qcT rfl ?_|refine qcF rfl ?_|refine E_blockX ?_|refine E_blockO rfl ?_|refine QV QL ?_|refine QV QA ?_|refine QV QlT ?_|refine QV QlF ?_|refine QV QgT ?_|refine QV QgF ?_|refine QV QnT ?_|refine QV QnF ?_|refine QV QaA ?_)
    refine TL_callB [3, 2, 4, 8, 9, 7] [0, 1, 5, 6] (by decide) rfl rfl (he1c EntersC.en rfl rfl) (fun w' hm hb => state_calls g6 gq g7 (.slice none 0 0) (.slice none 0 0) [] (fun _ => False) [] v2 (startI g.prods T (lkG g)) (fun t h => by cases h) hsm (by simp) (by omega) w' _ hb) rfl rfl rfl ?_
    rintro ⟨vS, vss, F⟩ _
    conv=>arg 8;simp only[zA,zB,zC,zD,zE,zF,zG,zH,zI,rowS,ret,id_eq, stL]
    rw [hs1]
    dsimp only
    refine TL_nilrow 61 1 ?_
    refine TL_extra (elsO (sliceS intS) (fun _ => False) [] []) (fun k hk => hk.elim (fun h => by cases h) id) (fun w => els_nil) ?_
    conv=>arg 8;simp only[zA,zB,zC,zD,zE,zF,zG,zH,zI,rowS,ret,id_eq]
    repeat(first|refine QV QP ?_|refine QZ ?_|refine qcT rfl ?_|refine qcF rfl ?_|refine E_blockX ?_|refine E_blockO rfl ?_|refine QV QL ?_|refine QV QA ?_|refine QV QlT ?_|refine QV QlF ?_|refine QV QgT ?_|refine QV QgF ?_|refine QV QnT ?_|refine QV QnF ?_|refine QV QaA ?_)
    refine T_loop (ι := Nat × List (List itemL.Item) × List (List Int) × (RK → Option Value) × Nat × Value × Value × List Value × (Nat → Prop) × List Value × (Nat → Prop))
      (fun (n, S, Nx, f, c, _, _, _, _, _, _) => n ≤ S.length ∧ Nx.length = n ∧ SsOk g.prods T (lkG g) S ∧ S.length ≤ 200 ∧ allTo g.prods T N (lkG g) (202 - n) n Nx S = allI g.prods T N (lkG g) ∧ CacheOk (lkG g) f ∧ c ≤ 12000 + 1200000 * n ∧ ∀ t ∈ S, t.length ≤ 11439)
      (fun (n, _, _, _, _, _, _, _, _, _, _) => [(1, .pointer (some ⟨g1, 0, none⟩)), (2, .pointer (some ⟨g2, 0, none⟩)), (5, .pointer (some ⟨go, 0, none⟩)), (7, .pointer (some ⟨g7, 0, none⟩)), (8, .func (.func 49) #[] #[.pointer (some ⟨g6, 0, none⟩), .pointer (some ⟨g7, 0, none⟩)]), (9, .int .i64 (n : Int))])
      (fun (_, S, Nx, f, c, vS, vN, vss, F, vns, G) => [blkO g1 (graV g.terms g.nons (.slice bp g.prods.length cp)).cells 24, blkO g2 #[.slice none 0 0, .slice none 0 0] 84, blkO go (opC g.terms g.nons (.slice bp g.prods.length cp) gm).toArray 105, mapO restK gm f c, blkO g6 #[.map (some gq)] 111, mapO strK gq (mapAt (S.map nameI)) S.length, blkO g7 #[vS, vN] 84, rowO 25 1 vS S.length vss, elsO (sliceS itS) F (vss.map fun v => [v]) S, rowO 61 1 vN Nx.length vns, elsO (sliceS intS) G (vns.map fun v => [v]) Nx]) (fun (n, _, _, _, _, _, _, _, _, _, _) => 202 - n)
      (0, [startI g.prods T (lkG g)], [], f2, c2, vS, .slice none 0 0, vss, F, [], fun _ => False) ⟨Nat.zero_le _, rfl, ⟨by simp, fun s hs => by rw [List.mem_singleton.1 hs]; exact hs0r, fun s hs => by rw [List.mem_singleton.1 hs]; exact hs0s⟩, by simp, rfl, hf2, by omega, fun t ht => by rw [List.mem_singleton.1 ht]; exact hs0l⟩ (by repeat' (first | exact True.intro | refine And.intro rfl ?_)) rfl ?_
    clear hcl hs0r hs0s hs0l hsm hs1 hf2 hc2 hsr hstart hbg hck
    rintro ⟨n, S, Nx, f, c, vS, vN, vss, F, vns, G⟩ ⟨i1, i2, i3, i4, i5, i6, i7, i8⟩
    dsimp only at i1 i2 i3 i4 i5 i6 i7 i8 ⊢
    refine T_know (i := 7) rfl row_slm fun hrow => ?_
    obtain ⟨aS, cS, rfl, -, haS⟩ := hrow
    by_cases c1 : n < S.length
    · rw [show 202 - n = (201 - n) + 1 by omega, allTo, if_pos c1] at i5
      have hgd : S.getD n [] = S[n] := by rw [List.getD_eq_getElem?_getD, List.getElem?_eq_getElem c1]; rfl
      rw [hgd] at i5
      have hsr := i3.right S[n] (List.getElem_mem c1)
      have hsn : S[n]? = some S[n] := List.getElem?_eq_getElem c1
      generalize hs0 : S[n] = s0 at *
      have hyl : (symsI T N).length = T + N := syms_len T N
      rw [← hTt, ← hNn] at hsy
      generalize symsI T N = ys at *
      repeat(first|refine QV QP ?_|refine QZ ?_|refine qcT rfl ?_|refine qcF rfl ?_|refine E_blockX ?_|refine E_blockO rfl ?_|refine QV (rr_load1 (v := .slice aS S.length cS) TyC.ty rfl (at_blk (i := 6) rfl rfl)) ?_|refine QV (rr_loadB (i := 0) TyC.ty rfl rfl rfl) ?_|refine QV QL ?_|refine QV QA ?_|refine QV QlT ?_|refine QV QlF ?_|refine QV QgT ?_|refine QV QgF ?_|refine QV QnT ?_|refine QV QnF ?_|refine QV QaA ?_)
      refine TL_call (he1 EntersC.en rfl rfl) (fun w hm => hsy w) rfl rfl rfl ?_
      intro vy _
      conv=>arg 8;simp only[zA,zB,zC,zD,zE,zF,zG,zH,zI,rowS,ret,id_eq, rowS]
      conv => arg 7; simp only [rowS]
      refine TL_know (i := 11) rfl row_slm fun hrow => ?_
      obtain ⟨ay, cy, rfl, -, hay⟩ := hrow
      repeat(first|refine QV QP ?_|refine QZ ?_|refine qcT rfl ?_|refine qcF rfl ?_|refine E_blockX ?_|refine E_blockO rfl ?_|refine QV QL ?_|refine QV QA ?_|refine QV QlT ?_|refine QV QlF ?_|refine QV QgT ?_|refine QV QgF ?_|refine QV QnT ?_|refine QV QnF ?_|refine QV QaA ?_)
      refine T_nil 3 1 ?_
      conv => arg 7; simp only [zA, zB, zC, zD, zE, zF, zG, zH, zI, rowS, ret, id_eq]
      refine T_loop (ι := Nat × List Int × List (List itemL.Item) × (RK → Option Value) × Nat × Value × List Value × (Nat → Prop) × Value)
        (fun (k, nx, S', f', c', _, _, _, _) => k ≤ ys.length ∧ (∃ E, S' = S ++ E) ∧ SsOk g.prods T (lkG g) S' ∧ S'.length ≤ 200 ∧ rowI g.prods T (lkG g) s0 (ys.drop k) nx S' = rowI g.prods T (lkG g) s0 ys [] S ∧ CacheOk (lkG g) f' ∧ c' ≤ c + 12000 * k ∧ nx.length = k ∧ (∀ y ∈ nx, kit.okI64 y) ∧ ∀ t ∈ S', t.length ≤ 11439)
        (fun (k, _, _, _, _, _, _, _, vx) => [(1, .pointer (some ⟨g1, 0, none⟩)), (2, .pointer (some ⟨g2, 0, none⟩)), (5, .pointer (some ⟨go, 0, none⟩)), (7, .pointer (some ⟨g7, 0, none⟩)), (8, .func (.func 49) #[] #[.pointer (some ⟨g6, 0, none⟩), .pointer (some ⟨g7, 0, none⟩)]), (9, .int .i64 (n : Int)), (10, vx), (44, .slice ay ys.length cy), (45, .int .i64 (ys.length : Int)), (46, .int .i64 (k : Int))])
        (fun (_, nx, S', f', c', vS', vss', F', vx) => [blkO g1 (graV g.terms g.nons (.slice bp g.prods.length cp)).cells 24, blkO g2 #[.slice none 0 0, .slice none 0 0] 84, blkO go (opC g.terms g.nons (.slice bp g.prods.length cp) gm).toArray 105, mapO restK gm f' c', blkO g6 #[.map (some gq)] 111, mapO strK gq (mapAt (S'.map nameI)) S'.length, blkO g7 #[vS', vN] 84, rowO 25 1 vS' S'.length vss', elsO (sliceS itS) F' (vss'.map fun v => [v]) S', rowO 61 1 vN Nx.length vns, elsO (sliceS intS) G (vns.map fun v => [v]) Nx, rowO 60 2 (.slice ay ys.length cy) ys.length (ys.flatMap symC), rowO 3 1 vx nx.length (nx.map (Value.int .i64))]) (fun (k, _, _, _, _, _, _, _, _) => ys.length - k)
        (0, [], S, f, c, .slice aS S.length cS, vss, F, .slice none 0 0) ⟨Nat.zero_le _, ⟨[], (List.append_nil _).symm⟩, i3, i4, rfl, i6, by omega, rfl, (fun y hy => by cases hy), i8⟩ (by repeat' (first | exact True.intro | refine And.intro rfl ?_)) rfl ?_
      clear hsy
      rintro ⟨k, nx, S', f', c', vS', vss', F', vx⟩ ⟨j1, ⟨E, hE⟩, j3, j4, j5, j6, j7, j8, j9, j10⟩
      dsimp only at j1 hE j3 j4 j5 j6 j7 j8 j9 j10 ⊢
      by_cases c2 : k < ys.length
      · have hn' : n < S'.length := by rw [hE, List.length_append]; omega
        have hsn' : S'[n]? = some s0 := by rw [hE, List.getElem?_append_left c1]; exact hsn
        refine T_know (i := 7) rfl row_slm fun hrow => ?_
        obtain ⟨aS', cS', rfl, -, haS'⟩ := hrow
        obtain ⟨gS', rfl⟩ := haS' (by omega)
        refine T_know (i := 8) rfl (fun w h => h.1.1) fun hvl => ?_
        rw [List.length_map] at hvl
        have hvn : vss'[0 + n]? = some (vss'[n]'(by omega)) := by rw [Nat.zero_add]; exact List.getElem?_eq_getElem _
        have hvn2 : vss'[n]? = some (vss'[n]'(by omega)) := List.getElem?_eq_getElem _
        generalize vss'[n]'(by omega) = vn at hvn hvn2
        obtain ⟨gy, rfl⟩ := hay (by omega)
        have hat := fun (L : List Own) (i : Nat) (hL : L[i]? = some (rowO 60 2 (.slice (some ⟨gy, 0, none⟩) ys.length cy) ys.length (ys.flatMap symC))) => at_rowel (W := (w : Base)) SymC_len hL c2
        rw [List.drop_eq_getElem_cons c2, rowI] at j5
        generalize ys[k] = x at *
        have hsl : s0.length ≤ 11439 := j10 s0 (List.mem_of_getElem? hsn')
        repeat(first|refine QV QP ?_|refine QZ ?_|refine qcT rfl ?_|refine qcF rfl ?_|refine E_blockX ?_|refine E_blockO rfl ?_|refine QV (rr_idxc Und.eq TyC.ty rfl rfl c2) ?_|refine QV (rr_loadN (cs := symC x) TyC.ty rfl rfl (hat _ 11 rfl)) ?_|refine QV QL ?_|refine QV QA ?_|refine QV QlT ?_|refine QV QlF ?_|refine QV QgT ?_|refine QV QgF ?_|refine QV QnT ?_|refine QV QnF ?_|refine QV QaA ?_)
        refine TL_new rfl fun g12 => ?_
        conv=>arg 8;simp only[zA,zB,zC,zD,zE,zF,zG,zH,zI,rowS,ret,id_eq]
        refine TL_storeB (i := 13) (cs' := (symC x).toArray) rfl rfl rfl rfl rfl rfl ?_
        conv=>arg 8;simp only[zA,zB,zC,zD,zE,zF,zG,zH,zI,rowS,ret,id_eq]
        repeat(first|refine QV QP ?_|refine QZ ?_|refine qcT rfl ?_|refine qcF rfl ?_|refine E_blockX ?_|refine E_blockO rfl ?_|refine QV QL ?_|refine QV QA ?_|refine QV QlT ?_|refine QV QlF ?_|refine QV QgT ?_|refine QV QgF ?_|refine QV QnT ?_|refine QV QnF ?_|refine QV QaA ?_)
        refine T_ord ([blkO g7 #[.slice (some ⟨gS', 0, none⟩) S'.length cS', vN] 84, rowO 25 1 (.slice (some ⟨gS', 0, none⟩) S'.length cS') S'.length vss', blkO g12 (symC x).toArray 60]) (.calm 0 (.calm 1 (.calm 2 (.calm 3 (.calm 4 (.calm 5 (.calm 6 (.one 7 (.calm 8 (.done)))))))))) (sub_pick [6, 7, 13] (by decide) rfl) (by kernel_rfl) (by kernel_rfl) (by intro c a d v w h; cases d <;> exact h) ?_
        repeat(first|((first|refine TW_plain rfl rfl ?_|refine TW_gmet rfl rfl rfl rfl ?_);first|refine QW QP ?_|refine QW (rr_load1 (v := .slice (some ⟨gS', 0, none⟩) S'.length cS') TyC.ty rfl (at_blk (i := 0) rfl rfl)) ?_|refine QW (rr_idx1 Und.eq TyC.ty rfl rfl hn') ?_|refine QW (rr_load1 (v := vn) TyC.ty rfl (at_row (i := 1) rfl hvn)) ?_|refine QW (rr_loadB (i := 2) TyC.ty rfl rfl rfl) ?_|refine QW QL ?_|refine QW QA ?_|refine QW QlT ?_|refine QW QlF ?_|refine QW QgT ?_|refine QW QgF ?_|refine QW QnT ?_|refine QW QnF ?_|refine QW QaA ?_)|refine TW_done ?_)
        refine TW_one rfl ?_
        refine TL_callB [2, 3] [0, 1, 4, 5, 6, 7, 8, 9, 10, 11, 12, 13] (by decide) rfl rfl (he3 EntersC.en rfl rfl rfl rfl) (fun w' hm hb => hst go gm c' f' s0 x vn hsr (by omega) j6 (by omega) w' _ ((Old.self w).on hm fun o h => pickMem h) (SlB.els hm (i := 8) rfl [2, 3] rfl (by decide) hsn' hvn2) hb) rfl rfl rfl ?_
        rintro ⟨f2, c2', v2⟩ ⟨hf2, hc2⟩
        dsimp only at hf2 hc2
        conv=>arg 8;simp only[zA,zB,zC,zD,zE,zF,zG,zH,zI,rowS,ret,id_eq, itClS, opL]
        conv => arg 7; simp only [itClS]
        rw [show closedI g.prods T (lkG g) (overI g.prods s0 x) = stepI g.prods T (lkG g) s0 x from rfl]
        refine TW_on (sub_pick [4, 5, 11] (by decide) rfl) ?_
        repeat(first|((first|refine TW_plain rfl rfl ?_|refine TW_gmet rfl rfl rfl rfl ?_);first|refine QW QP ?_|refine QW QL ?_|refine QW QA ?_|refine QW QlT ?_|refine QW QlF ?_|refine QW QgT ?_|refine QW QgF ?_|refine QW QnT ?_|refine QW QnF ?_|refine QW QaA ?_)|refine TW_done ?_)
        repeat(first|refine QV QP ?_|refine QZ ?_|refine qcT rfl ?_|refine qcF rfl ?_|refine E_blockX ?_|refine E_blockO rfl ?_|refine QV QL ?_|refine QV QA ?_|refine QV QlT ?_|refine QV QlF ?_|refine QV QgT ?_|refine QV QgF ?_|refine QV QnT ?_|refine QV QnF ?_|refine QV QaA ?_)
        refine TL_know (i := 14) rfl row_slm fun hrow => ?_
        obtain ⟨a2, cv2, rfl, -, ha2⟩ := hrow
        obtain ⟨hlE, hlC, hlS⟩ := cell_lawI (lk := lkG g) hwl hpl hT j3 hsr x
        have hcc : c2' ≤ c + 12000 * (k + 1) := step_cnt hc2 j7
        have hstr : ∀ it ∈ stepI g.prods T (lkG g) s0 x, RightI g.prods T it := closed_right hwl hpl hT (over_right hsr)
        have hstl : (stepI g.prods T (lkG g) s0 x).length ≤ 11439 := closed_len hwl hpl hT (over_right hsr)
        by_cases c3 : stepI g.prods T (lkG g) s0 x = []
        · have hcell : cellI g.prods T (lkG g) s0 x S' = (-1, S') := if_pos c3
          rw [hcell, if_neg (by show ¬ 200 < S'.length; omega)] at j5
          dsimp only at j5
          have hl0 : (stepI g.prods T (lkG g) s0 x).length = 0 := by rw [c3]; rfl
          repeat(first|refine QV QP ?_|refine QZ ?_|refine qcT rfl ?_|refine qcF rfl ?_|refine E_blockX ?_|refine E_blockO rfl ?_|refine QV (rr_load1 (v := .slice (some ⟨gS', 0, none⟩) S'.length cS') TyC.ty rfl (at_blk (i := 4) rfl rfl)) ?_|refine QV QL ?_|refine QV QA ?_|refine QV QlT ?_|refine QV QlF ?_|refine QV QgT ?_|refine QV QgF ?_|refine QV QnT ?_|refine QV QnF ?_|refine QV QaA ?_)
          refine TL_push1 (i := 10) rfl rfl rfl rfl rfl rfl (fun z h => by cases h; rfl) (by omega) (by omega) rfl fun z vx' => ?_
          conv=>arg 8;simp only[zA,zB,zC,zD,zE,zF,zG,zH,zI,rowS,ret,id_eq]
          repeat(first|refine QV QP ?_|refine QZ ?_|refine qcT rfl ?_|refine qcF rfl ?_|refine E_blockX ?_|refine E_blockO rfl ?_|refine QV QL ?_|refine QV QA ?_|refine QV QlT ?_|refine QV QlF ?_|refine QV QgT ?_|refine QV QgF ?_|refine QV QnT ?_|refine QV QnF ?_|refine QV QaA ?_)
          refine E_pick [0, 1, 12, 13, 2, 3, 4, 5, 6, 7, 8, 9, 10] (by decide) rfl ?_
          exact E_round (k + 1, nx ++ [-1], S', f2, c2', .slice (some ⟨gS', 0, none⟩) S'.length cS', vss', F', vx') ⟨by show k + 1 ≤ ys.length; omega, ⟨E, hE⟩, j3, j4, j5, hf2, hcc, by show (nx ++ [-1]).length = k + 1; rw [List.length_append, j8]; rfl, fun y hy => (List.mem_append.1 hy).elim (j9 y) fun h => by rw [List.mem_singleton.1 h]; exact ⟨by omega, by omega⟩, j10⟩ (by show ys.length - (k + 1) < ys.length - k; omega) (by repeat' (first | exact True.intro | refine And.intro rfl ?_)) (by dsimp only; rw [List.length_append, List.map_append]; rfl)
        · have hcell : cellI g.prods T (lkG g) s0 x S' = (((stateI S' (stepI g.prods T (lkG g) s0 x)).1 : Int), (stateI S' (stepI g.prods T (lkG g) s0 x)).2) := if_neg c3
          have hsm := small_right hwl hpl hT hstr
          have hSm : ∀ t ∈ S', SmallIt t := fun t ht => small_right hwl hpl hT (j3.right t ht)
          have hpos : 0 < (stepI g.prods T (lkG g) s0 x).length := List.length_pos_iff.2 c3
          have hq : (stateI S' (stepI g.prods T (lkG g) s0 x)).1 ≤ S'.length := by
            unfold stateI; split
            · rename_i hm; exact Nat.le_of_lt (idx_lt hm)
            · exact Nat.le_refl _
          rw [hcell] at j5 hlE hlC hlS
          dsimp only at j5 hlE hlC hlS
          repeat(first|refine QV QP ?_|refine QZ ?_|refine qcT rfl ?_|refine qcF rfl ?_|refine E_blockX ?_|refine E_blockO rfl ?_|refine QV QL ?_|refine QV QA ?_|refine QV QlT ?_|refine QV QlF ?_|refine QV QgT ?_|refine QV QgF ?_|refine QV QnT ?_|refine QV QnF ?_|refine QV QaA ?_)
          refine TL_callB [2, 3, 4, 5, 6, 14] [0, 1, 7, 8, 9, 10, 11, 12, 13] (by decide) rfl rfl (he1c EntersC.en rfl rfl) (fun w' hm hb => state_calls g6 gq g7 (.slice (some ⟨gS', 0, none⟩) S'.length cS') vN vss' F' S' _ (stepI g.prods T (lkG g) s0 x) hSm hsm (by omega) (by omega) w' _ hb) rfl rfl rfl ?_
          rintro ⟨vS2, vss2, F2⟩ _
          conv=>arg 8;simp only[zA,zB,zC,zD,zE,zF,zG,zH,zI,rowS,ret,id_eq, stL]
          have hlen2 : ∀ t ∈ (stateI S' (stepI g.prods T (lkG g) s0 x)).2, t.length ≤ 11439 := by
            unfold stateI; split
            · exact j10
            · intro t ht
              rcases List.mem_append.1 ht with h | h
              · exact j10 t h
              · rw [List.mem_singleton.1 h]; exact hstl
          generalize stateI S' (stepI g.prods T (lkG g) s0 x) = R at *
          obtain ⟨q, S2⟩ := R
          dsimp only at j5 hlE hlC hlS hq hlen2 ⊢
          refine TL_know (i := 12) rfl row_slm fun hrow => ?_
          obtain ⟨aS2, cS2, rfl, -, haS2⟩ := hrow
          obtain ⟨E2, hE2⟩ := hlE
          by_cases c4 : 200 < S2.length
          · rw [if_pos c4] at j5
            rw [← j5] at i5
            repeat(first|refine QV QP ?_|refine QZ ?_|refine qcT rfl ?_|refine qcF rfl ?_|refine E_blockX ?_|refine E_blockO rfl ?_|refine QV (rr_load1 (v := .slice aS2 S2.length cS2) TyC.ty rfl (at_blk (i := 11) rfl rfl)) ?_|refine QV (rr_gtr (b := true) rfl rfl (decide_eq_true (by omega))) ?_|refine QV (rr_build rfl hb0) ?_|refine QV QL ?_|refine QV QA ?_|refine QV QlT ?_|refine QV QlF ?_|refine QV QgT ?_|refine QV QgF ?_|refine QV QnT ?_|refine QV QnF ?_|refine QV QaA ?_)
            have hOn : outA g = ([], [], 8) := by rw [hO, ← i5]
            rw [hOn]
            refine TL_storeB (i := 1) rfl rfl rfl rfl rfl rfl ?_
            conv=>arg 8;simp only[zA,zB,zC,zD,zE,zF,zG,zH,zI,rowS,ret,id_eq]
            repeat(first|refine QV QP ?_|refine QZ ?_|refine qcT rfl ?_|refine qcF rfl ?_|refine E_blockX ?_|refine E_blockO rfl ?_|refine QV QL ?_|refine QV QA ?_|refine QV QlT ?_|refine QV QlF ?_|refine QV QgT ?_|refine QV QgF ?_|refine QV QnT ?_|refine QV QnF ?_|refine QV QaA ?_)
            refine E_nilrow 25 1 (E_extra (elsO (sliceS itS) (fun _ => False) [] []) (fun k hk => hk.elim (fun h => by cases h) id) (fun w => els_nil) (E_nilrow 61 1 (E_extra (elsO (sliceS intS) (fun _ => False) [] []) (fun k hk => hk.elim (fun h => by cases h) id) (fun w => els_nil) ?_)))
            exact E_retc2 (i := 1) rfl rfl rfl rfl rfl fun w hm => hm.meets (S := ⟨fun (_ : Value × Value × List Value × (Nat → Prop) × List Value × (Nat → Prop)) => True, fun x => .tuple #[.agg #[x.1, x.2.1], .int .i64 8], fun x => [rowO 25 1 x.1 0 x.2.2.1, elsO (sliceS itS) x.2.2.2.1 (x.2.2.1.map fun v => [v]) [], rowO 61 1 x.2.1 0 x.2.2.2.2.1, elsO (sliceS intS) x.2.2.2.2.2 (x.2.2.2.2.1.map fun v => [v]) []]⟩) (.slice none 0 0, .slice none 0 0, [], fun _ => False, [], fun _ => False) trivial [14, 15, 16, 17] (by decide) rfl
          · rw [if_neg c4] at j5
            repeat(first|refine QV QP ?_|refine QZ ?_|refine qcT rfl ?_|refine qcF rfl ?_|refine E_blockX ?_|refine E_blockO rfl ?_|refine QV (rr_load1 (v := .slice aS2 S2.length cS2) TyC.ty rfl (at_blk (i := 11) rfl rfl)) ?_|refine QV (rr_gtr (b := false) rfl rfl (decide_eq_false (by omega))) ?_|refine QV QL ?_|refine QV QA ?_|refine QV QlT ?_|refine QV QlF ?_|refine QV QgT ?_|refine QV QgF ?_|refine QV QnT ?_|refine QV QnF ?_|refine QV QaA ?_)
            refine TL_push1 (i := 5) rfl rfl rfl rfl rfl rfl (fun z h => by cases h; rfl) (by omega) (by omega) rfl fun z vx' => ?_
            conv=>arg 8;simp only[zA,zB,zC,zD,zE,zF,zG,zH,zI,rowS,ret,id_eq]
            repeat(first|refine QV QP ?_|refine QZ ?_|refine qcT rfl ?_|refine qcF rfl ?_|refine E_blockX ?_|refine E_blockO rfl ?_|refine QV QL ?_|refine QV QA ?_|refine QV QlT ?_|refine QV QlF ?_|refine QV QgT ?_|refine QV QgF ?_|refine QV QnT ?_|refine QV QnF ?_|refine QV QaA ?_)
            refine E_pick [0, 1, 7, 8, 9, 10, 11, 12, 13, 2, 3, 4, 5] (by decide) rfl ?_
            exact E_round (k + 1, nx ++ [(q : Int)], S2, f2, c2', .slice aS2 S2.length cS2, vss2, F2, vx') ⟨by show k + 1 ≤ ys.length; omega, ⟨E ++ E2, by rw [hE2, hE, List.append_assoc]⟩, hlS, by show S2.length ≤ 200; omega, j5, hf2, hcc, by show (nx ++ [(q : Int)]).length = k + 1; rw [List.length_append, j8]; rfl, fun y hy => (List.mem_append.1 hy).elim (j9 y) fun h => by rw [List.mem_singleton.1 h]; exact ⟨by omega, by omega⟩, fun t ht => hlen2 t ht⟩ (by show ys.length - (k + 1) < ys.length - k; omega) (by repeat' (first | exact True.intro | refine And.intro rfl ?_)) (by dsimp only; rw [List.length_append, List.map_append]; rfl)
      · obtain rfl : k = ys.length := by omega
        rw [List.drop_eq_nil_of_le (Nat.le_refl _), rowI] at j5
        rw [← j5] at i5
        dsimp only at i5
        repeat(first|refine QV QP ?_|refine QZ ?_|refine qcT rfl ?_|refine qcF rfl ?_|refine E_blockX ?_|refine E_blockO rfl ?_|refine QV (rr_load1 (v := vN) TyC.ty rfl (at_blk (i := 6) rfl rfl)) ?_|refine QV QL ?_|refine QV QA ?_|refine QV QlT ?_|refine QV QlF ?_|refine QV QgT ?_|refine QV QgF ?_|refine QV QnT ?_|refine QV QnF ?_|refine QV QaA ?_)
        refine TL_slv (i := 12) rfl fun hl1 hl2 => ?_
        refine TL_push1 (i := 9) rfl rfl hl1 hl2 rfl rfl (fun z h => by cases h; rfl) (by omega) (by omega) rfl fun z vN' => ?_
        conv=>arg 8;simp only[zA,zB,zC,zD,zE,zF,zG,zH,zI,rowS,ret,id_eq]
        refine TL_merge (elsO (sliceS intS) (fun k => G k ∨ vx.ownBlock = some k) ((vns.map fun v => [v]) ++ [[vx]]) (Nx ++ [nx])) 12 10 [0, 1, 2, 3, 4, 5, 6, 7, 8, 9] (by decide) rfl rfl rfl (fun k hk => hk.elim (fun h => by cases h) fun h => h.elim (fun h => .inr (.inr h)) fun h => .inl (.inl h)) (fun w hr he => els_snoc he (ints_of_row j9 hr) (row_foot hr)) ?_
        conv=>arg 8;simp only[zA,zB,zC,zD,zE,zF,zG,zH,zI,rowS,ret,id_eq]
        repeat(first|refine QV QP ?_|refine QZ ?_|refine qcT rfl ?_|refine qcF rfl ?_|refine E_blockX ?_|refine E_blockO rfl ?_|refine QV QL ?_|refine QV QA ?_|refine QV QlT ?_|refine QV QlF ?_|refine QV QgT ?_|refine QV QgF ?_|refine QV QnT ?_|refine QV QnF ?_|refine QV QaA ?_)
        refine TL_slv (i := 9) rfl fun hv1 hv2 => TL_store1 (i := 6) rfl rfl rfl hv1 hv2 rfl ?_
        conv=>arg 8;simp only[zA,zB,zC,zD,zE,zF,zG,zH,zI,rowS,ret,id_eq]
        repeat(first|refine QV QP ?_|refine QZ ?_|refine qcT rfl ?_|refine qcF rfl ?_|refine E_blockX ?_|refine E_blockO rfl ?_|refine QV QL ?_|refine QV QA ?_|refine QV QlT ?_|refine QV QlF ?_|refine QV QgT ?_|refine QV QgF ?_|refine QV QnT ?_|refine QV QnF ?_|refine QV QaA ?_)
        exact E_round (n + 1, S', Nx ++ [nx], f', c', vS', vN', vss', F', vns ++ [vx], fun k => G k ∨ vx.ownBlock = some k) ⟨by show n + 1 ≤ S'.length; rw [hE, List.length_append]; omega, by show (Nx ++ [nx]).length = n + 1; rw [List.length_append, i2]; rfl, j3, j4, by show allTo g.prods T N (lkG g) (202 - (n + 1)) (n + 1) (Nx ++ [nx]) S' = _; rw [show 202 - (n + 1) = 201 - n by omega]; exact i5, j6, by dsimp only; omega, j10⟩ (by show 202 - (n + 1) < 202 - n; omega) (by repeat' (first | exact True.intro | refine And.intro rfl ?_)) (by dsimp only; rw [List.length_append, List.map_append]; rfl)
    · have hA : allI g.prods T N (lkG g) = some (Nx, S) := by rw [← i5, show 202 - n = (201 - n) + 1 by omega, allTo, if_neg c1]
      rw [hA] at hO
      have hO : outA g = (Nx, S, 0) := hO
      rw [hO]
      refine T_know (i := 9) rfl row_slm fun hrow => ?_
      obtain ⟨aN, cN, rfl, -⟩ := hrow
      repeat(first|refine QV QP ?_|refine QZ ?_|refine qcT rfl ?_|refine qcF rfl ?_|refine E_blockX ?_|refine E_blockO rfl ?_|refine QV (rr_load1 (v := .slice aS S.length cS) TyC.ty rfl (at_blk (i := 6) rfl rfl)) ?_|refine QV (rr_loadB (i := 6) TyC.ty rfl rfl rfl) ?_|refine QV QL ?_|refine QV QA ?_|refine QV QlT ?_|refine QV QlF ?_|refine QV QgT ?_|refine QV QgF ?_|refine QV QnT ?_|refine QV QnF ?_|refine QV QaA ?_)
      refine TL_storeB (i := 1) (cs' := #[.slice aS S.length cS, .slice aN Nx.length cN]) rfl rfl rfl rfl rfl rfl ?_
      conv=>arg 8;simp only[zA,zB,zC,zD,zE,zF,zG,zH,zI,rowS,ret,id_eq]
      repeat(first|refine QV QP ?_|refine QZ ?_|refine qcT rfl ?_|refine qcF rfl ?_|refine E_blockX ?_|refine E_blockO rfl ?_|refine QV QL ?_|refine QV QA ?_|refine QV QlT ?_|refine QV QlF ?_|refine QV QgT ?_|refine QV QgF ?_|refine QV QnT ?_|refine QV QnF ?_|refine QV QaA ?_)
      exact E_retc2 (i := 1) rfl rfl rfl rfl rfl fun w hm => hm.meets (S := ⟨fun (_ : Value × Value × List Value × (Nat → Prop) × List Value × (Nat → Prop)) => True, fun x => .tuple #[.agg #[x.1, x.2.1], .int .i64 0], fun x => [rowO 25 1 x.1 S.length x.2.2.1, elsO (sliceS itS) x.2.2.2.1 (x.2.2.1.map fun v => [v]) S, rowO 61 1 x.2.1 Nx.length x.2.2.2.2.1, elsO (sliceS intS) x.2.2.2.2.2 (x.2.2.2.2.1.map fun v => [v]) Nx]⟩) (.slice aS S.length cS, .slice aN Nx.length cN, vss, F, vns, G) trivial [7, 8, 9, 10] (by decide) rfl
  · rw [if_pos c0] at hO
    rw [hO]
    repeat(first|refine QV QP ?_|refine QZ ?_|refine qcT rfl ?_|refine qcF rfl ?_|refine E_blockX ?_|refine E_blockO rfl ?_|refine QV (rr_neq (b := true) rfl rfl (decide_eq_true c0)) ?_|refine QV (rr_build rfl hb0) ?_|refine QV QL ?_|refine QV QA ?_|refine QV QlT ?_|refine QV QlF ?_|refine QV QgT ?_|refine QV QgF ?_|refine QV QnT ?_|refine QV QnF ?_|refine QV QaA ?_)
    refine TL_storeB (i := 1) rfl rfl rfl rfl rfl rfl ?_
    conv=>arg 8;simp only[zA,zB,zC,zD,zE,zF,zG,zH,zI,rowS,ret,id_eq]
    repeat(first|refine QV QP ?_|refine QZ ?_|refine qcT rfl ?_|refine qcF rfl ?_|refine E_blockX ?_|refine E_blockO rfl ?_|refine QV QL ?_|refine QV QA ?_|refine QV QlT ?_|refine QV QlF ?_|refine QV QgT ?_|refine QV QgF ?_|refine QV QnT ?_|refine QV QnF ?_|refine QV QaA ?_)
    refine E_nilrow 25 1 (E_extra (elsO (sliceS itS) (fun _ => False) [] []) (fun k hk => hk.elim (fun h => by cases h) id) (fun w => els_nil) (E_nilrow 61 1 (E_extra (elsO (sliceS intS) (fun _ => False) [] []) (fun k hk => hk.elim (fun h => by cases h) id) (fun w => els_nil) ?_)))
    exact E_retc2 (i := 1) rfl rfl rfl rfl rfl fun w hm => hm.meets (S := ⟨fun (_ : Value × Value × List Value × (Nat → Prop) × List Value × (Nat → Prop)) => True, fun x => .tuple #[.agg #[x.1, x.2.1], .int .i64 (checkG g)], fun x => [rowO 25 1 x.1 0 x.2.2.1, elsO (sliceS itS) x.2.2.2.1 (x.2.2.1.map fun v => [v]) [], rowO 61 1 x.2.1 0 x.2.2.2.2.1, elsO (sliceS intS) x.2.2.2.2.2 (x.2.2.2.2.1.map fun v => [v]) []]⟩) (.slice none 0 0, .slice none 0 0, [], fun _ => False, [], fun _ => False) trivial [2, 3, 4, 5] (by decide) rfl
end Go.Proofs.Ytomkjjpdnmcnnaa.eng


/- ItP -/
namespace Go.Proofs.Ytomkjjpdnmcnnaa.itemL
open gramL treeL smallL
section
variable {l : List gramL.Prod} {T N : Nat} {lk : Int → Int → Nat} {Nx : List (List Int)} {S : List (List Item)}
/-- what holds of the first state, and goes on over each step, holds of all -/
theorem row_pred {P : List Item → Prop} (hP : ∀ s x, (∀ it ∈ s, RightI l T it) → P s → P (stepI l T lk s x)) {s : List Item} (hs : ∀ it ∈ s, RightI l T it) (h0 : P s) : ∀ (xs : List Sym) (nx : List Int) (S : List (List Item)) (nx' : List Int) (S' : List (List Item)), (∀ s ∈ S, P s) → rowI l T lk s xs nx S = some (nx', S') → ∀ s ∈ S', P s
  | [], nx, S, nx', S', hS, h => by
    simp only [rowI, Option.some.injEq, Prod.mk.injEq] at h
    obtain ⟨_, rfl⟩ := h
    exact hS
  | x :: xs, nx, S, nx', S', hS, h => by
    rw [rowI] at h
    by_cases c : 200 < (cellI l T lk s x S).2.length
    · rw [if_pos c] at h; cases h
    · rw [if_neg c] at h
      refine row_pred hP hs h0 xs _ _ nx' S' ?_ h
      intro s' hs'
      unfold cellI at hs'
      split at hs'
      · exact hS s' hs'
      · unfold stateI at hs'
        dsimp only at hs'
        split at hs'
        · exact hS s' hs'
        · rcases List.mem_append.1 hs' with h' | h'
          · exact hS s' h'
          · rw [List.mem_singleton.1 h']; exact hP s x hs h0
theorem all_pred {P : List Item → Prop} (hw : ∀ q ∈ l, q.2.length ≤ 8) (hl : l.length ≤ 40) (hT : T ≤ 30) (hP : ∀ s x, (∀ it ∈ s, RightI l T it) → P s → P (stepI l T lk s x)) : ∀ (f n : Nat) (Nx : List (List Int)) (S : List (List Item)) (Nx' : List (List Int)) (S' : List (List Item)), (∀ s ∈ S, P s ∧ ∀ it ∈ s, RightI l T it) → allTo l T N lk f n Nx S = some (Nx', S') → ∀ s ∈ S', P s
  | 0, _, _, _, _, _, _, h => by cases h
  | f + 1, n, Nx, S, Nx', S', hS, h => by
    rw [allTo] at h
    by_cases c : n < S.length
    · rw [if_pos c] at h
      have hget : S.getD n [] = S[n] := by rw [List.getD_eq_getElem?_getD, List.getElem?_eq_getElem c]; rfl
      have hn := hS _ (List.getElem_mem c)
      rw [← hget] at hn
      cases e : rowI l T lk (S.getD n []) (symsI T N) [] S with
      | none => rw [e] at h; cases h
      | some r =>
        obtain ⟨nx, S1⟩ := r
        rw [e] at h
        dsimp only at h
        have hQ : ∀ s x, (∀ it ∈ s, RightI l T it) → (P s ∧ ∀ it ∈ s, RightI l T it) → P (stepI l T lk s x) ∧ ∀ it ∈ stepI l T lk s x, RightI l T it := fun s x h1 h2 => ⟨hP s x h1 h2.1, closed_right hw hl hT (over_right h1)⟩
        exact all_pred hw hl hT hP f (n + 1) _ S1 Nx' S' (row_pred hQ hn.2 hn (symsI T N) [] S nx S1 hS e) h
    · rw [if_neg c] at h
      simp only [Option.some.injEq, Prod.mk.injEq] at h
      obtain ⟨_, rfl⟩ := h
      exact fun s hs => (hS s hs).1
/-- each state has few items -/
theorem all_few (hw : ∀ q ∈ l, q.2.length ≤ 8) (hl : l.length ≤ 40) (hT : T ≤ 30) (h : allI l T N lk = some (Nx, S)) : ∀ s ∈ S, s.length ≤ 11439 :=
  all_pred (P := fun s => s.length ≤ 11439) (N := N) hw hl hT (fun s x hs _ => closed_len hw hl hT (over_right hs)) 202 0 [] [startI l T lk] Nx S (fun s hs => by
    rw [List.mem_singleton.1 hs]
    exact ⟨closed_len hw hl hT (start_right hl hT), closed_right hw hl hT (start_right hl hT)⟩) h
end
end Go.Proofs.Ytomkjjpdnmcnnaa.itemL

/- OutA -/
namespace Go.Proofs.Ytomkjjpdnmcnnaa.eng
open Go.RowKit kit mix gramL treeL factsL itemL smallL
theorem outA_ok {g : Gram} (h : (outA g).2.2 = 0) : checkG g = 0 ∧ allI g.prods g.terms.toNat g.nons.toNat (lkG g) = some ((outA g).1, (outA g).2.1) := by
  unfold outA at h ⊢
  by_cases c : checkG g = 0
  · rw [if_neg (by rw [c]; simp)] at h ⊢
    refine ⟨c, ?_⟩
    cases e : allI g.prods g.terms.toNat g.nons.toNat (lkG g) with
    | none => rw [e] at h; cases h
    | some r => rfl
  · rw [if_pos c] at h; exact absurd h c
theorem outA_no {g : Gram} (h : (outA g).2.2 ≠ 0) : (outA g).2.1 = [] ∧ (outA g).1 = [] := by
  unfold outA at h ⊢
  by_cases c : checkG g = 0
  · rw [if_neg (by rw [c]; simp)] at h ⊢
    cases e : allI g.prods g.terms.toNat g.nons.toNat (lkG g) with
    | none => exact ⟨rfl, rfl⟩
    | some r => rw [e] at h; exact absurd rfl h
  · rw [if_pos c]; exact ⟨rfl, rfl⟩
end Go.Proofs.Ytomkjjpdnmcnnaa.eng


/- LrK -/
namespace Go.Proofs.Ytomkjjpdnmcnnaa.eng
open Go.RowKit kit mix gramL treeL factsL itemL smallL
section
variable {P : Program} {n : Nat} {W : Base} {fr : Fr} {L : List Own} {Q : Exit → Act → World → Prop} {ops : Array Oper} {rest : List Oper} {d : Nat} {ty : TypeId} {pos : String} {after : Array Edge}
/-- 'make([]T, m)', T of some cells: an own row -/
theorem TL_makeRowN {α : Type} {f : α → List Value} {c : Nat} (hc : ∀ a, (f a).length = c) (h0 : 0 < c) (z : α) {t e : TypeId} {x y : Operand} {bytes m : Nat} {k k' : IntKind} {zs : Array Value} [ElC P t e c bytes] [ZeroC P e zs] (hz : zs.toList = f z) (hx : ev fr x = some (.int k (m : Int))) (hy : ev fr y = some (.int k' (m : Int))) (hb : bytes * m ≤ 281474976710656) (h63 : m ≤ 9223372036854775807) (hn : Nat.blt d n = true)
    (h : ∀ g, TL P n W ops Q rest ((d, .slice (some ⟨g, 0, none⟩) m m) :: fr) (L ++ [rowO e c (.slice (some ⟨g, 0, none⟩) m m) m ((List.replicate m z).flatMap f)])) : TL P n W ops Q (⟨some d, .makeSlice t x y, ty, pos, after, none⟩ :: rest) fr L := by
  refine TL_makeB hx hy (Nat.le_refl _) hb h63 hn fun g => TL_toRowN (i := L.length) c (List.getElem?_concat_length ..) (by rw [size_madeCells]) (Nat.le_refl _) h63 ?_
  have hsz : zs.size = c := by rw [← Array.length_toList, hz, hc]
  have hl : (madeCells zs (m * c)).toList.take (m * c) = (List.replicate m z).flatMap f := by
    rw [madeC hsz h0, List.take_of_length_le (by simp [hz, hc]), hz, List.flatMap_def, List.map_replicate]
  rw [hl]
  have := h g
  rwa [List.set_append_right _ _ (Nat.le_refl _), Nat.sub_self, List.set_cons_zero]
end
abbrev Fgt := Int × Int × itemL.Act × itemL.Act
def fgtC (x : Fgt) : List Value := [.int .i64 x.1, .int .i64 x.2.1, .int .i64 x.2.2.1.1, .int .i64 x.2.2.1.2, .int .i64 x.2.2.2.1, .int .i64 x.2.2.2.2]
def actS : Shp itemL.Act := flatS actC 2 (fun _ => rfl) (fun _ => True)
section
variable (l : List gramL.Prod) (T : Nat) (Nx : List (List Int)) (S : List (List itemL.Item))
abbrev actsQ (q c : Nat) : List itemL.Act := actsI l T (S.getD q []) (Nx.getD q []) c
/-- a column's fights -/
def fightsC (q c : Nat) : List Fgt := (actsQ l T Nx S q c).tail.map fun x => ((q : Int), (c : Int), (actsQ l T Nx S q c).headD (0, 0), x)
def fightsR (q : Nat) : Nat → List Fgt
  | 0 => []
  | c + 1 => fightsR q c ++ fightsC l T Nx S q c
def fightsA : Nat → List Fgt
  | 0 => []
  | q + 1 => fightsA q ++ fightsR l T Nx S q (T + 1)
def actRow (q c : Nat) : List itemL.Act := (List.range (T + 1)).map fun j => if j < c then actAt l T Nx S q j else (0, 0)
def actTab (n : Nat) : List (List itemL.Act) := (List.range n).map fun q => actRow l T Nx S q (T + 1)
def gotoTab (n : Nat) : List (List Int) := (List.range n).map fun q => (Nx.getD q []).drop T
end
/-- what Make tells -/
def outT (g : Gram) : List (List itemL.Act) × List (List Int) × List Fgt × Int := if (outA g).2.2 ≠ 0 then ([], [], [], (outA g).2.2) else (actTab g.prods g.terms.toNat (outA g).1 (outA g).2.1 (outA g).2.1.length, gotoTab g.terms.toNat (outA g).1 (outA g).2.1.length, fightsA g.prods g.terms.toNat (outA g).1 (outA g).2.1 (outA g).2.1.length, 0)
/-- tables in memory -/
structure TabX where
  vA : Value
  vas : List Value
  FA : Nat → Prop
  vG : Value
  vgs : List Value
  FG : Nat → Prop
theorem build_tab0 (w : World) : (Instr.build 48 (#[] : Array (Nat × Value))).run Try.prog w = .ok (.agg #[.slice none 0 0, .slice none 0 0]) w := by kernel_rfl
theorem build_fgt (q c : Int) (a b : itemL.Act) (w : World) : (Instr.build 91 #[(0, .int .i64 q), (1, .int .i64 c), (2, .agg (actC a).toArray), (3, .agg (actC b).toArray)]).run Try.prog w = .ok (.agg (fgtC (q, c, a, b)).toArray) w := by kernel_rfl
theorem act_of_row {w : World} {v : Value} {l : List itemL.Act} (h : (rowO 89 2 v l.length (l.flatMap actC)).holds w) : (sliceS actS).is (fun k => v.ownBlock = some k) w [v] l :=
  ⟨v, rfl, SlF.of_flat (Sl.of_own h) (fun _ _ => trivial) (fun _ h => h) (fun a n cp hv => by rw [hv]; rfl)⟩
theorem actRow_len {l : List gramL.Prod} {T : Nat} {Nx : List (List Int)} {S : List (List itemL.Item)} {q c : Nat} : (actRow l T Nx S q c).length = T + 1 := by unfold actRow; rw [List.length_map, List.length_range]
theorem actRow_0 {l : List gramL.Prod} {T : Nat} {Nx : List (List Int)} {S : List (List itemL.Item)} {q : Nat} : actRow l T Nx S q 0 = List.replicate (T + 1) (0, 0) := by
  unfold actRow
  apply List.ext_getElem?
  intro j
  by_cases h : j < T + 1
  · simp [h]
  · simp [h]
theorem actRow_set {l : List gramL.Prod} {T : Nat} {Nx : List (List Int)} {S : List (List itemL.Item)} {q c : Nat} (hc : c < T + 1) : (actRow l T Nx S q c).set c (actAt l T Nx S q c) = actRow l T Nx S q (c + 1) := by
  unfold actRow
  apply List.ext_getElem?
  intro j
  rw [List.getElem?_set]
  by_cases h : j < T + 1
  · by_cases e : c = j
    · subst e; simp [h]
    · rw [if_neg e]
      simp only [List.getElem?_map, List.getElem?_range h, Option.map_some]
      by_cases e2 : j < c
      · rw [if_pos e2, if_pos (by omega)]
      · rw [if_neg e2, if_neg (by omega)]
  · have h1 : (List.range (T + 1))[j]? = none := List.getElem?_eq_none (by rw [List.length_range]; omega)
    simp only [List.getElem?_map, h1, Option.map_none]
    split
    · rename_i e; subst e; exact absurd hc h
    · rfl
theorem actRow_none {l : List gramL.Prod} {T : Nat} {Nx : List (List Int)} {S : List (List itemL.Item)} {q c : Nat} (h : actsQ l T Nx S q c = []) : actRow l T Nx S q (c + 1) = actRow l T Nx S q c := by
  unfold actRow
  apply List.map_congr_left
  intro j hj
  by_cases e : j = c
  · subst e
    rw [if_pos (Nat.lt_succ_self _), if_neg (Nat.lt_irrefl _)]
    unfold actAt
    rw [show actsI l T (S.getD q []) (Nx.getD q []) j = [] from h]; rfl
  · by_cases e2 : j < c
    · rw [if_pos e2, if_pos (by omega)]
    · rw [if_neg e2, if_neg (by omega)]
theorem fights_len {l : List gramL.Prod} {T : Nat} {Nx : List (List Int)} {S : List (List itemL.Item)} {q : Nat} {M : Nat} (h : (S.getD q []).length ≤ M) : ∀ c, (fightsR l T Nx S q c).length ≤ c * (M + 1)
  | 0 => Nat.zero_le _
  | c + 1 => by
    rw [fightsR, List.length_append, Nat.succ_mul]
    have h2 : (fightsC l T Nx S q c).length ≤ M + 1 := by
      unfold fightsC
      rw [List.length_map, List.length_tail]
      have : (actsQ l T Nx S q c).length ≤ 1 + (S.getD q []).length := by rw [actsQ, ← actsK_all]; exact actsK_len
      omega
    have := fights_len (l := l) (T := T) (Nx := Nx) h c
    omega
theorem fightsA_len {l : List gramL.Prod} {T : Nat} {Nx : List (List Int)} {S : List (List itemL.Item)} {M : Nat} (h : ∀ q, (S.getD q []).length ≤ M) : ∀ q, (fightsA l T Nx S q).length ≤ q * ((T + 1) * (M + 1))
  | 0 => Nat.zero_le _
  | q + 1 => by
    rw [fightsA, List.length_append, Nat.succ_mul]
    have := fightsA_len (l := l) (T := T) (Nx := Nx) h q
    have := fights_len (l := l) (T := T) (Nx := Nx) (h q) (T + 1)
    omega
theorem fightsR_mono {l : List gramL.Prod} {T : Nat} {Nx : List (List Int)} {S : List (List itemL.Item)} {q c : Nat} : ∀ {d : Nat}, c ≤ d → (fightsR l T Nx S q c).length ≤ (fightsR l T Nx S q d).length
  | 0, h => by obtain rfl : c = 0 := by omega
               exact Nat.le_refl _
  | d + 1, h => by
    by_cases e : c = d + 1
    · subst e; exact Nat.le_refl _
    · rw [fightsR, List.length_append]
      have := fightsR_mono (l := l) (T := T) (Nx := Nx) (S := S) (q := q) (c := c) (d := d) (by omega)
      omega
theorem actTab_succ {l : List gramL.Prod} {T : Nat} {Nx : List (List Int)} {S : List (List itemL.Item)} (n : Nat) : actTab l T Nx S (n + 1) = actTab l T Nx S n ++ [actRow l T Nx S n (T + 1)] := by unfold actTab; rw [List.range_succ, List.map_append]; rfl
theorem actTab_len {l : List gramL.Prod} {T : Nat} {Nx : List (List Int)} {S : List (List itemL.Item)} (n : Nat) : (actTab l T Nx S n).length = n := by unfold actTab; rw [List.length_map, List.length_range]
theorem gotoTab_len {T : Nat} {Nx : List (List Int)} (n : Nat) : (gotoTab T Nx n).length = n := by unfold gotoTab; rw [List.length_map, List.length_range]
end Go.Proofs.Ytomkjjpdnmcnnaa.eng


/- LrKW -/
namespace Go.Proofs.Ytomkjjpdnmcnnaa.eng
open Go.RowKit kit mix gramL treeL factsL itemL smallL
/-- tables in memory, as far as who writes over them wants to know -/
def makeWS (g : Gram) : Spec (TabX × Value) := ⟨fun x => ∃ a n c, x.1.vA = .slice a n c, fun x => .tuple #[.agg #[x.1.vA, x.1.vG], x.2, .int .i64 (outT g).2.2.2], fun x => [rowO 61 1 x.1.vG (outT g).2.1.length x.1.vgs, wrG 3 1 x.1.FG x.1.vgs]⟩
set_option maxHeartbeats 16000000 in
theorem lrMakeW_calls (v : Value) (g : Gram) (w : World) (hG : GraR (fun k => k < w.heap.size) w v g) :
    Calls Try.prog 11 #[v] w (Meets (makeWS g) w) := by
  have hG0 := hG
  have hal := fun w' (hg : Gr w w') => all_calls v g w' (hG.gr hg)
  have hac := fun T hTt hT bS oS lS cS bN oN lN cN n vs1 vn1 s nx w' (hg : Gr w w') => lrActs_calls v g T hTt hT bS oS lS cS bN oN lN cN n vs1 vn1 s nx w' (hG.gr hg)
  obtain ⟨vp, rfl, -⟩ := hG
  have hb0 := build_tab0
  have hO : outT g = if (outA g).2.2 ≠ 0 then ([], [], [], (outA g).2.2) else (actTab g.prods g.terms.toNat (outA g).1 (outA g).2.1 (outA g).2.1.length, gotoTab g.terms.toNat (outA g).1 (outA g).2.1.length, fightsA g.prods g.terms.toNat (outA g).1 (outA g).2.1 (outA g).2.1.length, 0) := rfl
  unfold makeWS
  refine enter (args := [graV g.terms g.nons vp]) (n := 92) Try.func11 rfl rfl rfl ?_
  refine T_seq (T_region (TL_box rfl rfl rfl fun g1 => ?_))
  conv=>arg 8;simp only[zA,zB,zC,zD,zE,zF,zG,zH,zI,rowS,ret,id_eq]
  repeat(first|refine QV QP ?_|refine QZ ?_|refine qcT rfl ?_|refine qcF rfl ?_|refine E_blockX ?_|refine E_blockO rfl ?_|refine QV QL ?_|refine QV QA ?_|refine QV QlT ?_|refine QV QlF ?_|refine QV QeT ?_|refine QV QeF ?_|refine QV QnT ?_|refine QV QnF ?_|refine QV QaA ?_)
  refine TL_new rfl fun g2 => ?_
  conv=>arg 8;simp only[zA,zB,zC,zD,zE,zF,zG,zH,zI,rowS,ret,id_eq]
  repeat(first|refine QV QP ?_|refine QZ ?_|refine qcT rfl ?_|refine qcF rfl ?_|refine E_blockX ?_|refine E_blockO rfl ?_|refine QV (rr_loadB (i := 0) TyC.ty rfl rfl rfl) ?_|refine QV QL ?_|refine QV QA ?_|refine QV QlT ?_|refine QV QlF ?_|refine QV QeT ?_|refine QV QeF ?_|refine QV QnT ?_|refine QV QnF ?_|refine QV QaA ?_)
  refine TL_call (he1 EntersC.en rfl rfl) (fun w hm => hal w hm.below) rfl rfl rfl ?_
  rintro ⟨vS, vN, vss, F, vns, FN⟩ _
  conv=>arg 8;simp only[zA,zB,zC,zD,zE,zF,zG,zH,zI,rowS,ret,id_eq, allS]
  conv => arg 7; simp only [allS]
  have hok := outA_ok (g := g)
  have hno := outA_no (g := g)
  obtain ⟨⟨Nx, S, e⟩, hOA⟩ : ∃ R, outA g = R := ⟨_, rfl⟩
  rw [hOA] at hok hno hO
  rw [hOA]
  dsimp only at hok hno hO ⊢
  refine TL_know (i := 2) rfl row_slm fun hrow => ?_
  obtain ⟨aS, cS, rfl, -, haS⟩ := hrow
  refine TL_know (i := 4) rfl row_slm fun hrow => ?_
  obtain ⟨aN, cN, rfl, -, haN⟩ := hrow
  clear hOA hal
  repeat(first|refine QV QP ?_|refine QZ ?_|refine qcT rfl ?_|refine qcF rfl ?_|refine E_blockX ?_|refine E_blockO rfl ?_|refine QV QL ?_|refine QV QA ?_|refine QV QlT ?_|refine QV QlF ?_|refine QV QeT ?_|refine QV QeF ?_|refine QV QnT ?_|refine QV QnF ?_|refine QV QaA ?_)
  refine TL_new rfl fun g5 => ?_
  conv=>arg 8;simp only[zA,zB,zC,zD,zE,zF,zG,zH,zI,rowS,ret,id_eq]
  refine TL_storeB (i := 6) (cs' := #[.slice aS S.length cS, .slice aN Nx.length cN]) rfl rfl rfl rfl rfl rfl ?_
  conv=>arg 8;simp only[zA,zB,zC,zD,zE,zF,zG,zH,zI,rowS,ret,id_eq]
  repeat(first|refine QV QP ?_|refine QZ ?_|refine qcT rfl ?_|refine qcF rfl ?_|refine E_blockX ?_|refine E_blockO rfl ?_|refine QV QL ?_|refine QV QA ?_|refine QV QlT ?_|refine QV QlF ?_|refine QV QeT ?_|refine QV QeF ?_|refine QV QnT ?_|refine QV QnF ?_|refine QV QaA ?_)
  by_cases c0 : e = 0
  · subst c0
    rw [if_neg (by simp)] at hO
    obtain ⟨hg, hA⟩ := hok rfl
    obtain ⟨hT1, hT2, hN1, hN2, hpl, hgb⟩ := checkG_ok hg
    have hwl : ∀ q ∈ g.prods, q.2.length ≤ 8 := fun q hq => (hgb q hq).1
    obtain ⟨T, hTt⟩ : ∃ T : Nat, g.terms = (T : Int) := ⟨g.terms.toNat, by omega⟩
    obtain ⟨N, hNn⟩ : ∃ N : Nat, g.nons = (N : Int) := ⟨g.nons.toNat, by omega⟩
    have hTn : g.terms.toNat = T := by omega
    rw [hTn, show g.nons.toNat = N by omega] at hA
    rw [hTn] at hO
    have hT : T ≤ 30 := by omega
    have hI := allI_law hwl hpl hT hA
    have hfew := all_few hwl hpl hT hA
    have hS0 : 0 < S.length := (List.getElem?_eq_some_iff.1 hI.start).1
    have hS2 := hI.few
    have hNl := hI.len
    have hac := hac T hTt hT
    obtain ⟨gS, rfl⟩ := haS hS0
    obtain ⟨gN, rfl⟩ := haN (by omega)
    clear hok hno haS haN
    rw [hTt, hO]
    rw [hTt] at hac
    repeat(first|refine QV QP ?_|refine QZ ?_|refine qcT rfl ?_|refine qcF rfl ?_|refine E_blockX ?_|refine E_blockO rfl ?_|refine QV QL ?_|refine QV QA ?_|refine QV QlT ?_|refine QV QlF ?_|refine QV QeT ?_|refine QV QeF ?_|refine QV QnT ?_|refine QV QnF ?_|refine QV QaA ?_)
    refine TL_new rfl fun g7 => ?_
    conv=>arg 8;simp only[zA,zB,zC,zD,zE,zF,zG,zH,zI,rowS,ret,id_eq]
    repeat(first|refine QV QP ?_|refine QZ ?_|refine qcT rfl ?_|refine qcF rfl ?_|refine E_blockX ?_|refine E_blockO rfl ?_|refine QV (rr_load1 (v := .slice (some ⟨gS, 0, none⟩) S.length cS) TyC.ty rfl (at_blk (i := 6) rfl rfl)) ?_|refine QV QL ?_|refine QV QA ?_|refine QV QlT ?_|refine QV QlF ?_|refine QV QeT ?_|refine QV QeF ?_|refine QV QnT ?_|refine QV QnF ?_|refine QV QaA ?_)
    refine T_nil 87 1 (T_extra (elsO (sliceS actS) (fun _ => False) [] []) (fun k hk => hk.elim (fun h => by cases h) id) (fun w => els_nil) (T_nil 61 1 (T_extra (wrG 3 1 (fun _ => False) []) (fun k hk => hk.elim (fun h => by cases h) id) wr_nil (T_nil 91 6 ?_))))
    conv => arg 7; simp only [zA, zB, zC, zD, zE, zF, zG, zH, zI, rowS, ret, id_eq]
    refine T_loop (ι := Nat × TabX × Value) (fun (n, _, _) => n ≤ S.length) (fun (n, _, vf) => [(1, .pointer (some ⟨g1, 0, none⟩)), (2, .pointer (some ⟨g2, 0, none⟩)), (5, .pointer (some ⟨g5, 0, none⟩)), (7, .pointer (some ⟨g7, 0, none⟩)), (8, vf), (26, .int .i64 (S.length : Int)), (27, .int .i64 (n : Int))])
      (fun (n, x, vf) => [blkO g1 (graV (T : Int) g.nons vp).cells 24, blkO g2 #[.slice none 0 0, .slice none 0 0] 48, rowO 25 1 (.slice (some ⟨gS, 0, none⟩) S.length cS) S.length vss, elsO (sliceS itS) F (vss.map fun v => [v]) S, rowO 61 1 (.slice (some ⟨gN, 0, none⟩) Nx.length cN) Nx.length vns, elsO (sliceS intS) FN (vns.map fun v => [v]) Nx, blkO g5 #[.slice (some ⟨gS, 0, none⟩) S.length cS, .slice (some ⟨gN, 0, none⟩) Nx.length cN] 84, blkO g7 #[x.vA, x.vG] 48, rowO 87 1 x.vA (actTab g.prods T Nx S n).length x.vas, elsO (sliceS actS) x.FA (x.vas.map fun v => [v]) (actTab g.prods T Nx S n), rowO 61 1 x.vG (gotoTab T Nx n).length x.vgs, wrG 3 1 x.FG x.vgs, rowO 91 6 vf (fightsA g.prods T Nx S n).length ((fightsA g.prods T Nx S n).flatMap fgtC)]) (fun (n, _, _) => S.length - n) (0, ⟨.slice none 0 0, [], fun _ => False, .slice none 0 0, [], fun _ => False⟩, .slice none 0 0) (Nat.zero_le _) (by repeat' (first | exact True.intro | refine And.intro rfl ?_)) rfl ?_
    rintro ⟨n, x, vf⟩ i1
    dsimp only at i1 ⊢
    by_cases c1 : n < S.length
    · have hnN : n < Nx.length := by omega
      have hSn : S.getD n [] = S[n] := by rw [List.getD_eq_getElem?_getD, List.getElem?_eq_getElem c1]; rfl
      have hNn' : Nx.getD n [] = Nx[n] := by rw [List.getD_eq_getElem?_getD, List.getElem?_eq_getElem hnN]; rfl
      have hsr := hI.ss.right S[n] (List.getElem_mem c1)
      have hwd := hI.wide n c1
      rw [hNn'] at hwd
      have hsl := hfew S[n] (List.getElem_mem c1)
      refine T_know (i := 3) rfl (fun w h => els_count h) fun hvl => ?_
      refine T_know (i := 5) rfl (fun w h => els_count h) fun hnl => ?_
      have hvq : vss[0 + n]? = some (vss[n]'(by omega)) := by rw [Nat.zero_add]; exact List.getElem?_eq_getElem _
      have hvq2 : vss[n]? = some (vss[n]'(by omega)) := List.getElem?_eq_getElem _
      generalize vss[n]'(by omega) = vq at hvq hvq2
      have hnq : vns[0 + n]? = some (vns[n]'(by omega)) := by rw [Nat.zero_add]; exact List.getElem?_eq_getElem _
      have hnq2 : vns[n]? = some (vns[n]'(by omega)) := List.getElem?_eq_getElem _
      generalize vns[n]'(by omega) = nq at hnq hnq2
      refine T_know (i := 5) rfl (fun w h => And.intro (els_form h hnN hnq2) (SlF.okp (els_is h hnN hnq2))) fun hform => ?_
      obtain ⟨⟨aq, cq, rfl, hcq, hcq2, -⟩, hoks⟩ := hform
      have hfl : (fightsA g.prods T Nx S n ++ fightsR g.prods T Nx S n (T + 1)).length ≤ 100000000 := by
        have h1 := fightsA_len (l := g.prods) (T := T) (Nx := Nx) (S := S) (M := 11439) (fun q => by
          by_cases hq : q < S.length
          · rw [List.getD_eq_getElem?_getD, List.getElem?_eq_getElem hq]; exact hfew _ (List.getElem_mem hq)
          · rw [List.getD_eq_getElem?_getD, List.getElem?_eq_none (by omega)]; exact Nat.zero_le _) (n + 1)
        rw [fightsA] at h1
        exact Nat.le_trans h1 (Nat.le_trans (Nat.mul_le_mul (show n + 1 ≤ 200 by omega) (Nat.mul_le_mul (show T + 1 ≤ 31 by omega) (Nat.le_refl _))) (by decide))
      have hS1 := fun (L : List Own) (i : Nat) (hL : L[i]? = some (elsO (sliceS itS) F (vss.map fun v => [v]) S)) => els_sl (W := (w : Base)) (L := L) (f := itC) (c := 3) (by decide) hL c1 hvq2
      have hN1 : ∀ (L : List Own) (i : Nat) (hL : L[i]? = some (elsO (sliceS intS) FN (vns.map fun v => [v]) Nx)), SlL (w : Base) L (.slice aq Nx[n].length cq) Nx[n].length (Nx[n].map (Value.int .i64)) := fun L i hL w' hm' => by
        have := els_sl (W := (w : Base)) (L := L) (f := fun n => [Value.int .i64 n]) (c := 1) (by decide) hL hnN hnq2 w' hm'
        rwa [← List.map_eq_flatMap] at this
      repeat(first|refine QV QP ?_|refine QZ ?_|refine qcT rfl ?_|refine qcF rfl ?_|refine E_blockX ?_|refine E_blockO rfl ?_|refine QV (rr_load1 (v := .int .i64 (T : Int)) TyC.ty rfl (at_blk (i := 0) rfl rfl)) ?_|refine QV (rr_add64 (r := ((T + 1 : Nat) : Int)) rfl rfl (by omega) (by omega) (by omega)) ?_|refine QV QL ?_|refine QV QA ?_|refine QV QlT ?_|refine QV QlF ?_|refine QV QeT ?_|refine QV QeF ?_|refine QV QnT ?_|refine QV QnF ?_|refine QV QaA ?_)
      refine TL_makeRowN actC_len (by decide) (0, 0) rfl rfl rfl (by omega) (by omega) rfl fun g10 => ?_
      rw [← actRow_0 (l := g.prods) (Nx := Nx) (S := S) (q := n)]
      conv=>arg 8;simp only[zA,zB,zC,zD,zE,zF,zG,zH,zI,rowS,ret,id_eq]
      repeat(first|refine QV QP ?_|refine QZ ?_|refine qcT rfl ?_|refine qcF rfl ?_|refine E_blockX ?_|refine E_blockO rfl ?_|refine QV (rr_loadB (i := 0) TyC.ty rfl rfl rfl) ?_|refine QV (rr_loadB (i := 6) TyC.ty rfl rfl rfl) ?_|refine QV QL ?_|refine QV QA ?_|refine QV QlT ?_|refine QV QlF ?_|refine QV QeT ?_|refine QV QeF ?_|refine QV QnT ?_|refine QV QnF ?_|refine QV QaA ?_)
      refine TL_call (S := actsS T (actsI g.prods T S[n] Nx[n])) (he3 EntersC.en rfl rfl rfl rfl) (fun w hm => hac gS 0 S.length cS gN 0 Nx.length cN n vq (.slice aq Nx[n].length cq) S[n] Nx[n] w hm.below hpl c1 (row_cell (hm.get (i := 2) rfl) hvq) (hS1 _ 3 rfl w hm) hnN (row_cell (hm.get (i := 4) rfl) hnq) (hN1 _ 5 rfl w hm) (by omega) hsr (by omega) (by omega)) rfl rfl rfl ?_
      rintro ⟨ga, vs⟩ _
      conv=>arg 8;simp only[zA,zB,zC,zD,zE,zF,zG,zH,zI,rowS,ret,id_eq, actsS]
      conv => arg 7; simp only [actsS]
      rw [← hSn, ← hNn']
      clear hac
      repeat(first|refine QV QP ?_|refine QZ ?_|refine qcT rfl ?_|refine qcF rfl ?_|refine E_blockX ?_|refine E_blockO rfl ?_|refine QV QL ?_|refine QV QA ?_|refine QV QlT ?_|refine QV QlF ?_|refine QV QeT ?_|refine QV QeF ?_|refine QV QnT ?_|refine QV QnF ?_|refine QV QaA ?_)
      refine T_loop (ι := Nat × Value) (fun (c, _) => c ≤ T + 1) (fun (c, vf) => [(1, .pointer (some ⟨g1, 0, none⟩)), (2, .pointer (some ⟨g2, 0, none⟩)), (5, .pointer (some ⟨g5, 0, none⟩)), (7, .pointer (some ⟨g7, 0, none⟩)), (8, vf), (26, .int .i64 (S.length : Int)), (27, .int .i64 (n : Int)), (9, .int .i64 (n : Int)), (10, .slice (some ⟨g10, 0, none⟩) (T + 1) (T + 1)), (37, .slice (some ⟨ga, 0, none⟩) (T + 1) (T + 1)), (38, .int .i64 ((T + 1 : Nat) : Int)), (39, .int .i64 (c : Int))])
        (fun (c, vf) => [blkO g1 (graV (T : Int) g.nons vp).cells 24, blkO g2 #[.slice none 0 0, .slice none 0 0] 48, rowO 25 1 (.slice (some ⟨gS, 0, none⟩) S.length cS) S.length vss, elsO (sliceS itS) F (vss.map fun v => [v]) S, rowO 61 1 (.slice (some ⟨gN, 0, none⟩) Nx.length cN) Nx.length vns, elsO (sliceS intS) FN (vns.map fun v => [v]) Nx, blkO g5 #[.slice (some ⟨gS, 0, none⟩) S.length cS, .slice (some ⟨gN, 0, none⟩) Nx.length cN] 84, blkO g7 #[x.vA, x.vG] 48, rowO 87 1 x.vA (actTab g.prods T Nx S n).length x.vas, elsO (sliceS actS) x.FA (x.vas.map fun v => [v]) (actTab g.prods T Nx S n), rowO 61 1 x.vG (gotoTab T Nx n).length x.vgs, wrG 3 1 x.FG x.vgs, rowO 91 6 vf (fightsA g.prods T Nx S n ++ fightsR g.prods T Nx S n c).length ((fightsA g.prods T Nx S n ++ fightsR g.prods T Nx S n c).flatMap fgtC), rowO 89 2 (.slice (some ⟨g10, 0, none⟩) (T + 1) (T + 1)) (T + 1) ((actRow g.prods T Nx S n c).flatMap actC), rowA 87 vals ga (T + 1) vs, famP (fun j => j < T + 1) (actF vs (actsI g.prods T (S.getD n []) (Nx.getD n [])))]) (fun (c, _) => T + 1 - c) (0, vf) (Nat.zero_le _) (by repeat' (first | exact True.intro | refine And.intro rfl ?_)) (by dsimp only; rw [fightsR, List.append_nil]) ?_
      rintro ⟨c, vf⟩ j1
      dsimp only at j1 ⊢
      by_cases c2 : c < T + 1
      · obtain ⟨X, hX⟩ : ∃ X, actsI g.prods T (S.getD n []) (Nx.getD n []) c = X := ⟨_, rfl⟩
        have hXl : X.length ≤ 11440 := by
          rw [← hX, ← actsK_all]
          have := actsK_len (l := g.prods) (T := T) (nx := Nx.getD n []) (t := T) (s := S.getD n []) (c := c)
          rw [hSn] at this ⊢; omega
        have hrow1 := actRow_set (l := g.prods) (Nx := Nx) (S := S) (q := n) c2
        have hrow0 : X = [] → actRow g.prods T Nx S n (c + 1) = actRow g.prods T Nx S n c := fun h => actRow_none (by unfold actsQ; rw [hX, h])
        have hhd : actAt g.prods T Nx S n c = X.headD (0, 0) := by unfold actAt; rw [hX]
        have hfs : fightsR g.prods T Nx S n (c + 1) = fightsR g.prods T Nx S n c ++ X.tail.map fun x => (((n : Int), (c : Int), X.headD (0, 0), x) : Fgt) := by
          rw [fightsR, fightsC]; unfold actsQ; rw [hX]
        have hfl2 : (fightsA g.prods T Nx S n ++ fightsR g.prods T Nx S n c).length ≤ 100000000 := by
          rw [List.length_append] at hfl ⊢
          have := fightsR_mono (l := g.prods) (T := T) (Nx := Nx) (S := S) (q := n) (show c ≤ T + 1 by omega)
          omega
        generalize hbase : fightsA g.prods T Nx S n ++ fightsR g.prods T Nx S n c = base at *
        refine T_know (i := 15) rfl (fun w h => row_slm w (h.1 c c2)) fun hrow => ?_
        obtain ⟨ax, cx, hvc, -, hax⟩ := hrow
        rw [hX] at hvc hax
        have hat15 : ∀ (L : List Own) (i : Nat) (gx : Nat), ax = some ⟨gx, 0, none⟩ → L[i]? = some (famP (fun j => j < T + 1) (actF vs (actsI g.prods T (S.getD n []) (Nx.getD n [])))) → ∀ k (hk : k < X.length) (j : Nat) (u : Value), (actC X[k])[j]? = some u → At (w : Base) L ⟨gx, 0 + k * 2 + j, none⟩ u := fun L i gx hgx hL k hk j u hu => at_hold hL fun w h => by
          have h2 := h.1 c c2
          unfold actF at h2
          rw [hvc, hX, hgx] at h2
          have hj2 : j < 2 := by rw [← actC_len X[k]]; exact (List.getElem?_eq_some_iff.1 hu).1
          exact row_cell h2 (by rw [Nat.zero_add, get_el actC_len X k j hk hj2]; exact hu)
        repeat(first|refine QV QP ?_|refine QZ ?_|refine qcT rfl ?_|refine qcF rfl ?_|refine E_blockX ?_|refine E_blockO rfl ?_|refine QV (rr_idx1 Und.eq TyC.ty rfl rfl c2) ?_|refine QV (rr_load1 (v := .slice ax X.length cx) TyC.ty rfl (by have := at_rowA (W := (w : Base)) (val := vals) (i := 14) (f := vs) (e := 87) (g := ga) (len := T + 1) (L := [blkO g1 (graV (T : Int) g.nons vp).cells 24, blkO g2 #[.slice none 0 0, .slice none 0 0] 48, rowO 25 1 (.slice (some ⟨gS, 0, none⟩) S.length cS) S.length vss, elsO (sliceS itS) F (vss.map fun v => [v]) S, rowO 61 1 (.slice (some ⟨gN, 0, none⟩) Nx.length cN) Nx.length vns, elsO (sliceS intS) FN (vns.map fun v => [v]) Nx, blkO g5 #[.slice (some ⟨gS, 0, none⟩) S.length cS, .slice (some ⟨gN, 0, none⟩) Nx.length cN] 84, blkO g7 #[x.vA, x.vG] 48, rowO 87 1 x.vA (actTab g.prods T Nx S n).length x.vas, elsO (sliceS actS) x.FA (x.vas.map fun v => [v]) (actTab g.prods T Nx S n), rowO 61 1 x.vG (gotoTab T Nx n).length x.vgs, wrG 3 1 x.FG x.vgs, rowO 91 6 vf (base).length ((base).flatMap fgtC), rowO 89 2 (.slice (some ⟨g10, 0, none⟩) (T + 1) (T + 1)) (T + 1) ((actRow g.prods T Nx S n c).flatMap actC), rowA 87 vals ga (T + 1) vs, famP (fun j => j < T + 1) (actF vs (actsI g.prods T (S.getD n []) (Nx.getD n [])))]) rfl c2; rw [hvc] at this; exact this)) ?_|refine QV QL ?_|refine QV QA ?_|refine QV QlT ?_|refine QV QlF ?_|refine QV QeT ?_|refine QV QeF ?_|refine QV QnT ?_|refine QV QnF ?_|refine QV QaA ?_)
        refine T_loop (ι := Nat × Value) (fun (i, _) => i ≤ X.length) (fun (i, vf) => [(1, .pointer (some ⟨g1, 0, none⟩)), (2, .pointer (some ⟨g2, 0, none⟩)), (5, .pointer (some ⟨g5, 0, none⟩)), (7, .pointer (some ⟨g7, 0, none⟩)), (8, vf), (26, .int .i64 (S.length : Int)), (27, .int .i64 (n : Int)), (9, .int .i64 (n : Int)), (10, .slice (some ⟨g10, 0, none⟩) (T + 1) (T + 1)), (37, .slice (some ⟨ga, 0, none⟩) (T + 1) (T + 1)), (38, .int .i64 ((T + 1 : Nat) : Int)), (11, .int .i64 (c : Int)), (12, .slice ax X.length cx), (39, .int .i64 (c : Int)), (44, .slice ax X.length cx), (45, .int .i64 (X.length : Int)), (46, .int .i64 (i : Int))])
          (fun (i, vf) => [blkO g1 (graV (T : Int) g.nons vp).cells 24, blkO g2 #[.slice none 0 0, .slice none 0 0] 48, rowO 25 1 (.slice (some ⟨gS, 0, none⟩) S.length cS) S.length vss, elsO (sliceS itS) F (vss.map fun v => [v]) S, rowO 61 1 (.slice (some ⟨gN, 0, none⟩) Nx.length cN) Nx.length vns, elsO (sliceS intS) FN (vns.map fun v => [v]) Nx, blkO g5 #[.slice (some ⟨gS, 0, none⟩) S.length cS, .slice (some ⟨gN, 0, none⟩) Nx.length cN] 84, blkO g7 #[x.vA, x.vG] 48, rowO 87 1 x.vA (actTab g.prods T Nx S n).length x.vas, elsO (sliceS actS) x.FA (x.vas.map fun v => [v]) (actTab g.prods T Nx S n), rowO 61 1 x.vG (gotoTab T Nx n).length x.vgs, wrG 3 1 x.FG x.vgs, rowO 91 6 vf ((base ++ (X.tail.take (i - 1)).map fun x => (((n : Int), (c : Int), X.headD (0, 0), x) : Fgt))).length (((base ++ (X.tail.take (i - 1)).map fun x => (((n : Int), (c : Int), X.headD (0, 0), x) : Fgt))).flatMap fgtC), rowO 89 2 (.slice (some ⟨g10, 0, none⟩) (T + 1) (T + 1)) (T + 1) ((if i = 0 then actRow g.prods T Nx S n c else actRow g.prods T Nx S n (c + 1)).flatMap actC), rowA 87 vals ga (T + 1) vs, famP (fun j => j < T + 1) (actF vs (actsI g.prods T (S.getD n []) (Nx.getD n [])))]) (fun (i, _) => X.length - i) (0, vf) (Nat.zero_le _) (by repeat' (first | exact True.intro | refine And.intro rfl ?_)) (by simp) ?_
        rintro ⟨i, vf⟩ k1
        dsimp only at k1 ⊢
        by_cases c3 : i < X.length
        · have hatX := fun (L : List Own) (k : Nat) (gx : Nat) (hgx : ax = some ⟨gx, 0, none⟩) (hL : L[k]? = some (famP (fun j => j < T + 1) (actF vs (actsI g.prods T (S.getD n []) (Nx.getD n []))))) => hat15 L k gx hgx hL i c3
          obtain ⟨gx, rfl⟩ := hax (by omega)
          have hat0 : ∀ (L : List Own) (k : Nat), L[k]? = some (famP (fun j => j < T + 1) (actF vs (actsI g.prods T (S.getD n []) (Nx.getD n [])))) → ∀ (j : Nat) (u : Value), (actC (X.headD (0, 0)))[j]? = some u → At (w : Base) L ⟨gx, 0 + 0 * 2 + j, none⟩ u := fun L k hL j u hu => hat15 L k gx rfl hL 0 (by omega) j u (by
            have : X.headD (0, 0) = X[0]'(by omega) := by
              cases X with
              | nil => exact absurd c3 (Nat.not_lt_zero _)
              | cons y r => rfl
            rwa [this] at hu)
          have hXi : i = 0 → X[i] = actAt g.prods T Nx S n c := fun e => by
            subst e
            rw [hhd]
            cases X with
            | nil => exact absurd c3 (Nat.not_lt_zero _)
            | cons y r => rfl
          have hXt : i ≠ 0 → X.tail.take (i + 1 - 1) = X.tail.take (i - 1) ++ [X[i]] := fun e => by
            obtain ⟨m, rfl⟩ : ∃ m, i = m + 1 := ⟨i - 1, by omega⟩
            cases X with
            | nil => exact absurd c3 (Nat.not_lt_zero _)
            | cons y r =>
              have hm : m < r.length := by simpa using c3
              show r.take (m + 1) = r.take m ++ [r[m]]
              exact List.take_succ_eq_append_getElem hm
          have hlenF : (base ++ (X.tail.take (i - 1)).map fun x => (((n : Int), (c : Int), X.headD (0, 0), x) : Fgt)).length ≤ 100100000 := by
            rw [List.length_append, List.length_map, List.length_take, List.length_tail]; omega
          have hbf := build_fgt (n : Int) (c : Int) (X.headD (0, 0))
          generalize hXX : X[i] = xa at *
          clear hat15 hS1 hN1
          repeat(first|refine QV QP ?_|refine QZ ?_|refine qcT rfl ?_|refine qcF rfl ?_|refine E_blockX ?_|refine E_blockO rfl ?_|refine QV (rr_idxc Und.eq TyC.ty rfl rfl c3) ?_|refine QV (rr_loadN (cs := actC xa) TyC.ty rfl rfl (hatX _ 15 gx rfl rfl)) ?_|refine QV QL ?_|refine QV QA ?_|refine QV QlT ?_|refine QV QlF ?_|refine QV QeT ?_|refine QV QeF ?_|refine QV QnT ?_|refine QV QnF ?_|refine QV QaA ?_)
          refine TL_new rfl fun g14 => ?_
          conv=>arg 8;simp only[zA,zB,zC,zD,zE,zF,zG,zH,zI,rowS,ret,id_eq]
          repeat(first|refine QV QP ?_|refine QZ ?_|refine qcT rfl ?_|refine qcF rfl ?_|refine E_blockX ?_|refine E_blockO rfl ?_|refine QV QL ?_|refine QV QA ?_|refine QV QlT ?_|refine QV QlF ?_|refine QV QeT ?_|refine QV QeF ?_|refine QV QnT ?_|refine QV QnF ?_|refine QV QaA ?_)
          refine TL_storeB (i := 16) (cs' := (actC xa).toArray) rfl rfl rfl rfl rfl rfl ?_
          conv=>arg 8;simp only[zA,zB,zC,zD,zE,zF,zG,zH,zI,rowS,ret,id_eq]
          by_cases q1 : i = 0
          · subst q1
            rw [if_pos rfl]
            have hXi := hXi rfl
            repeat(first|refine QV QP ?_|refine QZ ?_|refine qcT rfl ?_|refine qcF rfl ?_|refine E_blockX ?_|refine E_blockO rfl ?_|refine QV (rr_loadB (i := 16) TyC.ty rfl rfl rfl) ?_|refine QV (rr_idxc Und.eq TyC.ty rfl rfl c2) ?_|refine QV QL ?_|refine QV QA ?_|refine QV QlT ?_|refine QV QlF ?_|refine QV QeT ?_|refine QV QeF ?_|refine QV QnT ?_|refine QV QnF ?_|refine QV QaA ?_)
            refine TL_setRow actC_len (k := c) (a := xa) (i := 13) TyC.ty rfl rfl (by omega) (by rw [actRow_len]; exact c2) actRow_len.symm rfl rfl rfl ?_
            rw [hXi, hrow1]
            conv=>arg 8;simp only[zA,zB,zC,zD,zE,zF,zG,zH,zI,rowS,ret,id_eq]
            repeat(first|refine QV QP ?_|refine QZ ?_|refine qcT rfl ?_|refine qcF rfl ?_|refine E_blockX ?_|refine E_blockO rfl ?_|refine QV QL ?_|refine QV QA ?_|refine QV QlT ?_|refine QV QlF ?_|refine QV QeT ?_|refine QV QeF ?_|refine QV QnT ?_|refine QV QnF ?_|refine QV QaA ?_)
            refine E_pick [0, 1, 2, 3, 4, 5, 6, 7, 8, 9, 10, 11, 12, 13, 14, 15] (by decide) rfl ?_
            exact E_round (0 + 1, vf) (by show 0 + 1 ≤ X.length; omega) (by show X.length - (0 + 1) < X.length - 0; omega) (by repeat' (first | exact True.intro | refine And.intro rfl ?_)) (by dsimp only; rw [if_neg (by omega)]; rfl)
          · rw [if_neg q1]
            have hnext : base ++ (X.tail.take (i + 1 - 1)).map (fun x => (((n : Int), (c : Int), X.headD (0, 0), x) : Fgt)) = (base ++ (X.tail.take (i - 1)).map fun x => (((n : Int), (c : Int), X.headD (0, 0), x) : Fgt)) ++ [((n : Int), (c : Int), X.headD (0, 0), xa)] := by rw [hXt q1, List.map_append, ← List.append_assoc]; rfl
            clear hXt
            generalize (base ++ (X.tail.take (i - 1)).map fun x => (((n : Int), (c : Int), X.headD (0, 0), x) : Fgt)) = fb at *
            repeat(first|refine QV QP ?_|refine QZ ?_|refine qcT rfl ?_|refine qcF rfl ?_|refine E_blockX ?_|refine E_blockO rfl ?_|refine QV QL ?_|refine QV QA ?_|refine QV QlT ?_|refine QV QlF ?_|refine QV QeT ?_|refine QV QeF ?_|refine QV QnT ?_|refine QV QnF ?_|refine QV QaA ?_)
            refine T_ord ([famP (fun j => j < T + 1) (actF vs (actsI g.prods T (S.getD n []) (Nx.getD n []))), blkO g14 (actC xa).toArray 89]) (.calm 0 (.calm 1 (.calm 2 (.calm 3 (.calm 4 (.calm 5 (.calm 6 (.calm 7 (.one 8 (.one 9 (.calm 10 (.done)))))))))))) (sub_pick [15, 16] (by decide) rfl) (by kernel_rfl) (by kernel_rfl) (by intro c a d v w h; cases d <;> exact h) ?_
            repeat(first|((first|refine TW_plain rfl rfl ?_|refine TW_gmet rfl rfl rfl rfl ?_);first|refine QW QP ?_|refine QW (rr_idxc (j := 0) Und.eq TyC.ty rfl rfl (show 0 < X.length by omega)) ?_|refine QW (rr_loadN (cs := actC (X.headD (0, 0))) TyC.ty rfl rfl (hat0 _ 0 rfl)) ?_|refine QW (rr_loadB (i := 1) TyC.ty rfl rfl rfl) ?_|refine QW (rr_build rfl (hbf _)) ?_|refine QW QL ?_|refine QW QA ?_|refine QW QlT ?_|refine QW QlF ?_|refine QW QeT ?_|refine QW QeF ?_|refine QW QnT ?_|refine QW QnF ?_|refine QW QaA ?_)|refine TW_done ?_)
            refine TW_one rfl (TL_one (cs := (fgtC ((n : Int), (c : Int), X.headD (0, 0), xa)).toArray) rfl rfl rfl rfl rfl fun g65 => TW_on (sub_pick [15, 16] (by decide) rfl) ?_)
            refine TW_one rfl (TL_app1 (i := 12) (q := 17) rfl rfl rfl rfl rfl rfl (by omega) (by omega) rfl fun vf2 => TW_on (sub_pick [15, 16] (by decide) rfl) ?_)
            repeat(first|((first|refine TW_plain rfl rfl ?_|refine TW_gmet rfl rfl rfl rfl ?_);first|refine QW QP ?_|refine QW QL ?_|refine QW QA ?_|refine QW QlT ?_|refine QW QlF ?_|refine QW QeT ?_|refine QW QeF ?_|refine QW QnT ?_|refine QW QnF ?_|refine QW QaA ?_)|refine TW_done ?_)
            repeat(first|refine QV QP ?_|refine QZ ?_|refine qcT rfl ?_|refine qcF rfl ?_|refine E_blockX ?_|refine E_blockO rfl ?_|refine QV QL ?_|refine QV QA ?_|refine QV QlT ?_|refine QV QlF ?_|refine QV QeT ?_|refine QV QeF ?_|refine QV QnT ?_|refine QV QnF ?_|refine QV QaA ?_)
            refine E_pick [0, 1, 2, 3, 4, 5, 6, 7, 8, 9, 10, 11, 12, 13, 14, 15] (by decide) rfl ?_
            exact E_round (i + 1, vf2) (by show i + 1 ≤ X.length; omega) (by show X.length - (i + 1) < X.length - i; omega) (by repeat' (first | exact True.intro | refine And.intro rfl ?_)) (by dsimp only; rw [if_neg (by omega), hnext, List.length_append, List.flatMap_append]; rfl)
        · obtain rfl : i = X.length := by omega
          have hrow2 : (if X.length = 0 then actRow g.prods T Nx S n c else actRow g.prods T Nx S n (c + 1)) = actRow g.prods T Nx S n (c + 1) := by
            by_cases e : X.length = 0
            · rw [if_pos e]; exact (hrow0 (List.eq_nil_of_length_eq_zero e)).symm
            · rw [if_neg e]
          have htt : X.tail.take (X.length - 1) = X.tail := List.take_of_length_le (by rw [List.length_tail]; exact Nat.le_refl _)
          rw [hrow2, htt]
          repeat(first|refine QV QP ?_|refine QZ ?_|refine qcT rfl ?_|refine qcF rfl ?_|refine E_blockX ?_|refine E_blockO rfl ?_|refine QV QL ?_|refine QV QA ?_|refine QV QlT ?_|refine QV QlF ?_|refine QV QeT ?_|refine QV QeF ?_|refine QV QnT ?_|refine QV QnF ?_|refine QV QaA ?_)
          exact E_round (c + 1, vf) (by show c + 1 ≤ T + 1; omega) (by show T + 1 - (c + 1) < T + 1 - c; omega) (by repeat' (first | exact True.intro | refine And.intro rfl ?_)) (by dsimp only; rw [hfs, ← List.append_assoc, hbase])
      · obtain rfl : c = T + 1 := by omega
        have hTN : T ≤ Nx[n].length := by omega
        have hdl : (Nx[n].drop T).length = Nx[n].length - T := List.length_drop
        have htk : (Nx[n].drop T).take (Nx[n].length - T) = Nx[n].drop T := List.take_of_length_le (by rw [hdl]; exact Nat.le_refl _)
        have hSub : ∀ (L : List Own) (i : Nat), L[i]? = some (elsO (sliceS intS) FN (vns.map fun v => [v]) Nx) → SlL (w : Base) L (subV aq cq 1 T Nx[n].length) (Nx[n].length - T) ((Nx[n].drop T).map (Value.int .i64)) := fun L i hL w' hm' => by
          have h1 := els_sl (W := (w : Base)) (L := L) (f := fun n => [Value.int .i64 n]) (c := 1) (by decide) hL hnN hnq2 w' hm'
          have h2 := sl_sub (i := T) (j := Nx[n].length) (f := fun n => [Value.int .i64 n]) (fun _ => rfl) h1 hTN (Nat.le_refl _)
          rw [htk, hdl, ← List.map_eq_flatMap] at h2
          exact h2
        have hsubl : ((Nx[n].drop T).map (Value.int .i64)).length = (Nx[n].length - T) * 1 := by rw [List.length_map, hdl, Nat.mul_one]
        have hsub1 : ∀ u ∈ (Nx[n].drop T).map (Value.int .i64), u.oneCell' = true := fun u hu => by obtain ⟨y, _, rfl⟩ := List.mem_map.1 hu; rfl
        repeat(first|refine QV QP ?_|refine QZ ?_|refine qcT rfl ?_|refine qcF rfl ?_|refine E_blockX ?_|refine E_blockO rfl ?_|refine QV (rr_load1 (v := x.vA) TyC.ty rfl (at_blk (i := 7) rfl rfl)) ?_|refine QV QL ?_|refine QV QA ?_|refine QV QlT ?_|refine QV QlF ?_|refine QV QeT ?_|refine QV QeF ?_|refine QV QnT ?_|refine QV QnF ?_|refine QV QaA ?_)
        have hAl := actTab_len (l := g.prods) (T := T) (Nx := Nx) (S := S) n
        have hGl := gotoTab_len (T := T) (Nx := Nx) n
        refine TL_push1 (i := 8) rfl rfl rfl rfl rfl rfl (fun z h => by cases h; rfl) (by omega) (by omega) rfl fun z vA2 => ?_
        conv=>arg 8;simp only[zA,zB,zC,zD,zE,zF,zG,zH,zI,rowS,ret,id_eq]
        refine TL_merge (elsO (sliceS actS) (fun k => x.FA k ∨ (Value.slice (some ⟨g10, 0, none⟩) (T + 1) (T + 1)).ownBlock = some k) ((x.vas.map fun v => [v]) ++ [[.slice (some ⟨g10, 0, none⟩) (T + 1) (T + 1)]]) (actTab g.prods T Nx S n ++ [actRow g.prods T Nx S n (T + 1)])) 13 9 [0, 1, 2, 3, 4, 5, 6, 7, 8, 10, 11, 12] (by decide) rfl rfl rfl (fun k hk => hk.elim (fun h => by cases h) fun h => h.elim (fun h => .inr (.inr h)) fun h => .inl (.inl h)) (fun w hr he => els_snoc he (act_of_row (by rw [actRow_len]; exact hr)) (row_foot hr)) ?_
        conv=>arg 8;simp only[zA,zB,zC,zD,zE,zF,zG,zH,zI,rowS,ret,id_eq]
        repeat(first|refine QV QP ?_|refine QZ ?_|refine qcT rfl ?_|refine qcF rfl ?_|refine E_blockX ?_|refine E_blockO rfl ?_|refine QV QL ?_|refine QV QA ?_|refine QV QlT ?_|refine QV QlF ?_|refine QV QeT ?_|refine QV QeF ?_|refine QV QnT ?_|refine QV QnF ?_|refine QV QaA ?_)
        refine TL_slv (i := 8) rfl fun hv1 hv2 => TL_store1 (i := 7) rfl rfl rfl hv1 hv2 rfl ?_
        conv=>arg 8;simp only[zA,zB,zC,zD,zE,zF,zG,zH,zI,rowS,ret,id_eq]
        repeat(first|refine QV QP ?_|refine QZ ?_|refine qcT rfl ?_|refine qcF rfl ?_|refine E_blockX ?_|refine E_blockO rfl ?_|refine QV QL ?_|refine QV QA ?_|refine QV QlT ?_|refine QV QlF ?_|refine QV QeT ?_|refine QV QeF ?_|refine QV QnT ?_|refine QV QnF ?_|refine QV QaA ?_)
        refine T_nil 3 1 ?_
        conv => arg 7; simp only [zA, zB, zC, zD, zE, zF, zG, zH, zI, rowS, ret, id_eq]
        refine T_ord ([blkO g1 (graV (T : Int) g.nons vp).cells 24, rowO 61 1 (.slice (some ⟨gN, 0, none⟩) Nx.length cN) Nx.length vns, elsO (sliceS intS) FN (vns.map fun v => [v]) Nx, blkO g5 #[.slice (some ⟨gS, 0, none⟩) S.length cS, .slice (some ⟨gN, 0, none⟩) Nx.length cN] 84]) (.calm 0 (.calm 2 (.calm 3 (.calm 4 (.calm 5 (.calm 6 (.calm 7 (.calm 8 (.calm 9 (.two 1 (.one 10 (.one 11 (.one 12 (.calm 13 (.one 14 (.done)))))) 10 (.two 1 (.one 11 (.one 12 (.calm 13 (.one 14 (.done))))) 11 (.one 1 (.one 12 (.calm 13 (.one 14 (.done)))))))))))))))) (sub_pick [0, 4, 5, 6] (by decide) rfl) (by kernel_rfl) (by kernel_rfl) (by intro c a d v w h; cases d <;> exact h) ?_
        repeat(first|((first|refine TW_plain rfl rfl ?_|refine TW_gmet rfl rfl rfl rfl ?_);first|refine QW QP ?_|refine QW (rr_load1 (v := .slice (some ⟨gN, 0, none⟩) Nx.length cN) TyC.ty rfl (at_blk (i := 3) rfl rfl)) ?_|refine QW (rr_idx1 Und.eq TyC.ty rfl rfl hnN) ?_|refine QW (rr_load1 (v := .slice aq Nx[n].length cq) TyC.ty rfl (at_row (i := 1) rfl hnq)) ?_|refine QW (rr_load1 (v := .int .i64 (T : Int)) TyC.ty rfl (at_blk (i := 0) rfl rfl)) ?_|refine QW (rr_slfrom (i := T) Und.eq TyC.ty rfl rfl hTN hcq) ?_|refine QW QL ?_|refine QW QA ?_|refine QW QlT ?_|refine QW QlF ?_|refine QW QeT ?_|refine QW QeF ?_|refine QW QnT ?_|refine QW QnF ?_|refine QW QaA ?_)|refine TW_done ?_)
        refine TW_two rfl rfl ?wayK1 ?wayK2
        case' wayK1 =>
          refine TL_val (rr_load1 (v := x.vG) TyC.ty rfl (at_blk (i := 7) rfl rfl)) rfl rfl rfl (TW_on (sub_pick [0, 4, 5, 6] (by decide) rfl) ?_)
          refine TW_one rfl (TL_appSl (i := 13) (k := Nx[n].length - T) rfl (hSub _ 5 rfl) rfl rfl hsubl hsub1 (by omega) (by omega) rfl fun vI => TW_on (sub_pick [0, 4, 5, 6] (by decide) rfl) ?_)
          refine TW_one rfl (TL_slv (i := 13) rfl fun hw1 hw2 => TL_one (cs := #[vI]) rfl hw1 rfl rfl rfl fun g86 => TW_on (sub_pick [0, 4, 5, 6] (by decide) rfl) ?_)
        case' wayK2 =>
          refine TL_appSl (i := 13) (k := Nx[n].length - T) rfl (hSub _ 5 rfl) rfl rfl hsubl hsub1 (by omega) (by omega) rfl fun vI => TW_on (sub_pick [0, 4, 5, 6] (by decide) rfl) ?_
          refine TW_two rfl rfl ?wayK3 ?wayK4
        case' wayK3 =>
          refine TL_val (rr_load1 (v := x.vG) TyC.ty rfl (at_blk (i := 7) rfl rfl)) rfl rfl rfl (TW_on (sub_pick [0, 4, 5, 6] (by decide) rfl) ?_)
          refine TW_one rfl (TL_slv (i := 13) rfl fun hw1 hw2 => TL_one (cs := #[vI]) rfl hw1 rfl rfl rfl fun g86 => TW_on (sub_pick [0, 4, 5, 6] (by decide) rfl) ?_)
        case' wayK4 =>
          refine TL_slv (i := 13) rfl fun hw1 hw2 => TL_one (cs := #[vI]) rfl hw1 rfl rfl rfl fun g86 => TW_on (sub_pick [0, 4, 5, 6] (by decide) rfl) ?_
          refine TW_one rfl (TL_val (rr_load1 (v := x.vG) TyC.ty rfl (at_blk (i := 7) rfl rfl)) rfl rfl rfl (TW_on (sub_pick [0, 4, 5, 6] (by decide) rfl) ?_))
        all_goals
          refine TW_one rfl (TL_app11 (i := 9) (q := 14) rfl rfl rfl rfl rfl hw2 (by omega) (by omega) rfl fun vG2 => TW_on (sub_pick [0, 4, 5, 6] (by decide) rfl) ?_)
          repeat(first|((first|refine TW_plain rfl rfl ?_|refine TW_gmet rfl rfl rfl rfl ?_);first|refine QW QP ?_|refine QW QL ?_|refine QW QA ?_|refine QW QlT ?_|refine QW QlF ?_|refine QW QeT ?_|refine QW QeF ?_|refine QW QnT ?_|refine QW QnF ?_|refine QW QaA ?_)|refine TW_done ?_)
          refine TW_one rfl (TL_slv (i := 9) rfl fun hv1 hv2 => TL_store1 (i := 7) rfl rfl rfl hv1 hv2 rfl (TW_on (sub_pick [0, 4, 5, 6] (by decide) rfl) ?_))
          repeat(first|((first|refine TW_plain rfl rfl ?_|refine TW_gmet rfl rfl rfl rfl ?_);first|refine QW QP ?_|refine QW QL ?_|refine QW QA ?_|refine QW QlT ?_|refine QW QlF ?_|refine QW QeT ?_|refine QW QeF ?_|refine QW QnT ?_|refine QW QnF ?_|refine QW QaA ?_)|refine TW_done ?_)
          refine E_merge (wrG 3 1 (fun k => x.FG k ∨ vI.ownBlock = some k) (x.vgs ++ [vI])) 13 10 [0, 1, 2, 3, 4, 5, 6, 7, 8, 9, 11, 12] (by decide) rfl rfl rfl (fun k h => (wr_foot k h).symm) (fun w hr he => wr_snoc he hr) ?_
          repeat(first|refine QV QP ?_|refine QZ ?_|refine qcT rfl ?_|refine qcF rfl ?_|refine E_blockX ?_|refine E_blockO rfl ?_|refine QV QL ?_|refine QV QA ?_|refine QV QlT ?_|refine QV QlF ?_|refine QV QeT ?_|refine QV QeF ?_|refine QV QnT ?_|refine QV QnF ?_|refine QV QaA ?_)
          refine E_pick [0, 1, 2, 3, 4, 5, 6, 7, 8, 11, 9, 12, 10] (by decide) rfl ?_
          exact E_round (n + 1, ⟨vA2, x.vas ++ [.slice (some ⟨g10, 0, none⟩) (T + 1) (T + 1)], fun k => x.FA k ∨ (Value.slice (some ⟨g10, 0, none⟩) (T + 1) (T + 1)).ownBlock = some k, vG2, x.vgs ++ [vI], fun k => x.FG k ∨ vI.ownBlock = some k⟩, vf) (by show n + 1 ≤ S.length; omega) (by show S.length - (n + 1) < S.length - n; omega) (by repeat' (first | exact True.intro | refine And.intro rfl ?_)) (by dsimp only; rw [show (actTab g.prods T Nx S (n + 1)).length = (actTab g.prods T Nx S n).length + 1 by rw [actTab_len, actTab_len], show (gotoTab T Nx (n + 1)).length = (gotoTab T Nx n).length + 1 by rw [gotoTab_len, gotoTab_len], actTab_succ, List.map_append]; rfl)
    · obtain rfl : n = S.length := by omega
      refine T_know (i := 8) rfl (fun w h => row_slm w h) fun hrow => ?_
      obtain ⟨aA, cA, hvA, -⟩ := hrow
      refine T_know (i := 10) rfl (fun w h => row_slm w h) fun hrow => ?_
      obtain ⟨aG, cG, hvG, -⟩ := hrow
      obtain ⟨vA, vas, FA, vG, vgs, FG⟩ := x
      dsimp only at hvA hvG ⊢
      subst hvA hvG
      repeat(first|refine QV QP ?_|refine QZ ?_|refine qcT rfl ?_|refine qcF rfl ?_|refine E_blockX ?_|refine E_blockO rfl ?_|refine QV (rr_loadB (i := 7) TyC.ty rfl rfl rfl) ?_|refine QV QL ?_|refine QV QA ?_|refine QV QlT ?_|refine QV QlF ?_|refine QV QeT ?_|refine QV QeF ?_|refine QV QnT ?_|refine QV QnF ?_|refine QV QaA ?_)
      refine TL_storeB (i := 1) rfl rfl rfl rfl rfl rfl ?_
      conv=>arg 8;simp only[zA,zB,zC,zD,zE,zF,zG,zH,zI,rowS,ret,id_eq]
      repeat(first|refine QV QP ?_|refine QZ ?_|refine qcT rfl ?_|refine qcF rfl ?_|refine E_blockX ?_|refine E_blockO rfl ?_|refine QV QL ?_|refine QV QA ?_|refine QV QlT ?_|refine QV QlF ?_|refine QV QeT ?_|refine QV QeF ?_|refine QV QnT ?_|refine QV QnF ?_|refine QV QaA ?_)
      exact E_retc3 (i := 1) rfl rfl rfl rfl rfl rfl fun w hm => hm.meets (S := ⟨fun (x : TabX × Value) => ∃ a n c, x.1.vA = .slice a n c, fun x => .tuple #[.agg #[x.1.vA, x.1.vG], x.2, .int .i64 0], fun x => [rowO 61 1 x.1.vG (gotoTab T Nx S.length).length x.1.vgs, wrG 3 1 x.1.FG x.1.vgs]⟩) (⟨.slice aA _ cA, vas, FA, .slice aG _ cG, vgs, FG⟩, vf) ⟨_, _, _, rfl⟩ [10, 11] (by decide) rfl
  · rw [if_pos c0] at hO
    rw [hO]
    repeat(first|refine QV QP ?_|refine QZ ?_|refine qcT rfl ?_|refine qcF rfl ?_|refine E_blockX ?_|refine E_blockO rfl ?_|refine QV (rr_neq (b := true) rfl rfl (decide_eq_true c0)) ?_|refine QV (rr_build rfl hb0) ?_|refine QV QL ?_|refine QV QA ?_|refine QV QlT ?_|refine QV QlF ?_|refine QV QeT ?_|refine QV QeF ?_|refine QV QnT ?_|refine QV QnF ?_|refine QV QaA ?_)
    refine TL_storeB (i := 1) rfl rfl rfl rfl rfl rfl ?_
    conv=>arg 8;simp only[zA,zB,zC,zD,zE,zF,zG,zH,zI,rowS,ret,id_eq]
    repeat(first|refine QV QP ?_|refine QZ ?_|refine qcT rfl ?_|refine qcF rfl ?_|refine E_blockX ?_|refine E_blockO rfl ?_|refine QV QL ?_|refine QV QA ?_|refine QV QlT ?_|refine QV QlF ?_|refine QV QeT ?_|refine QV QeF ?_|refine QV QnT ?_|refine QV QnF ?_|refine QV QaA ?_)
    refine E_nilrow 61 1 (E_extra (wrG 3 1 (fun _ => False) []) (fun k hk => hk.elim (fun h => by cases h) id) wr_nil ?_)
    exact E_retc3 (i := 1) rfl rfl rfl rfl rfl rfl fun w hm => hm.meets (S := ⟨fun (x : TabX × Value) => ∃ a n c, x.1.vA = .slice a n c, fun x => .tuple #[.agg #[x.1.vA, x.1.vG], x.2, .int .i64 e], fun x => [rowO 61 1 x.1.vG 0 x.1.vgs, wrG 3 1 x.1.FG x.1.vgs]⟩) (⟨.slice none 0 0, [], fun _ => False, .slice none 0 0, [], fun _ => False⟩, .slice none 0 0) ⟨_, _, _, rfl⟩ [7, 8] (by decide) rfl
end Go.Proofs.Ytomkjjpdnmcnnaa.eng


/- SymZ -/
namespace Go.Proofs.Ytomkjjpdnmcnnaa.eng
open Go.RowKit kit mix
theorem SymZ_len (a : gramL.Sym) : (symC a).length = 2 := rfl
theorem roomASymZ (l : List gramL.Sym) : ((madeCells #[Value.int .i64 0, Value.int .i64 0] ((l.length + 3) * 2)).toList.take (0 * 2) ++ l.flatMap symC ++ (madeCells #[Value.int .i64 0, Value.int .i64 0] ((l.length + 3) * 2)).toList.drop (0 * 2 + (l.flatMap symC).length)).toArray = (l.flatMap symC ++ (List.replicate 3 [Value.int .i64 0, Value.int .i64 0]).flatten).toArray := by
  rw [madeC (k := 2) rfl (by decide), len_el SymZ_len]
  congr 1
  simp only [Nat.zero_mul, List.take_zero, List.nil_append, Nat.zero_add]
  congr 1
  rw [← List.replicate_append_replicate, List.flatten_append, List.drop_left' (by simp)]
theorem roomBSymZ (l : List gramL.Sym) (b : List Value) (hb : b.length = 2 * 2) : ((l.flatMap symC ++ (List.replicate 3 [Value.int .i64 0, Value.int .i64 0]).flatten).toArray.toList.take (l.length * 2) ++ b ++ (l.flatMap symC ++ (List.replicate 3 [Value.int .i64 0, Value.int .i64 0]).flatten).toArray.toList.drop (l.length * 2 + b.length)).toArray = (l.flatMap symC ++ b ++ [Value.int .i64 0, Value.int .i64 0]).toArray := by
  congr 1
  have h := len_el SymZ_len l
  rw [List.take_left' h, ← List.drop_drop, List.drop_left' h, hb]
  rfl
set_option maxHeartbeats 2000000 in
theorem roomySymZ_calls (v : Value) (l : List gramL.Sym) (a : gramL.Sym) (w : World) (hs : Sl w v l.length (l.flatMap symC)) (hl : 16 * (l.length + 3) ≤ 281474976710656) (h1 : ∀ u ∈ symC a, u.oneCell' = true) :
    Calls Try.prog 23 #[v, (.agg (symC a).toArray)] w (Meets ⟨fun _ => True, fun (g : Nat) => .slice (some ⟨g, 0, none⟩) l.length (l.length + 3), fun g => [blkO g (l.flatMap symC ++ (symC a ++ symC a) ++ [Value.int .i64 0, Value.int .i64 0]).toArray 60]⟩ w) := by
  have hsl : ∀ L, SlL w L v l.length (l.flatMap symC) := fun L w' hm => hs.gr hm.below
  obtain ⟨base, cap, rfl, hcap, hmax, _⟩ := hs
  unfold maxLen at hmax
  refine enter (args := [.slice base l.length cap, (.agg (symC a).toArray)]) (n := 20) Try.func23 rfl rfl rfl ?_
  refine T_seq (T_region (TL_box rfl rfl rfl fun g0 => ?_))
  repeat(first|refine QV QP ?_|refine TL_nil ?_|refine E_then ?_|refine QV QL ?_|refine QV QaA ?_)
  (repeat refine T_seq ?_)
  refine T_midq (ι := Nat) (fun _ => True) (fun g => [(0, .slice base l.length cap), (5, .slice (some ⟨g, 0, none⟩) (l.length + 2) (l.length + 3))]) (fun g => [blkO g (l.flatMap symC ++ (symC a ++ symC a) ++ [Value.int .i64 0, Value.int .i64 0]).toArray 60]) ?_ ?_
  · refine T_ord ([blkO g0 (symC a).toArray 60]) (.calm 0 (.calm 1 (.calm 2 (.calm 4 (.calm 6 (.calm 7 (.two 3 (.two 5 (.one 8 (.one 9 (.calm 10 (.done)))) 8 (.one 5 (.one 9 (.calm 10 (.done))))) 8 (.one 3 (.one 5 (.one 9 (.calm 10 (.done)))))))))))) (sub_pick [0] (by decide) rfl) (by kernel_rfl) (by kernel_rfl) (by intro c a d v w h; cases d <;> exact h) ?_
    repeat(first|((first|refine TW_plain rfl rfl ?_|refine TW_gmet rfl rfl rfl rfl ?_);first|refine QW QP ?_|refine QW (rr_loadB (i := 0) TyC.ty rfl rfl rfl) ?_|refine QW QL ?_|refine QW QaA ?_)|refine TW_done ?_)
    refine TW_two rfl rfl ?_ ?_
    · refine TL_makeB (m := 0) (cap := l.length + 3) rfl rfl (by omega) (by omega) (by omega) rfl fun g => ?_
      refine TW_on (sub_pick [0] (by decide) rfl) ?_
      refine TW_two rfl rfl ?_ ?_
      · refine TL_appBs (i := 1) (k := l.length) (cs' := (l.flatMap symC ++ (List.replicate 3 [Value.int .i64 0, Value.int .i64 0]).flatten).toArray) rfl rfl rfl (hsl _) (len_el SymZ_len l) (one_sym l) (by omega) (by rw [size_madeCells, len_el SymZ_len]; omega) (roomASymZ l).symm rfl ?_
        refine TW_on (sub_pick [0] (by decide) rfl) ?_
        refine TW_one rfl (TL_litN (cs := (symC a ++ symC a).toArray) [(.agg (symC a).toArray), (.agg (symC a).toArray)] rfl rfl rfl (by intro v hv; simp only [List.mem_cons, List.not_mem_nil, or_false, or_self] at hv; subst hv; rfl) rfl rfl rfl fun g8 => TW_on (sub_pick [0] (by decide) rfl) ?_)
        refine TW_one rfl (TL_appB (i := 1) (k := 2) (ys := symC a ++ symC a) (cs' := (l.flatMap symC ++ (symC a ++ symC a) ++ [Value.int .i64 0, Value.int .i64 0]).toArray) rfl rfl rfl (fun w hm j u hj => by rw [addr_add, Nat.zero_add]; exact at_blk (i := 2) rfl (by simpa using hj) w hm) rfl (by intro u hu; rcases List.mem_append.1 hu with h | h <;> exact h1 u h) (by omega) (by simp [len_el SymZ_len, symC] <;> omega) (by rw [Nat.zero_add]; exact (roomBSymZ l _ rfl).symm) rfl (TW_on (sub_pick [0] (by decide) rfl) ?_))
        repeat(first|((first|refine TW_plain rfl rfl ?_|refine TW_gmet rfl rfl rfl rfl ?_);first|refine QW QP ?_|refine QW QL ?_|refine QW QaA ?_)|refine TW_done ?_)
        refine E_pick [1] (by decide) rfl ?_
        exact E_mid g trivial ⟨rfl, by rw [show l.length + 2 = 0 + l.length + 2 by omega]; rfl, trivial⟩ rfl
      · refine TL_litN (cs := (symC a ++ symC a).toArray) [(.agg (symC a).toArray), (.agg (symC a).toArray)] rfl rfl rfl (by intro v hv; simp only [List.mem_cons, List.not_mem_nil, or_false, or_self] at hv; subst hv; rfl) rfl rfl rfl fun g8 => ?_
        refine TW_on (sub_pick [0] (by decide) rfl) ?_
        refine TW_one rfl (TL_appBs (i := 1) (k := l.length) (cs' := (l.flatMap symC ++ (List.replicate 3 [Value.int .i64 0, Value.int .i64 0]).flatten).toArray) rfl rfl rfl (hsl _) (len_el SymZ_len l) (one_sym l) (by omega) (by rw [size_madeCells, len_el SymZ_len]; omega) (roomASymZ l).symm rfl (TW_on (sub_pick [0] (by decide) rfl) ?_))
        refine TW_one rfl (TL_appB (i := 1) (k := 2) (ys := symC a ++ symC a) (cs' := (l.flatMap symC ++ (symC a ++ symC a) ++ [Value.int .i64 0, Value.int .i64 0]).toArray) rfl rfl rfl (fun w hm j u hj => by rw [addr_add, Nat.zero_add]; exact at_blk (i := 2) rfl (by simpa using hj) w hm) rfl (by intro u hu; rcases List.mem_append.1 hu with h | h <;> exact h1 u h) (by omega) (by simp [len_el SymZ_len, symC] <;> omega) (by rw [Nat.zero_add]; exact (roomBSymZ l _ rfl).symm) rfl (TW_on (sub_pick [0] (by decide) rfl) ?_))
        repeat(first|((first|refine TW_plain rfl rfl ?_|refine TW_gmet rfl rfl rfl rfl ?_);first|refine QW QP ?_|refine QW QL ?_|refine QW QaA ?_)|refine TW_done ?_)
        refine E_pick [1] (by decide) rfl ?_
        exact E_mid g trivial ⟨rfl, by rw [show l.length + 2 = 0 + l.length + 2 by omega]; rfl, trivial⟩ rfl
    · refine TL_litN (cs := (symC a ++ symC a).toArray) [(.agg (symC a).toArray), (.agg (symC a).toArray)] rfl rfl rfl (by intro v hv; simp only [List.mem_cons, List.not_mem_nil, or_false, or_self] at hv; subst hv; rfl) rfl rfl rfl fun g8 => ?_
      refine TW_on (sub_pick [0] (by decide) rfl) ?_
      refine TW_one rfl (TL_makeB (m := 0) (cap := l.length + 3) rfl rfl (by omega) (by omega) (by omega) rfl fun g => TW_on (sub_pick [0] (by decide) rfl) ?_)
      refine TW_one rfl (TL_appBs (i := 2) (k := l.length) (cs' := (l.flatMap symC ++ (List.replicate 3 [Value.int .i64 0, Value.int .i64 0]).flatten).toArray) rfl rfl rfl (hsl _) (len_el SymZ_len l) (one_sym l) (by omega) (by rw [size_madeCells, len_el SymZ_len]; omega) (roomASymZ l).symm rfl (TW_on (sub_pick [0] (by decide) rfl) ?_))
      refine TW_one rfl (TL_appB (i := 2) (k := 2) (ys := symC a ++ symC a) (cs' := (l.flatMap symC ++ (symC a ++ symC a) ++ [Value.int .i64 0, Value.int .i64 0]).toArray) rfl rfl rfl (fun w hm j u hj => by rw [addr_add, Nat.zero_add]; exact at_blk (i := 1) rfl (by simpa using hj) w hm) rfl (by intro u hu; rcases List.mem_append.1 hu with h | h <;> exact h1 u h) (by omega) (by simp [len_el SymZ_len, symC] <;> omega) (by rw [Nat.zero_add]; exact (roomBSymZ l _ rfl).symm) rfl (TW_on (sub_pick [0] (by decide) rfl) ?_))
      repeat(first|((first|refine TW_plain rfl rfl ?_|refine TW_gmet rfl rfl rfl rfl ?_);first|refine QW QP ?_|refine QW QL ?_|refine QW QaA ?_)|refine TW_done ?_)
      refine E_pick [2] (by decide) rfl ?_
      exact E_mid g trivial ⟨rfl, by rw [show l.length + 2 = 0 + l.length + 2 by omega]; rfl, trivial⟩ rfl
  · intro g _
    repeat(first|refine QV QP ?_|refine QZ ?_|refine QV (rr_slpre Und.eq TyC.ty rfl rfl (by omega)) ?_|refine QV QL ?_|refine QV QaA ?_)
    exact E_ret1 rfl rfl fun w hm => hm.meets (S := ⟨fun _ => True, fun (g : Nat) => .slice (some ⟨g, 0, none⟩) l.length (l.length + 3), fun g => [blkO g (l.flatMap symC ++ (symC a ++ symC a) ++ [Value.int .i64 0, Value.int .i64 0]).toArray 60]⟩) g trivial [0] (by decide) rfl
set_option maxHeartbeats 2000000 in
theorem filledSymZ_calls (g cap : Nat) (l : List gramL.Sym) (a : gramL.Sym) (w : World) (hcap : l.length + 2 ≤ cap) (hmax : cap ≤ 9223372036854775807) (h : ∀ (j : Nat) (u : Value), (l.flatMap symC ++ (symC a ++ symC a))[j]? = some u → w.cell? ⟨g, j, none⟩ = some u) :
    Calls Try.prog 36 #[.slice (some ⟨g, 0, none⟩) l.length cap, (.agg (symC a).toArray)] w (Meets (ret (.bool true)) w) := by
  have hl2 : (l ++ [a, a]).flatMap symC = l.flatMap symC ++ (symC a ++ symC a) := by simp
  have hat : ∀ (L : List Own) (k : Nat) (hk : k < (l ++ [a, a]).length) (j : Nat) (u : Value), (symC (l ++ [a, a])[k])[j]? = some u → At w L ⟨g, 0 + k * 2 + j, none⟩ u := fun L k hk => at_elL SymZ_len (off := 0) (fun j u hj => by rw [Nat.zero_add]; exact at_old (h j u (by rw [← hl2]; exact hj))) hk
  have h0 := fun L => hat L l.length (by simp)
  have h1 := fun L => hat L (l.length + 1) (by simp)
  have e0 : (l ++ [a, a])[l.length]'(by simp) = a := by simp
  have e1 : (l ++ [a, a])[l.length + 1]'(by simp) = a := by simp
  rw [e0] at h0
  rw [e1] at h1
  clear hat e0 e1 hl2 h
  have heq := eq_sym a a
  rw [decide_eq_true rfl] at heq
  refine enter (args := [.slice (some ⟨g, 0, none⟩) l.length cap, (.agg (symC a).toArray)]) (n := 28) Try.func36 rfl rfl rfl ?_
  refine T_seq (T_region (TL_box rfl rfl rfl fun g0 => ?_))
  repeat(first|refine QV QP ?_|refine QZ ?_|refine qs rfl rfl rfl rfl rfl rfl ?_|((try refine qg rfl rfl rfl ?_);first|refine QV QP ?_|refine QV (rr_slpre (j := l.length + 2) Und.eq TyC.ty rfl rfl hcap) ?_|refine QV QL ?_|refine QV QaA ?_))
  refine T_ord ([blkO g0 (symC a).toArray 60]) (.calm 0 (.calm 1 (.calm 2 (.calm 3 (.calm 4 (.calm 5 (.calm 6 (.calm 7 (.calm 8 (.calm 9 (.calm 10 (.calm 11 (.calm 12 (.calm 13 (.calm 14 (.calm 15 (.calm 16 (.calm 17 (.done))))))))))))))))))) (fun _ h => h) (by kernel_rfl) (by kernel_rfl) (by intro c a d v w h; cases d <;> exact h) ?_
  repeat(first|((first|refine TW_plain rfl rfl ?_|refine TW_gmet rfl rfl rfl rfl ?_);first|refine QW QP ?_|refine QW (rr_loadB (i := 0) TyC.ty rfl rfl rfl) ?_|refine QW (rr_idxc (j := l.length) Und.eq TyC.ty rfl rfl (by omega)) ?_|refine QW (rr_idxc (j := l.length + 1) Und.eq TyC.ty rfl rfl (by omega)) ?_|refine QW (rr_loadN TyC.ty rfl rfl (h0 _)) ?_|refine QW (rr_loadN TyC.ty rfl rfl (h1 _)) ?_|refine QW (rr_aggeq rfl rfl (by kernel_rfl) heq) ?_|refine QW QL ?_|refine QW QaA ?_)|refine TW_skip rfl rfl rfl rfl rfl rfl rfl ?_|refine TW_done ?_)
  repeat(first|refine QV QP ?_|refine QZ ?_|refine qs rfl rfl rfl rfl rfl rfl ?_|((try refine qg rfl rfl rfl ?_);first|refine QV QP ?_|refine QV QL ?_|refine QV QaA ?_))
  exact E_ret1 rfl rfl fun w hm => hm.ret
theorem spoilASymZ (k cap : Nat) (a : gramL.Sym) (cs : Array Value) (hc : cs.size = cap * 2) (hk : k < cap) : (((List.replicate k (symC a)).flatten ++ cs.toList.drop (k * 2)).toArray.toList.take (k * 2) ++ (symC a).toArray.toList ++ ((List.replicate k (symC a)).flatten ++ cs.toList.drop (k * 2)).toArray.toList.drop (k * 2 + 2)).toArray = ((List.replicate (k + 1) (symC a)).flatten ++ cs.toList.drop ((k + 1) * 2)).toArray := by
  congr 1
  have h : ((List.replicate k (symC a)).flatten).length = k * 2 := by simp [symC]
  simp only []
  rw [List.take_left' h, ← List.drop_drop, List.drop_left' h, List.replicate_succ', List.flatten_append, List.drop_drop]
  simp [Nat.add_mul]
set_option maxHeartbeats 2000000 in
theorem spoilSymZ_calls (g n cap : Nat) (cs : Array Value) (a : gramL.Sym) (w : World) (B : Base) (hn : n ≤ cap) (hmax : cap ≤ 9223372036854775807) (hc : cs.size = cap * 2) (h1 : (symC a).all Value.oneCell' = true) (hm : Mem B [blkO g cs 60] w) :
    Calls Try.prog 15 #[.slice (some ⟨g, 0, none⟩) n cap, (.agg (symC a).toArray)] w (MeetsB ⟨fun (_ : Unit) => True, fun _ => .tuple #[], fun _ => [blkO g ((List.replicate cap (symC a)).flatten).toArray 60]⟩ B) := by
  refine enterB hm (args := [.slice (some ⟨g, 0, none⟩) n cap, (.agg (symC a).toArray)]) (n := 19) Try.func15 rfl rfl rfl ?_
  refine T_seq (T_region (TL_box rfl rfl rfl fun g0 => ?_))
  repeat(first|refine QV QP ?_|refine QZ ?_|refine qcT rfl ?_|refine qcF rfl ?_|refine E_blockX ?_|refine E_blockO rfl ?_|refine QV (rr_cap Und.eq rfl) ?_|refine QV (rr_slpre Und.eq TyC.ty rfl rfl (Nat.le_refl cap)) ?_|refine QV QL ?_|refine QV QlT ?_|refine QV QlF ?_|refine QV QaA ?_)
  refine T_loop (ι := Nat) (fun k => k ≤ cap) (fun k => [(0, .slice (some ⟨g, 0, none⟩) cap cap), (3, .pointer (some ⟨g0, 0, none⟩)), (10, .int .i64 cap), (11, .int .i64 (k : Int))]) (fun k => [blkO g ((List.replicate k (symC a)).flatten ++ cs.toList.drop (k * 2)).toArray 60, blkO g0 (symC a).toArray 60]) (fun k => cap - k) 0 (Nat.zero_le _) (by repeat' (first | exact True.intro | refine And.intro rfl ?_)) (by simp; rfl) ?_
  intro k hk
  by_cases c1 : k < cap
  · have hsz : ((List.replicate k (symC a)).flatten ++ cs.toList.drop (k * 2)).toArray.size = cap * 2 := by simp [hc, symC]; omega
    repeat(first|refine QV QP ?_|refine QZ ?_|refine qcT rfl ?_|refine qcF rfl ?_|refine E_blockX ?_|refine E_blockO rfl ?_|refine QV (rr_loadB (i := 1) TyC.ty rfl rfl rfl) ?_|refine QV (rr_idxc Und.eq TyC.ty rfl rfl c1) ?_|refine QV QL ?_|refine QV QlT ?_|refine QV QlF ?_|refine QV QaA ?_)
    refine TL_store (i := 0) (cs' := ((List.replicate (k + 1) (symC a)).flatten ++ cs.toList.drop ((k + 1) * 2)).toArray) TyC.ty rfl rfl rfl rfl (show ((symC a).toArray.toList.all Value.oneCell') = true by simpa using h1) (by rw [hsz]; omega) (by rw [Nat.zero_add]; exact (spoilASymZ k cap a cs hc c1).symm) ?_
    repeat(first|refine QV QP ?_|refine QZ ?_|refine qcT rfl ?_|refine qcF rfl ?_|refine E_blockX ?_|refine E_blockO rfl ?_|refine QV QL ?_|refine QV QlT ?_|refine QV QlF ?_|refine QV QaA ?_)
    exact E_round (k + 1) (by omega) (by show cap - (k + 1) < cap - k; omega) (by repeat' (first | exact True.intro | refine And.intro rfl ?_)) rfl
  · obtain rfl : k = cap := by omega
    repeat(first|refine QV QP ?_|refine QZ ?_|refine qcT rfl ?_|refine qcF rfl ?_|refine E_blockX ?_|refine E_blockO rfl ?_|refine QV QL ?_|refine QV QlT ?_|refine QV QlF ?_|refine QV QaA ?_)
    refine E_end0 rfl fun w hm => hm.meetsB (S := ⟨fun (_ : Unit) => True, fun _ => .tuple #[], fun _ => [blkO g ((List.replicate k (symC a)).flatten).toArray 60]⟩) () trivial [0] (by decide) (by simp only [List.drop_of_length_le (show cs.toList.length ≤ k * 2 by simp [hc]), List.append_nil]; rfl)
theorem spoilNilSymZ_calls (a : gramL.Sym) (w : World) : Calls Try.prog 15 #[.slice none 0 0, (.agg (symC a).toArray)] w (Meets (ret (.tuple #[])) w) := by
  refine enter (args := [.slice none 0 0, (.agg (symC a).toArray)]) (n := 19) Try.func15 rfl rfl rfl ?_
  refine T_seq (T_region (TL_box rfl rfl rfl fun g0 => ?_))
  repeat(first|refine QV QP ?_|refine QZ ?_|refine qcT rfl ?_|refine qcF rfl ?_|refine E_blockX ?_|refine E_blockO rfl ?_|refine QV (rr_cap Und.eq rfl) ?_|refine QV (rr_slpre (j := 0) Und.eq TyC.ty rfl rfl (Nat.le_refl 0)) ?_|refine QV QL ?_|refine QV QlT ?_|refine QV QlF ?_|refine QV QaA ?_)
  refine T_loop (ι := Unit) (fun _ => True) (fun _ => [(10, .int .i64 0), (11, .int .i64 0)]) (fun _ => [blkO g0 (symC a).toArray 60]) (fun _ => 0) () trivial (by repeat' (first | exact True.intro | refine And.intro rfl ?_)) rfl ?_
  intro _ _
  repeat(first|refine QV QP ?_|refine QZ ?_|refine qcT rfl ?_|refine qcF rfl ?_|refine E_blockX ?_|refine E_blockO rfl ?_|refine QV QL ?_|refine QV QlT ?_|refine QV QlF ?_|refine QV QaA ?_)
  exact E_end0 rfl fun w hm => hm.ret
end Go.Proofs.Ytomkjjpdnmcnnaa.eng

/- GrR -/
namespace Go.Proofs.Ytomkjjpdnmcnnaa.eng
open Go.RowKit kit mix gramL treeL
/-- a body with room behind it -/
def rmC (b : List Sym) : Array Value := (b.flatMap symC ++ (symC (7, 0) ++ symC (7, 0)) ++ [Value.int .i64 0, Value.int .i64 0]).toArray
def roomF (l : List gramL.Prod) (gb : Nat → Nat) (i : Nat) : Own := blkO (gb i) (rmC (prodAt l (i : Int)).2) 60
def pcR (l : List gramL.Prod) (gb : Nat → Nat) (i : Nat) : List Value := [.int .i64 (prodAt l (i : Int)).1, .slice (some ⟨gb i, 0, none⟩) (prodAt l (i : Int)).2.length ((prodAt l (i : Int)).2.length + 3)]
def roomS (g : Gram) : Spec (Value × (Nat → Nat)) := ⟨fun _ => True, fun x => graV g.terms g.nons x.1, fun x => [rowO 57 2 x.1 g.prods.length ((List.range g.prods.length).flatMap (pcR g.prods x.2)), famP (fun i => i < g.prods.length) (roomF g.prods x.2)]⟩
theorem build_sym7 (w : World) : (Instr.build 60 #[(0, .int .i64 7)]).run Try.prog w = .ok (.agg (symC (7, 0)).toArray) w := by
  unfold symC; go_simp
theorem pcR_upd {l : List gramL.Prod} {gb : Nat → Nat} {i g : Nat} : (List.range (i + 1)).flatMap (pcR l fun j => if j = i then g else gb j) = (List.range i).flatMap (pcR l gb) ++ [.int .i64 (prodAt l (i : Int)).1, .slice (some ⟨g, 0, none⟩) (prodAt l (i : Int)).2.length ((prodAt l (i : Int)).2.length + 3)] := by
  rw [List.range_succ, List.flatMap_append]
  congr 1
  · rw [List.flatMap_def, List.flatMap_def, List.map_congr_left fun j hj => ?_]
    have : j ≠ i := by have := List.mem_range.1 hj; omega
    unfold pcR
    dsimp only
    rw [if_neg this]
  · simp [pcR]
attribute [local irreducible] Instr.build in
set_option maxHeartbeats 4000000 in
theorem room_calls (v : Value) (g : Gram) (w : World) (hG : GraR (fun k => k < w.heap.size) w v g) (hl : g.prods.length * 32 ≤ 140737488351232) (hb8 : ∀ p ∈ g.prods, p.2.length ≤ 8796093021952) :
    Calls Try.prog 6 #[v] w (Meets (roomS g) w) := by
  obtain ⟨vp, rfl, hp, -, -⟩ := hG
  obtain ⟨bp, cp, rfl, -, -, hrp⟩ := hp
  refine enter (args := [graV g.terms g.nons (.slice bp g.prods.length cp)]) (n := 32) Try.func6 rfl rfl rfl ?_
  refine T_seq (T_region (TL_box rfl rfl rfl fun g1 => ?_))
  conv=>arg 8;simp only[zA,zB,zC,zD,zE,zF,zG,zH,zI,rowS,ret,id_eq]
  refine TL_new rfl fun g2 => ?_
  conv=>arg 8;simp only[zA,zB,zC,zD,zE,zF,zG,zH,zI,rowS,ret,id_eq]
  repeat(first|refine QV QP ?_|refine QZ ?_|refine qcT rfl ?_|refine qcF rfl ?_|refine E_blockX ?_|refine E_blockO rfl ?_|refine QV (rr_load1 (v := .int .i64 g.terms) TyC.ty rfl (at_blk (i := 0) rfl rfl)) ?_|refine QV (rr_load1 (v := .int .i64 g.nons) TyC.ty rfl (at_blk (i := 0) rfl rfl)) ?_|refine QV (rr_build rfl (build_gra2 _ _)) ?_|refine QV QL ?_|refine QV QA ?_|refine QV QlT ?_|refine QV QlF ?_|refine QV QaA ?_)
  refine TL_new rfl fun g3 => ?_
  conv=>arg 8;simp only[zA,zB,zC,zD,zE,zF,zG,zH,zI,rowS,ret,id_eq]
  refine TL_storeB (i := 2) (cs' := #[.int .i64 g.terms, .int .i64 g.nons, .slice none 0 0]) rfl rfl rfl rfl rfl rfl ?_
  conv=>arg 8;simp only[zA,zB,zC,zD,zE,zF,zG,zH,zI,rowS,ret,id_eq]
  repeat(first|refine QV QP ?_|refine QZ ?_|refine qcT rfl ?_|refine qcF rfl ?_|refine E_blockX ?_|refine E_blockO rfl ?_|refine QV (rr_load1 (v := .slice bp g.prods.length cp) TyC.ty rfl (at_blk (i := 0) rfl rfl)) ?_|refine QV QL ?_|refine QV QA ?_|refine QV QlT ?_|refine QV QlF ?_|refine QV QaA ?_)
  refine T_nil 57 2 ?_
  refine T_extra (famP (fun j => j < 0) (roomF g.prods fun _ => 0)) (fun k hk => hk.elim (fun h => by cases h) fun ⟨i, hi, _⟩ => absurd hi (Nat.not_lt_zero i)) (fun w => ⟨fun i hi => absurd hi (Nat.not_lt_zero i), fun i j hi _ _ => absurd hi (Nat.not_lt_zero i)⟩) ?_
  refine T_pick [1, 2, 3, 4] (by decide) rfl ?_
  refine T_loop (ι := Nat × Value × (Nat → Nat)) (fun (i, _, _) => i ≤ g.prods.length) (fun (i, _, _) => [(2, .pointer (some ⟨g2, 0, none⟩)), (3, .pointer (some ⟨g3, 0, none⟩)), (12, .slice bp g.prods.length cp), (13, .int .i64 g.prods.length), (14, .int .i64 (i : Int))])
    (fun (i, vp', gb) => [blkO g2 #[.int .i64 0, .int .i64 0, .slice none 0 0] 24, blkO g3 #[.int .i64 g.terms, .int .i64 g.nons, vp'] 24, rowO 57 2 vp' i ((List.range i).flatMap (pcR g.prods gb)), famP (fun j => j < i) (roomF g.prods gb)]) (fun (i, _, _) => g.prods.length - i) (0, .slice none 0 0, fun _ => 0) (Nat.zero_le _) (by repeat' (first | exact True.intro | refine And.intro rfl ?_)) rfl ?_
  rintro ⟨i, vp', gb⟩ i1
  dsimp only at i1 ⊢
  by_cases c1 : i < g.prods.length
  · obtain ⟨b, off, rfl, -, hr⟩ := hrp (by omega)
    obtain ⟨base, cap, q1, q2, q3⟩ := prod_at hr c1
    have hb := hb8 _ (List.getElem_mem c1)
    have hpe : prodAt g.prods (i : Int) = g.prods[i] := by unfold prodAt; rw [Int.toNat_natCast, List.getD_eq_getElem?_getD, List.getElem?_eq_getElem c1]; rfl
    have hupd := fun gB => @pcR_upd g.prods gb i gB
    rw [hpe] at hupd
    have hF : ∀ gB, blkO gB (rmC g.prods[i].2) 60 = roomF g.prods (fun j => if j = i then gB else gb j) i := fun gB => by
      unfold roomF
      rw [hpe]
      show _ = blkO (if i = i then gB else gb i) _ _
      rw [if_pos rfl]
    have hq := fun (L : List Own) (j : Nat) (u : Value) (hj : ([.int .i64 g.prods[i].1, .slice base g.prods[i].2.length cap] : List Value)[j]? = some u) => (at_old (L := L) (q1 j u hj) : At (w : Base) L ⟨b, off + i * 2 + j, none⟩ u)
    have hsl := q3.flat (f := symC) (by decide)
    clear hr hrp q1 q3
    generalize g.prods[i] = p at *
    obtain ⟨hd, bd⟩ := p
    dsimp only at *
    repeat(first|refine QV QP ?_|refine QZ ?_|refine qcT rfl ?_|refine qcF rfl ?_|refine E_blockX ?_|refine E_blockO rfl ?_|refine QV (rr_idxc Und.eq TyC.ty rfl rfl c1) ?_|refine QV (rr_loadN (cs := [.int .i64 hd, .slice base bd.length cap]) TyC.ty rfl rfl (hq _)) ?_|refine QV QL ?_|refine QV QA ?_|refine QV QlT ?_|refine QV QlF ?_|refine QV QaA ?_)
    refine TL_new rfl fun g5 => ?_
    conv=>arg 8;simp only[zA,zB,zC,zD,zE,zF,zG,zH,zI,rowS,ret,id_eq]
    refine TL_storeB (i := 4) (cs' := #[.int .i64 hd, .slice base bd.length cap]) rfl rfl rfl rfl rfl rfl ?_
    conv=>arg 8;simp only[zA,zB,zC,zD,zE,zF,zG,zH,zI,rowS,ret,id_eq]
    repeat(first|refine QV QP ?_|refine QZ ?_|refine qcT rfl ?_|refine qcF rfl ?_|refine E_blockX ?_|refine E_blockO rfl ?_|refine QV QL ?_|refine QV QA ?_|refine QV QlT ?_|refine QV QlF ?_|refine QV QaA ?_)
    refine T_ord ([blkO g5 #[.int .i64 hd, .slice base bd.length cap] 57]) (.calm 0 (.calm 2 (.calm 3 (.calm 4 (.calm 5 (.calm 6 (.two 1 (.one 7 (.calm 8 (.one 9 (.one 10 (.calm 11 (.one 12 (.done))))))) 7 (.calm 8 (.two 1 (.one 9 (.one 10 (.calm 11 (.one 12 (.done))))) 9 (.one 1 (.one 10 (.calm 11 (.one 12 (.done)))))))))))))) (sub_pick [4] (by decide) rfl) (by kernel_rfl) (by kernel_rfl) (by intro c a d v w h; cases d <;> exact h) ?_
    repeat(first|((first|refine TW_plain rfl rfl ?_|refine TW_gmet rfl rfl rfl rfl ?_);first|refine QW QP ?_|refine QW (rr_load1 (v := .int .i64 hd) TyC.ty rfl (at_blk (i := 0) rfl rfl)) ?_|refine QW (rr_load1 (v := .slice base bd.length cap) TyC.ty rfl (at_blk (i := 0) rfl rfl)) ?_|refine QW (rr_build rfl build_sym7) ?_|refine QW QL ?_|refine QW QA ?_|refine QW QlT ?_|refine QW QlF ?_|refine QW QaA ?_)|refine TW_done ?_)
    refine TW_two rfl rfl ?rw1 ?rw2
    case' rw1 =>
      refine TL_val (rr_load1 (v := vp') TyC.ty rfl (at_blk (i := 1) rfl rfl)) rfl rfl rfl (TW_on (sub_pick [4] (by decide) rfl) ?_)
      refine TW_one rfl (TL_call (he2 EntersC.en rfl rfl rfl) (fun w' hm => roomySymZ_calls _ bd (7, 0) w' (hsl.gr hm.below) (by omega) (by intro u hu; simp [symC] at hu; rcases hu with rfl | rfl <;> rfl)) rfl rfl rfl ?_)
      intro gB _
      conv=>arg 8;simp only[zA,zB,zC,zD,zE,zF,zG,zH,zI,rowS,ret,id_eq]
      refine TW_on (sub_pick [4] (by decide) rfl) ?_
      repeat(first|((first|refine TW_plain rfl rfl ?_|refine TW_gmet rfl rfl rfl rfl ?_);first|refine QW QP ?_|refine QW (rr_build rfl (build_prod _ _ _ _)) ?_|refine QW QL ?_|refine QW QA ?_|refine QW QlT ?_|refine QW QlF ?_|refine QW QaA ?_)|refine TW_done ?_)
      refine TW_one rfl (TL_one (cs := #[.int .i64 hd, .slice (some ⟨gB, 0, none⟩) bd.length (bd.length + 3)]) rfl rfl rfl rfl rfl fun g9 => TW_on (sub_pick [4] (by decide) rfl) ?_)
    case' rw2 =>
      refine TL_call (he2 EntersC.en rfl rfl rfl) (fun w' hm => roomySymZ_calls _ bd (7, 0) w' (hsl.gr hm.below) (by omega) (by intro u hu; simp [symC] at hu; rcases hu with rfl | rfl <;> rfl)) rfl rfl rfl ?_
      intro gB _
      conv=>arg 8;simp only[zA,zB,zC,zD,zE,zF,zG,zH,zI,rowS,ret,id_eq]
      refine TW_on (sub_pick [4] (by decide) rfl) ?_
      repeat(first|((first|refine TW_plain rfl rfl ?_|refine TW_gmet rfl rfl rfl rfl ?_);first|refine QW QP ?_|refine QW (rr_build rfl (build_prod _ _ _ _)) ?_|refine QW QL ?_|refine QW QA ?_|refine QW QlT ?_|refine QW QlF ?_|refine QW QaA ?_)|refine TW_done ?_)
      refine TW_two rfl rfl ?rw3 ?rw4
    case' rw3 =>
      refine TL_val (rr_load1 (v := vp') TyC.ty rfl (at_blk (i := 1) rfl rfl)) rfl rfl rfl (TW_on (sub_pick [4] (by decide) rfl) ?_)
      refine TW_one rfl (TL_one (cs := #[.int .i64 hd, .slice (some ⟨gB, 0, none⟩) bd.length (bd.length + 3)]) rfl rfl rfl rfl rfl fun g9 => TW_on (sub_pick [4] (by decide) rfl) ?_)
    case' rw4 =>
      refine TL_one (cs := #[.int .i64 hd, .slice (some ⟨gB, 0, none⟩) bd.length (bd.length + 3)]) rfl rfl rfl rfl rfl fun g9 => TW_on (sub_pick [4] (by decide) rfl) ?_
      refine TW_one rfl (TL_val (rr_load1 (v := vp') TyC.ty rfl (at_blk (i := 1) rfl rfl)) rfl rfl rfl (TW_on (sub_pick [4] (by decide) rfl) ?_))
    all_goals
      refine TW_one rfl (TL_app1 (i := 2) (q := 6) rfl rfl rfl rfl rfl rfl (by omega) (by omega) rfl fun v' => TW_on (sub_pick [4] (by decide) rfl) ?_)
      repeat(first|((first|refine TW_plain rfl rfl ?_|refine TW_gmet rfl rfl rfl rfl ?_);first|refine QW QP ?_|refine QW QL ?_|refine QW QA ?_|refine QW QlT ?_|refine QW QlF ?_|refine QW QaA ?_)|refine TW_done ?_)
      refine TW_one rfl (TL_slv (i := 2) rfl fun hv1 hv2 => TL_store1 (i := 1) rfl rfl rfl hv1 hv2 rfl (TW_on (sub_pick [4] (by decide) rfl) ?_))
      repeat(first|((first|refine TW_plain rfl rfl ?_|refine TW_gmet rfl rfl rfl rfl ?_);first|refine QW QP ?_|refine QW QL ?_|refine QW QA ?_|refine QW QlT ?_|refine QW QlF ?_|refine QW QaA ?_)|refine TW_done ?_)
      refine E_put (D' := fun j => j < i + 1) (f' := roomF g.prods (fun j => if j = i then gB else gb j)) i 3 5 [0, 1, 2] (by decide) rfl rfl rfl (Nat.lt_irrefl i) (fun j hj => by
        have hj : j < i + 1 := hj
        by_cases e : j = i
        · exact .inr e
        · exact .inl (by show j < i; omega)) (fun j hj => by
        by_cases e : j = i
        · subst e
          rw [upd_eq]
          exact (hF gB).symm
        · rw [upd_ne e]
          unfold roomF
          dsimp only
          rw [if_neg e]) ?_
      repeat(first|refine QV QP ?_|refine QZ ?_|refine qcT rfl ?_|refine qcF rfl ?_|refine E_blockX ?_|refine E_blockO rfl ?_|refine QV QL ?_|refine QV QA ?_|refine QV QlT ?_|refine QV QlF ?_|refine QV QaA ?_)
      exact E_round (i + 1, v', fun j => if j = i then gB else gb j) (by show i + 1 ≤ g.prods.length; omega) (by show g.prods.length - (i + 1) < g.prods.length - i; omega) (by repeat' (first | exact True.intro | refine And.intro rfl ?_)) (by rw [hupd gB]; rfl)
  · obtain rfl : i = g.prods.length := by omega
    refine T_slv (i := 2) rfl fun hv1 hv2 => ?_
    repeat(first|refine QV QP ?_|refine QZ ?_|refine qcT rfl ?_|refine qcF rfl ?_|refine E_blockX ?_|refine E_blockO rfl ?_|refine QV (rr_loadB (i := 1) TyC.ty rfl rfl rfl) ?_|refine QV QL ?_|refine QV QA ?_|refine QV QlT ?_|refine QV QlF ?_|refine QV QaA ?_)
    refine TL_storeB (i := 0) (cs' := #[.int .i64 g.terms, .int .i64 g.nons, vp']) rfl rfl rfl rfl (by simp only [List.all_cons, List.all_nil, hv2]; rfl) rfl ?_
    conv=>arg 8;simp only[zA,zB,zC,zD,zE,zF,zG,zH,zI,rowS,ret,id_eq]
    repeat(first|refine QV QP ?_|refine QZ ?_|refine qcT rfl ?_|refine qcF rfl ?_|refine E_blockX ?_|refine E_blockO rfl ?_|refine QV QL ?_|refine QV QA ?_|refine QV QlT ?_|refine QV QlF ?_|refine QV QaA ?_)
    exact E_retc1 (i := 0) rfl rfl rfl rfl fun w hm => hm.meets (S := roomS g) (vp', gb) trivial [2, 3] (by decide) rfl
end Go.Proofs.Ytomkjjpdnmcnnaa.eng


/- GrT -/
namespace Go.Proofs.Ytomkjjpdnmcnnaa.eng
open Go.RowKit kit mix gramL treeL
def pcT (x : Int × Nat × Nat) : List Value := [.int .i64 x.1, .slice (some ⟨x.2.1, 0, none⟩) x.2.2 (x.2.2 + 3)]
def pcN (l : List gramL.Prod) (gb : Nat → Nat) (i : Nat) : Int × Nat × Nat := ((prodAt l (i : Int)).1, gb i, (prodAt l (i : Int)).2.length)
def pcL (l : List gramL.Prod) (gb : Nat → Nat) : List (Int × Nat × Nat) := (List.range l.length).map (pcN l gb)
theorem pcL_len (l : List gramL.Prod) (gb : Nat → Nat) : (pcL l gb).length = l.length := by unfold pcL; simp
theorem pcL_flat (l : List gramL.Prod) (gb : Nat → Nat) : (List.range l.length).flatMap (pcR l gb) = (pcL l gb).flatMap pcT := by
  unfold pcL
  rw [List.flatMap_map]
  rfl
end Go.Proofs.Ytomkjjpdnmcnnaa.eng


