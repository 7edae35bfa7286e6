/- Part 6 of what LrOne needs: LrK, LrC, LrM, LrN, Opens, BeginL, LrP, LrT, CountE, LrOneW. -/
import Derived.Test.YtdbghmgajmlkmaaMgE
import Derived.WalkKit
import Derived.WalkSpells
import Derived.WalkLawsBesides
import Derived.Deep.RegionLaw
import Derived.Deep.AppendLies
import Derived.Deep.QuietTactic
import Derived.BigQuiet
import Derived.Deep.DeepCutAuto
import Derived.Lib.Hide
import Derived.Test.YtdbghmgajmlkmaaRows
import Derived.ProofKit
import Derived.OpenShut
import Derived.ShutString
import Derived.SizedLaws
import Derived.JoinedCond
import Derived.Deep.CondSized
import Derived.Deep.Quiet
import Derived.StillTail
import Derived.Deep.LoopGhost
import Derived.Laws.BitsLemmas
import Derived.Laws.BytesString
import Derived.Test.YtdbghmgajmlkmaaProg
import Derived.Laws.StructEq
import Derived.Laws.MakeOwn
import Derived.Laws.AppendOwn
import Derived.Laws.Entries
import Derived.Maps.OwnSet
import Derived.DeepKeys4
import Derived.WideKeyEntry
import Derived.Sort.Grow
import Derived.Lib.Walk
import Derived.Deep.RegionWith
import Derived.Deep.RegionHeld
import Derived.StringKeys
import Derived.Laws.BitsAllLaws
import Derived.Shelf.SlGeneric
import Derived.Shelf.SlSortCmp.NoneTotal
import Derived.Ground.SlsfProg
/- LrK -/
namespace Go.Proofs.Ytdbghmgajmlkmaa.eng
open Go.RowKit kit mix gramL treeL factsL itemL smallL
section
variable {P : Program} {n : Nat} {W : Base} {fr : Fr} {L : List Own} {Q : Exit → Act → World → Prop} {ops : Array Oper} {rest : List Oper} {d : Nat} {ty : TypeId} {pos : String} {after : Array Edge}
/-- 'make([]T, m)', T of some cells: an own row -/
theorem TL_makeRowN {α : Type} {f : α → List Value} {c : Nat} (hc : ∀ a, (f a).length = c) (h0 : 0 < c) (z : α) {t e : TypeId} {x y : Operand} {bytes m : Nat} {k k' : IntKind} {zs : Array Value} [ElC P t e c bytes] [ZeroC P e zs] (hz : zs.toList = f z) (hx : ev fr x = some (.int k (m : Int))) (hy : ev fr y = some (.int k' (m : Int))) (hb : bytes * m ≤ 281474976710656) (h63 : m ≤ 9223372036854775807) (hn : Nat.blt d n = true)
    (h : ∀ g, TL P n W ops Q rest ((d, .slice (some ⟨g, 0, none⟩) m m) :: fr) (L ++ [rowO e c (.slice (some ⟨g, 0, none⟩) m m) m ((List.replicate m z).flatMap f)])) : TL P n W ops Q (⟨some d, .makeSlice t x y, ty, pos, after, none⟩ :: rest) fr L := by
  refine TL_makeB hx hy (Nat.le_refl _) hb h63 hn fun g => TL_toRowN (i := L.length) c (List.getElem?_concat_length ..) (by rw [size_madeCells]) (Nat.le_refl _) h63 ?_
  have hsz : zs.size = c := by rw [← Array.length_toList, hz, hc]
  have hl : (madeCells zs (m * c)).toList.take (m * c) = (List.replicate m z).flatMap f := by
    rw [madeC hsz h0, List.take_of_length_le (by simp [hz, hc]), hz, List.flatMap_def, List.map_replicate]
  rw [hl]
  have := h g
  rwa [List.set_append_right _ _ (Nat.le_refl _), Nat.sub_self, List.set_cons_zero]
end
abbrev Fgt := Int × Int × itemL.Act × itemL.Act
def fgtC (x : Fgt) : List Value := [.int .i64 x.1, .int .i64 x.2.1, .int .i64 x.2.2.1.1, .int .i64 x.2.2.1.2, .int .i64 x.2.2.2.1, .int .i64 x.2.2.2.2]
def actS : Shp itemL.Act := flatS actC 2 (fun _ => rfl) (fun _ => True)
section
variable (l : List gramL.Prod) (T : Nat) (Nx : List (List Int)) (S : List (List itemL.Item))
abbrev actsQ (q c : Nat) : List itemL.Act := actsI l T (S.getD q []) (Nx.getD q []) c
/-- a column's fights -/
def fightsC (q c : Nat) : List Fgt := (actsQ l T Nx S q c).tail.map fun x => ((q : Int), (c : Int), (actsQ l T Nx S q c).headD (0, 0), x)
def fightsR (q : Nat) : Nat → List Fgt
  | 0 => []
  | c + 1 => fightsR q c ++ fightsC l T Nx S q c
def fightsA : Nat → List Fgt
  | 0 => []
  | q + 1 => fightsA q ++ fightsR l T Nx S q (T + 1)
def actRow (q c : Nat) : List itemL.Act := (List.range (T + 1)).map fun j => if j < c then actAt l T Nx S q j else (0, 0)
def actTab (n : Nat) : List (List itemL.Act) := (List.range n).map fun q => actRow l T Nx S q (T + 1)
def gotoTab (n : Nat) : List (List Int) := (List.range n).map fun q => (Nx.getD q []).drop T
end
/-- what Make tells -/
def outT (g : Gram) : List (List itemL.Act) × List (List Int) × List Fgt × Int := if (outA g).2.2 ≠ 0 then ([], [], [], (outA g).2.2) else (actTab g.prods g.terms.toNat (outA g).1 (outA g).2.1 (outA g).2.1.length, gotoTab g.terms.toNat (outA g).1 (outA g).2.1.length, fightsA g.prods g.terms.toNat (outA g).1 (outA g).2.1 (outA g).2.1.length, 0)
/-- tables in memory -/
structure TabX where
  vA : Value
  vas : List Value
  FA : Nat → Prop
  vG : Value
  vgs : List Value
  FG : Nat → Prop
def tabL (x : TabX) (A : List (List itemL.Act)) (G : List (List Int)) : List Own := [rowO 70 1 x.vA A.length x.vas, elsO (sliceS actS) x.FA (x.vas.map fun v => [v]) A, rowO 46 1 x.vG G.length x.vgs, elsO (sliceS intS) x.FG (x.vgs.map fun v => [v]) G]
def makeTS (g : Gram) : Spec (TabX × Value) := ⟨fun _ => True, fun x => .tuple #[.agg #[x.1.vA, x.1.vG], x.2, .int .i64 (outT g).2.2.2], fun x => tabL x.1 (outT g).1 (outT g).2.1 ++ [rowO 74 6 x.2 (outT g).2.2.1.length ((outT g).2.2.1.flatMap fgtC)]⟩
theorem build_tab0 (w : World) : (Instr.build 28 (#[] : Array (Nat × Value))).run Try.prog w = .ok (.agg #[.slice none 0 0, .slice none 0 0]) w := by kernel_rfl
theorem build_fgt (q c : Int) (a b : itemL.Act) (w : World) : (Instr.build 74 #[(0, .int .i64 q), (1, .int .i64 c), (2, .agg (actC a).toArray), (3, .agg (actC b).toArray)]).run Try.prog w = .ok (.agg (fgtC (q, c, a, b)).toArray) w := by kernel_rfl
theorem act_of_row {w : World} {v : Value} {l : List itemL.Act} (h : (rowO 72 2 v l.length (l.flatMap actC)).holds w) : (sliceS actS).is (fun k => v.ownBlock = some k) w [v] l :=
  ⟨v, rfl, SlF.of_flat (Sl.of_own h) (fun _ _ => trivial) (fun _ h => h) (fun a n cp hv => by rw [hv]; rfl)⟩
theorem actRow_len {l : List gramL.Prod} {T : Nat} {Nx : List (List Int)} {S : List (List itemL.Item)} {q c : Nat} : (actRow l T Nx S q c).length = T + 1 := by unfold actRow; rw [List.length_map, List.length_range]
theorem actRow_0 {l : List gramL.Prod} {T : Nat} {Nx : List (List Int)} {S : List (List itemL.Item)} {q : Nat} : actRow l T Nx S q 0 = List.replicate (T + 1) (0, 0) := by
  unfold actRow
  apply List.ext_getElem?
  intro j
  by_cases h : j < T + 1
  · simp [h]
  · simp [h]
theorem actRow_set {l : List gramL.Prod} {T : Nat} {Nx : List (List Int)} {S : List (List itemL.Item)} {q c : Nat} (hc : c < T + 1) : (actRow l T Nx S q c).set c (actAt l T Nx S q c) = actRow l T Nx S q (c + 1) := by
  unfold actRow
  apply List.ext_getElem?
  intro j
  rw [List.getElem?_set]
  by_cases h : j < T + 1
  · by_cases e : c = j
    · subst e; simp [h]
    · rw [if_neg e]
      simp only [List.getElem?_map, List.getElem?_range h, Option.map_some]
      by_cases e2 : j < c
      · rw [if_pos e2, if_pos (by omega)]
      · rw [if_neg e2, if_neg (by omega)]
  · have h1 : (List.range (T + 1))[j]? = none := List.getElem?_eq_none (by rw [List.length_range]; omega)
    simp only [List.getElem?_map, h1, Option.map_none]
    split
    · rename_i e; subst e; exact absurd hc h
    · rfl
theorem actRow_none {l : List gramL.Prod} {T : Nat} {Nx : List (List Int)} {S : List (List itemL.Item)} {q c : Nat} (h : actsQ l T Nx S q c = []) : actRow l T Nx S q (c + 1) = actRow l T Nx S q c := by
  unfold actRow
  apply List.map_congr_left
  intro j hj
  by_cases e : j = c
  · subst e
    rw [if_pos (Nat.lt_succ_self _), if_neg (Nat.lt_irrefl _)]
    unfold actAt
    rw [show actsI l T (S.getD q []) (Nx.getD q []) j = [] from h]; rfl
  · by_cases e2 : j < c
    · rw [if_pos e2, if_pos (by omega)]
    · rw [if_neg e2, if_neg (by omega)]
theorem fights_len {l : List gramL.Prod} {T : Nat} {Nx : List (List Int)} {S : List (List itemL.Item)} {q : Nat} {M : Nat} (h : (S.getD q []).length ≤ M) : ∀ c, (fightsR l T Nx S q c).length ≤ c * (M + 1)
  | 0 => Nat.zero_le _
  | c + 1 => by
    rw [fightsR, List.length_append, Nat.succ_mul]
    have h2 : (fightsC l T Nx S q c).length ≤ M + 1 := by
      unfold fightsC
      rw [List.length_map, List.length_tail]
      have : (actsQ l T Nx S q c).length ≤ 1 + (S.getD q []).length := by rw [actsQ, ← actsK_all]; exact actsK_len
      omega
    have := fights_len (l := l) (T := T) (Nx := Nx) h c
    omega
theorem fightsA_len {l : List gramL.Prod} {T : Nat} {Nx : List (List Int)} {S : List (List itemL.Item)} {M : Nat} (h : ∀ q, (S.getD q []).length ≤ M) : ∀ q, (fightsA l T Nx S q).length ≤ q * ((T + 1) * (M + 1))
  | 0 => Nat.zero_le _
  | q + 1 => by
    rw [fightsA, List.length_append, Nat.succ_mul]
    have := fightsA_len (l := l) (T := T) (Nx := Nx) h q
    have := fights_len (l := l) (T := T) (Nx := Nx) (h q) (T + 1)
    omega
theorem fightsR_mono {l : List gramL.Prod} {T : Nat} {Nx : List (List Int)} {S : List (List itemL.Item)} {q c : Nat} : ∀ {d : Nat}, c ≤ d → (fightsR l T Nx S q c).length ≤ (fightsR l T Nx S q d).length
  | 0, h => by obtain rfl : c = 0 := by omega
               exact Nat.le_refl _
  | d + 1, h => by
    by_cases e : c = d + 1
    · subst e; exact Nat.le_refl _
    · rw [fightsR, List.length_append]
      have := fightsR_mono (l := l) (T := T) (Nx := Nx) (S := S) (q := q) (c := c) (d := d) (by omega)
      omega
theorem actTab_succ {l : List gramL.Prod} {T : Nat} {Nx : List (List Int)} {S : List (List itemL.Item)} (n : Nat) : actTab l T Nx S (n + 1) = actTab l T Nx S n ++ [actRow l T Nx S n (T + 1)] := by unfold actTab; rw [List.range_succ, List.map_append]; rfl
theorem gotoTab_succ {T : Nat} {Nx : List (List Int)} (n : Nat) : gotoTab T Nx (n + 1) = gotoTab T Nx n ++ [(Nx.getD n []).drop T] := by unfold gotoTab; rw [List.range_succ, List.map_append]; rfl
theorem actTab_len {l : List gramL.Prod} {T : Nat} {Nx : List (List Int)} {S : List (List itemL.Item)} (n : Nat) : (actTab l T Nx S n).length = n := by unfold actTab; rw [List.length_map, List.length_range]
theorem gotoTab_len {T : Nat} {Nx : List (List Int)} (n : Nat) : (gotoTab T Nx n).length = n := by unfold gotoTab; rw [List.length_map, List.length_range]
set_option maxHeartbeats 16000000 in
theorem lrMake_calls (v : Value) (g : Gram) (w : World) (hG : GraR (fun k => k < w.heap.size) w v g) :
    Calls Try.prog 10 #[v] w (Meets (makeTS g) w) := by
  have hG0 := hG
  have hal := fun w' (hg : Gr w w') => all_calls v g w' (hG.gr hg)
  have hac := fun T hTt hT bS oS lS cS bN oN lN cN n vs1 vn1 s nx w' (hg : Gr w w') => lrActs_calls v g T hTt hT bS oS lS cS bN oN lN cN n vs1 vn1 s nx w' (hG.gr hg)
  obtain ⟨vp, rfl, -⟩ := hG
  have hb0 := build_tab0
  have hO : outT g = if (outA g).2.2 ≠ 0 then ([], [], [], (outA g).2.2) else (actTab g.prods g.terms.toNat (outA g).1 (outA g).2.1 (outA g).2.1.length, gotoTab g.terms.toNat (outA g).1 (outA g).2.1.length, fightsA g.prods g.terms.toNat (outA g).1 (outA g).2.1 (outA g).2.1.length, 0) := rfl
  unfold makeTS tabL
  refine enter (args := [graV g.terms g.nons vp]) (n := 92) Try.func10 rfl rfl rfl ?_
  refine T_seq (T_region (TL_box rfl rfl rfl fun g1 => ?_))
  conv => arg 8; simp only [zA, zB, zC, zD, zE, zF, zG, zH, zI, rowS, ret, id_eq]
  repeat (first
    | refine QV QP ?_ | refine QZ ?_ | refine qcT rfl ?_ | refine qcF rfl ?_ | refine E_blockX ?_ | refine E_blockO rfl ?_ | refine QV QL ?_
    | refine QV QA ?_ | refine QV QlT ?_ | refine QV QlF ?_ | refine QV QeT ?_ | refine QV QeF ?_ | refine QV QnT ?_ | refine QV QnF ?_ | refine QV QaA ?_)
  refine TL_new rfl fun g2 => ?_
  conv => arg 8; simp only [zA, zB, zC, zD, zE, zF, zG, zH, zI, rowS, ret, id_eq]
  repeat (first
    | refine QV QP ?_ | refine QZ ?_ | refine qcT rfl ?_ | refine qcF rfl ?_ | refine E_blockX ?_ | refine E_blockO rfl ?_
    | refine QV (rr_loadB (i := 0) TyC.ty rfl rfl rfl) ?_ | refine QV QL ?_ | refine QV QA ?_ | refine QV QlT ?_ | refine QV QlF ?_ | refine QV QeT ?_
    | refine QV QeF ?_ | refine QV QnT ?_ | refine QV QnF ?_ | refine QV QaA ?_)
  refine TL_call (he1 EntersC.en rfl rfl) (fun w hm => hal w hm.below) rfl rfl rfl ?_
  rintro ⟨vS, vN, vss, F, vns, FN⟩ _
  conv => arg 8; simp only [zA, zB, zC, zD, zE, zF, zG, zH, zI, rowS, ret, id_eq, allS]
  conv => arg 7; simp only [allS]
  have hok := outA_ok (g := g)
  have hno := outA_no (g := g)
  obtain ⟨⟨Nx, S, e⟩, hOA⟩ : ∃ R, outA g = R := ⟨_, rfl⟩
  rw [hOA] at hok hno hO
  rw [hOA]
  dsimp only at hok hno hO ⊢
  refine TL_know (i := 2) rfl row_slm fun hrow => ?_
  obtain ⟨aS, cS, rfl, -, haS⟩ := hrow
  refine TL_know (i := 4) rfl row_slm fun hrow => ?_
  obtain ⟨aN, cN, rfl, -, haN⟩ := hrow
  clear hOA hal
  repeat (first
    | refine QV QP ?_ | refine QZ ?_ | refine qcT rfl ?_ | refine qcF rfl ?_ | refine E_blockX ?_ | refine E_blockO rfl ?_ | refine QV QL ?_
    | refine QV QA ?_ | refine QV QlT ?_ | refine QV QlF ?_ | refine QV QeT ?_ | refine QV QeF ?_ | refine QV QnT ?_ | refine QV QnF ?_ | refine QV QaA ?_)
  refine TL_new rfl fun g5 => ?_
  conv => arg 8; simp only [zA, zB, zC, zD, zE, zF, zG, zH, zI, rowS, ret, id_eq]
  refine TL_storeB (i := 6) (cs' := #[.slice aS S.length cS, .slice aN Nx.length cN]) rfl rfl rfl rfl rfl rfl ?_
  conv => arg 8; simp only [zA, zB, zC, zD, zE, zF, zG, zH, zI, rowS, ret, id_eq]
  repeat (first
    | refine QV QP ?_ | refine QZ ?_ | refine qcT rfl ?_ | refine qcF rfl ?_ | refine E_blockX ?_ | refine E_blockO rfl ?_ | refine QV QL ?_
    | refine QV QA ?_ | refine QV QlT ?_ | refine QV QlF ?_ | refine QV QeT ?_ | refine QV QeF ?_ | refine QV QnT ?_ | refine QV QnF ?_ | refine QV QaA ?_)
  by_cases c0 : e = 0
  · subst c0
    rw [if_neg (by simp)] at hO
    obtain ⟨hg, hA⟩ := hok rfl
    obtain ⟨hT1, hT2, hN1, hN2, hpl, hgb⟩ := checkG_ok hg
    have hwl : ∀ q ∈ g.prods, q.2.length ≤ 8 := fun q hq => (hgb q hq).1
    obtain ⟨T, hTt⟩ : ∃ T : Nat, g.terms = (T : Int) := ⟨g.terms.toNat, by omega⟩
    obtain ⟨N, hNn⟩ : ∃ N : Nat, g.nons = (N : Int) := ⟨g.nons.toNat, by omega⟩
    have hTn : g.terms.toNat = T := by omega
    rw [hTn, show g.nons.toNat = N by omega] at hA
    rw [hTn] at hO
    have hT : T ≤ 30 := by omega
    have hI := allI_law hwl hpl hT hA
    have hfew := all_few hwl hpl hT hA
    have hS0 : 0 < S.length := (List.getElem?_eq_some_iff.1 hI.start).1
    have hS2 := hI.few
    have hNl := hI.len
    have hac := hac T hTt hT
    obtain ⟨gS, rfl⟩ := haS hS0
    obtain ⟨gN, rfl⟩ := haN (by omega)
    clear hok hno haS haN
    rw [hTt, hO]
    rw [hTt] at hac
    repeat (first
      | refine QV QP ?_ | refine QZ ?_ | refine qcT rfl ?_ | refine qcF rfl ?_ | refine E_blockX ?_ | refine E_blockO rfl ?_ | refine QV QL ?_
      | refine QV QA ?_ | refine QV QlT ?_ | refine QV QlF ?_ | refine QV QeT ?_ | refine QV QeF ?_ | refine QV QnT ?_ | refine QV QnF ?_ | refine QV QaA ?_)
    refine TL_new rfl fun g7 => ?_
    conv => arg 8; simp only [zA, zB, zC, zD, zE, zF, zG, zH, zI, rowS, ret, id_eq]
    repeat (first
      | refine QV QP ?_ | refine QZ ?_ | refine qcT rfl ?_ | refine qcF rfl ?_ | refine E_blockX ?_ | refine E_blockO rfl ?_
      | refine QV (rr_load1 (v := .slice (some ⟨gS, 0, none⟩) S.length cS) TyC.ty rfl (at_blk (i := 6) rfl rfl)) ?_ | refine QV QL ?_ | refine QV QA ?_
      | refine QV QlT ?_ | refine QV QlF ?_ | refine QV QeT ?_ | refine QV QeF ?_ | refine QV QnT ?_ | refine QV QnF ?_ | refine QV QaA ?_)
    refine T_nil 70 1 (T_extra (elsO (sliceS actS) (fun _ => False) [] []) (fun k hk => hk.elim (fun h => by cases h) id) (fun w => els_nil) (T_nil 46 1 (T_extra (elsO (sliceS intS) (fun _ => False) [] []) (fun k hk => hk.elim (fun h => by cases h) id) (fun w => els_nil) (T_nil 74 6 ?_))))
    conv => arg 7; simp only [zA, zB, zC, zD, zE, zF, zG, zH, zI, rowS, ret, id_eq]
    refine T_loop (ι := Nat × TabX × Value) (fun (n, _, _) => n ≤ S.length) (fun (n, _, vf) => [(1, .pointer (some ⟨g1, 0, none⟩)), (2, .pointer (some ⟨g2, 0, none⟩)), (5, .pointer (some ⟨g5, 0, none⟩)), (7, .pointer (some ⟨g7, 0, none⟩)), (8, vf), (26, .int .i64 (S.length : Int)), (27, .int .i64 (n : Int))])
      (fun (n, x, vf) => [blkO g1 (graV (T : Int) g.nons vp).cells 24, blkO g2 #[.slice none 0 0, .slice none 0 0] 28, rowO 99 1 (.slice (some ⟨gS, 0, none⟩) S.length cS) S.length vss, elsO (sliceS itS) F (vss.map fun v => [v]) S, rowO 46 1 (.slice (some ⟨gN, 0, none⟩) Nx.length cN) Nx.length vns, elsO (sliceS intS) FN (vns.map fun v => [v]) Nx, blkO g5 #[.slice (some ⟨gS, 0, none⟩) S.length cS, .slice (some ⟨gN, 0, none⟩) Nx.length cN] 67, blkO g7 #[x.vA, x.vG] 28, rowO 70 1 x.vA (actTab g.prods T Nx S n).length x.vas, elsO (sliceS actS) x.FA (x.vas.map fun v => [v]) (actTab g.prods T Nx S n), rowO 46 1 x.vG (gotoTab T Nx n).length x.vgs, elsO (sliceS intS) x.FG (x.vgs.map fun v => [v]) (gotoTab T Nx n), rowO 74 6 vf (fightsA g.prods T Nx S n).length ((fightsA g.prods T Nx S n).flatMap fgtC)]) (fun (n, _, _) => S.length - n) (0, ⟨.slice none 0 0, [], fun _ => False, .slice none 0 0, [], fun _ => False⟩, .slice none 0 0) (Nat.zero_le _) (by repeat' (first | exact True.intro | refine And.intro rfl ?_)) rfl ?_
    rintro ⟨n, x, vf⟩ i1
    dsimp only at i1 ⊢
    by_cases c1 : n < S.length
    · have hnN : n < Nx.length := by omega
      have hSn : S.getD n [] = S[n] := by rw [List.getD_eq_getElem?_getD, List.getElem?_eq_getElem c1]; rfl
      have hNn' : Nx.getD n [] = Nx[n] := by rw [List.getD_eq_getElem?_getD, List.getElem?_eq_getElem hnN]; rfl
      have hsr := hI.ss.right S[n] (List.getElem_mem c1)
      have hwd := hI.wide n c1
      rw [hNn'] at hwd
      have hsl := hfew S[n] (List.getElem_mem c1)
      refine T_know (i := 3) rfl (fun w h => els_count h) fun hvl => ?_
      refine T_know (i := 5) rfl (fun w h => els_count h) fun hnl => ?_
      have hvq : vss[0 + n]? = some (vss[n]'(by omega)) := by rw [Nat.zero_add]; exact List.getElem?_eq_getElem _
      have hvq2 : vss[n]? = some (vss[n]'(by omega)) := List.getElem?_eq_getElem _
      generalize vss[n]'(by omega) = vq at hvq hvq2
      have hnq : vns[0 + n]? = some (vns[n]'(by omega)) := by rw [Nat.zero_add]; exact List.getElem?_eq_getElem _
      have hnq2 : vns[n]? = some (vns[n]'(by omega)) := List.getElem?_eq_getElem _
      generalize vns[n]'(by omega) = nq at hnq hnq2
      refine T_know (i := 5) rfl (fun w h => And.intro (els_form h hnN hnq2) (SlF.okp (els_is h hnN hnq2))) fun hform => ?_
      obtain ⟨⟨aq, cq, rfl, hcq, hcq2, -⟩, hoks⟩ := hform
      have hfl : (fightsA g.prods T Nx S n ++ fightsR g.prods T Nx S n (T + 1)).length ≤ 100000000 := by
        have h1 := fightsA_len (l := g.prods) (T := T) (Nx := Nx) (S := S) (M := 11439) (fun q => by
          by_cases hq : q < S.length
          · rw [List.getD_eq_getElem?_getD, List.getElem?_eq_getElem hq]; exact hfew _ (List.getElem_mem hq)
          · rw [List.getD_eq_getElem?_getD, List.getElem?_eq_none (by omega)]; exact Nat.zero_le _) (n + 1)
        rw [fightsA] at h1
        exact Nat.le_trans h1 (Nat.le_trans (Nat.mul_le_mul (show n + 1 ≤ 200 by omega) (Nat.mul_le_mul (show T + 1 ≤ 31 by omega) (Nat.le_refl _))) (by decide))
      have hS1 := fun (L : List Own) (i : Nat) (hL : L[i]? = some (elsO (sliceS itS) F (vss.map fun v => [v]) S)) => els_sl (W := (w : Base)) (L := L) (f := itC) (c := 3) (by decide) hL c1 hvq2
      have hN1 : ∀ (L : List Own) (i : Nat) (hL : L[i]? = some (elsO (sliceS intS) FN (vns.map fun v => [v]) Nx)), SlL (w : Base) L (.slice aq Nx[n].length cq) Nx[n].length (Nx[n].map (Value.int .i64)) := fun L i hL w' hm' => by
        have := els_sl (W := (w : Base)) (L := L) (f := fun n => [Value.int .i64 n]) (c := 1) (by decide) hL hnN hnq2 w' hm'
        rwa [← List.map_eq_flatMap] at this
      repeat (first
        | refine QV QP ?_ | refine QZ ?_ | refine qcT rfl ?_ | refine qcF rfl ?_ | refine E_blockX ?_ | refine E_blockO rfl ?_
        | refine QV (rr_load1 (v := .int .i64 (T : Int)) TyC.ty rfl (at_blk (i := 0) rfl rfl)) ?_
        | refine QV (rr_add64 (r := ((T + 1 : Nat) : Int)) rfl rfl (by omega) (by omega) (by omega)) ?_ | refine QV QL ?_ | refine QV QA ?_ | refine QV QlT ?_
        | refine QV QlF ?_ | refine QV QeT ?_ | refine QV QeF ?_ | refine QV QnT ?_ | refine QV QnF ?_ | refine QV QaA ?_)
      refine TL_makeRowN actC_len (by decide) (0, 0) rfl rfl rfl (by omega) (by omega) rfl fun g10 => ?_
      rw [← actRow_0 (l := g.prods) (Nx := Nx) (S := S) (q := n)]
      conv => arg 8; simp only [zA, zB, zC, zD, zE, zF, zG, zH, zI, rowS, ret, id_eq]
      repeat (first
        | refine QV QP ?_ | refine QZ ?_ | refine qcT rfl ?_ | refine qcF rfl ?_ | refine E_blockX ?_ | refine E_blockO rfl ?_
        | refine QV (rr_loadB (i := 0) TyC.ty rfl rfl rfl) ?_ | refine QV (rr_loadB (i := 6) TyC.ty rfl rfl rfl) ?_ | refine QV QL ?_ | refine QV QA ?_
        | refine QV QlT ?_ | refine QV QlF ?_ | refine QV QeT ?_ | refine QV QeF ?_ | refine QV QnT ?_ | refine QV QnF ?_ | refine QV QaA ?_)
      refine TL_call (S := actsS T (actsI g.prods T S[n] Nx[n])) (he3 EntersC.en rfl rfl rfl rfl) (fun w hm => hac gS 0 S.length cS gN 0 Nx.length cN n vq (.slice aq Nx[n].length cq) S[n] Nx[n] w hm.below hpl c1 (row_cell (hm.get (i := 2) rfl) hvq) (hS1 _ 3 rfl w hm) hnN (row_cell (hm.get (i := 4) rfl) hnq) (hN1 _ 5 rfl w hm) (by omega) hsr (by omega) (by omega)) rfl rfl rfl ?_
      rintro ⟨ga, vs⟩ _
      conv => arg 8; simp only [zA, zB, zC, zD, zE, zF, zG, zH, zI, rowS, ret, id_eq, actsS]
      conv => arg 7; simp only [actsS]
      rw [← hSn, ← hNn']
      clear hac
      repeat (first
        | refine QV QP ?_ | refine QZ ?_ | refine qcT rfl ?_ | refine qcF rfl ?_ | refine E_blockX ?_ | refine E_blockO rfl ?_ | refine QV QL ?_
        | refine QV QA ?_ | refine QV QlT ?_ | refine QV QlF ?_ | refine QV QeT ?_ | refine QV QeF ?_ | refine QV QnT ?_ | refine QV QnF ?_ | refine QV QaA ?_)
      refine T_loop (ι := Nat × Value) (fun (c, _) => c ≤ T + 1) (fun (c, vf) => [(1, .pointer (some ⟨g1, 0, none⟩)), (2, .pointer (some ⟨g2, 0, none⟩)), (5, .pointer (some ⟨g5, 0, none⟩)), (7, .pointer (some ⟨g7, 0, none⟩)), (8, vf), (26, .int .i64 (S.length : Int)), (27, .int .i64 (n : Int)), (9, .int .i64 (n : Int)), (10, .slice (some ⟨g10, 0, none⟩) (T + 1) (T + 1)), (37, .slice (some ⟨ga, 0, none⟩) (T + 1) (T + 1)), (38, .int .i64 ((T + 1 : Nat) : Int)), (39, .int .i64 (c : Int))])
        (fun (c, vf) => [blkO g1 (graV (T : Int) g.nons vp).cells 24, blkO g2 #[.slice none 0 0, .slice none 0 0] 28, rowO 99 1 (.slice (some ⟨gS, 0, none⟩) S.length cS) S.length vss, elsO (sliceS itS) F (vss.map fun v => [v]) S, rowO 46 1 (.slice (some ⟨gN, 0, none⟩) Nx.length cN) Nx.length vns, elsO (sliceS intS) FN (vns.map fun v => [v]) Nx, blkO g5 #[.slice (some ⟨gS, 0, none⟩) S.length cS, .slice (some ⟨gN, 0, none⟩) Nx.length cN] 67, blkO g7 #[x.vA, x.vG] 28, rowO 70 1 x.vA (actTab g.prods T Nx S n).length x.vas, elsO (sliceS actS) x.FA (x.vas.map fun v => [v]) (actTab g.prods T Nx S n), rowO 46 1 x.vG (gotoTab T Nx n).length x.vgs, elsO (sliceS intS) x.FG (x.vgs.map fun v => [v]) (gotoTab T Nx n), rowO 74 6 vf (fightsA g.prods T Nx S n ++ fightsR g.prods T Nx S n c).length ((fightsA g.prods T Nx S n ++ fightsR g.prods T Nx S n c).flatMap fgtC), rowO 72 2 (.slice (some ⟨g10, 0, none⟩) (T + 1) (T + 1)) (T + 1) ((actRow g.prods T Nx S n c).flatMap actC), rowA 70 vals ga (T + 1) vs, famP (fun j => j < T + 1) (actF vs (actsI g.prods T (S.getD n []) (Nx.getD n [])))]) (fun (c, _) => T + 1 - c) (0, vf) (Nat.zero_le _) (by repeat' (first | exact True.intro | refine And.intro rfl ?_)) (by dsimp only; rw [fightsR, List.append_nil]) ?_
      rintro ⟨c, vf⟩ j1
      dsimp only at j1 ⊢
      by_cases c2 : c < T + 1
      · obtain ⟨X, hX⟩ : ∃ X, actsI g.prods T (S.getD n []) (Nx.getD n []) c = X := ⟨_, rfl⟩
        have hXl : X.length ≤ 11440 := by
          rw [← hX, ← actsK_all]
          have := actsK_len (l := g.prods) (T := T) (nx := Nx.getD n []) (t := T) (s := S.getD n []) (c := c)
          rw [hSn] at this ⊢; omega
        have hrow1 := actRow_set (l := g.prods) (Nx := Nx) (S := S) (q := n) c2
        have hrow0 : X = [] → actRow g.prods T Nx S n (c + 1) = actRow g.prods T Nx S n c := fun h => actRow_none (by unfold actsQ; rw [hX, h])
        have hhd : actAt g.prods T Nx S n c = X.headD (0, 0) := by unfold actAt; rw [hX]
        have hfs : fightsR g.prods T Nx S n (c + 1) = fightsR g.prods T Nx S n c ++ X.tail.map fun x => (((n : Int), (c : Int), X.headD (0, 0), x) : Fgt) := by
          rw [fightsR, fightsC]; unfold actsQ; rw [hX]
        have hfl2 : (fightsA g.prods T Nx S n ++ fightsR g.prods T Nx S n c).length ≤ 100000000 := by
          rw [List.length_append] at hfl ⊢
          have := fightsR_mono (l := g.prods) (T := T) (Nx := Nx) (S := S) (q := n) (show c ≤ T + 1 by omega)
          omega
        generalize hbase : fightsA g.prods T Nx S n ++ fightsR g.prods T Nx S n c = base at *
        refine T_know (i := 15) rfl (fun w h => row_slm w (h.1 c c2)) fun hrow => ?_
        obtain ⟨ax, cx, hvc, -, hax⟩ := hrow
        rw [hX] at hvc hax
        have hat15 : ∀ (L : List Own) (i : Nat) (gx : Nat), ax = some ⟨gx, 0, none⟩ → L[i]? = some (famP (fun j => j < T + 1) (actF vs (actsI g.prods T (S.getD n []) (Nx.getD n [])))) → ∀ k (hk : k < X.length) (j : Nat) (u : Value), (actC X[k])[j]? = some u → At (w : Base) L ⟨gx, 0 + k * 2 + j, none⟩ u := fun L i gx hgx hL k hk j u hu => at_hold hL fun w h => by
          have h2 := h.1 c c2
          unfold actF at h2
          rw [hvc, hX, hgx] at h2
          have hj2 : j < 2 := by rw [← actC_len X[k]]; exact (List.getElem?_eq_some_iff.1 hu).1
          exact row_cell h2 (by rw [Nat.zero_add, get_el actC_len X k j hk hj2]; exact hu)
        repeat (first
          | refine QV QP ?_ | refine QZ ?_ | refine qcT rfl ?_ | refine qcF rfl ?_ | refine E_blockX ?_ | refine E_blockO rfl ?_
          | refine QV (rr_idx1 Und.eq TyC.ty rfl rfl c2) ?_
          | refine QV (rr_load1 (v := .slice ax X.length cx) TyC.ty rfl (by have := at_rowA (W := (w : Base)) (val := vals) (i := 14) (f := vs) (e := 70) (g := ga) (len := T + 1) (L := [blkO g1 (graV (T : Int) g.nons vp).cells 24, blkO g2 #[.slice none 0 0, .slice none 0 0] 28, rowO 99 1 (.slice (some ⟨gS, 0, none⟩) S.length cS) S.length vss, elsO (sliceS itS) F (vss.map fun v => [v]) S, rowO 46 1 (.slice (some ⟨gN, 0, none⟩) Nx.length cN) Nx.length vns, elsO (sliceS intS) FN (vns.map fun v => [v]) Nx, blkO g5 #[.slice (some ⟨gS, 0, none⟩) S.length cS, .slice (some ⟨gN, 0, none⟩) Nx.length cN] 67, blkO g7 #[x.vA, x.vG] 28, rowO 70 1 x.vA (actTab g.prods T Nx S n).length x.vas, elsO (sliceS actS) x.FA (x.vas.map fun v => [v]) (actTab g.prods T Nx S n), rowO 46 1 x.vG (gotoTab T Nx n).length x.vgs, elsO (sliceS intS) x.FG (x.vgs.map fun v => [v]) (gotoTab T Nx n), rowO 74 6 vf (base).length ((base).flatMap fgtC), rowO 72 2 (.slice (some ⟨g10, 0, none⟩) (T + 1) (T + 1)) (T + 1) ((actRow g.prods T Nx S n c).flatMap actC), rowA 70 vals ga (T + 1) vs, famP (fun j => j < T + 1) (actF vs (actsI g.prods T (S.getD n []) (Nx.getD n [])))]) rfl c2; rw [hvc] at this; exact this)) ?_
          | refine QV QL ?_ | refine QV QA ?_ | refine QV QlT ?_ | refine QV QlF ?_ | refine QV QeT ?_ | refine QV QeF ?_ | refine QV QnT ?_ | refine QV QnF ?_
          | refine QV QaA ?_)
        refine T_loop (ι := Nat × Value) (fun (i, _) => i ≤ X.length) (fun (i, vf) => [(1, .pointer (some ⟨g1, 0, none⟩)), (2, .pointer (some ⟨g2, 0, none⟩)), (5, .pointer (some ⟨g5, 0, none⟩)), (7, .pointer (some ⟨g7, 0, none⟩)), (8, vf), (26, .int .i64 (S.length : Int)), (27, .int .i64 (n : Int)), (9, .int .i64 (n : Int)), (10, .slice (some ⟨g10, 0, none⟩) (T + 1) (T + 1)), (37, .slice (some ⟨ga, 0, none⟩) (T + 1) (T + 1)), (38, .int .i64 ((T + 1 : Nat) : Int)), (11, .int .i64 (c : Int)), (12, .slice ax X.length cx), (39, .int .i64 (c : Int)), (44, .slice ax X.length cx), (45, .int .i64 (X.length : Int)), (46, .int .i64 (i : Int))])
          (fun (i, vf) => [blkO g1 (graV (T : Int) g.nons vp).cells 24, blkO g2 #[.slice none 0 0, .slice none 0 0] 28, rowO 99 1 (.slice (some ⟨gS, 0, none⟩) S.length cS) S.length vss, elsO (sliceS itS) F (vss.map fun v => [v]) S, rowO 46 1 (.slice (some ⟨gN, 0, none⟩) Nx.length cN) Nx.length vns, elsO (sliceS intS) FN (vns.map fun v => [v]) Nx, blkO g5 #[.slice (some ⟨gS, 0, none⟩) S.length cS, .slice (some ⟨gN, 0, none⟩) Nx.length cN] 67, blkO g7 #[x.vA, x.vG] 28, rowO 70 1 x.vA (actTab g.prods T Nx S n).length x.vas, elsO (sliceS actS) x.FA (x.vas.map fun v => [v]) (actTab g.prods T Nx S n), rowO 46 1 x.vG (gotoTab T Nx n).length x.vgs, elsO (sliceS intS) x.FG (x.vgs.map fun v => [v]) (gotoTab T Nx n), rowO 74 6 vf ((base ++ (X.tail.take (i - 1)).map fun x => (((n : Int), (c : Int), X.headD (0, 0), x) : Fgt))).length (((base ++ (X.tail.take (i - 1)).map fun x => (((n : Int), (c : Int), X.headD (0, 0), x) : Fgt))).flatMap fgtC), rowO 72 2 (.slice (some ⟨g10, 0, none⟩) (T + 1) (T + 1)) (T + 1) ((if i = 0 then actRow g.prods T Nx S n c else actRow g.prods T Nx S n (c + 1)).flatMap actC), rowA 70 vals ga (T + 1) vs, famP (fun j => j < T + 1) (actF vs (actsI g.prods T (S.getD n []) (Nx.getD n [])))]) (fun (i, _) => X.length - i) (0, vf) (Nat.zero_le _) (by repeat' (first | exact True.intro | refine And.intro rfl ?_)) (by simp) ?_
        rintro ⟨i, vf⟩ k1
        dsimp only at k1 ⊢
        by_cases c3 : i < X.length
        · have hatX := fun (L : List Own) (k : Nat) (gx : Nat) (hgx : ax = some ⟨gx, 0, none⟩) (hL : L[k]? = some (famP (fun j => j < T + 1) (actF vs (actsI g.prods T (S.getD n []) (Nx.getD n []))))) => hat15 L k gx hgx hL i c3
          obtain ⟨gx, rfl⟩ := hax (by omega)
          have hat0 : ∀ (L : List Own) (k : Nat), L[k]? = some (famP (fun j => j < T + 1) (actF vs (actsI g.prods T (S.getD n []) (Nx.getD n [])))) → ∀ (j : Nat) (u : Value), (actC (X.headD (0, 0)))[j]? = some u → At (w : Base) L ⟨gx, 0 + 0 * 2 + j, none⟩ u := fun L k hL j u hu => hat15 L k gx rfl hL 0 (by omega) j u (by
            have : X.headD (0, 0) = X[0]'(by omega) := by
              cases X with
              | nil => exact absurd c3 (Nat.not_lt_zero _)
              | cons y r => rfl
            rwa [this] at hu)
          have hXi : i = 0 → X[i] = actAt g.prods T Nx S n c := fun e => by
            subst e
            rw [hhd]
            cases X with
            | nil => exact absurd c3 (Nat.not_lt_zero _)
            | cons y r => rfl
          have hXt : i ≠ 0 → X.tail.take (i + 1 - 1) = X.tail.take (i - 1) ++ [X[i]] := fun e => by
            obtain ⟨m, rfl⟩ : ∃ m, i = m + 1 := ⟨i - 1, by omega⟩
            cases X with
            | nil => exact absurd c3 (Nat.not_lt_zero _)
            | cons y r =>
              have hm : m < r.length := by simpa using c3
              show r.take (m + 1) = r.take m ++ [r[m]]
              exact List.take_succ_eq_append_getElem hm
          have hlenF : (base ++ (X.tail.take (i - 1)).map fun x => (((n : Int), (c : Int), X.headD (0, 0), x) : Fgt)).length ≤ 100100000 := by
            rw [List.length_append, List.length_map, List.length_take, List.length_tail]; omega
          have hbf := build_fgt (n : Int) (c : Int) (X.headD (0, 0))
          generalize hXX : X[i] = xa at *
          clear hat15 hS1 hN1
          repeat (first
            | refine QV QP ?_ | refine QZ ?_ | refine qcT rfl ?_ | refine qcF rfl ?_ | refine E_blockX ?_ | refine E_blockO rfl ?_
            | refine QV (rr_idxc Und.eq TyC.ty rfl rfl c3) ?_ | refine QV (rr_loadN (cs := actC xa) TyC.ty rfl rfl (hatX _ 15 gx rfl rfl)) ?_ | refine QV QL ?_
            | refine QV QA ?_ | refine QV QlT ?_ | refine QV QlF ?_ | refine QV QeT ?_ | refine QV QeF ?_ | refine QV QnT ?_ | refine QV QnF ?_ | refine QV QaA ?_)
          refine TL_new rfl fun g14 => ?_
          conv => arg 8; simp only [zA, zB, zC, zD, zE, zF, zG, zH, zI, rowS, ret, id_eq]
          repeat (first
            | refine QV QP ?_ | refine QZ ?_ | refine qcT rfl ?_ | refine qcF rfl ?_ | refine E_blockX ?_ | refine E_blockO rfl ?_ | refine QV QL ?_
            | refine QV QA ?_ | refine QV QlT ?_ | refine QV QlF ?_ | refine QV QeT ?_ | refine QV QeF ?_ | refine QV QnT ?_ | refine QV QnF ?_ | refine QV QaA ?_)
          refine TL_storeB (i := 16) (cs' := (actC xa).toArray) rfl rfl rfl rfl rfl rfl ?_
          conv => arg 8; simp only [zA, zB, zC, zD, zE, zF, zG, zH, zI, rowS, ret, id_eq]
          by_cases q1 : i = 0
          · subst q1
            rw [if_pos rfl]
            have hXi := hXi rfl
            repeat (first
              | refine QV QP ?_ | refine QZ ?_ | refine qcT rfl ?_ | refine qcF rfl ?_ | refine E_blockX ?_ | refine E_blockO rfl ?_
              | refine QV (rr_loadB (i := 16) TyC.ty rfl rfl rfl) ?_ | refine QV (rr_idxc Und.eq TyC.ty rfl rfl c2) ?_ | refine QV QL ?_ | refine QV QA ?_
              | refine QV QlT ?_ | refine QV QlF ?_ | refine QV QeT ?_ | refine QV QeF ?_ | refine QV QnT ?_ | refine QV QnF ?_ | refine QV QaA ?_)
            refine TL_setRow actC_len (k := c) (a := xa) (i := 13) TyC.ty rfl rfl (by omega) (by rw [actRow_len]; exact c2) actRow_len.symm rfl rfl rfl ?_
            rw [hXi, hrow1]
            conv => arg 8; simp only [zA, zB, zC, zD, zE, zF, zG, zH, zI, rowS, ret, id_eq]
            repeat (first
              | refine QV QP ?_ | refine QZ ?_ | refine qcT rfl ?_ | refine qcF rfl ?_ | refine E_blockX ?_ | refine E_blockO rfl ?_ | refine QV QL ?_
              | refine QV QA ?_ | refine QV QlT ?_ | refine QV QlF ?_ | refine QV QeT ?_ | refine QV QeF ?_ | refine QV QnT ?_ | refine QV QnF ?_ | refine QV QaA ?_)
            refine E_pick [0, 1, 2, 3, 4, 5, 6, 7, 8, 9, 10, 11, 12, 13, 14, 15] (by decide) rfl ?_
            exact E_round (0 + 1, vf) (by show 0 + 1 ≤ X.length; omega) (by show X.length - (0 + 1) < X.length - 0; omega) (by repeat' (first | exact True.intro | refine And.intro rfl ?_)) (by dsimp only; rw [if_neg (by omega)]; rfl)
          · rw [if_neg q1]
            have hnext : base ++ (X.tail.take (i + 1 - 1)).map (fun x => (((n : Int), (c : Int), X.headD (0, 0), x) : Fgt)) = (base ++ (X.tail.take (i - 1)).map fun x => (((n : Int), (c : Int), X.headD (0, 0), x) : Fgt)) ++ [((n : Int), (c : Int), X.headD (0, 0), xa)] := by rw [hXt q1, List.map_append, ← List.append_assoc]; rfl
            clear hXt
            generalize (base ++ (X.tail.take (i - 1)).map fun x => (((n : Int), (c : Int), X.headD (0, 0), x) : Fgt)) = fb at *
            repeat (first
              | refine QV QP ?_ | refine QZ ?_ | refine qcT rfl ?_ | refine qcF rfl ?_ | refine E_blockX ?_ | refine E_blockO rfl ?_ | refine QV QL ?_
              | refine QV QA ?_ | refine QV QlT ?_ | refine QV QlF ?_ | refine QV QeT ?_ | refine QV QeF ?_ | refine QV QnT ?_ | refine QV QnF ?_ | refine QV QaA ?_)
            refine T_ord ([famP (fun j => j < T + 1) (actF vs (actsI g.prods T (S.getD n []) (Nx.getD n []))), blkO g14 (actC xa).toArray 72]) (.calm 0 (.calm 1 (.calm 2 (.calm 3 (.calm 4 (.calm 5 (.calm 6 (.calm 7 (.one 8 (.one 9 (.calm 10 (.done)))))))))))) (sub_pick [15, 16] (by decide) rfl) (by kernel_rfl) (by kernel_rfl) (by intro c a d v w h; cases d <;> exact h) ?_
            repeat (first
              | ((first | refine TW_plain rfl rfl ?_ | refine TW_gmet rfl rfl rfl rfl ?_); first | refine QW QP ?_ | refine QW (rr_idxc (j := 0) Und.eq TyC.ty rfl rfl (show 0 < X.length by omega)) ?_ | refine QW (rr_loadN (cs := actC (X.headD (0, 0))) TyC.ty rfl rfl (hat0 _ 0 rfl)) ?_ | refine QW (rr_loadB (i := 1) TyC.ty rfl rfl rfl) ?_ | refine QW (rr_build rfl (hbf _)) ?_ | refine QW QL ?_ | refine QW QA ?_ | refine QW QlT ?_ | refine QW QlF ?_ | refine QW QeT ?_ | refine QW QeF ?_ | refine QW QnT ?_ | refine QW QnF ?_ | refine QW QaA ?_)
              | refine TW_done ?_)
            refine TW_one rfl (TL_one (cs := (fgtC ((n : Int), (c : Int), X.headD (0, 0), xa)).toArray) rfl rfl rfl rfl rfl fun g65 => TW_on (sub_pick [15, 16] (by decide) rfl) ?_)
            refine TW_one rfl (TL_app1 (i := 12) (q := 17) rfl rfl rfl rfl rfl rfl (by omega) (by omega) rfl fun vf2 => TW_on (sub_pick [15, 16] (by decide) rfl) ?_)
            repeat (first
              | ((first | refine TW_plain rfl rfl ?_ | refine TW_gmet rfl rfl rfl rfl ?_); first | refine QW QP ?_ | refine QW QL ?_ | refine QW QA ?_ | refine QW QlT ?_ | refine QW QlF ?_ | refine QW QeT ?_ | refine QW QeF ?_ | refine QW QnT ?_ | refine QW QnF ?_ | refine QW QaA ?_)
              | refine TW_done ?_)
            repeat (first
              | refine QV QP ?_ | refine QZ ?_ | refine qcT rfl ?_ | refine qcF rfl ?_ | refine E_blockX ?_ | refine E_blockO rfl ?_ | refine QV QL ?_
              | refine QV QA ?_ | refine QV QlT ?_ | refine QV QlF ?_ | refine QV QeT ?_ | refine QV QeF ?_ | refine QV QnT ?_ | refine QV QnF ?_ | refine QV QaA ?_)
            refine E_pick [0, 1, 2, 3, 4, 5, 6, 7, 8, 9, 10, 11, 12, 13, 14, 15] (by decide) rfl ?_
            exact E_round (i + 1, vf2) (by show i + 1 ≤ X.length; omega) (by show X.length - (i + 1) < X.length - i; omega) (by repeat' (first | exact True.intro | refine And.intro rfl ?_)) (by dsimp only; rw [if_neg (by omega), hnext, List.length_append, List.flatMap_append]; rfl)
        · obtain rfl : i = X.length := by omega
          have hrow2 : (if X.length = 0 then actRow g.prods T Nx S n c else actRow g.prods T Nx S n (c + 1)) = actRow g.prods T Nx S n (c + 1) := by
            by_cases e : X.length = 0
            · rw [if_pos e]; exact (hrow0 (List.eq_nil_of_length_eq_zero e)).symm
            · rw [if_neg e]
          have htt : X.tail.take (X.length - 1) = X.tail := List.take_of_length_le (by rw [List.length_tail]; exact Nat.le_refl _)
          rw [hrow2, htt]
          repeat (first
            | refine QV QP ?_ | refine QZ ?_ | refine qcT rfl ?_ | refine qcF rfl ?_ | refine E_blockX ?_ | refine E_blockO rfl ?_ | refine QV QL ?_
            | refine QV QA ?_ | refine QV QlT ?_ | refine QV QlF ?_ | refine QV QeT ?_ | refine QV QeF ?_ | refine QV QnT ?_ | refine QV QnF ?_ | refine QV QaA ?_)
          exact E_round (c + 1, vf) (by show c + 1 ≤ T + 1; omega) (by show T + 1 - (c + 1) < T + 1 - c; omega) (by repeat' (first | exact True.intro | refine And.intro rfl ?_)) (by dsimp only; rw [hfs, ← List.append_assoc, hbase])
      · obtain rfl : c = T + 1 := by omega
        have hTN : T ≤ Nx[n].length := by omega
        have hdl : (Nx[n].drop T).length = Nx[n].length - T := List.length_drop
        have htk : (Nx[n].drop T).take (Nx[n].length - T) = Nx[n].drop T := List.take_of_length_le (by rw [hdl]; exact Nat.le_refl _)
        have hSub : ∀ (L : List Own) (i : Nat), L[i]? = some (elsO (sliceS intS) FN (vns.map fun v => [v]) Nx) → SlL (w : Base) L (subV aq cq 1 T Nx[n].length) (Nx[n].length - T) ((Nx[n].drop T).map (Value.int .i64)) := fun L i hL w' hm' => by
          have h1 := els_sl (W := (w : Base)) (L := L) (f := fun n => [Value.int .i64 n]) (c := 1) (by decide) hL hnN hnq2 w' hm'
          have h2 := sl_sub (i := T) (j := Nx[n].length) (f := fun n => [Value.int .i64 n]) (fun _ => rfl) h1 hTN (Nat.le_refl _)
          rw [htk, hdl, ← List.map_eq_flatMap] at h2
          exact h2
        have hsubl : ((Nx[n].drop T).map (Value.int .i64)).length = (Nx[n].length - T) * 1 := by rw [List.length_map, hdl, Nat.mul_one]
        have hsub1 : ∀ u ∈ (Nx[n].drop T).map (Value.int .i64), u.oneCell' = true := fun u hu => by obtain ⟨y, _, rfl⟩ := List.mem_map.1 hu; rfl
        have hgo : ∀ {v : Value} {w' : World}, (rowO 3 1 v (0 + (Nx[n].length - T)) ([] ++ (Nx[n].drop T).map (Value.int .i64))).holds w' → (sliceS intS).is (fun k => v.ownBlock = some k) w' [v] ((Nx.getD n []).drop T) := fun {v w'} h => by
          rw [hNn']
          rw [Nat.zero_add, List.nil_append, ← hdl] at h
          exact ints_of_row (fun y hy => hoks y (List.mem_of_mem_drop hy)) h
        repeat (first
          | refine QV QP ?_ | refine QZ ?_ | refine qcT rfl ?_ | refine qcF rfl ?_ | refine E_blockX ?_ | refine E_blockO rfl ?_
          | refine QV (rr_load1 (v := x.vA) TyC.ty rfl (at_blk (i := 7) rfl rfl)) ?_ | refine QV QL ?_ | refine QV QA ?_ | refine QV QlT ?_ | refine QV QlF ?_
          | refine QV QeT ?_ | refine QV QeF ?_ | refine QV QnT ?_ | refine QV QnF ?_ | refine QV QaA ?_)
        have hAl := actTab_len (l := g.prods) (T := T) (Nx := Nx) (S := S) n
        have hGl := gotoTab_len (T := T) (Nx := Nx) n
        refine TL_push1 (i := 8) rfl rfl rfl rfl rfl rfl (fun z h => by cases h; rfl) (by omega) (by omega) rfl fun z vA2 => ?_
        conv => arg 8; simp only [zA, zB, zC, zD, zE, zF, zG, zH, zI, rowS, ret, id_eq]
        refine TL_merge (elsO (sliceS actS) (fun k => x.FA k ∨ (Value.slice (some ⟨g10, 0, none⟩) (T + 1) (T + 1)).ownBlock = some k) ((x.vas.map fun v => [v]) ++ [[.slice (some ⟨g10, 0, none⟩) (T + 1) (T + 1)]]) (actTab g.prods T Nx S n ++ [actRow g.prods T Nx S n (T + 1)])) 13 9 [0, 1, 2, 3, 4, 5, 6, 7, 8, 10, 11, 12] (by decide) rfl rfl rfl (fun k hk => hk.elim (fun h => by cases h) fun h => h.elim (fun h => .inr (.inr h)) fun h => .inl (.inl h)) (fun w hr he => els_snoc he (act_of_row (by rw [actRow_len]; exact hr)) (row_foot hr)) ?_
        conv => arg 8; simp only [zA, zB, zC, zD, zE, zF, zG, zH, zI, rowS, ret, id_eq]
        repeat (first
          | refine QV QP ?_ | refine QZ ?_ | refine qcT rfl ?_ | refine qcF rfl ?_ | refine E_blockX ?_ | refine E_blockO rfl ?_ | refine QV QL ?_
          | refine QV QA ?_ | refine QV QlT ?_ | refine QV QlF ?_ | refine QV QeT ?_ | refine QV QeF ?_ | refine QV QnT ?_ | refine QV QnF ?_ | refine QV QaA ?_)
        refine TL_slv (i := 8) rfl fun hv1 hv2 => TL_store1 (i := 7) rfl rfl rfl hv1 hv2 rfl ?_
        conv => arg 8; simp only [zA, zB, zC, zD, zE, zF, zG, zH, zI, rowS, ret, id_eq]
        repeat (first
          | refine QV QP ?_ | refine QZ ?_ | refine qcT rfl ?_ | refine qcF rfl ?_ | refine E_blockX ?_ | refine E_blockO rfl ?_ | refine QV QL ?_
          | refine QV QA ?_ | refine QV QlT ?_ | refine QV QlF ?_ | refine QV QeT ?_ | refine QV QeF ?_ | refine QV QnT ?_ | refine QV QnF ?_ | refine QV QaA ?_)
        refine T_nil 3 1 ?_
        conv => arg 7; simp only [zA, zB, zC, zD, zE, zF, zG, zH, zI, rowS, ret, id_eq]
        refine T_ord ([blkO g1 (graV (T : Int) g.nons vp).cells 24, rowO 46 1 (.slice (some ⟨gN, 0, none⟩) Nx.length cN) Nx.length vns, elsO (sliceS intS) FN (vns.map fun v => [v]) Nx, blkO g5 #[.slice (some ⟨gS, 0, none⟩) S.length cS, .slice (some ⟨gN, 0, none⟩) Nx.length cN] 67]) (.calm 0 (.calm 2 (.calm 3 (.calm 4 (.calm 5 (.calm 6 (.calm 7 (.calm 8 (.calm 9 (.two 1 (.one 10 (.one 11 (.one 12 (.calm 13 (.one 14 (.done)))))) 10 (.two 1 (.one 11 (.one 12 (.calm 13 (.one 14 (.done))))) 11 (.one 1 (.one 12 (.calm 13 (.one 14 (.done)))))))))))))))) (sub_pick [0, 4, 5, 6] (by decide) rfl) (by kernel_rfl) (by kernel_rfl) (by intro c a d v w h; cases d <;> exact h) ?_
        repeat (first
          | ((first | refine TW_plain rfl rfl ?_ | refine TW_gmet rfl rfl rfl rfl ?_); first | refine QW QP ?_ | refine QW (rr_load1 (v := .slice (some ⟨gN, 0, none⟩) Nx.length cN) TyC.ty rfl (at_blk (i := 3) rfl rfl)) ?_ | refine QW (rr_idx1 Und.eq TyC.ty rfl rfl hnN) ?_ | refine QW (rr_load1 (v := .slice aq Nx[n].length cq) TyC.ty rfl (at_row (i := 1) rfl hnq)) ?_ | refine QW (rr_load1 (v := .int .i64 (T : Int)) TyC.ty rfl (at_blk (i := 0) rfl rfl)) ?_ | refine QW (rr_slfrom (i := T) Und.eq TyC.ty rfl rfl hTN hcq) ?_ | refine QW QL ?_ | refine QW QA ?_ | refine QW QlT ?_ | refine QW QlF ?_ | refine QW QeT ?_ | refine QW QeF ?_ | refine QW QnT ?_ | refine QW QnF ?_ | refine QW QaA ?_)
          | refine TW_done ?_)
        refine TW_two rfl rfl ?wayK1 ?wayK2
        case' wayK1 =>
          refine TL_val (rr_load1 (v := x.vG) TyC.ty rfl (at_blk (i := 7) rfl rfl)) rfl rfl rfl (TW_on (sub_pick [0, 4, 5, 6] (by decide) rfl) ?_)
          refine TW_one rfl (TL_appSl (i := 13) (k := Nx[n].length - T) rfl (hSub _ 5 rfl) rfl rfl hsubl hsub1 (by omega) (by omega) rfl fun vI => TW_on (sub_pick [0, 4, 5, 6] (by decide) rfl) ?_)
          refine TW_one rfl (TL_slv (i := 13) rfl fun hw1 hw2 => TL_one (cs := #[vI]) rfl hw1 rfl rfl rfl fun g86 => TW_on (sub_pick [0, 4, 5, 6] (by decide) rfl) ?_)
        case' wayK2 =>
          refine TL_appSl (i := 13) (k := Nx[n].length - T) rfl (hSub _ 5 rfl) rfl rfl hsubl hsub1 (by omega) (by omega) rfl fun vI => TW_on (sub_pick [0, 4, 5, 6] (by decide) rfl) ?_
          refine TW_two rfl rfl ?wayK3 ?wayK4
        case' wayK3 =>
          refine TL_val (rr_load1 (v := x.vG) TyC.ty rfl (at_blk (i := 7) rfl rfl)) rfl rfl rfl (TW_on (sub_pick [0, 4, 5, 6] (by decide) rfl) ?_)
          refine TW_one rfl (TL_slv (i := 13) rfl fun hw1 hw2 => TL_one (cs := #[vI]) rfl hw1 rfl rfl rfl fun g86 => TW_on (sub_pick [0, 4, 5, 6] (by decide) rfl) ?_)
        case' wayK4 =>
          refine TL_slv (i := 13) rfl fun hw1 hw2 => TL_one (cs := #[vI]) rfl hw1 rfl rfl rfl fun g86 => TW_on (sub_pick [0, 4, 5, 6] (by decide) rfl) ?_
          refine TW_one rfl (TL_val (rr_load1 (v := x.vG) TyC.ty rfl (at_blk (i := 7) rfl rfl)) rfl rfl rfl (TW_on (sub_pick [0, 4, 5, 6] (by decide) rfl) ?_))
        all_goals
          refine TW_one rfl (TL_app11 (i := 9) (q := 14) rfl rfl rfl rfl rfl hw2 (by omega) (by omega) rfl fun vG2 => TW_on (sub_pick [0, 4, 5, 6] (by decide) rfl) ?_)
          repeat (first
            | ((first | refine TW_plain rfl rfl ?_ | refine TW_gmet rfl rfl rfl rfl ?_); first | refine QW QP ?_ | refine QW QL ?_ | refine QW QA ?_ | refine QW QlT ?_ | refine QW QlF ?_ | refine QW QeT ?_ | refine QW QeF ?_ | refine QW QnT ?_ | refine QW QnF ?_ | refine QW QaA ?_)
            | refine TW_done ?_)
          refine TW_one rfl (TL_slv (i := 9) rfl fun hv1 hv2 => TL_store1 (i := 7) rfl rfl rfl hv1 hv2 rfl (TW_on (sub_pick [0, 4, 5, 6] (by decide) rfl) ?_))
          repeat (first
            | ((first | refine TW_plain rfl rfl ?_ | refine TW_gmet rfl rfl rfl rfl ?_); first | refine QW QP ?_ | refine QW QL ?_ | refine QW QA ?_ | refine QW QlT ?_ | refine QW QlF ?_ | refine QW QeT ?_ | refine QW QeF ?_ | refine QW QnT ?_ | refine QW QnF ?_ | refine QW QaA ?_)
            | refine TW_done ?_)
          refine E_merge (elsO (sliceS intS) (fun k => x.FG k ∨ vI.ownBlock = some k) ((x.vgs.map fun v => [v]) ++ [[vI]]) (gotoTab T Nx n ++ [(Nx.getD n []).drop T])) 13 10 [0, 1, 2, 3, 4, 5, 6, 7, 8, 9, 11, 12] (by decide) rfl rfl rfl (fun k hk => hk.elim (fun h => by cases h) fun h => h.elim (fun h => .inr (.inr h)) fun h => .inl (.inl h)) (fun w hr he => els_snoc he (hgo hr) (row_foot hr)) ?_
          repeat (first
            | refine QV QP ?_ | refine QZ ?_ | refine qcT rfl ?_ | refine qcF rfl ?_ | refine E_blockX ?_ | refine E_blockO rfl ?_ | refine QV QL ?_
            | refine QV QA ?_ | refine QV QlT ?_ | refine QV QlF ?_ | refine QV QeT ?_ | refine QV QeF ?_ | refine QV QnT ?_ | refine QV QnF ?_ | refine QV QaA ?_)
          refine E_pick [0, 1, 2, 3, 4, 5, 6, 7, 8, 11, 9, 12, 10] (by decide) rfl ?_
          exact E_round (n + 1, ⟨vA2, x.vas ++ [.slice (some ⟨g10, 0, none⟩) (T + 1) (T + 1)], fun k => x.FA k ∨ (Value.slice (some ⟨g10, 0, none⟩) (T + 1) (T + 1)).ownBlock = some k, vG2, x.vgs ++ [vI], fun k => x.FG k ∨ vI.ownBlock = some k⟩, vf) (by show n + 1 ≤ S.length; omega) (by show S.length - (n + 1) < S.length - n; omega) (by repeat' (first | exact True.intro | refine And.intro rfl ?_)) (by dsimp only; rw [show (actTab g.prods T Nx S (n + 1)).length = (actTab g.prods T Nx S n).length + 1 by rw [actTab_len, actTab_len], show (gotoTab T Nx (n + 1)).length = (gotoTab T Nx n).length + 1 by rw [gotoTab_len, gotoTab_len], actTab_succ, gotoTab_succ, List.map_append, List.map_append]; rfl)
    · obtain rfl : n = S.length := by omega
      refine T_know (i := 8) rfl (fun w h => row_slm w h) fun hrow => ?_
      obtain ⟨aA, cA, hvA, -⟩ := hrow
      refine T_know (i := 10) rfl (fun w h => row_slm w h) fun hrow => ?_
      obtain ⟨aG, cG, hvG, -⟩ := hrow
      obtain ⟨vA, vas, FA, vG, vgs, FG⟩ := x
      dsimp only at hvA hvG ⊢
      subst hvA hvG
      repeat (first
        | refine QV QP ?_ | refine QZ ?_ | refine qcT rfl ?_ | refine qcF rfl ?_ | refine E_blockX ?_ | refine E_blockO rfl ?_
        | refine QV (rr_loadB (i := 7) TyC.ty rfl rfl rfl) ?_ | refine QV QL ?_ | refine QV QA ?_ | refine QV QlT ?_ | refine QV QlF ?_ | refine QV QeT ?_
        | refine QV QeF ?_ | refine QV QnT ?_ | refine QV QnF ?_ | refine QV QaA ?_)
      refine TL_storeB (i := 1) rfl rfl rfl rfl rfl rfl ?_
      conv => arg 8; simp only [zA, zB, zC, zD, zE, zF, zG, zH, zI, rowS, ret, id_eq]
      repeat (first
        | refine QV QP ?_ | refine QZ ?_ | refine qcT rfl ?_ | refine qcF rfl ?_ | refine E_blockX ?_ | refine E_blockO rfl ?_ | refine QV QL ?_
        | refine QV QA ?_ | refine QV QlT ?_ | refine QV QlF ?_ | refine QV QeT ?_ | refine QV QeF ?_ | refine QV QnT ?_ | refine QV QnF ?_ | refine QV QaA ?_)
      exact E_retc3 (i := 1) rfl rfl rfl rfl rfl rfl fun w hm => hm.meets (S := ⟨fun (_ : TabX × Value) => True, fun x => .tuple #[.agg #[x.1.vA, x.1.vG], x.2, .int .i64 0], fun x => [rowO 70 1 x.1.vA (actTab g.prods T Nx S S.length).length x.1.vas, elsO (sliceS actS) x.1.FA (x.1.vas.map fun v => [v]) (actTab g.prods T Nx S S.length), rowO 46 1 x.1.vG (gotoTab T Nx S.length).length x.1.vgs, elsO (sliceS intS) x.1.FG (x.1.vgs.map fun v => [v]) (gotoTab T Nx S.length), rowO 74 6 x.2 (fightsA g.prods T Nx S S.length).length ((fightsA g.prods T Nx S S.length).flatMap fgtC)]⟩) (⟨.slice aA _ cA, vas, FA, .slice aG _ cG, vgs, FG⟩, vf) trivial [8, 9, 10, 11, 12] (by decide) rfl
  · rw [if_pos c0] at hO
    rw [hO]
    repeat (first
      | refine QV QP ?_ | refine QZ ?_ | refine qcT rfl ?_ | refine qcF rfl ?_ | refine E_blockX ?_ | refine E_blockO rfl ?_
      | refine QV (rr_neq (b := true) rfl rfl (decide_eq_true c0)) ?_ | refine QV (rr_build rfl hb0) ?_ | refine QV QL ?_ | refine QV QA ?_ | refine QV QlT ?_
      | refine QV QlF ?_ | refine QV QeT ?_ | refine QV QeF ?_ | refine QV QnT ?_ | refine QV QnF ?_ | refine QV QaA ?_)
    refine TL_storeB (i := 1) rfl rfl rfl rfl rfl rfl ?_
    conv => arg 8; simp only [zA, zB, zC, zD, zE, zF, zG, zH, zI, rowS, ret, id_eq]
    repeat (first
      | refine QV QP ?_ | refine QZ ?_ | refine qcT rfl ?_ | refine qcF rfl ?_ | refine E_blockX ?_ | refine E_blockO rfl ?_ | refine QV QL ?_
      | refine QV QA ?_ | refine QV QlT ?_ | refine QV QlF ?_ | refine QV QeT ?_ | refine QV QeF ?_ | refine QV QnT ?_ | refine QV QnF ?_ | refine QV QaA ?_)
    refine E_nilrow 70 1 (E_extra (elsO (sliceS actS) (fun _ => False) [] []) (fun k hk => hk.elim (fun h => by cases h) id) (fun w => els_nil) (E_nilrow 46 1 (E_extra (elsO (sliceS intS) (fun _ => False) [] []) (fun k hk => hk.elim (fun h => by cases h) id) (fun w => els_nil) (E_nilrow 74 6 ?_))))
    exact E_retc3 (i := 1) rfl rfl rfl rfl rfl rfl fun w hm => hm.meets (S := ⟨fun (_ : TabX × Value) => True, fun x => .tuple #[.agg #[x.1.vA, x.1.vG], x.2, .int .i64 e], fun x => [rowO 70 1 x.1.vA 0 x.1.vas, elsO (sliceS actS) x.1.FA (x.1.vas.map fun v => [v]) [], rowO 46 1 x.1.vG 0 x.1.vgs, elsO (sliceS intS) x.1.FG (x.1.vgs.map fun v => [v]) [], rowO 74 6 x.2 0 []]⟩) (⟨.slice none 0 0, [], fun _ => False, .slice none 0 0, [], fun _ => False⟩, .slice none 0 0) trivial [7, 8, 9, 10, 11] (by decide) rfl
end Go.Proofs.Ytdbghmgajmlkmaa.eng

/- LrC -/
namespace Go.Proofs.Ytdbghmgajmlkmaa.eng
open Go.RowKit kit mix gramL treeL factsL itemL smallL
/-- a table that can be read -/
def TabR (w : World) (t : Value) (A : List (List itemL.Act)) (G : List (List Int)) : Prop := ∃ vA vG, t = .agg #[vA, vG] ∧ SlF (sliceS actS) (fun k => k < w.heap.size) w vA A ∧ SlF (sliceS intS) (fun k => k < w.heap.size) w vG G
theorem TabR.gr {w w' : World} {t : Value} {A : List (List itemL.Act)} {G : List (List Int)} (h : TabR w t A G) (hg : Gr w w') : TabR w' t A G := let ⟨a, b, h1, h2, h3⟩ := h; ⟨a, b, h1, h2.gr hg, h3.gr hg⟩
theorem tabR_of {w : World} {x : TabX} {A : List (List itemL.Act)} {G : List (List Int)} (h1 : (rowO 70 1 x.vA A.length x.vas).holds w) (h2 : (elsO (sliceS actS) x.FA (x.vas.map fun v => [v]) A).holds w) (h3 : (rowO 46 1 x.vG G.length x.vgs).holds w) (h4 : (elsO (sliceS intS) x.FG (x.vgs.map fun v => [v]) G).holds w) : TabR w (.agg #[x.vA, x.vG]) A G := by
  have h1' : (rowO 70 (sliceS actS).c x.vA A.length (x.vas.map fun v => [v]).flatten).holds w := by rw [flat_one]; exact h1
  have h3' : (rowO 46 (sliceS intS).c x.vG G.length (x.vgs.map fun v => [v]).flatten).holds w := by rw [flat_one]; exact h3
  exact ⟨x.vA, x.vG, rfl, (slf_of h1' h2 (by decide)).mono fun k hk => slO_lt h1' h2 k hk, (slf_of h3' h4 (by decide)).mono fun k hk => slO_lt h3' h4 k hk⟩
/-- a slice among slices -/
theorem slf_at {α : Type} {s : Shp α} {F : Nat → Prop} {w : World} {base : Option Addr} {n cap : Nat} {l : List (List α)} (h : SlF (sliceS s) F w (.slice base n cap) l) {i : Nat} (hi : i < l.length) : ∃ b off vi, base = some ⟨b, off, none⟩ ∧ w.cell? ⟨b, off + i, none⟩ = some vi ∧ SlF s F w vi l[i] := by
  obtain ⟨base', cap', e, _, _, h3⟩ := h
  cases e
  obtain ⟨b, off, rfl, _, h4⟩ := h3 (by omega)
  obtain ⟨cs, ⟨vi, rfl, h5⟩, h6⟩ := h4 i hi
  refine ⟨b, off, vi, rfl, ?_, h5⟩
  have := h6 0 vi rfl
  rwa [show off + i * (sliceS s).c + 0 = off + i by show off + i * 1 + 0 = _; omega] at this
theorem slf_form {α : Type} {s : Shp α} {F : Nat → Prop} {w : World} {v : Value} {l : List α} (h : SlF s F w v l) : ∃ base cap, v = .slice base l.length cap ∧ l.length ≤ cap ∧ cap ≤ 9223372036854775807 := let ⟨b, c, h1, h2, h3, _⟩ := h; ⟨b, c, h1, h2, by unfold maxLen at h3; omega⟩
def RightAct (T P n : Nat) (x : itemL.Act) (c : Nat) : Prop := (x.1 = 0 ∧ x.2 = 0) ∨ (x.1 = 1 ∧ c < T ∧ 0 ≤ x.2 ∧ x.2 < (n : Int)) ∨ (x.1 = 2 ∧ 0 ≤ x.2 ∧ x.2 < (P : Int)) ∨ (x.1 = 3 ∧ x.2 = 0 ∧ c = T)
theorem right1_calls (T P n : Nat) (nn : Int) (bp : Option Addr) (cp : Nat) (aA : Option Addr) (cA : Nat) (vG : Value) (x : itemL.Act) (c : Nat) (h : RightAct T P n x c) (w : World) :
    Calls Try.prog 22 #[graV (T : Int) nn (.slice bp P cp), .agg #[.slice aA n cA, vG], .agg (actC x).toArray, .int .i64 (c : Int)] w (Meets (ret (.bool true)) w) := by
  obtain ⟨k, m⟩ := x
  unfold RightAct at h
  dsimp only at h
  refine enter (args := [graV (T : Int) nn (.slice bp P cp), .agg #[.slice aA n cA, vG], .agg (actC (k, m)).toArray, .int .i64 (c : Int)]) (n := 59) Try.func22 rfl rfl rfl ?_
  refine T_seq (T_region (TL_box rfl rfl rfl fun g4 => ?_))
  conv => arg 8; simp only [zA, zB, zC, zD, zE, zF, zG, zH, zI, rowS, ret, id_eq]
  refine TL_box rfl rfl rfl fun g5 => ?_
  conv => arg 8; simp only [zA, zB, zC, zD, zE, zF, zG, zH, zI, rowS, ret, id_eq]
  refine TL_box rfl rfl rfl fun g6 => ?_
  conv => arg 8; simp only [zA, zB, zC, zD, zE, zF, zG, zH, zI, rowS, ret, id_eq]
  rcases h with ⟨rfl, rfl⟩ | ⟨rfl, h1, h2, h3⟩ | ⟨rfl, h1, h2⟩ | ⟨rfl, rfl, rfl⟩
  · repeat (first
      | refine QV QP ?_ | refine QZ ?_ | refine qcT rfl ?_ | refine qcF rfl ?_ | refine qs rfl rfl rfl rfl rfl rfl ?_
      | ((try refine qg rfl rfl rfl ?_); first | refine QV QP ?_ | refine QV (rr_load1 (v := .int .i64 0) TyC.ty rfl (at_blk (i := 2) rfl rfl)) ?_ | refine QV QA ?_ | refine QV QlT ?_ | refine QV QlF ?_ | refine QV QhT ?_ | refine QV QhF ?_ | refine QV QeT ?_ | refine QV QeF ?_ | refine QV QL ?_))
    exact E_ret1 rfl rfl fun w hm => hm.ret
  · repeat (first
      | refine QV QP ?_ | refine QZ ?_ | refine qcT rfl ?_ | refine qcF rfl ?_ | refine qs rfl rfl rfl rfl rfl rfl ?_
      | ((try refine qg rfl rfl rfl ?_); first | refine QV QP ?_ | refine QV (rr_load1 (v := .int .i64 1) TyC.ty rfl (at_blk (i := 2) rfl rfl)) ?_ | refine QV (rr_load1 (v := .int .i64 m) TyC.ty rfl (at_blk (i := 2) rfl rfl)) ?_ | refine QV (rr_load1 (v := .int .i64 (T : Int)) TyC.ty rfl (at_blk (i := 0) rfl rfl)) ?_ | refine QV (rr_load1 (v := .slice aA n cA) TyC.ty rfl (at_blk (i := 1) rfl rfl)) ?_ | refine QV QA ?_ | refine QV QlT ?_ | refine QV QlF ?_ | refine QV QhT ?_ | refine QV QhF ?_ | refine QV QeT ?_ | refine QV QeF ?_ | refine QV QL ?_))
    exact E_ret1 rfl rfl fun w hm => hm.ret
  · repeat (first
      | refine QV QP ?_ | refine QZ ?_ | refine qcT rfl ?_ | refine qcF rfl ?_ | refine qs rfl rfl rfl rfl rfl rfl ?_
      | ((try refine qg rfl rfl rfl ?_); first | refine QV QP ?_ | refine QV (rr_load1 (v := .int .i64 2) TyC.ty rfl (at_blk (i := 2) rfl rfl)) ?_ | refine QV (rr_load1 (v := .int .i64 m) TyC.ty rfl (at_blk (i := 2) rfl rfl)) ?_ | refine QV (rr_load1 (v := .slice bp P cp) TyC.ty rfl (at_blk (i := 0) rfl rfl)) ?_ | refine QV QA ?_ | refine QV QlT ?_ | refine QV QlF ?_ | refine QV QhT ?_ | refine QV QhF ?_ | refine QV QeT ?_ | refine QV QeF ?_ | refine QV QL ?_))
    exact E_ret1 rfl rfl fun w hm => hm.ret
  · repeat (first
      | refine QV QP ?_ | refine QZ ?_ | refine qcT rfl ?_ | refine qcF rfl ?_ | refine qs rfl rfl rfl rfl rfl rfl ?_
      | ((try refine qg rfl rfl rfl ?_); first | refine QV QP ?_ | refine QV (rr_load1 (v := .int .i64 3) TyC.ty rfl (at_blk (i := 2) rfl rfl)) ?_ | refine QV (rr_load1 (v := .int .i64 0) TyC.ty rfl (at_blk (i := 2) rfl rfl)) ?_ | refine QV (rr_load1 (v := .int .i64 (c : Int)) TyC.ty rfl (at_blk (i := 0) rfl rfl)) ?_ | refine QV QA ?_ | refine QV QlT ?_ | refine QV QlF ?_ | refine QV QhT ?_ | refine QV QhF ?_ | refine QV QeT ?_ | refine QV QeF ?_ | refine QV QL ?_))
    exact E_ret1 rfl rfl fun w hm => hm.ret
structure LrOk (g : Gram) (T N : Nat) (A : List (List itemL.Act)) (G : List (List Int)) : Prop where
  gram : checkG g = 0
  terms : g.terms = (T : Int)
  nons : g.nons = (N : Int)
  pos : 0 < A.length
  few : A.length ≤ 200
  same : G.length = A.length
  wA : ∀ i (h : i < A.length), A[i].length = T + 1
  acts : ∀ i (h : i < A.length), ∀ c (hc : c < A[i].length), RightAct T g.prods.length A.length A[i][c] c
  wG : ∀ i (h : i < G.length), G[i].length = N
  gos : ∀ i (h : i < G.length), ∀ y ∈ G[i], -1 ≤ y ∧ y < (A.length : Int)
set_option maxHeartbeats 4000000 in
theorem lrCheck_calls (v t : Value) (g : Gram) (T N : Nat) (A : List (List itemL.Act)) (G : List (List Int)) (h : LrOk g T N A G) (w : World) (hG : GraR (fun k => k < w.heap.size) w v g) (ht : TabR w t A G) :
    Calls Try.prog 11 #[v, t] w (Meets (ret (.int .i64 0)) w) := by
  have hck := fun w' (hg : Gr w w') => checkG_calls v g w' (hG.gr hg)
  obtain ⟨vp, rfl, hp, -, -⟩ := hG
  obtain ⟨bp, cp, rfl, -⟩ := hp
  obtain ⟨vA, vG, rfl, hA, hGo⟩ := ht
  obtain ⟨aA, cA, rfl, -, -⟩ := slf_form hA
  obtain ⟨aG, cG, rfl, -, -⟩ := slf_form hGo
  obtain ⟨hg, hTt, hNn, hpos, hfew, hsame, hwA, hact, hwG, hgos⟩ := h
  obtain ⟨hT1, hT2, -, hN2, hpl, -⟩ := checkG_ok hg
  rw [hg] at hck
  rw [hTt, hNn] at hck ⊢
  refine enter (args := [graV (T : Int) (N : Int) (.slice bp g.prods.length cp), .agg #[.slice aA A.length cA, .slice aG G.length cG]]) (n := 93) Try.func11 rfl rfl rfl ?_
  refine T_seq (T_region (TL_box rfl rfl rfl fun g2 => ?_))
  conv => arg 8; simp only [zA, zB, zC, zD, zE, zF, zG, zH, zI, rowS, ret, id_eq]
  refine TL_box rfl rfl rfl fun g3 => ?_
  conv => arg 8; simp only [zA, zB, zC, zD, zE, zF, zG, zH, zI, rowS, ret, id_eq]
  repeat (first
    | refine QV QP ?_ | refine QZ ?_ | refine qcT rfl ?_ | refine qcF rfl ?_ | refine E_blockX ?_ | refine E_blockO rfl ?_
    | refine qs rfl rfl rfl rfl rfl rfl ?_
    | ((try refine qg rfl rfl rfl ?_); first | refine QV QP ?_ | refine QV (rr_loadB (i := 0) TyC.ty rfl rfl rfl) ?_ | refine QV QL ?_ | refine QV QA ?_ | refine QV (rr_not rfl rfl) ?_ | refine QV QlT ?_ | refine QV QlF ?_ | refine QV QgT ?_ | refine QV QgF ?_ | refine QV QeT ?_ | refine QV QeF ?_ | refine QV QnT ?_ | refine QV QnF ?_ | refine QV QaA ?_ | refine QV QhT ?_ | refine QV QhF ?_))
  refine TL_call (he1 EntersC.en rfl rfl) (fun w hm => hck w hm.below) rfl rfl rfl ?_
  intro _ _
  conv => arg 8; simp only [zA, zB, zC, zD, zE, zF, zG, zH, zI, rowS, ret, id_eq]
  repeat (first
    | refine QV QP ?_ | refine QZ ?_ | refine qcT rfl ?_ | refine qcF rfl ?_ | refine E_blockX ?_ | refine E_blockO rfl ?_
    | refine qs rfl rfl rfl rfl rfl rfl ?_
    | ((try refine qg rfl rfl rfl ?_); first | refine QV QP ?_ | refine QV (rr_load1 (v := .slice aA A.length cA) TyC.ty rfl (at_blk (i := 1) rfl rfl)) ?_ | refine QV (rr_load1 (v := .slice aG G.length cG) TyC.ty rfl (at_blk (i := 1) rfl rfl)) ?_ | refine QV QL ?_ | refine QV QA ?_ | refine QV (rr_not rfl rfl) ?_ | refine QV QlT ?_ | refine QV QlF ?_ | refine QV QgT ?_ | refine QV QgF ?_ | refine QV QeT ?_ | refine QV QeF ?_ | refine QV QnT ?_ | refine QV QnF ?_ | refine QV QaA ?_ | refine QV QhT ?_ | refine QV QhF ?_))
  clear hck
  refine T_loop (ι := Nat) (fun i => i ≤ A.length) (fun i => [(2, .pointer (some ⟨g2, 0, none⟩)), (3, .pointer (some ⟨g3, 0, none⟩)), (6, .int .i64 (A.length : Int)), (31, .int .i64 (A.length : Int)), (32, .int .i64 (i : Int))])
    (fun _ => [blkO g2 (graV (T : Int) (N : Int) (.slice bp g.prods.length cp)).cells 24, blkO g3 (Value.agg #[.slice aA A.length cA, .slice aG G.length cG]).cells 28]) (fun i => A.length - i) 0 (Nat.zero_le _) (by repeat' (first | exact True.intro | refine And.intro rfl ?_)) rfl ?_
  intro i i1
  by_cases c1 : i < A.length
  · have c1G : i < G.length := by omega
    obtain ⟨bA, oA, vi, rfl, hcA, hsA⟩ := slf_at hA c1
    obtain ⟨bG, oG, wi, rfl, hcG, hsG⟩ := slf_at hGo c1G
    obtain ⟨ai, ci, rfl, hci, hci2⟩ := slf_form hsA
    obtain ⟨ei, di, rfl, hdi, hdi2⟩ := slf_form hsG
    have hfA := hsA.flat (f := actC) (by decide)
    have hfG := hsG.flat (f := fun n => [Value.int .i64 n]) (by decide)
    have hwAi := hwA i c1
    have hwGi := hwG i c1G
    have hacti := hact i c1
    have hgosi := hgos i c1G
    obtain ⟨_, _, e1, -, -, hrA⟩ := hfA
    cases e1
    obtain ⟨_, _, e2, -, -, hrG⟩ := hfG
    cases e2
    clear hsA hsG hact hgos hwA hwG
    have hcA' : ∀ L, At (w : Base) L ⟨bA, oA + i, none⟩ (.slice ai A[i].length ci) := fun L => at_old hcA
    have hcG' : ∀ L, At (w : Base) L ⟨bG, oG + i, none⟩ (.slice ei G[i].length di) := fun L => at_old hcG
    generalize A[i] = X at *
    generalize G[i] = Y at *
    repeat (first
      | refine QV QP ?_ | refine QZ ?_ | refine qcT rfl ?_ | refine qcF rfl ?_ | refine E_blockX ?_ | refine E_blockO rfl ?_
      | refine qs rfl rfl rfl rfl rfl rfl ?_
      | ((try refine qg rfl rfl rfl ?_); first | refine QV QP ?_ | refine QV QL ?_ | refine QV QA ?_ | refine QV (rr_not rfl rfl) ?_ | refine QV QlT ?_ | refine QV QlF ?_ | refine QV QgT ?_ | refine QV QgF ?_ | refine QV QeT ?_ | refine QV QeF ?_ | refine QV QnT ?_ | refine QV QnF ?_ | refine QV QaA ?_ | refine QV QhT ?_ | refine QV QhF ?_))
    refine T_ord ([blkO g2 (graV (T : Int) (N : Int) (.slice bp g.prods.length cp)).cells 24, blkO g3 (Value.agg #[.slice (some ⟨bA, oA, none⟩) A.length cA, .slice (some ⟨bG, oG, none⟩) G.length cG]).cells 28]) (.calm 0 (.calm 1 (.calm 2 (.calm 3 (.calm 4 (.calm 5 (.calm 6 (.calm 7 (.calm 8 (.calm 9 (.calm 10 (.calm 11 (.calm 12 (.calm 13 (.calm 14 (.calm 15 (.calm 16 (.calm 17 (.calm 18 (.calm 19 (.calm 20 (.done)))))))))))))))))))))) (fun _ h => h) (by kernel_rfl) (by kernel_rfl) (by intro c a d v w h; cases d <;> exact h) ?_
    repeat (first
      | ((first | refine TW_plain rfl rfl ?_ | refine TW_gmet rfl rfl rfl rfl ?_); first | refine QW QP ?_ | refine QW (rr_load1 (v := .slice (some ⟨bA, oA, none⟩) A.length cA) TyC.ty rfl (at_blk (i := 1) rfl rfl)) ?_ | refine QW (rr_idx1 Und.eq TyC.ty rfl rfl c1) ?_ | refine QW (rr_load1 (v := .slice ai X.length ci) TyC.ty rfl (hcA' _)) ?_ | refine QW (rr_load1 (v := .int .i64 (T : Int)) TyC.ty rfl (at_blk (i := 0) rfl rfl)) ?_ | refine QW (rr_load1 (v := .slice (some ⟨bG, oG, none⟩) G.length cG) TyC.ty rfl (at_blk (i := 1) rfl rfl)) ?_ | refine QW (rr_idx1 Und.eq TyC.ty rfl rfl c1G) ?_ | refine QW (rr_load1 (v := .slice ei Y.length di) TyC.ty rfl (hcG' _)) ?_ | refine QW (rr_load1 (v := .int .i64 (N : Int)) TyC.ty rfl (at_blk (i := 0) rfl rfl)) ?_ | refine QW QL ?_ | refine QW QA ?_ | refine QW (rr_not rfl rfl) ?_ | refine QW QlT ?_ | refine QW QlF ?_ | refine QW QgT ?_ | refine QW QgF ?_ | refine QW QeT ?_ | refine QW QeF ?_ | refine QW QnT ?_ | refine QW QnF ?_ | refine QW QaA ?_ | refine QW QhT ?_ | refine QW QhF ?_)
      | refine TW_skip rfl rfl rfl rfl rfl rfl rfl ?_ | refine TW_done ?_)
    repeat (first
      | refine QV QP ?_ | refine QZ ?_ | refine qcT rfl ?_ | refine qcF rfl ?_ | refine E_blockX ?_ | refine E_blockO rfl ?_
      | refine qs rfl rfl rfl rfl rfl rfl ?_
      | ((try refine qg rfl rfl rfl ?_); first | refine QV QP ?_ | refine QV (rr_load1 (v := .slice (some ⟨bA, oA, none⟩) A.length cA) TyC.ty rfl (at_blk (i := 1) rfl rfl)) ?_ | refine QV (rr_idx1 Und.eq TyC.ty rfl rfl c1) ?_ | refine QV (rr_load1 (v := .slice ai X.length ci) TyC.ty rfl (hcA' _)) ?_ | refine QV QL ?_ | refine QV QA ?_ | refine QV (rr_not rfl rfl) ?_ | refine QV QlT ?_ | refine QV QlF ?_ | refine QV QgT ?_ | refine QV QgF ?_ | refine QV QeT ?_ | refine QV QeF ?_ | refine QV QnT ?_ | refine QV QnF ?_ | refine QV QaA ?_ | refine QV QhT ?_ | refine QV QhF ?_))
    refine T_loop (ι := Nat) (fun c => c ≤ X.length) (fun c => [(2, .pointer (some ⟨g2, 0, none⟩)), (3, .pointer (some ⟨g3, 0, none⟩)), (6, .int .i64 (A.length : Int)), (7, .int .i64 (i : Int)), (31, .int .i64 (A.length : Int)), (32, .int .i64 (i : Int)), (60, .slice ai X.length ci), (61, .int .i64 (X.length : Int)), (62, .int .i64 (c : Int))])
      (fun _ => [blkO g2 (graV (T : Int) (N : Int) (.slice bp g.prods.length cp)).cells 24, blkO g3 (Value.agg #[.slice (some ⟨bA, oA, none⟩) A.length cA, .slice (some ⟨bG, oG, none⟩) G.length cG]).cells 28]) (fun c => X.length - c) 0 (Nat.zero_le _) (by repeat' (first | exact True.intro | refine And.intro rfl ?_)) rfl ?_
    intro c j1
    by_cases c2 : c < X.length
    · obtain ⟨b, off, rfl, hrd⟩ := hrA (by omega)
      have hat := fun L => at_el (L := L) actC_len hrd c2
      have hatA : ∀ (L : List Own) (j : Nat) (u : Value), (actC X[c])[j]? = some u → At (w : Base) L ⟨b, off + c * 2 + j, none⟩ u := hat
      have hri := hacti c c2
      clear hat
      generalize X[c] = x at *
      have hrc := right1_calls T g.prods.length A.length (N : Int) bp cp (some ⟨bA, oA, none⟩) cA (.slice (some ⟨bG, oG, none⟩) G.length cG) x c hri
      repeat (first
        | refine QV QP ?_ | refine QZ ?_ | refine qcT rfl ?_ | refine qcF rfl ?_ | refine E_blockX ?_ | refine E_blockO rfl ?_
        | refine qs rfl rfl rfl rfl rfl rfl ?_
        | ((try refine qg rfl rfl rfl ?_); first | refine QV QP ?_ | refine QV (rr_idxc Und.eq TyC.ty rfl rfl c2) ?_ | refine QV (rr_loadN (cs := actC x) TyC.ty rfl rfl (hatA _)) ?_ | refine QV QL ?_ | refine QV QA ?_ | refine QV (rr_not rfl rfl) ?_ | refine QV QlT ?_ | refine QV QlF ?_ | refine QV QgT ?_ | refine QV QgF ?_ | refine QV QeT ?_ | refine QV QeF ?_ | refine QV QnT ?_ | refine QV QnF ?_ | refine QV QaA ?_ | refine QV QhT ?_ | refine QV QhF ?_))
      refine TL_new rfl fun g9 => ?_
      conv => arg 8; simp only [zA, zB, zC, zD, zE, zF, zG, zH, zI, rowS, ret, id_eq]
      repeat (first
        | refine QV QP ?_ | refine QZ ?_ | refine qcT rfl ?_ | refine qcF rfl ?_ | refine E_blockX ?_ | refine E_blockO rfl ?_
        | refine qs rfl rfl rfl rfl rfl rfl ?_
        | ((try refine qg rfl rfl rfl ?_); first | refine QV QP ?_ | refine QV QL ?_ | refine QV QA ?_ | refine QV (rr_not rfl rfl) ?_ | refine QV QlT ?_ | refine QV QlF ?_ | refine QV QgT ?_ | refine QV QgF ?_ | refine QV QeT ?_ | refine QV QeF ?_ | refine QV QnT ?_ | refine QV QnF ?_ | refine QV QaA ?_ | refine QV QhT ?_ | refine QV QhF ?_))
      refine TL_storeB (i := 2) (cs' := (actC x).toArray) rfl rfl rfl rfl rfl rfl ?_
      conv => arg 8; simp only [zA, zB, zC, zD, zE, zF, zG, zH, zI, rowS, ret, id_eq]
      repeat (first
        | refine QV QP ?_ | refine QZ ?_ | refine qcT rfl ?_ | refine qcF rfl ?_ | refine E_blockX ?_ | refine E_blockO rfl ?_
        | refine qs rfl rfl rfl rfl rfl rfl ?_
        | ((try refine qg rfl rfl rfl ?_); first | refine QV QP ?_ | refine QV (rr_loadB (i := 0) TyC.ty rfl rfl rfl) ?_ | refine QV (rr_loadB (i := 1) TyC.ty rfl rfl rfl) ?_ | refine QV (rr_loadB (i := 2) TyC.ty rfl rfl rfl) ?_ | refine QV QL ?_ | refine QV QA ?_ | refine QV (rr_not rfl rfl) ?_ | refine QV QlT ?_ | refine QV QlF ?_ | refine QV QgT ?_ | refine QV QgF ?_ | refine QV QeT ?_ | refine QV QeF ?_ | refine QV QnT ?_ | refine QV QnF ?_ | refine QV QaA ?_ | refine QV QhT ?_ | refine QV QhF ?_))
      refine TL_call (he4 EntersC.en rfl rfl rfl rfl rfl) (fun w hm => hrc w) rfl rfl rfl ?_
      intro _ _
      conv => arg 8; simp only [zA, zB, zC, zD, zE, zF, zG, zH, zI, rowS, ret, id_eq]
      repeat (first
        | refine QV QP ?_ | refine QZ ?_ | refine qcT rfl ?_ | refine qcF rfl ?_ | refine E_blockX ?_ | refine E_blockO rfl ?_
        | refine qs rfl rfl rfl rfl rfl rfl ?_
        | ((try refine qg rfl rfl rfl ?_); first | refine QV QP ?_ | refine QV QL ?_ | refine QV QA ?_ | refine QV (rr_not rfl rfl) ?_ | refine QV QlT ?_ | refine QV QlF ?_ | refine QV QgT ?_ | refine QV QgF ?_ | refine QV QeT ?_ | refine QV QeF ?_ | refine QV QnT ?_ | refine QV QnF ?_ | refine QV QaA ?_ | refine QV QhT ?_ | refine QV QhF ?_))
      refine E_pick [0, 1] (by decide) rfl ?_
      exact E_round (c + 1) (by omega) (by show X.length - (c + 1) < X.length - c; omega) (by repeat' (first | exact True.intro | refine And.intro rfl ?_)) rfl
    obtain rfl : c = X.length := by omega
    repeat (first
      | refine QV QP ?_ | refine QZ ?_ | refine qcT rfl ?_ | refine qcF rfl ?_ | refine E_blockX ?_ | refine E_blockO rfl ?_
      | refine qs rfl rfl rfl rfl rfl rfl ?_
      | ((try refine qg rfl rfl rfl ?_); first | refine QV QP ?_ | refine QV (rr_load1 (v := .slice (some ⟨bG, oG, none⟩) G.length cG) TyC.ty rfl (at_blk (i := 1) rfl rfl)) ?_ | refine QV (rr_idx1 Und.eq TyC.ty rfl rfl c1G) ?_ | refine QV (rr_load1 (v := .slice ei Y.length di) TyC.ty rfl (hcG' _)) ?_ | refine QV QL ?_ | refine QV QA ?_ | refine QV (rr_not rfl rfl) ?_ | refine QV QlT ?_ | refine QV QlF ?_ | refine QV QgT ?_ | refine QV QgF ?_ | refine QV QeT ?_ | refine QV QeF ?_ | refine QV QnT ?_ | refine QV QnF ?_ | refine QV QaA ?_ | refine QV QhT ?_ | refine QV QhF ?_))
    refine T_loop (ι := Nat) (fun c => c ≤ Y.length) (fun c => [(2, .pointer (some ⟨g2, 0, none⟩)), (3, .pointer (some ⟨g3, 0, none⟩)), (6, .int .i64 (A.length : Int)), (31, .int .i64 (A.length : Int)), (32, .int .i64 (i : Int)), (78, .slice ei Y.length di), (79, .int .i64 (Y.length : Int)), (80, .int .i64 (c : Int))])
      (fun _ => [blkO g2 (graV (T : Int) (N : Int) (.slice bp g.prods.length cp)).cells 24, blkO g3 (Value.agg #[.slice (some ⟨bA, oA, none⟩) A.length cA, .slice (some ⟨bG, oG, none⟩) G.length cG]).cells 28]) (fun c => Y.length - c) 0 (Nat.zero_le _) (by repeat' (first | exact True.intro | refine And.intro rfl ?_)) rfl ?_
    intro c k1
    by_cases c3 : c < Y.length
    · obtain ⟨b, off, rfl, hrd⟩ := hrG (by omega)
      have hat := fun L => at_el (L := L) (f := fun n => [Value.int .i64 n]) (c := 1) (fun _ => rfl) hrd c3 0 _ rfl
      have hatA : ∀ (L : List Own), At (w : Base) L ⟨b, off + c * 1 + 0, none⟩ (.int .i64 Y[c]) := hat
      have hgo := hgosi Y[c] (List.getElem_mem c3)
      clear hat
      generalize Y[c] = y at *
      repeat (first
        | refine QV QP ?_ | refine QZ ?_ | refine qcT rfl ?_ | refine qcF rfl ?_ | refine E_blockX ?_ | refine E_blockO rfl ?_
        | refine qs rfl rfl rfl rfl rfl rfl ?_
        | ((try refine qg rfl rfl rfl ?_); first | refine QV QP ?_ | refine QV (rr_idxc Und.eq TyC.ty rfl rfl c3) ?_ | refine QV (rr_load1 (v := .int .i64 y) TyC.ty rfl (hatA _)) ?_ | refine QV QL ?_ | refine QV QA ?_ | refine QV (rr_not rfl rfl) ?_ | refine QV QlT ?_ | refine QV QlF ?_ | refine QV QgT ?_ | refine QV QgF ?_ | refine QV QeT ?_ | refine QV QeF ?_ | refine QV QnT ?_ | refine QV QnF ?_ | refine QV QaA ?_ | refine QV QhT ?_ | refine QV QhF ?_))
      exact E_round (c + 1) (by omega) (by show Y.length - (c + 1) < Y.length - c; omega) (by repeat' (first | exact True.intro | refine And.intro rfl ?_)) rfl
    obtain rfl : c = Y.length := by omega
    repeat (first
      | refine QV QP ?_ | refine QZ ?_ | refine qcT rfl ?_ | refine qcF rfl ?_ | refine E_blockX ?_ | refine E_blockO rfl ?_
      | refine qs rfl rfl rfl rfl rfl rfl ?_
      | ((try refine qg rfl rfl rfl ?_); first | refine QV QP ?_ | refine QV QL ?_ | refine QV QA ?_ | refine QV (rr_not rfl rfl) ?_ | refine QV QlT ?_ | refine QV QlF ?_ | refine QV QgT ?_ | refine QV QgF ?_ | refine QV QeT ?_ | refine QV QeF ?_ | refine QV QnT ?_ | refine QV QnF ?_ | refine QV QaA ?_ | refine QV QhT ?_ | refine QV QhF ?_))
    exact E_round (i + 1) (by omega) (by show A.length - (i + 1) < A.length - i; omega) (by repeat' (first | exact True.intro | refine And.intro rfl ?_)) rfl
  · obtain rfl : i = A.length := by omega
    repeat (first
      | refine QV QP ?_ | refine QZ ?_ | refine qcT rfl ?_ | refine qcF rfl ?_ | refine E_blockX ?_ | refine E_blockO rfl ?_
      | refine qs rfl rfl rfl rfl rfl rfl ?_
      | ((try refine qg rfl rfl rfl ?_); first | refine QV QP ?_ | refine QV QL ?_ | refine QV QA ?_ | refine QV (rr_not rfl rfl) ?_ | refine QV QlT ?_ | refine QV QlF ?_ | refine QV QgT ?_ | refine QV QgF ?_ | refine QV QeT ?_ | refine QV QeF ?_ | refine QV QnT ?_ | refine QV QnF ?_ | refine QV QaA ?_ | refine QV QhT ?_ | refine QV QhF ?_))
    exact E_ret1 rfl rfl fun w hm => hm.ret
/-- what calm tells -/
def calmB (g : Gram) : Bool := decide ((outT g).2.2.2 = 0) && decide ((outT g).2.2.1.length = 0)
def calmS (g : Gram) : Spec TabX := ⟨fun _ => True, fun x => .tuple #[.agg #[x.vA, x.vG], .bool (calmB g)], fun x => tabL x (outT g).1 (outT g).2.1⟩
theorem calm_calls (v : Value) (g : Gram) (w : World) (hG : GraR (fun k => k < w.heap.size) w v g) : Calls Try.prog 5 #[v] w (Meets (calmS g) w) := by
  have hmk := fun w' (hg : Gr w w') => lrMake_calls v g w' (hG.gr hg)
  obtain ⟨vp, rfl, -⟩ := hG
  refine enter (args := [graV g.terms g.nons vp]) (n := 21) Try.func5 rfl rfl rfl ?_
  refine T_seq (T_region (TL_box rfl rfl rfl fun g1 => ?_))
  conv => arg 8; simp only [zA, zB, zC, zD, zE, zF, zG, zH, zI, rowS, ret, id_eq]
  repeat (first
    | refine QV QP ?_ | refine QZ ?_ | refine qs rfl rfl rfl rfl rfl rfl ?_
    | ((try refine qg rfl rfl rfl ?_); first | refine QV QP ?_ | refine QV QeT ?_ | refine QV QeF ?_ | refine QV QL ?_))
  refine TL_new rfl fun g2 => ?_
  conv => arg 8; simp only [zA, zB, zC, zD, zE, zF, zG, zH, zI, rowS, ret, id_eq]
  repeat (first
    | refine QV QP ?_ | refine QZ ?_ | refine qs rfl rfl rfl rfl rfl rfl ?_
    | ((try refine qg rfl rfl rfl ?_); first | refine QV QP ?_ | refine QV (rr_loadB (i := 0) TyC.ty rfl rfl rfl) ?_ | refine QV QeT ?_ | refine QV QeF ?_ | refine QV QL ?_))
  refine TL_call (he1 EntersC.en rfl rfl) (fun w hm => hmk w hm.below) rfl rfl rfl ?_
  rintro ⟨x, vf⟩ _
  conv => arg 8; simp only [zA, zB, zC, zD, zE, zF, zG, zH, zI, rowS, ret, id_eq, makeTS, tabL]
  conv => arg 7; simp only [makeTS]
  unfold calmS calmB tabL
  obtain ⟨⟨A, G, fl, e⟩, hO⟩ : ∃ R, outT g = R := ⟨_, rfl⟩
  rw [hO]
  dsimp only
  refine TL_know (i := 6) rfl row_slm fun hrow => ?_
  obtain ⟨af, cf, rfl, -⟩ := hrow
  refine TL_know (i := 2) rfl row_slm fun hrow => ?_
  obtain ⟨aA, cA, hvA, -⟩ := hrow
  refine TL_know (i := 4) rfl row_slm fun hrow => ?_
  obtain ⟨aG, cG, hvG, -⟩ := hrow
  obtain ⟨vA, vas, FA, vG, vgs, FG⟩ := x
  dsimp only at hvA hvG ⊢
  subst hvA hvG
  repeat (first
    | refine QV QP ?_ | refine QZ ?_ | refine qs rfl rfl rfl rfl rfl rfl ?_
    | ((try refine qg rfl rfl rfl ?_); first | refine QV QP ?_ | refine QV QeT ?_ | refine QV QeF ?_ | refine QV QL ?_))
  refine TL_new rfl fun g4 => ?_
  conv => arg 8; simp only [zA, zB, zC, zD, zE, zF, zG, zH, zI, rowS, ret, id_eq]
  refine TL_storeB (i := 7) rfl rfl rfl rfl rfl rfl ?_
  conv => arg 8; simp only [zA, zB, zC, zD, zE, zF, zG, zH, zI, rowS, ret, id_eq]
  by_cases c1 : e = 0
  · by_cases c2 : fl.length = 0
    · rw [decide_eq_true c1, decide_eq_true c2]
      repeat (first
        | refine QV QP ?_ | refine QZ ?_ | refine qs rfl rfl rfl rfl rfl rfl ?_
        | ((try refine qg rfl rfl rfl ?_); first | refine QV QP ?_ | refine QV (rr_loadB (i := 7) TyC.ty rfl rfl rfl) ?_ | refine QV QeT ?_ | refine QV QeF ?_ | refine QV QL ?_))
      refine TL_storeB (i := 1) rfl rfl rfl rfl rfl rfl ?_
      conv => arg 8; simp only [zA, zB, zC, zD, zE, zF, zG, zH, zI, rowS, ret, id_eq]
      repeat (first
        | refine QV QP ?_ | refine QZ ?_ | refine qs rfl rfl rfl rfl rfl rfl ?_
        | ((try refine qg rfl rfl rfl ?_); first | refine QV QP ?_ | refine QV QeT ?_ | refine QV QeF ?_ | refine QV QL ?_))
      exact E_retc2 (i := 1) rfl rfl rfl rfl rfl fun w hm => hm.meets (S := ⟨fun (_ : TabX) => True, fun x => .tuple #[.agg #[x.vA, x.vG], .bool true], fun x => [rowO 70 1 x.vA A.length x.vas, elsO (sliceS actS) x.FA (x.vas.map fun v => [v]) A, rowO 46 1 x.vG G.length x.vgs, elsO (sliceS intS) x.FG (x.vgs.map fun v => [v]) G]⟩) ⟨.slice aA A.length cA, vas, FA, .slice aG G.length cG, vgs, FG⟩ trivial [2, 3, 4, 5] (by decide) rfl
    · rw [decide_eq_true c1, decide_eq_false c2]
      repeat (first
        | refine QV QP ?_ | refine QZ ?_ | refine qs rfl rfl rfl rfl rfl rfl ?_
        | ((try refine qg rfl rfl rfl ?_); first | refine QV QP ?_ | refine QV (rr_loadB (i := 7) TyC.ty rfl rfl rfl) ?_ | refine QV QeT ?_ | refine QV QeF ?_ | refine QV QL ?_))
      refine TL_storeB (i := 1) rfl rfl rfl rfl rfl rfl ?_
      conv => arg 8; simp only [zA, zB, zC, zD, zE, zF, zG, zH, zI, rowS, ret, id_eq]
      repeat (first
        | refine QV QP ?_ | refine QZ ?_ | refine qs rfl rfl rfl rfl rfl rfl ?_
        | ((try refine qg rfl rfl rfl ?_); first | refine QV QP ?_ | refine QV QeT ?_ | refine QV QeF ?_ | refine QV QL ?_))
      exact E_retc2 (i := 1) rfl rfl rfl rfl rfl fun w hm => hm.meets (S := ⟨fun (_ : TabX) => True, fun x => .tuple #[.agg #[x.vA, x.vG], .bool false], fun x => [rowO 70 1 x.vA A.length x.vas, elsO (sliceS actS) x.FA (x.vas.map fun v => [v]) A, rowO 46 1 x.vG G.length x.vgs, elsO (sliceS intS) x.FG (x.vgs.map fun v => [v]) G]⟩) ⟨.slice aA A.length cA, vas, FA, .slice aG G.length cG, vgs, FG⟩ trivial [2, 3, 4, 5] (by decide) rfl
  · rw [decide_eq_false c1, Bool.false_and]
    repeat (first
      | refine QV QP ?_ | refine QZ ?_ | refine qs rfl rfl rfl rfl rfl rfl ?_
      | ((try refine qg rfl rfl rfl ?_); first | refine QV QP ?_ | refine QV (rr_loadB (i := 7) TyC.ty rfl rfl rfl) ?_ | refine QV (rr_eql (b := false) rfl rfl (decide_eq_false c1)) ?_ | refine QV QeT ?_ | refine QV QeF ?_ | refine QV QL ?_))
    refine TL_storeB (i := 1) rfl rfl rfl rfl rfl rfl ?_
    conv => arg 8; simp only [zA, zB, zC, zD, zE, zF, zG, zH, zI, rowS, ret, id_eq]
    repeat (first
      | refine QV QP ?_ | refine QZ ?_ | refine qs rfl rfl rfl rfl rfl rfl ?_
      | ((try refine qg rfl rfl rfl ?_); first | refine QV QP ?_ | refine QV QeT ?_ | refine QV QeF ?_ | refine QV QL ?_))
    exact E_retc2 (i := 1) rfl rfl rfl rfl rfl fun w hm => hm.meets (S := ⟨fun (_ : TabX) => True, fun x => .tuple #[.agg #[x.vA, x.vG], .bool false], fun x => [rowO 70 1 x.vA A.length x.vas, elsO (sliceS actS) x.FA (x.vas.map fun v => [v]) A, rowO 46 1 x.vG G.length x.vgs, elsO (sliceS intS) x.FG (x.vgs.map fun v => [v]) G]⟩) ⟨.slice aA A.length cA, vas, FA, .slice aG G.length cG, vgs, FG⟩ trivial [2, 3, 4, 5] (by decide) rfl
end Go.Proofs.Ytdbghmgajmlkmaa.eng

/- LrM -/
namespace Go.Proofs.Ytdbghmgajmlkmaa.itemL
open gramL treeL countL factsL smallL
open llL (colAt)
section
variable {l : List gramL.Prod} {T N : Nat} {lk : Int → Int → Nat} {Nx : List (List Int)} {S : List (List Item)} {w : List Int}
variable {E R M : List Bool} {F W : List Nat}
theorem drop_cons {α : Type} {b : List α} {d : Nat} {y : α} {r : List α} (h : b.drop d = y :: r) : b[d]? = some y ∧ b.drop (d + 1) = r ∧ d < b.length := by
  have hd : d < b.length := by
    rcases Nat.lt_or_ge d b.length with h' | h'
    · exact h'
    · rw [List.drop_of_length_le h'] at h; cases h
  rw [List.drop_eq_getElem_cons hd] at h
  simp only [List.cons.injEq] at h
  exact ⟨by rw [List.getElem?_eq_getElem hd, h.1], h.2, hd⟩
/-- what is asked of the table and the word -/
structure LrH (l : List gramL.Prod) (T N : Nat) (lk : Int → Int → Nat) (Nx : List (List Int)) (S : List (List Item)) (w : List Int) (E : List Bool) (F W : List Nat) (R M : List Bool) : Prop where
  wide : ∀ q ∈ l, q.2.length ≤ 8
  few : l.length ≤ 40
  terms : T ≤ 30
  nons : 0 < N
  syms : SymsOk N l
  term : ∀ q ∈ l, ∀ x ∈ q.2, x.1 = 1 → 0 ≤ x.2 ∧ x.2 < (T : Int)
  all : AllI l T N lk S.length Nx S
  calm : CalmI l T Nx S
  facts : ClosedF l E F W R M
  looks : ∀ p d : Int, 0 ≤ p → p ≤ (l.length : Int) → 0 ≤ d → lk p d = beginF E F ((bodyI l p).drop (d.toNat + 1)) (2 ^ 62)
  word : ∀ x ∈ w, 0 ≤ x ∧ x < (T : Int)
theorem state_right (hI : AllI l T N lk S.length Nx S) {q : Nat} (hq : q < S.length) : ∀ it ∈ S.getD q [], RightI l T it := by
  have hget : S.getD q [] = S[q] := by rw [List.getD_eq_getElem?_getD, List.getElem?_eq_getElem hq]; rfl
  rw [hget]; exact hI.ss.right _ (List.getElem_mem hq)
theorem col_at (h : LrH l T N lk Nx S w E F W R M) {a : Nat} {v : Int} {r : List Int} (hd : w.drop a = v :: r) : a < w.length ∧ (colAt T w a : Int) = v ∧ 0 ≤ v ∧ v < (T : Int) := by
  have ha : a < w.length := by
    rcases Nat.lt_or_ge a w.length with h' | h'
    · exact h'
    · rw [List.drop_of_length_le h'] at hd; cases hd
  rw [List.drop_eq_getElem_cons ha] at hd
  simp only [List.cons.injEq] at hd
  have hv := h.word w[a] (List.getElem_mem ha)
  unfold colAt
  rw [if_pos ha, List.getD_eq_getElem?_getD, List.getElem?_eq_getElem ha, Option.getD_some]
  rw [hd.1] at hv ⊢
  exact ⟨ha, by omega, hv⟩
theorem col_le (h : LrH l T N lk Nx S w E F W R M) (a : Nat) : colAt T w a ≤ T := by
  unfold colAt
  split
  · rename_i ha
    rw [List.getD_eq_getElem?_getD, List.getElem?_eq_getElem ha, Option.getD_some]
    have := h.word w[a] (List.getElem_mem ha)
    omega
  · exact Nat.le_refl _
mutual
theorem sim_tree (h : LrH l T N lk Nx S w E F W R M) : ∀ {t : Tree} {x : Sym} {a q : Nat} {σ : List Nat} {it : Item}, Right l t x a → x.1 = 2 → q < S.length → it ∈ S.getD q [] → nextS l it = some x → (looksI lk it).testBit (colAt T w (a + leaves t)) = true → a + leaves t ≤ w.length → (∃ r, w.drop a = yieldT l t ++ r) →
    ∃ s, s < S.length ∧ advI it ∈ S.getD s [] ∧ LRun l T Nx S w (q :: σ) a (upX l t) (s :: q :: σ) (a + leaves t)
  | .mk p k kids, x, a, q, σ, it, hr, hx, hq, hit, hn, hlk, ha, hy => by
    have hp : 0 ≤ p := by
      rcases right_kind hr with ⟨h1, _⟩ | ⟨_, h1⟩
      · omega
      · exact h1
    obtain ⟨_, h2, h3, h4, h5⟩ := right_x hr hp
    subst h4
    have hlv : leaves (.mk p 0 kids) = leavess kids := by rw [leaves, if_neg (by omega)]
    rw [hlv] at hlk ha ⊢
    rw [yieldT_eq] at hy
    obtain ⟨i, rfl⟩ := Int.eq_ofNat_of_zero_le hp
    obtain ⟨xk, xn⟩ := x
    have hx : xk = 2 := hx
    subst hx
    have h3 : (prodAt l (i : Int)).1 = xn := h3
    have hcT := col_le h (a + leavess kids)
    have hmem : (((i : Int), 0, (colAt T w (a + leavess kids) : Int)) : Item) ∈ S.getD q [] := shut_mem h.all hq hit ⟨xn, i, _, hn, by omega, h3, hcT, hlk, rfl⟩
    have hbody : bodyI l (i : Int) = (prodAt l (i : Int)).2 := by unfold bodyI; rw [if_neg (by omega)]
    obtain ⟨τ, s, k2, k3, k4, k5⟩ := sim_kids h (q := q) (σ := σ) (it := ((i : Int), 0, (colAt T w (a + leavess kids) : Int))) h5 hq hmem (by show (bodyI l (i : Int)).drop 0 = _; rw [hbody]; rfl) rfl ha hy
    have hmemL : prodAt l (i : Int) ∈ l := prodAt_mem hp h2
    have hN := h.syms _ hmemL
    obtain ⟨tq, g1, g2, g3⟩ := goto_ok h.all h.wide h.few h.terms hq (n := xn) (by rw [← h3]; exact ⟨hN.1, hN.2.1⟩) hit hn
    refine ⟨tq, g1, g3, ?_⟩
    have hlen := rights_len h5
    rw [upX_node (by omega) hlen]
    have hred : actAt l T Nx S s (colAt T w (a + leavess kids)) = (2, (i : Int)) := by
      refine reduce_act h.calm k2 hcT k3 ?_ ?_ rfl
      · show (i : Int) < _; omega
      · show (0 : Int) + _ = ((prodAt l (i : Int)).2.length : Int); omega
    exact k5.app (.reduce hred k4 (by rw [h3]; exact g2) .nil)
theorem sim_kids (h : LrH l T N lk Nx S w E F W R M) : ∀ {ks : List Tree} {b : List Sym} {a q : Nat} {σ : List Nat} {it : Item}, Rights l ks b a → q < S.length → it ∈ S.getD q [] → (bodyI l it.1).drop it.2.1.toNat = b → it.2.2 = (colAt T w (a + leavess ks) : Int) → a + leavess ks ≤ w.length → (∃ r, w.drop a = yields l ks b ++ r) →
    ∃ (τ : List Nat) (s : Nat), s < S.length ∧ ((it.1, it.2.1 + (b.length : Int), it.2.2) : Item) ∈ S.getD s [] ∧ (s :: τ).drop b.length = q :: σ ∧ LRun l T Nx S w (q :: σ) a (ks.flatMap (upX l)) (s :: τ) (a + leavess ks)
  | [], [], a, q, σ, it, hr, hq, hit, hb, hc, ha, hy => by
    refine ⟨σ, q, hq, ?_, rfl, .nil⟩
    have e : ((it.1, it.2.1 + (([] : List Sym).length : Int), it.2.2) : Item) = it := by
      obtain ⟨i1, i2, i3⟩ := it
      simp
    rw [e]; exact hit
  | [], _ :: _, a, q, σ, it, hr, hq, hit, hb, hc, ha, hy => by cases hr
  | .mk p k kids :: r, [], a, q, σ, it, hr, hq, hit, hb, hc, ha, hy => by cases hr
  | .mk p k kids :: r, y :: b, a, q, σ, it, hr, hq, hit, hb, hc, ha, hy => by
    rw [Rights] at hr
    obtain ⟨hr1, hr2⟩ := hr
    obtain ⟨b1, b2, b3⟩ := drop_cons hb
    have hR := state_right h.all hq it hit
    have hn : nextS l it = some y := b1
    rw [leavess] at hc ha
    have hadv : (advI it).2.1.toNat = it.2.1.toNat + 1 := by
      show (it.2.1 + 1).toNat = _
      have := hR.2.2.1
      omega
    have hb' : (bodyI l (advI it).1).drop (advI it).2.1.toNat = b := by rw [hadv]; exact b2
    have hitem : (((advI it).1, (advI it).2.1 + (b.length : Int), (advI it).2.2) : Item) = (it.1, it.2.1 + ((y :: b).length : Int), it.2.2) := by
      show (it.1, it.2.1 + 1 + (b.length : Int), it.2.2) = _
      rw [List.length_cons]
      have : it.2.1 + 1 + (b.length : Int) = it.2.1 + ((b.length + 1 : Nat) : Int) := by omega
      rw [this]
    have hdrop : ∀ {ρ : List Nat} {s : Nat}, ρ.drop b.length = s :: q :: σ → ρ.drop (y :: b).length = q :: σ := fun {ρ s} hd => by
      rw [List.length_cons, Nat.add_comm, ← List.drop_drop]
      rw [Nat.add_comm] at *
      have : ρ.drop (b.length + 1) = (ρ.drop b.length).drop 1 := by rw [List.drop_drop]
      first
        | (rw [List.drop_drop]; rw [Nat.add_comm 1 b.length]; rw [this, hd]; rfl)
        | (rw [List.drop_drop, this, hd]; rfl)
    rw [yields_X] at hy
    rw [List.flatMap_cons, leavess]
    rcases right_kind hr1 with ⟨hy1, rfl, rfl⟩ | ⟨hy1, hp⟩
    · have hlf : leaves (.mk (-1) k []) = 1 := by rw [leaves, if_pos (by decide)]
      rw [hlf] at hc ha hr2 ⊢
      have hk : k = (a : Int) := by
        rw [Right] at hr1
        rcases hr1 with ⟨_, _, h3, _⟩ | ⟨_, h3, _⟩
        · exact h3
        · omega
      subst hk
      have hyX : yieldX l (.mk (-1) (a : Int) []) y = [y.2] := by unfold yieldX; rw [if_pos (by show (-1 : Int) < 0; decide)]
      rw [hyX] at hy
      obtain ⟨rr, hy⟩ := hy
      rw [List.append_assoc, List.singleton_append] at hy
      obtain ⟨c1, c2, c3, c4⟩ := col_at h hy
      obtain ⟨yk, yn⟩ := y
      have hy1 : yk = 1 := hy1
      subst hy1
      obtain ⟨t, rfl⟩ := Int.eq_ofNat_of_zero_le c3
      have c2 : ((colAt T w a : Nat) : Int) = (t : Int) := c2
      have c2 : colAt T w a = t := by omega
      obtain ⟨s, s1, s2, s3⟩ := shift_act h.all h.wide h.few h.terms h.calm hq (by omega : t < T) hit hn
      have hd1 : w.drop (a + 1) = yields l r b ++ rr := by
        rw [← List.drop_drop, hy]; rfl
      obtain ⟨τ, s', g1, g2, g3, g4⟩ := sim_kids h (q := s) (σ := q :: σ) (it := advI it) hr2 s1 s3 hb' (by show it.2.2 = _; rw [hc]; congr 2; omega) (by omega) ⟨rr, hd1⟩
      rw [hitem] at g2
      refine ⟨τ, s', g1, g2, hdrop g3, ?_⟩
      rw [show a + (1 + leavess r) = a + 1 + leavess r by omega, upX_leaf]
      exact .shift c1 (by rw [c2]; exact s2) g4
    · have hy2 : y.1 = 2 := by
        rcases body_syms h.syms h.nons (p := it.1) y (List.mem_of_getElem? b1) with h' | h'
        · exact absurd h' hy1
        · exact h'.1
      have hyX : yieldX l (.mk p k kids) y = yieldT l (.mk p k kids) := by unfold yieldX; rw [if_neg (by show ¬ p < 0; omega)]
      rw [hyX] at hy
      obtain ⟨rr, hy⟩ := hy
      rw [List.append_assoc] at hy
      have hbs : ∀ x ∈ b, x.1 = 1 ∨ x.1 = 2 := fun x hx => by
        rcases body_syms h.syms h.nons (p := it.1) x (by rw [← b2] at hx; exact List.mem_of_mem_drop hx) with h' | h'
        · exact .inl h'
        · exact .inr h'.1
      have hyl : (yieldT l (.mk p k kids)).length = leaves (.mk p k kids) := by rw [← hyX]; exact yieldX_len hr1
      have hd1 : w.drop (a + leaves (.mk p k kids)) = yields l r b ++ rr := by
        rw [← List.drop_drop, hy, ← hyl, List.drop_left]
      have hlk := looks_has (w := w) (u := a + leaves (.mk p k kids)) h.facts h.syms h.looks h.terms h.word hR b2 hbs hr2 ⟨rr, hd1⟩ (by omega) (by rw [hc]; congr 2; omega)
      obtain ⟨s, s1, s3, s4⟩ := sim_tree h (σ := σ) hr1 hy2 hq hit hn hlk (by omega) ⟨_, hy⟩
      obtain ⟨τ, s', g1, g2, g3, g4⟩ := sim_kids h (q := s) (σ := q :: σ) (it := advI it) hr2 s1 s3 hb' (by show it.2.2 = _; rw [hc]; congr 2; omega) (by omega) ⟨rr, hd1⟩
      rw [hitem] at g2
      refine ⟨τ, s', g1, g2, hdrop g3, ?_⟩
      rw [show a + (leaves (.mk p k kids) + leavess r) = a + leaves (.mk p k kids) + leavess r by omega]
      exact s4.app g4
end
/-- each tree of the word is built, and accepted -/
theorem tree_runs (h : LrH l T N lk Nx S w E F W R M) {t : Tree} (ht : Right l t (2, 0) 0) (hy : yieldT l t = w) : ∃ s ρ, LRun l T Nx S w [0] 0 (upX l t) (s :: ρ) w.length ∧ actAt l T Nx S s (colAt T w w.length) = (3, 0) := by
  have hp : 0 ≤ t.prod := by
    obtain ⟨p, k, kids⟩ := t
    rcases right_kind ht with ⟨h1, _⟩ | ⟨_, h1⟩
    · cases h1
    · exact h1
  have hl : leaves t = w.length := by
    have := yieldX_len ht
    unfold yieldX at this
    rw [if_neg (by omega), hy] at this
    exact this.symm
  have hcol : colAt T w w.length = T := by unfold colAt; rw [if_neg (Nat.lt_irrefl _)]
  have h0 := (List.getElem?_eq_some_iff.1 h.all.start).1
  have hget : S.getD 0 [] = startI l T lk := by rw [List.getD_eq_getElem?_getD, h.all.start]; rfl
  have hst := start_right (l := l) (T := T) h.few h.terms
  have hit : (((l.length : Int), 0, (T : Int)) : Item) ∈ S.getD 0 [] := by
    rw [hget]; exact (closed_mem (lk := lk) h.wide h.few h.terms hst).2 (.base (List.mem_singleton.2 rfl))
  have hbody : bodyI l (l.length : Int) = [(2, 0)] := by unfold bodyI; rw [if_pos rfl]
  have hn : nextS l ((l.length : Int), 0, (T : Int)) = some (2, 0) := by
    show (bodyI l (l.length : Int))[0]? = _
    rw [hbody]; rfl
  obtain ⟨s, s1, s2, s3⟩ := sim_tree h (σ := []) ht rfl h0 hit hn (by
    rw [Nat.zero_add, hl]
    have hR := state_right h.all h0 _ hit
    refine (looks_bit (by have := col_le h w.length; have := h.terms; omega) hR.2.2.2.2.1).2 (.inr ⟨?_, by show (T : Int) = _; rw [hcol]⟩)
    rw [h.looks _ _ hR.1 hR.2.1 hR.2.2.1]
    show (beginF E F ((bodyI l (l.length : Int)).drop 1) (2 ^ 62)).testBit 62 = true
    rw [hbody]
    show (0 ||| 2 ^ 62 : Nat).testBit 62 = true
    decide) (by omega) ⟨[], by rw [hy]; simp⟩
  rw [Nat.zero_add, hl] at s3
  refine ⟨s, [0], s3, ?_⟩
  rw [hcol]
  exact accept_act h.calm s1 s2
/-- KNUTH -/
theorem lr_one (h : LrH l T N lk Nx S w E F W R M) {t t' : Tree} (ht : Right l t (2, 0) 0) (hy : yieldT l t = w) (ht' : Right l t' (2, 0) 0) (hy' : yieldT l t' = w) : t = t' := by
  obtain ⟨s, ρ, h1, h2⟩ := tree_runs h ht hy
  obtain ⟨s', ρ', h3, h4⟩ := tree_runs h ht' hy'
  have e := h1.det h3 (fun q ρ e => by cases e; exact h2) (fun q ρ e => by cases e; exact h4)
  have hh : ∀ p ∈ l, 0 ≤ p.1 := fun p hp => (h.syms p hp).1
  have r1 := run_of (P := []) (r := []) hh ht
  have r2 := run_of (P := []) (r := []) hh ht'
  rw [e] at r1
  rw [r1] at r2
  simp only [runP, Option.some.injEq, Prod.mk.injEq, List.nil_append, List.cons.injEq, and_true] at r2
  exact r2.1.1
end
end Go.Proofs.Ytdbghmgajmlkmaa.itemL

/- LrN -/
namespace Go.Proofs.Ytdbghmgajmlkmaa.itemL
open gramL treeL countL factsL smallL derL
open llL (colAt)
section
variable {l : List gramL.Prod} {T N : Nat} {lk : Int → Int → Nat} {Nx : List (List Int)} {S : List (List Item)}
/-- a stack: states, the last one first, and the trees between them -/
inductive Stk (l : List gramL.Prod) (T N : Nat) (lk : Int → Int → Nat) (S : List (List Item)) : List Nat → List (Sym × Tree) → Nat → Prop
  | start : Stk l T N lk S [0] [] 0
  | push {q s : Nat} {σ : List Nat} {ts : List (Sym × Tree)} {a : Nat} {x : Sym} {t : Tree} (h : Stk l T N lk S (q :: σ) ts a) (hs : s < S.length) (hx : S.getD s [] = stepI l T lk (S.getD q []) x) (hne : stepI l T lk (S.getD q []) x ≠ []) (ht : Right l t x a) : Stk l T N lk S (s :: q :: σ) ((x, t) :: ts) (a + leaves t)
theorem Stk.len {σ : List Nat} {ts : List (Sym × Tree)} {a : Nat} (h : Stk l T N lk S σ ts a) : σ.length = ts.length + 1 := by
  induction h with
  | start => rfl
  | push _ _ _ _ _ ih => rw [List.length_cons, ih, List.length_cons]
section
end
end
end Go.Proofs.Ytdbghmgajmlkmaa.itemL

/- Opens -/
namespace Go.Proofs.Ytdbghmgajmlkmaa.derL
open gramL treeL countL factsL
def partO (o : Sym → Nat → Nat → Nat) (x : Sym) (frm : Nat) (A : Nat → Bool) : Nat → Nat → Bool
  | 0, _ => false
  | k + 1, b => partO o x frm A k b || (A (frm + k) && decide (frm + k ≤ b) && decide (0 < o x (frm + k) b))
def anyO (p : Nat → Bool) (frm : Nat) : Nat → Bool
  | 0 => false
  | k + 1 => anyO p frm k || p (frm + k)
def opGo (o : Sym → Nat → Nat → Nat) (O : Nat → Nat → Bool) (n frm : Nat) : List Sym → (Nat → Bool) → Bool
  | [], A => A n
  | x :: r, A => if A n = true then true else if x.1 = 2 ∧ anyO (fun a => A a && O x.2.toNat a) frm (n + 1 - frm) = true then true else opGo o O n frm r (partO o x frm A (n + 1 - frm))
def opensF (o : Sym → Nat → Nat → Nat) (O : Nat → Nat → Bool) (M : List Bool) (n frm : Nat) (l : List Sym) : Bool := if allF M l true = true then opGo o O n frm l (fun b => decide (b = frm)) else false
section
end
section
end
end Go.Proofs.Ytdbghmgajmlkmaa.derL

/- BeginL -/
namespace Go.Proofs.Ytdbghmgajmlkmaa.derL
open gramL treeL countL factsL eng
def fal (N m : Nat) (O : Nat → Nat → Bool) : Nat := sumN (fun i => sumN (fun j => if O i j = true then 0 else 1) m) N
def SoundO (l : List gramL.Prod) (w : List Int) (O : Nat → Nat → Bool) : Prop := ∀ (k : Nat) a, O k a = true → a ≤ w.length → ∃ v, Der l (2, (k : Int)) (w.drop a ++ v)
/-- the pass: what it has come to -/
structure PassO (l : List gramL.Prod) (w : List Int) (o : Sym → Nat → Nat → Nat) (M : List Bool) (N : Nat) (O O' : Nat → Nat → Bool) (more : Bool) (i a : Nat) : Prop where
  sound : SoundO l w O'
  less : more = true → fal N (w.length + 1) O' < fal N (w.length + 1) O
  still : more = false → O' = O ∧ ∀ q a', (q < i ∨ (q = i ∧ a' < a)) → ∀ h : q < l.length, a' ≤ w.length → opensF o O M w.length a' l[q].2 = true → O l[q].1.toNat a' = true
section
variable {l : List gramL.Prod} {w : List Int} {n : Nat} {c : Chart} {M : List Bool} {O O' : Nat → Nat → Bool} {more : Bool} {i a : Nat}
theorem PassO.start (h : SoundO l w O) (o : Sym → Nat → Nat → Nat) (N : Nat) : PassO l w o M N O O false 0 0 := ⟨h, fun h => by (cases h), fun _ => ⟨rfl, fun q a' h => by omega⟩⟩
end
end Go.Proofs.Ytdbghmgajmlkmaa.derL

/- LrP -/
namespace Go.Proofs.Ytdbghmgajmlkmaa.itemL
open gramL treeL countL factsL smallL derL

open llL (colAt)
section
end
section
variable {l : List gramL.Prod} {act : Nat → Nat → Act} {gt : Nat → Int → Int} {T N : Nat} {lk : Int → Int → Nat} {Nx : List (List Int)} {S : List (List Item)}
/-- what is known of the table -/
structure TabB (l : List gramL.Prod) (act : Nat → Nat → Act) (gt : Nat → Int → Int) (T N : Nat) (Nx : List (List Int)) (S : List (List Item)) : Prop where
  act : ∀ q c, q < S.length → c ≤ T → act q c = actAt l T Nx S q c
  gt : ∀ q n, q < S.length → 0 ≤ n → n < (N : Int) → gt q n = goTo T Nx q n
theorem act_in {q c : Nat} {x : Act} (h : actAt l T Nx S q c = x) (h0 : x.1 ≠ 0) : x ∈ actsI l T (S.getD q []) (Nx.getD q []) c := by
  unfold actAt at h
  cases e : actsI l T (S.getD q []) (Nx.getD q []) c with
  | nil => rw [e] at h; subst h; exact absurd rfl h0
  | cons y r => rw [e] at h; subst h; exact List.mem_cons_self ..
/-- what an act means -/
theorem act_means {q c : Nat} {x : Act} (h : x ∈ actsI l T (S.getD q []) (Nx.getD q []) c) :
    (x.1 = 1 ∧ c < T ∧ 0 ≤ (Nx.getD q []).getD c 0 ∧ x.2 = (Nx.getD q []).getD c 0) ∨ (x = (3, 0) ∧ (((l.length : Int), 1, (c : Int)) : Item) ∈ S.getD q []) ∨ (x.1 = 2 ∧ x.2 < (l.length : Int) ∧ ((x.2, ((prodAt l x.2).2.length : Int), (c : Int)) : Item) ∈ S.getD q []) := by
  unfold actsI at h
  rcases List.mem_append.1 h with h | h
  · split at h
    · rename_i c1
      rw [List.mem_singleton] at h
      subst h
      exact .inl ⟨rfl, c1.1, c1.2, rfl⟩
    · cases h
  · obtain ⟨it, hit, e⟩ := List.mem_filterMap.1 h
    obtain ⟨p, d, k⟩ := it
    unfold actOf at e
    dsimp only at e
    by_cases c1 : k ≠ (c : Int)
    · rw [if_pos c1] at e; cases e
    · rw [if_neg c1] at e
      have c1 : k = (c : Int) := Classical.not_not.1 c1
      subst c1
      by_cases c2 : p = (l.length : Int) ∧ d = 1
      · rw [if_pos c2] at e
        obtain ⟨rfl, rfl⟩ := c2
        exact .inr (.inl ⟨(Option.some.inj e).symm, hit⟩)
      · rw [if_neg c2] at e
        by_cases c3 : p < (l.length : Int) ∧ d = ((prodAt l p).2.length : Int)
        · rw [if_pos c3] at e
          obtain ⟨c3, rfl⟩ := c3
          obtain rfl := Option.some.inj e
          exact .inr (.inr ⟨rfl, c3, hit⟩)
        · rw [if_neg c3] at e; cases e
section
variable (hB : TabB l act gt T N Nx S) (hI : AllI l T N lk S.length Nx S) (hw : ∀ q ∈ l, q.2.length ≤ 8) (hl : l.length ≤ 40) (hT : T ≤ 30) (hh : ∀ q ∈ l, 0 ≤ q.1 ∧ q.1 < (N : Int))
include hB hI hw hl hT hh
omit hB hw hl hT hh in
theorem cell_next {q k s : Nat} {x : Sym} (hq : q < S.length) (hk : (symsI T N)[k]? = some x) (hs : (Nx.getD q []).getD k 0 = (s : Int)) : s < S.length ∧ S.getD s [] = stepI l T lk (S.getD q []) x ∧ stepI l T lk (S.getD q []) x ≠ [] := by
  rcases hI.cell q hq k x hk with ⟨_, h2⟩ | ⟨h1, h2, h3⟩
  · rw [hs] at h2; omega
  · rw [hs] at h3
    obtain rfl : s = idx S (stepI l T lk (S.getD q []) x) := by omega
    refine ⟨idx_lt h2, ?_, h1⟩
    rw [List.getD_eq_getElem?_getD, List.getElem?_eq_getElem (idx_lt h2)]
    exact idx_get (idx_lt h2)
end
end
end Go.Proofs.Ytdbghmgajmlkmaa.itemL

/- LrT -/
namespace Go.Proofs.Ytdbghmgajmlkmaa.eng
open gramL treeL countL factsL itemL smallL derL
open llL (colAt)
/-- what is had of a grammar of which a table was made -/
structure MadeT (g : Gram) (T N : Nat) (Nx : List (List Int)) (S : List (List itemL.Item)) : Prop where
  gram : checkG g = 0
  terms : g.terms = (T : Int)
  nons : g.nons = (N : Int)
  all : allI g.prods T N (lkG g) = some (Nx, S)
  acts : (outT g).1 = actTab g.prods T Nx S S.length
  gos : (outT g).2.1 = gotoTab T Nx S.length
  fights : (outT g).2.2.1 = fightsA g.prods T Nx S S.length
theorem outT_made {g : Gram} (h : (outT g).2.2.2 = 0) : ∃ T N Nx S, MadeT g T N Nx S := by
  unfold outT at h
  by_cases c : (outA g).2.2 ≠ 0
  · rw [if_pos c] at h; exact absurd h c
  · have c2 : (outA g).2.2 = 0 := Classical.not_not.1 c
    obtain ⟨hg, hA⟩ := outA_ok c2
    obtain ⟨hT1, hT2, hN1, hN2, -⟩ := checkG_ok hg
    exact ⟨g.terms.toNat, g.nons.toNat, (outA g).1, (outA g).2.1, hg, by omega, by omega, hA, by unfold outT; rw [if_neg c], by unfold outT; rw [if_neg c], by unfold outT; rw [if_neg c]⟩
section
variable {g : Gram} {T N : Nat} {Nx : List (List Int)} {S : List (List itemL.Item)}
theorem MadeT.wide (h : MadeT g T N Nx S) : ∀ q ∈ g.prods, q.2.length ≤ 8 := fun q hq => ((checkG_ok h.gram).2.2.2.2.2 q hq).1
theorem MadeT.few (h : MadeT g T N Nx S) : g.prods.length ≤ 40 := (checkG_ok h.gram).2.2.2.2.1
theorem MadeT.t30 (h : MadeT g T N Nx S) : T ≤ 30 := by have := (checkG_ok h.gram).2.1; have := h.terms; omega
theorem MadeT.law (h : MadeT g T N Nx S) : AllI g.prods T N (lkG g) S.length Nx S := allI_law h.wide h.few h.t30 h.all
theorem actTab_get {l : List gramL.Prod} {i n : Nat} (h : i < n) : (actTab l T Nx S n)[i]? = some (actRow l T Nx S i (T + 1)) := by unfold actTab; simp [h]
theorem gotoTab_get {i n : Nat} (h : i < n) : (gotoTab T Nx n)[i]? = some ((Nx.getD i []).drop T) := by unfold gotoTab; simp [h]
theorem actRow_get {l : List gramL.Prod} {q c : Nat} (h : c < T + 1) : (actRow l T Nx S q (T + 1))[c]? = some (actAt l T Nx S q c) := by
  unfold actRow
  rw [List.getElem?_map, List.getElem?_range h]
  simp [h]
theorem MadeT.right (h : MadeT g T N Nx S) {q c : Nat} (hq : q < S.length) (hc : c < T + 1) : RightAct T g.prods.length S.length (actAt g.prods T Nx S q c) c := by
  have hI := h.law
  by_cases h0 : (actAt g.prods T Nx S q c).1 = 0
  · left
    refine ⟨h0, ?_⟩
    unfold actAt at h0 ⊢
    cases e : actsI g.prods T (S.getD q []) (Nx.getD q []) c with
    | nil => rfl
    | cons y r =>
      rw [e] at h0
      have hm : y ∈ actsI g.prods T (S.getD q []) (Nx.getD q []) c := by rw [e]; exact List.mem_cons_self ..
      rcases act_means hm with h' | h' | h'
      · have := h'.1; have h0 : y.1 = 0 := h0; omega
      · have h0 : y.1 = 0 := h0; rw [h'.1] at h0; cases h0
      · have := h'.1; have h0 : y.1 = 0 := h0; omega
  · rcases act_means (act_in rfl h0) with h' | h' | h'
    · obtain ⟨h1, h2, h3, h4⟩ := h'
      obtain ⟨s, hs⟩ := Int.eq_ofNat_of_zero_le h3
      obtain ⟨k1, -, -⟩ := cell_next hI hq (syms_term h2) hs
      exact .inr (.inl ⟨h1, h2, by omega, by rw [h4, hs]; omega⟩)
    · obtain ⟨h1, h2⟩ := h'
      have ht := all_top h.wide h.few h.t30 h.all q hq _ h2 rfl
      have ht : (c : Int) = (T : Int) := ht
      exact .inr (.inr (.inr ⟨by rw [h1], by rw [h1], by omega⟩))
    · obtain ⟨h1, h2, h3⟩ := h'
      exact .inr (.inr (.inl ⟨h1, (state_right hI hq _ h3).1, h2⟩))
theorem MadeT.tab (h : MadeT g T N Nx S) : LrOk g T N (actTab g.prods T Nx S S.length) (gotoTab T Nx S.length) where
  gram := h.gram
  terms := h.terms
  nons := h.nons
  pos := by rw [actTab_len]; exact (List.getElem?_eq_some_iff.1 h.law.start).1
  few := by rw [actTab_len]; exact h.law.few
  same := by rw [actTab_len, gotoTab_len]
  wA := fun i hi => by
    obtain ⟨h1, h2⟩ := List.getElem?_eq_some_iff.1 (actTab_get (T := T) (Nx := Nx) (S := S) (l := g.prods) (show i < S.length by rw [actTab_len] at hi; exact hi))
    rw [h2]; exact actRow_len
  acts := fun i hi c hc => by
    have hi' : i < S.length := by rw [actTab_len] at hi; exact hi
    obtain ⟨h1, h2⟩ := List.getElem?_eq_some_iff.1 (actTab_get (T := T) (Nx := Nx) (S := S) (l := g.prods) hi')
    simp only [h2] at hc ⊢
    rw [actRow_len] at hc
    obtain ⟨h3, h4⟩ := List.getElem?_eq_some_iff.1 (actRow_get (l := g.prods) (T := T) (Nx := Nx) (S := S) (q := i) hc)
    rw [h4, actTab_len]
    exact h.right hi' hc
  wG := fun i hi => by
    have hi' : i < S.length := by rw [gotoTab_len] at hi; exact hi
    obtain ⟨h1, h2⟩ := List.getElem?_eq_some_iff.1 (gotoTab_get (T := T) (Nx := Nx) hi')
    rw [h2, List.length_drop, h.law.wide i hi']
    omega
  gos := fun i hi y hy => by
    have hi' : i < S.length := by rw [gotoTab_len] at hi; exact hi
    obtain ⟨h1, h2⟩ := List.getElem?_eq_some_iff.1 (gotoTab_get (T := T) (Nx := Nx) hi')
    rw [h2] at hy
    obtain ⟨k, hk, rfl⟩ := List.getElem_of_mem hy
    rw [actTab_len]
    rw [List.length_drop, h.law.wide i hi'] at hk
    rw [List.getElem_drop]
    have hw := h.law.wide i hi'
    have hg : (Nx.getD i [])[T + k]'(by rw [hw]; omega) = (Nx.getD i []).getD (T + k) 0 := by rw [List.getD_eq_getElem?_getD (l := Nx.getD i []), List.getElem?_eq_getElem (by rw [hw]; omega)]; rfl
    rw [hg]
    rcases h.law.cell i hi' (T + k) _ (syms_non (by omega)) with ⟨_, e⟩ | ⟨_, e1, e2⟩
    · rw [e]; omega
    · rw [e2]; have := idx_lt e1; omega
theorem fights_none {l : List gramL.Prod} : ∀ n, (fightsA l T Nx S n).length = 0 → ∀ q, q < n → ∀ c, c ≤ T → (actsI l T (S.getD q []) (Nx.getD q []) c).length ≤ 1
  | 0, _, q, hq, _, _ => absurd hq (Nat.not_lt_zero _)
  | n + 1, h, q, hq, c, hc => by
    rw [fightsA, List.length_append] at h
    by_cases e : q = n
    · subst e
      have row : ∀ d, (fightsR l T Nx S q d).length = 0 → ∀ c, c < d → (fightsC l T Nx S q c).length = 0 := fun d => by
        induction d with
        | zero => exact fun _ c hc => absurd hc (Nat.not_lt_zero _)
        | succ d ih =>
          intro h c hc
          rw [fightsR, List.length_append] at h
          by_cases e2 : c = d
          · subst e2; omega
          · exact ih (by omega) c (by omega)
      have := row (T + 1) (by omega) c (by omega)
      unfold fightsC at this
      rw [List.length_map, List.length_tail] at this
      have h2 : (actsI l T (S.getD q []) (Nx.getD q []) c).length - 1 = 0 := this
      omega
    · exact fights_none n (by omega) q (by omega) c hc
theorem MadeT.calm (h : MadeT g T N Nx S) (hc : calmB g = true) : CalmI g.prods T Nx S := by
  unfold calmB at hc
  rw [Bool.and_eq_true, decide_eq_true_eq, decide_eq_true_eq, h.fights] at hc
  exact fun q hq c hcT => fights_none S.length hc.2 q hq c hcT
theorem calm_made (hc : calmB g = true) : ∃ T N Nx S, MadeT g T N Nx S := by
  unfold calmB at hc
  rw [Bool.and_eq_true, decide_eq_true_eq] at hc
  exact outT_made hc.1
theorem body_right (hg : checkG g = 0) {p : Int} : ∀ x ∈ bodyI g.prods p, right g.terms g.nons x = true := fun x hx => by
  unfold bodyI at hx
  split at hx
  · rw [List.mem_singleton.1 hx]
    have := (checkG_ok hg).2.2.1
    unfold right
    rw [if_neg (by decide), if_pos rfl]
    simp only [Int.le_refl, decide_true, Bool.true_and, decide_eq_true_eq]
    omega
  · by_cases h2 : p.toNat < g.prods.length
    · have : prodAt g.prods p ∈ g.prods := by unfold prodAt; rw [List.getD_eq_getElem?_getD, List.getElem?_eq_getElem h2]; exact List.getElem_mem h2
      exact ((checkG_ok hg).2.2.2.2.2 _ this).2.2.2 x hx
    · unfold prodAt at hx
      rw [List.getD_eq_getElem?_getD, List.getElem?_eq_none (by omega)] at hx
      cases hx
theorem MadeT.looks (h : MadeT g T N Nx S) (p d : Int) : lkG g p d = beginF (ofS N g.prods).E (ofF N g.prods) ((bodyI g.prods p).drop (d.toNat + 1)) (2 ^ 62) := by
  unfold lkG begV
  have hb8 := body_len (l := g.prods) (p := p) h.wide
  have hE : begE g ((bodyI g.prods p).drop (d.toNat + 1)) = 0 := by
    unfold begE
    rw [if_neg (by rw [h.gram]; simp), if_neg (by rw [List.length_drop]; omega)]
    exact badE_of fun x hx => body_right h.gram x (List.mem_of_mem_drop hx)
  rw [if_pos hE, show g.nons.toNat = N by rw [h.nons]; rfl]
theorem MadeT.lrH (h : MadeT g T N Nx S) (hc : calmB g = true) {w : List Int} (hw : ∀ x ∈ w, 0 ≤ x ∧ x < (T : Int)) : LrH g.prods T N (lkG g) Nx S w (ofS N g.prods).E (ofF N g.prods) (ofW N g.prods) (ofS N g.prods).R (ofS N g.prods).M where
  wide := h.wide
  few := h.few
  terms := h.t30
  nons := by have := (checkG_ok h.gram).2.2.1; have := h.nons; omega
  syms := symsOk_of h.gram h.nons
  term := fun q hq x hx h1 => by
    have := ((checkG_ok h.gram).2.2.2.2.2 q hq).2.2.2 x hx
    rcases right_cases this with ⟨_, h2, h3⟩ | ⟨h2, _⟩
    · rw [h.terms] at h3; exact ⟨h2, h3⟩
    · rw [h1] at h2; cases h2
  all := h.law
  calm := h.calm hc
  facts := closed_of h.gram h.nons
  looks := fun p d _ _ _ => h.looks p d
  word := hw
/-- KNUTH -/
theorem lr_oneG (hc : calmB g = true) {word : List Int} (hck : checkC g word = 0) : treesN g word ≤ 1 := by
  obtain ⟨T, N, Nx, S, h⟩ := calm_made hc
  obtain ⟨hg, _, hw⟩ := checkC_ok hck
  rw [h.terms] at hw
  apply Nat.le_of_not_lt
  intro h2
  obtain ⟨t, t', hne, h1, y1, h2, y2⟩ := two_trees (g := g) (w := word) h2
  exact hne (lr_one (h.lrH hc hw) h1 y1 h2 y2)
end
/-! ### brackets -/
theorem brk_outT : outT brkG = (actTab brkP 2 brkNx brkSt 10, gotoTab 2 brkNx 10, [], 0) := by
  unfold outT
  rw [brk_out]
  kernel_rfl
theorem brk_calm : calmB brkG = true := by
  unfold calmB
  rw [brk_outT]
  rfl
theorem brk_made : MadeT brkG 2 1 brkNx brkSt := ⟨brk_ok, rfl, rfl, brk_all, by rw [brk_outT]; rfl, by rw [brk_outT]; rfl, by rw [brk_outT]; kernel_rfl⟩
end Go.Proofs.Ytdbghmgajmlkmaa.eng

/- CountE -/
namespace Go.Proofs.Ytdbghmgajmlkmaa.eng
open Go.RowKit kit mix gramL countL
attribute [local irreducible] Instr.build in
set_option maxHeartbeats 2000000 in
theorem trees_calls (v vw : Value) (g : Gram) (word : List Int) (w : World) (h : GraR (fun k => k < w.heap.size) w v g) (hs : Sl w vw word.length (word.map (.int .i64))) :
    Calls Try.prog 12 #[v, vw] w (Meets (ret (.tuple #[.int .i64 (treesN g word : Int), .int .i64 (checkC g word)])) w) := by
  have hck := fun w' (hg : Gr w w') => checkC_calls v vw g word w' (h.gr hg) (hs.gr hg)
  by_cases c0 : checkC g word = 0
  · have h0 := h
    obtain ⟨vp, rfl, h1, _⟩ := h
    have hfi := fun w' (hg : Gr w w') => filled_calls vp vw g word w' (h0.gr hg) (hs.gr hg) c0
    have hN := fun (c : Chart) hc => treesN_eq (c := c) c0 hc
    obtain ⟨hg, hl, hw⟩ := checkC_ok c0
    rw [c0] at hck ⊢
    obtain ⟨bw, cw, rfl, _⟩ := hs
    obtain ⟨t, n, prods⟩ := g
    dsimp only at *
    refine enter (args := [graV t n vp, .slice bw word.length cw]) (n := 23) Try.func12 rfl rfl rfl ?_
    refine T_seq (T_region (TL_box rfl rfl rfl fun g2 => ?_))
    repeat (first
      | refine qv rfl (qp rfl) rfl rfl ?_ | refine TL_nil ?_ | refine T_seq ?_ | refine T_region ?_ | refine qcT rfl ?_ | refine qcF rfl ?_ | refine T_skip ?_
      | refine T_ret ?_ | refine E_then ?_ | refine E_thenR ?_ | refine qv rfl (rr_loadB (i := 0) TyC.ty rfl rfl rfl) rfl rfl ?_
      | refine qv rfl (qlen Und.eq rfl) rfl rfl ?_ | refine qv rfl (qfld FldC.fld rfl rfl) rfl rfl ?_ | refine qv rfl (rr_nilc rfl) rfl rfl ?_
      | refine qv rfl (rr_neq rfl rfl (qT (by omega))) rfl rfl ?_ | refine qv rfl (rr_neq rfl rfl (qF (by omega))) rfl rfl ?_)
    refine TL_call (he2 EntersC.en rfl rfl rfl) (fun w hm => hck _ hm.below) rfl rfl rfl ?_
    intro _ _
    conv => arg 8; simp only [zA, zB, zC, zD, zE, zF, zG, zH, zI, rowS, ret, id_eq]
    repeat (first
      | refine qv rfl (qp rfl) rfl rfl ?_ | refine TL_nil ?_ | refine T_seq ?_ | refine T_region ?_ | refine qcT rfl ?_ | refine qcF rfl ?_ | refine T_skip ?_
      | refine T_ret ?_ | refine E_then ?_ | refine E_thenR ?_ | refine qv rfl (rr_loadB (i := 0) TyC.ty rfl rfl rfl) rfl rfl ?_
      | refine qv rfl (qlen Und.eq rfl) rfl rfl ?_ | refine qv rfl (qfld FldC.fld rfl rfl) rfl rfl ?_ | refine qv rfl (rr_nilc rfl) rfl rfl ?_
      | refine qv rfl (rr_neq rfl rfl (qT (by omega))) rfl rfl ?_ | refine qv rfl (rr_neq rfl rfl (qF (by omega))) rfl rfl ?_)
    refine TL_call (he2 EntersC.en rfl rfl rfl) (fun w' hm => hfi w' hm.below) rfl rfl rfl ?_
    rintro ⟨gc, gm, c, Bd⟩ ⟨hx, _⟩
    have hN := hN c hx
    conv => arg 8; simp only [zA, zB, zC, zD, zE, zF, zG, zH, zI, rowS, ret, id_eq, filledS]
    repeat (first
      | refine qv rfl (qp rfl) rfl rfl ?_ | refine TL_nil ?_ | refine T_seq ?_ | refine T_region ?_ | refine qcT rfl ?_ | refine qcF rfl ?_ | refine T_skip ?_
      | refine T_ret ?_ | refine E_then ?_ | refine E_thenR ?_ | refine qv rfl (rr_load1 TyC.ty rfl (at_blk (i := 1) rfl rfl)) rfl rfl ?_
      | refine qv rfl (rr_build rfl (build_span _ _ _)) rfl rfl ?_
      | refine qv rfl (rr_lookT (x := (0, 0, (word.length : Int))) (i := 2) spanK Und.eq zero_int rfl rfl rfl (span_ok (m := 0) (a := 0) ⟨by decide, by decide⟩ (by omega) (by omega)) (by rw [hN])) rfl rfl ?_
      | refine qv rfl (qlen Und.eq rfl) rfl rfl ?_ | refine qv rfl (qfld FldC.fld rfl rfl) rfl rfl ?_ | refine qv rfl (rr_nilc rfl) rfl rfl ?_
      | refine qv rfl (rr_neq rfl rfl (qT (by omega))) rfl rfl ?_ | refine qv rfl (rr_neq rfl rfl (qF (by omega))) rfl rfl ?_)
    exact E_ret2 rfl rfl rfl fun w hm => hm.ret
  · have hN : treesN g word = 0 := by unfold treesN; rw [if_neg c0]
    rw [hN]
    obtain ⟨vp, rfl, h1, _⟩ := h
    obtain ⟨bw, cw, rfl, _⟩ := hs
    generalize checkC g word = e at *
    obtain ⟨t, n, prods⟩ := g
    dsimp only at *
    refine enter (args := [graV t n vp, .slice bw word.length cw]) (n := 23) Try.func12 rfl rfl rfl ?_
    refine T_seq (T_region (TL_box rfl rfl rfl fun g2 => ?_))
    repeat (first
      | refine qv rfl (qp rfl) rfl rfl ?_ | refine TL_nil ?_ | refine T_seq ?_ | refine T_region ?_ | refine qcT rfl ?_ | refine qcF rfl ?_ | refine T_skip ?_
      | refine T_ret ?_ | refine E_then ?_ | refine E_thenR ?_ | refine qv rfl (rr_loadB (i := 0) TyC.ty rfl rfl rfl) rfl rfl ?_
      | refine qv rfl (qlen Und.eq rfl) rfl rfl ?_ | refine qv rfl (qfld FldC.fld rfl rfl) rfl rfl ?_ | refine qv rfl (rr_nilc rfl) rfl rfl ?_
      | refine qv rfl (rr_neq rfl rfl (qT (by omega))) rfl rfl ?_ | refine qv rfl (rr_neq rfl rfl (qF (by omega))) rfl rfl ?_)
    refine TL_call (he2 EntersC.en rfl rfl rfl) (fun w hm => hck _ hm.below) rfl rfl rfl ?_
    intro _ _
    repeat (first
      | refine qv rfl (qp rfl) rfl rfl ?_ | refine TL_nil ?_ | refine T_seq ?_ | refine T_region ?_ | refine qcT rfl ?_ | refine qcF rfl ?_ | refine T_skip ?_
      | refine T_ret ?_ | refine E_then ?_ | refine E_thenR ?_ | refine qv rfl (qlen Und.eq rfl) rfl rfl ?_ | refine qv rfl (qfld FldC.fld rfl rfl) rfl rfl ?_
      | refine qv rfl (rr_nilc rfl) rfl rfl ?_ | refine qv rfl (rr_neq rfl rfl (qT (by omega))) rfl rfl ?_
      | refine qv rfl (rr_neq rfl rfl (qF (by omega))) rfl rfl ?_)
    exact E_ret2 rfl rfl rfl fun w hm => hm.ret
end Go.Proofs.Ytdbghmgajmlkmaa.eng

/- LrOneW -/
namespace Go.Proofs.Ytdbghmgajmlkmaa.lrOne
open Go.RowKit kit mix gramL treeL countL itemL eng
set_option maxHeartbeats 4000000 in
theorem walk (w : World) (v : Value) (g : Gram) (h : GraR (fun k => k < w.heap.size) w v g) (_ : g.prods.length * 32 ≤ 140737488351232) (vw : Value) (word : List Int) (hs : Sl w vw word.length (word.map (.int .i64))) (_ : ∀ n ∈ word, kit.okI64 n) (hl : word.length * 8 ≤ 140737488351232) :
    Calls Try.prog 4 #[v, vw] w (Meets (ret (.bool true)) w) := by
  have hT := fun w' (hg : Gr w w') => trees_calls v vw g word w' (h.gr hg) (hs.gr hg)
  have hA := fun w' (hg : Gr w w') => calm_calls v g w' (h.gr hg)
  have hone := fun hc hk => lr_oneG (g := g) (word := word) hc hk
  obtain ⟨vp, rfl, h1, o1, o2⟩ := h
  have hbt := brk_made.tab
  refine enter (args := [graV g.terms g.nons vp, vw]) (n := 49) Try.func4 rfl rfl rfl ?_
  refine T_seq (T_region (TL_box rfl rfl rfl fun g2 => ?_))
  conv => arg 8; simp only [zA, zB, zC, zD, zE, zF, zG, zH, zI, rowS, ret, id_eq]
  repeat (first
    | refine QV QP ?_ | refine QZ ?_ | refine qcT rfl ?_ | refine qcF rfl ?_ | refine qs rfl rfl rfl rfl rfl rfl ?_
    | ((try refine qg rfl rfl rfl ?_); first | refine QV QP ?_ | refine QV (rr_not rfl rfl) ?_ | refine QV QnT ?_ | refine QV QnF ?_ | refine QV QL ?_ | refine QV QA ?_ | refine QV QlT ?_ | refine QV QlF ?_ | refine QV QmT ?_ | refine QV QmF ?_))
  refine TL_call (he0 EntersC.en rfl) (fun w hm => brackets_calls w) rfl rfl rfl ?_
  rintro ⟨vb, F1⟩ _
  conv => arg 8; simp only [zA, zB, zC, zD, zE, zF, zG, zH, zI, rowS, ret, id_eq, gramS]
  conv => arg 7; simp only [gramS]
  refine TL_call (he1 EntersC.en rfl rfl) (fun w' hm => calm_calls _ brkG w' (prodsO_gra ok2 ok1 (hm.get (i := 1) rfl))) rfl rfl rfl ?_
  rintro x _
  unfold calmS tabL
  rw [brk_calm, brk_outT]
  conv => arg 8; simp only [zA, zB, zC, zD, zE, zF, zG, zH, zI, rowS, ret, id_eq]
  refine TL_know (i := 2) rfl (fun w h => row_slm w h) fun hrow => ?_
  obtain ⟨aA, cA, hvA, -⟩ := hrow
  refine TL_know (i := 4) rfl (fun w h => row_slm w h) fun hrow => ?_
  obtain ⟨aG, cG, hvG, -⟩ := hrow
  obtain ⟨vA, vas, FA, vG, vgs, FG⟩ := x
  dsimp only at hvA hvG ⊢
  subst hvA hvG
  repeat (first
    | refine QV QP ?_ | refine QZ ?_ | refine qcT rfl ?_ | refine qcF rfl ?_ | refine qs rfl rfl rfl rfl rfl rfl ?_
    | ((try refine qg rfl rfl rfl ?_); first | refine QV QP ?_ | refine QV (rr_not rfl rfl) ?_ | refine QV QnT ?_ | refine QV QnF ?_ | refine QV QL ?_ | refine QV QA ?_ | refine QV QlT ?_ | refine QV QlF ?_ | refine QV QmT ?_ | refine QV QmF ?_))
  refine TL_new rfl fun g5 => ?_
  conv => arg 8; simp only [zA, zB, zC, zD, zE, zF, zG, zH, zI, rowS, ret, id_eq]
  refine TL_storeB (i := 6) rfl rfl rfl rfl rfl rfl ?_
  conv => arg 8; simp only [zA, zB, zC, zD, zE, zF, zG, zH, zI, rowS, ret, id_eq]
  repeat (first
    | refine QV QP ?_ | refine QZ ?_ | refine qcT rfl ?_ | refine qcF rfl ?_ | refine qs rfl rfl rfl rfl rfl rfl ?_
    | ((try refine qg rfl rfl rfl ?_); first | refine QV QP ?_ | refine QV (rr_not rfl rfl) ?_ | refine QV QnT ?_ | refine QV QnF ?_ | refine QV QL ?_ | refine QV QA ?_ | refine QV QlT ?_ | refine QV QlF ?_ | refine QV QmT ?_ | refine QV QmF ?_))
  refine T_ord ([blkO g5 #[.slice aA (actTab brkP 2 brkNx brkSt 10).length cA, .slice aG (gotoTab 2 brkNx 10).length cG] 28]) (.calm 0 (.calm 1 (.calm 2 (.calm 3 (.calm 4 (.calm 5 (.calm 6 (.calm 7 (.calm 8 (.calm 10 (.one 9 (.one 11 (.calm 12 (.calm 13 (.done))))))))))))))) (sub_pick [6] (by decide) rfl) (by kernel_rfl) (by kernel_rfl) (by intro c a d v w h; cases d <;> exact h) ?_
  have hln : (actTab brkP 2 brkNx brkSt 10).length = 10 := actTab_len 10
  repeat (first
    | ((first | refine TW_plain rfl rfl ?_ | refine TW_gmet rfl rfl rfl rfl ?_); first | refine QW QP ?_ | refine QW (rr_load1 (v := .slice aA (actTab brkP 2 brkNx brkSt 10).length cA) TyC.ty rfl (at_blk (i := 0) rfl rfl)) ?_ | refine QW (rr_loadB (i := 0) TyC.ty rfl rfl rfl) ?_ | refine QW (rr_not rfl rfl) ?_ | refine QW QnT ?_ | refine QW QnF ?_ | refine QW (rr_lss (b := false) rfl rfl (decide_eq_false (by omega))) ?_ | refine QW QL ?_ | refine QW QA ?_ | refine QW QlT ?_ | refine QW QlF ?_ | refine QW QmT ?_ | refine QW QmF ?_)
    | refine TW_skip rfl rfl rfl rfl rfl rfl rfl ?_ | refine TW_done ?_)
  refine TW_one rfl ?_
  refine TL_gcall (he0 EntersC.en rfl) (fun w hm => brackets_calls w) rfl rfl rfl rfl rfl ?_
  rintro ⟨vb2, F2⟩ _
  conv => arg 8; simp only [zA, zB, zC, zD, zE, zF, zG, zH, zI, rowS, ret, id_eq, gramS]
  conv => arg 7; simp only [gramS]
  refine TW_on (sub_pick [6] (by decide) rfl) ?_
  refine TW_one rfl ?_
  refine TL_gcall (he2 EntersC.en rfl rfl rfl) (fun w hm => lrCheck_calls _ _ brkG 2 1 _ _ hbt w (prodsO_gra ok2 ok1 (hm.get (i := 7) rfl)) (tabR_of (x := ⟨_, vas, FA, _, vgs, FG⟩) (hm.get (i := 2) rfl) (hm.get (i := 3) rfl) (hm.get (i := 4) rfl) (hm.get (i := 5) rfl))) rfl rfl rfl rfl rfl ?_
  intro _ _
  conv => arg 8; simp only [zA, zB, zC, zD, zE, zF, zG, zH, zI, rowS, ret, id_eq]
  refine TW_on (sub_pick [6] (by decide) rfl) ?_
  repeat (first
    | ((first | refine TW_plain rfl rfl ?_ | refine TW_gmet rfl rfl rfl rfl ?_); first | refine QW QP ?_ | refine QW (rr_not rfl rfl) ?_ | refine QW QnT ?_ | refine QW QnF ?_ | refine QW QL ?_ | refine QW QA ?_ | refine QW QlT ?_ | refine QW QlF ?_ | refine QW QmT ?_ | refine QW QmF ?_)
    | refine TW_skip rfl rfl rfl rfl rfl rfl rfl ?_ | refine TW_done ?_)
  repeat (first
    | refine QV QP ?_ | refine QZ ?_ | refine qcT rfl ?_ | refine qcF rfl ?_ | refine qs rfl rfl rfl rfl rfl rfl ?_
    | ((try refine qg rfl rfl rfl ?_); first | refine QV QP ?_ | refine QV (rr_loadB (i := 0) TyC.ty rfl rfl rfl) ?_ | refine QV (rr_not rfl rfl) ?_ | refine QV QnT ?_ | refine QV QnF ?_ | refine QV QL ?_ | refine QV QA ?_ | refine QV QlT ?_ | refine QV QlF ?_ | refine QV QmT ?_ | refine QV QmF ?_))
  refine TL_call (he1 EntersC.en rfl rfl) (fun w' hm => hA w' hm.below) rfl rfl rfl ?_
  rintro x2 _
  unfold calmS tabL
  conv => arg 8; simp only [zA, zB, zC, zD, zE, zF, zG, zH, zI, rowS, ret, id_eq]
  clear hA hbt
  generalize outT g = R at *
  refine TL_know (i := 8) rfl (fun w h => row_slm w h) fun hrow => ?_
  obtain ⟨aA2, cA2, hvA2, -⟩ := hrow
  refine TL_know (i := 10) rfl (fun w h => row_slm w h) fun hrow => ?_
  obtain ⟨aG2, cG2, hvG2, -⟩ := hrow
  obtain ⟨vA2, vas2, FA2, vG2, vgs2, FG2⟩ := x2
  dsimp only at hvA2 hvG2 ⊢
  subst hvA2 hvG2
  repeat (first
    | refine QV QP ?_ | refine QZ ?_ | refine qcT rfl ?_ | refine qcF rfl ?_ | refine qs rfl rfl rfl rfl rfl rfl ?_
    | ((try refine qg rfl rfl rfl ?_); first | refine QV QP ?_ | refine QV (rr_not rfl rfl) ?_ | refine QV QnT ?_ | refine QV QnF ?_ | refine QV QL ?_ | refine QV QA ?_ | refine QV QlT ?_ | refine QV QlF ?_ | refine QV QmT ?_ | refine QV QmF ?_))
  refine TL_new rfl fun g7 => ?_
  conv => arg 8; simp only [zA, zB, zC, zD, zE, zF, zG, zH, zI, rowS, ret, id_eq]
  refine TL_storeB (i := 12) rfl rfl rfl rfl rfl rfl ?_
  conv => arg 8; simp only [zA, zB, zC, zD, zE, zF, zG, zH, zI, rowS, ret, id_eq]
  cases hc : calmB g
  · repeat (first
      | refine QV QP ?_ | refine QZ ?_ | refine qcT rfl ?_ | refine qcF rfl ?_ | refine qs rfl rfl rfl rfl rfl rfl ?_
      | ((try refine qg rfl rfl rfl ?_); first | refine QV QP ?_ | refine QV (rr_not rfl rfl) ?_ | refine QV QnT ?_ | refine QV QnF ?_ | refine QV QL ?_ | refine QV QA ?_ | refine QV QlT ?_ | refine QV QlF ?_ | refine QV QmT ?_ | refine QV QmF ?_))
    exact E_ret1 rfl rfl fun w hm => hm.ret
  · have hone := hone hc
    repeat (first
      | refine QV QP ?_ | refine QZ ?_ | refine qcT rfl ?_ | refine qcF rfl ?_ | refine qs rfl rfl rfl rfl rfl rfl ?_
      | ((try refine qg rfl rfl rfl ?_); first | refine QV QP ?_ | refine QV (rr_loadB (i := 0) TyC.ty rfl rfl rfl) ?_ | refine QV (rr_not rfl rfl) ?_ | refine QV QnT ?_ | refine QV QnF ?_ | refine QV QL ?_ | refine QV QA ?_ | refine QV QlT ?_ | refine QV QlF ?_ | refine QV QmT ?_ | refine QV QmF ?_))
    refine TL_call (he2 EntersC.en rfl rfl rfl) (fun w hm => hT _ hm.below) rfl rfl rfl ?_
    intro _ _
    conv => arg 8; simp only [zA, zB, zC, zD, zE, zF, zG, zH, zI, rowS, ret, id_eq]
    by_cases c1 : checkC g word = 0
    · have hone := hone c1
      rw [c1]
      generalize treesN g word = n at *
      repeat (first
        | refine QV QP ?_ | refine QZ ?_ | refine qcT rfl ?_ | refine qcF rfl ?_ | refine qs rfl rfl rfl rfl rfl rfl ?_
        | ((try refine qg rfl rfl rfl ?_); first | refine QV QP ?_ | refine QV (rr_not rfl rfl) ?_ | refine QV QnT ?_ | refine QV QnF ?_ | refine QV QL ?_ | refine QV QA ?_ | refine QV QlT ?_ | refine QV QlF ?_ | refine QV QmT ?_ | refine QV QmF ?_))
      exact E_ret1 rfl rfl fun w hm => hm.ret
    · generalize checkC g word = e at *
      repeat (first
        | refine QV QP ?_ | refine QZ ?_ | refine qcT rfl ?_ | refine qcF rfl ?_ | refine qs rfl rfl rfl rfl rfl rfl ?_
        | ((try refine qg rfl rfl rfl ?_); first | refine QV QP ?_ | refine QV (rr_not rfl rfl) ?_ | refine QV QnT ?_ | refine QV QnF ?_ | refine QV QL ?_ | refine QV QA ?_ | refine QV QlT ?_ | refine QV QlF ?_ | refine QV QmT ?_ | refine QV QmF ?_))
      exact E_ret1 rfl rfl fun w hm => hm.ret
end Go.Proofs.Ytdbghmgajmlkmaa.lrOne

