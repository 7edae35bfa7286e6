/- Part 7 of what LexerRules needs: Abc, LexerRulesW. -/
import Derived.Test.YtkcnoompimohnaaDoorMgF
import Derived.WalkKit
import Derived.WalkSpells
import Derived.WalkLawsBesides
import Derived.Deep.RegionLaw
import Derived.Deep.AppendLies
import Derived.Deep.QuietTactic
import Derived.BigQuiet
import Derived.Deep.DeepCutAuto
import Derived.Lib.Hide
import Derived.Test.YtkcnoompimohnaaDoorRows
import Derived.ProofKit
import Derived.OpenShut
import Derived.ShutString
import Derived.SizedLaws
import Derived.JoinedCond
import Derived.Deep.CondSized
import Derived.Deep.Quiet
import Derived.StillTail
import Derived.Deep.LoopGhost
import Derived.Laws.BitsLemmas
import Derived.Laws.BytesString
import Derived.Test.YtkcnoompimohnaaDoorProg
import Derived.Laws.Entries
import Derived.Laws.BitsAllLaws
import Derived.Laws.StructEq
import Derived.ChangeKeysEq
import Derived.Lib.TrailingZeros
import Derived.Laws.MakeOwn
import Derived.Laws.AppendOwn
import Derived.Laws.Bits64b
import Derived.Maps.OwnSet
import Derived.DeepKeys4
import Derived.WideKeyEntry
import Derived.Handed
import Derived.Lay
import Derived.Lib.LaidTab
import Derived.MakeChecks
import Derived.Lib.SlicesCompact
import Derived.Shelf.Sort.Plain
import Derived.Ground.Names2Prog
import Derived.Shelf.Slices.CompactI
import Derived.Shelf.Slices.In.SortNone
import Derived.Lib.RowBridge
/- Abc -/
namespace Go.Proofs.YtkcnoompimohnaaDoor.eng
open Go.RowKit kit mix classL rexL placesL dfaP smallL classSets
def abcT : List Int := [-1, 2, 0, 2, 1]
theorem abc_chk : chk abcR abcT = 0 := by kernel_rfl
theorem abc_out : outD (abcM (rangeF 97 97) (rangeF 98 98) (rangeF 32 32)) = (abcR, abcT, 0) := by
  have h := abc_make
  cases hd : makeD (abcM (rangeF 97 97) (rangeF 98 98) (rangeF 32 32)) with
  | none => rw [hd] at h; cases h
  | some x =>
    rw [hd] at h
    simp only [Option.map_some, Option.some.injEq, Prod.mk.injEq] at h
    obtain ⟨R, d⟩ := x
    have h1 : R = abcR := h.1
    have h2 : d.tags = [-1, 2, 0, 2, 1] := h.2
    rw [outD_0 hd, h1, h2]; rfl
theorem abc_fit (a b c : C4) (ha : a ≠ C4.zero) (hb : b ≠ C4.zero) (hc : c ≠ C4.zero) : ∀ e ∈ abcE a b c, Fit e 1 0 := by
  intro e he
  simp only [abcE, List.mem_cons, List.not_mem_nil, or_false] at he
  rcases he with rfl | rfl | rfl
  · exact ⟨ha, by simp [Re.size], by simp [Re.hgt]⟩
  · exact ⟨⟨ha, hb⟩, by simp [Re.size], by simp [Re.hgt]⟩
  · exact ⟨⟨hc, hc⟩, by simp [Re.size], by simp [Re.hgt]⟩
theorem abc_made : MadeR ((abcE (rangeF 97 97) (rangeF 98 98) (rangeF 32 32)).map emb) (abcR, abcT, true) := by
  have hf := abc_fit (rangeF 97 97) (rangeF 98 98) (rangeF 32 32) (letter_nz (b := 97) (by decide)) (letter_nz (b := 98) (by decide)) (letter_nz (b := 32) (by decide))
  refine .inr ⟨_, _, rfl, hf, by simp [abcE], by simp [abcE], abc_loop _ _ _, ?_, by rw [abc_out]; rfl⟩
  rw [← abc_loop]
  exact make_fit (by simp [abcE]) (by simp [abcE]) hf
def abcS : Spec (Nat × (Nat → Value) × Value) := ⟨fun _ => True, fun x => pkV (ofS abcR 256) (.slice (some ⟨x.1, 0, none⟩) abcR.length abcR.length) x.2.2,
  fun x => [rowA 24 valV x.1 abcR.length x.2.1, nxO abcR.length (pkD abcR 256) x.2.1, rowO 3 1 x.2.2 abcT.length (abcT.flatMap kit.intC)]⟩
set_option maxRecDepth 100000 in
set_option maxHeartbeats 8000000 in
theorem abc_calls (w : World) : Calls Tryd.prog 10 #[] w (Meets abcS w) := by
  have la := fun w => letter_calls 97 w ⟨by decide, by decide⟩
  have lb := fun w => letter_calls 98 w ⟨by decide, by decide⟩
  have lc := fun w => letter_calls 32 w ⟨by decide, by decide⟩
  have ok3 : kit.okI64 3 := ⟨by decide, by decide⟩
  have ok4 : kit.okI64 4 := ⟨by decide, by decide⟩
  have hmd := fun g w' h => made_calls (.slice (some ⟨g, 0, none⟩) 3 3) _ _ w' h abc_made
  have hpk := fun vr vt w' h => pack_calls vr vt abcR abcT w' h abc_chk
  unfold packS at hpk
  unfold abcS
  have hR5 : abcR.length = 5 := rfl
  have hck := abc_chk
  generalize abcR = R at *
  generalize abcT = T at *
  unfold abcE at hmd
  generalize classL.rangeF 97 97 = ca at *
  generalize classL.rangeF 98 98 = cb at *
  generalize classL.rangeF 32 32 = cc at *
  have hmd : ∀ (g : Nat) (w' : World), SlF rexS (Low w') w' (.slice (some ⟨g, 0, none⟩) 3 3) [.mk 3 ca [], .mk 4 C4.zero [.mk 3 ca [], .mk 3 cb []], .mk 4 C4.zero [.mk 3 cc [], .mk 6 C4.zero [.mk 3 cc []]]] → Calls Tryd.prog 5 #[.slice (some ⟨g, 0, none⟩) 3 3] w' (Meets (mdSp (R, T, true)) w') := hmd
  refine enter (args := []) (n := 24) Tryd.func10 rfl rfl rfl ?_
  refine T_seq (T_region (TL_new rfl fun g0 => ?_))
  rw [zero_pk]
  conv => arg 8; simp only [zA, zB, zC, zD, zE, zF, zG, zH, zI, rowS, ret, id_eq]
  repeat (first
    | refine QV QP ?_ | refine QZ ?_)
  refine TL_call (he1 EntersC.en rfl rfl) (fun w hm => la _) rfl rfl rfl ?_
  intro _ _
  conv => arg 8; simp only [zA, zB, zC, zD, zE, zF, zG, zH, zI, rowS, ret, id_eq]
  repeat (first
    | refine QV QP ?_ | refine QZ ?_)
  refine TL_call (he1 EntersC.en rfl rfl) (fun w hm => la _) rfl rfl rfl ?_
  intro _ _
  conv => arg 8; simp only [zA, zB, zC, zD, zE, zF, zG, zH, zI, rowS, ret, id_eq]
  repeat (first
    | refine QV QP ?_ | refine QZ ?_)
  refine TL_call (he1 EntersC.en rfl rfl) (fun w hm => lb _) rfl rfl rfl ?_
  intro _ _
  conv => arg 8; simp only [zA, zB, zC, zD, zE, zF, zG, zH, zI, rowS, ret, id_eq]
  repeat (first
    | refine QV QP ?_ | refine QZ ?_)
  refine TL_call (he3 EntersC.en rfl rfl rfl rfl) (fun w hm => two_calls 4 3 3 ca cb none none 0 0 0 0 w) rfl rfl rfl ?_
  intro g9 _
  conv => arg 8; simp only [zA, zB, zC, zD, zE, zF, zG, zH, zI, rowS, ret, id_eq, twoS]
  repeat (first
    | refine QV QP ?_ | refine QZ ?_)
  refine TL_call (he1 EntersC.en rfl rfl) (fun w hm => lc _) rfl rfl rfl ?_
  intro _ _
  conv => arg 8; simp only [zA, zB, zC, zD, zE, zF, zG, zH, zI, rowS, ret, id_eq]
  repeat (first
    | refine QV QP ?_ | refine QZ ?_)
  refine TL_call (he1 EntersC.en rfl rfl) (fun w hm => lc _) rfl rfl rfl ?_
  intro _ _
  conv => arg 8; simp only [zA, zB, zC, zD, zE, zF, zG, zH, zI, rowS, ret, id_eq]
  repeat (first
    | refine QV QP ?_ | refine QZ ?_)
  refine TL_call (he1 EntersC.en rfl rfl) (fun w hm => star_calls 3 cc none 0 0 w) rfl rfl rfl ?_
  intro g12 _
  conv => arg 8; simp only [zA, zB, zC, zD, zE, zF, zG, zH, zI, rowS, ret, id_eq, starS]
  repeat (first
    | refine QV QP ?_ | refine QZ ?_)
  refine TL_call (he3 EntersC.en rfl rfl rfl rfl) (fun w hm => two_calls 4 3 6 cc C4.zero none (some ⟨g12, 0, none⟩) 0 1 0 1 w) rfl rfl rfl ?_
  intro g13 _
  conv => arg 8; simp only [zA, zB, zC, zD, zE, zF, zG, zH, zI, rowS, ret, id_eq, twoS]
  repeat (first
    | refine QV QP ?_ | refine QZ ?_)
  refine TL_litN (cs := [rexC 3 ca (.slice none 0 0), rexC 4 C4.zero (.slice (some ⟨g9, 0, none⟩) 2 2), rexC 4 C4.zero (.slice (some ⟨g13, 0, none⟩) 2 2)].flatten.toArray) [rexV 3 ca (.slice none 0 0), rexV 4 C4.zero (.slice (some ⟨g9, 0, none⟩) 2 2), rexV 4 C4.zero (.slice (some ⟨g13, 0, none⟩) 2 2)] rfl rfl rfl (by intro v hv; simp only [List.mem_cons, List.not_mem_nil, or_false] at hv; rcases hv with rfl | rfl | rfl <;> rfl) rfl rfl rfl fun g14 => ?_
  conv => arg 8; simp only [zA, zB, zC, zD, zE, zF, zG, zH, zI, rowS, ret, id_eq]
  refine TL_call (he1 EntersC.en rfl rfl) (fun w hm => hmd g14 w (rexs_3 (hm.get (i := 4) rfl) (leaf_rex ok3) (two_rexK ok4 (hm.get (i := 1) rfl) (leaf_rex ok3) (leaf_rex ok3)) (two_rexK ok4 (hm.get (i := 3) rfl) (leaf_rex ok3) (star_rexK (hm.get (i := 2) rfl) (leaf_rex ok3))))) rfl rfl rfl ?_
  rintro ⟨vrr, vtt⟩ _
  conv => arg 8; simp only [zA, zB, zC, zD, zE, zF, zG, zH, zI, rowS, ret, id_eq, mdSp, dfaV]
  conv => arg 7; simp only [mdSp, dfaV]
  refine TL_pick [0, 5, 6] (by decide) rfl ?_
  refine TL_slv (i := 1) rfl fun _ a1 => TL_slv (i := 2) rfl fun _ a2 => ?_
  repeat (first
    | refine QV QP ?_ | refine QZ ?_)
  refine TL_new rfl fun g1 => ?_
  conv => arg 8; simp only [zA, zB, zC, zD, zE, zF, zG, zH, zI, rowS, ret, id_eq]
  refine TL_storeB (i := 3) (cs' := #[vrr, vtt]) rfl rfl rfl rfl (by simp only [List.all_cons, List.all_nil, a1, a2]; rfl) rfl ?_
  conv => arg 8; simp only [zA, zB, zC, zD, zE, zF, zG, zH, zI, rowS, ret, id_eq]
  clear hmd
  repeat (first
    | refine QV QP ?_ | refine QZ ?_ | refine QV (rr_loadB (i := 3) TyC.ty rfl rfl rfl) ?_)
  refine TL_call (he1 EntersC.en rfl rfl) (fun w hm => hpk _ _ w (hm.dfaM (i := 1) (j := 2) rfl (by rw [int_flat]; rfl) hck)) rfl rfl rfl ?_
  rintro ⟨gN, vs, vT⟩ _
  conv => arg 8; simp only [zA, zB, zC, zD, zE, zF, zG, zH, zI, rowS, ret, id_eq]
  refine TL_slv (i := 6) rfl fun _ a3 => ?_
  repeat (first
    | refine QV QP ?_ | refine QZ ?_)
  refine TL_new rfl fun g3 => ?_
  rw [zero_pk]
  conv => arg 8; simp only [zA, zB, zC, zD, zE, zF, zG, zH, zI, rowS, ret, id_eq]
  refine TL_storeB (i := 7) (cs' := (pkC (ofS R 256) (.slice (some ⟨gN, 0, none⟩) R.length R.length) vT).toArray) rfl rfl rfl (pk_size _ _ _) (pk_one _ rfl a3) (pk_size _ _ _) ?_
  conv => arg 8; simp only [zA, zB, zC, zD, zE, zF, zG, zH, zI, rowS, ret, id_eq]
  repeat (first
    | refine QV QP ?_ | refine QZ ?_ | refine QV (rr_loadB (i := 7) TyC.ty rfl rfl (pk_size _ _ _)) ?_)
  refine TL_storeB (i := 0) (cs' := (pkC (ofS R 256) (.slice (some ⟨gN, 0, none⟩) R.length R.length) vT).toArray) rfl rfl rfl (pk_size _ _ _) (pk_one _ rfl a3) (pk_size _ _ _) ?_
  conv => arg 8; simp only [zA, zB, zC, zD, zE, zF, zG, zH, zI, rowS, ret, id_eq]
  repeat (first
    | refine QV QP ?_ | refine QZ ?_)
  exact E_retc1 (i := 0) rfl rfl rfl (pk_size _ _ _) fun w hm => hm.meets (S := ⟨fun (_ : Nat × (Nat → Value) × Value) => True, fun x => pkV (ofS R 256) (.slice (some ⟨x.1, 0, none⟩) R.length R.length) x.2.2, fun x => [rowA 24 valV x.1 R.length x.2.1, nxO R.length (pkD R 256) x.2.1, rowO 3 1 x.2.2 T.length (T.flatMap kit.intC)]⟩) (gN, vs, vT) trivial [4, 5, 6] (by decide) rfl
end Go.Proofs.YtkcnoompimohnaaDoor.eng

/- LexerRulesW -/
namespace Go.Proofs.YtkcnoompimohnaaDoor.lexerRules
open Go.RowKit kit mix eng classL rexL placesL dfaP smallL lexL
set_option maxRecDepth 100000 in
theorem abc_b : lexA (ofS abcR 256) (pkR abcR) abcT [98] = ([], 0, 9) := by
  rw [lexA_ok (chkP_0 (pk_good abc_chk)) (by decide), lexF_rows (pk_good abc_chk), un_pk abcR (by decide)]
  kernel_rfl
set_option maxRecDepth 100000 in
set_option maxHeartbeats 16000000 in
theorem walk (w : World) (hT : TabW w) (v : Value) (rs : List Rx) (hv : SlF rexS (Low w) w v rs) (s : List UInt8) (hs : s.length ≤ 140737488351232) :
    Calls Tryd.prog 4 #[v, str s] w (Meets (ret (.bool true)) w) := by
  have hvg := fun w' (hg : Gr w w') => slr_gr hv hg
  obtain ⟨bk, ck, rfl, -⟩ := hv
  have hl0 := fun vn vt w' h => lex_calls (ofS abcR 256) vn vt (pkR abcR) abcT [98] w' h (ofS_256 abcR) (by decide)
  rw [abc_b] at hl0
  have hpk := abc_chk
  have habc := abc_calls
  unfold abcS at habc
  generalize abcR = Ra at *
  generalize abcT = Ta at *
  obtain ⟨x, hx⟩ := madeR_of rs
  have hlaw := madeR_law hx
  have hma := fun w' (hg : Gr w w') => made_calls (.slice bk rs.length ck) rs x w' (hvg w' hg) hx
  clear hx
  obtain ⟨R, T, ok⟩ := x
  dsimp only at hlaw
  unfold mdSp at hma
  dsimp only at hma
  refine enter (args := [.slice bk rs.length ck, str s]) (n := 140) Tryd.func4 rfl rfl rfl ?_
  repeat (first
    | refine QV QP ?_ | refine QZ ?_ | refine qcT rfl ?_ | refine qcF rfl ?_ | refine E_blockX ?_ | refine E_blockO rfl ?_
    | refine qs rfl rfl rfl rfl rfl rfl ?_
    | ((try refine qg rfl rfl rfl ?_); first | refine QV QP ?_ | refine QV QS ?_ | refine QV QL ?_ | refine QV QA ?_ | refine QV (rr_not rfl rfl) ?_ | refine QV QlT ?_ | refine QV QlF ?_ | refine QV QmT ?_ | refine QV QmF ?_ | refine QV QgT ?_ | refine QV QgF ?_ | refine QV QeT ?_ | refine QV QeF ?_ | refine QV QnT ?_ | refine QV QnF ?_ | refine QV QaA ?_))
  refine TL_call (he0 EntersC.en rfl) (fun w hm => habc w) rfl rfl rfl ?_
  rintro ⟨gN, vs, vT⟩ _
  conv => arg 8; simp only [zA, zB, zC, zD, zE, zF, zG, zH, zI, rowS, ret, id_eq]
  repeat (first
    | refine QV QP ?_ | refine QZ ?_ | refine qcT rfl ?_ | refine qcF rfl ?_ | refine E_blockX ?_ | refine E_blockO rfl ?_
    | refine qs rfl rfl rfl rfl rfl rfl ?_
    | ((try refine qg rfl rfl rfl ?_); first | refine QV QP ?_ | refine QV QS ?_ | refine QV QL ?_ | refine QV QA ?_ | refine QV (rr_not rfl rfl) ?_ | refine QV QlT ?_ | refine QV QlF ?_ | refine QV QmT ?_ | refine QV QmF ?_ | refine QV QgT ?_ | refine QV QgF ?_ | refine QV QeT ?_ | refine QV QeF ?_ | refine QV QnT ?_ | refine QV QnF ?_ | refine QV QaA ?_))
  refine TL_call (he2 EntersC.en rfl rfl rfl) (fun w hm => hl0 _ _ w (hm.pkI (i := 0) (j := 1) (k := 2) rfl rfl rfl hpk)) rfl rfl rfl ?_
  intro vl _
  conv => arg 8; simp only [zA, zB, zC, zD, zE, zF, zG, zH, zI, rowS, ret, id_eq, lexS]
  conv => arg 7; simp only [lexS]
  refine TL_know (i := 3) rfl row_sl fun hrow => ?_
  obtain ⟨al, cl, rfl, -⟩ := hrow
  clear hl0 habc
  repeat (first
    | refine QV QP ?_ | refine QZ ?_ | refine qcT rfl ?_ | refine qcF rfl ?_ | refine E_blockX ?_ | refine E_blockO rfl ?_
    | refine qs rfl rfl rfl rfl rfl rfl ?_
    | ((try refine qg rfl rfl rfl ?_); first | refine QV QP ?_ | refine QV (rr_neq (b := false) rfl rfl (decide_eq_false (by decide))) ?_ | refine QV QS ?_ | refine QV QL ?_ | refine QV QA ?_ | refine QV (rr_not rfl rfl) ?_ | refine QV QlT ?_ | refine QV QlF ?_ | refine QV QmT ?_ | refine QV QmF ?_ | refine QV QgT ?_ | refine QV QgF ?_ | refine QV QeT ?_ | refine QV QeF ?_ | refine QV QnT ?_ | refine QV QnF ?_ | refine QV QaA ?_))
  refine TL_pick [] (by decide) rfl ?_
  refine TL_call (he1 EntersC.en rfl rfl) (fun w hm => hma _ hm.below) rfl rfl rfl ?_
  rintro ⟨vr2, vt2⟩ _
  conv => arg 8; simp only [zA, zB, zC, zD, zE, zF, zG, zH, zI, rowS, ret, id_eq, dfaV]
  conv => arg 7; simp only [dfaV]
  refine TL_slv (i := 0) rfl fun _ b1 => TL_slv (i := 1) rfl fun _ b2 => ?_
  repeat (first
    | refine QV QP ?_ | refine QZ ?_ | refine qcT rfl ?_ | refine qcF rfl ?_ | refine E_blockX ?_ | refine E_blockO rfl ?_
    | refine qs rfl rfl rfl rfl rfl rfl ?_
    | ((try refine qg rfl rfl rfl ?_); first | refine QV QP ?_ | refine QV QS ?_ | refine QV QL ?_ | refine QV QA ?_ | refine QV (rr_not rfl rfl) ?_ | refine QV QlT ?_ | refine QV QlF ?_ | refine QV QmT ?_ | refine QV QmF ?_ | refine QV QgT ?_ | refine QV QgF ?_ | refine QV QeT ?_ | refine QV QeF ?_ | refine QV QnT ?_ | refine QV QnF ?_ | refine QV QaA ?_))
  refine TL_new rfl fun g8 => ?_
  conv => arg 8; simp only [zA, zB, zC, zD, zE, zF, zG, zH, zI, rowS, ret, id_eq]
  refine TL_storeB (i := 2) (cs' := #[vr2, vt2]) rfl rfl rfl rfl (by simp only [List.all_cons, List.all_nil, b1, b2]; rfl) rfl ?_
  conv => arg 8; simp only [zA, zB, zC, zD, zE, zF, zG, zH, zI, rowS, ret, id_eq]
  clear hma
  rcases hlaw with rfl | ⟨es, rfl, hfit, h0, h20, rfl, hc1, hl1⟩
  · repeat (first
      | refine QV QP ?_ | refine QZ ?_ | refine qcT rfl ?_ | refine qcF rfl ?_ | refine E_blockX ?_ | refine E_blockO rfl ?_
      | refine qs rfl rfl rfl rfl rfl rfl ?_
      | ((try refine qg rfl rfl rfl ?_); first | refine QV QP ?_ | refine QV QS ?_ | refine QV QL ?_ | refine QV QA ?_ | refine QV (rr_not rfl rfl) ?_ | refine QV QlT ?_ | refine QV QlF ?_ | refine QV QmT ?_ | refine QV QmF ?_ | refine QV QgT ?_ | refine QV QgF ?_ | refine QV QeT ?_ | refine QV QeF ?_ | refine QV QnT ?_ | refine QV QnF ?_ | refine QV QaA ?_))
    exact E_ret1e rfl rfl rfl
  have hml := fun s' (hs : s'.length ≤ 200) w' hT' (hg : Gr w w') => matched_calls (.slice bk (es.map emb).length ck) es s' w' hT' (hvg w' hg) hfit hs h20
  have hmin := fun vr vt w' h => minimal_calls vr vt R T w' h
  have hmc := min_chk hc1
  have hmt : ∀ s, tagF (minR R T) (minT R T) s = (leastL es s, 0) := fun s => by rw [tagF_min hc1, ← tagF_ok hc1, hl1]
  unfold minS at hmin
  rw [hc1] at hmin
  generalize minR R T = MR at *
  generalize minT R T = MT at *
  have hpc := fun vr vt w' h => pack_calls vr vt MR MT w' h hmc
  unfold packS at hpc
  repeat (first
    | refine QV QP ?_ | refine QZ ?_ | refine qcT rfl ?_ | refine qcF rfl ?_ | refine E_blockX ?_ | refine E_blockO rfl ?_
    | refine qs rfl rfl rfl rfl rfl rfl ?_
    | ((try refine qg rfl rfl rfl ?_); first | refine QV QP ?_ | refine QV (rr_gtr (b := decide (24 < s.length)) rfl rfl (by rw [decide_eq_decide]; omega)) ?_ | refine QV QS ?_ | refine QV QL ?_ | refine QV QA ?_ | refine QV (rr_not rfl rfl) ?_ | refine QV QlT ?_ | refine QV QlF ?_ | refine QV QmT ?_ | refine QV QmF ?_ | refine QV QgT ?_ | refine QV QgF ?_ | refine QV QeT ?_ | refine QV QeF ?_ | refine QV QnT ?_ | refine QV QnF ?_ | refine QV QaA ?_))
  (repeat refine T_seq ?_)
  refine T_midq (ι := List UInt8) (fun s' => s'.length ≤ 24) (fun s' => [(0, .slice bk (es.map emb).length ck), (1, str s'), (4, .bool false), (8, .pointer (some ⟨g8, 0, none⟩))])
    (fun _ => [rowO 73 256 vr2 R.length (R.flatMap rowC), intR vt2 T, blkO g8 #[vr2, vt2] 26]) ?_ ?_
  · by_cases c1 : 24 < s.length
    · rw [decide_eq_true c1]
      repeat (first
        | refine QV QP ?_ | refine QZ ?_ | refine qcT rfl ?_ | refine qcF rfl ?_ | refine E_blockX ?_ | refine E_blockO rfl ?_
        | refine qs rfl rfl rfl rfl rfl rfl ?_
        | ((try refine qg rfl rfl rfl ?_); first | refine QV QP ?_ | refine QV (rr_strupto (j := 24) Und.eq rfl rfl (by omega)) ?_ | refine QV QS ?_ | refine QV QL ?_ | refine QV QA ?_ | refine QV (rr_not rfl rfl) ?_ | refine QV QlT ?_ | refine QV QlF ?_ | refine QV QmT ?_ | refine QV QmF ?_ | refine QV QgT ?_ | refine QV QgF ?_ | refine QV QeT ?_ | refine QV QeF ?_ | refine QV QnT ?_ | refine QV QnF ?_ | refine QV QaA ?_))
      exact E_mid (s.take 24) (by rw [List.length_take]; omega) (by repeat' (first | exact True.intro | refine And.intro rfl ?_)) rfl
    · rw [decide_eq_false c1]
      repeat (first
        | refine QV QP ?_ | refine QZ ?_ | refine qcT rfl ?_ | refine qcF rfl ?_ | refine E_blockX ?_ | refine E_blockO rfl ?_
        | refine qs rfl rfl rfl rfl rfl rfl ?_
        | ((try refine qg rfl rfl rfl ?_); first | refine QV QP ?_ | refine QV QS ?_ | refine QV QL ?_ | refine QV QA ?_ | refine QV (rr_not rfl rfl) ?_ | refine QV QlT ?_ | refine QV QlF ?_ | refine QV QmT ?_ | refine QV QmF ?_ | refine QV QgT ?_ | refine QV QgF ?_ | refine QV QeT ?_ | refine QV QeF ?_ | refine QV QnT ?_ | refine QV QnF ?_ | refine QV QaA ?_))
      exact E_mid s (by omega) (by repeat' (first | exact True.intro | refine And.intro rfl ?_)) rfl
  clear hs
  intro s' hs'
  have hlx := fun vn vt w' h => lex_calls (ofS MR 256) vn vt (pkR MR) MT s' w' h (ofS_256 MR) (by omega)
  have hXe : ∃ X, lexA (ofS MR 256) (pkR MR) MT s' = X := ⟨_, rfl⟩
  obtain ⟨X, hXe⟩ := hXe
  rw [hXe] at hlx
  have hXr : lexR MR MT s' (s'.length + 1) 0 = X := by
    rw [← hXe, lexA_ok (chkP_0 (pk_good hmc)) (by omega), lexF_rows (pk_good hmc), un_pk MR (chk_ok hmc).1.le]
  have hlong := lexR_long hmc (s := s') (s'.length + 1) 0
  have hrul := lexR_rules hmc (s := s') (s'.length + 1) 0 (Nat.zero_le _) (by omega)
  rw [hXr] at hlong hrul
  clear hXr hXe
  obtain ⟨l, at0, e⟩ := X
  dsimp only at hlong hrul
  repeat (first
    | refine QV QP ?_ | refine QZ ?_ | refine qcT rfl ?_ | refine qcF rfl ?_ | refine E_blockX ?_ | refine E_blockO rfl ?_
    | refine qs rfl rfl rfl rfl rfl rfl ?_
    | ((try refine qg rfl rfl rfl ?_); first | refine QV QP ?_ | refine QV (rr_loadB (i := 2) TyC.ty rfl rfl rfl) ?_ | refine QV QS ?_ | refine QV QL ?_ | refine QV QA ?_ | refine QV (rr_not rfl rfl) ?_ | refine QV QlT ?_ | refine QV QlF ?_ | refine QV QmT ?_ | refine QV QmF ?_ | refine QV QgT ?_ | refine QV QgF ?_ | refine QV QeT ?_ | refine QV QeF ?_ | refine QV QnT ?_ | refine QV QnF ?_ | refine QV QaA ?_))
  refine TL_call (he1 EntersC.en rfl rfl) (fun w hm => hmin _ _ w (hm.dfaM (i := 0) (j := 1) rfl (by rw [int_flat]; rfl) hc1)) rfl rfl rfl ?_
  rintro ⟨mr, mt⟩ _
  conv => arg 8; simp only [zA, zB, zC, zD, zE, zF, zG, zH, zI, rowS, ret, id_eq]
  dsimp only
  refine TL_slv (i := 3) rfl fun _ d1 => TL_slv (i := 4) rfl fun _ d2 => ?_
  repeat (first
    | refine QV QP ?_ | refine QZ ?_ | refine qcT rfl ?_ | refine qcF rfl ?_ | refine E_blockX ?_ | refine E_blockO rfl ?_
    | refine qs rfl rfl rfl rfl rfl rfl ?_
    | ((try refine qg rfl rfl rfl ?_); first | refine QV QP ?_ | refine QV QS ?_ | refine QV QL ?_ | refine QV QA ?_ | refine QV (rr_not rfl rfl) ?_ | refine QV QlT ?_ | refine QV QlF ?_ | refine QV QmT ?_ | refine QV QmF ?_ | refine QV QgT ?_ | refine QV QgF ?_ | refine QV QeT ?_ | refine QV QeF ?_ | refine QV QnT ?_ | refine QV QnF ?_ | refine QV QaA ?_))
  refine TL_storeB (i := 2) (cs' := (dfaV mr mt).cells) rfl rfl rfl rfl (by show ([mr, mt].all Value.oneCell') = true; simp [d1, d2]) rfl ?_
  conv => arg 8; simp only [zA, zB, zC, zD, zE, zF, zG, zH, zI, rowS, ret, id_eq]
  repeat (first
    | refine QV QP ?_ | refine QZ ?_ | refine qcT rfl ?_ | refine qcF rfl ?_ | refine E_blockX ?_ | refine E_blockO rfl ?_
    | refine qs rfl rfl rfl rfl rfl rfl ?_
    | ((try refine qg rfl rfl rfl ?_); first | refine QV QP ?_ | refine QV (rr_loadB (i := 2) TyC.ty rfl rfl rfl) ?_ | refine QV QS ?_ | refine QV QL ?_ | refine QV QA ?_ | refine QV (rr_not rfl rfl) ?_ | refine QV QlT ?_ | refine QV QlF ?_ | refine QV QmT ?_ | refine QV QmF ?_ | refine QV QgT ?_ | refine QV QgF ?_ | refine QV QeT ?_ | refine QV QeF ?_ | refine QV QnT ?_ | refine QV QnF ?_ | refine QV QaA ?_))
  refine TL_call (he1 EntersC.en rfl rfl) (fun w hm => hpc _ _ w (hm.dfaM (i := 3) (j := 4) rfl rfl hmc)) rfl rfl rfl ?_
  rintro ⟨gP, vsP, vTP⟩ _
  conv => arg 8; simp only [zA, zB, zC, zD, zE, zF, zG, zH, zI, rowS, ret, id_eq]
  refine TL_slv (i := 7) rfl fun _ d3 => ?_
  repeat (first
    | refine QV QP ?_ | refine QZ ?_ | refine qcT rfl ?_ | refine qcF rfl ?_ | refine E_blockX ?_ | refine E_blockO rfl ?_
    | refine qs rfl rfl rfl rfl rfl rfl ?_
    | ((try refine qg rfl rfl rfl ?_); first | refine QV QP ?_ | refine QV QS ?_ | refine QV QL ?_ | refine QV QA ?_ | refine QV (rr_not rfl rfl) ?_ | refine QV QlT ?_ | refine QV QlF ?_ | refine QV QmT ?_ | refine QV QmF ?_ | refine QV QgT ?_ | refine QV QgF ?_ | refine QV QeT ?_ | refine QV QeF ?_ | refine QV QnT ?_ | refine QV QnF ?_ | refine QV QaA ?_))
  refine TL_new rfl fun g10 => ?_
  rw [zero_pk]
  conv => arg 8; simp only [zA, zB, zC, zD, zE, zF, zG, zH, zI, rowS, ret, id_eq]
  repeat (first
    | refine QV QP ?_ | refine QZ ?_ | refine qcT rfl ?_ | refine qcF rfl ?_ | refine E_blockX ?_ | refine E_blockO rfl ?_
    | refine qs rfl rfl rfl rfl rfl rfl ?_
    | ((try refine qg rfl rfl rfl ?_); first | refine QV QP ?_ | refine QV QS ?_ | refine QV QL ?_ | refine QV QA ?_ | refine QV (rr_not rfl rfl) ?_ | refine QV QlT ?_ | refine QV QlF ?_ | refine QV QmT ?_ | refine QV QmF ?_ | refine QV QgT ?_ | refine QV QgF ?_ | refine QV QeT ?_ | refine QV QeF ?_ | refine QV QnT ?_ | refine QV QnF ?_ | refine QV QaA ?_))
  refine TL_storeB (i := 8) (cs' := (pkC (ofS MR 256) (.slice (some ⟨gP, 0, none⟩) MR.length MR.length) vTP).toArray) rfl rfl rfl (pk_size _ _ _) (pk_one _ rfl d3) (pk_size _ _ _) ?_
  conv => arg 8; simp only [zA, zB, zC, zD, zE, zF, zG, zH, zI, rowS, ret, id_eq]
  clear hmin hpc
  repeat (first
    | refine QV QP ?_ | refine QZ ?_ | refine qcT rfl ?_ | refine qcF rfl ?_ | refine E_blockX ?_ | refine E_blockO rfl ?_
    | refine qs rfl rfl rfl rfl rfl rfl ?_
    | ((try refine qg rfl rfl rfl ?_); first | refine QV QP ?_ | refine QV (rr_loadB (i := 8) TyC.ty rfl rfl (pk_size _ _ _)) ?_ | refine QV QS ?_ | refine QV QL ?_ | refine QV QA ?_ | refine QV (rr_not rfl rfl) ?_ | refine QV QlT ?_ | refine QV QlF ?_ | refine QV QmT ?_ | refine QV QmF ?_ | refine QV QgT ?_ | refine QV QgF ?_ | refine QV QeT ?_ | refine QV QeF ?_ | refine QV QnT ?_ | refine QV QnF ?_ | refine QV QaA ?_))
  refine TL_call (he2 EntersC.en rfl rfl rfl) (fun w hm => hlx _ _ w (hm.pkI (i := 5) (j := 6) (k := 7) rfl rfl rfl hmc)) rfl rfl rfl ?_
  intro vlx _
  conv => arg 8; simp only [zA, zB, zC, zD, zE, zF, zG, zH, zI, rowS, ret, id_eq, lexS]
  conv => arg 7; simp only [lexS]
  refine TL_rowv (i := 9) rfl fun b9 c9 hv9 lq1 lq2 => ?_
  clear hv9
  refine TL_know (i := 9) rfl row_sl fun hrow => ?_
  obtain ⟨am, cm, rfl, ham⟩ := hrow
  clear hlx
  have hsl := Nat.lt_irrefl 0
  have hend : e = 0 ∨ e = 9 := by
    rcases hrul.2 with h | ⟨h, _⟩
    · have h : (at0, e) = (0, 0) := h
      simp only [Prod.mk.injEq] at h
      exact .inl h.2
    · exact .inr h
  have hat1 : e = 0 → at0 ≤ 9223372036854775806 := fun he => by
    rcases hrul.2 with h | ⟨h, _⟩
    · have h : (at0, e) = (0, 0) := h
      simp only [Prod.mk.injEq] at h
      omega
    · omega
  have hfar : e = 9 → at0 ≤ s'.length ∧ ∀ x, at0 < x → x ≤ s'.length → mchL es ((s'.drop at0).take (x - at0)) = [] := fun he => by
    rcases hrul.2 with h | ⟨_, h1, h2⟩
    · have h : (at0, e) = (0, 0) := h
      simp only [Prod.mk.injEq] at h
      omega
    · refine ⟨h1, fun x hx hxl => ?_⟩
      have h3 := h2 x hx hxl
      rw [hmt] at h3
      rcases mch_least es ((s'.drop at0).take (x - at0)) with ⟨_, h⟩ | ⟨i, _, h, _⟩
      · exact h
      · have h3 : leastL es ((s'.drop at0).take (x - at0)) < 0 := h3
        omega
  have htok : ∀ k (hk : k < l.length), l[k].2.1 < l[k].2.2 ∧ l[k].2.2 ≤ s'.length ∧ (∃ r, mchL es ((s'.drop l[k].2.1).take (l[k].2.2 - l[k].2.1)) = l[k].1 :: r) ∧ ∀ x, l[k].2.2 < x → x ≤ s'.length → mchL es ((s'.drop l[k].2.1).take (x - l[k].2.1)) = [] := fun k hk => by
    have hx := List.getElem_mem hk
    obtain ⟨g1, g2, g3, g4⟩ := hlong l[k] hx
    have g5 := hrul.1 l[k] hx
    generalize l[k] = y at *
    refine ⟨g1, g2, ?_, fun x h1 h2 => ?_⟩
    · rw [hmt] at g3
      simp only [Prod.mk.injEq, and_true] at g3
      rcases mch_least es ((s'.drop y.2.1).take (y.2.2 - y.2.1)) with ⟨h, _⟩ | ⟨i, _, h, r, hr⟩
      · omega
      · exact ⟨r, by rw [hr, ← g3, h]⟩
    · have h3 := g4 x h1 h2
      rw [hmt] at h3
      have h3 : leastL es ((s'.drop y.2.1).take (x - y.2.1)) < 0 := h3
      rcases mch_least es ((s'.drop y.2.1).take (x - y.2.1)) with ⟨_, h⟩ | ⟨i, _, h, _⟩
      · exact h
      · omega
  clear hlong hrul hmt hl1
  repeat (first
    | refine QV QP ?_ | refine TL_nil ?_ | refine E_then ?_ | refine qs rfl rfl rfl rfl rfl rfl ?_
    | ((try refine qg rfl rfl rfl ?_); first | refine QV QP ?_ | refine QV QS ?_ | refine QV QL ?_ | refine QV QA ?_ | refine QV (rr_not rfl rfl) ?_ | refine QV QlT ?_ | refine QV QlF ?_ | refine QV QmT ?_ | refine QV QmF ?_ | refine QV QgT ?_ | refine QV QgF ?_ | refine QV QeT ?_ | refine QV QeF ?_ | refine QV QnT ?_ | refine QV QnF ?_ | refine QV QaA ?_))
  (repeat refine T_seq ?_)
  refine T_midq (ι := Unit) (fun _ => True) (fun _ => [(0, .slice bk (es.map emb).length ck), (1, str s'), (4, .bool false), (12, .slice am l.length cm), (13, .int .i64 (at0 : Int)), (14, .int .i64 e), (75, .bool false)]) (fun _ => [toksO (.slice am l.length cm) l]) ?_ ?_
  · rcases hend with rfl | rfl
    · repeat (first
        | refine QV QP ?_ | refine QZ ?_ | refine qcT rfl ?_ | refine qcF rfl ?_ | refine E_blockX ?_ | refine E_blockO rfl ?_
        | refine qs rfl rfl rfl rfl rfl rfl ?_
        | ((try refine qg rfl rfl rfl ?_); first | refine QV QP ?_ | refine QV (rr_neq (b := false) rfl rfl (decide_eq_false (by decide))) ?_ | refine QV QS ?_ | refine QV QL ?_ | refine QV QA ?_ | refine QV (rr_not rfl rfl) ?_ | refine QV QlT ?_ | refine QV QlF ?_ | refine QV QmT ?_ | refine QV QmF ?_ | refine QV QgT ?_ | refine QV QgF ?_ | refine QV QeT ?_ | refine QV QeF ?_ | refine QV QnT ?_ | refine QV QnF ?_ | refine QV QaA ?_))
      refine E_pick [9] (by decide) rfl ?_
      exact E_mid () trivial (by repeat' (first | exact True.intro | refine And.intro rfl ?_)) rfl
    · repeat (first
        | refine QV QP ?_ | refine QZ ?_ | refine qcT rfl ?_ | refine qcF rfl ?_ | refine E_blockX ?_ | refine E_blockO rfl ?_
        | refine qs rfl rfl rfl rfl rfl rfl ?_
        | ((try refine qg rfl rfl rfl ?_); first | refine QV QP ?_ | refine QV (rr_neq (b := false) rfl rfl (decide_eq_false (by decide))) ?_ | refine QV (rr_neq (b := true) rfl rfl (decide_eq_true (by decide))) ?_ | refine QV QS ?_ | refine QV QL ?_ | refine QV QA ?_ | refine QV (rr_not rfl rfl) ?_ | refine QV QlT ?_ | refine QV QlF ?_ | refine QV QmT ?_ | refine QV QmF ?_ | refine QV QgT ?_ | refine QV QgF ?_ | refine QV QeT ?_ | refine QV QeF ?_ | refine QV QnT ?_ | refine QV QnF ?_ | refine QV QaA ?_))
      refine E_pick [9] (by decide) rfl ?_
      exact E_mid () trivial (by repeat' (first | exact True.intro | refine And.intro rfl ?_)) rfl
  intro _ _
  repeat (first
    | refine QV QP ?_ | refine QZ ?_ | refine qcT rfl ?_ | refine qcF rfl ?_ | refine E_blockX ?_ | refine E_blockO rfl ?_
    | refine qs rfl rfl rfl rfl rfl rfl ?_
    | ((try refine qg rfl rfl rfl ?_); first | refine QV QP ?_ | refine QV QS ?_ | refine QV QL ?_ | refine QV QA ?_ | refine QV (rr_not rfl rfl) ?_ | refine QV QlT ?_ | refine QV QlF ?_ | refine QV QmT ?_ | refine QV QmF ?_ | refine QV QgT ?_ | refine QV QgF ?_ | refine QV QeT ?_ | refine QV QeF ?_ | refine QV QnT ?_ | refine QV QnF ?_ | refine QV QaA ?_))
  refine T_loop (ι := Nat) (fun k => k ≤ l.length) (fun k => [(0, .slice bk (es.map emb).length ck), (1, str s'), (4, .bool false), (13, .int .i64 (at0 : Int)), (14, .int .i64 e), (76, .slice am l.length cm), (77, .int .i64 l.length), (78, .int .i64 (k : Int))]) (fun _ => [toksO (.slice am l.length cm) l]) (fun k => l.length - k) 0 (Nat.zero_le _) (by repeat' (first | exact True.intro | refine And.intro rfl ?_)) rfl ?_
  intro k hk
  by_cases c1 : k < l.length
  · obtain ⟨t1, t2, ⟨r, t3⟩, t4⟩ := htok k c1
    clear htok hfar
    obtain ⟨gm, rfl⟩ := ham (by omega)
    have hat := fun (W : Base) (L : List Own) (i : Nat) (hi : L[i]? = some (toksO (.slice (some ⟨gm, 0, none⟩) l.length cm) l)) => fun (j : Nat) (u : Value) (h : (tokC l[k])[j]? = some u) => at_rowel (W := W) tokC_len hi c1 j u h
    generalize l[k] = y at *
    obtain ⟨rl, fr, te⟩ := y
    dsimp only at t1 t2 t3 t4
    have hm1 := hml ((s'.drop fr).take (te - fr)) (by rw [List.length_take, List.length_drop]; omega)
    rw [t3] at hm1
    have hm2 := fun x (h1 : te < x) (h2 : x ≤ s'.length) => hml ((s'.drop fr).take (x - fr)) (by rw [List.length_take, List.length_drop]; omega)
    have hm2 : ∀ x, te < x → x ≤ s'.length → ∀ w', TabW w' → Gr w w' → Calls Tryd.prog 8 #[.slice bk (es.map emb).length ck, str ((s'.drop fr).take (x - fr))] w' (Meets (intRS []) w') := fun x h1 h2 w' hT' hg' => by
      have := hm2 x h1 h2 w' hT' hg'
      rw [t4 x h1 h2] at this; exact this
    clear hml t4
    repeat (first
      | refine QV QP ?_ | refine QZ ?_ | refine qcT rfl ?_ | refine qcF rfl ?_ | refine E_blockX ?_ | refine E_blockO rfl ?_
      | refine qs rfl rfl rfl rfl rfl rfl ?_
      | ((try refine qg rfl rfl rfl ?_); first | refine QV QP ?_ | refine QV (rr_idxc (j := k) Und.eq TyC.ty rfl rfl c1) ?_ | refine QV (rr_loadN TyC.ty rfl rfl (hat _ _ 0 rfl)) ?_ | refine QV QS ?_ | refine QV QL ?_ | refine QV QA ?_ | refine QV (rr_not rfl rfl) ?_ | refine QV QlT ?_ | refine QV QlF ?_ | refine QV QmT ?_ | refine QV QmF ?_ | refine QV QgT ?_ | refine QV QgF ?_ | refine QV QeT ?_ | refine QV QeF ?_ | refine QV QnT ?_ | refine QV QnF ?_ | refine QV QaA ?_))
    refine TL_new rfl fun g16 => ?_
    conv => arg 8; simp only [zA, zB, zC, zD, zE, zF, zG, zH, zI, rowS, ret, id_eq]
    repeat (first
      | refine QV QP ?_ | refine QZ ?_ | refine qcT rfl ?_ | refine qcF rfl ?_ | refine E_blockX ?_ | refine E_blockO rfl ?_
      | refine qs rfl rfl rfl rfl rfl rfl ?_
      | ((try refine qg rfl rfl rfl ?_); first | refine QV QP ?_ | refine QV QS ?_ | refine QV QL ?_ | refine QV QA ?_ | refine QV (rr_not rfl rfl) ?_ | refine QV QlT ?_ | refine QV QlF ?_ | refine QV QmT ?_ | refine QV QmF ?_ | refine QV QgT ?_ | refine QV QgF ?_ | refine QV QeT ?_ | refine QV QeF ?_ | refine QV QnT ?_ | refine QV QnF ?_ | refine QV QaA ?_))
    refine TL_storeB (i := 1) (cs' := (tokC (rl, fr, te)).toArray) rfl rfl rfl rfl rfl rfl ?_
    conv => arg 8; simp only [zA, zB, zC, zD, zE, zF, zG, zH, zI, rowS, ret, id_eq]
    repeat (first
      | refine QV QP ?_ | refine QZ ?_ | refine qcT rfl ?_ | refine qcF rfl ?_ | refine E_blockX ?_ | refine E_blockO rfl ?_
      | refine qs rfl rfl rfl rfl rfl rfl ?_
      | ((try refine qg rfl rfl rfl ?_); first | refine QV QP ?_ | refine QV (rr_load1 (v := .int .i64 (fr : Int)) TyC.ty rfl (at_blk (i := 1) rfl rfl)) ?_ | refine QV (rr_load1 (v := .int .i64 (te : Int)) TyC.ty rfl (at_blk (i := 1) rfl rfl)) ?_ | refine QV (rr_strsub (i := fr) (j := te) Und.eq rfl rfl rfl (by omega) t2) ?_ | refine QV QS ?_ | refine QV QL ?_ | refine QV QA ?_ | refine QV (rr_not rfl rfl) ?_ | refine QV QlT ?_ | refine QV QlF ?_ | refine QV QmT ?_ | refine QV QmF ?_ | refine QV QgT ?_ | refine QV QgF ?_ | refine QV QeT ?_ | refine QV QeF ?_ | refine QV QnT ?_ | refine QV QnF ?_ | refine QV QaA ?_))
    refine TL_call (he2 EntersC.en rfl rfl rfl) (fun w hm => hm1 w (hT.up hm) hm.below) rfl rfl rfl ?_
    intro u2 _
    conv => arg 8; simp only [zA, zB, zC, zD, zE, zF, zG, zH, zI, rowS, ret, id_eq, intRS]
    conv => arg 7; simp only [intRS]
    refine TL_know (i := 2) rfl row_sl fun hrow => ?_
    obtain ⟨au, cu, rfl, hau⟩ := hrow
    obtain ⟨gu, rfl⟩ := hau (by simp)
    repeat (first
      | refine QV QP ?_ | refine QZ ?_ | refine qcT rfl ?_ | refine qcF rfl ?_ | refine E_blockX ?_ | refine E_blockO rfl ?_
      | refine qs rfl rfl rfl rfl rfl rfl ?_
      | ((try refine qg rfl rfl rfl ?_); first | refine QV QP ?_ | refine QV QS ?_ | refine QV QL ?_ | refine QV QA ?_ | refine QV (rr_not rfl rfl) ?_ | refine QV QlT ?_ | refine QV QlF ?_ | refine QV QmT ?_ | refine QV QmF ?_ | refine QV QgT ?_ | refine QV QgF ?_ | refine QV QeT ?_ | refine QV QeF ?_ | refine QV QnT ?_ | refine QV QnF ?_ | refine QV QaA ?_))
    refine T_ord ([toksO (.slice (some ⟨gm, 0, none⟩) l.length cm) l, blkO g16 (tokC (rl, fr, te)).toArray 53, intR (.slice (some ⟨gu, 0, none⟩) (rl :: r).length cu) (rl :: r)]) (.calm 0 (.calm 1 (.calm 2 (.calm 3 (.calm 4 (.calm 5 (.calm 6 (.calm 7 (.calm 8 (.calm 9 (.calm 10 (.done)))))))))))) (fun _ h => h) (by kernel_rfl) (by kernel_rfl) (by intro c a d v w h; cases d <;> exact h) ?_
    repeat (first
      | ((first | refine TW_plain rfl rfl ?_ | refine TW_gmet rfl rfl rfl rfl ?_); first | refine QW QP ?_ | refine QW (rr_eql (b := false) rfl rfl (decide_eq_false (by rw [List.length_cons]; omega))) ?_ | refine QW (rr_idxc (j := 0) Und.eq TyC.ty rfl rfl (by simp)) ?_ | refine QW (rr_load1 (v := .int .i64 rl) TyC.ty rfl (at_row (i := 2) rfl rfl)) ?_ | refine QW (rr_load1 (v := .int .i64 rl) TyC.ty rfl (at_blk (i := 1) rfl rfl)) ?_ | refine QW (rr_neq (b := false) rfl rfl (decide_eq_false (by simp))) ?_ | refine QW QS ?_ | refine QW QL ?_ | refine QW QA ?_ | refine QW (rr_not rfl rfl) ?_ | refine QW QlT ?_ | refine QW QlF ?_ | refine QW QmT ?_ | refine QW QmF ?_ | refine QW QgT ?_ | refine QW QgF ?_ | refine QW QeT ?_ | refine QW QeF ?_ | refine QW QnT ?_ | refine QW QnF ?_ | refine QW QaA ?_)
      | refine TW_skip rfl rfl rfl rfl rfl rfl rfl ?_ | refine TW_done ?_)
    repeat (first
      | refine QV QP ?_ | refine QZ ?_ | refine qcT rfl ?_ | refine qcF rfl ?_ | refine E_blockX ?_ | refine E_blockO rfl ?_
      | refine qs rfl rfl rfl rfl rfl rfl ?_
      | ((try refine qg rfl rfl rfl ?_); first | refine QV QP ?_ | refine QV (rr_load1 (v := .int .i64 (te : Int)) TyC.ty rfl (at_blk (i := 1) rfl rfl)) ?_ | refine QV (rr_add64 (r := ((te + 1 : Nat) : Int)) rfl rfl (by omega) (by omega) (by omega)) ?_ | refine QV QS ?_ | refine QV QL ?_ | refine QV QA ?_ | refine QV (rr_not rfl rfl) ?_ | refine QV QlT ?_ | refine QV QlF ?_ | refine QV QmT ?_ | refine QV QmF ?_ | refine QV QgT ?_ | refine QV QgF ?_ | refine QV QeT ?_ | refine QV QeF ?_ | refine QV QnT ?_ | refine QV QnF ?_ | refine QV QaA ?_))
    clear hm1 hau t3
    refine T_pick [0, 1] (by decide) rfl ?_
    refine T_loop (ι := Nat) (fun x => te < x ∧ x ≤ s'.length + 1) (fun x => [(0, .slice bk (es.map emb).length ck), (1, str s'), (4, .bool false), (13, .int .i64 (at0 : Int)), (14, .int .i64 e), (16, .pointer (some ⟨g16, 0, none⟩)), (18, .int .i64 (x : Int)), (76, .slice (some ⟨gm, 0, none⟩) l.length cm), (77, .int .i64 l.length), (78, .int .i64 (k : Int))])
      (fun _ => [toksO (.slice (some ⟨gm, 0, none⟩) l.length cm) l, blkO g16 (tokC (rl, fr, te)).toArray 53]) (fun x => s'.length + 1 - x) (te + 1) ⟨by omega, by omega⟩ (by repeat' (first | exact True.intro | refine And.intro rfl ?_)) rfl ?_
    rintro x ⟨x1, x2⟩
    by_cases c2 : x ≤ s'.length
    · have hm3 := hm2 x x1 c2
      clear hm2
      repeat (first
        | refine QV QP ?_ | refine QZ ?_ | refine qcT rfl ?_ | refine qcF rfl ?_ | refine E_blockX ?_ | refine E_blockO rfl ?_
        | refine qs rfl rfl rfl rfl rfl rfl ?_
        | ((try refine qg rfl rfl rfl ?_); first | refine QV QP ?_ | refine QV (rr_leq (b := true) rfl rfl (decide_eq_true (by omega))) ?_ | refine QV (rr_load1 (v := .int .i64 (fr : Int)) TyC.ty rfl (at_blk (i := 1) rfl rfl)) ?_ | refine QV (rr_strsub (i := fr) (j := x) Und.eq rfl rfl rfl (by omega) c2) ?_ | refine QV QS ?_ | refine QV QL ?_ | refine QV QA ?_ | refine QV (rr_not rfl rfl) ?_ | refine QV QlT ?_ | refine QV QlF ?_ | refine QV QmT ?_ | refine QV QmF ?_ | refine QV QgT ?_ | refine QV QgF ?_ | refine QV QeT ?_ | refine QV QeF ?_ | refine QV QnT ?_ | refine QV QnF ?_ | refine QV QaA ?_))
      refine TL_call (he2 EntersC.en rfl rfl rfl) (fun w hm => hm3 w (hT.up hm) hm.below) rfl rfl rfl ?_
      intro u3 _
      conv => arg 8; simp only [zA, zB, zC, zD, zE, zF, zG, zH, zI, rowS, ret, id_eq, intRS]
      conv => arg 7; simp only [intRS]
      repeat (first
        | refine QV QP ?_ | refine QZ ?_ | refine qcT rfl ?_ | refine qcF rfl ?_ | refine E_blockX ?_ | refine E_blockO rfl ?_
        | refine qs rfl rfl rfl rfl rfl rfl ?_
        | ((try refine qg rfl rfl rfl ?_); first | refine QV QP ?_ | refine QV (rr_rowlen (i := 2) Und.eq rfl rfl) ?_ | refine QV (rr_gtr (b := false) rfl rfl (decide_eq_false (by decide))) ?_ | refine QV (rr_add64 (r := ((x + 1 : Nat) : Int)) rfl rfl (by omega) (by omega) (by omega)) ?_ | refine QV QS ?_ | refine QV QL ?_ | refine QV QA ?_ | refine QV (rr_not rfl rfl) ?_ | refine QV QlT ?_ | refine QV QlF ?_ | refine QV QmT ?_ | refine QV QmF ?_ | refine QV QgT ?_ | refine QV QgF ?_ | refine QV QeT ?_ | refine QV QeF ?_ | refine QV QnT ?_ | refine QV QnF ?_ | refine QV QaA ?_))
      refine E_pick [0, 1] (by decide) rfl ?_
      exact E_round (x + 1) ⟨by omega, by omega⟩ (by show s'.length + 1 - (x + 1) < s'.length + 1 - x; omega) (by repeat' (first | exact True.intro | refine And.intro rfl ?_)) rfl
    · repeat (first
        | refine QV QP ?_ | refine QZ ?_ | refine qcT rfl ?_ | refine qcF rfl ?_ | refine E_blockX ?_ | refine E_blockO rfl ?_
        | refine qs rfl rfl rfl rfl rfl rfl ?_
        | ((try refine qg rfl rfl rfl ?_); first | refine QV QP ?_ | refine QV (rr_leq (b := false) rfl rfl (decide_eq_false (by omega))) ?_ | refine QV (rr_add64 (r := ((k + 1 : Nat) : Int)) rfl rfl (by omega) (by omega) (by omega)) ?_ | refine QV QS ?_ | refine QV QL ?_ | refine QV QA ?_ | refine QV (rr_not rfl rfl) ?_ | refine QV QlT ?_ | refine QV QlF ?_ | refine QV QmT ?_ | refine QV QmF ?_ | refine QV QgT ?_ | refine QV QgF ?_ | refine QV QeT ?_ | refine QV QeF ?_ | refine QV QnT ?_ | refine QV QnF ?_ | refine QV QaA ?_))
      refine E_pick [0] (by decide) rfl ?_
      exact E_round (k + 1) (by show k + 1 ≤ l.length; omega) (by show l.length - (k + 1) < l.length - k; omega) (by repeat' (first | exact True.intro | refine And.intro rfl ?_)) rfl
  · have hml := fun (he : e = 9) x (h1 : at0 < x) (h2 : x ≤ s'.length) => hml ((s'.drop at0).take (x - at0)) (by rw [List.length_take, List.length_drop]; omega)
    have hm2 : e = 9 → ∀ x, at0 < x → x ≤ s'.length → ∀ w', TabW w' → Gr w w' → Calls Tryd.prog 8 #[.slice bk (es.map emb).length ck, str ((s'.drop at0).take (x - at0))] w' (Meets (intRS []) w') := fun he x h1 h2 w' hT' hg' => by
      have := hml he x h1 h2 w' hT' hg'
      rw [(hfar he).2 x h1 h2] at this; exact this
    have hat0 : e = 9 → at0 ≤ s'.length := fun he => (hfar he).1
    have hatb : at0 ≤ 9223372036854775806 := by
      rcases hend with rfl | he
      · exact hat1 rfl
      · have := hat0 he; omega
    clear hml htok hfar
    repeat (first
      | refine QV QP ?_ | refine QZ ?_ | refine qcT rfl ?_ | refine qcF rfl ?_ | refine E_blockX ?_ | refine E_blockO rfl ?_
      | refine qs rfl rfl rfl rfl rfl rfl ?_
      | ((try refine qg rfl rfl rfl ?_); first | refine QV QP ?_ | refine QV (rr_add64 (r := ((at0 + 1 : Nat) : Int)) rfl rfl (by omega) (by omega) (by omega)) ?_ | refine QV QS ?_ | refine QV QL ?_ | refine QV QA ?_ | refine QV (rr_not rfl rfl) ?_ | refine QV QlT ?_ | refine QV QlF ?_ | refine QV QmT ?_ | refine QV QmF ?_ | refine QV QgT ?_ | refine QV QgF ?_ | refine QV QeT ?_ | refine QV QeF ?_ | refine QV QnT ?_ | refine QV QnF ?_ | refine QV QaA ?_))
    refine T_pick [] (by decide) rfl ?_
    refine T_loop (ι := Nat) (fun x => at0 < x ∧ (e = 9 → x ≤ s'.length + 1)) (fun x => [(0, .slice bk (es.map emb).length ck), (1, str s'), (13, .int .i64 (at0 : Int)), (14, .int .i64 e), (19, .int .i64 (x : Int))])
      (fun _ => []) (fun x => s'.length + 1 - x) (at0 + 1) ⟨by omega, fun he => by have := hat0 he; omega⟩ (by repeat' (first | exact True.intro | refine And.intro rfl ?_)) rfl ?_
    rintro x ⟨x1, x2⟩
    rcases hend with rfl | rfl
    · repeat (first
        | refine QV QP ?_ | refine QZ ?_ | refine qcT rfl ?_ | refine qcF rfl ?_ | refine E_blockX ?_ | refine E_blockO rfl ?_
        | refine qs rfl rfl rfl rfl rfl rfl ?_
        | ((try refine qg rfl rfl rfl ?_); first | refine QV QP ?_ | refine QV (rr_eql (b := false) rfl rfl (decide_eq_false (by decide))) ?_ | refine QV QS ?_ | refine QV QL ?_ | refine QV QA ?_ | refine QV (rr_not rfl rfl) ?_ | refine QV QlT ?_ | refine QV QlF ?_ | refine QV QmT ?_ | refine QV QmF ?_ | refine QV QgT ?_ | refine QV QgF ?_ | refine QV QeT ?_ | refine QV QeF ?_ | refine QV QnT ?_ | refine QV QnF ?_ | refine QV QaA ?_))
      exact E_ret1e rfl rfl rfl
    · have x2 := x2 rfl
      by_cases c2 : x ≤ s'.length
      · have hm3 := hm2 rfl x x1 c2
        clear hm2
        repeat (first
          | refine QV QP ?_ | refine QZ ?_ | refine qcT rfl ?_ | refine qcF rfl ?_ | refine E_blockX ?_ | refine E_blockO rfl ?_
          | refine qs rfl rfl rfl rfl rfl rfl ?_
          | ((try refine qg rfl rfl rfl ?_); first | refine QV QP ?_ | refine QV (rr_eql (b := true) rfl rfl (decide_eq_true rfl)) ?_ | refine QV (rr_leq (b := true) rfl rfl (decide_eq_true (by omega))) ?_ | refine QV (rr_strsub (i := at0) (j := x) Und.eq rfl rfl rfl (by omega) c2) ?_ | refine QV QS ?_ | refine QV QL ?_ | refine QV QA ?_ | refine QV (rr_not rfl rfl) ?_ | refine QV QlT ?_ | refine QV QlF ?_ | refine QV QmT ?_ | refine QV QmF ?_ | refine QV QgT ?_ | refine QV QgF ?_ | refine QV QeT ?_ | refine QV QeF ?_ | refine QV QnT ?_ | refine QV QnF ?_ | refine QV QaA ?_))
        refine TL_call (he2 EntersC.en rfl rfl rfl) (fun w hm => hm3 w (hT.up hm) hm.below) rfl rfl rfl ?_
        intro u3 _
        conv => arg 8; simp only [zA, zB, zC, zD, zE, zF, zG, zH, zI, rowS, ret, id_eq, intRS]
        conv => arg 7; simp only [intRS]
        repeat (first
          | refine QV QP ?_ | refine QZ ?_ | refine qcT rfl ?_ | refine qcF rfl ?_ | refine E_blockX ?_ | refine E_blockO rfl ?_
          | refine qs rfl rfl rfl rfl rfl rfl ?_
          | ((try refine qg rfl rfl rfl ?_); first | refine QV QP ?_ | refine QV (rr_rowlen (i := 0) Und.eq rfl rfl) ?_ | refine QV (rr_gtr (b := false) rfl rfl (decide_eq_false (by decide))) ?_ | refine QV (rr_add64 (r := ((x + 1 : Nat) : Int)) rfl rfl (by omega) (by omega) (by omega)) ?_ | refine QV QS ?_ | refine QV QL ?_ | refine QV QA ?_ | refine QV (rr_not rfl rfl) ?_ | refine QV QlT ?_ | refine QV QlF ?_ | refine QV QmT ?_ | refine QV QmF ?_ | refine QV QgT ?_ | refine QV QgF ?_ | refine QV QeT ?_ | refine QV QeF ?_ | refine QV QnT ?_ | refine QV QnF ?_ | refine QV QaA ?_))
        refine E_pick [] (by decide) rfl ?_
        exact E_round (x + 1) ⟨by omega, fun _ => by omega⟩ (by show s'.length + 1 - (x + 1) < s'.length + 1 - x; omega) (by repeat' (first | exact True.intro | refine And.intro rfl ?_)) rfl
      · repeat (first
          | refine QV QP ?_ | refine QZ ?_ | refine qcT rfl ?_ | refine qcF rfl ?_ | refine E_blockX ?_ | refine E_blockO rfl ?_
          | refine qs rfl rfl rfl rfl rfl rfl ?_
          | ((try refine qg rfl rfl rfl ?_); first | refine QV QP ?_ | refine QV (rr_eql (b := true) rfl rfl (decide_eq_true rfl)) ?_ | refine QV (rr_leq (b := false) rfl rfl (decide_eq_false (by omega))) ?_ | refine QV QS ?_ | refine QV QL ?_ | refine QV QA ?_ | refine QV (rr_not rfl rfl) ?_ | refine QV QlT ?_ | refine QV QlF ?_ | refine QV QmT ?_ | refine QV QmF ?_ | refine QV QgT ?_ | refine QV QgF ?_ | refine QV QeT ?_ | refine QV QeF ?_ | refine QV QnT ?_ | refine QV QnF ?_ | refine QV QaA ?_))
        exact E_ret1e rfl rfl rfl
end Go.Proofs.YtkcnoompimohnaaDoor.lexerRules

