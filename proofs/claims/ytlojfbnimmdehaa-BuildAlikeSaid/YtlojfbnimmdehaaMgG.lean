/- Part 7 of what BuildAlike needs: ClimbE, BuC, BuD, BuP, EvT, BoolC, ClimbF, BuildAlikeW. -/
import Derived.Test.YtlojfbnimmdehaaMgF
import Derived.WalkKit
import Derived.WalkSpells
import Derived.WalkLawsBesides
import Derived.Deep.RegionLaw
import Derived.Deep.AppendLies
import Derived.Deep.QuietTactic
import Derived.BigQuiet
import Derived.Deep.DeepCutAuto
import Derived.Lib.Hide
import Derived.Test.YtlojfbnimmdehaaRows
import Derived.ProofKit
import Derived.OpenShut
import Derived.ShutString
import Derived.SizedLaws
import Derived.JoinedCond
import Derived.Deep.CondSized
import Derived.Deep.Quiet
import Derived.StillTail
import Derived.Deep.LoopGhost
import Derived.Laws.BitsLemmas
import Derived.Laws.BytesString
import Derived.Test.YtlojfbnimmdehaaProg
import Derived.Laws.StructEq
import Derived.Laws.MakeOwn
import Derived.Laws.AppendOwn
import Derived.Laws.Entries
import Derived.Maps.OwnSet
import Derived.DeepKeys4
import Derived.WideKeyEntry
import Derived.Sort.Grow
import Derived.Lib.Walk
import Derived.Deep.RegionWith
import Derived.Deep.RegionHeld
import Derived.StringKeys
import Derived.Laws.BitsAllLaws
import Derived.Shelf.SlGeneric
import Derived.Shelf.SlSortCmp.NoneTotal
import Derived.Ground.SlsfProg
/- ClimbE -/
namespace Go.Proofs.Ytlojfbnimmdehaa.eng
open Go.RowKit kit mix gramL treeL climbL llL countL factsL derL
/-! ### the table that is made can be asked -/
abbrev rowsL (g : Gram) (T N : Nat) : List (List Int) := tabA N fun n => tabA (T + 1) (llL.rowAt g.prods (mayG N g.prods) T n)
theorem getD_tab {α : Type} {len : Nat} {f : Nat → α} {d : α} (k : Nat) : (tabA len f).getD k d = if k < len then f k else d := by
  rw [List.getD_eq_getElem?_getD]
  by_cases h : k < len
  · rw [tabA_get _ h, if_pos h]; rfl
  · rw [List.getElem?_eq_none (by rw [tabA_len]; omega), if_neg h]; rfl
theorem nxL_eq {g : Gram} {T N : Nat} (hg : checkG g = 0) (hN : g.nons = N) {col : Nat} (hc : col ≤ T) (n : Int) : nxL (rowsL g T N) col n = nxC g T N n col := by
  unfold nxL nxC
  rw [getD_tab]
  by_cases h : n.toNat < N
  · rw [if_pos h, getD_tab, if_pos (by omega)]
  · rw [if_neg h]
    show (-1 : Int) = _
    have h1 := first_ge (l := g.prods) (may := mayG N g.prods) (T := T) n.toNat col g.prods.length
    have h2 := first_head (l := g.prods) (may := mayG N g.prods) (T := T) n.toNat col g.prods.length (Nat.le_refl _)
    unfold llL.rowAt
    by_cases h3 : firstL g.prods (mayG N g.prods) T n.toNat col g.prods.length < 0
    · omega
    · have h3 : 0 ≤ firstL g.prods (mayG N g.prods) T n.toNat col g.prods.length := by omega
      have h4 := h2 h3
      have := ((checkG_ok hg).2.2.2.2.2 _ (prodAt_mem h3 h1.2)).2.2.1
      omega
theorem tab_ok {g : Gram} {T N : Nat} (hT : g.terms = T) (hN : g.nons = N) : TabOk g (rowsL g T N) T N where
  terms := hT
  nons := hN
  len := tabA_len _ _
  row r hr := by
    obtain ⟨n, _, rfl⟩ := List.mem_map.1 hr
    exact tabA_len _ _
  nx col n h0 := by
    unfold nxL at h0 ⊢
    rw [getD_tab] at h0 ⊢
    by_cases h : n.toNat < N
    · rw [if_pos h] at h0 ⊢
      rw [getD_tab] at h0 ⊢
      by_cases h2 : col < T + 1
      · rw [if_pos h2] at h0 ⊢
        refine ⟨(first_ge n.toNat col g.prods.length).2, fun hn => ?_⟩
        have := first_head (may := mayG N g.prods) (T := T) n.toNat col g.prods.length (Nat.le_refl _) h0
        unfold llL.rowAt
        rw [this]; omega
      · rw [if_neg h2] at h0; omega
    · rw [if_neg h] at h0
      have : ([] : List Int).getD col (-1) = -1 := rfl
      omega
theorem chkRow_ok {l : List gramL.Prod} {n : Nat} : ∀ r : List Int, (∀ p ∈ r, -1 ≤ p ∧ p < (l.length : Int) ∧ (0 ≤ p → (prodAt l p).1 = (n : Int))) → chkRow l n r = 0
  | [], _ => rfl
  | p :: r, h => by
    have hp := h p (List.mem_cons_self ..)
    rw [chkRow, if_neg (by omega), if_neg (by omega), if_neg (by rintro ⟨h1, h2⟩; exact h2 (hp.2.2 h1))]
    exact chkRow_ok r fun p hp => h p (List.mem_cons_of_mem _ hp)
theorem chkRows_ok {l : List gramL.Prod} {t : Int} : ∀ (rows : List (List Int)) (n : Nat), (∀ i (h : i < rows.length), (rows[i].length : Int) = t + 1 ∧ chkRow l (n + i) rows[i] = 0) → chkRows l t n rows = 0
  | [], _, _ => rfl
  | r :: rs, n, h => by
    have h0 := h 0 (by simp)
    simp only [List.getElem_cons_zero, Nat.add_zero] at h0
    rw [chkRows, if_neg (by simp [h0.1]), if_neg (by simp [h0.2])]
    exact chkRows_ok rs (n + 1) fun i hi => by
      have := h (i + 1) (by simp; omega)
      simp only [List.getElem_cons_succ] at this
      rw [show n + 1 + i = n + (i + 1) by omega]; exact this
theorem chk_rows {g : Gram} {T N : Nat} (hg : checkG g = 0) (hT : g.terms = T) (hN : g.nons = N) : chkL g (rowsL g T N) = 0 := by
  unfold chkL
  rw [if_neg (by simp [hg]), tabA_len, if_neg (by simp [hN])]
  refine chkRows_ok _ 0 fun i hi => ?_
  rw [tabA_len] at hi
  have hget : (rowsL g T N)[i]'(by rw [tabA_len]; exact hi) = tabA (T + 1) (llL.rowAt g.prods (mayG N g.prods) T i) := by simp [tabA]
  rw [hget]
  refine ⟨by rw [tabA_len, hT]; rfl, chkRow_ok _ fun p hp => ?_⟩
  obtain ⟨c, _, rfl⟩ := List.mem_map.1 hp
  have h1 := first_ge (l := g.prods) (may := mayG N g.prods) (T := T) i c g.prods.length
  refine ⟨h1.1, h1.2, fun h0 => ?_⟩
  rw [Nat.zero_add]
  exact first_head (l := g.prods) (may := mayG N g.prods) (T := T) i c g.prods.length (Nat.le_refl _) h0
theorem runF_congr {l : List gramL.Prod} {nx nx' : Int → Nat → Int} {T : Nat} (h : ∀ col, col ≤ T → (fun n => nx n col) = fun n => nx' n col) : ∀ (word : List Int) (st : List TD) (a : Nat) (out : List Sym), (∀ x ∈ word, 0 ≤ x ∧ x < (T : Int)) → runF l nx T word st a out = runF l nx' T word st a out
  | [], st, a, out, _ => by rw [runF, runF, h T (Nat.le_refl _)]
  | t :: r, st, a, out, hw => by
    have ht := hw t (List.mem_cons_self ..)
    rw [runF, runF, h t.toNat (by omega)]
    split
    · rfl
    · exact runF_congr h r _ _ _ fun x hx => hw x (List.mem_cons_of_mem _ hx)
theorem run_eq {g : Gram} {T N : Nat} (hg : checkG g = 0) (hN : g.nons = N) {word : List Int} (hw : ∀ x ∈ word, 0 ≤ x ∧ x < (T : Int)) : runF g.prods (fun n col => nxL (rowsL g T N) col n) T word [.sym (2, 0)] 0 [] = runF g.prods (nxC g T N) T word [.sym (2, 0)] 0 [] :=
  runF_congr (fun col hc => funext fun n => nxL_eq hg hN hc n) word _ _ _ hw
/-! ### climbed -/
theorem cl_one {v : Value} {a b : Int} {c : Bool} (h : v.oneCell' = true) : (#[v, .int .i64 a, .int .i64 b, .bool c] : Array Value).toList.all Value.oneCell' = true := by
  simp only [List.all_cons, List.all_nil, h]; rfl
theorem pushS_ok (seen : Int) (st : List TD) (l : List Sym) : pushS seen (0, st, l) = ⟨fun _ => True, fun x => .tuple #[clV x.1 (seen + 1) 0 false, x.2, .int .i64 0], fun x => [tdO x.1 st, evO x.2 l]⟩ := by unfold pushS; simp
theorem pushS_bad (seen : Int) {e : Int} (he : e ≠ 0) (st : List TD) (l : List Sym) : pushS seen (e, st, l) = ⟨fun _ => True, fun x => .tuple #[clV (.slice none 0 0) seen e false, .slice none 0 0, .int .i64 e], fun x => []⟩ := by unfold pushS; simp [he]
theorem endS_ok (seen : Int) (l : List Sym) : endS seen (0, l) = ⟨fun _ => True, fun x => .tuple #[clV (.slice none 0 0) seen 0 true, x, .int .i64 0], fun x => [evO x l]⟩ := by unfold endS; simp
theorem endS_bad (seen : Int) {e : Int} (he : e ≠ 0) (l : List Sym) : endS seen (e, l) = ⟨fun _ => True, fun x => .tuple #[clV (.slice none 0 0) seen e false, .slice none 0 0, .int .i64 e], fun x => []⟩ := by unfold endS; simp [he]
def climbedS (R : List Sym × Nat × Int) : Spec Value := ⟨fun _ => True, fun vo => .tuple #[vo, .int .i64 (R.2.1 : Int), .int .i64 R.2.2], fun vo => [evO vo R.1]⟩
theorem evO_app {v : Value} {a b : List Sym} : rowO 82 2 v (a.length + b.length) (a.flatMap symC ++ b.flatMap symC) = evO v (a ++ b) := by unfold evO; rw [List.length_append, List.flatMap_append]
theorem ev_len (l : List Sym) : (l.flatMap symC).length = l.length * 2 := len_el (f := symC) (c := 2) (fun _ => rfl) l
set_option maxHeartbeats 4000000 in
theorem climbed_calls (v vr vw : Value) (g : Gram) (ll : List (List Int)) (T N : Nat) (word : List Int) (w : World) (h : GraR (fun k => k < w.heap.size) w v g) (hr : RowsR w vr ll) (hs : Sl w vw word.length (word.map (.int .i64))) (h0 : chkL g ll = 0) (hg : checkG g = 0) (hT : TabOk g ll T N) (hw : ∀ x ∈ word, 0 ≤ x ∧ x < (T : Int)) (hl : word.length ≤ 1000) :
    Calls Try.prog 30 #[v, vr, vw] w (Meets (climbedS (runF g.prods (fun n col => nxL ll col n) T word [.sym (2, 0)] 0 [])) w) := by
  have hp := fun vt st (seen t : Nat) w' (hg' : Gr w w') ht hs hl h1 h2 => climbPush_calls v vr vt g ll T N st seen t w' (h.gr hg') (hr.gr hg') ht h0 hg hT hs hl h1 h2
  have he := fun vt st (seen : Nat) w' (hg' : Gr w w') ht hs hl h1 => climbEnd_calls v vr vt g ll T N st seen w' (h.gr hg') (hr.gr hg') ht h0 hg hT hs hl h1
  obtain ⟨vp, rfl, _⟩ := h
  obtain ⟨bw, cw, rfl, hw1, hw2, hw3⟩ := hs
  unfold maxLen at hw2
  refine enter (args := [graV g.terms g.nons vp, vr, .slice bw word.length cw]) (n := 55) Try.func30 rfl rfl rfl ?_
  refine T_seq (T_region (TL_box rfl rfl rfl fun g3 => ?_))
  conv=>arg 8;simp only[zA,zB,zC,zD,zE,zF,zG,zH,zI,rowS,ret,id_eq]
  repeat(first|refine QV QP ?_|refine QZ ?_|refine qcT rfl ?_|refine qcF rfl ?_|refine E_blockX ?_|refine E_blockO rfl ?_|refine QV QL ?_|refine QV QlT ?_|refine QV QlF ?_|refine QV QnT ?_|refine QV QnF ?_|refine QV QaA ?_)
  refine TL_call (he0 EntersC.en rfl) (fun w hm => climbBegin_calls w) rfl rfl rfl ?_
  intro vt0 _
  conv=>arg 8;simp only[zA,zB,zC,zD,zE,zF,zG,zH,zI,rowS,ret,id_eq, beginCS]
  conv => arg 7; simp only [beginCS]
  refine TL_slv (i := 1) rfl fun hv1 hv2 => ?_
  refine TL_new rfl fun g9 => ?_
  refine TL_storeB (i := 2) (cs' := #[vt0, .int .i64 0, .int .i64 0, .bool false]) rfl rfl rfl rfl (cl_one hv2) rfl ?_
  conv=>arg 8;simp only[zA,zB,zC,zD,zE,zF,zG,zH,zI,rowS,ret,id_eq]
  repeat(first|refine QV QP ?_|refine QZ ?_|refine qcT rfl ?_|refine qcF rfl ?_|refine E_blockX ?_|refine E_blockO rfl ?_|refine QV QL ?_|refine QV QlT ?_|refine QV QlF ?_|refine QV QnT ?_|refine QV QnF ?_|refine QV QaA ?_)
  refine T_nil 82 2 ?_
  generalize hR : runF g.prods (fun n col => nxL ll col n) T word [.sym (2, 0)] 0 [] = R
  refine T_pick [0, 2, 1, 3] (by decide) rfl ?_
  refine T_loop (ι := Nat × List TD × List Sym × Value × Value) (fun (k, st, out, _, _) => k ≤ word.length ∧ runF g.prods (fun n col => nxL ll col n) T (word.drop k) st k out = R ∧ (∀ d ∈ st, okTD g d) ∧ st.length ≤ 60 ∧ out.length ≤ k * 2000)
    (fun (k, _, _, _, vo) => [(1, vr), (3, .pointer (some ⟨g3, 0, none⟩)), (6, vo), (7, .int .i64 (k : Int)), (9, .pointer (some ⟨g9, 0, none⟩)), (16, .slice bw word.length cw), (17, .int .i64 word.length), (18, .int .i64 (k : Int))])
    (fun (k, st, out, vt, vo) => [blkO g3 (graV g.terms g.nons vp).cells 24, blkO g9 #[vt, .int .i64 (k : Int), .int .i64 0, .bool false] 134, tdO vt st, evO vo out]) (fun (k, _, _, _, _) => word.length - k) (0, [.sym (2, 0)], [], vt0, .slice none 0 0)
    ⟨Nat.zero_le _, hR, start_ok hg, by decide, by simp⟩ (by repeat' (first | exact True.intro | refine And.intro rfl ?_)) rfl ?_
  clear hR hv1 hv2
  rintro ⟨k, st, out, vt, vo⟩ ⟨i1, i2, i3, i4, i5⟩
  dsimp only at i1 i2 i3 i4 i5 ⊢
  by_cases c : k < word.length
  · obtain ⟨b, off, rfl, hrd⟩ := hw3 (by omega)
    have hat := fun L => at_rdm (L := L) hrd c
    rw [List.drop_eq_getElem_cons c, runF] at i2
    have hwk := hw _ (List.getElem_mem c)
    clear hrd hw3
    generalize word[k] = t at *
    obtain ⟨tn, rfl⟩ : ∃ tn : Nat, t = tn := ⟨t.toNat, by omega⟩
    rw [Int.toNat_natCast] at i2
    have hpk := fun w' hg' ht => hp vt st k tn w' hg' ht i3 i4 (by omega) (by omega)
    have hok := fun h0 => push_ok (R := pushF g.prods (nxL ll tn) st k (tn : Int)) hg (hT.nx tn) rfl h0 i3 i4
    rw [show (fun n => nxL ll tn n) = nxL ll tn from rfl] at i2
    generalize pushF g.prods (nxL ll tn) st k (tn : Int) = P at *
    obtain ⟨e, st', l⟩ := P
    dsimp only at i2 hok
    by_cases c1 : e = 0
    · subst c1
      obtain ⟨o1, o2, o3⟩ := hok rfl
      rw [if_neg (by simp)] at i2
      rw [pushS_ok] at hpk
      clear hok
      repeat(first|refine QV QP ?_|refine QZ ?_|refine qcT rfl ?_|refine qcF rfl ?_|refine E_blockX ?_|refine E_blockO rfl ?_|refine QV (rr_idx1 Und.eq TyC.ty rfl rfl c) ?_|refine QV (rr_load1 TyC.ty rfl (hat _)) ?_|refine QV (rr_loadB (i := 0) TyC.ty rfl rfl rfl) ?_|refine QV (rr_loadB (i := 1) TyC.ty rfl rfl rfl) ?_|refine QV QL ?_|refine QV QlT ?_|refine QV QlF ?_|refine QV QnT ?_|refine QV QnF ?_|refine QV QaA ?_)
      refine TL_call (he4 EntersC.en rfl rfl rfl rfl rfl) (fun w' hm => hpk w' hm.below (by have := Sl.of_own (hm.get (i := 2) rfl); exact this)) rfl rfl rfl ?_
      rintro ⟨vt', vl⟩ _
      conv=>arg 8;simp only[zA,zB,zC,zD,zE,zF,zG,zH,zI,rowS,ret,id_eq]
      repeat(first|refine QV QP ?_|refine QZ ?_|refine qcT rfl ?_|refine qcF rfl ?_|refine E_blockX ?_|refine E_blockO rfl ?_|refine QV QL ?_|refine QV QlT ?_|refine QV QlF ?_|refine QV QnT ?_|refine QV QnF ?_|refine QV QaA ?_)
      refine TL_slv (i := 4) rfl fun hv1 hv2 => ?_
      refine TL_storeB (i := 1) (cs' := #[vt', .int .i64 ((k : Int) + 1), .int .i64 0, .bool false]) rfl rfl rfl rfl (cl_one hv2) rfl ?_
      conv=>arg 8;simp only[zA,zB,zC,zD,zE,zF,zG,zH,zI,rowS,ret,id_eq]
      repeat(first|refine QV QP ?_|refine QZ ?_|refine qcT rfl ?_|refine qcF rfl ?_|refine E_blockX ?_|refine E_blockO rfl ?_|refine QV QL ?_|refine QV QlT ?_|refine QV QlF ?_|refine QV QnT ?_|refine QV QnF ?_|refine QV QaA ?_)
      refine TL_appSl (i := 3) (k := l.length) (ys := l.flatMap symC) rfl (sl_row (i := 5) rfl) rfl rfl (ev_len l) (one_sym l) (by omega) (by omega) rfl fun vo' => ?_
      conv=>arg 8;simp only[zA,zB,zC,zD,zE,zF,zG,zH,zI,rowS,ret,id_eq]
      repeat(first|refine QV QP ?_|refine QZ ?_|refine qcT rfl ?_|refine qcF rfl ?_|refine E_blockX ?_|refine E_blockO rfl ?_|refine QV QL ?_|refine QV QlT ?_|refine QV QlF ?_|refine QV QnT ?_|refine QV QnF ?_|refine QV QaA ?_)
      refine E_pick [0, 1, 4, 3] (by decide) rfl ?_
      exact E_round (k + 1, st', out ++ l, vt', vo') ⟨by omega, i2, o1, o2, (by show (out ++ l).length ≤ (k + 1) * 2000; rw [List.length_append]; omega)⟩ (by show word.length - (k + 1) < word.length - k; omega) (by repeat' (first | exact True.intro | refine And.intro rfl ?_)) (by rw [evO_app]; push_cast; rfl)
    · rw [if_pos c1] at i2
      subst i2
      rw [pushS_bad _ c1] at hpk
      clear hok
      repeat(first|refine QV QP ?_|refine QZ ?_|refine qcT rfl ?_|refine qcF rfl ?_|refine E_blockX ?_|refine E_blockO rfl ?_|refine QV (rr_idx1 Und.eq TyC.ty rfl rfl c) ?_|refine QV (rr_load1 TyC.ty rfl (hat _)) ?_|refine QV (rr_loadB (i := 0) TyC.ty rfl rfl rfl) ?_|refine QV (rr_loadB (i := 1) TyC.ty rfl rfl rfl) ?_|refine QV QL ?_|refine QV QlT ?_|refine QV QlF ?_|refine QV QnT ?_|refine QV QnF ?_|refine QV QaA ?_)
      refine TL_call (he4 EntersC.en rfl rfl rfl rfl rfl) (fun w' hm => hpk w' hm.below (by have := Sl.of_own (hm.get (i := 2) rfl); exact this)) rfl rfl rfl ?_
      intro _ _
      conv=>arg 8;simp only[zA,zB,zC,zD,zE,zF,zG,zH,zI,rowS,ret,id_eq]
      repeat(first|refine QV QP ?_|refine QZ ?_|refine qcT rfl ?_|refine qcF rfl ?_|refine E_blockX ?_|refine E_blockO rfl ?_|refine QV QL ?_|refine QV QlT ?_|refine QV QlF ?_|refine QV QnT ?_|refine QV QnF ?_|refine QV QaA ?_)
      refine TL_storeB (i := 1) (cs' := #[.slice none 0 0, .int .i64 (k : Int), .int .i64 e, .bool false]) rfl rfl rfl rfl rfl rfl ?_
      conv=>arg 8;simp only[zA,zB,zC,zD,zE,zF,zG,zH,zI,rowS,ret,id_eq]
      repeat(first|refine QV QP ?_|refine QZ ?_|refine qcT rfl ?_|refine qcF rfl ?_|refine E_blockX ?_|refine E_blockO rfl ?_|refine QV (rr_neq (b := true) rfl rfl (decide_eq_true c1)) ?_|refine QV QL ?_|refine QV QlT ?_|refine QV QlF ?_|refine QV QnT ?_|refine QV QnF ?_|refine QV QaA ?_)
      exact E_ret3 rfl rfl rfl rfl fun w hm => hm.meets (S := climbedS (out, k, e)) vo trivial [3] (by decide) rfl
  · rw [List.drop_of_length_le (by omega), runF] at i2
    obtain rfl : k = word.length := by omega
    have hek := fun w' hg' ht => he vt st word.length w' hg' ht i3 i4 (by omega)
    rw [show (fun n => nxL ll T n) = nxL ll T from rfl] at i2
    have hel := end_cases (l := g.prods) (nx := nxL ll T) (st := st) rfl
    generalize endF g.prods (nxL ll T) st = P at *
    obtain ⟨e, l⟩ := P
    dsimp only at i2 hel
    by_cases c1 : e = 0
    · subst c1
      have hll : l.length ≤ 2000 := by
        rcases hel with ⟨h | h, _⟩ | ⟨a1, hd, _⟩
        · omega
        · omega
        · have := (down_len hd rfl i4 (by omega)).2.2
          simp at this
          have h2 := (down_len hd rfl i4 (by omega)).2.1
          simp at h2
          omega
      subst i2
      rw [endS_ok] at hek
      clear hel
      repeat(first|refine QV QP ?_|refine QZ ?_|refine qcT rfl ?_|refine qcF rfl ?_|refine E_blockX ?_|refine E_blockO rfl ?_|refine QV (rr_loadB (i := 0) TyC.ty rfl rfl rfl) ?_|refine QV (rr_loadB (i := 1) TyC.ty rfl rfl rfl) ?_|refine QV QL ?_|refine QV QlT ?_|refine QV QlF ?_|refine QV QnT ?_|refine QV QnF ?_|refine QV QaA ?_)
      refine TL_call (he3 EntersC.en rfl rfl rfl rfl) (fun w' hm => hek w' hm.below (by have := Sl.of_own (hm.get (i := 2) rfl); exact this)) rfl rfl rfl ?_
      intro vl _
      conv=>arg 8;simp only[zA,zB,zC,zD,zE,zF,zG,zH,zI,rowS,ret,id_eq]
      repeat(first|refine QV QP ?_|refine QZ ?_|refine qcT rfl ?_|refine qcF rfl ?_|refine E_blockX ?_|refine E_blockO rfl ?_|refine QV QL ?_|refine QV QlT ?_|refine QV QlF ?_|refine QV QnT ?_|refine QV QnF ?_|refine QV QaA ?_)
      refine TL_new rfl fun g13 => ?_
      refine TL_storeB (i := 5) (cs' := #[.slice none 0 0, .int .i64 (word.length : Int), .int .i64 0, .bool true]) rfl rfl rfl rfl rfl rfl ?_
      conv=>arg 8;simp only[zA,zB,zC,zD,zE,zF,zG,zH,zI,rowS,ret,id_eq]
      repeat(first|refine QV QP ?_|refine QZ ?_|refine qcT rfl ?_|refine qcF rfl ?_|refine E_blockX ?_|refine E_blockO rfl ?_|refine QV QL ?_|refine QV QlT ?_|refine QV QlF ?_|refine QV QnT ?_|refine QV QnF ?_|refine QV QaA ?_)
      refine TL_appSl (i := 3) (k := l.length) (ys := l.flatMap symC) rfl (sl_row (i := 4) rfl) rfl rfl (ev_len l) (one_sym l) (by omega) (by omega) rfl fun vo' => ?_
      conv=>arg 8;simp only[zA,zB,zC,zD,zE,zF,zG,zH,zI,rowS,ret,id_eq]
      repeat(first|refine QV QP ?_|refine QZ ?_|refine qcT rfl ?_|refine qcF rfl ?_|refine E_blockX ?_|refine E_blockO rfl ?_|refine QV QL ?_|refine QV QlT ?_|refine QV QlF ?_|refine QV QnT ?_|refine QV QnF ?_|refine QV QaA ?_)
      exact E_ret3 rfl rfl rfl rfl fun w hm => hm.meets (S := climbedS (out ++ l, word.length, 0)) vo' trivial [3] (by decide) (by show [evO vo' (out ++ l)] = _; rw [← evO_app]; rfl)
    · have hl0 : l = [] := by
        rcases hel with ⟨_, h⟩ | ⟨_, _, h⟩
        · exact h
        · exact absurd h c1
      subst hl0
      rw [List.append_nil] at i2
      subst i2
      rw [endS_bad _ c1] at hek
      clear hel
      repeat(first|refine QV QP ?_|refine QZ ?_|refine qcT rfl ?_|refine qcF rfl ?_|refine E_blockX ?_|refine E_blockO rfl ?_|refine QV (rr_loadB (i := 0) TyC.ty rfl rfl rfl) ?_|refine QV (rr_loadB (i := 1) TyC.ty rfl rfl rfl) ?_|refine QV QL ?_|refine QV QlT ?_|refine QV QlF ?_|refine QV QnT ?_|refine QV QnF ?_|refine QV QaA ?_)
      refine TL_call (he3 EntersC.en rfl rfl rfl rfl) (fun w' hm => hek w' hm.below (by have := Sl.of_own (hm.get (i := 2) rfl); exact this)) rfl rfl rfl ?_
      intro _ _
      conv=>arg 8;simp only[zA,zB,zC,zD,zE,zF,zG,zH,zI,rowS,ret,id_eq]
      repeat(first|refine QV QP ?_|refine QZ ?_|refine qcT rfl ?_|refine qcF rfl ?_|refine E_blockX ?_|refine E_blockO rfl ?_|refine QV QL ?_|refine QV QlT ?_|refine QV QlF ?_|refine QV QnT ?_|refine QV QnF ?_|refine QV QaA ?_)
      refine TL_new rfl fun g13 => ?_
      refine TL_storeB (i := 4) (cs' := #[.slice none 0 0, .int .i64 (word.length : Int), .int .i64 e, .bool false]) rfl rfl rfl rfl rfl rfl ?_
      conv=>arg 8;simp only[zA,zB,zC,zD,zE,zF,zG,zH,zI,rowS,ret,id_eq]
      repeat(first|refine QV QP ?_|refine QZ ?_|refine qcT rfl ?_|refine qcF rfl ?_|refine E_blockX ?_|refine E_blockO rfl ?_|refine QV QL ?_|refine QV QlT ?_|refine QV QlF ?_|refine QV QnT ?_|refine QV QnF ?_|refine QV QaA ?_)
      refine TL_append0 ElC.el (i := 3) rfl rfl rfl rfl ?_
      conv=>arg 8;simp only[zA,zB,zC,zD,zE,zF,zG,zH,zI,rowS,ret,id_eq]
      repeat(first|refine QV QP ?_|refine QZ ?_|refine qcT rfl ?_|refine qcF rfl ?_|refine E_blockX ?_|refine E_blockO rfl ?_|refine QV QL ?_|refine QV QlT ?_|refine QV QlF ?_|refine QV QnT ?_|refine QV QnF ?_|refine QV QaA ?_)
      exact E_ret3 rfl rfl rfl rfl fun w hm => hm.meets (S := climbedS (out, word.length, e)) vo trivial [3] (by decide) rfl
end Go.Proofs.Ytlojfbnimmdehaa.eng

/- BuC -/
namespace Go.Proofs.Ytlojfbnimmdehaa.eng
open Go.RowKit kit mix gramL treeL factsL itemL smallL
/-- a push's answer -/
def pushBS (seen : Int) (R : Int × List Nat × List Sym) : Spec (Value × Value) :=
  ⟨fun _ => True, fun x => if R.1 = 0 then .tuple #[skV x.1 (seen + 1) 0 false, x.2, .int .i64 0] else .tuple #[skV (.slice none 0 0) seen R.1 false, .slice none 0 0, .int .i64 R.1], fun x => if R.1 = 0 then [skO x.1 R.2.1, evO x.2 R.2.2] else []⟩
theorem pushBS_ok {seen : Int} {σ : List Nat} {o : List Sym} : pushBS seen (0, σ, o) = ⟨fun _ => True, fun x => .tuple #[skV x.1 (seen + 1) 0 false, x.2, .int .i64 0], fun x => [skO x.1 σ, evO x.2 o]⟩ := by unfold pushBS; simp
theorem pushBS_no {seen e : Int} (he : e ≠ 0) {x : List Nat × List Sym} : pushBS seen (e, x) = ⟨fun _ => True, fun _ => .tuple #[skV (.slice none 0 0) seen e false, .slice none 0 0, .int .i64 e], fun _ => []⟩ := by unfold pushBS; simp [he]
theorem sk_one {v : Value} {a b : Int} {c : Bool} (h : v.oneCell' = true) : (#[v, .int .i64 a, .int .i64 b, .bool c] : Array Value).toList.all Value.oneCell' = true := by
  simp only [List.all_cons, List.all_nil, h]; rfl
attribute [local irreducible] Instr.build in
set_option maxHeartbeats 4000000 in
theorem bdPush_calls (v t vs : Value) (g : Gram) (T N : Nat) (A : List (List itemL.Act)) (G : List (List Int)) (σ0 : List Nat) (seen col : Nat) (w : World) (hG : GraR (fun k => k < w.heap.size) w v g) (ht : TabR w t A G) (hs : skR w vs σ0) (hT : LrOk g T N A G) (hq : ∀ q ∈ σ0, q < A.length) (hne : σ0 ≠ []) (hl : σ0.length ≤ 60) (hc : col < T) (hsn : seen ≤ 1000000) :
    Calls Try.prog 58 #[v, t, skV vs (seen : Int) 0 false, .int .i64 (col : Int)] w (Meets (pushBS (seen : Int) (runB g.prods (actT A) (gotoT G) col seen 2001 σ0 [])) w) := by
  have h0 : 0 < σ0.length := by rcases σ0 with _ | ⟨a, b⟩; exact absurd rfl hne; simp
  have hterm := hT.terms
  have hck := fun w' (hg : Gr w w') => bdCheck_calls v t vs g T N A G σ0 (seen : Int) (col : Int) w' (hG.gr hg) (ht.gr hg) (hs.gr hg) hT hq h0 hl (by omega) (by omega) (by omega) (by omega)
  have hrn := fun w' (hg : Gr w w') => bdRun_calls v t vs g T N A G σ0 seen col w' (hG.gr hg) (ht.gr hg) (hs.gr hg) hT hq hne hl (by omega)
  have hlen := fun h => (runB_ok (a := seen) hT (show col ≤ T by omega) 2001 (o := []) hne hq hl h).2.2.1
  generalize runB g.prods (actT A) (gotoT G) col seen 2001 σ0 [] = R at *
  obtain ⟨e, σ, o⟩ := R
  dsimp only at hlen
  obtain ⟨vp, rfl, -⟩ := hG
  obtain ⟨vA, vG, rfl, -⟩ := ht
  clear hs hT
  refine enter (args := [graV g.terms g.nons vp, .agg #[vA, vG], skV vs (seen : Int) 0 false, .int .i64 (col : Int)]) (n := 51) Try.func58 rfl rfl rfl ?_
  refine T_seq (T_region (TL_box rfl rfl rfl fun g4 => ?_))
  conv=>arg 8;simp only[zA,zB,zC,zD,zE,zF,zG,zH,zI,rowS,ret,id_eq]
  refine TL_box rfl rfl rfl fun g5 => ?_
  conv=>arg 8;simp only[zA,zB,zC,zD,zE,zF,zG,zH,zI,rowS,ret,id_eq]
  refine TL_box rfl rfl rfl fun g6 => ?_
  conv=>arg 8;simp only[zA,zB,zC,zD,zE,zF,zG,zH,zI,rowS,ret,id_eq]
  refine TL_new rfl fun g8 => ?_
  conv=>arg 8;simp only[zA,zB,zC,zD,zE,zF,zG,zH,zI,rowS,ret,id_eq]
  repeat(first|refine QV QP ?_|refine QZ ?_|refine qcT rfl ?_|refine qcF rfl ?_|refine QV (rr_load1 (v := .int .i64 g.terms) TyC.ty rfl (at_blk (i := 0) rfl rfl)) ?_|refine QV (rr_eql (b := false) rfl rfl (decide_eq_false (by omega))) ?_|refine QV (rr_loadB (i := 0) TyC.ty rfl rfl rfl) ?_|refine QV (rr_loadB (i := 1) TyC.ty rfl rfl rfl) ?_|refine QV (rr_loadB (i := 2) TyC.ty rfl rfl rfl) ?_|refine QV QA ?_|refine QV QeT ?_|refine QV QeF ?_|refine QV QnT ?_|refine QV QnF ?_|refine QV QaA ?_)
  refine TL_call (he4 EntersC.en rfl rfl rfl rfl rfl) (fun w hm => hck w hm.below) rfl rfl rfl ?_
  intro _ _
  conv=>arg 8;simp only[zA,zB,zC,zD,zE,zF,zG,zH,zI,rowS,ret,id_eq]
  repeat(first|refine QV QP ?_|refine QZ ?_|refine qcT rfl ?_|refine qcF rfl ?_|refine QV (rr_loadB (i := 0) TyC.ty rfl rfl rfl) ?_|refine QV (rr_loadB (i := 1) TyC.ty rfl rfl rfl) ?_|refine QV (rr_loadB (i := 2) TyC.ty rfl rfl rfl) ?_|refine QV QA ?_|refine QV QeT ?_|refine QV QeF ?_|refine QV QnT ?_|refine QV QnF ?_|refine QV QaA ?_)
  by_cases c : e = 0
  · subst c
    rw [runBS_ok] at hrn
    rw [pushBS_ok]
    have hlen := hlen rfl
    refine TL_call (he4 EntersC.en rfl rfl rfl rfl rfl) (fun w hm => hrn w hm.below) rfl rfl rfl ?_
    rintro ⟨v1, v2⟩ _
    conv=>arg 8;simp only[zA,zB,zC,zD,zE,zF,zG,zH,zI,rowS,ret,id_eq]
    repeat(first|refine QV QP ?_|refine QZ ?_|refine qcT rfl ?_|refine qcF rfl ?_|refine QV QA ?_|refine QV QeT ?_|refine QV QeF ?_|refine QV QnT ?_|refine QV QnF ?_|refine QV QaA ?_)
    refine TL_rowv (i := 4) rfl fun bt ct hv q1 q2 => ?_
    subst hv
    repeat(first|refine QV QP ?_|refine QZ ?_|refine qcT rfl ?_|refine qcF rfl ?_|refine QV (rr_load1 (v := .int .i64 (seen : Int)) TyC.ty rfl (at_blk (i := 2) rfl rfl)) ?_|refine QV (rr_add64 (r := (seen : Int) + 1) rfl rfl (by omega) (by omega) (by omega)) ?_|refine QV (rr_build rfl (build_skN _ _ _ _)) ?_|refine QV QA ?_|refine QV QeT ?_|refine QV QeF ?_|refine QV QnT ?_|refine QV QnF ?_|refine QV QaA ?_)
    refine TL_storeB (i := 3) (cs' := #[.slice bt σ.length ct, .int .i64 ((seen : Int) + 1), .int .i64 0, .bool false]) rfl rfl rfl rfl rfl rfl ?_
    conv=>arg 8;simp only[zA,zB,zC,zD,zE,zF,zG,zH,zI,rowS,ret,id_eq]
    repeat(first|refine QV QP ?_|refine QZ ?_|refine qcT rfl ?_|refine qcF rfl ?_|refine QV QA ?_|refine QV QeT ?_|refine QV QeF ?_|refine QV QnT ?_|refine QV QnF ?_|refine QV QaA ?_)
    exact E_retc3 (i := 3) rfl rfl rfl rfl rfl rfl fun w hm => hm.meets (S := ⟨fun _ => True, fun x => .tuple #[skV x.1 ((seen : Int) + 1) 0 false, x.2, .int .i64 0], fun x => [skO x.1 σ, evO x.2 o]⟩) (.slice bt σ.length ct, v2) trivial [4, 5] (by decide) rfl
  · rw [runBS_no c] at hrn
    rw [pushBS_no c]
    refine TL_call (he4 EntersC.en rfl rfl rfl rfl rfl) (fun w hm => hrn w hm.below) rfl rfl rfl ?_
    rintro _ _
    conv=>arg 8;simp only[zA,zB,zC,zD,zE,zF,zG,zH,zI,rowS,ret,id_eq]
    repeat(first|refine QV QP ?_|refine QZ ?_|refine qcT rfl ?_|refine qcF rfl ?_|refine QV (rr_neq (b := true) rfl rfl (decide_eq_true c)) ?_|refine QV (rr_load1 (v := .int .i64 (seen : Int)) TyC.ty rfl (at_blk (i := 2) rfl rfl)) ?_|refine QV (rr_build rfl (build_skE _ _)) ?_|refine QV QA ?_|refine QV QeT ?_|refine QV QeF ?_|refine QV QnT ?_|refine QV QnF ?_|refine QV QaA ?_)
    refine TL_storeB (i := 3) (cs' := #[.slice none 0 0, .int .i64 (seen : Int), .int .i64 e, .bool false]) rfl rfl rfl rfl rfl rfl ?_
    conv=>arg 8;simp only[zA,zB,zC,zD,zE,zF,zG,zH,zI,rowS,ret,id_eq]
    repeat(first|refine QV QP ?_|refine QZ ?_|refine qcT rfl ?_|refine qcF rfl ?_|refine QV QA ?_|refine QV QeT ?_|refine QV QeF ?_|refine QV QnT ?_|refine QV QnF ?_|refine QV QaA ?_)
    exact E_retc3 (i := 3) rfl rfl rfl rfl rfl rfl fun w hm => hm.meets (S := ⟨fun (_ : Value × Value) => True, fun _ => .tuple #[skV (.slice none 0 0) (seen : Int) e false, .slice none 0 0, .int .i64 e], fun _ => []⟩) (.slice none 0 0, .slice none 0 0) trivial [] (by decide) rfl
def endBS (seen : Int) (R : Int × List Nat × List Sym) : Spec Value :=
  ⟨fun _ => True, fun x => if R.1 = 0 then .tuple #[skV (.slice none 0 0) seen 0 true, x, .int .i64 0] else .tuple #[skV (.slice none 0 0) seen R.1 false, .slice none 0 0, .int .i64 R.1], fun x => if R.1 = 0 then [evO x R.2.2] else []⟩
theorem endBS_ok {seen : Int} {σ : List Nat} {o : List Sym} : endBS seen (0, σ, o) = ⟨fun _ => True, fun x => .tuple #[skV (.slice none 0 0) seen 0 true, x, .int .i64 0], fun x => [evO x o]⟩ := by unfold endBS; simp
theorem endBS_no {seen e : Int} (he : e ≠ 0) {x : List Nat × List Sym} : endBS seen (e, x) = ⟨fun _ => True, fun _ => .tuple #[skV (.slice none 0 0) seen e false, .slice none 0 0, .int .i64 e], fun _ => []⟩ := by unfold endBS; simp [he]
attribute [local irreducible] Instr.build in
set_option maxHeartbeats 4000000 in
theorem bdEnd_calls (v t vs : Value) (g : Gram) (T N : Nat) (A : List (List itemL.Act)) (G : List (List Int)) (σ0 : List Nat) (seen : Nat) (w : World) (hG : GraR (fun k => k < w.heap.size) w v g) (ht : TabR w t A G) (hs : skR w vs σ0) (hT : LrOk g T N A G) (hq : ∀ q ∈ σ0, q < A.length) (hne : σ0 ≠ []) (hl : σ0.length ≤ 60) (hsn : seen ≤ 1000000) :
    Calls Try.prog 59 #[v, t, skV vs (seen : Int) 0 false] w (Meets (endBS (seen : Int) (runB g.prods (actT A) (gotoT G) T seen 2001 σ0 [])) w) := by
  have h0 : 0 < σ0.length := by rcases σ0 with _ | ⟨a, b⟩; exact absurd rfl hne; simp
  have hterm := hT.terms
  have hck := fun w' (hg : Gr w w') => bdCheck_calls v t vs g T N A G σ0 (seen : Int) (T : Int) w' (hG.gr hg) (ht.gr hg) (hs.gr hg) hT hq h0 hl (by omega) (by omega) (by omega) (by omega)
  have hrn := fun w' (hg : Gr w w') => bdRun_calls v t vs g T N A G σ0 seen T w' (hG.gr hg) (ht.gr hg) (hs.gr hg) hT hq hne hl (Nat.le_refl _)
  generalize runB g.prods (actT A) (gotoT G) T seen 2001 σ0 [] = R at *
  obtain ⟨e, σ, o⟩ := R
  obtain ⟨vp, rfl, -⟩ := hG
  obtain ⟨vA, vG, rfl, -⟩ := ht
  clear hs hT
  refine enter (args := [graV g.terms g.nons vp, .agg #[vA, vG], skV vs (seen : Int) 0 false]) (n := 45) Try.func59 rfl rfl rfl ?_
  refine T_seq (T_region (TL_box rfl rfl rfl fun g4 => ?_))
  conv=>arg 8;simp only[zA,zB,zC,zD,zE,zF,zG,zH,zI,rowS,ret,id_eq]
  refine TL_box rfl rfl rfl fun g5 => ?_
  conv=>arg 8;simp only[zA,zB,zC,zD,zE,zF,zG,zH,zI,rowS,ret,id_eq]
  refine TL_box rfl rfl rfl fun g6 => ?_
  conv=>arg 8;simp only[zA,zB,zC,zD,zE,zF,zG,zH,zI,rowS,ret,id_eq]
  refine TL_new rfl fun g8 => ?_
  conv=>arg 8;simp only[zA,zB,zC,zD,zE,zF,zG,zH,zI,rowS,ret,id_eq]
  repeat(first|refine QV QP ?_|refine QZ ?_|refine qcT rfl ?_|refine qcF rfl ?_|refine QV (rr_load1 (v := .int .i64 (T : Int)) TyC.ty rfl (at_blk (i := 0) rfl (by show some (Value.int .i64 g.terms) = _; rw [hterm]))) ?_|refine QV (rr_loadB (i := 0) TyC.ty rfl rfl rfl) ?_|refine QV (rr_loadB (i := 1) TyC.ty rfl rfl rfl) ?_|refine QV (rr_loadB (i := 2) TyC.ty rfl rfl rfl) ?_|refine QV QA ?_|refine QV QnT ?_|refine QV QnF ?_)
  refine TL_call (he4 EntersC.en rfl rfl rfl rfl rfl) (fun w hm => hck w hm.below) rfl rfl rfl ?_
  intro _ _
  conv=>arg 8;simp only[zA,zB,zC,zD,zE,zF,zG,zH,zI,rowS,ret,id_eq]
  repeat(first|refine QV QP ?_|refine QZ ?_|refine qcT rfl ?_|refine qcF rfl ?_|refine QV (rr_load1 (v := .int .i64 (T : Int)) TyC.ty rfl (at_blk (i := 0) rfl (by show some (Value.int .i64 g.terms) = _; rw [hterm]))) ?_|refine QV (rr_loadB (i := 0) TyC.ty rfl rfl rfl) ?_|refine QV (rr_loadB (i := 1) TyC.ty rfl rfl rfl) ?_|refine QV (rr_loadB (i := 2) TyC.ty rfl rfl rfl) ?_|refine QV QA ?_|refine QV QnT ?_|refine QV QnF ?_)
  by_cases c : e = 0
  · subst c
    rw [runBS_ok] at hrn
    rw [endBS_ok]
    refine TL_call (he4 EntersC.en rfl rfl rfl rfl rfl) (fun w hm => hrn w hm.below) rfl rfl rfl ?_
    rintro ⟨v1, v2⟩ _
    conv=>arg 8;simp only[zA,zB,zC,zD,zE,zF,zG,zH,zI,rowS,ret,id_eq]
    repeat(first|refine QV QP ?_|refine QZ ?_|refine qcT rfl ?_|refine qcF rfl ?_|refine QV (rr_load1 (v := .int .i64 (seen : Int)) TyC.ty rfl (at_blk (i := 2) rfl rfl)) ?_|refine QV (rr_build rfl (build_skD _)) ?_|refine QV QA ?_|refine QV QnT ?_|refine QV QnF ?_)
    refine TL_storeB (i := 3) (cs' := #[.slice none 0 0, .int .i64 (seen : Int), .int .i64 0, .bool true]) rfl rfl rfl rfl rfl rfl ?_
    conv=>arg 8;simp only[zA,zB,zC,zD,zE,zF,zG,zH,zI,rowS,ret,id_eq]
    repeat(first|refine QV QP ?_|refine QZ ?_|refine qcT rfl ?_|refine qcF rfl ?_|refine QV QA ?_|refine QV QnT ?_|refine QV QnF ?_)
    exact E_retc3 (i := 3) rfl rfl rfl rfl rfl rfl fun w hm => hm.meets (S := ⟨fun _ => True, fun x => .tuple #[skV (.slice none 0 0) (seen : Int) 0 true, x, .int .i64 0], fun x => [evO x o]⟩) v2 trivial [5] (by decide) rfl
  · rw [runBS_no c] at hrn
    rw [endBS_no c]
    refine TL_call (he4 EntersC.en rfl rfl rfl rfl rfl) (fun w hm => hrn w hm.below) rfl rfl rfl ?_
    rintro _ _
    conv=>arg 8;simp only[zA,zB,zC,zD,zE,zF,zG,zH,zI,rowS,ret,id_eq]
    repeat(first|refine QV QP ?_|refine QZ ?_|refine qcT rfl ?_|refine qcF rfl ?_|refine QV (rr_neq (b := true) rfl rfl (decide_eq_true c)) ?_|refine QV (rr_load1 (v := .int .i64 (seen : Int)) TyC.ty rfl (at_blk (i := 2) rfl rfl)) ?_|refine QV (rr_build rfl (build_skE _ _)) ?_|refine QV QA ?_|refine QV QnT ?_|refine QV QnF ?_)
    refine TL_storeB (i := 3) (cs' := #[.slice none 0 0, .int .i64 (seen : Int), .int .i64 e, .bool false]) rfl rfl rfl rfl rfl rfl ?_
    conv=>arg 8;simp only[zA,zB,zC,zD,zE,zF,zG,zH,zI,rowS,ret,id_eq]
    repeat(first|refine QV QP ?_|refine QZ ?_|refine qcT rfl ?_|refine qcF rfl ?_|refine QV QA ?_|refine QV QnT ?_|refine QV QnF ?_)
    exact E_retc3 (i := 3) rfl rfl rfl rfl rfl rfl fun w hm => hm.meets (S := ⟨fun (_ : Value) => True, fun _ => .tuple #[skV (.slice none 0 0) (seen : Int) e false, .slice none 0 0, .int .i64 e], fun _ => []⟩) (.slice none 0 0) trivial [] (by decide) rfl
end Go.Proofs.Ytlojfbnimmdehaa.eng

/- BuD -/
namespace Go.Proofs.Ytlojfbnimmdehaa.eng
open Go.RowKit kit mix gramL treeL climbL factsL itemL smallL
set_option maxHeartbeats 4000000 in
theorem built_calls (v t vw : Value) (g : Gram) (T N : Nat) (A : List (List itemL.Act)) (G : List (List Int)) (word : List Int) (w : World) (h : GraR (fun k => k < w.heap.size) w v g) (ht : TabR w t A G) (hs : Sl w vw word.length (word.map (.int .i64))) (hT : LrOk g T N A G) (hw : ∀ x ∈ word, 0 ≤ x ∧ x < (T : Int)) (hl : word.length ≤ 1000) :
    Calls Try.prog 28 #[v, t, vw] w (Meets (climbedS (bRun g.prods (actT A) (gotoT G) T word [0] 0 [])) w) := by
  have hp := fun vs σ (seen col : Nat) w' (hg' : Gr w w') hs' hq hne hl' hc hsn => bdPush_calls v t vs g T N A G σ seen col w' (h.gr hg') (ht.gr hg') hs' hT hq hne hl' hc hsn
  have he := fun vs σ (seen : Nat) w' (hg' : Gr w w') hs' hq hne hl' hsn => bdEnd_calls v t vs g T N A G σ seen w' (h.gr hg') (ht.gr hg') hs' hT hq hne hl' hsn
  obtain ⟨vp, rfl, _⟩ := h
  obtain ⟨vA, vG, rfl, _⟩ := ht
  obtain ⟨bw, cw, rfl, hw1, hw2, hw3⟩ := hs
  unfold maxLen at hw2
  refine enter (args := [graV g.terms g.nons vp, .agg #[vA, vG], .slice bw word.length cw]) (n := 55) Try.func28 rfl rfl rfl ?_
  refine T_seq (T_region (TL_box rfl rfl rfl fun g3 => ?_))
  conv=>arg 8;simp only[zA,zB,zC,zD,zE,zF,zG,zH,zI,rowS,ret,id_eq]
  refine TL_box rfl rfl rfl fun g4 => ?_
  conv=>arg 8;simp only[zA,zB,zC,zD,zE,zF,zG,zH,zI,rowS,ret,id_eq]
  repeat(first|refine QV QP ?_|refine QZ ?_|refine qcT rfl ?_|refine qcF rfl ?_|refine E_blockX ?_|refine E_blockO rfl ?_|refine QV QL ?_|refine QV QlT ?_|refine QV QlF ?_|refine QV QnT ?_|refine QV QnF ?_|refine QV QaA ?_)
  refine TL_call (he0 EntersC.en rfl) (fun w hm => bdBegin_calls w) rfl rfl rfl ?_
  intro vt0 _
  conv=>arg 8;simp only[zA,zB,zC,zD,zE,zF,zG,zH,zI,rowS,ret,id_eq, beginSS]
  conv => arg 7; simp only [beginSS]
  refine TL_slv (i := 2) rfl fun hv1 hv2 => ?_
  refine TL_new rfl fun g9 => ?_
  refine TL_storeB (i := 3) (cs' := #[vt0, .int .i64 0, .int .i64 0, .bool false]) rfl rfl rfl rfl (sk_one hv2) rfl ?_
  conv=>arg 8;simp only[zA,zB,zC,zD,zE,zF,zG,zH,zI,rowS,ret,id_eq]
  repeat(first|refine QV QP ?_|refine QZ ?_|refine qcT rfl ?_|refine qcF rfl ?_|refine E_blockX ?_|refine E_blockO rfl ?_|refine QV QL ?_|refine QV QlT ?_|refine QV QlF ?_|refine QV QnT ?_|refine QV QnF ?_|refine QV QaA ?_)
  refine T_nil 82 2 ?_
  generalize hR : bRun g.prods (actT A) (gotoT G) T word [0] 0 [] = R
  refine T_pick [0, 1, 3, 2, 4] (by decide) rfl ?_
  refine T_loop (ι := Nat × List Nat × List Sym × Value × Value) (fun (k, σ, out, _, _) => k ≤ word.length ∧ bRun g.prods (actT A) (gotoT G) T (word.drop k) σ k out = R ∧ (∀ q ∈ σ, q < A.length) ∧ σ ≠ [] ∧ σ.length ≤ 60 ∧ out.length ≤ k * 2001)
    (fun (k, _, _, _, vo) => [(3, .pointer (some ⟨g3, 0, none⟩)), (4, .pointer (some ⟨g4, 0, none⟩)), (6, vo), (7, .int .i64 (k : Int)), (9, .pointer (some ⟨g9, 0, none⟩)), (16, .slice bw word.length cw), (17, .int .i64 word.length), (18, .int .i64 (k : Int))])
    (fun (k, σ, out, vt, vo) => [blkO g3 (graV g.terms g.nons vp).cells 24, blkO g4 (Value.agg #[vA, vG]).cells 29, blkO g9 #[vt, .int .i64 (k : Int), .int .i64 0, .bool false] 125, skO vt σ, evO vo out]) (fun (k, _, _, _, _) => word.length - k) (0, [0], [], vt0, .slice none 0 0)
    ⟨Nat.zero_le _, hR, by intro q hq; rw [List.mem_singleton.1 hq]; exact hT.pos, by simp, by decide, by simp⟩ (by repeat' (first | exact True.intro | refine And.intro rfl ?_)) rfl ?_
  clear hR hv1 hv2
  rintro ⟨k, σ, out, vt, vo⟩ ⟨i1, i2, i3, i4, i6, i5⟩
  dsimp only at i1 i2 i3 i4 i5 i6 ⊢
  by_cases c : k < word.length
  · obtain ⟨b, off, rfl, hrd⟩ := hw3 (by omega)
    have hat := fun L => at_rdm (L := L) hrd c
    rw [List.drop_eq_getElem_cons c, bRun] at i2
    have hwk := hw _ (List.getElem_mem c)
    clear hrd hw3
    generalize word[k] = t at *
    obtain ⟨tn, rfl⟩ : ∃ tn : Nat, t = tn := ⟨t.toNat, by omega⟩
    rw [Int.toNat_natCast] at i2
    have hpk := fun w' hg' hs' => hp vt σ k tn w' hg' hs' i3 i4 i6 (by omega) (by omega)
    have hok := fun h0 => runB_ok (a := k) hT (show tn ≤ T by omega) 2001 (o := []) i4 i3 i6 h0
    generalize runB g.prods (actT A) (gotoT G) tn k 2001 σ [] = P at *
    obtain ⟨e, σ', l⟩ := P
    dsimp only at i2 hok
    by_cases c1 : e = 0
    · subst c1
      obtain ⟨o1, o2, o3, o4⟩ := hok rfl
      simp only [List.length_nil] at o4
      rw [if_neg (by simp)] at i2
      rw [pushBS_ok] at hpk
      clear hok
      repeat(first|refine QV QP ?_|refine QZ ?_|refine qcT rfl ?_|refine qcF rfl ?_|refine E_blockX ?_|refine E_blockO rfl ?_|refine QV (rr_idx1 Und.eq TyC.ty rfl rfl c) ?_|refine QV (rr_load1 TyC.ty rfl (hat _)) ?_|refine QV (rr_loadB (i := 0) TyC.ty rfl rfl rfl) ?_|refine QV (rr_loadB (i := 1) TyC.ty rfl rfl rfl) ?_|refine QV (rr_loadB (i := 2) TyC.ty rfl rfl rfl) ?_|refine QV QL ?_|refine QV QlT ?_|refine QV QlF ?_|refine QV QnT ?_|refine QV QnF ?_|refine QV QaA ?_)
      refine TL_call (he4 EntersC.en rfl rfl rfl rfl rfl) (fun w' hm => hpk w' hm.below (Sl.of_own (hm.get (i := 3) rfl))) rfl rfl rfl ?_
      rintro ⟨vt', vl⟩ _
      conv=>arg 8;simp only[zA,zB,zC,zD,zE,zF,zG,zH,zI,rowS,ret,id_eq]
      repeat(first|refine QV QP ?_|refine QZ ?_|refine qcT rfl ?_|refine qcF rfl ?_|refine E_blockX ?_|refine E_blockO rfl ?_|refine QV QL ?_|refine QV QlT ?_|refine QV QlF ?_|refine QV QnT ?_|refine QV QnF ?_|refine QV QaA ?_)
      refine TL_slv (i := 5) rfl fun hv1 hv2 => ?_
      refine TL_storeB (i := 2) (cs' := #[vt', .int .i64 ((k : Int) + 1), .int .i64 0, .bool false]) rfl rfl rfl rfl (sk_one hv2) rfl ?_
      conv=>arg 8;simp only[zA,zB,zC,zD,zE,zF,zG,zH,zI,rowS,ret,id_eq]
      repeat(first|refine QV QP ?_|refine QZ ?_|refine qcT rfl ?_|refine qcF rfl ?_|refine E_blockX ?_|refine E_blockO rfl ?_|refine QV QL ?_|refine QV QlT ?_|refine QV QlF ?_|refine QV QnT ?_|refine QV QnF ?_|refine QV QaA ?_)
      refine TL_appSl (i := 4) (k := l.length) (ys := l.flatMap symC) rfl (sl_row (i := 6) rfl) rfl rfl (ev_len l) (one_sym l) (by omega) (by omega) rfl fun vo' => ?_
      conv=>arg 8;simp only[zA,zB,zC,zD,zE,zF,zG,zH,zI,rowS,ret,id_eq]
      repeat(first|refine QV QP ?_|refine QZ ?_|refine qcT rfl ?_|refine qcF rfl ?_|refine E_blockX ?_|refine E_blockO rfl ?_|refine QV QL ?_|refine QV QlT ?_|refine QV QlF ?_|refine QV QnT ?_|refine QV QnF ?_|refine QV QaA ?_)
      refine E_pick [0, 1, 2, 5, 4] (by decide) rfl ?_
      exact E_round (k + 1, σ', out ++ l, vt', vo') ⟨by omega, i2, o2, o1, o3, (by show (out ++ l).length ≤ (k + 1) * 2001; rw [List.length_append]; omega)⟩ (by show word.length - (k + 1) < word.length - k; omega) (by repeat' (first | exact True.intro | refine And.intro rfl ?_)) (by rw [evO_app]; push_cast; rfl)
    · rw [if_pos c1] at i2
      subst i2
      rw [pushBS_no c1] at hpk
      clear hok
      repeat(first|refine QV QP ?_|refine QZ ?_|refine qcT rfl ?_|refine qcF rfl ?_|refine E_blockX ?_|refine E_blockO rfl ?_|refine QV (rr_idx1 Und.eq TyC.ty rfl rfl c) ?_|refine QV (rr_load1 TyC.ty rfl (hat _)) ?_|refine QV (rr_loadB (i := 0) TyC.ty rfl rfl rfl) ?_|refine QV (rr_loadB (i := 1) TyC.ty rfl rfl rfl) ?_|refine QV (rr_loadB (i := 2) TyC.ty rfl rfl rfl) ?_|refine QV QL ?_|refine QV QlT ?_|refine QV QlF ?_|refine QV QnT ?_|refine QV QnF ?_|refine QV QaA ?_)
      refine TL_call (he4 EntersC.en rfl rfl rfl rfl rfl) (fun w' hm => hpk w' hm.below (Sl.of_own (hm.get (i := 3) rfl))) rfl rfl rfl ?_
      intro _ _
      conv=>arg 8;simp only[zA,zB,zC,zD,zE,zF,zG,zH,zI,rowS,ret,id_eq]
      repeat(first|refine QV QP ?_|refine QZ ?_|refine qcT rfl ?_|refine qcF rfl ?_|refine E_blockX ?_|refine E_blockO rfl ?_|refine QV QL ?_|refine QV QlT ?_|refine QV QlF ?_|refine QV QnT ?_|refine QV QnF ?_|refine QV QaA ?_)
      refine TL_storeB (i := 2) (cs' := #[.slice none 0 0, .int .i64 (k : Int), .int .i64 e, .bool false]) rfl rfl rfl rfl rfl rfl ?_
      conv=>arg 8;simp only[zA,zB,zC,zD,zE,zF,zG,zH,zI,rowS,ret,id_eq]
      repeat(first|refine QV QP ?_|refine QZ ?_|refine qcT rfl ?_|refine qcF rfl ?_|refine E_blockX ?_|refine E_blockO rfl ?_|refine QV (rr_neq (b := true) rfl rfl (decide_eq_true c1)) ?_|refine QV QL ?_|refine QV QlT ?_|refine QV QlF ?_|refine QV QnT ?_|refine QV QnF ?_|refine QV QaA ?_)
      exact E_ret3 rfl rfl rfl rfl fun w hm => hm.meets (S := climbedS (out, k, e)) vo trivial [4] (by decide) rfl
  · rw [List.drop_of_length_le (by omega), bRun] at i2
    obtain rfl : k = word.length := by omega
    have hek := fun w' hg' hs' => he vt σ word.length w' hg' hs' i3 i4 i6 (by omega)
    have hok := fun h0 => (runB_ok (a := word.length) hT (Nat.le_refl T) 2001 (o := []) i4 i3 i6 h0).2.2.2
    have hno := runB_nil (l := g.prods) (act := actT A) (gt := gotoT G) (col := T) (a := word.length) 2001 σ []
    generalize runB g.prods (actT A) (gotoT G) T word.length 2001 σ [] = P at *
    obtain ⟨e, σ', l⟩ := P
    dsimp only at i2 hok hno
    by_cases c1 : e = 0
    · subst c1
      have hll := hok rfl
      simp only [List.length_nil] at hll
      subst i2
      rw [endBS_ok] at hek
      clear hok hno
      repeat(first|refine QV QP ?_|refine QZ ?_|refine qcT rfl ?_|refine qcF rfl ?_|refine E_blockX ?_|refine E_blockO rfl ?_|refine QV (rr_loadB (i := 0) TyC.ty rfl rfl rfl) ?_|refine QV (rr_loadB (i := 1) TyC.ty rfl rfl rfl) ?_|refine QV (rr_loadB (i := 2) TyC.ty rfl rfl rfl) ?_|refine QV QL ?_|refine QV QlT ?_|refine QV QlF ?_|refine QV QnT ?_|refine QV QnF ?_|refine QV QaA ?_)
      refine TL_call (he3 EntersC.en rfl rfl rfl rfl) (fun w' hm => hek w' hm.below (Sl.of_own (hm.get (i := 3) rfl))) rfl rfl rfl ?_
      intro vl _
      conv=>arg 8;simp only[zA,zB,zC,zD,zE,zF,zG,zH,zI,rowS,ret,id_eq]
      repeat(first|refine QV QP ?_|refine QZ ?_|refine qcT rfl ?_|refine qcF rfl ?_|refine E_blockX ?_|refine E_blockO rfl ?_|refine QV QL ?_|refine QV QlT ?_|refine QV QlF ?_|refine QV QnT ?_|refine QV QnF ?_|refine QV QaA ?_)
      refine TL_new rfl fun g13 => ?_
      refine TL_storeB (i := 6) (cs' := #[.slice none 0 0, .int .i64 (word.length : Int), .int .i64 0, .bool true]) rfl rfl rfl rfl rfl rfl ?_
      conv=>arg 8;simp only[zA,zB,zC,zD,zE,zF,zG,zH,zI,rowS,ret,id_eq]
      repeat(first|refine QV QP ?_|refine QZ ?_|refine qcT rfl ?_|refine qcF rfl ?_|refine E_blockX ?_|refine E_blockO rfl ?_|refine QV QL ?_|refine QV QlT ?_|refine QV QlF ?_|refine QV QnT ?_|refine QV QnF ?_|refine QV QaA ?_)
      refine TL_appSl (i := 4) (k := l.length) (ys := l.flatMap symC) rfl (sl_row (i := 5) rfl) rfl rfl (ev_len l) (one_sym l) (by omega) (by omega) rfl fun vo' => ?_
      conv=>arg 8;simp only[zA,zB,zC,zD,zE,zF,zG,zH,zI,rowS,ret,id_eq]
      repeat(first|refine QV QP ?_|refine QZ ?_|refine qcT rfl ?_|refine qcF rfl ?_|refine E_blockX ?_|refine E_blockO rfl ?_|refine QV QL ?_|refine QV QlT ?_|refine QV QlF ?_|refine QV QnT ?_|refine QV QnF ?_|refine QV QaA ?_)
      exact E_ret3 rfl rfl rfl rfl fun w hm => hm.meets (S := climbedS (out ++ l, word.length, 0)) vo' trivial [4] (by decide) (by show [evO vo' (out ++ l)] = _; rw [← evO_app]; rfl)
    · have hl0 : l = [] := (Prod.ext_iff.1 (hno c1)).2
      subst hl0
      rw [List.append_nil] at i2
      subst i2
      rw [endBS_no c1] at hek
      clear hok hno
      repeat(first|refine QV QP ?_|refine QZ ?_|refine qcT rfl ?_|refine qcF rfl ?_|refine E_blockX ?_|refine E_blockO rfl ?_|refine QV (rr_loadB (i := 0) TyC.ty rfl rfl rfl) ?_|refine QV (rr_loadB (i := 1) TyC.ty rfl rfl rfl) ?_|refine QV (rr_loadB (i := 2) TyC.ty rfl rfl rfl) ?_|refine QV QL ?_|refine QV QlT ?_|refine QV QlF ?_|refine QV QnT ?_|refine QV QnF ?_|refine QV QaA ?_)
      refine TL_call (he3 EntersC.en rfl rfl rfl rfl) (fun w' hm => hek w' hm.below (Sl.of_own (hm.get (i := 3) rfl))) rfl rfl rfl ?_
      intro _ _
      conv=>arg 8;simp only[zA,zB,zC,zD,zE,zF,zG,zH,zI,rowS,ret,id_eq]
      repeat(first|refine QV QP ?_|refine QZ ?_|refine qcT rfl ?_|refine qcF rfl ?_|refine E_blockX ?_|refine E_blockO rfl ?_|refine QV QL ?_|refine QV QlT ?_|refine QV QlF ?_|refine QV QnT ?_|refine QV QnF ?_|refine QV QaA ?_)
      refine TL_new rfl fun g13 => ?_
      refine TL_storeB (i := 5) (cs' := #[.slice none 0 0, .int .i64 (word.length : Int), .int .i64 e, .bool false]) rfl rfl rfl rfl rfl rfl ?_
      conv=>arg 8;simp only[zA,zB,zC,zD,zE,zF,zG,zH,zI,rowS,ret,id_eq]
      repeat(first|refine QV QP ?_|refine QZ ?_|refine qcT rfl ?_|refine qcF rfl ?_|refine E_blockX ?_|refine E_blockO rfl ?_|refine QV QL ?_|refine QV QlT ?_|refine QV QlF ?_|refine QV QnT ?_|refine QV QnF ?_|refine QV QaA ?_)
      refine TL_append0 ElC.el (i := 4) rfl rfl rfl rfl ?_
      conv=>arg 8;simp only[zA,zB,zC,zD,zE,zF,zG,zH,zI,rowS,ret,id_eq]
      repeat(first|refine QV QP ?_|refine QZ ?_|refine qcT rfl ?_|refine qcF rfl ?_|refine E_blockX ?_|refine E_blockO rfl ?_|refine QV QL ?_|refine QV QlT ?_|refine QV QlF ?_|refine QV QnT ?_|refine QV QnF ?_|refine QV QaA ?_)
      exact E_ret3 rfl rfl rfl rfl fun w hm => hm.meets (S := climbedS (out, word.length, e)) vo trivial [4] (by decide) rfl
end Go.Proofs.Ytlojfbnimmdehaa.eng

/- BuP -/
namespace Go.Proofs.Ytlojfbnimmdehaa.eng
open gramL treeL countL factsL itemL smallL derL
open climbL (right_der der_right yieldX_top top_prod)
open llL (colAt)
section
variable {g : Gram} {T N : Nat} {Nx : List (List Int)} {S : List (List itemL.Item)}
/-- what is told -/
abbrev bR (g : Gram) (T : Nat) (Nx : List (List Int)) (S : List (List itemL.Item)) (W : List Int) : List Sym × Nat × Int := bRun g.prods (actT (actTab g.prods T Nx S S.length)) (gotoT (gotoTab T Nx S.length)) T W [0] 0 []
theorem MadeT.top (h : MadeT g T N Nx S) : ∀ q, q < S.length → ∀ it ∈ S.getD q [], it.1 = (g.prods.length : Int) → it.2.2 = (T : Int) := all_top h.wide h.few h.t30 h.all
theorem MadeT.pos (h : MadeT g T N Nx S) : 0 < S.length := (List.getElem?_eq_some_iff.1 h.law.start).1
theorem MadeT.bods (h : MadeT g T N Nx S) : ∀ p x, x ∈ bodyI g.prods p → x.1 = 1 ∨ (x.1 = 2 ∧ 0 ≤ x.2 ∧ x.2 < (N : Int)) := fun p x hx => by
  rcases right_cases (body_right h.gram x hx) with ⟨h1, _⟩ | ⟨h1, h2, h3⟩
  · exact .inl h1
  · exact .inr ⟨h1, h2, by rw [h.nons] at h3; exact h3⟩
theorem bR_sound (h : MadeT g T N Nx S) {W : List Int} (hW : ∀ x ∈ W, 0 ≤ x ∧ x < (T : Int)) (h0 : (bR g T Nx S W).2.2 = 0) : ∃ t, Right g.prods t (2, 0) 0 ∧ upE g.prods t = (bR g T Nx S W).1 ∧ yieldT g.prods t = W := by
  obtain ⟨t, h1, h2, h3⟩ := run_sound h.tabB h.law h.wide h.few h.t30 h.heads h.top W (out := []) hW .start rfl h0
  refine ⟨t, h1, ?_, h3⟩
  rw [← h2]
  unfold upX
  rw [if_neg (by have := top_prod h1; omega)]
theorem bR_det (h : MadeT g T N Nx S) (hc : calmB g = true) {W : List Int} (hW : ∀ x ∈ W, 0 ≤ x ∧ x < (T : Int)) {t : Tree} (ht : Right g.prods t (2, 0) 0) (hy : yieldT g.prods t = W) : (bR g T Nx S W).2.2 = 14 ∨ ((bR g T Nx S W).2.2 = 0 ∧ (bR g T Nx S W).1 = upE g.prods t ∧ (bR g T Nx S W).2.1 = W.length) := by
  obtain ⟨s, ρ, h1, h2⟩ := tree_runs (h.lrH hc hW) ht hy
  have := (run_det h.tabB h.law h.heads hW h1 (by intro q hq; rw [List.mem_singleton.1 hq]; exact h.pos) rfl (fun q ρ e => by obtain ⟨rfl, rfl⟩ := List.cons.inj e; exact h2) (by simp) 2001 [] 0 W [] (Nat.zero_le _) (Nat.zero_le _) (Nat.zero_le _) rfl).1 rfl
  rw [← run_cont] at this
  rcases this with h14 | e
  · exact .inl h14
  · refine .inr ?_
    unfold bR
    rw [e]
    refine ⟨rfl, ?_, rfl⟩
    show [] ++ ([] ++ upX g.prods t) = _
    rw [List.nil_append, List.nil_append]
    unfold upX
    rw [if_neg (by have := top_prod ht; omega)]
theorem bR_le {W : List Int} : (bR g T Nx S W).2.1 ≤ W.length := by
  have := bRun_le (l := g.prods) (act := actT (actTab g.prods T Nx S S.length)) (gt := gotoT (gotoTab T Nx S.length)) (T := T) W [0] 0 []
  rwa [Nat.zero_add] at this
/-- what was had goes on to a word -/
theorem bR_begins (h : MadeT g T N Nx S) (hM : ∀ i : Nat, i < N → ∃ ws, Der g.prods (2, (i : Int)) ws) {W : List Int} (hW : ∀ x ∈ W, 0 ≤ x ∧ x < (T : Int)) : ∃ v, Der g.prods (2, 0) (W.take (bR g T Nx S W).2.1 ++ v) := by
  obtain ⟨σ', ts', h1, h2⟩ := run_far h.tabB h.law h.wide h.few h.t30 h.heads h.top W (out := []) hW .start
  obtain ⟨v, hv⟩ := stk_begins h.law h.wide h.few h.t30 hM h.bods h1
  rw [h2, Nat.sub_zero] at hv
  exact ⟨v, hv⟩
/-- what was refused goes on to none -/
theorem bR_not (h : MadeT g T N Nx S) (hc : calmB g = true) {W : List Int} (h14 : (bR g T Nx S W).2.2 ≠ 14) (hl : (bR g T Nx S W).2.1 < W.length) : ∀ v, ¬ Der g.prods (2, 0) (W.take ((bR g T Nx S W).2.1 + 1) ++ v) := fun v hd => by
  obtain ⟨t, h1, h2⟩ := der_right hd 0
  rw [yieldX_top h1] at h2
  have hW : ∀ x ∈ W.take ((bR g T Nx S W).2.1 + 1) ++ v, 0 ≤ x ∧ x < (T : Int) := by
    rw [← h2, ← h.terms]
    exact yield_in h.gram h1 (top_prod h1)
  obtain ⟨s, ρ, k1, k2⟩ := tree_runs (h.lrH hc hW) h1 h2
  have hlen : (W.take ((bR g T Nx S W).2.1 + 1)).length = (bR g T Nx S W).2.1 + 1 := by rw [List.length_take]; omega
  have := (run_det h.tabB h.law h.heads hW k1 (by intro q hq; rw [List.mem_singleton.1 hq]; exact h.pos) rfl (fun q ρ e => by obtain ⟨rfl, rfl⟩ := List.cons.inj e; exact k2) (by simp) 2001 [] ((bR g T Nx S W).2.1 + 1) W [] (Nat.zero_le _) (by omega) (by rw [List.drop_zero, List.length_append]; omega) (by rw [List.drop_zero, List.take_append_of_le_length (by omega), List.take_take, Nat.min_self])).2
  rw [← run_cont] at this
  rcases this with h | h
  · exact h14 h
  · unfold bR at h; omega
end
/-! ### who climbs down, without a bound of the word's length -/
section
open climbL (nxC RunOk run_ok start_ok valid_rem start_rem tree_start run_far)
variable {g : Gram} {T N : Nat}
abbrev cR (g : Gram) (T N : Nat) (W : List Int) : List Sym × Nat × Int := climbL.runF g.prods (nxC g T N) T W [.sym (2, 0)] 0 []
theorem cR_begins (hg : checkG g = 0) (hN : g.nons = N) (hM : ∀ i : Nat, i < N → ∃ ws, Der g.prods (2, (i : Int)) ws) {W : List Int} : ∃ v, Der g.prods (2, 0) (W.take (cR g T N W).2.1 ++ v) := by
  obtain ⟨st', h1, h2⟩ := (run_ok (T := T) (N := N) hg W [.sym (2, 0)] 0 [] (start_ok hg) (by decide)).far
  obtain ⟨E, w, k⟩ := valid_rem hM hN st' _ h1
  obtain ⟨E', k'⟩ := h2 E w k
  obtain ⟨t, y1, y2, y3⟩ := start_rem k'
  rw [Nat.sub_zero] at y3
  refine ⟨w, ?_⟩
  rw [← y3, ← yieldX_top y1]
  exact right_der y1
theorem cR_not (hg : checkG g = 0) (hT : g.terms = T) (hN : g.nons = N) (hf : freeL g.prods (mayG N g.prods) T N = true) {W : List Int} (h14 : (cR g T N W).2.2 ≠ 14) (hl : (cR g T N W).2.1 < W.length) : ∀ v, ¬ Der g.prods (2, 0) (W.take ((cR g T N W).2.1 + 1) ++ v) := fun v hd => by
  generalize hR : cR g T N W = R at *
  obtain ⟨t, h1, h2⟩ := der_right hd 0
  rw [yieldX_top h1] at h2
  have hlen : (W.take (R.2.1 + 1)).length = R.2.1 + 1 := by rw [List.length_take]; omega
  have := run_far (g := g) (T := T) (N := N) (W := W.take (R.2.1 + 1) ++ v) (R.2.1 + 1) W [.sym (2, 0)] 0 [] (by omega) (by rw [List.drop_zero, List.length_append]; omega)
    (by rw [List.drop_zero, List.take_append_of_le_length (by omega), List.take_take, Nat.min_self]) (tree_start hg hT hN hf h1 h2) (fun R' _ => Nat.zero_le _)
  have hR : climbL.runF g.prods (nxC g T N) T W [.sym (2, 0)] 0 [] = R := hR
  rw [hR] at this
  rcases this with h | h
  · exact h14 h
  · omega
/-- both end alike -/
theorem both_alike {Nx : List (List Int)} {S : List (List itemL.Item)} (h : MadeT g T N Nx S) (hc : calmB g = true) (hf : freeL g.prods (mayG N g.prods) T N = true) (hM : ∀ i : Nat, i < N → ∃ ws, Der g.prods (2, (i : Int)) ws) {W : List Int} (hW : ∀ x ∈ W, 0 ≤ x ∧ x < (T : Int)) :
    (cR g T N W).2.2 = 14 ∨ (bR g T Nx S W).2.2 = 14 ∨ ((cR g T N W).2.1 = (bR g T Nx S W).2.1 ∧ (cR g T N W).2.2 = (bR g T Nx S W).2.2) := by
  by_cases e1 : (cR g T N W).2.2 = 14
  · exact .inl e1
  by_cases e2 : (bR g T Nx S W).2.2 = 14
  · exact .inr (.inl e2)
  refine .inr (.inr ?_)
  have hrun := run_ok (T := T) (N := N) h.gram W [.sym (2, 0)] 0 [] (start_ok h.gram) (by decide)
  have hle1 : (cR g T N W).2.1 ≤ W.length := by have := hrun.le; rwa [Nat.zero_add] at this
  have hle2 := bR_le (g := g) (T := T) (Nx := Nx) (S := S) (W := W)
  obtain ⟨v1, b1⟩ := cR_begins (T := T) h.gram h.nons hM (W := W)
  obtain ⟨v2, b2⟩ := bR_begins h hM hW
  have n1 := cR_not h.gram h.terms h.nons hf e1
  have n2 := bR_not h hc e2
  have cut : ∀ a b : Nat, a < b → b ≤ W.length → ∀ v, W.take b ++ v = W.take (a + 1) ++ ((W.take b).drop (a + 1) ++ v) := fun a b hab hb v => by
    rw [← List.append_assoc]
    congr 1
    have := List.take_append_drop (a + 1) (W.take b)
    rw [List.take_take, Nat.min_eq_left (by omega)] at this
    exact this.symm
  have hh : (cR g T N W).2.1 = (bR g T Nx S W).2.1 := by
    rcases Nat.lt_trichotomy (cR g T N W).2.1 (bR g T Nx S W).2.1 with c | c | c
    · rw [cut _ _ c hle2] at b2
      exact absurd b2 (n1 (by omega) _)
    · exact c
    · rw [cut _ _ c hle1] at b1
      exact absurd b1 (n2 (by omega) _)
  refine ⟨hh, ?_⟩
  have hp := climbL.parse_tree (T := T) (N := N) h.gram h.terms h.nons hf (W := W)
  have er1 : (cR g T N W).2.2 = 0 ∨ (cR g T N W).2.2 = 13 ∨ (cR g T N W).2.2 = 14 := hrun.err
  have er2 : (bR g T Nx S W).2.2 = 0 ∨ (bR g T Nx S W).2.2 = 13 ∨ (bR g T Nx S W).2.2 = 14 := bRun_err _ _ _ _
  have i1 : (cR g T N W).2.2 = 0 → (bR g T Nx S W).2.2 = 0 := fun h0 => by
    obtain ⟨t, t1, _, t3⟩ := hp.1 h0
    rcases bR_det h hc hW t1 t3 with h' | h'
    · exact absurd h' e2
    · exact h'.1
  have i2 : (bR g T Nx S W).2.2 = 0 → (cR g T N W).2.2 = 0 := fun h0 => by
    obtain ⟨t, t1, _, t3⟩ := bR_sound h hW h0
    rcases hp.2 t t1 t3 with h' | h'
    · exact absurd h' e1
    · exact h'.1
  omega
end
end Go.Proofs.Ytlojfbnimmdehaa.eng

/- EvT -/
namespace Go.Proofs.Ytlojfbnimmdehaa.eng
open Go.RowKit kit mix gramL treeL
instance : TyC Try.prog 194 false 1 := ⟨Ty.of (by kernel_rfl)⟩
instance : ZeroC Try.prog 194 #[.nilFunc] := ⟨by kernel_rfl⟩
end Go.Proofs.Ytlojfbnimmdehaa.eng

/- BoolC -/
namespace Go.Proofs.Ytlojfbnimmdehaa.eng
open Go.RowKit kit mix
set_option maxHeartbeats 2000000 in
theorem indexBool_calls (v : Value) (l : List Bool) (x : Bool) (w : World) (hs : Sl w v l.length (l.map .bool)) :
    Calls Try.prog 42 #[v, .bool x] w (Meets (ret (.int .i64 (idxF (· == x) l))) w) := by
  obtain ⟨base, cap, rfl, hcap, hmax, hrd⟩ := hs
  unfold maxLen at hmax
  refine enter (args := [.slice base l.length cap, .bool x]) (n := 19) Try.func42 rfl rfl rfl ?_
  repeat(first|refine QV QP ?_|refine QZ ?_|refine qcT rfl ?_|refine qcF rfl ?_|refine E_blockX ?_|refine E_blockO rfl ?_|refine QV QL ?_|refine QV QlT ?_|refine QV QlF ?_|refine QV QaA ?_)
  refine T_loop (ι := Nat) (fun k => k ≤ l.length ∧ ∀ j (hj : j < l.length), j < k → (l[j] == x) = false) (fun k => [(0, .slice base l.length cap), (1, .bool x), (7, .int .i64 l.length), (8, .int .i64 (k : Int))]) (fun _ => []) (fun k => l.length - k) 0 ⟨by omega, fun j hj h => by omega⟩ (by repeat' (first | exact True.intro | refine And.intro rfl ?_)) rfl ?_
  rintro k ⟨h1, h2⟩
  by_cases c2 : k < l.length
  · obtain ⟨b, off, rfl, hr⟩ := hrd (by omega)
    have hat := at_rdm (L := ([] : List Own)) hr c2
    by_cases c3 : (l[k] == x) = true
    · rw [idxF_some c2 c3 h2]
      have e : x = l[k] := by simpa using (beq_iff_eq.1 c3).symm
      clear h2 hrd
      subst e
      repeat(first|refine QV QP ?_|refine QZ ?_|refine qcT rfl ?_|refine qcF rfl ?_|refine E_blockX ?_|refine E_blockO rfl ?_|refine QV (rr_idx1 Und.eq TyC.ty rfl rfl c2) ?_|refine QV (rr_load1 TyC.ty rfl hat) ?_|refine QV (rr_booleq (c := true) Und.eq rfl rfl (by simp)) ?_|refine QV QL ?_|refine QV QlT ?_|refine QV QlF ?_|refine QV QaA ?_)
      exact E_ret1 rfl rfl fun w hm => hm.ret
    · have c3' : (l[k] == x) = false := by simpa using c3
      have e : (x == l[k]) = false := by rw [beq_eq_false_iff_ne] at c3' ⊢; exact fun h => c3' h.symm
      clear hrd c3
      repeat(first|refine QV QP ?_|refine QZ ?_|refine qcT rfl ?_|refine qcF rfl ?_|refine E_blockX ?_|refine E_blockO rfl ?_|refine QV (rr_idx1 Und.eq TyC.ty rfl rfl c2) ?_|refine QV (rr_load1 TyC.ty rfl hat) ?_|refine QV (rr_booleq (c := false) Und.eq rfl rfl e) ?_|refine QV QL ?_|refine QV QlT ?_|refine QV QlF ?_|refine QV QaA ?_)
      exact E_round (k + 1) ⟨by omega, fun j hj h => if e : j < k then h2 j hj e else (by obtain rfl : j = k := (by omega); exact c3')⟩ (by show l.length - (k + 1) < l.length - k; omega) (by repeat' (first | exact True.intro | refine And.intro rfl ?_)) rfl
  · rw [idxF_none fun j hj => h2 j hj (by omega)]
    clear h2 hrd
    repeat(first|refine QV QP ?_|refine QZ ?_|refine qcT rfl ?_|refine qcF rfl ?_|refine E_blockX ?_|refine E_blockO rfl ?_|refine QV QL ?_|refine QV QlT ?_|refine QV QlF ?_|refine QV QaA ?_)
    exact E_ret1 rfl rfl fun w hm => hm.ret
theorem containsBool_calls (v : Value) (l : List Bool) (x : Bool) (w : World) (hs : Sl w v l.length (l.map .bool)) :
    Calls Try.prog 15 #[v, .bool x] w (Meets (ret (.bool (l.any (· == x)))) w) := by
  refine enter (args := [v, .bool x]) (n := 9) Try.func15 rfl rfl rfl ?_
  have hh := fun w' (hg : Gr w w') => indexBool_calls v l x w' (hs.gr hg)
  have hr := idxF_range (· == x) l
  rw [← idxF_any (· == x) l]
  generalize idxF (· == x) l = r at *
  repeat(first|refine QV QP ?_|refine QZ ?_|refine QV QhT ?_|refine QV QhF ?_)
  refine TL_call (he2 EntersC.en rfl rfl rfl) (fun w hm => hh _ hm.below) rfl rfl rfl ?_
  intro _ _
  repeat(first|refine QV QP ?_|refine QZ ?_|refine QV (rr_geq rfl rfl rfl) ?_|refine QV QhT ?_|refine QV QhF ?_)
  exact E_ret1 rfl rfl fun w hm => hm.ret
end Go.Proofs.Ytlojfbnimmdehaa.eng

/- ClimbF -/
namespace Go.Proofs.Ytlojfbnimmdehaa.eng
open Go.RowKit kit mix gramL treeL climbL llL countL factsL derL
theorem sl_upto {α : Type} {f : α → Value} {w : World} {b : Option Addr} {c : Nat} {l : List α} (h : Sl w (.slice b l.length c) l.length (l.map f)) {k : Nat} (hk : k ≤ l.length) : Sl w (.slice b k c) (l.take k).length ((l.take k).map f) := by
  obtain ⟨b', c', he, h1, h2, h3⟩ := h
  simp only [Value.slice.injEq, true_and] at he
  obtain ⟨rfl, rfl⟩ := he
  have hl : (l.take k).length = k := by rw [List.length_take]; omega
  refine ⟨b, c, by rw [hl], by rw [hl]; omega, h2, fun h0 => ?_⟩
  rw [hl] at h0
  obtain ⟨b', off, e, hr⟩ := h3 (by omega)
  refine ⟨b', off, e, fun j u hj => hr j u ?_⟩
  rw [List.map_take, List.getElem?_take] at hj
  split at hj
  · exact hj
  · cases hj
end Go.Proofs.Ytlojfbnimmdehaa.eng

/- BuildAlikeW -/
namespace Go.Proofs.Ytlojfbnimmdehaa.buildAlike
open Go.RowKit kit mix gramL treeL countL factsL itemL derL eng climbL llL
theorem brk_tab : LrOk brkG 2 1 (actTab brkP 2 brkNx brkSt 10) (gotoTab 2 brkNx 10) := brk_made.tab
theorem brk_run : (bRun brkG.prods (actT (actTab brkP 2 brkNx brkSt 10)) (gotoT (gotoTab 2 brkNx 10)) 2 [0, 1] [0] 0 []).2 = (2, 0) ∧ (bRun brkG.prods (actT (actTab brkP 2 brkNx brkSt 10)) (gotoT (gotoTab 2 brkNx 10)) 2 [0, 1] [0] 0 []).1.length = 5 := ⟨by kernel_rfl, by kernel_rfl⟩
theorem brk_ll : checkG brkG = 0 ∧ freeL brkG.prods (mayG 1 brkG.prods) 2 1 = true ∧ rowsL brkG 2 1 = [[1, 0, 0]] := ⟨by kernel_rfl, by kernel_rfl, by kernel_rfl⟩
theorem brk_cl : (runF brkG.prods (fun n col => nxL [[1, 0, 0]] col n) 2 [0, 1] [.sym (2, 0)] 0 []).2 = (2, 0) ∧ (runF brkG.prods (fun n col => nxL [[1, 0, 0]] col n) 2 [0, 1] [.sym (2, 0)] 0 []).1.length = 8 := ⟨by kernel_rfl, by kernel_rfl⟩
/-- a token that is none -/
def outB (t n : Int) : Bool := decide (n < 0) || decide (t ≤ n)
theorem alike1_calls (t nn : Int) (vp : Value) (n : Int) (gg : Nat) (w : World) (hg : w.heap[gg]? = some (.cells (graV t nn vp).cells 24 (0, 0))) :
    Calls Try.prog 32 #[.int .i64 n, .pointer (some ⟨gg, 0, none⟩)] w (Meets (ret (.bool (outB t n))) w) := by
  have hcell : ∀ (L : List Own), At w L ⟨gg, 0, none⟩ (.int .i64 t) := fun L => at_old (by
    rw [cell_of_row w gg 0 _ _ _ hg]
    rfl)
  clear hg
  unfold outB
  refine enter (args := [.int .i64 n, .pointer (some ⟨gg, 0, none⟩)]) (n := 12) Try.func32 rfl rfl rfl ?_
  by_cases c : n < 0
  · rw [decide_eq_true c]
    repeat(first|refine QV QP ?_|refine QZ ?_|refine qs rfl rfl rfl rfl rfl rfl ?_|((try refine qg rfl rfl rfl ?_);first|refine QV QP ?_|refine QV (rr_lss (b := true) rfl rfl (decide_eq_true c)) ?_|refine QV QlT ?_|refine QV QlF ?_|refine QV QA ?_|refine QV QhT ?_|refine QV QhF ?_))
    exact E_ret1 rfl rfl fun w hm => hm.ret
  · rw [decide_eq_false c]
    repeat(first|refine QV QP ?_|refine QZ ?_|refine qs rfl rfl rfl rfl rfl rfl ?_|((try refine qg rfl rfl rfl ?_);first|refine QV QP ?_|refine QV (rr_lss (b := false) rfl rfl (decide_eq_false c)) ?_|refine QV QlT ?_|refine QV QlF ?_|refine QV (rr_load1 (v := .int .i64 t) TyC.ty rfl (hcell _)) ?_|refine QV (rr_geq (b := decide (t ≤ n)) rfl rfl rfl) ?_|refine QV QA ?_|refine QV QhT ?_|refine QV QhF ?_))
    exact E_ret1 rfl rfl fun w hm => hm.ret
theorem calm_no {g : Gram} (h : checkG g ≠ 0) : calmB g = false := by
  cases hc : calmB g with
  | false => rfl
  | true =>
    obtain ⟨T, N, Nx, S, hMd⟩ := calm_made hc
    exact absurd hMd.gram h
set_option maxRecDepth 100000 in
set_option maxHeartbeats 16000000 in
theorem walk (w : World) (v : Value) (g : Gram) (h : GraR (fun k => k < w.heap.size) w v g) (_ : g.prods.length * 32 ≤ 140737488351232) (vw : Value) (word : List Int) (hs : Sl w vw word.length (word.map (.int .i64))) (_ : ∀ n ∈ word, kit.okI64 n) (hl : word.length * 8 ≤ 140737488351232) :
    Calls Try.prog 7 #[v, vw] w (Meets (ret (.bool true)) w) := by
  have hA := fun w' (hg : Gr w w') => calm_calls v g w' (h.gr hg)
  have hAb := fun w' (hg : Gr w w') => able_calls v g w' (h.gr hg)
  have hAE := fun w' (hg : Gr w w') => ableE_calls v g w' (h.gr hg)
  have hOf := fun w' (hg : Gr w w') => of_calls v g w' (h.gr hg)
  have hOE := fun w' (hg : Gr w w') => ofE_calls v g w' (h.gr hg)
  have hC := fun vr W vw ll T N w' (hg : Gr w w') hr hs => climbed_calls v vr vw g ll T N W w' (h.gr hg) hr hs
  have hD := fun t W vw T N A G w' (hg : Gr w w') ht hs => built_calls v t vw g T N A G W w' (h.gr hg) ht hs
  obtain ⟨vp, rfl, -⟩ := h
  obtain ⟨bw, cw, rfl, hw1, hw2, hw3⟩ := hs
  have hco := fun w' (hg : Gr w w') gg (hb : w'.heap[gg]? = some (.cells (graV g.terms g.nons vp).cells 24 (0, 0))) => containsFuncIntS_calls (.slice bw word.length cw) word w' (Sl.gr ⟨bw, cw, rfl, hw1, hw2, by rw [flatI]; exact hw3⟩ hg) 32 #[] #[.pointer (some ⟨gg, 0, none⟩)] (outB g.terms) EntersC.en (fun a ha w'' hg' => alike1_calls g.terms g.nons vp a gg w'' (by rw [hg'.block gg (Array.getElem?_eq_some_iff.1 hb).1]; exact hb))
  refine enter (args := [graV g.terms g.nons vp, .slice bw word.length cw]) (n := 144) Try.func7 rfl rfl rfl ?_
  refine T_seq (T_region (TL_box rfl rfl rfl fun g2 => ?_))
  conv=>arg 8;simp only[zA,zB,zC,zD,zE,zF,zG,zH,zI,rowS,ret,id_eq]
  repeat(first|refine QV QP ?_|refine QZ ?_|refine qcT rfl ?_|refine qcF rfl ?_|refine qs rfl rfl rfl rfl rfl rfl ?_|((try refine qg rfl rfl rfl ?_);first|refine QV QP ?_|refine QV QL ?_|refine QV (rr_not rfl rfl) ?_|refine QV QgT ?_|refine QV QgF ?_|refine QV QeT ?_|refine QV QeF ?_|refine QV QnT ?_|refine QV QnF ?_|refine QV QA ?_))
  refine TL_call (he0 EntersC.en rfl) (fun w hm => brackets_calls w) rfl rfl rfl ?_
  rintro ⟨vb, F1⟩ _
  conv=>arg 8;simp only[zA,zB,zC,zD,zE,zF,zG,zH,zI,rowS,ret,id_eq, gramS]
  conv => arg 7; simp only [gramS]
  refine TL_call (he1 EntersC.en rfl rfl) (fun w' hm => calm_calls _ brkG w' (prodsO_gra ok2 ok1 (hm.get (i := 1) rfl))) rfl rfl rfl ?_
  rintro x _
  unfold calmS tabL
  rw [brk_calm, brk_outT]
  conv=>arg 8;simp only[zA,zB,zC,zD,zE,zF,zG,zH,zI,rowS,ret,id_eq]
  refine TL_know (i := 2) rfl (fun w h => row_slm w h) fun hrow => ?_
  obtain ⟨aA, cA, hvA, -⟩ := hrow
  refine TL_know (i := 4) rfl (fun w h => row_slm w h) fun hrow => ?_
  obtain ⟨aG, cG, hvG, -⟩ := hrow
  obtain ⟨vA, vas, FA, vG, vgs, FG⟩ := x
  dsimp only at hvA hvG ⊢
  subst hvA hvG
  repeat(first|refine QV QP ?_|refine QZ ?_|refine qcT rfl ?_|refine qcF rfl ?_|refine qs rfl rfl rfl rfl rfl rfl ?_|((try refine qg rfl rfl rfl ?_);first|refine QV QP ?_|refine QV QL ?_|refine QV (rr_not rfl rfl) ?_|refine QV QgT ?_|refine QV QgF ?_|refine QV QeT ?_|refine QV QeF ?_|refine QV QnT ?_|refine QV QnF ?_|refine QV QA ?_))
  refine TL_new rfl fun g5 => ?_
  conv=>arg 8;simp only[zA,zB,zC,zD,zE,zF,zG,zH,zI,rowS,ret,id_eq]
  refine TL_storeB (i := 6) rfl rfl rfl rfl rfl rfl ?_
  conv=>arg 8;simp only[zA,zB,zC,zD,zE,zF,zG,zH,zI,rowS,ret,id_eq]
  repeat(first|refine QV QP ?_|refine QZ ?_|refine qcT rfl ?_|refine qcF rfl ?_|refine qs rfl rfl rfl rfl rfl rfl ?_|((try refine qg rfl rfl rfl ?_);first|refine QV QP ?_|refine QV QL ?_|refine QV (rr_not rfl rfl) ?_|refine QV QgT ?_|refine QV QgF ?_|refine QV QeT ?_|refine QV QeF ?_|refine QV QnT ?_|refine QV QnF ?_|refine QV QA ?_))
  refine TL_call (he0 EntersC.en rfl) (fun w hm => brackets_calls w) rfl rfl rfl ?_
  rintro ⟨vb3, F3⟩ _
  conv=>arg 8;simp only[zA,zB,zC,zD,zE,zF,zG,zH,zI,rowS,ret,id_eq, gramS]
  conv => arg 7; simp only [gramS]
  refine TL_call (he1 EntersC.en rfl rfl) (fun w' hm => able_calls _ brkG w' (prodsO_gra ok2 ok1 (hm.get (i := 7) rfl)) brk_ll.1 2 1 rfl rfl) rfl rfl rfl ?_
  rintro ⟨gr0, vs0⟩ _
  unfold ableS
  rw [brk_ll.2.1]
  conv=>arg 8;simp only[zA,zB,zC,zD,zE,zF,zG,zH,zI,rowS,ret,id_eq]
  repeat(first|refine QV QP ?_|refine QZ ?_|refine qcT rfl ?_|refine qcF rfl ?_|refine qs rfl rfl rfl rfl rfl rfl ?_|((try refine qg rfl rfl rfl ?_);first|refine QV QP ?_|refine QV QL ?_|refine QV (rr_not rfl rfl) ?_|refine QV QgT ?_|refine QV QgF ?_|refine QV QeT ?_|refine QV QeF ?_|refine QV QnT ?_|refine QV QnF ?_|refine QV QA ?_))
  refine TL_call (he0 EntersC.en rfl) (fun w hm => brackets_calls w) rfl rfl rfl ?_
  rintro ⟨vb4, F4⟩ _
  conv=>arg 8;simp only[zA,zB,zC,zD,zE,zF,zG,zH,zI,rowS,ret,id_eq, gramS]
  conv => arg 7; simp only [gramS]
  repeat(first|refine QV QP ?_|refine QZ ?_|refine qcT rfl ?_|refine qcF rfl ?_|refine qs rfl rfl rfl rfl rfl rfl ?_|((try refine qg rfl rfl rfl ?_);first|refine QV QP ?_|refine QV QL ?_|refine QV (rr_not rfl rfl) ?_|refine QV QgT ?_|refine QV QgF ?_|refine QV QeT ?_|refine QV QeF ?_|refine QV QnT ?_|refine QV QnF ?_|refine QV QA ?_))
  refine TL_litV [.int .i64 0, .int .i64 1] rfl rfl rfl (by intro v hv; simp at hv; rcases hv with rfl | rfl <;> rfl) rfl rfl fun g35 => ?_
  conv=>arg 8;simp only[zA,zB,zC,zD,zE,zF,zG,zH,zI,rowS,ret,id_eq]
  refine TL_toRow (i := 11) (m := 2) 1 rfl rfl (by omega) ?_
  conv=>arg 8;simp only[zA,zB,zC,zD,zE,zF,zG,zH,zI,rowS,ret,id_eq]
  refine TL_call (he3 EntersC.en rfl rfl rfl rfl) (fun w' hm => climbed_calls _ _ _ brkG (rowsL brkG 2 1) 2 1 [0, 1] w' (prodsO_gra ok2 ok1 (hm.get (i := 10) rfl)) (rows_slf (by decide) (by decide) (hm.get (i := 8) rfl) (hm.get (i := 9) rfl)) (Sl.of_own (hm.get (i := 11) rfl)) (chk_rows brk_ll.1 rfl rfl) brk_ll.1 (tab_ok rfl rfl) (by decide) (by decide)) rfl rfl rfl ?_
  intro vo1 _
  conv=>arg 8;simp only[zA,zB,zC,zD,zE,zF,zG,zH,zI,rowS,ret,id_eq, climbedS]
  conv => arg 7; simp only [climbedS]
  rw [brk_ll.2.2]
  obtain ⟨c1, c2⟩ := brk_cl
  generalize runF brkG.prods (fun n col => nxL [[1, 0, 0]] col n) 2 [0, 1] [.sym (2, 0)] 0 [] = R1 at *
  obtain ⟨l1, r1⟩ := R1
  dsimp only at c1 c2
  subst c1
  dsimp only
  repeat(first|refine QV QP ?_|refine QZ ?_|refine qcT rfl ?_|refine qcF rfl ?_|refine qs rfl rfl rfl rfl rfl rfl ?_|((try refine qg rfl rfl rfl ?_);first|refine QV QP ?_|refine QV QL ?_|refine QV (rr_not rfl rfl) ?_|refine QV QgT ?_|refine QV QgF ?_|refine QV QeT ?_|refine QV QeF ?_|refine QV QnT ?_|refine QV QnF ?_|refine QV QA ?_))
  refine T_ord ([blkO g5 #[.slice aA (actTab brkP 2 brkNx brkSt 10).length cA, .slice aG (gotoTab 2 brkNx 10).length cG] 29]) (.calm 1 (.two 0 (.one 2 (.one 3 (.calm 4 (.calm 5 (.calm 6 (.calm 7 (.calm 8 (.calm 9 (.calm 10 (.done)))))))))) 2 (.one 0 (.one 3 (.calm 4 (.calm 5 (.calm 6 (.calm 7 (.calm 8 (.calm 9 (.calm 10 (.done)))))))))))) (sub_pick [6] (by decide) rfl) (by kernel_rfl) (by kernel_rfl) (by intro c a d v w h; cases d <;> exact h) ?_
  repeat(first|((first|refine TW_plain rfl rfl ?_|refine TW_gmet rfl rfl rfl rfl ?_);first|refine QW QP ?_|refine QW (rr_loadB (i := 0) TyC.ty rfl rfl rfl) ?_|refine QW QL ?_|refine QW (rr_not rfl rfl) ?_|refine QW QgT ?_|refine QW QgF ?_|refine QW QeT ?_|refine QW QeF ?_|refine QW QnT ?_|refine QW QnF ?_|refine QW QA ?_)|refine TW_skip rfl rfl rfl rfl rfl rfl rfl ?_|refine TW_done ?_)
  refine TW_two rfl rfl ?bs1 ?bs2
  case' bs1 =>
    refine TL_call (he0 EntersC.en rfl) (fun w hm => brackets_calls w) rfl rfl rfl ?_
    rintro ⟨vb2, F2⟩ _
    conv=>arg 8;simp only[zA,zB,zC,zD,zE,zF,zG,zH,zI,rowS,ret,id_eq, gramS]
    conv => arg 7; simp only [gramS]
    refine TW_on (sub_pick [6] (by decide) rfl) ?_
    refine TW_one rfl (TL_litV [.int .i64 0, .int .i64 1] rfl rfl rfl (by intro v hv; simp at hv; rcases hv with rfl | rfl <;> rfl) rfl rfl fun g24 => ?_)
    conv=>arg 8;simp only[zA,zB,zC,zD,zE,zF,zG,zH,zI,rowS,ret,id_eq]
    refine TL_toRow (i := 14) (m := 2) 1 rfl rfl (by omega) ?_
    conv=>arg 8;simp only[zA,zB,zC,zD,zE,zF,zG,zH,zI,rowS,ret,id_eq]
    refine TW_on (sub_pick [6] (by decide) rfl) ?_
    refine TW_one rfl (TL_call (he3 EntersC.en rfl rfl rfl rfl) (fun w hm => built_calls _ _ _ brkG 2 1 _ _ [0, 1] w (prodsO_gra ok2 ok1 (hm.get (i := 13) rfl)) (tabR_of (x := ⟨_, vas, FA, _, vgs, FG⟩) (hm.get (i := 2) rfl) (hm.get (i := 3) rfl) (hm.get (i := 4) rfl) (hm.get (i := 5) rfl)) (Sl.of_own (hm.get (i := 14) rfl)) brk_tab (by decide) (by decide)) rfl rfl rfl ?_)
  case' bs2 =>
    refine TL_litV [.int .i64 0, .int .i64 1] rfl rfl rfl (by intro v hv; simp at hv; rcases hv with rfl | rfl <;> rfl) rfl rfl fun g24 => ?_
    conv=>arg 8;simp only[zA,zB,zC,zD,zE,zF,zG,zH,zI,rowS,ret,id_eq]
    refine TL_toRow (i := 13) (m := 2) 1 rfl rfl (by omega) ?_
    conv=>arg 8;simp only[zA,zB,zC,zD,zE,zF,zG,zH,zI,rowS,ret,id_eq]
    refine TW_on (sub_pick [6] (by decide) rfl) ?_
    refine TW_one rfl (TL_call (he0 EntersC.en rfl) (fun w hm => brackets_calls w) rfl rfl rfl ?_)
    rintro ⟨vb2, F2⟩ _
    conv=>arg 8;simp only[zA,zB,zC,zD,zE,zF,zG,zH,zI,rowS,ret,id_eq, gramS]
    conv => arg 7; simp only [gramS]
    refine TW_on (sub_pick [6] (by decide) rfl) ?_
    refine TW_one rfl (TL_call (he3 EntersC.en rfl rfl rfl rfl) (fun w hm => built_calls _ _ _ brkG 2 1 _ _ [0, 1] w (prodsO_gra ok2 ok1 (hm.get (i := 14) rfl)) (tabR_of (x := ⟨_, vas, FA, _, vgs, FG⟩) (hm.get (i := 2) rfl) (hm.get (i := 3) rfl) (hm.get (i := 4) rfl) (hm.get (i := 5) rfl)) (Sl.of_own (hm.get (i := 13) rfl)) brk_tab (by decide) (by decide)) rfl rfl rfl ?_)
  all_goals
    intro vo _
    conv=>arg 8;simp only[zA,zB,zC,zD,zE,zF,zG,zH,zI,rowS,ret,id_eq, climbedS]
    conv => arg 7; simp only [climbedS]
    obtain ⟨b1, b2⟩ := brk_run
    generalize bRun brkG.prods (actT (actTab brkP 2 brkNx brkSt 10)) (gotoT (gotoTab 2 brkNx 10)) 2 [0, 1] [0] 0 [] = R0 at *
    obtain ⟨l0, r0⟩ := R0
    dsimp only at b1 b2
    subst b1
    dsimp only
    refine TW_on (sub_pick [6] (by decide) rfl) ?_
    repeat(first|((first|refine TW_plain rfl rfl ?_|refine TW_gmet rfl rfl rfl rfl ?_);first|refine QW QP ?_|refine QW QL ?_|refine QW (rr_not rfl rfl) ?_|refine QW QgT ?_|refine QW QgF ?_|refine QW QeT ?_|refine QW QeF ?_|refine QW QnT ?_|refine QW QnF ?_|refine QW QA ?_)|refine TW_skip rfl rfl rfl rfl rfl rfl rfl ?_|refine TW_done ?_)
    repeat(first|refine QV QP ?_|refine QZ ?_|refine qcT rfl ?_|refine qcF rfl ?_|refine qs rfl rfl rfl rfl rfl rfl ?_|((try refine qg rfl rfl rfl ?_);first|refine QV QP ?_|refine QV (rr_rowlen (i := 12) Und.eq rfl rfl) ?_|refine QV (rr_rowlen (i := 15) Und.eq rfl rfl) ?_|refine QV (rr_neq (b := false) rfl rfl (decide_eq_false (by omega))) ?_|refine QV QL ?_|refine QV (rr_not rfl rfl) ?_|refine QV QgT ?_|refine QV QgF ?_|refine QV QeT ?_|refine QV QeF ?_|refine QV QnT ?_|refine QV QnF ?_|refine QV QA ?_))
    refine TL_pick [0, 6] (by decide) rfl ?_
    clear b2 c2
    by_cases c0 : checkG g = 0
    · obtain ⟨a1, a2, a3, a4, a5, a6⟩ := checkG_ok c0
      obtain ⟨T, hT'⟩ : ∃ T : Nat, g.terms = T := ⟨g.terms.toNat, by omega⟩
      obtain ⟨N, hN⟩ : ∃ N : Nat, g.nons = N := ⟨g.nons.toNat, by omega⟩
      have hAb := fun w' hg => hAb w' hg c0 T N hT' hN
      have hOf := fun w' hg => hOf w' hg c0 N hN
      obtain ⟨⟨_, _, hMl⟩, hS2⟩ := sound_of c0 hN
      clear hAE hOE
      repeat(first|refine QV QP ?_|refine QZ ?_|refine qcT rfl ?_|refine qcF rfl ?_|refine qs rfl rfl rfl rfl rfl rfl ?_|((try refine qg rfl rfl rfl ?_);first|refine QV QP ?_|refine QV (rr_loadB (i := 0) TyC.ty rfl rfl rfl) ?_|refine QV QL ?_|refine QV (rr_not rfl rfl) ?_|refine QV QgT ?_|refine QV QgF ?_|refine QV QeT ?_|refine QV QeF ?_|refine QV QnT ?_|refine QV QnF ?_|refine QV QA ?_))
      refine TL_call (he1 EntersC.en rfl rfl) (fun w' hm => hAb w' hm.below) rfl rfl rfl ?_
      rintro ⟨gr2, vs2⟩ _
      unfold ableS
      conv=>arg 8;simp only[zA,zB,zC,zD,zE,zF,zG,zH,zI,rowS,ret,id_eq]
      repeat(first|refine QV QP ?_|refine QZ ?_|refine qcT rfl ?_|refine qcF rfl ?_|refine qs rfl rfl rfl rfl rfl rfl ?_|((try refine qg rfl rfl rfl ?_);first|refine QV QP ?_|refine QV (rr_loadB (i := 0) TyC.ty rfl rfl rfl) ?_|refine QV QL ?_|refine QV (rr_not rfl rfl) ?_|refine QV QgT ?_|refine QV QgF ?_|refine QV QeT ?_|refine QV QeF ?_|refine QV QnT ?_|refine QV QnF ?_|refine QV QA ?_))
      refine TL_call (he1 EntersC.en rfl rfl) (fun w' hm => hA w' hm.below) rfl rfl rfl ?_
      rintro x2 _
      unfold calmS tabL
      conv=>arg 8;simp only[zA,zB,zC,zD,zE,zF,zG,zH,zI,rowS,ret,id_eq]
      refine TL_know (i := 4) rfl (fun w h => row_slm w h) fun hrow => ?_
      obtain ⟨aA2, cA2, hvA2, -⟩ := hrow
      refine TL_know (i := 6) rfl (fun w h => row_slm w h) fun hrow => ?_
      obtain ⟨aG2, cG2, hvG2, -⟩ := hrow
      obtain ⟨vA2, vas2, FA2, vG2, vgs2, FG2⟩ := x2
      dsimp only at hvA2 hvG2 ⊢
      subst hvA2 hvG2
      repeat(first|refine QV QP ?_|refine QZ ?_|refine qcT rfl ?_|refine qcF rfl ?_|refine qs rfl rfl rfl rfl rfl rfl ?_|((try refine qg rfl rfl rfl ?_);first|refine QV QP ?_|refine QV QL ?_|refine QV (rr_not rfl rfl) ?_|refine QV QgT ?_|refine QV QgF ?_|refine QV QeT ?_|refine QV QeF ?_|refine QV QnT ?_|refine QV QnF ?_|refine QV QA ?_))
      refine TL_storeB (i := 1) rfl rfl rfl rfl rfl rfl ?_
      conv=>arg 8;simp only[zA,zB,zC,zD,zE,zF,zG,zH,zI,rowS,ret,id_eq]
      repeat(first|refine QV QP ?_|refine QZ ?_|refine qcT rfl ?_|refine qcF rfl ?_|refine qs rfl rfl rfl rfl rfl rfl ?_|((try refine qg rfl rfl rfl ?_);first|refine QV QP ?_|refine QV (rr_loadB (i := 0) TyC.ty rfl rfl rfl) ?_|refine QV QL ?_|refine QV (rr_not rfl rfl) ?_|refine QV QgT ?_|refine QV QgF ?_|refine QV QeT ?_|refine QV QeF ?_|refine QV QnT ?_|refine QV QnF ?_|refine QV QA ?_))
      refine TL_call (he1 EntersC.en rfl rfl) (fun w' hm => (hOf w' hm.below).mono fun e w2 h => meets_of h) rfl rfl rfl ?_
      intro x5 _
      conv=>arg 8;simp only[zA,zB,zC,zD,zE,zF,zG,zH,zI,rowS,ret,id_eq, Rows5.val]
      repeat(first|refine QV QP ?_|refine QZ ?_|refine qcT rfl ?_|refine qcF rfl ?_|refine qs rfl rfl rfl rfl rfl rfl ?_|((try refine qg rfl rfl rfl ?_);first|refine QV QP ?_|refine QV QL ?_|refine QV (rr_not rfl rfl) ?_|refine QV QgT ?_|refine QV QgF ?_|refine QV QeT ?_|refine QV QeF ?_|refine QV QnT ?_|refine QV QnF ?_|refine QV QA ?_))
      refine TL_new rfl fun g15 => ?_
      refine TL_storeB (i := 13) rfl rfl rfl rfl rfl rfl ?_
      conv=>arg 8;simp only[zA,zB,zC,zD,zE,zF,zG,zH,zI,rowS,ret,id_eq]
      clear hA hAb hOf
      cases hc : calmB g with
      | false =>
        repeat(first|refine QV QP ?_|refine QZ ?_|refine qcT rfl ?_|refine qcF rfl ?_|refine qs rfl rfl rfl rfl rfl rfl ?_|((try refine qg rfl rfl rfl ?_);first|refine QV QP ?_|refine QV QL ?_|refine QV (rr_not rfl rfl) ?_|refine QV QgT ?_|refine QV QgF ?_|refine QV QeT ?_|refine QV QeF ?_|refine QV QnT ?_|refine QV QnF ?_|refine QV QA ?_))
        exact E_ret1 rfl rfl fun w hm => hm.ret
      | true =>
      cases hf : freeL g.prods (mayG N g.prods) T N with
      | false =>
        repeat(first|refine QV QP ?_|refine QZ ?_|refine qcT rfl ?_|refine qcF rfl ?_|refine qs rfl rfl rfl rfl rfl rfl ?_|((try refine qg rfl rfl rfl ?_);first|refine QV QP ?_|refine QV QL ?_|refine QV (rr_not rfl rfl) ?_|refine QV QgT ?_|refine QV QgF ?_|refine QV QeT ?_|refine QV QeF ?_|refine QV QnT ?_|refine QV QnF ?_|refine QV QA ?_))
        exact E_ret1 rfl rfl fun w hm => hm.ret
      | true =>
      have hMM : (ofS N g.prods).M.any (· == false) = false → ∀ i : Nat, i < N → ∃ ws, Der g.prods (2, (i : Int)) ws := fun hM i hi => by
        refine hS2.2 i ?_
        have hi2 : i < (ofS N g.prods).M.length := by rw [hMl]; exact hi
        rw [List.getD_eq_getElem?_getD, List.getElem?_eq_getElem hi2]
        rw [List.any_eq_false] at hM
        have := hM _ (List.getElem_mem hi2)
        show (ofS N g.prods).M[i] = true
        cases hb : (ofS N g.prods).M[i] with
        | true => rfl
        | false => rw [hb] at this; exact absurd rfl this
      clear hS2
      generalize (ofS N g.prods).M = M at *
      repeat(first|refine QV QP ?_|refine QZ ?_|refine qcT rfl ?_|refine qcF rfl ?_|refine qs rfl rfl rfl rfl rfl rfl ?_|((try refine qg rfl rfl rfl ?_);first|refine QV QP ?_|refine QV (rr_load1 TyC.ty rfl (at_blk (i := 13) rfl rfl)) ?_|refine QV QL ?_|refine QV (rr_not rfl rfl) ?_|refine QV QgT ?_|refine QV QgF ?_|refine QV QeT ?_|refine QV QeF ?_|refine QV QnT ?_|refine QV QnF ?_|refine QV QA ?_))
      refine TL_gcall (he2 EntersC.en rfl rfl rfl) (fun w' hm => containsBool_calls _ M false w' (by have := Sl.of_own (hm.get (i := 12) rfl); rw [hMl]; exact this)) rfl rfl rfl rfl rfl ?_
      intro _ _
      conv=>arg 8;simp only[zA,zB,zC,zD,zE,zF,zG,zH,zI,rowS,ret,id_eq]
      cases hany : M.any (· == false) with
      | true =>
        repeat(first|refine QV QP ?_|refine QZ ?_|refine qcT rfl ?_|refine qcF rfl ?_|refine qs rfl rfl rfl rfl rfl rfl ?_|((try refine qg rfl rfl rfl ?_);first|refine QV QP ?_|refine QV QL ?_|refine QV (rr_not rfl rfl) ?_|refine QV QgT ?_|refine QV QgF ?_|refine QV QeT ?_|refine QV QeF ?_|refine QV QnT ?_|refine QV QnF ?_|refine QV QA ?_))
        exact E_ret1 rfl rfl fun w hm => hm.ret
      | false =>
      have hMM := hMM hany
      repeat(first|refine QV QP ?_|refine QZ ?_|refine qcT rfl ?_|refine qcF rfl ?_|refine qs rfl rfl rfl rfl rfl rfl ?_|((try refine qg rfl rfl rfl ?_);first|refine QV QP ?_|refine QV QL ?_|refine QV (rr_not rfl rfl) ?_|refine QV QgT ?_|refine QV QgF ?_|refine QV QeT ?_|refine QV QeF ?_|refine QV QnT ?_|refine QV QnF ?_|refine QV (rr_func rfl rfl) ?_|refine QV QA ?_))
      refine TL_gcall (he2 EntersC.en rfl rfl rfl) (fun w' hm => hco w' hm.below _ (hm.get (i := 0) rfl)) rfl rfl rfl rfl rfl ?_
      intro _ _
      conv=>arg 8;simp only[zA,zB,zC,zD,zE,zF,zG,zH,zI,rowS,ret,id_eq]
      cases hout : word.any (outB g.terms) with
      | true =>
        repeat(first|refine QV QP ?_|refine QZ ?_|refine qcT rfl ?_|refine qcF rfl ?_|refine qs rfl rfl rfl rfl rfl rfl ?_|((try refine qg rfl rfl rfl ?_);first|refine QV QP ?_|refine QV QL ?_|refine QV (rr_not rfl rfl) ?_|refine QV QgT ?_|refine QV QgF ?_|refine QV QeT ?_|refine QV QeF ?_|refine QV QnT ?_|refine QV QnF ?_|refine QV QA ?_))
        exact E_ret1 rfl rfl fun w hm => hm.ret
      | false =>
      have hWr : ∀ x ∈ word, 0 ≤ x ∧ x < (T : Int) := fun x hx => by
        rw [List.any_eq_false] at hout
        have := hout x hx
        unfold outB at this
        simp only [Bool.or_eq_true, decide_eq_true_eq, not_or] at this
        omega
      obtain ⟨T', N', Nx, S, hMd⟩ := calm_made hc
      obtain rfl : T' = T := by have := hMd.terms; omega
      obtain rfl : N' = N := by have := hMd.nons; omega
      rw [hMd.acts, hMd.gos]
      have htab := hMd.tab
      have hboth := fun W hW => both_alike hMd hc hf hMM (W := W) hW
      unfold cR bR at hboth
      clear hMd hMM hout hco
      generalize actTab g.prods T' Nx S S.length = A2 at *
      generalize gotoTab T' Nx S.length = G2 at *
      by_cases c6 : word.length ≤ 60
      case' pos =>
        obtain ⟨W, e1, e2, e3, e4⟩ : ∃ W : List Int, W.length = word.length ∧ (∀ w', Gr w w' → Sl w' (.slice bw W.length cw) W.length (W.map (.int .i64))) ∧ W.length ≤ 60 ∧ ∀ x ∈ W, 0 ≤ x ∧ x < (T' : Int) := ⟨word, rfl, fun w' hg => Sl.gr ⟨bw, cw, rfl, hw1, hw2, hw3⟩ hg, c6, hWr⟩
        repeat(first|refine QV QP ?_|refine QZ ?_|refine qcT rfl ?_|refine qcF rfl ?_|refine qs rfl rfl rfl rfl rfl rfl ?_|((try refine qg rfl rfl rfl ?_);first|refine QV QP ?_|refine QV (rr_len Und.eq rfl) ?_|refine QV (rr_gtr (b := false) rfl rfl (decide_eq_false (by omega))) ?_|refine QV QL ?_|refine QV (rr_not rfl rfl) ?_|refine QV QgT ?_|refine QV QgF ?_|refine QV QeT ?_|refine QV QeF ?_|refine QV QnT ?_|refine QV QnF ?_|refine QV QA ?_))
        rw [← e1]
      case' neg =>
        obtain ⟨W, e1, e2, e3, e4⟩ : ∃ W : List Int, W.length = 60 ∧ (∀ w', Gr w w' → Sl w' (.slice bw W.length cw) W.length (W.map (.int .i64))) ∧ W.length ≤ 60 ∧ ∀ x ∈ W, 0 ≤ x ∧ x < (T' : Int) := by
          have hl6 : (word.take 60).length = 60 := by rw [List.length_take]; omega
          refine ⟨word.take 60, hl6, fun w' hg => ?_, by omega, fun x hx => hWr x (List.mem_of_mem_take hx)⟩
          have := sl_upto (Sl.gr ⟨bw, cw, rfl, hw1, hw2, hw3⟩ hg) (k := 60) (by omega)
          rw [hl6] at this ⊢
          exact this
        repeat(first|refine QV QP ?_|refine QZ ?_|refine qcT rfl ?_|refine qcF rfl ?_|refine qs rfl rfl rfl rfl rfl rfl ?_|((try refine qg rfl rfl rfl ?_);first|refine QV QP ?_|refine QV (rr_len Und.eq rfl) ?_|refine QV (rr_gtr (b := true) rfl rfl (decide_eq_true (by omega))) ?_|refine QV (rr_slpre (j := W.length) Und.eq TyC.ty rfl (by show some (Value.int .i64 60) = _; rw [e1]; rfl) (by omega)) ?_|refine QV QL ?_|refine QV (rr_not rfl rfl) ?_|refine QV QgT ?_|refine QV QgF ?_|refine QV QeT ?_|refine QV QeF ?_|refine QV QnT ?_|refine QV QnF ?_|refine QV QA ?_))
      all_goals
        have hboth := hboth W e4
        repeat(first|refine QV QP ?_|refine QZ ?_|refine qcT rfl ?_|refine qcF rfl ?_|refine qs rfl rfl rfl rfl rfl rfl ?_|((try refine qg rfl rfl rfl ?_);first|refine QV QP ?_|refine QV (rr_loadB (i := 0) TyC.ty rfl rfl rfl) ?_|refine QV QL ?_|refine QV (rr_not rfl rfl) ?_|refine QV QgT ?_|refine QV QgF ?_|refine QV QeT ?_|refine QV QeF ?_|refine QV QnT ?_|refine QV QnF ?_|refine QV QA ?_))
        refine TL_call (he3 EntersC.en rfl rfl rfl rfl) (fun w' hm => hC _ W _ (rowsL g T' N') T' N' w' hm.below (rows_slf (by omega) (by omega) (hm.get (i := 2) rfl) (hm.get (i := 3) rfl)) (e2 w' hm.below) (chk_rows c0 hT' hN) c0 (tab_ok hT' hN) e4 (by omega)) rfl rfl rfl ?_
        intro v1 _
        conv=>arg 8;simp only[zA,zB,zC,zD,zE,zF,zG,zH,zI,rowS,ret,id_eq, climbedS]
        conv => arg 7; simp only [climbedS]
        rw [run_eq c0 hN e4]
        repeat(first|refine QV QP ?_|refine QZ ?_|refine qcT rfl ?_|refine qcF rfl ?_|refine qs rfl rfl rfl rfl rfl rfl ?_|((try refine qg rfl rfl rfl ?_);first|refine QV QP ?_|refine QV (rr_loadB (i := 0) TyC.ty rfl rfl rfl) ?_|refine QV (rr_loadB (i := 1) TyC.ty rfl rfl rfl) ?_|refine QV QL ?_|refine QV (rr_not rfl rfl) ?_|refine QV QgT ?_|refine QV QgF ?_|refine QV QeT ?_|refine QV QeF ?_|refine QV QnT ?_|refine QV QnF ?_|refine QV QA ?_))
        refine TL_call (he3 EntersC.en rfl rfl rfl rfl) (fun w' hm => hD _ W _ T' N' A2 G2 w' hm.below (tabR_of (x := ⟨_, vas2, FA2, _, vgs2, FG2⟩) (hm.get (i := 4) rfl) (hm.get (i := 5) rfl) (hm.get (i := 6) rfl) (hm.get (i := 7) rfl)) (e2 w' hm.below) htab e4 (by omega)) rfl rfl rfl ?_
        intro v2 _
        conv=>arg 8;simp only[zA,zB,zC,zD,zE,zF,zG,zH,zI,rowS,ret,id_eq, climbedS]
        conv => arg 7; simp only [climbedS]
        clear hC hD
        generalize runF g.prods (nxC g T' N') T' W [.sym (2, 0)] 0 [] = R1 at *
        generalize bRun g.prods (actT A2) (gotoT G2) T' W [0] 0 [] = R2 at *
        obtain ⟨l1, had1, k1⟩ := R1
        obtain ⟨l2, had2, k2⟩ := R2
        dsimp only at hboth ⊢
        by_cases d1 : k1 = 14
        · repeat(first|refine QV QP ?_|refine QZ ?_|refine qcT rfl ?_|refine qcF rfl ?_|refine qs rfl rfl rfl rfl rfl rfl ?_|((try refine qg rfl rfl rfl ?_);first|refine QV QP ?_|refine QV (rr_eql (b := true) rfl rfl (decide_eq_true d1)) ?_|refine QV QL ?_|refine QV (rr_not rfl rfl) ?_|refine QV QgT ?_|refine QV QgF ?_|refine QV QeT ?_|refine QV QeF ?_|refine QV QnT ?_|refine QV QnF ?_|refine QV QA ?_))
          exact E_ret1 rfl rfl fun w hm => hm.ret
        by_cases d2 : k2 = 14
        · repeat(first|refine QV QP ?_|refine QZ ?_|refine qcT rfl ?_|refine qcF rfl ?_|refine qs rfl rfl rfl rfl rfl rfl ?_|((try refine qg rfl rfl rfl ?_);first|refine QV QP ?_|refine QV (rr_eql (b := false) rfl rfl (decide_eq_false d1)) ?_|refine QV (rr_eql (b := true) rfl rfl (decide_eq_true d2)) ?_|refine QV QL ?_|refine QV (rr_not rfl rfl) ?_|refine QV QgT ?_|refine QV QgF ?_|refine QV QeT ?_|refine QV QeF ?_|refine QV QnT ?_|refine QV QnF ?_|refine QV QA ?_))
          exact E_ret1 rfl rfl fun w hm => hm.ret
        obtain ⟨d3, d4⟩ : had1 = had2 ∧ k1 = k2 := by
          rcases hboth with h | h | h
          · exact absurd h d1
          · exact absurd h d2
          · exact h
        subst d3 d4
        repeat(first|refine QV QP ?_|refine QZ ?_|refine qcT rfl ?_|refine qcF rfl ?_|refine qs rfl rfl rfl rfl rfl rfl ?_|((try refine qg rfl rfl rfl ?_);first|refine QV QP ?_|refine QV (rr_eql (b := false) rfl rfl (decide_eq_false d1)) ?_|refine QV (rr_eql (b := true) rfl rfl (decide_eq_true rfl)) ?_|refine QV QL ?_|refine QV (rr_not rfl rfl) ?_|refine QV QgT ?_|refine QV QgF ?_|refine QV QeT ?_|refine QV QeF ?_|refine QV QnT ?_|refine QV QnF ?_|refine QV QA ?_))
        exact E_ret1 rfl rfl fun w hm => hm.ret
    · have hcn := calm_no c0
      have hAE := fun w' hg => hAE w' hg c0
      have hOE := fun w' hg => hOE w' hg c0
      repeat(first|refine QV QP ?_|refine QZ ?_|refine qcT rfl ?_|refine qcF rfl ?_|refine qs rfl rfl rfl rfl rfl rfl ?_|((try refine qg rfl rfl rfl ?_);first|refine QV QP ?_|refine QV (rr_loadB (i := 0) TyC.ty rfl rfl rfl) ?_|refine QV QL ?_|refine QV (rr_not rfl rfl) ?_|refine QV QgT ?_|refine QV QgF ?_|refine QV QeT ?_|refine QV QeF ?_|refine QV QnT ?_|refine QV QnF ?_|refine QV QA ?_))
      refine TL_call (he1 EntersC.en rfl rfl) (fun w hm => hAE _ hm.below) rfl rfl rfl ?_
      intro _ _
      conv=>arg 8;simp only[zA,zB,zC,zD,zE,zF,zG,zH,zI,rowS,ret,id_eq]
      repeat(first|refine QV QP ?_|refine QZ ?_|refine qcT rfl ?_|refine qcF rfl ?_|refine qs rfl rfl rfl rfl rfl rfl ?_|((try refine qg rfl rfl rfl ?_);first|refine QV QP ?_|refine QV (rr_loadB (i := 0) TyC.ty rfl rfl rfl) ?_|refine QV QL ?_|refine QV (rr_not rfl rfl) ?_|refine QV QgT ?_|refine QV QgF ?_|refine QV QeT ?_|refine QV QeF ?_|refine QV QnT ?_|refine QV QnF ?_|refine QV QA ?_))
      refine TL_call (he1 EntersC.en rfl rfl) (fun w' hm => hA w' hm.below) rfl rfl rfl ?_
      rintro x2 _
      unfold calmS tabL
      rw [hcn]
      generalize outT g = R at *
      conv=>arg 8;simp only[zA,zB,zC,zD,zE,zF,zG,zH,zI,rowS,ret,id_eq]
      refine TL_know (i := 2) rfl (fun w h => row_slm w h) fun hrow => ?_
      obtain ⟨aA2, cA2, hvA2, -⟩ := hrow
      refine TL_know (i := 4) rfl (fun w h => row_slm w h) fun hrow => ?_
      obtain ⟨aG2, cG2, hvG2, -⟩ := hrow
      obtain ⟨vA2, vas2, FA2, vG2, vgs2, FG2⟩ := x2
      dsimp only at hvA2 hvG2 ⊢
      subst hvA2 hvG2
      repeat(first|refine QV QP ?_|refine QZ ?_|refine qcT rfl ?_|refine qcF rfl ?_|refine qs rfl rfl rfl rfl rfl rfl ?_|((try refine qg rfl rfl rfl ?_);first|refine QV QP ?_|refine QV QL ?_|refine QV (rr_not rfl rfl) ?_|refine QV QgT ?_|refine QV QgF ?_|refine QV QeT ?_|refine QV QeF ?_|refine QV QnT ?_|refine QV QnF ?_|refine QV QA ?_))
      refine TL_storeB (i := 1) rfl rfl rfl rfl rfl rfl ?_
      conv=>arg 8;simp only[zA,zB,zC,zD,zE,zF,zG,zH,zI,rowS,ret,id_eq]
      repeat(first|refine QV QP ?_|refine QZ ?_|refine qcT rfl ?_|refine qcF rfl ?_|refine qs rfl rfl rfl rfl rfl rfl ?_|((try refine qg rfl rfl rfl ?_);first|refine QV QP ?_|refine QV (rr_loadB (i := 0) TyC.ty rfl rfl rfl) ?_|refine QV QL ?_|refine QV (rr_not rfl rfl) ?_|refine QV QgT ?_|refine QV QgF ?_|refine QV QeT ?_|refine QV QeF ?_|refine QV QnT ?_|refine QV QnF ?_|refine QV QA ?_))
      refine TL_call (he1 EntersC.en rfl rfl) (fun w hm => hOE _ hm.below) rfl rfl rfl ?_
      intro _ _
      conv=>arg 8;simp only[zA,zB,zC,zD,zE,zF,zG,zH,zI,rowS,ret,id_eq]
      repeat(first|refine QV QP ?_|refine QZ ?_|refine qcT rfl ?_|refine qcF rfl ?_|refine qs rfl rfl rfl rfl rfl rfl ?_|((try refine qg rfl rfl rfl ?_);first|refine QV QP ?_|refine QV QL ?_|refine QV (rr_not rfl rfl) ?_|refine QV QgT ?_|refine QV QgF ?_|refine QV QeT ?_|refine QV QeF ?_|refine QV QnT ?_|refine QV QnF ?_|refine QV QA ?_))
      refine TL_new rfl fun g15 => ?_
      refine TL_storeB (i := 6) rfl rfl rfl rfl rfl rfl ?_
      conv=>arg 8;simp only[zA,zB,zC,zD,zE,zF,zG,zH,zI,rowS,ret,id_eq]
      repeat(first|refine QV QP ?_|refine QZ ?_|refine qcT rfl ?_|refine qcF rfl ?_|refine qs rfl rfl rfl rfl rfl rfl ?_|((try refine qg rfl rfl rfl ?_);first|refine QV QP ?_|refine QV QL ?_|refine QV (rr_not rfl rfl) ?_|refine QV QgT ?_|refine QV QgF ?_|refine QV QeT ?_|refine QV QeF ?_|refine QV QnT ?_|refine QV QnF ?_|refine QV QA ?_))
      exact E_ret1 rfl rfl fun w hm => hm.ret
end Go.Proofs.Ytlojfbnimmdehaa.buildAlike

