/- Part 6 of what BuildParses needs: LrC, LrM, LrN, ClimbL, Opens, BeginL, ClimbM, LrP, LrT, ClimbO, IntS, BuA, BuB, ClimbE, BuC, BuD, BuP, EachF, EvT, DownUp, EvP, EvQ, CountE, ReadD. -/
import Derived.Test.YtlojfbnimmdehaaMgE
import Derived.WalkKit
import Derived.WalkSpells
import Derived.WalkLawsBesides
import Derived.Deep.RegionLaw
import Derived.Deep.AppendLies
import Derived.Deep.QuietTactic
import Derived.BigQuiet
import Derived.Deep.DeepCutAuto
import Derived.Lib.Hide
import Derived.Test.YtlojfbnimmdehaaRows
import Derived.ProofKit
import Derived.OpenShut
import Derived.ShutString
import Derived.SizedLaws
import Derived.JoinedCond
import Derived.Deep.CondSized
import Derived.Deep.Quiet
import Derived.StillTail
import Derived.Deep.LoopGhost
import Derived.Laws.BitsLemmas
import Derived.Laws.BytesString
import Derived.Test.YtlojfbnimmdehaaProg
import Derived.Laws.StructEq
import Derived.Laws.MakeOwn
import Derived.Laws.AppendOwn
import Derived.Laws.Entries
import Derived.Maps.OwnSet
import Derived.DeepKeys4
import Derived.WideKeyEntry
import Derived.Sort.Grow
import Derived.Lib.Walk
import Derived.Deep.RegionWith
import Derived.Deep.RegionHeld
import Derived.StringKeys
import Derived.Laws.BitsAllLaws
import Derived.Shelf.SlGeneric
import Derived.Shelf.SlSortCmp.NoneTotal
import Derived.Ground.SlsfProg
/- LrC -/
namespace Go.Proofs.Ytlojfbnimmdehaa.eng
open Go.RowKit kit mix gramL treeL factsL itemL smallL
/-- a table that can be read -/
def TabR (w : World) (t : Value) (A : List (List itemL.Act)) (G : List (List Int)) : Prop := ∃ vA vG, t = .agg #[vA, vG] ∧ SlF (sliceS actS) (fun k => k < w.heap.size) w vA A ∧ SlF (sliceS intS) (fun k => k < w.heap.size) w vG G
theorem TabR.gr {w w' : World} {t : Value} {A : List (List itemL.Act)} {G : List (List Int)} (h : TabR w t A G) (hg : Gr w w') : TabR w' t A G := let ⟨a, b, h1, h2, h3⟩ := h; ⟨a, b, h1, h2.gr hg, h3.gr hg⟩
theorem tabR_of {w : World} {x : TabX} {A : List (List itemL.Act)} {G : List (List Int)} (h1 : (rowO 86 1 x.vA A.length x.vas).holds w) (h2 : (elsO (sliceS actS) x.FA (x.vas.map fun v => [v]) A).holds w) (h3 : (rowO 25 1 x.vG G.length x.vgs).holds w) (h4 : (elsO (sliceS intS) x.FG (x.vgs.map fun v => [v]) G).holds w) : TabR w (.agg #[x.vA, x.vG]) A G := by
  have h1' : (rowO 86 (sliceS actS).c x.vA A.length (x.vas.map fun v => [v]).flatten).holds w := by rw [flat_one]; exact h1
  have h3' : (rowO 25 (sliceS intS).c x.vG G.length (x.vgs.map fun v => [v]).flatten).holds w := by rw [flat_one]; exact h3
  exact ⟨x.vA, x.vG, rfl, (slf_of h1' h2 (by decide)).mono fun k hk => slO_lt h1' h2 k hk, (slf_of h3' h4 (by decide)).mono fun k hk => slO_lt h3' h4 k hk⟩
/-- a slice among slices -/
theorem slf_at {α : Type} {s : Shp α} {F : Nat → Prop} {w : World} {base : Option Addr} {n cap : Nat} {l : List (List α)} (h : SlF (sliceS s) F w (.slice base n cap) l) {i : Nat} (hi : i < l.length) : ∃ b off vi, base = some ⟨b, off, none⟩ ∧ w.cell? ⟨b, off + i, none⟩ = some vi ∧ SlF s F w vi l[i] := by
  obtain ⟨base', cap', e, _, _, h3⟩ := h
  cases e
  obtain ⟨b, off, rfl, _, h4⟩ := h3 (by omega)
  obtain ⟨cs, ⟨vi, rfl, h5⟩, h6⟩ := h4 i hi
  refine ⟨b, off, vi, rfl, ?_, h5⟩
  have := h6 0 vi rfl
  rwa [show off + i * (sliceS s).c + 0 = off + i by show off + i * 1 + 0 = _; omega] at this
theorem slf_form {α : Type} {s : Shp α} {F : Nat → Prop} {w : World} {v : Value} {l : List α} (h : SlF s F w v l) : ∃ base cap, v = .slice base l.length cap ∧ l.length ≤ cap ∧ cap ≤ 9223372036854775807 := let ⟨b, c, h1, h2, h3, _⟩ := h; ⟨b, c, h1, h2, by unfold maxLen at h3; omega⟩
def RightAct (T P n : Nat) (x : itemL.Act) (c : Nat) : Prop := (x.1 = 0 ∧ x.2 = 0) ∨ (x.1 = 1 ∧ c < T ∧ 0 ≤ x.2 ∧ x.2 < (n : Int)) ∨ (x.1 = 2 ∧ 0 ≤ x.2 ∧ x.2 < (P : Int)) ∨ (x.1 = 3 ∧ x.2 = 0 ∧ c = T)
theorem right1_calls (T P n : Nat) (nn : Int) (bp : Option Addr) (cp : Nat) (aA : Option Addr) (cA : Nat) (vG : Value) (x : itemL.Act) (c : Nat) (h : RightAct T P n x c) (w : World) :
    Calls Try.prog 37 #[graV (T : Int) nn (.slice bp P cp), .agg #[.slice aA n cA, vG], .agg (actC x).toArray, .int .i64 (c : Int)] w (Meets (ret (.bool true)) w) := by
  obtain ⟨k, m⟩ := x
  unfold RightAct at h
  dsimp only at h
  refine enter (args := [graV (T : Int) nn (.slice bp P cp), .agg #[.slice aA n cA, vG], .agg (actC (k, m)).toArray, .int .i64 (c : Int)]) (n := 59) Try.func37 rfl rfl rfl ?_
  refine T_seq (T_region (TL_box rfl rfl rfl fun g4 => ?_))
  conv=>arg 8;simp only[zA,zB,zC,zD,zE,zF,zG,zH,zI,rowS,ret,id_eq]
  refine TL_box rfl rfl rfl fun g5 => ?_
  conv=>arg 8;simp only[zA,zB,zC,zD,zE,zF,zG,zH,zI,rowS,ret,id_eq]
  refine TL_box rfl rfl rfl fun g6 => ?_
  conv=>arg 8;simp only[zA,zB,zC,zD,zE,zF,zG,zH,zI,rowS,ret,id_eq]
  rcases h with ⟨rfl, rfl⟩ | ⟨rfl, h1, h2, h3⟩ | ⟨rfl, h1, h2⟩ | ⟨rfl, rfl, rfl⟩
  · repeat(first|refine QV QP ?_|refine QZ ?_|refine qcT rfl ?_|refine qcF rfl ?_|refine qs rfl rfl rfl rfl rfl rfl ?_|((try refine qg rfl rfl rfl ?_);first|refine QV QP ?_|refine QV (rr_load1 (v := .int .i64 0) TyC.ty rfl (at_blk (i := 2) rfl rfl)) ?_|refine QV QA ?_|refine QV QlT ?_|refine QV QlF ?_|refine QV QhT ?_|refine QV QhF ?_|refine QV QeT ?_|refine QV QeF ?_|refine QV QL ?_))
    exact E_ret1 rfl rfl fun w hm => hm.ret
  · repeat(first|refine QV QP ?_|refine QZ ?_|refine qcT rfl ?_|refine qcF rfl ?_|refine qs rfl rfl rfl rfl rfl rfl ?_|((try refine qg rfl rfl rfl ?_);first|refine QV QP ?_|refine QV (rr_load1 (v := .int .i64 1) TyC.ty rfl (at_blk (i := 2) rfl rfl)) ?_|refine QV (rr_load1 (v := .int .i64 m) TyC.ty rfl (at_blk (i := 2) rfl rfl)) ?_|refine QV (rr_load1 (v := .int .i64 (T : Int)) TyC.ty rfl (at_blk (i := 0) rfl rfl)) ?_|refine QV (rr_load1 (v := .slice aA n cA) TyC.ty rfl (at_blk (i := 1) rfl rfl)) ?_|refine QV QA ?_|refine QV QlT ?_|refine QV QlF ?_|refine QV QhT ?_|refine QV QhF ?_|refine QV QeT ?_|refine QV QeF ?_|refine QV QL ?_))
    exact E_ret1 rfl rfl fun w hm => hm.ret
  · repeat(first|refine QV QP ?_|refine QZ ?_|refine qcT rfl ?_|refine qcF rfl ?_|refine qs rfl rfl rfl rfl rfl rfl ?_|((try refine qg rfl rfl rfl ?_);first|refine QV QP ?_|refine QV (rr_load1 (v := .int .i64 2) TyC.ty rfl (at_blk (i := 2) rfl rfl)) ?_|refine QV (rr_load1 (v := .int .i64 m) TyC.ty rfl (at_blk (i := 2) rfl rfl)) ?_|refine QV (rr_load1 (v := .slice bp P cp) TyC.ty rfl (at_blk (i := 0) rfl rfl)) ?_|refine QV QA ?_|refine QV QlT ?_|refine QV QlF ?_|refine QV QhT ?_|refine QV QhF ?_|refine QV QeT ?_|refine QV QeF ?_|refine QV QL ?_))
    exact E_ret1 rfl rfl fun w hm => hm.ret
  · repeat(first|refine QV QP ?_|refine QZ ?_|refine qcT rfl ?_|refine qcF rfl ?_|refine qs rfl rfl rfl rfl rfl rfl ?_|((try refine qg rfl rfl rfl ?_);first|refine QV QP ?_|refine QV (rr_load1 (v := .int .i64 3) TyC.ty rfl (at_blk (i := 2) rfl rfl)) ?_|refine QV (rr_load1 (v := .int .i64 0) TyC.ty rfl (at_blk (i := 2) rfl rfl)) ?_|refine QV (rr_load1 (v := .int .i64 (c : Int)) TyC.ty rfl (at_blk (i := 0) rfl rfl)) ?_|refine QV QA ?_|refine QV QlT ?_|refine QV QlF ?_|refine QV QhT ?_|refine QV QhF ?_|refine QV QeT ?_|refine QV QeF ?_|refine QV QL ?_))
    exact E_ret1 rfl rfl fun w hm => hm.ret
structure LrOk (g : Gram) (T N : Nat) (A : List (List itemL.Act)) (G : List (List Int)) : Prop where
  gram : checkG g = 0
  terms : g.terms = (T : Int)
  nons : g.nons = (N : Int)
  pos : 0 < A.length
  few : A.length ≤ 200
  same : G.length = A.length
  wA : ∀ i (h : i < A.length), A[i].length = T + 1
  acts : ∀ i (h : i < A.length), ∀ c (hc : c < A[i].length), RightAct T g.prods.length A.length A[i][c] c
  wG : ∀ i (h : i < G.length), G[i].length = N
  gos : ∀ i (h : i < G.length), ∀ y ∈ G[i], -1 ≤ y ∧ y < (A.length : Int)
set_option maxHeartbeats 4000000 in
theorem lrCheck_calls (v t : Value) (g : Gram) (T N : Nat) (A : List (List itemL.Act)) (G : List (List Int)) (h : LrOk g T N A G) (w : World) (hG : GraR (fun k => k < w.heap.size) w v g) (ht : TabR w t A G) :
    Calls Try.prog 11 #[v, t] w (Meets (ret (.int .i64 0)) w) := by
  have hck := fun w' (hg : Gr w w') => checkG_calls v g w' (hG.gr hg)
  obtain ⟨vp, rfl, hp, -, -⟩ := hG
  obtain ⟨bp, cp, rfl, -⟩ := hp
  obtain ⟨vA, vG, rfl, hA, hGo⟩ := ht
  obtain ⟨aA, cA, rfl, -, -⟩ := slf_form hA
  obtain ⟨aG, cG, rfl, -, -⟩ := slf_form hGo
  obtain ⟨hg, hTt, hNn, hpos, hfew, hsame, hwA, hact, hwG, hgos⟩ := h
  obtain ⟨hT1, hT2, -, hN2, hpl, -⟩ := checkG_ok hg
  rw [hg] at hck
  rw [hTt, hNn] at hck ⊢
  refine enter (args := [graV (T : Int) (N : Int) (.slice bp g.prods.length cp), .agg #[.slice aA A.length cA, .slice aG G.length cG]]) (n := 93) Try.func11 rfl rfl rfl ?_
  refine T_seq (T_region (TL_box rfl rfl rfl fun g2 => ?_))
  conv=>arg 8;simp only[zA,zB,zC,zD,zE,zF,zG,zH,zI,rowS,ret,id_eq]
  refine TL_box rfl rfl rfl fun g3 => ?_
  conv=>arg 8;simp only[zA,zB,zC,zD,zE,zF,zG,zH,zI,rowS,ret,id_eq]
  repeat(first|refine QV QP ?_|refine QZ ?_|refine qcT rfl ?_|refine qcF rfl ?_|refine E_blockX ?_|refine E_blockO rfl ?_|refine qs rfl rfl rfl rfl rfl rfl ?_|((try refine qg rfl rfl rfl ?_);first|refine QV QP ?_|refine QV (rr_loadB (i := 0) TyC.ty rfl rfl rfl) ?_|refine QV QL ?_|refine QV QA ?_|refine QV (rr_not rfl rfl) ?_|refine QV QlT ?_|refine QV QlF ?_|refine QV QgT ?_|refine QV QgF ?_|refine QV QeT ?_|refine QV QeF ?_|refine QV QnT ?_|refine QV QnF ?_|refine QV QaA ?_|refine QV QhT ?_|refine QV QhF ?_))
  refine TL_call (he1 EntersC.en rfl rfl) (fun w hm => hck w hm.below) rfl rfl rfl ?_
  intro _ _
  conv=>arg 8;simp only[zA,zB,zC,zD,zE,zF,zG,zH,zI,rowS,ret,id_eq]
  repeat(first|refine QV QP ?_|refine QZ ?_|refine qcT rfl ?_|refine qcF rfl ?_|refine E_blockX ?_|refine E_blockO rfl ?_|refine qs rfl rfl rfl rfl rfl rfl ?_|((try refine qg rfl rfl rfl ?_);first|refine QV QP ?_|refine QV (rr_load1 (v := .slice aA A.length cA) TyC.ty rfl (at_blk (i := 1) rfl rfl)) ?_|refine QV (rr_load1 (v := .slice aG G.length cG) TyC.ty rfl (at_blk (i := 1) rfl rfl)) ?_|refine QV QL ?_|refine QV QA ?_|refine QV (rr_not rfl rfl) ?_|refine QV QlT ?_|refine QV QlF ?_|refine QV QgT ?_|refine QV QgF ?_|refine QV QeT ?_|refine QV QeF ?_|refine QV QnT ?_|refine QV QnF ?_|refine QV QaA ?_|refine QV QhT ?_|refine QV QhF ?_))
  clear hck
  refine T_loop (ι := Nat) (fun i => i ≤ A.length) (fun i => [(2, .pointer (some ⟨g2, 0, none⟩)), (3, .pointer (some ⟨g3, 0, none⟩)), (6, .int .i64 (A.length : Int)), (31, .int .i64 (A.length : Int)), (32, .int .i64 (i : Int))])
    (fun _ => [blkO g2 (graV (T : Int) (N : Int) (.slice bp g.prods.length cp)).cells 24, blkO g3 (Value.agg #[.slice aA A.length cA, .slice aG G.length cG]).cells 29]) (fun i => A.length - i) 0 (Nat.zero_le _) (by repeat' (first | exact True.intro | refine And.intro rfl ?_)) rfl ?_
  intro i i1
  by_cases c1 : i < A.length
  · have c1G : i < G.length := by omega
    obtain ⟨bA, oA, vi, rfl, hcA, hsA⟩ := slf_at hA c1
    obtain ⟨bG, oG, wi, rfl, hcG, hsG⟩ := slf_at hGo c1G
    obtain ⟨ai, ci, rfl, hci, hci2⟩ := slf_form hsA
    obtain ⟨ei, di, rfl, hdi, hdi2⟩ := slf_form hsG
    have hfA := hsA.flat (f := actC) (by decide)
    have hfG := hsG.flat (f := fun n => [Value.int .i64 n]) (by decide)
    have hwAi := hwA i c1
    have hwGi := hwG i c1G
    have hacti := hact i c1
    have hgosi := hgos i c1G
    obtain ⟨_, _, e1, -, -, hrA⟩ := hfA
    cases e1
    obtain ⟨_, _, e2, -, -, hrG⟩ := hfG
    cases e2
    clear hsA hsG hact hgos hwA hwG
    have hcA' : ∀ L, At (w : Base) L ⟨bA, oA + i, none⟩ (.slice ai A[i].length ci) := fun L => at_old hcA
    have hcG' : ∀ L, At (w : Base) L ⟨bG, oG + i, none⟩ (.slice ei G[i].length di) := fun L => at_old hcG
    generalize A[i] = X at *
    generalize G[i] = Y at *
    repeat(first|refine QV QP ?_|refine QZ ?_|refine qcT rfl ?_|refine qcF rfl ?_|refine E_blockX ?_|refine E_blockO rfl ?_|refine qs rfl rfl rfl rfl rfl rfl ?_|((try refine qg rfl rfl rfl ?_);first|refine QV QP ?_|refine QV QL ?_|refine QV QA ?_|refine QV (rr_not rfl rfl) ?_|refine QV QlT ?_|refine QV QlF ?_|refine QV QgT ?_|refine QV QgF ?_|refine QV QeT ?_|refine QV QeF ?_|refine QV QnT ?_|refine QV QnF ?_|refine QV QaA ?_|refine QV QhT ?_|refine QV QhF ?_))
    refine T_ord ([blkO g2 (graV (T : Int) (N : Int) (.slice bp g.prods.length cp)).cells 24, blkO g3 (Value.agg #[.slice (some ⟨bA, oA, none⟩) A.length cA, .slice (some ⟨bG, oG, none⟩) G.length cG]).cells 29]) (.calm 0 (.calm 1 (.calm 2 (.calm 3 (.calm 4 (.calm 5 (.calm 6 (.calm 7 (.calm 8 (.calm 9 (.calm 10 (.calm 11 (.calm 12 (.calm 13 (.calm 14 (.calm 15 (.calm 16 (.calm 17 (.calm 18 (.calm 19 (.calm 20 (.done)))))))))))))))))))))) (fun _ h => h) (by kernel_rfl) (by kernel_rfl) (by intro c a d v w h; cases d <;> exact h) ?_
    repeat(first|((first|refine TW_plain rfl rfl ?_|refine TW_gmet rfl rfl rfl rfl ?_);first|refine QW QP ?_|refine QW (rr_load1 (v := .slice (some ⟨bA, oA, none⟩) A.length cA) TyC.ty rfl (at_blk (i := 1) rfl rfl)) ?_|refine QW (rr_idx1 Und.eq TyC.ty rfl rfl c1) ?_|refine QW (rr_load1 (v := .slice ai X.length ci) TyC.ty rfl (hcA' _)) ?_|refine QW (rr_load1 (v := .int .i64 (T : Int)) TyC.ty rfl (at_blk (i := 0) rfl rfl)) ?_|refine QW (rr_load1 (v := .slice (some ⟨bG, oG, none⟩) G.length cG) TyC.ty rfl (at_blk (i := 1) rfl rfl)) ?_|refine QW (rr_idx1 Und.eq TyC.ty rfl rfl c1G) ?_|refine QW (rr_load1 (v := .slice ei Y.length di) TyC.ty rfl (hcG' _)) ?_|refine QW (rr_load1 (v := .int .i64 (N : Int)) TyC.ty rfl (at_blk (i := 0) rfl rfl)) ?_|refine QW QL ?_|refine QW QA ?_|refine QW (rr_not rfl rfl) ?_|refine QW QlT ?_|refine QW QlF ?_|refine QW QgT ?_|refine QW QgF ?_|refine QW QeT ?_|refine QW QeF ?_|refine QW QnT ?_|refine QW QnF ?_|refine QW QaA ?_|refine QW QhT ?_|refine QW QhF ?_)|refine TW_skip rfl rfl rfl rfl rfl rfl rfl ?_|refine TW_done ?_)
    repeat(first|refine QV QP ?_|refine QZ ?_|refine qcT rfl ?_|refine qcF rfl ?_|refine E_blockX ?_|refine E_blockO rfl ?_|refine qs rfl rfl rfl rfl rfl rfl ?_|((try refine qg rfl rfl rfl ?_);first|refine QV QP ?_|refine QV (rr_load1 (v := .slice (some ⟨bA, oA, none⟩) A.length cA) TyC.ty rfl (at_blk (i := 1) rfl rfl)) ?_|refine QV (rr_idx1 Und.eq TyC.ty rfl rfl c1) ?_|refine QV (rr_load1 (v := .slice ai X.length ci) TyC.ty rfl (hcA' _)) ?_|refine QV QL ?_|refine QV QA ?_|refine QV (rr_not rfl rfl) ?_|refine QV QlT ?_|refine QV QlF ?_|refine QV QgT ?_|refine QV QgF ?_|refine QV QeT ?_|refine QV QeF ?_|refine QV QnT ?_|refine QV QnF ?_|refine QV QaA ?_|refine QV QhT ?_|refine QV QhF ?_))
    refine T_loop (ι := Nat) (fun c => c ≤ X.length) (fun c => [(2, .pointer (some ⟨g2, 0, none⟩)), (3, .pointer (some ⟨g3, 0, none⟩)), (6, .int .i64 (A.length : Int)), (7, .int .i64 (i : Int)), (31, .int .i64 (A.length : Int)), (32, .int .i64 (i : Int)), (60, .slice ai X.length ci), (61, .int .i64 (X.length : Int)), (62, .int .i64 (c : Int))])
      (fun _ => [blkO g2 (graV (T : Int) (N : Int) (.slice bp g.prods.length cp)).cells 24, blkO g3 (Value.agg #[.slice (some ⟨bA, oA, none⟩) A.length cA, .slice (some ⟨bG, oG, none⟩) G.length cG]).cells 29]) (fun c => X.length - c) 0 (Nat.zero_le _) (by repeat' (first | exact True.intro | refine And.intro rfl ?_)) rfl ?_
    intro c j1
    by_cases c2 : c < X.length
    · obtain ⟨b, off, rfl, hrd⟩ := hrA (by omega)
      have hat := fun L => at_el (L := L) actC_len hrd c2
      have hatA : ∀ (L : List Own) (j : Nat) (u : Value), (actC X[c])[j]? = some u → At (w : Base) L ⟨b, off + c * 2 + j, none⟩ u := hat
      have hri := hacti c c2
      clear hat
      generalize X[c] = x at *
      have hrc := right1_calls T g.prods.length A.length (N : Int) bp cp (some ⟨bA, oA, none⟩) cA (.slice (some ⟨bG, oG, none⟩) G.length cG) x c hri
      repeat(first|refine QV QP ?_|refine QZ ?_|refine qcT rfl ?_|refine qcF rfl ?_|refine E_blockX ?_|refine E_blockO rfl ?_|refine qs rfl rfl rfl rfl rfl rfl ?_|((try refine qg rfl rfl rfl ?_);first|refine QV QP ?_|refine QV (rr_idxc Und.eq TyC.ty rfl rfl c2) ?_|refine QV (rr_loadN (cs := actC x) TyC.ty rfl rfl (hatA _)) ?_|refine QV QL ?_|refine QV QA ?_|refine QV (rr_not rfl rfl) ?_|refine QV QlT ?_|refine QV QlF ?_|refine QV QgT ?_|refine QV QgF ?_|refine QV QeT ?_|refine QV QeF ?_|refine QV QnT ?_|refine QV QnF ?_|refine QV QaA ?_|refine QV QhT ?_|refine QV QhF ?_))
      refine TL_new rfl fun g9 => ?_
      conv=>arg 8;simp only[zA,zB,zC,zD,zE,zF,zG,zH,zI,rowS,ret,id_eq]
      repeat(first|refine QV QP ?_|refine QZ ?_|refine qcT rfl ?_|refine qcF rfl ?_|refine E_blockX ?_|refine E_blockO rfl ?_|refine qs rfl rfl rfl rfl rfl rfl ?_|((try refine qg rfl rfl rfl ?_);first|refine QV QP ?_|refine QV QL ?_|refine QV QA ?_|refine QV (rr_not rfl rfl) ?_|refine QV QlT ?_|refine QV QlF ?_|refine QV QgT ?_|refine QV QgF ?_|refine QV QeT ?_|refine QV QeF ?_|refine QV QnT ?_|refine QV QnF ?_|refine QV QaA ?_|refine QV QhT ?_|refine QV QhF ?_))
      refine TL_storeB (i := 2) (cs' := (actC x).toArray) rfl rfl rfl rfl rfl rfl ?_
      conv=>arg 8;simp only[zA,zB,zC,zD,zE,zF,zG,zH,zI,rowS,ret,id_eq]
      repeat(first|refine QV QP ?_|refine QZ ?_|refine qcT rfl ?_|refine qcF rfl ?_|refine E_blockX ?_|refine E_blockO rfl ?_|refine qs rfl rfl rfl rfl rfl rfl ?_|((try refine qg rfl rfl rfl ?_);first|refine QV QP ?_|refine QV (rr_loadB (i := 0) TyC.ty rfl rfl rfl) ?_|refine QV (rr_loadB (i := 1) TyC.ty rfl rfl rfl) ?_|refine QV (rr_loadB (i := 2) TyC.ty rfl rfl rfl) ?_|refine QV QL ?_|refine QV QA ?_|refine QV (rr_not rfl rfl) ?_|refine QV QlT ?_|refine QV QlF ?_|refine QV QgT ?_|refine QV QgF ?_|refine QV QeT ?_|refine QV QeF ?_|refine QV QnT ?_|refine QV QnF ?_|refine QV QaA ?_|refine QV QhT ?_|refine QV QhF ?_))
      refine TL_call (he4 EntersC.en rfl rfl rfl rfl rfl) (fun w hm => hrc w) rfl rfl rfl ?_
      intro _ _
      conv=>arg 8;simp only[zA,zB,zC,zD,zE,zF,zG,zH,zI,rowS,ret,id_eq]
      repeat(first|refine QV QP ?_|refine QZ ?_|refine qcT rfl ?_|refine qcF rfl ?_|refine E_blockX ?_|refine E_blockO rfl ?_|refine qs rfl rfl rfl rfl rfl rfl ?_|((try refine qg rfl rfl rfl ?_);first|refine QV QP ?_|refine QV QL ?_|refine QV QA ?_|refine QV (rr_not rfl rfl) ?_|refine QV QlT ?_|refine QV QlF ?_|refine QV QgT ?_|refine QV QgF ?_|refine QV QeT ?_|refine QV QeF ?_|refine QV QnT ?_|refine QV QnF ?_|refine QV QaA ?_|refine QV QhT ?_|refine QV QhF ?_))
      refine E_pick [0, 1] (by decide) rfl ?_
      exact E_round (c + 1) (by omega) (by show X.length - (c + 1) < X.length - c; omega) (by repeat' (first | exact True.intro | refine And.intro rfl ?_)) rfl
    obtain rfl : c = X.length := by omega
    repeat(first|refine QV QP ?_|refine QZ ?_|refine qcT rfl ?_|refine qcF rfl ?_|refine E_blockX ?_|refine E_blockO rfl ?_|refine qs rfl rfl rfl rfl rfl rfl ?_|((try refine qg rfl rfl rfl ?_);first|refine QV QP ?_|refine QV (rr_load1 (v := .slice (some ⟨bG, oG, none⟩) G.length cG) TyC.ty rfl (at_blk (i := 1) rfl rfl)) ?_|refine QV (rr_idx1 Und.eq TyC.ty rfl rfl c1G) ?_|refine QV (rr_load1 (v := .slice ei Y.length di) TyC.ty rfl (hcG' _)) ?_|refine QV QL ?_|refine QV QA ?_|refine QV (rr_not rfl rfl) ?_|refine QV QlT ?_|refine QV QlF ?_|refine QV QgT ?_|refine QV QgF ?_|refine QV QeT ?_|refine QV QeF ?_|refine QV QnT ?_|refine QV QnF ?_|refine QV QaA ?_|refine QV QhT ?_|refine QV QhF ?_))
    refine T_loop (ι := Nat) (fun c => c ≤ Y.length) (fun c => [(2, .pointer (some ⟨g2, 0, none⟩)), (3, .pointer (some ⟨g3, 0, none⟩)), (6, .int .i64 (A.length : Int)), (31, .int .i64 (A.length : Int)), (32, .int .i64 (i : Int)), (78, .slice ei Y.length di), (79, .int .i64 (Y.length : Int)), (80, .int .i64 (c : Int))])
      (fun _ => [blkO g2 (graV (T : Int) (N : Int) (.slice bp g.prods.length cp)).cells 24, blkO g3 (Value.agg #[.slice (some ⟨bA, oA, none⟩) A.length cA, .slice (some ⟨bG, oG, none⟩) G.length cG]).cells 29]) (fun c => Y.length - c) 0 (Nat.zero_le _) (by repeat' (first | exact True.intro | refine And.intro rfl ?_)) rfl ?_
    intro c k1
    by_cases c3 : c < Y.length
    · obtain ⟨b, off, rfl, hrd⟩ := hrG (by omega)
      have hat := fun L => at_el (L := L) (f := fun n => [Value.int .i64 n]) (c := 1) (fun _ => rfl) hrd c3 0 _ rfl
      have hatA : ∀ (L : List Own), At (w : Base) L ⟨b, off + c * 1 + 0, none⟩ (.int .i64 Y[c]) := hat
      have hgo := hgosi Y[c] (List.getElem_mem c3)
      clear hat
      generalize Y[c] = y at *
      repeat(first|refine QV QP ?_|refine QZ ?_|refine qcT rfl ?_|refine qcF rfl ?_|refine E_blockX ?_|refine E_blockO rfl ?_|refine qs rfl rfl rfl rfl rfl rfl ?_|((try refine qg rfl rfl rfl ?_);first|refine QV QP ?_|refine QV (rr_idxc Und.eq TyC.ty rfl rfl c3) ?_|refine QV (rr_load1 (v := .int .i64 y) TyC.ty rfl (hatA _)) ?_|refine QV QL ?_|refine QV QA ?_|refine QV (rr_not rfl rfl) ?_|refine QV QlT ?_|refine QV QlF ?_|refine QV QgT ?_|refine QV QgF ?_|refine QV QeT ?_|refine QV QeF ?_|refine QV QnT ?_|refine QV QnF ?_|refine QV QaA ?_|refine QV QhT ?_|refine QV QhF ?_))
      exact E_round (c + 1) (by omega) (by show Y.length - (c + 1) < Y.length - c; omega) (by repeat' (first | exact True.intro | refine And.intro rfl ?_)) rfl
    obtain rfl : c = Y.length := by omega
    repeat(first|refine QV QP ?_|refine QZ ?_|refine qcT rfl ?_|refine qcF rfl ?_|refine E_blockX ?_|refine E_blockO rfl ?_|refine qs rfl rfl rfl rfl rfl rfl ?_|((try refine qg rfl rfl rfl ?_);first|refine QV QP ?_|refine QV QL ?_|refine QV QA ?_|refine QV (rr_not rfl rfl) ?_|refine QV QlT ?_|refine QV QlF ?_|refine QV QgT ?_|refine QV QgF ?_|refine QV QeT ?_|refine QV QeF ?_|refine QV QnT ?_|refine QV QnF ?_|refine QV QaA ?_|refine QV QhT ?_|refine QV QhF ?_))
    exact E_round (i + 1) (by omega) (by show A.length - (i + 1) < A.length - i; omega) (by repeat' (first | exact True.intro | refine And.intro rfl ?_)) rfl
  · obtain rfl : i = A.length := by omega
    repeat(first|refine QV QP ?_|refine QZ ?_|refine qcT rfl ?_|refine qcF rfl ?_|refine E_blockX ?_|refine E_blockO rfl ?_|refine qs rfl rfl rfl rfl rfl rfl ?_|((try refine qg rfl rfl rfl ?_);first|refine QV QP ?_|refine QV QL ?_|refine QV QA ?_|refine QV (rr_not rfl rfl) ?_|refine QV QlT ?_|refine QV QlF ?_|refine QV QgT ?_|refine QV QgF ?_|refine QV QeT ?_|refine QV QeF ?_|refine QV QnT ?_|refine QV QnF ?_|refine QV QaA ?_|refine QV QhT ?_|refine QV QhF ?_))
    exact E_ret1 rfl rfl fun w hm => hm.ret
/-- what calm tells -/
def calmB (g : Gram) : Bool := decide ((outT g).2.2.2 = 0) && decide ((outT g).2.2.1.length = 0)
def calmS (g : Gram) : Spec TabX := ⟨fun _ => True, fun x => .tuple #[.agg #[x.vA, x.vG], .bool (calmB g)], fun x => tabL x (outT g).1 (outT g).2.1⟩
theorem calm_calls (v : Value) (g : Gram) (w : World) (hG : GraR (fun k => k < w.heap.size) w v g) : Calls Try.prog 9 #[v] w (Meets (calmS g) w) := by
  have hmk := fun w' (hg : Gr w w') => lrMake_calls v g w' (hG.gr hg)
  obtain ⟨vp, rfl, -⟩ := hG
  refine enter (args := [graV g.terms g.nons vp]) (n := 21) Try.func9 rfl rfl rfl ?_
  refine T_seq (T_region (TL_box rfl rfl rfl fun g1 => ?_))
  conv=>arg 8;simp only[zA,zB,zC,zD,zE,zF,zG,zH,zI,rowS,ret,id_eq]
  repeat(first|refine QV QP ?_|refine QZ ?_|refine qs rfl rfl rfl rfl rfl rfl ?_|((try refine qg rfl rfl rfl ?_);first|refine QV QP ?_|refine QV QeT ?_|refine QV QeF ?_|refine QV QL ?_))
  refine TL_new rfl fun g2 => ?_
  conv=>arg 8;simp only[zA,zB,zC,zD,zE,zF,zG,zH,zI,rowS,ret,id_eq]
  repeat(first|refine QV QP ?_|refine QZ ?_|refine qs rfl rfl rfl rfl rfl rfl ?_|((try refine qg rfl rfl rfl ?_);first|refine QV QP ?_|refine QV (rr_loadB (i := 0) TyC.ty rfl rfl rfl) ?_|refine QV QeT ?_|refine QV QeF ?_|refine QV QL ?_))
  refine TL_call (he1 EntersC.en rfl rfl) (fun w hm => hmk w hm.below) rfl rfl rfl ?_
  rintro ⟨x, vf⟩ _
  conv=>arg 8;simp only[zA,zB,zC,zD,zE,zF,zG,zH,zI,rowS,ret,id_eq, makeTS, tabL]
  conv => arg 7; simp only [makeTS]
  unfold calmS calmB tabL
  obtain ⟨⟨A, G, fl, e⟩, hO⟩ : ∃ R, outT g = R := ⟨_, rfl⟩
  rw [hO]
  dsimp only
  refine TL_know (i := 6) rfl row_slm fun hrow => ?_
  obtain ⟨af, cf, rfl, -⟩ := hrow
  refine TL_know (i := 2) rfl row_slm fun hrow => ?_
  obtain ⟨aA, cA, hvA, -⟩ := hrow
  refine TL_know (i := 4) rfl row_slm fun hrow => ?_
  obtain ⟨aG, cG, hvG, -⟩ := hrow
  obtain ⟨vA, vas, FA, vG, vgs, FG⟩ := x
  dsimp only at hvA hvG ⊢
  subst hvA hvG
  repeat(first|refine QV QP ?_|refine QZ ?_|refine qs rfl rfl rfl rfl rfl rfl ?_|((try refine qg rfl rfl rfl ?_);first|refine QV QP ?_|refine QV QeT ?_|refine QV QeF ?_|refine QV QL ?_))
  refine TL_new rfl fun g4 => ?_
  conv=>arg 8;simp only[zA,zB,zC,zD,zE,zF,zG,zH,zI,rowS,ret,id_eq]
  refine TL_storeB (i := 7) rfl rfl rfl rfl rfl rfl ?_
  conv=>arg 8;simp only[zA,zB,zC,zD,zE,zF,zG,zH,zI,rowS,ret,id_eq]
  by_cases c1 : e = 0
  · by_cases c2 : fl.length = 0
    · rw [decide_eq_true c1, decide_eq_true c2]
      repeat(first|refine QV QP ?_|refine QZ ?_|refine qs rfl rfl rfl rfl rfl rfl ?_|((try refine qg rfl rfl rfl ?_);first|refine QV QP ?_|refine QV (rr_loadB (i := 7) TyC.ty rfl rfl rfl) ?_|refine QV QeT ?_|refine QV QeF ?_|refine QV QL ?_))
      refine TL_storeB (i := 1) rfl rfl rfl rfl rfl rfl ?_
      conv=>arg 8;simp only[zA,zB,zC,zD,zE,zF,zG,zH,zI,rowS,ret,id_eq]
      repeat(first|refine QV QP ?_|refine QZ ?_|refine qs rfl rfl rfl rfl rfl rfl ?_|((try refine qg rfl rfl rfl ?_);first|refine QV QP ?_|refine QV QeT ?_|refine QV QeF ?_|refine QV QL ?_))
      exact E_retc2 (i := 1) rfl rfl rfl rfl rfl fun w hm => hm.meets (S := ⟨fun (_ : TabX) => True, fun x => .tuple #[.agg #[x.vA, x.vG], .bool true], fun x => [rowO 86 1 x.vA A.length x.vas, elsO (sliceS actS) x.FA (x.vas.map fun v => [v]) A, rowO 25 1 x.vG G.length x.vgs, elsO (sliceS intS) x.FG (x.vgs.map fun v => [v]) G]⟩) ⟨.slice aA A.length cA, vas, FA, .slice aG G.length cG, vgs, FG⟩ trivial [2, 3, 4, 5] (by decide) rfl
    · rw [decide_eq_true c1, decide_eq_false c2]
      repeat(first|refine QV QP ?_|refine QZ ?_|refine qs rfl rfl rfl rfl rfl rfl ?_|((try refine qg rfl rfl rfl ?_);first|refine QV QP ?_|refine QV (rr_loadB (i := 7) TyC.ty rfl rfl rfl) ?_|refine QV QeT ?_|refine QV QeF ?_|refine QV QL ?_))
      refine TL_storeB (i := 1) rfl rfl rfl rfl rfl rfl ?_
      conv=>arg 8;simp only[zA,zB,zC,zD,zE,zF,zG,zH,zI,rowS,ret,id_eq]
      repeat(first|refine QV QP ?_|refine QZ ?_|refine qs rfl rfl rfl rfl rfl rfl ?_|((try refine qg rfl rfl rfl ?_);first|refine QV QP ?_|refine QV QeT ?_|refine QV QeF ?_|refine QV QL ?_))
      exact E_retc2 (i := 1) rfl rfl rfl rfl rfl fun w hm => hm.meets (S := ⟨fun (_ : TabX) => True, fun x => .tuple #[.agg #[x.vA, x.vG], .bool false], fun x => [rowO 86 1 x.vA A.length x.vas, elsO (sliceS actS) x.FA (x.vas.map fun v => [v]) A, rowO 25 1 x.vG G.length x.vgs, elsO (sliceS intS) x.FG (x.vgs.map fun v => [v]) G]⟩) ⟨.slice aA A.length cA, vas, FA, .slice aG G.length cG, vgs, FG⟩ trivial [2, 3, 4, 5] (by decide) rfl
  · rw [decide_eq_false c1, Bool.false_and]
    repeat(first|refine QV QP ?_|refine QZ ?_|refine qs rfl rfl rfl rfl rfl rfl ?_|((try refine qg rfl rfl rfl ?_);first|refine QV QP ?_|refine QV (rr_loadB (i := 7) TyC.ty rfl rfl rfl) ?_|refine QV (rr_eql (b := false) rfl rfl (decide_eq_false c1)) ?_|refine QV QeT ?_|refine QV QeF ?_|refine QV QL ?_))
    refine TL_storeB (i := 1) rfl rfl rfl rfl rfl rfl ?_
    conv=>arg 8;simp only[zA,zB,zC,zD,zE,zF,zG,zH,zI,rowS,ret,id_eq]
    repeat(first|refine QV QP ?_|refine QZ ?_|refine qs rfl rfl rfl rfl rfl rfl ?_|((try refine qg rfl rfl rfl ?_);first|refine QV QP ?_|refine QV QeT ?_|refine QV QeF ?_|refine QV QL ?_))
    exact E_retc2 (i := 1) rfl rfl rfl rfl rfl fun w hm => hm.meets (S := ⟨fun (_ : TabX) => True, fun x => .tuple #[.agg #[x.vA, x.vG], .bool false], fun x => [rowO 86 1 x.vA A.length x.vas, elsO (sliceS actS) x.FA (x.vas.map fun v => [v]) A, rowO 25 1 x.vG G.length x.vgs, elsO (sliceS intS) x.FG (x.vgs.map fun v => [v]) G]⟩) ⟨.slice aA A.length cA, vas, FA, .slice aG G.length cG, vgs, FG⟩ trivial [2, 3, 4, 5] (by decide) rfl
end Go.Proofs.Ytlojfbnimmdehaa.eng

/- LrM -/
namespace Go.Proofs.Ytlojfbnimmdehaa.itemL
open gramL treeL countL factsL smallL
open llL (colAt)
section
variable {l : List gramL.Prod} {T N : Nat} {lk : Int → Int → Nat} {Nx : List (List Int)} {S : List (List Item)} {w : List Int}
variable {E R M : List Bool} {F W : List Nat}
theorem drop_cons {α : Type} {b : List α} {d : Nat} {y : α} {r : List α} (h : b.drop d = y :: r) : b[d]? = some y ∧ b.drop (d + 1) = r ∧ d < b.length := by
  have hd : d < b.length := by
    rcases Nat.lt_or_ge d b.length with h' | h'
    · exact h'
    · rw [List.drop_of_length_le h'] at h; cases h
  rw [List.drop_eq_getElem_cons hd] at h
  simp only [List.cons.injEq] at h
  exact ⟨by rw [List.getElem?_eq_getElem hd, h.1], h.2, hd⟩
/-- what is asked of the table and the word -/
structure LrH (l : List gramL.Prod) (T N : Nat) (lk : Int → Int → Nat) (Nx : List (List Int)) (S : List (List Item)) (w : List Int) (E : List Bool) (F W : List Nat) (R M : List Bool) : Prop where
  wide : ∀ q ∈ l, q.2.length ≤ 8
  few : l.length ≤ 40
  terms : T ≤ 30
  nons : 0 < N
  syms : SymsOk N l
  term : ∀ q ∈ l, ∀ x ∈ q.2, x.1 = 1 → 0 ≤ x.2 ∧ x.2 < (T : Int)
  all : AllI l T N lk S.length Nx S
  calm : CalmI l T Nx S
  facts : ClosedF l E F W R M
  looks : ∀ p d : Int, 0 ≤ p → p ≤ (l.length : Int) → 0 ≤ d → lk p d = beginF E F ((bodyI l p).drop (d.toNat + 1)) (2 ^ 62)
  word : ∀ x ∈ w, 0 ≤ x ∧ x < (T : Int)
theorem state_right (hI : AllI l T N lk S.length Nx S) {q : Nat} (hq : q < S.length) : ∀ it ∈ S.getD q [], RightI l T it := by
  have hget : S.getD q [] = S[q] := by rw [List.getD_eq_getElem?_getD, List.getElem?_eq_getElem hq]; rfl
  rw [hget]; exact hI.ss.right _ (List.getElem_mem hq)
theorem col_at (h : LrH l T N lk Nx S w E F W R M) {a : Nat} {v : Int} {r : List Int} (hd : w.drop a = v :: r) : a < w.length ∧ (colAt T w a : Int) = v ∧ 0 ≤ v ∧ v < (T : Int) := by
  have ha : a < w.length := by
    rcases Nat.lt_or_ge a w.length with h' | h'
    · exact h'
    · rw [List.drop_of_length_le h'] at hd; cases hd
  rw [List.drop_eq_getElem_cons ha] at hd
  simp only [List.cons.injEq] at hd
  have hv := h.word w[a] (List.getElem_mem ha)
  unfold colAt
  rw [if_pos ha, List.getD_eq_getElem?_getD, List.getElem?_eq_getElem ha, Option.getD_some]
  rw [hd.1] at hv ⊢
  exact ⟨ha, by omega, hv⟩
theorem col_le (h : LrH l T N lk Nx S w E F W R M) (a : Nat) : colAt T w a ≤ T := by
  unfold colAt
  split
  · rename_i ha
    rw [List.getD_eq_getElem?_getD, List.getElem?_eq_getElem ha, Option.getD_some]
    have := h.word w[a] (List.getElem_mem ha)
    omega
  · exact Nat.le_refl _
mutual
theorem sim_tree (h : LrH l T N lk Nx S w E F W R M) : ∀ {t : Tree} {x : Sym} {a q : Nat} {σ : List Nat} {it : Item}, Right l t x a → x.1 = 2 → q < S.length → it ∈ S.getD q [] → nextS l it = some x → (looksI lk it).testBit (colAt T w (a + leaves t)) = true → a + leaves t ≤ w.length → (∃ r, w.drop a = yieldT l t ++ r) →
    ∃ s, s < S.length ∧ advI it ∈ S.getD s [] ∧ LRun l T Nx S w (q :: σ) a (upX l t) (s :: q :: σ) (a + leaves t)
  | .mk p k kids, x, a, q, σ, it, hr, hx, hq, hit, hn, hlk, ha, hy => by
    have hp : 0 ≤ p := by
      rcases right_kind hr with ⟨h1, _⟩ | ⟨_, h1⟩
      · omega
      · exact h1
    obtain ⟨_, h2, h3, h4, h5⟩ := right_x hr hp
    subst h4
    have hlv : leaves (.mk p 0 kids) = leavess kids := by rw [leaves, if_neg (by omega)]
    rw [hlv] at hlk ha ⊢
    rw [yieldT_eq] at hy
    obtain ⟨i, rfl⟩ := Int.eq_ofNat_of_zero_le hp
    obtain ⟨xk, xn⟩ := x
    have hx : xk = 2 := hx
    subst hx
    have h3 : (prodAt l (i : Int)).1 = xn := h3
    have hcT := col_le h (a + leavess kids)
    have hmem : (((i : Int), 0, (colAt T w (a + leavess kids) : Int)) : Item) ∈ S.getD q [] := shut_mem h.all hq hit ⟨xn, i, _, hn, by omega, h3, hcT, hlk, rfl⟩
    have hbody : bodyI l (i : Int) = (prodAt l (i : Int)).2 := by unfold bodyI; rw [if_neg (by omega)]
    obtain ⟨τ, s, k2, k3, k4, k5⟩ := sim_kids h (q := q) (σ := σ) (it := ((i : Int), 0, (colAt T w (a + leavess kids) : Int))) h5 hq hmem (by show (bodyI l (i : Int)).drop 0 = _; rw [hbody]; rfl) rfl ha hy
    have hmemL : prodAt l (i : Int) ∈ l := prodAt_mem hp h2
    have hN := h.syms _ hmemL
    obtain ⟨tq, g1, g2, g3⟩ := goto_ok h.all h.wide h.few h.terms hq (n := xn) (by rw [← h3]; exact ⟨hN.1, hN.2.1⟩) hit hn
    refine ⟨tq, g1, g3, ?_⟩
    have hlen := rights_len h5
    rw [upX_node (by omega) hlen]
    have hred : actAt l T Nx S s (colAt T w (a + leavess kids)) = (2, (i : Int)) := by
      refine reduce_act h.calm k2 hcT k3 ?_ ?_ rfl
      · show (i : Int) < _; omega
      · show (0 : Int) + _ = ((prodAt l (i : Int)).2.length : Int); omega
    exact k5.app (.reduce hred k4 (by rw [h3]; exact g2) .nil)
theorem sim_kids (h : LrH l T N lk Nx S w E F W R M) : ∀ {ks : List Tree} {b : List Sym} {a q : Nat} {σ : List Nat} {it : Item}, Rights l ks b a → q < S.length → it ∈ S.getD q [] → (bodyI l it.1).drop it.2.1.toNat = b → it.2.2 = (colAt T w (a + leavess ks) : Int) → a + leavess ks ≤ w.length → (∃ r, w.drop a = yields l ks b ++ r) →
    ∃ (τ : List Nat) (s : Nat), s < S.length ∧ ((it.1, it.2.1 + (b.length : Int), it.2.2) : Item) ∈ S.getD s [] ∧ (s :: τ).drop b.length = q :: σ ∧ LRun l T Nx S w (q :: σ) a (ks.flatMap (upX l)) (s :: τ) (a + leavess ks)
  | [], [], a, q, σ, it, hr, hq, hit, hb, hc, ha, hy => by
    refine ⟨σ, q, hq, ?_, rfl, .nil⟩
    have e : ((it.1, it.2.1 + (([] : List Sym).length : Int), it.2.2) : Item) = it := by
      obtain ⟨i1, i2, i3⟩ := it
      simp
    rw [e]; exact hit
  | [], _ :: _, a, q, σ, it, hr, hq, hit, hb, hc, ha, hy => by cases hr
  | .mk p k kids :: r, [], a, q, σ, it, hr, hq, hit, hb, hc, ha, hy => by cases hr
  | .mk p k kids :: r, y :: b, a, q, σ, it, hr, hq, hit, hb, hc, ha, hy => by
    rw [Rights] at hr
    obtain ⟨hr1, hr2⟩ := hr
    obtain ⟨b1, b2, b3⟩ := drop_cons hb
    have hR := state_right h.all hq it hit
    have hn : nextS l it = some y := b1
    rw [leavess] at hc ha
    have hadv : (advI it).2.1.toNat = it.2.1.toNat + 1 := by
      show (it.2.1 + 1).toNat = _
      have := hR.2.2.1
      omega
    have hb' : (bodyI l (advI it).1).drop (advI it).2.1.toNat = b := by rw [hadv]; exact b2
    have hitem : (((advI it).1, (advI it).2.1 + (b.length : Int), (advI it).2.2) : Item) = (it.1, it.2.1 + ((y :: b).length : Int), it.2.2) := by
      show (it.1, it.2.1 + 1 + (b.length : Int), it.2.2) = _
      rw [List.length_cons]
      have : it.2.1 + 1 + (b.length : Int) = it.2.1 + ((b.length + 1 : Nat) : Int) := by omega
      rw [this]
    have hdrop : ∀ {ρ : List Nat} {s : Nat}, ρ.drop b.length = s :: q :: σ → ρ.drop (y :: b).length = q :: σ := fun {ρ s} hd => by
      rw [List.length_cons, Nat.add_comm, ← List.drop_drop]
      rw [Nat.add_comm] at *
      have : ρ.drop (b.length + 1) = (ρ.drop b.length).drop 1 := by rw [List.drop_drop]
      first
        | (rw [List.drop_drop]; rw [Nat.add_comm 1 b.length]; rw [this, hd]; rfl)
        | (rw [List.drop_drop, this, hd]; rfl)
    rw [yields_X] at hy
    rw [List.flatMap_cons, leavess]
    rcases right_kind hr1 with ⟨hy1, rfl, rfl⟩ | ⟨hy1, hp⟩
    · have hlf : leaves (.mk (-1) k []) = 1 := by rw [leaves, if_pos (by decide)]
      rw [hlf] at hc ha hr2 ⊢
      have hk : k = (a : Int) := by
        rw [Right] at hr1
        rcases hr1 with ⟨_, _, h3, _⟩ | ⟨_, h3, _⟩
        · exact h3
        · omega
      subst hk
      have hyX : yieldX l (.mk (-1) (a : Int) []) y = [y.2] := by unfold yieldX; rw [if_pos (by show (-1 : Int) < 0; decide)]
      rw [hyX] at hy
      obtain ⟨rr, hy⟩ := hy
      rw [List.append_assoc, List.singleton_append] at hy
      obtain ⟨c1, c2, c3, c4⟩ := col_at h hy
      obtain ⟨yk, yn⟩ := y
      have hy1 : yk = 1 := hy1
      subst hy1
      obtain ⟨t, rfl⟩ := Int.eq_ofNat_of_zero_le c3
      have c2 : ((colAt T w a : Nat) : Int) = (t : Int) := c2
      have c2 : colAt T w a = t := by omega
      obtain ⟨s, s1, s2, s3⟩ := shift_act h.all h.wide h.few h.terms h.calm hq (by omega : t < T) hit hn
      have hd1 : w.drop (a + 1) = yields l r b ++ rr := by
        rw [← List.drop_drop, hy]; rfl
      obtain ⟨τ, s', g1, g2, g3, g4⟩ := sim_kids h (q := s) (σ := q :: σ) (it := advI it) hr2 s1 s3 hb' (by show it.2.2 = _; rw [hc]; congr 2; omega) (by omega) ⟨rr, hd1⟩
      rw [hitem] at g2
      refine ⟨τ, s', g1, g2, hdrop g3, ?_⟩
      rw [show a + (1 + leavess r) = a + 1 + leavess r by omega, upX_leaf]
      exact .shift c1 (by rw [c2]; exact s2) g4
    · have hy2 : y.1 = 2 := by
        rcases body_syms h.syms h.nons (p := it.1) y (List.mem_of_getElem? b1) with h' | h'
        · exact absurd h' hy1
        · exact h'.1
      have hyX : yieldX l (.mk p k kids) y = yieldT l (.mk p k kids) := by unfold yieldX; rw [if_neg (by show ¬ p < 0; omega)]
      rw [hyX] at hy
      obtain ⟨rr, hy⟩ := hy
      rw [List.append_assoc] at hy
      have hbs : ∀ x ∈ b, x.1 = 1 ∨ x.1 = 2 := fun x hx => by
        rcases body_syms h.syms h.nons (p := it.1) x (by rw [← b2] at hx; exact List.mem_of_mem_drop hx) with h' | h'
        · exact .inl h'
        · exact .inr h'.1
      have hyl : (yieldT l (.mk p k kids)).length = leaves (.mk p k kids) := by rw [← hyX]; exact yieldX_len hr1
      have hd1 : w.drop (a + leaves (.mk p k kids)) = yields l r b ++ rr := by
        rw [← List.drop_drop, hy, ← hyl, List.drop_left]
      have hlk := looks_has (w := w) (u := a + leaves (.mk p k kids)) h.facts h.syms h.looks h.terms h.word hR b2 hbs hr2 ⟨rr, hd1⟩ (by omega) (by rw [hc]; congr 2; omega)
      obtain ⟨s, s1, s3, s4⟩ := sim_tree h (σ := σ) hr1 hy2 hq hit hn hlk (by omega) ⟨_, hy⟩
      obtain ⟨τ, s', g1, g2, g3, g4⟩ := sim_kids h (q := s) (σ := q :: σ) (it := advI it) hr2 s1 s3 hb' (by show it.2.2 = _; rw [hc]; congr 2; omega) (by omega) ⟨rr, hd1⟩
      rw [hitem] at g2
      refine ⟨τ, s', g1, g2, hdrop g3, ?_⟩
      rw [show a + (leaves (.mk p k kids) + leavess r) = a + leaves (.mk p k kids) + leavess r by omega]
      exact s4.app g4
end
/-- each tree of the word is built, and accepted -/
theorem tree_runs (h : LrH l T N lk Nx S w E F W R M) {t : Tree} (ht : Right l t (2, 0) 0) (hy : yieldT l t = w) : ∃ s ρ, LRun l T Nx S w [0] 0 (upX l t) (s :: ρ) w.length ∧ actAt l T Nx S s (colAt T w w.length) = (3, 0) := by
  have hp : 0 ≤ t.prod := by
    obtain ⟨p, k, kids⟩ := t
    rcases right_kind ht with ⟨h1, _⟩ | ⟨_, h1⟩
    · cases h1
    · exact h1
  have hl : leaves t = w.length := by
    have := yieldX_len ht
    unfold yieldX at this
    rw [if_neg (by omega), hy] at this
    exact this.symm
  have hcol : colAt T w w.length = T := by unfold colAt; rw [if_neg (Nat.lt_irrefl _)]
  have h0 := (List.getElem?_eq_some_iff.1 h.all.start).1
  have hget : S.getD 0 [] = startI l T lk := by rw [List.getD_eq_getElem?_getD, h.all.start]; rfl
  have hst := start_right (l := l) (T := T) h.few h.terms
  have hit : (((l.length : Int), 0, (T : Int)) : Item) ∈ S.getD 0 [] := by
    rw [hget]; exact (closed_mem (lk := lk) h.wide h.few h.terms hst).2 (.base (List.mem_singleton.2 rfl))
  have hbody : bodyI l (l.length : Int) = [(2, 0)] := by unfold bodyI; rw [if_pos rfl]
  have hn : nextS l ((l.length : Int), 0, (T : Int)) = some (2, 0) := by
    show (bodyI l (l.length : Int))[0]? = _
    rw [hbody]; rfl
  obtain ⟨s, s1, s2, s3⟩ := sim_tree h (σ := []) ht rfl h0 hit hn (by
    rw [Nat.zero_add, hl]
    have hR := state_right h.all h0 _ hit
    refine (looks_bit (by have := col_le h w.length; have := h.terms; omega) hR.2.2.2.2.1).2 (.inr ⟨?_, by show (T : Int) = _; rw [hcol]⟩)
    rw [h.looks _ _ hR.1 hR.2.1 hR.2.2.1]
    show (beginF E F ((bodyI l (l.length : Int)).drop 1) (2 ^ 62)).testBit 62 = true
    rw [hbody]
    show (0 ||| 2 ^ 62 : Nat).testBit 62 = true
    decide) (by omega) ⟨[], by rw [hy]; simp⟩
  rw [Nat.zero_add, hl] at s3
  refine ⟨s, [0], s3, ?_⟩
  rw [hcol]
  exact accept_act h.calm s1 s2
end
end Go.Proofs.Ytlojfbnimmdehaa.itemL

/- LrN -/
namespace Go.Proofs.Ytlojfbnimmdehaa.itemL
open gramL treeL countL factsL smallL derL
open llL (colAt)
section
variable {l : List gramL.Prod} {T N : Nat} {lk : Int → Int → Nat} {Nx : List (List Int)} {S : List (List Item)}
/-- a stack: states, the last one first, and the trees between them -/
inductive Stk (l : List gramL.Prod) (T N : Nat) (lk : Int → Int → Nat) (S : List (List Item)) : List Nat → List (Sym × Tree) → Nat → Prop
  | start : Stk l T N lk S [0] [] 0
  | push {q s : Nat} {σ : List Nat} {ts : List (Sym × Tree)} {a : Nat} {x : Sym} {t : Tree} (h : Stk l T N lk S (q :: σ) ts a) (hs : s < S.length) (hx : S.getD s [] = stepI l T lk (S.getD q []) x) (hne : stepI l T lk (S.getD q []) x ≠ []) (ht : Right l t x a) : Stk l T N lk S (s :: q :: σ) ((x, t) :: ts) (a + leaves t)
/-- what they yield, and tell -/
def yieldK (l : List gramL.Prod) (ts : List (Sym × Tree)) : List Int := ts.reverse.flatMap fun x => yieldX l x.2 x.1
def upK (l : List gramL.Prod) (ts : List (Sym × Tree)) : List Sym := ts.reverse.flatMap fun x => upX l x.2
theorem yieldK_cons (x : Sym) (t : Tree) (ts : List (Sym × Tree)) : yieldK l ((x, t) :: ts) = yieldK l ts ++ yieldX l t x := by unfold yieldK; simp
theorem upK_cons (x : Sym) (t : Tree) (ts : List (Sym × Tree)) : upK l ((x, t) :: ts) = upK l ts ++ upX l t := by unfold upK; simp
theorem Stk.ne {σ : List Nat} {ts : List (Sym × Tree)} {a : Nat} (h : Stk l T N lk S σ ts a) : ∃ q ρ, σ = q :: ρ := by cases h <;> exact ⟨_, _, rfl⟩
theorem Stk.len {σ : List Nat} {ts : List (Sym × Tree)} {a : Nat} (h : Stk l T N lk S σ ts a) : σ.length = ts.length + 1 := by
  induction h with
  | start => rfl
  | push _ _ _ _ _ ih => rw [List.length_cons, ih, List.length_cons]
theorem Rights_app : ∀ {ks ks' : List Tree} {b b' : List Sym} {a : Nat}, Rights l ks b a → Rights l ks' b' (a + leavess ks) → Rights l (ks ++ ks') (b ++ b') a
  | [], _, [], _, _, _, h => h
  | [], _, _ :: _, _, _, h, _ => by rw [Rights] at h; exact h.elim
  | _ :: _, _, [], _, _, h, _ => by rw [Rights] at h; exact h.elim
  | k :: r, _, y :: b, _, a, h, h' => by
    rw [Rights] at h
    rw [List.cons_append, List.cons_append, Rights]
    refine ⟨h.1, Rights_app h.2 ?_⟩
    rw [leavess] at h'
    rw [Nat.add_assoc]; exact h'
theorem leavess_app : ∀ (ks ks' : List Tree), leavess (ks ++ ks') = leavess ks + leavess ks'
  | [], ks' => by simp [leavess]
  | k :: r, ks' => by rw [List.cons_append, leavess, leavess, leavess_app r, Nat.add_assoc]
theorem yields_map : ∀ (us : List (Sym × Tree)), yields l (us.map (·.2)) (us.map (·.1)) = us.flatMap fun x => yieldX l x.2 x.1
  | [] => rfl
  | (x, t) :: r => by rw [List.map_cons, List.map_cons, yields_X, yields_map r, List.flatMap_cons]
section
variable (hI : AllI l T N lk S.length Nx S) (hw : ∀ q ∈ l, q.2.length ≤ 8) (hl : l.length ≤ 40) (hT : T ≤ 30)
include hI hw hl hT
omit hw hl hT in
theorem stk_lt {q : Nat} {σ : List Nat} {ts : List (Sym × Tree)} {a : Nat} (h : Stk l T N lk S (q :: σ) ts a) : q < S.length := by
  cases h with
  | start => exact (List.getElem?_eq_some_iff.1 hI.start).1
  | push _ hs _ _ _ => exact hs
omit hw hl hT in
theorem s0_get : S.getD 0 [] = startI l T lk := by rw [List.getD_eq_getElem?_getD, hI.start]; rfl
omit hI in
/-- what stands in a state: come to over a symbol, or come up there -/
theorem step_item {s : List Item} (hs : ∀ it ∈ s, RightI l T it) {x : Sym} {it : Item} (h : it ∈ stepI l T lk s x) : (∃ it' ∈ s, nextS l it' = some x ∧ it = advI it') ∨ ∃ it2 ∈ stepI l T lk s x, ExpI l T lk it2 it := by
  have hm := (closed_mem (lk := lk) hw hl hT (over_right (x := x) hs) (x := it)).1 h
  cases hm with
  | base hb =>
    obtain ⟨it', h1, h2, h3⟩ := mem_over.1 hb
    exact .inl ⟨it', h1, h2, h3⟩
  | step h1 h2 => exact .inr ⟨_, (closed_mem (lk := lk) hw hl hT (over_right hs)).2 h1, h2⟩
omit hI hw hl hT in
theorem exp_dot {it2 it : Item} (h : ExpI l T lk it2 it) : it.2.1 = 0 ∧ it.1 < (l.length : Int) ∧ 0 ≤ it.1 := by
  obtain ⟨_, i, k, _, h2, _, _, _, rfl⟩ := h
  exact ⟨rfl, by show (i : Int) < _; omega, by show (0 : Int) ≤ i; omega⟩
/-- one symbol back -/
theorem stk_back {q : Nat} {σ : List Nat} {ts : List (Sym × Tree)} {a : Nat} (h : Stk l T N lk S (q :: σ) ts a) {it : Item} (hit : it ∈ S.getD q []) (hd : it.2.1 ≠ 0) :
    ∃ (q' : Nat) (σ' : List Nat) (x : Sym) (t : Tree) (ts' : List (Sym × Tree)) (a' : Nat) (it' : Item), σ = q' :: σ' ∧ ts = (x, t) :: ts' ∧ Stk l T N lk S (q' :: σ') ts' a' ∧ Right l t x a' ∧ a = a' + leaves t ∧ it' ∈ S.getD q' [] ∧ nextS l it' = some x ∧ it = advI it' := by
  cases h with
  | start =>
    exfalso
    rw [s0_get hI] at hit
    have hm := (closed_mem (lk := lk) hw hl hT (start_right hl hT) (x := it)).1 hit
    cases hm with
    | base hb => rw [List.mem_singleton.1 hb] at hd; exact hd rfl
    | step h1 h2 => exact hd (exp_dot h2).1
  | push h hs hx hne ht =>
    have hq := stk_lt hI h
    rw [hx] at hit
    rcases step_item hw hl hT (state_right hI hq) hit with ⟨it', h1, h2, h3⟩ | ⟨it2, h1, h2⟩
    · exact ⟨_, _, _, _, _, _, it', rfl, rfl, h, ht, rfl, h1, h2, h3⟩
    · exact absurd (exp_dot h2).1 hd
/-- as far back as the dot is -/
theorem stk_backs : ∀ (d : Nat) {q : Nat} {σ : List Nat} {ts : List (Sym × Tree)} {a : Nat}, Stk l T N lk S (q :: σ) ts a → ∀ {it : Item}, it ∈ S.getD q [] → it.2.1 = (d : Int) →
    ∃ (q' : Nat) (σ' : List Nat) (us ts' : List (Sym × Tree)) (a' : Nat), (q :: σ).drop d = q' :: σ' ∧ ts = us ++ ts' ∧ us.length = d ∧ Stk l T N lk S (q' :: σ') ts' a' ∧ Rights l (us.reverse.map (·.2)) ((bodyI l it.1).take d) a' ∧ us.reverse.map (·.1) = (bodyI l it.1).take d ∧ a = a' + leavess (us.reverse.map (·.2)) ∧ ((it.1, 0, it.2.2) : Item) ∈ S.getD q' []
  | 0, q, σ, ts, a, h, it, hit, hd => by
    refine ⟨q, σ, [], ts, a, rfl, rfl, rfl, h, ?_, rfl, rfl, ?_⟩
    · show Rights l [] [] a
      rw [Rights]; trivial
    · obtain ⟨p, d, k⟩ := it
      dsimp only at hd
      subst hd
      exact hit
  | d + 1, q, σ, ts, a, h, it, hit, hd => by
    obtain ⟨q1, σ1, x, t, ts1, a1, it1, rfl, rfl, h1, ht, rfl, hit1, hn, rfl⟩ := stk_back hI hw hl hT h hit (by omega)
    have hd1 : it1.2.1 = (d : Int) := by have : (advI it1).2.1 = it1.2.1 + 1 := rfl; omega
    obtain ⟨q', σ', us, ts', a', e1, rfl, e3, e4, e5, e6, rfl, e8⟩ := stk_backs d h1 hit1 hd1
    have hb : (bodyI l it1.1).take (d + 1) = (bodyI l it1.1).take d ++ [x] := by
      unfold nextS at hn
      rw [hd1, Int.toNat_natCast] at hn
      obtain ⟨h2, h3⟩ := List.getElem?_eq_some_iff.1 hn
      rw [List.take_succ_eq_append_getElem h2, h3]
    refine ⟨q', σ', (x, t) :: us, ts', a', ?_, rfl, by rw [List.length_cons, e3], e4, ?_, ?_, ?_, e8⟩
    · rw [List.drop_succ_cons]; exact e1
    · show Rights l (((x, t) :: us).reverse.map (·.2)) ((bodyI l it1.1).take (d + 1)) a'
      rw [hb, List.reverse_cons, List.map_append]
      refine Rights_app e5 ?_
      show Rights l [t] [x] _
      rw [Rights, Rights]
      exact ⟨ht, trivial⟩
    · show ((x, t) :: us).reverse.map (·.1) = (bodyI l it1.1).take (d + 1)
      rw [hb, List.reverse_cons, List.map_append, e6]
      rfl
    · rw [List.reverse_cons, List.map_append, leavess_app]
      show _ = a' + (_ + leavess [t])
      rw [leavess, leavess]
      omega
/-- the WHOLE has just begun: at the bottom -/
theorem stk_bottom {q : Nat} {σ : List Nat} {ts : List (Sym × Tree)} {a : Nat} (h : Stk l T N lk S (q :: σ) ts a) {k : Int} (hit : (((l.length : Int), 0, k) : Item) ∈ S.getD q []) : σ = [] ∧ q = 0 ∧ ts = [] ∧ a = 0 := by
  cases h with
  | start => exact ⟨rfl, rfl, rfl, rfl⟩
  | push h hs hx hne ht =>
    exfalso
    have hq := stk_lt hI h
    rw [hx] at hit
    rcases step_item hw hl hT (state_right hI hq) hit with ⟨it', h1, h2, h3⟩ | ⟨it2, h1, h2⟩
    · have h4 := state_right hI hq it' h1
      have h5 : (advI it').2.1 = it'.2.1 + 1 := rfl
      rw [← h3] at h5
      have := h4.2.2.1
      have h6 : (0 : Int) = it'.2.1 + 1 := h5
      omega
    · have := (exp_dot h2).2.1
      have h3 : (l.length : Int) < (l.length : Int) := this
      omega
/-- what can be accepted is a tree -/
theorem stk_accept {q : Nat} {σ : List Nat} {ts : List (Sym × Tree)} {a : Nat} (h : Stk l T N lk S (q :: σ) ts a) {k : Int} (hit : (((l.length : Int), 1, k) : Item) ∈ S.getD q []) : ∃ t, ts = [((2, 0), t)] ∧ Right l t (2, 0) 0 := by
  obtain ⟨q', σ', us, ts', a', e1, rfl, e3, e4, e5, e6, e7, e8⟩ := stk_backs hI hw hl hT 1 h hit rfl
  obtain ⟨rfl, rfl, rfl, rfl⟩ := stk_bottom hI hw hl hT e4 e8
  have hb : (bodyI l (l.length : Int)).take 1 = [(2, 0)] := by unfold bodyI; rw [if_pos rfl]; rfl
  match us, e3 with
  | [(x, t)], _ =>
    rw [hb] at e5 e6
    simp only [List.reverse_cons, List.reverse_nil, List.nil_append, List.map_cons, List.map_nil, List.cons.injEq, and_true] at e5 e6
    subst e6
    rw [Rights] at e5
    exact ⟨t, rfl, e5.1⟩
/-- reduced: a tree more in place of its kids -/
theorem stk_reduce {q tq r : Nat} {σ ρ : List Nat} {ts : List (Sym × Tree)} {a : Nat} (h : Stk l T N lk S (q :: σ) ts a) {p k : Int} (h0 : 0 ≤ p) (h1 : p < (l.length : Int)) (hit : ((p, ((prodAt l p).2.length : Int), k) : Item) ∈ S.getD q []) (hd : (q :: σ).drop (prodAt l p).2.length = r :: ρ) (htq : tq < S.length) (hx : S.getD tq [] = stepI l T lk (S.getD r []) (2, (prodAt l p).1)) (hne : stepI l T lk (S.getD r []) (2, (prodAt l p).1) ≠ []) :
    ∃ ts2, Stk l T N lk S (tq :: r :: ρ) ts2 a ∧ yieldK l ts2 = yieldK l ts ∧ upK l ts2 = upK l ts ++ [(4, p)] := by
  obtain ⟨q', σ', us, ts', a', e1, rfl, e3, e4, e5, e6, rfl, e8⟩ := stk_backs hI hw hl hT _ h hit rfl
  rw [hd] at e1
  obtain ⟨rfl, rfl⟩ := List.cons.inj e1
  have hb : bodyI l p = (prodAt l p).2 := by unfold bodyI; rw [if_neg (by omega)]
  have hb2 : (bodyI l p).take (prodAt l p).2.length = (prodAt l p).2 := by rw [hb]; exact List.take_length
  dsimp only at e5 e6
  rw [hb2] at e5 e6
  have hle := rights_len e5
  have hR : Right l (.mk p 0 (us.reverse.map (·.2))) (2, (prodAt l p).1) a' := by
    rw [Right]
    exact .inr ⟨fun h => absurd (show (2 : Int) = 1 from h) (by decide), h0, h1, rfl, rfl, e5⟩
  have hlv : leaves (.mk p 0 (us.reverse.map (·.2))) = leavess (us.reverse.map (·.2)) := by rw [leaves, if_neg (by omega)]
  have hst := Stk.push e4 htq hx hne hR
  rw [hlv] at hst
  refine ⟨_, hst, ?_, ?_⟩
  · rw [yieldK_cons]
    have hy : yieldK l (us ++ ts') = yieldK l ts' ++ us.reverse.flatMap fun x => yieldX l x.2 x.1 := by unfold yieldK; simp
    rw [hy]
    congr 1
    have hX : yieldX l (.mk p 0 (us.reverse.map (·.2))) (2, (prodAt l p).1) = yields l (us.reverse.map (·.2)) (prodAt l p).2 := by
      unfold yieldX
      rw [if_neg (by show ¬ p < 0; omega)]
      exact yieldT_eq ..
    rw [hX, ← e6]
    exact yields_map _
  · rw [upK_cons]
    have hy : upK l (us ++ ts') = upK l ts' ++ us.reverse.flatMap fun x => upX l x.2 := by unfold upK; simp
    rw [hy, upX_node h0 hle, List.append_assoc]
    congr 2
    rw [List.flatMap_map]
end
end
end Go.Proofs.Ytlojfbnimmdehaa.itemL

/- ClimbL -/
namespace Go.Proofs.Ytlojfbnimmdehaa.climbL
open gramL treeL countL factsL derL llL
inductive TD where
  | sym (x : Sym)
  | close (p : Int)
/-- the ends that are next go -/
def closesF : List TD → List Sym → Nat → List TD × List Sym × Nat × Bool
  | [], out, a => ([], out, a, true)
  | .sym x :: r, out, a => (.sym x :: r, out, a, true)
  | .close p :: r, out, a => if a + 1 ≤ 2000 then closesF r (out ++ [(3, p)]) (a + 1) else (r, out ++ [(3, p)], a + 1, false)
def opened (l : List gramL.Prod) (p : Int) (r : List TD) : List TD := (prodAt l p).2.map .sym ++ .close p :: r
def downF (l : List gramL.Prod) (nx : Int → Int) : Nat → List TD → List Sym → Nat → List TD × List Sym × Nat × Int
  | 0, st, out, a => (st, out, a, 14)
  | f + 1, st, out, a =>
    if (closesF st out a).2.2.2 = false then ((closesF st out a).1, (closesF st out a).2.1, (closesF st out a).2.2.1, 14) else
    match (closesF st out a).1 with
    | .sym x :: r =>
      if x.1 = 1 then ((closesF st out a).1, (closesF st out a).2.1, (closesF st out a).2.2.1, 0)
      else if nx x.2 < 0 then ((closesF st out a).1, (closesF st out a).2.1, (closesF st out a).2.2.1, 13)
      else if (closesF st out a).2.2.1 + 1 ≤ 2000 ∧ (opened l (nx x.2) r).length ≤ 60 then downF l nx f (opened l (nx x.2) r) ((closesF st out a).2.1 ++ [(1, nx x.2)]) ((closesF st out a).2.2.1 + 1)
      else (opened l (nx x.2) r, (closesF st out a).2.1 ++ [(1, nx x.2)], (closesF st out a).2.2.1 + 1, 14)
    | _ => ((closesF st out a).1, (closesF st out a).2.1, (closesF st out a).2.2.1, 0)
/-- one token: what goes wrong, what is ahead then, what is told -/
def pushF (l : List gramL.Prod) (nx : Int → Int) (st : List TD) (seen : Nat) (t : Int) : Int × List TD × List Sym :=
  match downF l nx 2001 st [] 0 with
  | (st1, out1, a1, e) =>
    if e ≠ 0 then (e, [], []) else
    match st1 with
    | .sym x :: r => if x.2 ≠ t then (13, [], []) else if a1 + 1 ≤ 2000 ∧ (closesF r (out1 ++ [(2, (seen : Int))]) (a1 + 1)).2.2.2 = true then (0, (closesF r (out1 ++ [(2, (seen : Int))]) (a1 + 1)).1, (closesF r (out1 ++ [(2, (seen : Int))]) (a1 + 1)).2.1) else (14, [], [])
    | _ => (13, [], [])
def endF (l : List gramL.Prod) (nx : Int → Int) (st : List TD) : Int × List Sym :=
  match downF l nx 2001 st [] 0 with
  | (st1, out1, _, e) => if e ≠ 0 then (e, []) else match st1 with | [] => (0, out1) | _ => (13, [])
def runF (l : List gramL.Prod) (nx : Int → Nat → Int) (T : Nat) : List Int → List TD → Nat → List Sym → List Sym × Nat × Int
  | [], st, a, out => (out ++ (endF l (fun n => nx n T) st).2, a, (endF l (fun n => nx n T) st).1)
  | t :: r, st, a, out =>
    if (pushF l (fun n => nx n t.toNat) st a t).1 ≠ 0 then (out, a, (pushF l (fun n => nx n t.toNat) st a t).1)
    else runF l nx T r (pushF l (fun n => nx n t.toNat) st a t).2.1 (a + 1) (out ++ (pushF l (fun n => nx n t.toNat) st a t).2.2)

/-! ### what is still to come: events, a word -/
inductive Rem (l : List gramL.Prod) (C : Int → Nat → Int → Prop) : List TD → Nat → List Sym → List Int → Prop
  | nil {u : Nat} : Rem l C [] u [] []
  | term {x : Sym} {st : List TD} {u : Nat} {E : List Sym} {w : List Int} (hx : x.1 = 1) (h : Rem l C st (u + 1) E w) : Rem l C (.sym x :: st) u ((2, (u : Int)) :: E) (x.2 :: w)
  | close {p : Int} {st : List TD} {u : Nat} {E : List Sym} {w : List Int} (h : Rem l C st u E w) : Rem l C (.close p :: st) u ((3, p) :: E) w
  | opn {x : Sym} {p : Int} {st : List TD} {u : Nat} {E : List Sym} {w : List Int} (hx : x.1 ≠ 1) (h0 : 0 ≤ p) (h1 : p < (l.length : Int)) (h2 : (prodAt l p).1 = x.2) (hc : C x.2 u p) (h : Rem l C (opened l p st) u E w) : Rem l C (.sym x :: st) u ((1, p) :: E) w
section
variable {l : List gramL.Prod} {C : Int → Nat → Int → Prop}
theorem closes_det : ∀ {st : List TD} {out : List Sym} {a u : Nat} {E : List Sym} {w : List Int}, Rem l C st u E w → ∃ E1 E2, E = E1 ++ E2 ∧ (closesF st out a).2.1 = out ++ E1 ∧ Rem l C (closesF st out a).1 u E2 w
  | [], out, a, u, E, w, h => ⟨[], E, rfl, by simp [closesF], h⟩
  | .sym x :: r, out, a, u, E, w, h => ⟨[], E, rfl, by simp [closesF], h⟩
  | .close p :: r, out, a, u, E, w, h => by
    cases h with
    | close h =>
      unfold closesF
      split
      · obtain ⟨E1, E2, h1, h2, h3⟩ := closes_det (out := out ++ [(3, p)]) (a := a + 1) h
        exact ⟨(3, p) :: E1, E2, by rw [h1]; rfl, by rw [h2]; simp, h3⟩
      · exact ⟨[(3, p)], _, rfl, rfl, h⟩
/-- what is next behind the ends -/
theorem closes_top : ∀ {st : List TD} {out : List Sym} {a : Nat}, (closesF st out a).2.2.2 = true → (closesF st out a).1 = [] ∨ ∃ x r, (closesF st out a).1 = .sym x :: r
  | [], out, a, _ => .inl rfl
  | .sym x :: r, out, a, _ => .inr ⟨x, r, rfl⟩
  | .close p :: r, out, a, h => by
    unfold closesF at h ⊢
    split
    · rename_i c; rw [if_pos c] at h; exact closes_top h
    · rename_i c; rw [if_neg c] at h; cases h
/-- the steps of down, as cases -/
theorem down_cases {nx : Int → Int} {f : Nat} {st : List TD} {out : List Sym} {a : Nat} {R : List TD × List Sym × Nat × Int} (h : downF l nx (f + 1) st out a = R) :
    ((closesF st out a).2.2.2 = false ∧ R.2.2.2 = 14) ∨ ((closesF st out a).2.2.2 = true ∧
      (((closesF st out a).1 = [] ∧ R = ([], (closesF st out a).2.1, (closesF st out a).2.2.1, 0)) ∨
       ∃ x r, (closesF st out a).1 = .sym x :: r ∧ ((x.1 = 1 ∧ R = (.sym x :: r, (closesF st out a).2.1, (closesF st out a).2.2.1, 0)) ∨ (x.1 ≠ 1 ∧ nx x.2 < 0 ∧ R.2.2.2 = 13) ∨
         (x.1 ≠ 1 ∧ 0 ≤ nx x.2 ∧ ((((closesF st out a).2.2.1 + 1 ≤ 2000 ∧ (opened l (nx x.2) r).length ≤ 60) ∧ downF l nx f (opened l (nx x.2) r) ((closesF st out a).2.1 ++ [(1, nx x.2)]) ((closesF st out a).2.2.1 + 1) = R) ∨ R.2.2.2 = 14))))) := by
  unfold downF at h
  cases hc : (closesF st out a).2.2.2 with
  | false => rw [hc, if_pos rfl] at h; subst h; exact .inl ⟨rfl, rfl⟩
  | true =>
    rw [hc, if_neg (by simp)] at h
    refine .inr ⟨rfl, ?_⟩
    rcases closes_top hc with he | ⟨x, r, he⟩
    · rw [he] at h ⊢
      exact .inl ⟨rfl, h.symm⟩
    · rw [he] at h ⊢
      dsimp only at h
      refine .inr ⟨x, r, rfl, ?_⟩
      by_cases c1 : x.1 = 1
      · rw [if_pos c1] at h; exact .inl ⟨c1, h.symm⟩
      · rw [if_neg c1] at h
        by_cases c2 : nx x.2 < 0
        · rw [if_pos c2] at h; subst h; exact .inr (.inl ⟨c1, c2, rfl⟩)
        · rw [if_neg c2] at h
          refine .inr (.inr ⟨c1, by omega, ?_⟩)
          split at h
          · rename_i c3; exact .inl ⟨c3, h⟩
          · subst h; exact .inr rfl
theorem down_top {nx : Int → Int} : ∀ {f : Nat} {st : List TD} {out : List Sym} {a : Nat} {R : List TD × List Sym × Nat × Int}, downF l nx f st out a = R → R.2.2.2 = 0 → R.1 = [] ∨ ∃ x r, R.1 = .sym x :: r ∧ x.1 = 1
  | 0, st, out, a, R, h, h0 => by subst h; cases h0
  | f + 1, st, out, a, R, h, h0 => by
    rcases down_cases h with ⟨_, e⟩ | ⟨_, ⟨_, rfl⟩ | ⟨x, r, _, ⟨c, rfl⟩ | ⟨_, _, e⟩ | ⟨_, _, ⟨_, e⟩ | e⟩⟩⟩
    · omega
    · exact .inl rfl
    · exact .inr ⟨x, r, rfl, c⟩
    · omega
    · exact down_top e h0
    · omega
/-- what is to come, in the way of the table, is told -/
theorem down_det {nx : Int → Int} {u : Nat} (hC : ∀ n p, C n u p → nx n = p) : ∀ {f : Nat} {st : List TD} {out : List Sym} {a : Nat} {R : List TD × List Sym × Nat × Int}, downF l nx f st out a = R → ∀ {E w}, Rem l C st u E w → R.2.2.2 = 14 ∨ (R.2.2.2 = 0 ∧ ∃ E1 E2, E = E1 ++ E2 ∧ R.2.1 = out ++ E1 ∧ Rem l C R.1 u E2 w)
  | 0, st, out, a, R, h, E, w, hr => by subst h; exact .inl rfl
  | f + 1, st, out, a, R, h, E, w, hr => by
    obtain ⟨E1, E2, z1, z2, z3⟩ := closes_det (out := out) (a := a) hr
    rcases down_cases h with ⟨_, e⟩ | ⟨_, ⟨e1, rfl⟩ | ⟨x, r, e1, ⟨c, rfl⟩ | ⟨c0, c1, e⟩ | ⟨c0, c, ⟨_, e⟩ | e⟩⟩⟩
    · exact .inl e
    · rw [e1] at z3; exact .inr ⟨rfl, E1, E2, z1, z2, z3⟩
    · rw [e1] at z3; exact .inr ⟨rfl, E1, E2, z1, z2, z3⟩
    · rw [e1] at z3
      cases z3 with
      | term hx _ => exact absurd hx c0
      | opn hx h0 h1 h2 hc h => rw [hC _ _ hc] at c1; omega
    · rw [e1] at z3
      cases z3 with
      | term hx _ => exact absurd hx c0
      | @opn _ p _ _ E3 _ hx h0 h1 h2 hc h =>
        rw [hC _ _ hc] at e
        rcases down_det hC e h with e' | ⟨e', E4, E5, y1, y2, y3⟩
        · exact .inl e'
        · refine .inr ⟨e', E1 ++ (1, p) :: E4, E5, by rw [z1, y1]; simp, by rw [y2, z2]; simp, y3⟩
    · exact .inl e
theorem push_det {nx : Int → Int} {st : List TD} {seen : Nat} {t : Int} (hC : ∀ n p, C n seen p → nx n = p) {R : Int × List TD × List Sym} (h : pushF l nx st seen t = R) {E : List Sym} {w : List Int} (hr : Rem l C st seen E (t :: w)) : R.1 = 14 ∨ (R.1 = 0 ∧ ∃ E2, E = R.2.2 ++ E2 ∧ Rem l C R.2.1 (seen + 1) E2 w) := by
  unfold pushF at h
  cases hd : downF l nx 2001 st [] 0 with
  | mk st1 R1 =>
  obtain ⟨out1, a1, e⟩ := R1
  rw [hd] at h
  dsimp only at h
  rcases down_det hC hd hr with e1 | ⟨e1, E1, E2, y1, y2, y3⟩
  · dsimp only at e1; subst e1; rw [if_pos (by decide)] at h; subst h; exact .inl rfl
  · dsimp only at e1 y2 y3; subst e1
    rw [if_neg (by simp)] at h
    rcases down_top hd rfl with e1 | ⟨x, r, e1, e2⟩
    · dsimp only at e1; subst e1; cases y3
    · dsimp only at e1; subst e1
      dsimp only at h
      cases y3 with
      | term hx h3 =>
        rw [if_neg (by simp)] at h
        split at h
        · rename_i c2
          subst h
          obtain ⟨E3, E4, z1, z2, z3⟩ := closes_det (out := out1 ++ [(2, (seen : Int))]) (a := a1 + 1) h3
          refine .inr ⟨rfl, E4, ?_, z3⟩
          dsimp only
          rw [y1, z2, y2, z1]; simp
        · subst h; exact .inl rfl
      | opn hx => exact absurd e2 hx
theorem end_det {nx : Int → Int} {st : List TD} {u : Nat} (hC : ∀ n p, C n u p → nx n = p) {R : Int × List Sym} (h : endF l nx st = R) {E : List Sym} (hr : Rem l C st u E []) : R.1 = 14 ∨ (R.1 = 0 ∧ R.2 = E) := by
  unfold endF at h
  cases hd : downF l nx 2001 st [] 0 with
  | mk st1 R1 =>
  obtain ⟨out1, a1, e⟩ := R1
  rw [hd] at h
  dsimp only at h
  rcases down_det hC hd hr with e1 | ⟨e1, E1, E2, y1, y2, y3⟩
  · dsimp only at e1; subst e1; rw [if_pos (by decide)] at h; subst h; exact .inl rfl
  · dsimp only at e1 y2 y3; subst e1
    rw [if_neg (by simp)] at h
    rcases down_top hd rfl with e1 | ⟨x, r, e1, e2⟩
    · dsimp only at e1; subst e1
      dsimp only at h
      subst h
      cases y3
      exact .inr ⟨rfl, by dsimp only; rw [y1, y2]; simp⟩
    · dsimp only at e1; subst e1
      cases y3 with
      | opn hx => exact absurd e2 hx
end
end Go.Proofs.Ytlojfbnimmdehaa.climbL

/- Opens -/
namespace Go.Proofs.Ytlojfbnimmdehaa.derL
open gramL treeL countL factsL
def partO (o : Sym → Nat → Nat → Nat) (x : Sym) (frm : Nat) (A : Nat → Bool) : Nat → Nat → Bool
  | 0, _ => false
  | k + 1, b => partO o x frm A k b || (A (frm + k) && decide (frm + k ≤ b) && decide (0 < o x (frm + k) b))
def anyO (p : Nat → Bool) (frm : Nat) : Nat → Bool
  | 0 => false
  | k + 1 => anyO p frm k || p (frm + k)
def opGo (o : Sym → Nat → Nat → Nat) (O : Nat → Nat → Bool) (n frm : Nat) : List Sym → (Nat → Bool) → Bool
  | [], A => A n
  | x :: r, A => if A n = true then true else if x.1 = 2 ∧ anyO (fun a => A a && O x.2.toNat a) frm (n + 1 - frm) = true then true else opGo o O n frm r (partO o x frm A (n + 1 - frm))
def opensF (o : Sym → Nat → Nat → Nat) (O : Nat → Nat → Bool) (M : List Bool) (n frm : Nat) (l : List Sym) : Bool := if allF M l true = true then opGo o O n frm l (fun b => decide (b = frm)) else false
section
end
section
end
end Go.Proofs.Ytlojfbnimmdehaa.derL

/- BeginL -/
namespace Go.Proofs.Ytlojfbnimmdehaa.derL
open gramL treeL countL factsL eng
def fal (N m : Nat) (O : Nat → Nat → Bool) : Nat := sumN (fun i => sumN (fun j => if O i j = true then 0 else 1) m) N
def SoundO (l : List gramL.Prod) (w : List Int) (O : Nat → Nat → Bool) : Prop := ∀ (k : Nat) a, O k a = true → a ≤ w.length → ∃ v, Der l (2, (k : Int)) (w.drop a ++ v)
/-- the pass: what it has come to -/
structure PassO (l : List gramL.Prod) (w : List Int) (o : Sym → Nat → Nat → Nat) (M : List Bool) (N : Nat) (O O' : Nat → Nat → Bool) (more : Bool) (i a : Nat) : Prop where
  sound : SoundO l w O'
  less : more = true → fal N (w.length + 1) O' < fal N (w.length + 1) O
  still : more = false → O' = O ∧ ∀ q a', (q < i ∨ (q = i ∧ a' < a)) → ∀ h : q < l.length, a' ≤ w.length → opensF o O M w.length a' l[q].2 = true → O l[q].1.toNat a' = true
section
variable {l : List gramL.Prod} {w : List Int} {n : Nat} {c : Chart} {M : List Bool} {O O' : Nat → Nat → Bool} {more : Bool} {i a : Nat}
theorem PassO.start (h : SoundO l w O) (o : Sym → Nat → Nat → Nat) (N : Nat) : PassO l w o M N O O false 0 0 := ⟨h, fun h => by (cases h), fun _ => ⟨rfl, fun q a' h => by omega⟩⟩
end
end Go.Proofs.Ytlojfbnimmdehaa.derL

/- ClimbM -/
namespace Go.Proofs.Ytlojfbnimmdehaa.climbL
open gramL treeL countL factsL derL llL
section
variable {l : List gramL.Prod} {C : Int → Nat → Int → Prop}
mutual
theorem right_der : ∀ {t : Tree} {x : Sym} {u : Nat}, Right l t x u → Der l x (yieldX l t x)
  | .mk p k kids, x, u, h => by
    rw [Right] at h
    rcases h with ⟨h1, rfl, rfl, rfl⟩ | ⟨h1, h2, h3, h4, rfl, h5⟩
    · unfold yieldX; rw [if_pos (by show (-1 : Int) < 0; omega)]; exact .term h1
    · unfold yieldX; rw [if_neg (by show ¬ p < 0; omega), yieldT_eq]
      exact .non h1 (prodAt_mem h2 h3) h4 (rights_der h5)
theorem rights_der : ∀ {ks : List Tree} {b : List Sym} {u : Nat}, Rights l ks b u → Ders l b (yields l ks b)
  | [], [], _, _ => .nil
  | [], _ :: _, _, h => by rw [Rights] at h; exact h.elim
  | _ :: _, [], _, h => by rw [Rights] at h; exact h.elim
  | t :: r, y :: b, u, h => by
    rw [Rights] at h
    rw [yields_X]
    exact .cons (right_der h.1) (rights_der h.2)
end
end
/-! ### whole words -/
section
variable {g : Gram} {T N : Nat}
def nxC (g : Gram) (T N : Nat) : Int → Nat → Int := fun n col => llL.rowAt g.prods (eng.mayG N g.prods) T n.toNat col
theorem drop_cons {W : List Int} {a : Nat} {t : Int} {r : List Int} (h : W.drop a = t :: r) : a < W.length ∧ W.getD a 0 = t ∧ W.drop (a + 1) = r := by
  have h1 : a < W.length := by
    rcases Nat.lt_or_ge a W.length with h1 | h1
    · exact h1
    · rw [List.drop_of_length_le h1] at h; cases h
  rw [List.drop_eq_getElem_cons h1] at h
  obtain ⟨e1, e2⟩ := List.cons.inj h
  exact ⟨h1, by rw [List.getD_eq_getElem?_getD, List.getElem?_eq_getElem h1, e1]; rfl, e2⟩
/-- a word of the grammar, or its beginning, is not refused -/
theorem run_det {W : List Int} : ∀ (r : List Int) (st : List TD) (a : Nat) (out : List Sym) {E : List Sym}, r = W.drop a → Rem g.prods (fun n u p => nxC g T N n (colAt T W u) = p) st a E r →
    (runF g.prods (nxC g T N) T r st a out).2.2 = 14 ∨ ((runF g.prods (nxC g T N) T r st a out).2.2 = 0 ∧ (runF g.prods (nxC g T N) T r st a out).1 = out ++ E ∧ (runF g.prods (nxC g T N) T r st a out).2.1 = a + r.length)
  | [], st, a, out, E, hr, h => by
    rw [runF]
    have hc : colAt T W a = T := by
      unfold colAt
      rw [if_neg]
      intro hl
      rw [List.drop_eq_getElem_cons hl] at hr
      cases hr
    rcases end_det (nx := fun n => nxC g T N n T) (fun n p h => by rw [hc] at h; exact h) rfl h with e | ⟨e1, e2⟩
    · exact .inl e
    · exact .inr ⟨e1, by rw [e2], rfl⟩
  | t :: r, st, a, out, E, hr, h => by
    rw [runF]
    obtain ⟨h1, h2, h3⟩ := drop_cons hr.symm
    have hc : colAt T W a = t.toNat := by unfold colAt; rw [if_pos h1, h2]
    rcases push_det (nx := fun n => nxC g T N n t.toNat) (t := t) (fun n p h => by rw [hc] at h; exact h) rfl h with e | ⟨e1, E2, e2, e3⟩
    · rw [if_pos (by rw [e]; decide)]; exact .inl e
    · rw [if_neg (by rw [e1]; simp)]
      rcases run_det r _ (a + 1) (out ++ (pushF g.prods (fun n => nxC g T N n t.toNat) st a t).2.2) h3.symm e3 with y | ⟨y1, y2, y3⟩
      · exact .inl y
      · exact .inr ⟨y1, by rw [y2, e2, List.append_assoc], by rw [y3]; simp; omega⟩
theorem top_prod {l : List gramL.Prod} {t : Tree} (h : Right l t (2, 0) 0) : 0 ≤ t.prod := by
  obtain ⟨p, k, kids⟩ := t
  rw [Right] at h
  rcases h with ⟨h, _⟩ | ⟨_, h, _⟩
  · cases h
  · exact h
theorem yieldX_top {l : List gramL.Prod} {t : Tree} (h : Right l t (2, 0) 0) : yieldX l t (2, 0) = yieldT l t := by
  unfold yieldX; rw [if_neg (by have := top_prod h; omega)]
end
end Go.Proofs.Ytlojfbnimmdehaa.climbL

/- LrP -/
namespace Go.Proofs.Ytlojfbnimmdehaa.itemL
open gramL treeL countL factsL smallL derL
open climbL (right_der rights_der yieldX_top top_prod)
open llL (colAt)
section
variable (l : List gramL.Prod) (act : Nat → Nat → Act) (gt : Nat → Int → Int)
/-- a production is done -/
def redB (σ : List Nat) (p : Int) : Option (List Nat) := match σ.drop (prodAt l p).2.length with
  | r :: ρ => if 0 ≤ gt r (prodAt l p).1 then some ((gt r (prodAt l p).1).toNat :: r :: ρ) else none
  | [] => none
/-- acts at a column, till a shift, or to accept -/
def runB (col a : Nat) : Nat → List Nat → List Sym → Int × List Nat × List Sym
  | 0, _, _ => (14, [], [])
  | f + 1, σ, o =>
    if f = 0 ∧ (act (σ.headD 0) col).1 ≠ 0 then (14, [], [])
    else if (act (σ.headD 0) col).1 = 3 then (0, σ, o)
    else if (act (σ.headD 0) col).1 = 1 then (if 60 < σ.length + 1 then (14, [], []) else (0, (act (σ.headD 0) col).2.toNat :: σ, o ++ [(2, (a : Int))]))
    else if (act (σ.headD 0) col).1 = 2 then (match redB l gt σ (act (σ.headD 0) col).2 with
      | none => (13, [], [])
      | some σ' => if 60 < σ'.length then (14, [], []) else runB col a f σ' (o ++ [(4, (act (σ.headD 0) col).2)]))
    else (13, [], [])
/-- a word: what is told, how many tokens were had, how it ends -/
def bRun (T : Nat) : List Int → List Nat → Nat → List Sym → List Sym × Nat × Int
  | [], σ, a, out => (out ++ (runB l act gt T a 2001 σ []).2.2, a, (runB l act gt T a 2001 σ []).1)
  | t :: r, σ, a, out => if (runB l act gt t.toNat a 2001 σ []).1 ≠ 0 then (out, a, (runB l act gt t.toNat a 2001 σ []).1) else bRun T r (runB l act gt t.toNat a 2001 σ []).2.1 (a + 1) (out ++ (runB l act gt t.toNat a 2001 σ []).2.2)
/-- the same, in the midst of a token -/
def contB (T f : Nat) (σ : List Nat) (o : List Sym) : List Int → Nat → List Sym → List Sym × Nat × Int
  | [], a, out => (out ++ (runB l act gt T a f σ o).2.2, a, (runB l act gt T a f σ o).1)
  | t :: r, a, out => if (runB l act gt t.toNat a f σ o).1 ≠ 0 then (out, a, (runB l act gt t.toNat a f σ o).1) else bRun l act gt T r (runB l act gt t.toNat a f σ o).2.1 (a + 1) (out ++ (runB l act gt t.toNat a f σ o).2.2)
end
section
variable {l : List gramL.Prod} {act : Nat → Nat → Act} {gt : Nat → Int → Int} {T N : Nat} {lk : Int → Int → Nat} {Nx : List (List Int)} {S : List (List Item)}
theorem run_cont (r : List Int) (σ : List Nat) (a : Nat) (out : List Sym) : bRun l act gt T r σ a out = contB l act gt T 2001 σ [] r a out := by cases r <;> rfl
theorem bRun_ge : ∀ (r : List Int) (σ : List Nat) (a : Nat) (out : List Sym), a ≤ (bRun l act gt T r σ a out).2.1
  | [], _, _, _ => Nat.le_refl _
  | t :: r, σ, a, out => by
    rw [bRun]
    split
    · exact Nat.le_refl _
    · exact Nat.le_trans (Nat.le_succ a) (bRun_ge r _ (a + 1) _)
theorem contB_ge (f : Nat) (σ : List Nat) (o : List Sym) : ∀ (r : List Int) (a : Nat) (out : List Sym), a ≤ (contB l act gt T f σ o r a out).2.1
  | [], _, _ => Nat.le_refl _
  | t :: r, a, out => by
    rw [contB]
    split
    · exact Nat.le_refl _
    · exact Nat.le_trans (Nat.le_succ a) (bRun_ge r _ (a + 1) _)
theorem runB_acc {col a : Nat} {σ : List Nat} {o : List Sym} (hA : act (σ.headD 0) col = (3, 0)) : ∀ f, runB l act gt col a f σ o = (14, [], []) ∨ runB l act gt col a f σ o = (0, σ, o)
  | 0 => .inl rfl
  | f + 1 => by
    rw [runB, hA]
    by_cases c : f = 0 ∧ ((3, 0) : Act).1 ≠ 0
    · rw [if_pos c]; exact .inl rfl
    · rw [if_neg c, if_pos rfl]; exact .inr rfl
theorem runB_shift {col a s : Nat} {σ : List Nat} {o : List Sym} (hA : act (σ.headD 0) col = (1, (s : Int))) : ∀ f, runB l act gt col a f σ o = (14, [], []) ∨ runB l act gt col a f σ o = (0, s :: σ, o ++ [(2, (a : Int))])
  | 0 => .inl rfl
  | f + 1 => by
    rw [runB, hA]
    by_cases c : f = 0 ∧ ((1, (s : Int)) : Act).1 ≠ 0
    · rw [if_pos c]; exact .inl rfl
    rw [if_neg c, if_neg (by show ¬ (1 : Int) = 3; decide), if_pos rfl]
    by_cases c2 : 60 < σ.length + 1
    · rw [if_pos c2]; exact .inl rfl
    · rw [if_neg c2]; exact .inr rfl
theorem runB_red {col a : Nat} {p : Int} {σ σ' : List Nat} {o : List Sym} (hA : act (σ.headD 0) col = (2, p)) (hred : redB l gt σ p = some σ') : ∀ f, runB l act gt col a f σ o = (14, [], []) ∨ ∃ f', runB l act gt col a f σ o = runB l act gt col a f' σ' (o ++ [(4, p)])
  | 0 => .inl rfl
  | f + 1 => by
    rw [runB, hA]
    by_cases c : f = 0 ∧ ((2, p) : Act).1 ≠ 0
    · rw [if_pos c]; exact .inl rfl
    rw [if_neg c, if_neg (by show ¬ (2 : Int) = 3; decide), if_neg (by show ¬ (2 : Int) = 1; decide), if_pos rfl]
    dsimp only
    rw [hred]
    dsimp only
    by_cases c2 : 60 < σ'.length
    · rw [if_pos c2]; exact .inl rfl
    · rw [if_neg c2]; exact .inr ⟨f, rfl⟩
theorem runB_err {col a : Nat} : ∀ (f : Nat) (σ : List Nat) (o : List Sym), (runB l act gt col a f σ o).1 = 0 ∨ (runB l act gt col a f σ o).1 = 13 ∨ (runB l act gt col a f σ o).1 = 14
  | 0, _, _ => .inr (.inr rfl)
  | f + 1, σ, o => by
    rw [runB]
    split
    · exact .inr (.inr rfl)
    split
    · exact .inl rfl
    split
    · split
      · exact .inr (.inr rfl)
      · exact .inl rfl
    split
    · split
      · exact .inr (.inl rfl)
      · split
        · exact .inr (.inr rfl)
        · exact runB_err f _ _
    · exact .inr (.inl rfl)
theorem runB_nil {col a : Nat} : ∀ (f : Nat) (σ : List Nat) (o : List Sym), (runB l act gt col a f σ o).1 ≠ 0 → (runB l act gt col a f σ o).2 = ([], [])
  | 0, _, _, _ => rfl
  | f + 1, σ, o, h => by
    rw [runB] at h ⊢
    split
    · rfl
    rename_i c; rw [if_neg c] at h
    split
    · rename_i c; rw [if_pos c] at h; exact absurd rfl h
    rename_i c; rw [if_neg c] at h
    split
    · rename_i c; rw [if_pos c] at h
      split
      · rfl
      · rename_i c; rw [if_neg c] at h; exact absurd rfl h
    rename_i c; rw [if_neg c] at h
    split
    · rename_i c; rw [if_pos c] at h
      split
      · rfl
      · rename_i σ' e
        rw [e] at h
        dsimp only at h
        split
        · rfl
        · rename_i c; rw [if_neg c] at h; exact runB_nil f _ _ h
    · rfl
theorem bRun_err : ∀ (r : List Int) (σ : List Nat) (a : Nat) (out : List Sym), (bRun l act gt T r σ a out).2.2 = 0 ∨ (bRun l act gt T r σ a out).2.2 = 13 ∨ (bRun l act gt T r σ a out).2.2 = 14
  | [], σ, a, out => runB_err _ _ _
  | t :: r, σ, a, out => by
    rw [bRun]
    split
    · exact runB_err _ _ _
    · exact bRun_err r _ _ _
/-- what is known of the table -/
structure TabB (l : List gramL.Prod) (act : Nat → Nat → Act) (gt : Nat → Int → Int) (T N : Nat) (Nx : List (List Int)) (S : List (List Item)) : Prop where
  act : ∀ q c, q < S.length → c ≤ T → act q c = actAt l T Nx S q c
  gt : ∀ q n, q < S.length → 0 ≤ n → n < (N : Int) → gt q n = goTo T Nx q n
theorem act_in {q c : Nat} {x : Act} (h : actAt l T Nx S q c = x) (h0 : x.1 ≠ 0) : x ∈ actsI l T (S.getD q []) (Nx.getD q []) c := by
  unfold actAt at h
  cases e : actsI l T (S.getD q []) (Nx.getD q []) c with
  | nil => rw [e] at h; subst h; exact absurd rfl h0
  | cons y r => rw [e] at h; subst h; exact List.mem_cons_self ..
/-- what an act means -/
theorem act_means {q c : Nat} {x : Act} (h : x ∈ actsI l T (S.getD q []) (Nx.getD q []) c) :
    (x.1 = 1 ∧ c < T ∧ 0 ≤ (Nx.getD q []).getD c 0 ∧ x.2 = (Nx.getD q []).getD c 0) ∨ (x = (3, 0) ∧ (((l.length : Int), 1, (c : Int)) : Item) ∈ S.getD q []) ∨ (x.1 = 2 ∧ x.2 < (l.length : Int) ∧ ((x.2, ((prodAt l x.2).2.length : Int), (c : Int)) : Item) ∈ S.getD q []) := by
  unfold actsI at h
  rcases List.mem_append.1 h with h | h
  · split at h
    · rename_i c1
      rw [List.mem_singleton] at h
      subst h
      exact .inl ⟨rfl, c1.1, c1.2, rfl⟩
    · cases h
  · obtain ⟨it, hit, e⟩ := List.mem_filterMap.1 h
    obtain ⟨p, d, k⟩ := it
    unfold actOf at e
    dsimp only at e
    by_cases c1 : k ≠ (c : Int)
    · rw [if_pos c1] at e; cases e
    · rw [if_neg c1] at e
      have c1 : k = (c : Int) := Classical.not_not.1 c1
      subst c1
      by_cases c2 : p = (l.length : Int) ∧ d = 1
      · rw [if_pos c2] at e
        obtain ⟨rfl, rfl⟩ := c2
        exact .inr (.inl ⟨(Option.some.inj e).symm, hit⟩)
      · rw [if_neg c2] at e
        by_cases c3 : p < (l.length : Int) ∧ d = ((prodAt l p).2.length : Int)
        · rw [if_pos c3] at e
          obtain ⟨c3, rfl⟩ := c3
          obtain rfl := Option.some.inj e
          exact .inr (.inr ⟨rfl, c3, hit⟩)
        · rw [if_neg c3] at e; cases e
section
variable (hB : TabB l act gt T N Nx S) (hI : AllI l T N lk S.length Nx S) (hw : ∀ q ∈ l, q.2.length ≤ 8) (hl : l.length ≤ 40) (hT : T ≤ 30) (hh : ∀ q ∈ l, 0 ≤ q.1 ∧ q.1 < (N : Int))
include hB hI hw hl hT hh
omit hB hw hl hT hh in
theorem cell_next {q k s : Nat} {x : Sym} (hq : q < S.length) (hk : (symsI T N)[k]? = some x) (hs : (Nx.getD q []).getD k 0 = (s : Int)) : s < S.length ∧ S.getD s [] = stepI l T lk (S.getD q []) x ∧ stepI l T lk (S.getD q []) x ≠ [] := by
  rcases hI.cell q hq k x hk with ⟨_, h2⟩ | ⟨h1, h2, h3⟩
  · rw [hs] at h2; omega
  · rw [hs] at h3
    obtain rfl : s = idx S (stepI l T lk (S.getD q []) x) := by omega
    refine ⟨idx_lt h2, ?_, h1⟩
    rw [List.getD_eq_getElem?_getD, List.getElem?_eq_getElem (idx_lt h2)]
    exact idx_get (idx_lt h2)
omit hB hI hw hl hT in
theorem prodAt_head {p : Int} (h0 : 0 ≤ p) (h1 : p < (l.length : Int)) : 0 ≤ (prodAt l p).1 ∧ (prodAt l p).1 < (N : Int) := hh _ (prodAt_mem h0 h1)
/-- a token's acts keep the stack right -/
theorem run_stk {col a : Nat} (hc : col ≤ T) : ∀ (f : Nat) {σ : List Nat} {o : List Sym} {ts : List (Sym × Tree)}, Stk l T N lk S σ ts a → (runB l act gt col a f σ o).1 = 0 →
    ∃ E ts', (runB l act gt col a f σ o).2.2 = o ++ E ∧ upK l ts' = upK l ts ++ E ∧
      ((col < T ∧ Stk l T N lk S (runB l act gt col a f σ o).2.1 ts' (a + 1) ∧ yieldK l ts' = yieldK l ts ++ [(col : Int)]) ∨
       (Stk l T N lk S (runB l act gt col a f σ o).2.1 ts' a ∧ yieldK l ts' = yieldK l ts ∧ ∃ q σ', (runB l act gt col a f σ o).2.1 = q :: σ' ∧ (((l.length : Int), 1, (col : Int)) : Item) ∈ S.getD q []))
  | 0, _, _, _, _, h => by cases h
  | f + 1, σ, o, ts, hs, h => by
    obtain ⟨q, ρ, rfl⟩ := hs.ne
    have hq := stk_lt hI hs
    have hA : act ((q :: ρ).headD 0) col = actAt l T Nx S q col := hB.act q col hq hc
    rw [runB] at h ⊢
    generalize act ((q :: ρ).headD 0) col = x at *
    have hin := fun h0 => act_means (act_in (l := l) (T := T) (Nx := Nx) (S := S) (q := q) (c := col) hA.symm h0)
    by_cases c0 : f = 0 ∧ x.1 ≠ 0
    · rw [if_pos c0] at h; cases h
    rw [if_neg c0] at h ⊢
    by_cases c1 : x.1 = 3
    · rw [if_pos c1] at h ⊢
      refine ⟨[], ts, (List.append_nil _).symm, (List.append_nil _).symm, .inr ⟨hs, rfl, q, ρ, rfl, ?_⟩⟩
      rcases hin (by omega) with h' | h' | h'
      · omega
      · exact h'.2
      · omega
    rw [if_neg c1] at h ⊢
    by_cases c2 : x.1 = 1
    · rw [if_pos c2] at h ⊢
      by_cases c3 : 60 < (q :: ρ).length + 1
      · rw [if_pos c3] at h; cases h
      rw [if_neg c3] at h ⊢
      rcases hin (by omega) with h' | h' | h'
      · obtain ⟨_, h1, h2, h3⟩ := h'
        obtain ⟨s, hs3⟩ := Int.eq_ofNat_of_zero_le h2
        obtain ⟨k1, k2, k3⟩ := cell_next hI hq (syms_term h1) hs3
        have e : x.2.toNat = s := by rw [h3, hs3]; rfl
        have hleaf : Right l (.mk (-1) (a : Int) []) (1, (col : Int)) a := by rw [Right]; exact .inl ⟨rfl, rfl, rfl, rfl⟩
        refine ⟨[(2, (a : Int))], ((1, (col : Int)), .mk (-1) (a : Int) []) :: ts, rfl, ?_, .inl ⟨h1, ?_, ?_⟩⟩
        · rw [upK_cons, upX_leaf]
        · rw [e]
          have := Stk.push hs k1 k2 k3 hleaf
          exact this
        · rw [yieldK_cons]; rfl
      · rw [h'.1] at c2; cases c2
      · omega
    rw [if_neg c2] at h ⊢
    by_cases c3 : x.1 = 2
    · rw [if_pos c3] at h ⊢
      rcases hin (by omega) with h' | h' | h'
      · omega
      · rw [h'.1] at c3; cases c3
      · obtain ⟨_, h1, h2⟩ := h'
        have h0 : 0 ≤ x.2 := (state_right hI hq _ h2).1
        obtain ⟨r1, r2⟩ := prodAt_head hh h0 h1
        cases e : redB l gt (q :: ρ) x.2 with
        | none => rw [e] at h; cases h
        | some σ' =>
          rw [e] at h
          dsimp only at h ⊢
          by_cases c4 : 60 < σ'.length
          · rw [if_pos c4] at h; cases h
          rw [if_neg c4] at h ⊢
          unfold redB at e
          cases ed : (q :: ρ).drop (prodAt l x.2).2.length with
          | nil => rw [ed] at e; cases e
          | cons r ρ2 =>
            rw [ed] at e
            dsimp only at e
            by_cases c5 : 0 ≤ gt r (prodAt l x.2).1
            · rw [if_pos c5] at e
              obtain rfl := Option.some.inj e
              obtain ⟨q', σ2, us, ts2, a2, e1, e2, e3, e4, e5, e6, e7, e8⟩ := stk_backs hI hw hl hT _ hs h2 rfl
              have hr : r < S.length := by
                rw [ed] at e1
                obtain ⟨rfl, rfl⟩ := List.cons.inj e1
                exact stk_lt hI e4
              have hg := hB.gt r _ hr r1 r2
              rw [hg] at c5 h ⊢
              obtain ⟨s, hs3⟩ := Int.eq_ofNat_of_zero_le c5
              have hk : (symsI T N)[T + (prodAt l x.2).1.toNat]? = some (2, (prodAt l x.2).1) := by
                have := syms_non (T := T) (N := N) (k := (prodAt l x.2).1.toNat) (by omega)
                rwa [Int.toNat_of_nonneg r1] at this
              obtain ⟨k1, k2, k3⟩ := cell_next hI hr hk hs3
              obtain ⟨ts3, g1, g2, g3⟩ := stk_reduce hI hw hl hT hs h0 h1 h2 ed k1 k2 k3
              have e9 : (goTo T Nx r (prodAt l x.2).1).toNat = s := by rw [hs3]; rfl
              rw [e9] at h ⊢
              obtain ⟨E, ts4, f1, f2, f3⟩ := run_stk hc f g1 h
              refine ⟨(4, x.2) :: E, ts4, by rw [f1, List.append_assoc]; rfl, by rw [f2, g3, List.append_assoc]; rfl, ?_⟩
              rw [g2] at f3
              exact f3
            · rw [if_neg c5] at e; cases e
    · rw [if_neg c3] at h; cases h
/-- what is told of a word that is accepted is a tree -/
theorem run_sound (hTop : ∀ q, q < S.length → ∀ it ∈ S.getD q [], it.1 = (l.length : Int) → it.2.2 = (T : Int)) : ∀ (r : List Int) {σ : List Nat} {a : Nat} {out : List Sym} {ts : List (Sym × Tree)}, (∀ x ∈ r, 0 ≤ x ∧ x < (T : Int)) → Stk l T N lk S σ ts a → upK l ts = out → (bRun l act gt T r σ a out).2.2 = 0 →
    ∃ t, Right l t (2, 0) 0 ∧ upX l t = (bRun l act gt T r σ a out).1 ∧ yieldT l t = yieldK l ts ++ r
  | [], σ, a, out, ts, _, hs, ho, h => by
    obtain ⟨E, ts', h1, h2, h3⟩ := run_stk hB hI hw hl hT hh (Nat.le_refl T) 2001 (o := []) hs h
    rcases h3 with ⟨h3, _⟩ | ⟨h3, h4, q, σ', h5, h6⟩
    · omega
    · rw [h5] at h3
      obtain ⟨t, rfl, ht⟩ := stk_accept hI hw hl hT h3 h6
      refine ⟨t, ht, ?_, ?_⟩
      · show upX l t = out ++ (runB l act gt T a 2001 σ []).2.2
        rw [h1, List.nil_append, ← ho, ← h2, upK_cons]
        rfl
      · rw [List.append_nil, ← h4, yieldK_cons, yieldX_top ht]
        rfl
  | t :: r, σ, a, out, ts, hr, hs, ho, h => by
    obtain ⟨t0, t1⟩ := hr t (List.mem_cons_self ..)
    rw [bRun] at h ⊢
    by_cases c : (runB l act gt t.toNat a 2001 σ []).1 ≠ 0
    · rw [if_pos c] at h; exact absurd h c
    rw [if_neg c] at h ⊢
    obtain ⟨E, ts', h1, h2, h3⟩ := run_stk hB hI hw hl hT hh (show t.toNat ≤ T by omega) 2001 (o := []) hs (Classical.not_not.1 c)
    rcases h3 with ⟨h3, h4, h5⟩ | ⟨h3, h4, q, σ', h5, h6⟩
    · obtain ⟨tt, g1, g2, g3⟩ := run_sound hTop r (fun x hx => hr x (List.mem_cons_of_mem _ hx)) h4 (by rw [h2, h1, ho]; rfl) h
      refine ⟨tt, g1, g2, ?_⟩
      rw [g3, h5, List.append_assoc, Int.toNat_of_nonneg t0]
      rfl
    · exfalso
      rw [h5] at h3
      have := hTop q (stk_lt hI h3) _ h6 rfl
      have h7 : ((t.toNat : Nat) : Int) = (T : Int) := this
      omega
/-! ### each tree's word is built -/
omit hw hl hT in
theorem run_det {w : List Int} (hcol : ∀ x ∈ w, 0 ≤ x ∧ x < (T : Int)) {σ σ1 : List Nat} {a a1 : Nat} {E : List Sym} (h : LRun l T Nx S w σ a E σ1 a1) : (∀ q ∈ σ, q < S.length) → a1 = w.length → (∀ q ρ, σ1 = q :: ρ → actAt l T Nx S q (colAt T w a1) = (3, 0)) → σ1 ≠ [] →
    ∀ (f : Nat) (o : List Sym) (m : Nat) (r : List Int) (out : List Sym), a ≤ w.length → m ≤ r.length → m ≤ (w.drop a).length → r.take m = (w.drop a).take m → (r = w.drop a → (contB l act gt T f σ o r a out).2.2 = 14 ∨ contB l act gt T f σ o r a out = (out ++ (o ++ E), w.length, 0)) ∧ ((contB l act gt T f σ o r a out).2.2 = 14 ∨ a + m ≤ (contB l act gt T f σ o r a out).2.1) := by
  induction h with
  | @nil σ a =>
    intro hq ha hacc hne f o m r out hal hm hm2 hr
    subst ha
    have hm0 : m = 0 := by rw [List.length_drop] at hm2; omega
    subst hm0
    refine ⟨fun hrw => ?_, .inr (contB_ge f σ o r _ out)⟩
    rw [List.drop_length] at hrw
    subst hrw
    obtain ⟨q, ρ, rfl⟩ : ∃ q ρ, σ = q :: ρ := List.exists_cons_of_ne_nil hne
    have hc : colAt T w w.length = T := by unfold colAt; rw [if_neg (Nat.lt_irrefl _)]
    have hA := hacc q ρ rfl
    rw [hc] at hA
    have hA2 : act ((q :: ρ).headD 0) T = (3, 0) := (hB.act q T (hq q (List.mem_cons_self ..)) (Nat.le_refl _)).trans hA
    rcases runB_acc (l := l) (gt := gt) (a := w.length) (o := o) hA2 f with e | e
    · exact .inl (by rw [contB, e])
    · exact .inr (by rw [contB, e, List.append_nil])
  | @shift q s σ σ' a a' E ha h hr ih =>
    intro hq ha' hacc hne f o m r out hal hm hm2 hrm
    have hqS := hq q (List.mem_cons_self ..)
    have hcT : colAt T w a ≤ T := by
      unfold colAt; rw [if_pos ha]
      have := hcol _ (List.getElem_mem ha)
      rw [List.getD_eq_getElem?_getD, List.getElem?_eq_getElem ha]
      show w[a].toNat ≤ T
      omega
    have hA2 : act ((q :: σ).headD 0) (colAt T w a) = (1, (s : Int)) := (hB.act q _ hqS hcT).trans h
    have hmean := act_means (act_in h (by show (1 : Int) ≠ 0; decide))
    have hc1 : colAt T w a < T ∧ (Nx.getD q []).getD (colAt T w a) 0 = (s : Int) := by
      rcases hmean with h' | h' | h'
      · exact ⟨h'.2.1, h'.2.2.2.symm⟩
      · cases h'.1
      · have := h'.1; cases this
    obtain ⟨k1, -, -⟩ := cell_next hI hqS (syms_term hc1.1) hc1.2
    have hq2 : ∀ q' ∈ s :: q :: σ, q' < S.length := fun q' hq' => (List.mem_cons.1 hq').elim (fun e => e ▸ k1) fun e => hq q' e
    have hd : w.drop a = w[a] :: w.drop (a + 1) := List.drop_eq_getElem_cons ha
    have hcw : colAt T w a = w[a].toNat := by
      unfold colAt; rw [if_pos ha, List.getD_eq_getElem?_getD, List.getElem?_eq_getElem ha]; rfl
    have key : ∀ (r' : List Int), (contB l act gt T f (q :: σ) o (w[a] :: r') a out).2.2 = 14 ∨ contB l act gt T f (q :: σ) o (w[a] :: r') a out = contB l act gt T 2001 (s :: q :: σ) [] r' (a + 1) (out ++ (o ++ [(2, (a : Int))])) := fun r' => by
      rw [hcw] at hA2
      rcases runB_shift (l := l) (gt := gt) (a := a) (o := o) hA2 f with e | e
      · exact .inl (by rw [contB, e]; rfl)
      · exact .inr (by rw [contB, e, ← run_cont]; rfl)
    constructor
    · intro hrw
      subst hrw
      rw [hd]
      rcases key (w.drop (a + 1)) with h14 | he
      · exact .inl h14
      · rw [he]
        have := (ih hq2 ha' hacc hne 2001 [] 0 (w.drop (a + 1)) (out ++ (o ++ [(2, (a : Int))])) (by omega) (Nat.zero_le _) (Nat.zero_le _) rfl).1 rfl
        rcases this with h14 | h0
        · exact .inl h14
        · right
          rw [h0]
          simp
    · match m, r, hm, hrm with
      | 0, r, _, _ => exact .inr (contB_ge _ _ _ _ _ _)
      | m + 1, [], h', _ => simp at h'
      | m + 1, x :: r', hm', hrm' =>
        rw [hd] at hrm' hm2
        simp only [List.take_succ_cons, List.cons.injEq] at hrm'
        obtain ⟨rfl, hrm'⟩ := hrm'
        rcases key r' with h14 | he
        · exact .inl h14
        · rw [he]
          have := (ih hq2 ha' hacc hne 2001 [] m r' (out ++ (o ++ [(2, (a : Int))])) (by omega) (by simpa using hm') (Nat.le_of_succ_le_succ hm2) hrm').2
          rcases this with h14 | h0
          · exact .inl h14
          · exact .inr (by omega)
  | @reduce q rq tq p σ ρ σ' a a' E h hd hg hr ih =>
    intro hq ha' hacc hne f o m r out hal hm hm2 hrm
    have hqS := hq q (List.mem_cons_self ..)
    have hcT : colAt T w a ≤ T := by
      unfold colAt
      split
      · rename_i ha
        have := hcol _ (List.getElem_mem ha)
        rw [List.getD_eq_getElem?_getD, List.getElem?_eq_getElem ha]
        show w[a].toNat ≤ T
        omega
      · exact Nat.le_refl _
    have hA2 : act ((q :: σ).headD 0) (colAt T w a) = (2, p) := (hB.act q _ hqS hcT).trans h
    have hmean := act_means (act_in h (by show (2 : Int) ≠ 0; decide))
    have hp : p < (l.length : Int) ∧ 0 ≤ p := by
      rcases hmean with h' | h' | h'
      · have := h'.1; cases this
      · cases h'.1
      · exact ⟨h'.2.1, (state_right hI hqS _ h'.2.2).1⟩
    obtain ⟨r1, r2⟩ := prodAt_head hh hp.2 hp.1
    have hrS : rq < S.length := hq rq (List.mem_of_mem_drop (i := (prodAt l p).2.length) (by rw [hd]; exact List.mem_cons_self ..))
    have hk : (symsI T N)[T + (prodAt l p).1.toNat]? = some (2, (prodAt l p).1) := by
      have := syms_non (T := T) (N := N) (k := (prodAt l p).1.toNat) (by omega)
      rwa [Int.toNat_of_nonneg r1] at this
    obtain ⟨k1, -, -⟩ := cell_next hI hrS hk hg
    have hq2 : ∀ q' ∈ tq :: rq :: ρ, q' < S.length := fun q' hq' => (List.mem_cons.1 hq').elim (fun e => e ▸ k1) fun e => hq q' (List.mem_of_mem_drop (i := (prodAt l p).2.length) (by rw [hd]; exact e))
    have hred : redB l gt (q :: σ) p = some (tq :: rq :: ρ) := by
      unfold redB
      rw [hd]
      dsimp only
      rw [hB.gt rq _ hrS r1 r2, hg, if_pos (by omega)]
      rfl
    have stepR : ∀ (col : Nat), act ((q :: σ).headD 0) col = (2, p) → (runB l act gt col a f (q :: σ) o).1 = 14 ∨ ∃ f', runB l act gt col a f (q :: σ) o = runB l act gt col a f' (tq :: rq :: ρ) (o ++ [(4, p)]) := fun col hA2 => by
      rcases runB_red (a := a) (o := o) hA2 hred f with e | e
      · exact .inl (by rw [e])
      · exact .inr e
    have key : ∀ (r' : List Int), (r' = [] → colAt T w a = T) → (∀ t r2, r' = t :: r2 → colAt T w a = t.toNat) → (contB l act gt T f (q :: σ) o r' a out).2.2 = 14 ∨ ∃ f', contB l act gt T f (q :: σ) o r' a out = contB l act gt T f' (tq :: rq :: ρ) (o ++ [(4, p)]) r' a out := fun r' e1 e2 => by
      match r' with
      | [] =>
        have hA3 := hA2
        rw [e1 rfl] at hA3
        rcases stepR T hA3 with h14 | ⟨f', he⟩
        · exact .inl (by rw [contB]; exact h14)
        · exact .inr ⟨f', by rw [contB, contB, he]⟩
      | t :: r2 =>
        have hA3 := hA2
        rw [e2 t r2 rfl] at hA3
        rcases stepR t.toNat hA3 with h14 | ⟨f', he⟩
        · left
          rw [contB, if_pos (by rw [h14]; decide)]
          exact h14
        · exact .inr ⟨f', by rw [contB, contB, he]⟩
    have hcw : ∀ t r2, w.drop a = t :: r2 → colAt T w a = t.toNat := fun t r2 e => by
      have ha : a < w.length := by
        rcases Nat.lt_or_ge a w.length with h | h
        · exact h
        · rw [List.drop_eq_nil_of_le h] at e; cases e
      rw [List.drop_eq_getElem_cons ha] at e
      obtain ⟨rfl, _⟩ := List.cons.inj e
      unfold colAt; rw [if_pos ha, List.getD_eq_getElem?_getD, List.getElem?_eq_getElem ha]; rfl
    constructor
    · intro hrw
      rcases key r (fun e => by
        subst hrw
        have ha : ¬ a < w.length := fun ha => by rw [List.drop_eq_getElem_cons ha] at e; cases e
        unfold colAt; rw [if_neg ha]) (fun t r2 e => hcw t r2 (by rw [← hrw, e])) with h14 | ⟨f', he⟩
      · exact .inl h14
      · rw [he]
        rcases (ih hq2 ha' hacc hne f' (o ++ [(4, p)]) m r out hal hm hm2 hrm).1 hrw with h14 | h0
        · exact .inl h14
        · right
          rw [h0]
          simp
    · match m, r, hm, hrm with
      | 0, r, _, _ => exact .inr (contB_ge _ _ _ _ _ _)
      | m + 1, [], h', _ => simp at h'
      | m + 1, x :: r', hm', hrm' =>
        have ha : a < w.length := by rw [List.length_drop] at hm2; omega
        have hx : w.drop a = x :: w.drop (a + 1) := by
          rw [List.drop_eq_getElem_cons ha] at hrm' ⊢
          simp only [List.take_succ_cons, List.cons.injEq] at hrm'
          rw [hrm'.1]
        rcases key (x :: r') (fun e => by cases e) (fun t r2 e => by cases e; exact hcw _ _ hx) with h14 | ⟨f', he⟩
        · exact .inl h14
        · rw [he]
          exact (ih hq2 ha' hacc hne f' (o ++ [(4, p)]) (m + 1) (x :: r') out hal hm' hm2 hrm').2
end
end
end Go.Proofs.Ytlojfbnimmdehaa.itemL

/- LrT -/
namespace Go.Proofs.Ytlojfbnimmdehaa.eng
open gramL treeL countL factsL itemL smallL derL
open llL (colAt)
/-- what is had of a grammar of which a table was made -/
structure MadeT (g : Gram) (T N : Nat) (Nx : List (List Int)) (S : List (List itemL.Item)) : Prop where
  gram : checkG g = 0
  terms : g.terms = (T : Int)
  nons : g.nons = (N : Int)
  all : allI g.prods T N (lkG g) = some (Nx, S)
  acts : (outT g).1 = actTab g.prods T Nx S S.length
  gos : (outT g).2.1 = gotoTab T Nx S.length
  fights : (outT g).2.2.1 = fightsA g.prods T Nx S S.length
theorem outT_made {g : Gram} (h : (outT g).2.2.2 = 0) : ∃ T N Nx S, MadeT g T N Nx S := by
  unfold outT at h
  by_cases c : (outA g).2.2 ≠ 0
  · rw [if_pos c] at h; exact absurd h c
  · have c2 : (outA g).2.2 = 0 := Classical.not_not.1 c
    obtain ⟨hg, hA⟩ := outA_ok c2
    obtain ⟨hT1, hT2, hN1, hN2, -⟩ := checkG_ok hg
    exact ⟨g.terms.toNat, g.nons.toNat, (outA g).1, (outA g).2.1, hg, by omega, by omega, hA, by unfold outT; rw [if_neg c], by unfold outT; rw [if_neg c], by unfold outT; rw [if_neg c]⟩
section
variable {g : Gram} {T N : Nat} {Nx : List (List Int)} {S : List (List itemL.Item)}
theorem MadeT.wide (h : MadeT g T N Nx S) : ∀ q ∈ g.prods, q.2.length ≤ 8 := fun q hq => ((checkG_ok h.gram).2.2.2.2.2 q hq).1
theorem MadeT.few (h : MadeT g T N Nx S) : g.prods.length ≤ 40 := (checkG_ok h.gram).2.2.2.2.1
theorem MadeT.t30 (h : MadeT g T N Nx S) : T ≤ 30 := by have := (checkG_ok h.gram).2.1; have := h.terms; omega
theorem MadeT.law (h : MadeT g T N Nx S) : AllI g.prods T N (lkG g) S.length Nx S := allI_law h.wide h.few h.t30 h.all
theorem MadeT.heads (h : MadeT g T N Nx S) : ∀ q ∈ g.prods, 0 ≤ q.1 ∧ q.1 < (N : Int) := fun q hq => by
  obtain ⟨_, h1, h2, _⟩ := (checkG_ok h.gram).2.2.2.2.2 q hq
  rw [h.nons] at h2
  exact ⟨h1, h2⟩
theorem actTab_get {l : List gramL.Prod} {i n : Nat} (h : i < n) : (actTab l T Nx S n)[i]? = some (actRow l T Nx S i (T + 1)) := by unfold actTab; simp [h]
theorem gotoTab_get {i n : Nat} (h : i < n) : (gotoTab T Nx n)[i]? = some ((Nx.getD i []).drop T) := by unfold gotoTab; simp [h]
theorem actRow_get {l : List gramL.Prod} {q c : Nat} (h : c < T + 1) : (actRow l T Nx S q (T + 1))[c]? = some (actAt l T Nx S q c) := by
  unfold actRow
  rw [List.getElem?_map, List.getElem?_range h]
  simp [h]
theorem MadeT.right (h : MadeT g T N Nx S) {q c : Nat} (hq : q < S.length) (hc : c < T + 1) : RightAct T g.prods.length S.length (actAt g.prods T Nx S q c) c := by
  have hI := h.law
  by_cases h0 : (actAt g.prods T Nx S q c).1 = 0
  · left
    refine ⟨h0, ?_⟩
    unfold actAt at h0 ⊢
    cases e : actsI g.prods T (S.getD q []) (Nx.getD q []) c with
    | nil => rfl
    | cons y r =>
      rw [e] at h0
      have hm : y ∈ actsI g.prods T (S.getD q []) (Nx.getD q []) c := by rw [e]; exact List.mem_cons_self ..
      rcases act_means hm with h' | h' | h'
      · have := h'.1; have h0 : y.1 = 0 := h0; omega
      · have h0 : y.1 = 0 := h0; rw [h'.1] at h0; cases h0
      · have := h'.1; have h0 : y.1 = 0 := h0; omega
  · rcases act_means (act_in rfl h0) with h' | h' | h'
    · obtain ⟨h1, h2, h3, h4⟩ := h'
      obtain ⟨s, hs⟩ := Int.eq_ofNat_of_zero_le h3
      obtain ⟨k1, -, -⟩ := cell_next hI hq (syms_term h2) hs
      exact .inr (.inl ⟨h1, h2, by omega, by rw [h4, hs]; omega⟩)
    · obtain ⟨h1, h2⟩ := h'
      have ht := all_top h.wide h.few h.t30 h.all q hq _ h2 rfl
      have ht : (c : Int) = (T : Int) := ht
      exact .inr (.inr (.inr ⟨by rw [h1], by rw [h1], by omega⟩))
    · obtain ⟨h1, h2, h3⟩ := h'
      exact .inr (.inr (.inl ⟨h1, (state_right hI hq _ h3).1, h2⟩))
theorem MadeT.tab (h : MadeT g T N Nx S) : LrOk g T N (actTab g.prods T Nx S S.length) (gotoTab T Nx S.length) where
  gram := h.gram
  terms := h.terms
  nons := h.nons
  pos := by rw [actTab_len]; exact (List.getElem?_eq_some_iff.1 h.law.start).1
  few := by rw [actTab_len]; exact h.law.few
  same := by rw [actTab_len, gotoTab_len]
  wA := fun i hi => by
    obtain ⟨h1, h2⟩ := List.getElem?_eq_some_iff.1 (actTab_get (T := T) (Nx := Nx) (S := S) (l := g.prods) (show i < S.length by rw [actTab_len] at hi; exact hi))
    rw [h2]; exact actRow_len
  acts := fun i hi c hc => by
    have hi' : i < S.length := by rw [actTab_len] at hi; exact hi
    obtain ⟨h1, h2⟩ := List.getElem?_eq_some_iff.1 (actTab_get (T := T) (Nx := Nx) (S := S) (l := g.prods) hi')
    simp only [h2] at hc ⊢
    rw [actRow_len] at hc
    obtain ⟨h3, h4⟩ := List.getElem?_eq_some_iff.1 (actRow_get (l := g.prods) (T := T) (Nx := Nx) (S := S) (q := i) hc)
    rw [h4, actTab_len]
    exact h.right hi' hc
  wG := fun i hi => by
    have hi' : i < S.length := by rw [gotoTab_len] at hi; exact hi
    obtain ⟨h1, h2⟩ := List.getElem?_eq_some_iff.1 (gotoTab_get (T := T) (Nx := Nx) hi')
    rw [h2, List.length_drop, h.law.wide i hi']
    omega
  gos := fun i hi y hy => by
    have hi' : i < S.length := by rw [gotoTab_len] at hi; exact hi
    obtain ⟨h1, h2⟩ := List.getElem?_eq_some_iff.1 (gotoTab_get (T := T) (Nx := Nx) hi')
    rw [h2] at hy
    obtain ⟨k, hk, rfl⟩ := List.getElem_of_mem hy
    rw [actTab_len]
    rw [List.length_drop, h.law.wide i hi'] at hk
    rw [List.getElem_drop]
    have hw := h.law.wide i hi'
    have hg : (Nx.getD i [])[T + k]'(by rw [hw]; omega) = (Nx.getD i []).getD (T + k) 0 := by rw [List.getD_eq_getElem?_getD (l := Nx.getD i []), List.getElem?_eq_getElem (by rw [hw]; omega)]; rfl
    rw [hg]
    rcases h.law.cell i hi' (T + k) _ (syms_non (by omega)) with ⟨_, e⟩ | ⟨_, e1, e2⟩
    · rw [e]; omega
    · rw [e2]; have := idx_lt e1; omega
/-- functions for who builds up -/
def actT (A : List (List itemL.Act)) (q c : Nat) : itemL.Act := (A.getD q []).getD c (0, 0)
def gotoT (G : List (List Int)) (q : Nat) (n : Int) : Int := (G.getD q []).getD n.toNat 0
theorem MadeT.tabB (h : MadeT g T N Nx S) : TabB g.prods (actT (actTab g.prods T Nx S S.length)) (gotoT (gotoTab T Nx S.length)) T N Nx S where
  act := fun q c hq hc => by
    unfold actT
    rw [show (actTab g.prods T Nx S S.length).getD q [] = actRow g.prods T Nx S q (T + 1) by rw [List.getD_eq_getElem?_getD, actTab_get hq]; rfl]
    show (actRow g.prods T Nx S q (T + 1)).getD c (0, 0) = _
    rw [List.getD_eq_getElem?_getD, actRow_get (by omega)]
    rfl
  gt := fun q n hq h0 hn => by
    unfold gotoT goTo
    rw [show (gotoTab T Nx S.length).getD q [] = (Nx.getD q []).drop T by rw [List.getD_eq_getElem?_getD, gotoTab_get hq]; rfl]
    show ((Nx.getD q []).drop T).getD n.toNat 0 = _
    rw [List.getD_eq_getElem?_getD (l := (Nx.getD q []).drop T), List.getElem?_drop, List.getD_eq_getElem?_getD (l := Nx.getD q [])]
theorem fights_none {l : List gramL.Prod} : ∀ n, (fightsA l T Nx S n).length = 0 → ∀ q, q < n → ∀ c, c ≤ T → (actsI l T (S.getD q []) (Nx.getD q []) c).length ≤ 1
  | 0, _, q, hq, _, _ => absurd hq (Nat.not_lt_zero _)
  | n + 1, h, q, hq, c, hc => by
    rw [fightsA, List.length_append] at h
    by_cases e : q = n
    · subst e
      have row : ∀ d, (fightsR l T Nx S q d).length = 0 → ∀ c, c < d → (fightsC l T Nx S q c).length = 0 := fun d => by
        induction d with
        | zero => exact fun _ c hc => absurd hc (Nat.not_lt_zero _)
        | succ d ih =>
          intro h c hc
          rw [fightsR, List.length_append] at h
          by_cases e2 : c = d
          · subst e2; omega
          · exact ih (by omega) c (by omega)
      have := row (T + 1) (by omega) c (by omega)
      unfold fightsC at this
      rw [List.length_map, List.length_tail] at this
      have h2 : (actsI l T (S.getD q []) (Nx.getD q []) c).length - 1 = 0 := this
      omega
    · exact fights_none n (by omega) q (by omega) c hc
theorem MadeT.calm (h : MadeT g T N Nx S) (hc : calmB g = true) : CalmI g.prods T Nx S := by
  unfold calmB at hc
  rw [Bool.and_eq_true, decide_eq_true_eq, decide_eq_true_eq, h.fights] at hc
  exact fun q hq c hcT => fights_none S.length hc.2 q hq c hcT
theorem calm_made (hc : calmB g = true) : ∃ T N Nx S, MadeT g T N Nx S := by
  unfold calmB at hc
  rw [Bool.and_eq_true, decide_eq_true_eq] at hc
  exact outT_made hc.1
theorem body_right (hg : checkG g = 0) {p : Int} : ∀ x ∈ bodyI g.prods p, right g.terms g.nons x = true := fun x hx => by
  unfold bodyI at hx
  split at hx
  · rw [List.mem_singleton.1 hx]
    have := (checkG_ok hg).2.2.1
    unfold right
    rw [if_neg (by decide), if_pos rfl]
    simp only [Int.le_refl, decide_true, Bool.true_and, decide_eq_true_eq]
    omega
  · by_cases h2 : p.toNat < g.prods.length
    · have : prodAt g.prods p ∈ g.prods := by unfold prodAt; rw [List.getD_eq_getElem?_getD, List.getElem?_eq_getElem h2]; exact List.getElem_mem h2
      exact ((checkG_ok hg).2.2.2.2.2 _ this).2.2.2 x hx
    · unfold prodAt at hx
      rw [List.getD_eq_getElem?_getD, List.getElem?_eq_none (by omega)] at hx
      cases hx
theorem MadeT.looks (h : MadeT g T N Nx S) (p d : Int) : lkG g p d = beginF (ofS N g.prods).E (ofF N g.prods) ((bodyI g.prods p).drop (d.toNat + 1)) (2 ^ 62) := by
  unfold lkG begV
  have hb8 := body_len (l := g.prods) (p := p) h.wide
  have hE : begE g ((bodyI g.prods p).drop (d.toNat + 1)) = 0 := by
    unfold begE
    rw [if_neg (by rw [h.gram]; simp), if_neg (by rw [List.length_drop]; omega)]
    exact badE_of fun x hx => body_right h.gram x (List.mem_of_mem_drop hx)
  rw [if_pos hE, show g.nons.toNat = N by rw [h.nons]; rfl]
theorem MadeT.lrH (h : MadeT g T N Nx S) (hc : calmB g = true) {w : List Int} (hw : ∀ x ∈ w, 0 ≤ x ∧ x < (T : Int)) : LrH g.prods T N (lkG g) Nx S w (ofS N g.prods).E (ofF N g.prods) (ofW N g.prods) (ofS N g.prods).R (ofS N g.prods).M where
  wide := h.wide
  few := h.few
  terms := h.t30
  nons := by have := (checkG_ok h.gram).2.2.1; have := h.nons; omega
  syms := symsOk_of h.gram h.nons
  term := fun q hq x hx h1 => by
    have := ((checkG_ok h.gram).2.2.2.2.2 q hq).2.2.2 x hx
    rcases right_cases this with ⟨_, h2, h3⟩ | ⟨h2, _⟩
    · rw [h.terms] at h3; exact ⟨h2, h3⟩
    · rw [h1] at h2; cases h2
  all := h.law
  calm := h.calm hc
  facts := closed_of h.gram h.nons
  looks := fun p d _ _ _ => h.looks p d
  word := hw
end
/-! ### brackets -/
theorem brk_outT : outT brkG = (actTab brkP 2 brkNx brkSt 10, gotoTab 2 brkNx 10, [], 0) := by
  unfold outT
  rw [brk_out]
  kernel_rfl
theorem brk_calm : calmB brkG = true := by
  unfold calmB
  rw [brk_outT]
  rfl
theorem brk_made : MadeT brkG 2 1 brkNx brkSt := ⟨brk_ok, rfl, rfl, brk_all, by rw [brk_outT]; rfl, by rw [brk_outT]; rfl, by rw [brk_outT]; kernel_rfl⟩
end Go.Proofs.Ytlojfbnimmdehaa.eng

/- ClimbO -/
namespace Go.Proofs.Ytlojfbnimmdehaa.eng
open Go.RowKit kit mix gramL treeL climbL
abbrev evO (vo : Value) (l : List Sym) : Own := rowO 82 2 vo l.length (l.flatMap symC)
theorem build_evn (k n : Int) (w : World) : (Instr.build 82 #[(0, .int .i64 k), (1, .int .i64 n)]).run Try.prog w = .ok (.agg (symC (k, n)).toArray) w := by
  unfold symC; go_simp
end Go.Proofs.Ytlojfbnimmdehaa.eng

/- IntS -/
namespace Go.Proofs.Ytlojfbnimmdehaa.eng
open Go.RowKit kit mix
theorem IntS_len (a : Int) : (kit.intC a).length = 1 := rfl
set_option maxHeartbeats 2000000 in
theorem indexFuncIntS_calls (v : Value) (l : List Int) (w : World) (hs : Sl w v l.length (l.flatMap kit.intC)) (fid : FuncId) (first cp : Array Value) (p : Int → Bool) (hen : Enters Try.prog fid)
    (hp : ∀ a ∈ l, ∀ w', Gr w w' → Calls Try.prog fid (first ++ #[((kit.intC a).headD undef)] ++ cp) w' (Meets (ret (.bool (p a))) w')) :
    Calls Try.prog 64 #[v, .func (.func fid) first cp] w (Meets (ret (.int .i64 (idxF p l))) w) := by
  obtain ⟨base, cap, rfl, hcap, hmax, hrd⟩ := hs
  unfold maxLen at hmax
  refine enter (args := [.slice base l.length cap, .func (.func fid) first cp]) (n := 19) Try.func64 rfl rfl rfl ?_
  repeat(first|refine qv rfl (qp rfl) rfl rfl ?_|refine TL_nil ?_|refine T_seq ?_|refine T_region ?_|refine qcT rfl ?_|refine qcF rfl ?_|refine T_skip ?_|refine T_exit ?_|refine T_ret ?_|refine T_block ?_|refine E_then ?_|refine E_thenX ?_|refine E_thenR ?_|refine E_blockN ?_|refine E_blockR ?_|refine E_blockX ?_|refine E_blockO rfl ?_|refine qv rfl (qlen Und.eq rfl) rfl rfl ?_|refine qv rfl (rr_lss rfl rfl (qT (by omega))) rfl rfl ?_|refine qv rfl (rr_lss rfl rfl (qF (by omega))) rfl rfl ?_|refine qv rfl (rr_add64 rfl rfl (by omega) (by omega) rfl) rfl rfl ?_)
  refine T_loop (ι := Nat) (fun k => k ≤ l.length ∧ ∀ j (hj : j < l.length), j < k → p l[j] = false) (fun k => [(0, .slice base l.length cap), (1, .func (.func fid) first cp), (7, .int .i64 l.length), (8, .int .i64 (k : Int))]) (fun _ => []) (fun k => l.length - k) 0 ⟨by omega, fun j hj h => by omega⟩ (by repeat' (first | exact True.intro | refine And.intro rfl ?_)) rfl ?_
  rintro k ⟨h1, h2⟩
  by_cases c2 : k < l.length
  · obtain ⟨b, off, rfl, hr⟩ := hrd (by omega)
    have hat := at_el (L := ([] : List Own)) IntS_len hr c2
    have hcl := hp l[k] (List.getElem_mem c2)
    by_cases c3 : p l[k] = true
    · rw [idxF_some c2 c3 h2]
      rw [c3] at hcl
      clear hp h2 hrd
      repeat(first|refine qv rfl (qp rfl) rfl rfl ?_|refine TL_nil ?_|refine T_seq ?_|refine T_region ?_|refine qcT rfl ?_|refine qcF rfl ?_|refine T_skip ?_|refine T_exit ?_|refine T_ret ?_|refine T_block ?_|refine E_then ?_|refine E_thenX ?_|refine E_thenR ?_|refine E_blockN ?_|refine E_blockR ?_|refine E_blockX ?_|refine E_blockO rfl ?_|refine qv rfl (rr_idxc Und.eq TyC.ty rfl rfl c2) rfl rfl ?_|refine qv rfl (rr_load1 TyC.ty rfl (hat 0 _ rfl)) rfl rfl ?_|refine qv rfl (qlen Und.eq rfl) rfl rfl ?_|refine qv rfl (rr_lss rfl rfl (qT (by omega))) rfl rfl ?_|refine qv rfl (rr_lss rfl rfl (qF (by omega))) rfl rfl ?_|refine qv rfl (rr_add64 rfl rfl (by omega) (by omega) rfl) rfl rfl ?_)
      refine TL_call (he1c hen rfl rfl) (fun w hm => hcl w hm.below) rfl rfl rfl ?_
      intro _ _
      repeat(first|refine qv rfl (qp rfl) rfl rfl ?_|refine TL_nil ?_|refine T_seq ?_|refine T_region ?_|refine qcT rfl ?_|refine qcF rfl ?_|refine T_skip ?_|refine T_exit ?_|refine T_ret ?_|refine T_block ?_|refine E_then ?_|refine E_thenX ?_|refine E_thenR ?_|refine E_blockN ?_|refine E_blockR ?_|refine E_blockX ?_|refine E_blockO rfl ?_|refine qv rfl (qlen Und.eq rfl) rfl rfl ?_|refine qv rfl (rr_lss rfl rfl (qT (by omega))) rfl rfl ?_|refine qv rfl (rr_lss rfl rfl (qF (by omega))) rfl rfl ?_|refine qv rfl (rr_add64 rfl rfl (by omega) (by omega) rfl) rfl rfl ?_)
      exact E_ret1 rfl rfl fun w hm => hm.ret
    · have c3' : p l[k] = false := by simpa using c3
      rw [c3'] at hcl
      clear hp hrd c3
      repeat(first|refine qv rfl (qp rfl) rfl rfl ?_|refine TL_nil ?_|refine T_seq ?_|refine T_region ?_|refine qcT rfl ?_|refine qcF rfl ?_|refine T_skip ?_|refine T_exit ?_|refine T_ret ?_|refine T_block ?_|refine E_then ?_|refine E_thenX ?_|refine E_thenR ?_|refine E_blockN ?_|refine E_blockR ?_|refine E_blockX ?_|refine E_blockO rfl ?_|refine qv rfl (rr_idxc Und.eq TyC.ty rfl rfl c2) rfl rfl ?_|refine qv rfl (rr_load1 TyC.ty rfl (hat 0 _ rfl)) rfl rfl ?_|refine qv rfl (qlen Und.eq rfl) rfl rfl ?_|refine qv rfl (rr_lss rfl rfl (qT (by omega))) rfl rfl ?_|refine qv rfl (rr_lss rfl rfl (qF (by omega))) rfl rfl ?_|refine qv rfl (rr_add64 rfl rfl (by omega) (by omega) rfl) rfl rfl ?_)
      refine TL_call (he1c hen rfl rfl) (fun w hm => hcl w hm.below) rfl rfl rfl ?_
      intro _ _
      repeat(first|refine qv rfl (qp rfl) rfl rfl ?_|refine TL_nil ?_|refine T_seq ?_|refine T_region ?_|refine qcT rfl ?_|refine qcF rfl ?_|refine T_skip ?_|refine T_exit ?_|refine T_ret ?_|refine T_block ?_|refine E_then ?_|refine E_thenX ?_|refine E_thenR ?_|refine E_blockN ?_|refine E_blockR ?_|refine E_blockX ?_|refine E_blockO rfl ?_|refine qv rfl (qlen Und.eq rfl) rfl rfl ?_|refine qv rfl (rr_lss rfl rfl (qT (by omega))) rfl rfl ?_|refine qv rfl (rr_lss rfl rfl (qF (by omega))) rfl rfl ?_|refine qv rfl (rr_add64 rfl rfl (by omega) (by omega) rfl) rfl rfl ?_)
      exact E_round (k + 1) ⟨by omega, fun j hj h => if e : j < k then h2 j hj e else (by obtain rfl : j = k := (by omega); exact c3')⟩ (by show l.length - (k + 1) < l.length - k; omega) (by repeat' (first | exact True.intro | refine And.intro rfl ?_)) rfl
  · rw [idxF_none fun j hj => h2 j hj (by omega)]
    clear hp h2 hrd
    repeat(first|refine qv rfl (qp rfl) rfl rfl ?_|refine TL_nil ?_|refine T_seq ?_|refine T_region ?_|refine qcT rfl ?_|refine qcF rfl ?_|refine T_skip ?_|refine T_exit ?_|refine T_ret ?_|refine T_block ?_|refine E_then ?_|refine E_thenX ?_|refine E_thenR ?_|refine E_blockN ?_|refine E_blockR ?_|refine E_blockX ?_|refine E_blockO rfl ?_|refine qv rfl (qlen Und.eq rfl) rfl rfl ?_|refine qv rfl (rr_lss rfl rfl (qT (by omega))) rfl rfl ?_|refine qv rfl (rr_lss rfl rfl (qF (by omega))) rfl rfl ?_|refine qv rfl (rr_add64 rfl rfl (by omega) (by omega) rfl) rfl rfl ?_)
    exact E_ret1 rfl rfl fun w hm => hm.ret
theorem containsFuncIntS_calls (v : Value) (l : List Int) (w : World) (hs : Sl w v l.length (l.flatMap kit.intC)) (fid : FuncId) (first cp : Array Value) (p : Int → Bool) (hen : Enters Try.prog fid)
    (hp : ∀ a ∈ l, ∀ w', Gr w w' → Calls Try.prog fid (first ++ #[((kit.intC a).headD undef)] ++ cp) w' (Meets (ret (.bool (p a))) w')) :
    Calls Try.prog 31 #[v, .func (.func fid) first cp] w (Meets (ret (.bool (l.any p))) w) := by
  refine enter (args := [v, .func (.func fid) first cp]) (n := 9) Try.func31 rfl rfl rfl ?_
  have hh := fun w' (hg : Gr w w') => indexFuncIntS_calls v l w' (hs.gr hg) fid first cp p hen fun a ha w'' hg' => hp a ha w'' (hg.trans hg')
  have hr := idxF_range p l
  rw [← idxF_any p l]
  generalize idxF p l = r at *
  repeat(first|refine qv rfl (qp rfl) rfl rfl ?_|refine TL_nil ?_|refine T_seq ?_|refine T_region ?_|refine T_ret ?_|refine E_then ?_|refine E_thenR ?_|refine qv rfl (rr_geq rfl rfl (qT (by omega))) rfl rfl ?_|refine qv rfl (rr_geq rfl rfl (qF (by omega))) rfl rfl ?_)
  refine TL_call (he2 EntersC.en rfl rfl rfl) (fun w hm => hh _ hm.below) rfl rfl rfl ?_
  intro _ _
  repeat(first|refine qv rfl (qp rfl) rfl rfl ?_|refine TL_nil ?_|refine T_seq ?_|refine T_region ?_|refine T_ret ?_|refine E_then ?_|refine E_thenR ?_|refine qv rfl (rr_geq rfl rfl rfl) rfl rfl ?_|refine qv rfl (rr_geq rfl rfl (qT (by omega))) rfl rfl ?_|refine qv rfl (rr_geq rfl rfl (qF (by omega))) rfl rfl ?_)
  exact E_ret1 rfl rfl fun w hm => hm.ret
end Go.Proofs.Ytlojfbnimmdehaa.eng

/- BuA -/
namespace Go.Proofs.Ytlojfbnimmdehaa.eng
open Go.RowKit kit mix gramL treeL factsL itemL smallL
/-- a stack, as it lies in memory -/
def sI (σ : List Nat) : List Int := σ.reverse.map fun q : Nat => (q : Int)
theorem sI_len (σ : List Nat) : (sI σ).length = σ.length := by unfold sI; simp
theorem sI_cons (q : Nat) (σ : List Nat) : sI (q :: σ) = sI σ ++ [(q : Int)] := by unfold sI; simp
theorem sI_drop (b : Nat) (σ : List Nat) : sI (σ.drop b) = (sI σ).take (σ.length - b) := by
  unfold sI
  rw [← List.map_take, List.take_reverse]
  by_cases h : b ≤ σ.length
  · rw [show σ.length - (σ.length - b) = b by omega]
  · rw [List.drop_eq_nil_of_le (by omega), List.drop_eq_nil_of_le (by omega)]
theorem sI_get {b : Nat} {σ ρ : List Nat} {r n : Nat} (h : σ.drop b = r :: ρ) (hn : σ.length = n + 1 + b) : (sI σ)[n]? = some (r : Int) := by
  have h1 := sI_drop b σ
  rw [h, sI_cons, show σ.length - b = n + 1 by omega] at h1
  have h2 : ρ.length = n := by
    have := congrArg List.length h
    rw [List.length_drop, List.length_cons] at this
    omega
  have h3 : ((sI σ).take (n + 1))[n]? = some (r : Int) := by
    rw [← h1, List.getElem?_append_right (by rw [sI_len]; omega), sI_len, h2, Nat.sub_self]; rfl
  rwa [List.getElem?_take_of_lt (Nat.lt_succ_self n)] at h3
abbrev skR (w : World) (vs : Value) (σ : List Nat) : Prop := Sl w vs σ.length ((sI σ).flatMap kit.intC)
abbrev skO (vs : Value) (σ : List Nat) : Own := rowO 3 1 vs σ.length ((sI σ).flatMap kit.intC)
def skV (vs : Value) (seen over : Int) (done : Bool) : Value := .agg #[vs, .int .i64 seen, .int .i64 over, .bool done]
theorem bdCheck1_calls (aA : Option Addr) (nA cA : Nat) (vG : Value) (q : Int) (g5 : Nat) (w : World) (h0 : 0 ≤ q) (h1 : q < (nA : Int)) (hg : w.heap[g5]? = some (.cells (Value.agg #[.slice aA nA cA, vG]).cells 29 (0, 0))) :
    Calls Try.prog 115 #[.int .i64 q, .pointer (some ⟨g5, 0, none⟩)] w (Meets (ret (.bool false)) w) := by
  have hcell : ∀ (L : List Own), At w L ⟨g5, 0, none⟩ (.slice aA nA cA) := fun L => at_old (by
    rw [cell_of_row w g5 0 _ _ _ hg]
    rfl)
  clear hg
  refine enter (args := [.int .i64 q, .pointer (some ⟨g5, 0, none⟩)]) (n := 13) Try.func115 rfl rfl rfl ?_
  repeat(first|refine QV QP ?_|refine QZ ?_|refine qs rfl rfl rfl rfl rfl rfl ?_|((try refine qg rfl rfl rfl ?_);first|refine QV QP ?_|refine QV (rr_lss (b := false) rfl rfl (decide_eq_false (by omega))) ?_|refine QV QlT ?_|refine QV QlF ?_|refine QV (rr_load1 (v := .slice aA nA cA) TyC.ty rfl (hcell _)) ?_|refine QV (rr_geq (b := false) rfl rfl (decide_eq_false (by omega))) ?_|refine QV QL ?_|refine QV QA ?_|refine QV QhT ?_|refine QV QhF ?_))
  exact E_ret1 rfl rfl fun w hm => hm.ret
set_option maxHeartbeats 4000000 in
theorem bdCheck_calls (v t vs : Value) (g : Gram) (T N : Nat) (A : List (List itemL.Act)) (G : List (List Int)) (σ : List Nat) (seen col : Int) (w : World) (hG : GraR (fun k => k < w.heap.size) w v g) (ht : TabR w t A G) (hs : skR w vs σ) (hT : LrOk g T N A G) (hq : ∀ q ∈ σ, q < A.length) (h0 : 0 < σ.length) (hl : σ.length ≤ 60) (h1 : 0 ≤ seen) (h2 : seen ≤ 1099511627776) (h3 : 0 ≤ col) (h4 : col ≤ g.terms) :
    Calls Try.prog 88 #[v, t, skV vs seen 0 false, .int .i64 col] w (Meets (ret (.int .i64 0)) w) := by
  have hck := fun w' (hg : Gr w w') => lrCheck_calls v t g T N A G hT w' (hG.gr hg) (ht.gr hg)
  obtain ⟨vp, rfl, hp, -, -⟩ := hG
  obtain ⟨bp, cp, rfl, -⟩ := hp
  obtain ⟨vA, vG, rfl, hA, hGo⟩ := ht
  obtain ⟨aA, cA, rfl, -, -⟩ := slf_form hA
  clear hA hGo
  have hco := fun w' (hg : Gr w w') g5 (hb : w'.heap[g5]? = some (.cells (Value.agg #[.slice aA A.length cA, vG]).cells 29 (0, 0))) => containsFuncIntS_calls vs (sI σ) w' (by rw [sI_len]; exact hs.gr hg) 115 #[] #[.pointer (some ⟨g5, 0, none⟩)] (fun _ => false) EntersC.en (fun a ha w'' hg' => by
    unfold sI at ha
    obtain ⟨q, hq1, rfl⟩ := List.mem_map.1 ha
    have := hq q (List.mem_reverse.1 hq1)
    exact bdCheck1_calls aA A.length cA vG (q : Int) g5 w'' (by omega) (by omega) (by rw [hg'.block g5 (Array.getElem?_eq_some_iff.1 hb).1]; exact hb))
  have hany : (sI σ).any (fun _ => false) = false := by rw [List.any_eq_false]; intro _ _ h; cases h
  rw [hany] at hco
  obtain ⟨bs, cs, rfl, -⟩ := hs
  refine enter (args := [graV g.terms g.nons (.slice bp g.prods.length cp), .agg #[.slice aA A.length cA, vG], skV (.slice bs σ.length cs) seen 0 false, .int .i64 col]) (n := 66) Try.func88 rfl rfl rfl ?_
  refine T_seq (T_region (TL_box rfl rfl rfl fun g4 => ?_))
  conv=>arg 8;simp only[zA,zB,zC,zD,zE,zF,zG,zH,zI,rowS,ret,id_eq]
  refine TL_box rfl rfl rfl fun g5 => ?_
  conv=>arg 8;simp only[zA,zB,zC,zD,zE,zF,zG,zH,zI,rowS,ret,id_eq]
  refine TL_box rfl rfl rfl fun g6 => ?_
  conv=>arg 8;simp only[zA,zB,zC,zD,zE,zF,zG,zH,zI,rowS,ret,id_eq]
  repeat(first|refine QV QP ?_|refine QZ ?_|refine qcT rfl ?_|refine qcF rfl ?_|refine qs rfl rfl rfl rfl rfl rfl ?_|((try refine qg rfl rfl rfl ?_);first|refine QV QP ?_|refine QV (rr_loadB (i := 0) TyC.ty rfl rfl rfl) ?_|refine QV (rr_loadB (i := 1) TyC.ty rfl rfl rfl) ?_|refine QV QL ?_|refine QV QA ?_|refine QV QeT ?_|refine QV QeF ?_|refine QV QnT ?_|refine QV QnF ?_|refine QV (rr_not rfl rfl) ?_|refine QV QlT ?_|refine QV QlF ?_|refine QV QgT ?_|refine QV QgF ?_))
  refine TL_call (he2 EntersC.en rfl rfl rfl) (fun w hm => hck w hm.below) rfl rfl rfl ?_
  intro _ _
  conv=>arg 8;simp only[zA,zB,zC,zD,zE,zF,zG,zH,zI,rowS,ret,id_eq]
  repeat(first|refine QV QP ?_|refine QZ ?_|refine qcT rfl ?_|refine qcF rfl ?_|refine qs rfl rfl rfl rfl rfl rfl ?_|((try refine qg rfl rfl rfl ?_);first|refine QV QP ?_|refine QV (rr_load1 (v := .slice bs σ.length cs) TyC.ty rfl (at_blk (i := 2) rfl rfl)) ?_|refine QV (rr_load1 (v := .int .i64 seen) TyC.ty rfl (at_blk (i := 2) rfl rfl)) ?_|refine QV (rr_load1 (v := .int .i64 0) TyC.ty rfl (at_blk (i := 2) rfl rfl)) ?_|refine QV (rr_load1 (v := .bool false) TyC.ty rfl (at_blk (i := 2) rfl rfl)) ?_|refine QV (rr_load1 (v := .int .i64 g.terms) TyC.ty rfl (at_blk (i := 0) rfl rfl)) ?_|refine QV (rr_func rfl rfl) ?_|refine QV QL ?_|refine QV QA ?_|refine QV QeT ?_|refine QV QeF ?_|refine QV QnT ?_|refine QV QnF ?_|refine QV (rr_not rfl rfl) ?_|refine QV QlT ?_|refine QV QlF ?_|refine QV QgT ?_|refine QV QgF ?_))
  refine TL_call (he2 EntersC.en rfl rfl rfl) (fun w hm => hco _ hm.below _ (hm.get (i := 1) rfl)) rfl rfl rfl ?_
  intro _ _
  conv=>arg 8;simp only[zA,zB,zC,zD,zE,zF,zG,zH,zI,rowS,ret,id_eq]
  repeat(first|refine QV QP ?_|refine QZ ?_|refine qcT rfl ?_|refine qcF rfl ?_|refine qs rfl rfl rfl rfl rfl rfl ?_|((try refine qg rfl rfl rfl ?_);first|refine QV QP ?_|refine QV (rr_load1 (v := .int .i64 0) TyC.ty rfl (at_blk (i := 2) rfl rfl)) ?_|refine QV (rr_load1 (v := .bool false) TyC.ty rfl (at_blk (i := 2) rfl rfl)) ?_|refine QV QL ?_|refine QV QA ?_|refine QV QeT ?_|refine QV QeF ?_|refine QV QnT ?_|refine QV QnF ?_|refine QV (rr_not rfl rfl) ?_|refine QV QlT ?_|refine QV QlF ?_|refine QV QgT ?_|refine QV QgF ?_))
  exact E_ret1 rfl rfl fun w hm => hm.ret
theorem build_sk0 (g : Nat) (w : World) : (Instr.build 125 #[(0, .slice (some ⟨g, 0, none⟩) 1 1)]).run Try.prog w = .ok (skV (.slice (some ⟨g, 0, none⟩) 1 1) 0 0 false) w := by
  unfold skV; go_simp
theorem build_skE (seen e : Int) (w : World) : (Instr.build 125 #[(1, .int .i64 seen), (2, .int .i64 e)]).run Try.prog w = .ok (skV (.slice none 0 0) seen e false) w := by
  unfold skV; go_simp
theorem build_skN (b : Option Addr) (m c : Nat) (seen : Int) (w : World) : (Instr.build 125 #[(0, .slice b m c), (1, .int .i64 seen)]).run Try.prog w = .ok (skV (.slice b m c) seen 0 false) w := by
  unfold skV; go_simp
theorem build_skD (seen : Int) (w : World) : (Instr.build 125 #[(1, .int .i64 seen), (3, .bool true)]).run Try.prog w = .ok (skV (.slice none 0 0) seen 0 true) w := by
  unfold skV; go_simp
def beginSS : Spec Value := ⟨fun _ => True, fun vt => skV vt 0 0 false, fun vt => [skO vt [0]]⟩
theorem bdBegin_calls (w : World) : Calls Try.prog 57 #[] w (Meets beginSS w) := by
  refine enter (args := []) (n := 3) Try.func57 rfl rfl rfl ?_
  refine T_seq (T_region (TL_new rfl fun g2 => ?_))
  conv=>arg 8;simp only[zA,zB,zC,zD,zE,zF,zG,zH,zI,rowS,ret,id_eq]
  repeat(first|refine QZ ?_)
  refine TL_litN (cs := #[.int .i64 0]) [.int .i64 0] rfl rfl rfl (by intro v hv; simp at hv; subst hv; rfl) rfl rfl rfl fun g3 => ?_
  conv=>arg 8;simp only[zA,zB,zC,zD,zE,zF,zG,zH,zI,rowS,ret,id_eq]
  repeat(first|refine QZ ?_|refine QV (rr_build rfl (build_sk0 _)) ?_)
  refine TL_storeB (i := 0) (cs' := #[.slice (some ⟨g3, 0, none⟩) 1 1, .int .i64 0, .int .i64 0, .bool false]) rfl rfl rfl rfl rfl rfl ?_
  conv=>arg 8;simp only[zA,zB,zC,zD,zE,zF,zG,zH,zI,rowS,ret,id_eq]
  refine TL_toRow (i := 1) 1 rfl rfl (by omega) ?_
  conv=>arg 8;simp only[zA,zB,zC,zD,zE,zF,zG,zH,zI,rowS,ret,id_eq]
  repeat(first|refine QZ ?_)
  exact E_retc1 (i := 0) rfl rfl rfl rfl fun w hm => hm.meets (S := beginSS) (.slice (some ⟨g3, 0, none⟩) 1 1) trivial [1] (by decide) rfl
/-- what reduce tells -/
def rduS (R : Option (List Nat)) : Spec Value := ⟨fun _ => True, fun v => .tuple #[v, .bool R.isSome], fun v => match R with | some σ' => [skO v σ'] | none => []⟩
set_option maxHeartbeats 4000000 in
theorem bdReduce_calls (v t vs : Value) (g : Gram) (T N : Nat) (A : List (List itemL.Act)) (G : List (List Int)) (σ : List Nat) (p : Nat) (w : World) (hG : GraR (fun k => k < w.heap.size) w v g) (ht : TabR w t A G) (hs : skR w vs σ) (hT : LrOk g T N A G) (hq : ∀ q ∈ σ, q < A.length) (hl : σ.length ≤ 60) (hp : p < g.prods.length) :
    Calls Try.prog 117 #[v, t, vs, .int .i64 (p : Int)] w (Meets (rduS (redB g.prods (gotoT G) σ (p : Int))) w) := by
  obtain ⟨hg, hTt, hNn, hpos, hfew, hsame, hwA, hact, hwG, hgos⟩ := hT
  obtain ⟨hT1, hT2, -, hN2, hpl, hpr⟩ := checkG_ok hg
  have hpe : prodAt g.prods (p : Int) = g.prods[p] := by unfold prodAt; rw [Int.toNat_natCast, List.getD_eq_getElem?_getD, List.getElem?_eq_getElem hp]; rfl
  have hpp := hpr _ (List.getElem_mem hp)
  obtain ⟨vp, rfl, hpg, -, -⟩ := hG
  obtain ⟨bp, cp, rfl, -, -, hrp⟩ := hpg
  obtain ⟨b1, o1, rfl, -, hrp⟩ := hrp (by omega)
  obtain ⟨base, cap, hrd, -, -⟩ := prod_at hrp hp
  clear hrp
  unfold redB
  rw [hpe]
  have hrdH : ∀ L, At (w : Base) L ⟨b1, o1 + p * 2 + 0, none⟩ (.int .i64 g.prods[p].1) := fun L => at_rd hrd rfl
  have hrdB : ∀ L, At (w : Base) L ⟨b1, o1 + p * 2 + 1, none⟩ (.slice base g.prods[p].2.length cap) := fun L => at_rd hrd rfl
  clear hrd hpe hpr
  generalize g.prods[p] = pr at *
  obtain ⟨hd, bd⟩ := pr
  dsimp only at *
  obtain ⟨vA, vG, rfl, -, hGo⟩ := ht
  obtain ⟨aG, cG, rfl, -, -⟩ := slf_form hGo
  obtain ⟨bs, cs, rfl, hcs, hms, hrS⟩ := hs
  unfold maxLen at hms
  refine enter (args := [graV g.terms g.nons (.slice (some ⟨b1, o1, none⟩) g.prods.length cp), .agg #[vA, .slice aG G.length cG], .slice bs σ.length cs, .int .i64 (p : Int)]) (n := 50) Try.func117 rfl rfl rfl ?_
  refine T_seq (T_region (TL_box rfl rfl rfl fun g4 => ?_))
  conv=>arg 8;simp only[zA,zB,zC,zD,zE,zF,zG,zH,zI,rowS,ret,id_eq]
  refine TL_box rfl rfl rfl fun g5 => ?_
  conv=>arg 8;simp only[zA,zB,zC,zD,zE,zF,zG,zH,zI,rowS,ret,id_eq]
  by_cases c : σ.length ≤ bd.length
  · rw [List.drop_eq_nil_of_le c]
    repeat(first|refine QV QP ?_|refine QZ ?_|refine qcT rfl ?_|refine qcF rfl ?_|refine QV (rr_load1 (v := .slice (some ⟨b1, o1, none⟩) g.prods.length cp) TyC.ty rfl (at_blk (i := 0) rfl rfl)) ?_|refine QV (rr_idxc Und.eq TyC.ty rfl rfl hp) ?_|refine QV (rr_load1 (v := .slice base bd.length cap) TyC.ty rfl (hrdB _)) ?_|refine QV (rr_sub64 (r := (σ.length : Int) - (bd.length : Int)) rfl rfl rfl (by omega) (by omega)) ?_|refine QV (rr_lss (b := true) rfl rfl (decide_eq_true (by omega))) ?_|refine QV QL ?_|refine QV QA ?_|refine QV QlT ?_|refine QV QlF ?_|refine QV QhT ?_|refine QV QhF ?_|refine QV QaS ?_)
    exact E_ret2 rfl rfl rfl fun w hm => hm.meets (S := rduS none) (.slice none 0 0) trivial [] (by decide) rfl
  obtain ⟨n, hn⟩ : ∃ n, σ.length = n + 1 + bd.length := ⟨σ.length - bd.length - 1, by omega⟩
  obtain ⟨r, ρ, hdr⟩ : ∃ r ρ, σ.drop bd.length = r :: ρ := List.exists_cons_of_ne_nil fun e => by
    have := congrArg List.length e
    rw [List.length_drop, List.length_nil] at this
    omega
  have hgr := sI_get hdr hn
  have hdI := sI_drop bd.length σ
  rw [hdr, sI_cons, show σ.length - bd.length = n + 1 by omega] at hdI
  have hrA : r < A.length := hq r (List.mem_of_mem_drop (i := bd.length) (by rw [hdr]; exact List.mem_cons_self ..))
  rw [hdr]
  dsimp only
  have hrG : r < G.length := by omega
  obtain ⟨b2, o2, rfl, hrd2⟩ := hrS (by omega)
  rw [flatI] at hrd2
  have hat2 : ∀ L, At (w : Base) L ⟨b2, o2 + n, none⟩ (.int .i64 (r : Int)) := fun L => at_rd hrd2 (by rw [List.getElem?_map, hgr]; rfl)
  have hat2' : ∀ L j u, (((sI σ).take (n + 1)).flatMap kit.intC)[j]? = some u → At (w : Base) L ⟨b2, o2 + j, none⟩ u := fun L j u hj => at_rd hrd2 (by
    rw [flatI, List.map_take, List.getElem?_take] at hj
    by_cases cc : j < n + 1
    · rwa [if_pos cc] at hj
    · rw [if_neg cc] at hj; cases hj)
  clear hrd2 hrS
  obtain ⟨bG, oG, wi, rfl, hcG, hsG⟩ := slf_at hGo hrG
  have hcG' : ∀ L, At (w : Base) L ⟨bG, oG + r, none⟩ wi := fun L => at_old hcG
  clear hcG
  obtain ⟨ei, di, rfl, hdi, hdi2⟩ := slf_form hsG
  have hfG := hsG.flat (f := fun n => [Value.int .i64 n]) (by decide)
  obtain ⟨_, _, e2, -, -, hrY⟩ := hfG
  cases e2
  have hwGr := hwG r hrG
  have hgo := hgos r hrG
  have hgt : gotoT G r hd = G[r].getD hd.toNat 0 := by unfold gotoT; rw [List.getD_eq_getElem?_getD (l := G), List.getElem?_eq_getElem hrG]; rfl
  rw [hgt]
  clear hsG hgt hgos hwG hwA hact hGo
  generalize G[r] = Y at *
  obtain ⟨h, rfl⟩ := Int.eq_ofNat_of_zero_le hpp.2.1
  have hhY : h < Y.length := by omega
  obtain ⟨b3, o3, rfl, hrd3⟩ := hrY (by omega)
  have hYh : Y[h]? = some (Y.getD h 0) := by rw [List.getD_eq_getElem?_getD, List.getElem?_eq_getElem hhY]; rfl
  have hat3 : ∀ L, At (w : Base) L ⟨b3, o3 + h, none⟩ (.int .i64 (Y.getD h 0)) := fun L => at_rd hrd3 (by
    rw [show (Y.flatMap fun n => [Value.int .i64 n]) = Y.map (.int .i64) from flatI Y, List.getElem?_map, hYh]; rfl)
  have hto := hgo _ (List.mem_of_getElem? hYh)
  clear hrd3 hrY hYh hgo
  rw [show Y.getD ((h : Int)).toNat 0 = Y.getD h 0 from rfl]
  generalize Y.getD h 0 = to1 at *
  repeat(first|refine QV QP ?_|refine QZ ?_|refine qcT rfl ?_|refine qcF rfl ?_|refine QV (rr_load1 (v := .slice (some ⟨b1, o1, none⟩) g.prods.length cp) TyC.ty rfl (at_blk (i := 0) rfl rfl)) ?_|refine QV (rr_idxc Und.eq TyC.ty rfl rfl hp) ?_|refine QV (rr_load1 (v := .slice base bd.length cap) TyC.ty rfl (hrdB _)) ?_|refine QV (rr_sub64 (r := ((n + 1 : Nat) : Int)) rfl rfl (by omega) (by omega) (by omega)) ?_|refine QV (rr_lss (b := false) rfl rfl (decide_eq_false (by omega))) ?_|refine QV QL ?_|refine QV QA ?_|refine QV QlT ?_|refine QV QlF ?_|refine QV QhT ?_|refine QV QhF ?_|refine QV QaS ?_)
  refine T_ord ([blkO g4 (graV g.terms g.nons (.slice (some ⟨b1, o1, none⟩) g.prods.length cp)).cells 24, blkO g5 (Value.agg #[vA, .slice (some ⟨bG, oG, none⟩) G.length cG]).cells 29]) (.calm 0 (.calm 1 (.calm 2 (.calm 3 (.calm 4 (.calm 5 (.calm 6 (.calm 7 (.calm 8 (.calm 9 (.calm 10 (.calm 11 (.calm 12 (.calm 13 (.calm 14 (.calm 15 (.calm 16 (.calm 17 (.done))))))))))))))))))) (fun _ h => h) (by kernel_rfl) (by kernel_rfl) (by intro c a d v w h; cases d <;> exact h) ?_
  repeat(first|((first|refine TW_plain rfl rfl ?_|refine TW_gmet rfl rfl rfl rfl ?_);first|refine QW QP ?_|refine QW (rr_load1 (v := .slice (some ⟨bG, oG, none⟩) G.length cG) TyC.ty rfl (at_blk (i := 1) rfl rfl)) ?_|refine QW (rr_sub64 (r := (n : Int)) rfl rfl (by omega) (by omega) (by omega)) ?_|refine QW (rr_idx1 (j := n) Und.eq TyC.ty rfl rfl (by omega)) ?_|refine QW (rr_load1 (v := .int .i64 (r : Int)) TyC.ty rfl (hat2 _)) ?_|refine QW (rr_idx1 (j := r) Und.eq TyC.ty rfl rfl hrG) ?_|refine QW (rr_load1 (v := .slice (some ⟨b3, o3, none⟩) Y.length di) TyC.ty rfl (hcG' _)) ?_|refine QW (rr_load1 (v := .slice (some ⟨b1, o1, none⟩) g.prods.length cp) TyC.ty rfl (at_blk (i := 0) rfl rfl)) ?_|refine QW (rr_idxc Und.eq TyC.ty rfl rfl hp) ?_|refine QW (rr_load1 (v := .int .i64 (h : Int)) TyC.ty rfl (hrdH _)) ?_|refine QW (rr_idx1 (j := h) Und.eq TyC.ty rfl rfl hhY) ?_|refine QW (rr_load1 (v := .int .i64 to1) TyC.ty rfl (hat3 _)) ?_|refine QW QL ?_|refine QW QA ?_|refine QW QlT ?_|refine QW QlF ?_|refine QW QhT ?_|refine QW QhF ?_|refine QW QaS ?_)|refine TW_done ?_)
  repeat(first|refine QV QP ?_|refine QZ ?_|refine qcT rfl ?_|refine qcF rfl ?_|refine QV (rr_sl3 (j := n + 1) Und.eq TyC.ty rfl rfl rfl (by omega)) ?_|refine QV QL ?_|refine QV QA ?_|refine QV QlT ?_|refine QV QlF ?_|refine QV QhT ?_|refine QV QhF ?_|refine QV QaS ?_)
  refine TL_one (cs := #[.int .i64 to1]) rfl rfl rfl rfl rfl fun g46 => ?_
  conv=>arg 8;simp only[zA,zB,zC,zD,zE,zF,zG,zH,zI,rowS,ret,id_eq]
  refine TL_appFull (q := 2) (m := n + 1) (olds := ((sI σ).take (n + 1)).flatMap kit.intC) rfl (hat2' _) (by rw [flatI, List.length_map, List.length_take, sI_len]; show _ = (n + 1) * 1; omega) rfl rfl rfl (by omega) (by omega) rfl fun v' => ?_
  conv=>arg 8;simp only[zA,zB,zC,zD,zE,zF,zG,zH,zI,rowS,ret,id_eq]
  by_cases c2 : 0 ≤ to1
  · rw [if_pos c2]
    have e : rowO 3 1 v' (n + 1 + 1) (((sI σ).take (n + 1)).flatMap kit.intC ++ [.int .i64 to1]) = skO v' (to1.toNat :: r :: ρ) := by
      have hl1 : (to1.toNat :: r :: ρ).length = n + 1 + 1 := by
        have := congrArg List.length hdr
        rw [List.length_drop] at this
        simp only [List.length_cons] at this ⊢
        omega
      show _ = rowO 3 1 v' (to1.toNat :: r :: ρ).length ((sI (to1.toNat :: r :: ρ)).flatMap kit.intC)
      rw [hl1, sI_cons, sI_cons, hdI, List.flatMap_append, Int.toNat_of_nonneg c2]
      rfl
    repeat(first|refine QV QP ?_|refine QZ ?_|refine qcT rfl ?_|refine qcF rfl ?_|refine QV (rr_geq (b := true) rfl rfl (decide_eq_true c2)) ?_|refine QV QL ?_|refine QV QA ?_|refine QV QlT ?_|refine QV QlF ?_|refine QV QhT ?_|refine QV QhF ?_|refine QV QaS ?_)
    exact E_ret2 rfl rfl rfl fun w hm => hm.meets (S := rduS (some (to1.toNat :: r :: ρ))) v' trivial [3] (by decide) (by show [_] = [_]; rw [← e]; rfl)
  · rw [if_neg c2]
    repeat(first|refine QV QP ?_|refine QZ ?_|refine qcT rfl ?_|refine qcF rfl ?_|refine QV (rr_geq (b := false) rfl rfl (decide_eq_false c2)) ?_|refine QV QL ?_|refine QV QA ?_|refine QV QlT ?_|refine QV QlF ?_|refine QV QhT ?_|refine QV QhF ?_|refine QV QaS ?_)
    exact E_ret2 rfl rfl rfl fun w hm => hm.meets (S := rduS none) v' trivial [] (by decide) rfl
end Go.Proofs.Ytlojfbnimmdehaa.eng

/- BuB -/
namespace Go.Proofs.Ytlojfbnimmdehaa.eng
open Go.RowKit kit mix gramL treeL factsL itemL smallL
theorem LrOk.right {g : Gram} {T N : Nat} {A : List (List itemL.Act)} {G : List (List Int)} (h : LrOk g T N A G) {q c : Nat} (hq : q < A.length) (hc : c ≤ T) : RightAct T g.prods.length A.length (actT A q c) c := by
  have h1 : c < A[q].length := by rw [h.wA q hq]; omega
  have := h.acts q hq c h1
  unfold actT
  rw [List.getD_eq_getElem?_getD (l := A), List.getElem?_eq_getElem hq, Option.getD_some, List.getD_eq_getElem?_getD, List.getElem?_eq_getElem h1]
  exact this
theorem LrOk.go {g : Gram} {T N : Nat} {A : List (List itemL.Act)} {G : List (List Int)} (h : LrOk g T N A G) {q : Nat} {n : Int} (hq : q < A.length) (h0 : 0 ≤ n) (h1 : n < (N : Int)) : gotoT G q n < (A.length : Int) := by
  have hqG : q < G.length := by rw [h.same]; exact hq
  have h2 : n.toNat < G[q].length := by rw [h.wG q hqG]; omega
  have := (h.gos q hqG _ (List.getElem_mem h2)).2
  unfold gotoT
  rw [List.getD_eq_getElem?_getD (l := G), List.getElem?_eq_getElem hqG, Option.getD_some, List.getD_eq_getElem?_getD, List.getElem?_eq_getElem h2]
  exact this
/-- what reduce leaves -/
theorem redB_ok {g : Gram} {T N : Nat} {A : List (List itemL.Act)} {G : List (List Int)} (h : LrOk g T N A G) {σ σ' : List Nat} {p : Int} (h0 : 0 ≤ p) (h1 : p < (g.prods.length : Int)) (hq : ∀ q ∈ σ, q < A.length) (hr : redB g.prods (gotoT G) σ p = some σ') : σ' ≠ [] ∧ σ'.length ≤ σ.length + 1 ∧ ∀ q ∈ σ', q < A.length := by
  unfold redB at hr
  cases e : σ.drop (prodAt g.prods p).2.length with
  | nil => rw [e] at hr; cases hr
  | cons r ρ =>
    rw [e] at hr
    dsimp only at hr
    have hsub : ∀ q ∈ r :: ρ, q < A.length := fun q hq' => hq q (List.mem_of_mem_drop (i := (prodAt g.prods p).2.length) (by rw [e]; exact hq'))
    have hlen : (r :: ρ).length ≤ σ.length := by rw [← e, List.length_drop]; omega
    split at hr
    · rename_i c
      obtain rfl := Option.some.inj hr
      have hh := (checkG_ok h.gram).2.2.2.2.2 _ (countL.prodAt_mem h0 h1)
      have := h.go (hsub r (List.mem_cons_self ..)) hh.2.1 (by have := h.nons; omega)
      refine ⟨by simp, by simp only [List.length_cons] at hlen ⊢; omega, fun q hq' => ?_⟩
      rcases List.mem_cons.1 hq' with rfl | hq'
      · omega
      · exact hsub q hq'
    · cases hr
section
variable {l : List gramL.Prod} {act : Nat → Nat → itemL.Act} {gt : Nat → Int → Int} {col a f q : Nat} {σ : List Nat} {o : List Sym}
theorem rb_0 {m : Int} (h : act q col = (0, m)) : runB l act gt col a (f + 1) (q :: σ) o = (13, [], []) := by
  rw [runB, show (q :: σ).headD 0 = q from rfl, h, if_neg (by simp), if_neg (by simp), if_neg (by simp), if_neg (by simp)]
theorem rb_top {x : itemL.Act} (h : act q col = x) (h0 : x.1 ≠ 0) : runB l act gt col a 1 (q :: σ) o = (14, [], []) := by
  rw [runB, show (q :: σ).headD 0 = q from rfl, h, if_pos ⟨rfl, h0⟩]
theorem rb_3 {m : Int} (h : act q col = (3, m)) : runB l act gt col a (f + 1 + 1) (q :: σ) o = (0, q :: σ, o) := by
  rw [runB, show (q :: σ).headD 0 = q from rfl, h, if_neg (fun h => Nat.succ_ne_zero _ h.1), if_pos rfl]
theorem rb_1 {m : Int} (h : act q col = (1, m)) : runB l act gt col a (f + 1 + 1) (q :: σ) o = if 60 < (q :: σ).length + 1 then (14, [], []) else (0, m.toNat :: q :: σ, o ++ [(2, (a : Int))]) := by
  rw [runB, show (q :: σ).headD 0 = q from rfl, h, if_neg (fun h => Nat.succ_ne_zero _ h.1), if_neg (by simp), if_pos rfl]
theorem rb_2n {m : Int} (h : act q col = (2, m)) (hr : redB l gt (q :: σ) m = none) : runB l act gt col a (f + 1 + 1) (q :: σ) o = (13, [], []) := by
  rw [runB, show (q :: σ).headD 0 = q from rfl, h, if_neg (fun h => Nat.succ_ne_zero _ h.1), if_neg (by simp), if_neg (by simp), if_pos rfl]
  dsimp only
  rw [hr]
theorem rb_2 {m : Int} {σ' : List Nat} (h : act q col = (2, m)) (hr : redB l gt (q :: σ) m = some σ') : runB l act gt col a (f + 1 + 1) (q :: σ) o = if 60 < σ'.length then (14, [], []) else runB l act gt col a (f + 1) σ' (o ++ [(4, m)]) := by
  rw [runB, show (q :: σ).headD 0 = q from rfl, h, if_neg (fun h => Nat.succ_ne_zero _ h.1), if_neg (by simp), if_neg (by simp), if_pos rfl]
  dsimp only
  rw [hr]
end
/-- what a token leaves -/
theorem runB_ok {g : Gram} {T N : Nat} {A : List (List itemL.Act)} {G : List (List Int)} (h : LrOk g T N A G) {col a : Nat} (hc : col ≤ T) : ∀ (f : Nat) {σ : List Nat} {o : List Sym}, σ ≠ [] → (∀ q ∈ σ, q < A.length) → σ.length ≤ 60 → (runB g.prods (actT A) (gotoT G) col a f σ o).1 = 0 →
    (runB g.prods (actT A) (gotoT G) col a f σ o).2.1 ≠ [] ∧ (∀ q ∈ (runB g.prods (actT A) (gotoT G) col a f σ o).2.1, q < A.length) ∧ (runB g.prods (actT A) (gotoT G) col a f σ o).2.1.length ≤ 60 ∧ (runB g.prods (actT A) (gotoT G) col a f σ o).2.2.length ≤ o.length + f
  | 0, _, _, _, _, _, h0 => by cases h0
  | f + 1, σ, o, hne, hq, hl, h0 => by
    obtain ⟨q, σ, rfl⟩ := List.exists_cons_of_ne_nil hne
    have hri := h.right (hq q (List.mem_cons_self ..)) hc
    generalize hx : actT A q col = x at hri
    obtain ⟨k, m⟩ := x
    by_cases ck : k = 0
    · subst ck; rw [rb_0 hx] at h0; cases h0
    cases f with
    | zero => rw [rb_top hx ck] at h0; cases h0
    | succ f =>
      rcases hri with ⟨e, _⟩ | ⟨e, h1, h2, h3⟩ | ⟨e, h1, h2⟩ | ⟨e, _⟩ <;> dsimp only at e <;> subst e
      · exact absurd rfl ck
      · rw [rb_1 hx] at h0 ⊢
        by_cases c : 60 < (q :: σ).length + 1
        · rw [if_pos c] at h0; cases h0
        rw [if_neg c]
        refine ⟨by simp, fun y hy => ?_, by simp only [List.length_cons] at c ⊢; omega, by simp⟩
        rcases List.mem_cons.1 hy with rfl | hy
        · dsimp only at h2 h3; omega
        · exact hq y hy
      · dsimp only at h1 h2
        cases hr : redB g.prods (gotoT G) (q :: σ) m with
        | none => rw [rb_2n hx hr] at h0; cases h0
        | some σ' =>
          rw [rb_2 hx hr] at h0 ⊢
          by_cases c : 60 < σ'.length
          · rw [if_pos c] at h0; cases h0
          rw [if_neg c] at h0 ⊢
          obtain ⟨r1, r2, r3⟩ := redB_ok h h1 h2 hq hr
          have := runB_ok h hc (f + 1) (o := o ++ [(4, m)]) r1 r3 (by omega) h0
          refine ⟨this.1, this.2.1, this.2.2.1, Nat.le_trans this.2.2.2 ?_⟩
          rw [List.length_append, List.length_singleton]; omega
      · rw [rb_3 hx]
        exact ⟨hne, hq, hl, by show o.length ≤ _; omega⟩
theorem sk_at {B : Base} {L : List Own} {i g cap : Nat} {q : Nat} {σ : List Nat} (hi : L[i]? = some (skO (.slice (some ⟨g, 0, none⟩) (σ.length + 1) cap) (q :: σ))) : At B L ⟨g, 0 + σ.length * 1, none⟩ (.int .i64 (q : Int)) :=
  at_rowel (f := kit.intC) IntC_len hi (k := σ.length) (by rw [sI_len]; simp) 0 _ (by
    have : (sI (q :: σ))[σ.length]? = some (q : Int) := sI_get (b := 0) (ρ := σ) rfl rfl
    rw [List.getElem?_eq_some_iff] at this
    obtain ⟨_, h⟩ := this
    rw [h]; rfl)
theorem sk_push {v : Value} {m : Int} {q : Nat} {σ : List Nat} (h : 0 ≤ m) : rowO 3 1 v (σ.length + 1 + 1) ((sI (q :: σ)).flatMap kit.intC ++ [.int .i64 m]) = skO v (m.toNat :: q :: σ) := by
  show _ = rowO 3 1 v (m.toNat :: q :: σ).length ((sI (m.toNat :: q :: σ)).flatMap kit.intC)
  rw [sI_cons m.toNat, List.flatMap_append, Int.toNat_of_nonneg h]
  rfl
theorem ev_push {v : Value} {x : Sym} {o : List Sym} : rowO 82 2 v (o.length + 1) (o.flatMap symC ++ symC x) = evO v (o ++ [x]) := by
  show _ = rowO 82 2 v (o ++ [x]).length ((o ++ [x]).flatMap symC)
  rw [List.length_append, List.flatMap_append]
  simp
/-- what run tells -/
def runBS (R : Int × List Nat × List Sym) : Spec (Value × Value) := ⟨fun _ => True, fun x => if R.1 = 0 then .tuple #[x.1, x.2, .int .i64 0] else .tuple #[.slice none 0 0, .slice none 0 0, .int .i64 R.1], fun x => if R.1 = 0 then [skO x.1 R.2.1, evO x.2 R.2.2] else []⟩
theorem runBS_ok {σ : List Nat} {o : List Sym} : runBS (0, σ, o) = ⟨fun _ => True, fun x => .tuple #[x.1, x.2, .int .i64 0], fun x => [skO x.1 σ, evO x.2 o]⟩ := by unfold runBS; simp
theorem runBS_no {e : Int} (he : e ≠ 0) {x : List Nat × List Sym} : runBS (e, x) = ⟨fun _ => True, fun _ => .tuple #[.slice none 0 0, .slice none 0 0, .int .i64 e], fun _ => []⟩ := by unfold runBS; simp [he]
attribute [local irreducible] Instr.build in
set_option maxHeartbeats 8000000 in
theorem bdRun_calls (v t vs : Value) (g : Gram) (T N : Nat) (A : List (List itemL.Act)) (G : List (List Int)) (σ0 : List Nat) (seen col : Nat) (w : World) (hG : GraR (fun k => k < w.heap.size) w v g) (ht : TabR w t A G) (hs : skR w vs σ0) (hT : LrOk g T N A G) (hq : ∀ q ∈ σ0, q < A.length) (hne : σ0 ≠ []) (hl : σ0.length ≤ 60) (hc : col ≤ T) :
    Calls Try.prog 90 #[v, t, skV vs (seen : Int) 0 false, .int .i64 (col : Int)] w (Meets (runBS (runB g.prods (actT A) (gotoT G) col seen 2001 σ0 [])) w) := by
  have hcl := fun w' (hg : Gr w w') => cloneIntC_calls vs (sI σ0) w' (by rw [sI_len]; exact hs.gr hg) (by rw [sI_len]; omega)
  rw [sI_len] at hcl
  have hrd := fun vs' σ p w' (hg : Gr w w') hs' hq' hl' hp => bdReduce_calls v t vs' g T N A G σ p w' (hG.gr hg) (ht.gr hg) hs' hT hq' hl' hp
  have hrok := fun σ σ' p h0 h1 hq hr => redB_ok (σ := σ) (σ' := σ') (p := p) hT h0 h1 hq hr
  have hri := fun q (hq : q < A.length) => hT.right hq hc
  have hwA := hT.wA
  clear hT
  obtain ⟨vp, rfl, -⟩ := hG
  obtain ⟨vA, vG, rfl, hA, -⟩ := ht
  obtain ⟨aA, cA, rfl, -, -⟩ := slf_form hA
  refine enter (args := [graV g.terms g.nons vp, .agg #[.slice aA A.length cA, vG], skV vs (seen : Int) 0 false, .int .i64 (col : Int)]) (n := 87) Try.func90 rfl rfl rfl ?_
  refine T_seq (T_region (TL_box rfl rfl rfl fun g4 => ?_))
  conv=>arg 8;simp only[zA,zB,zC,zD,zE,zF,zG,zH,zI,rowS,ret,id_eq]
  refine TL_box rfl rfl rfl fun g5 => ?_
  conv=>arg 8;simp only[zA,zB,zC,zD,zE,zF,zG,zH,zI,rowS,ret,id_eq]
  refine TL_box rfl rfl rfl fun g6 => ?_
  conv=>arg 8;simp only[zA,zB,zC,zD,zE,zF,zG,zH,zI,rowS,ret,id_eq]
  repeat(first|refine QV QP ?_|refine QZ ?_|refine qcT rfl ?_|refine qcF rfl ?_|refine qs rfl rfl rfl rfl rfl rfl ?_|((try refine qg rfl rfl rfl ?_);first|refine QV QP ?_|refine QV (rr_load1 (v := vs) TyC.ty rfl (at_blk (i := 2) rfl rfl)) ?_|refine QV QL ?_|refine QV QA ?_|refine QV (rr_not rfl rfl) ?_|refine QV QgT ?_|refine QV QgF ?_|refine QV QeT ?_|refine QV QeF ?_|refine QV QaA ?_|refine QV QaS ?_|refine QV QnT ?_|refine QV QnF ?_))
  refine TL_call (he1 EntersC.en rfl rfl) (fun w hm => hcl w hm.below) rfl rfl rfl ?_
  intro vs1 _
  conv=>arg 8;simp only[zA,zB,zC,zD,zE,zF,zG,zH,zI,rowS,ret,id_eq]
  repeat(first|refine QV QP ?_|refine QZ ?_|refine qcT rfl ?_|refine qcF rfl ?_|refine qs rfl rfl rfl rfl rfl rfl ?_|((try refine qg rfl rfl rfl ?_);first|refine QV QP ?_|refine QV QL ?_|refine QV QA ?_|refine QV (rr_not rfl rfl) ?_|refine QV QgT ?_|refine QV QgF ?_|refine QV QeT ?_|refine QV QeF ?_|refine QV QaA ?_|refine QV QaS ?_|refine QV QnT ?_|refine QV QnF ?_))
  refine T_nil 82 2 ?_
  generalize hR : runB g.prods (actT A) (gotoT G) col seen 2001 σ0 [] = R
  clear hcl hs
  refine T_loop (ι := Nat × List Nat × List Sym × Value × Value) (fun (f, σ, o, _, _) => runB g.prods (actT A) (gotoT G) col seen f σ o = R ∧ f ≤ 2001 ∧ 1 ≤ f ∧ o.length + f ≤ 2001 ∧ σ ≠ [] ∧ σ.length ≤ 60 ∧ ∀ q ∈ σ, q < A.length)
    (fun (f, _, _, vs, vo) => [(3, .int .i64 (col : Int)), (4, .pointer (some ⟨g4, 0, none⟩)), (5, .pointer (some ⟨g5, 0, none⟩)), (6, .pointer (some ⟨g6, 0, none⟩)), (11, vs), (12, vo), (13, .int .i64 ((2001 - f : Nat) : Int))])
    (fun (_, σ, o, vs', vo) => [blkO g4 (graV g.terms g.nons vp).cells 24, blkO g5 (Value.agg #[.slice aA A.length cA, vG]).cells 29, blkO g6 (skV vs (seen : Int) 0 false).cells 125, skO vs' σ, evO vo o]) (fun (f, _, _, _, _) => f) (2001, σ0, [], vs1, .slice none 0 0) ⟨hR, by omega, by omega, by simp, hne, hl, hq⟩ (by repeat' (first | exact True.intro | refine And.intro rfl ?_)) rfl ?_
  clear hR hne hl hq
  rintro ⟨f, σ, o, vs', vo⟩ ⟨i1, i2, i3, i4, i5, i6, i7⟩
  dsimp only at i1 i2 i3 i4 i5 i6 i7 ⊢
  obtain ⟨q, σ, rfl⟩ := List.exists_cons_of_ne_nil i5
  obtain ⟨f, rfl⟩ : ∃ f', f = f' + 1 := ⟨f - 1, by omega⟩
  have hqA := i7 q (List.mem_cons_self ..)
  have hriq := hri q hqA
  obtain ⟨bA, oA, wi, rfl, hcA, hsA⟩ := slf_at hA hqA
  have hcA' : ∀ L, At (w : Base) L ⟨bA, oA + q, none⟩ wi := fun L => at_old hcA
  obtain ⟨ei, di, rfl, hdi, hdi2⟩ := slf_form hsA
  have hfA := hsA.flat (f := actC) (by decide)
  obtain ⟨_, _, e2, -, -, hrX⟩ := hfA
  cases e2
  have hwAq := hwA q hqA
  have hxe : actT A q col = A[q].getD col (0, 0) := by unfold actT; rw [List.getD_eq_getElem?_getD (l := A), List.getElem?_eq_getElem hqA]; rfl
  have hcX : col < A[q].length := by omega
  obtain ⟨b3, o3, rfl, hrd3⟩ := hrX (by omega)
  have hat := fun L => at_el (L := L) actC_len hrd3 hcX
  have hxe2 : A[q][col] = actT A q col := by rw [hxe, List.getD_eq_getElem?_getD, List.getElem?_eq_getElem hcX]; rfl
  rw [hxe2] at hat
  have hatA : ∀ (L : List Own) (j : Nat) (u : Value), (actC (actT A q col))[j]? = some u → At (w : Base) L ⟨b3, o3 + col * 2 + j, none⟩ u := hat
  clear hat hrd3 hrX hxe hxe2 hsA hcA hwA hA hri
  generalize A[q] = X at *
  generalize hx : actT A q col = x at *
  refine T_rowN (i := 3) rfl (by simp) fun gs cs hv q1 q2 => ?_
  subst hv
  simp only [List.length_cons] at i4 i6 q1 ⊢
  repeat(first|refine QV QP ?_|refine QZ ?_|refine qcT rfl ?_|refine qcF rfl ?_|refine qs rfl rfl rfl rfl rfl rfl ?_|((try refine qg rfl rfl rfl ?_);first|refine QV QP ?_|refine QV QL ?_|refine QV QA ?_|refine QV (rr_not rfl rfl) ?_|refine QV QgT ?_|refine QV QgF ?_|refine QV QeT ?_|refine QV QeF ?_|refine QV QaA ?_|refine QV QaS ?_|refine QV QnT ?_|refine QV QnF ?_))
  refine T_ord ([blkO g5 (Value.agg #[.slice (some ⟨bA, oA, none⟩) A.length cA, vG]).cells 29, skO (.slice (some ⟨gs, 0, none⟩) (σ.length + 1) cs) (q :: σ)]) (.calm 0 (.calm 1 (.calm 2 (.calm 3 (.calm 4 (.calm 5 (.calm 6 (.calm 7 (.calm 8 (.calm 9 (.calm 10 (.calm 11 (.calm 12 (.one 13 (.one 14 (.done)))))))))))))))) (sub_pick [1, 3] (by decide) rfl) (by kernel_rfl) (by kernel_rfl) (by intro c a d v w h; cases d <;> exact h) ?_
  repeat(first|((first|refine TW_plain rfl rfl ?_|refine TW_gmet rfl rfl rfl rfl ?_);first|refine QW QP ?_|refine QW (rr_load1 (v := .slice (some ⟨bA, oA, none⟩) A.length cA) TyC.ty rfl (at_blk (i := 0) rfl rfl)) ?_|refine QW (rr_sub64 (r := (σ.length : Int)) rfl rfl (by omega) (by omega) (by omega)) ?_|refine QW (rr_idxc (j := σ.length) Und.eq TyC.ty rfl rfl (by omega)) ?_|refine QW (rr_load1 (v := .int .i64 (q : Int)) TyC.ty rfl (sk_at (i := 1) rfl)) ?_|refine QW (rr_idx1 (j := q) Und.eq TyC.ty rfl rfl hqA) ?_|refine QW (rr_load1 (v := .slice (some ⟨b3, o3, none⟩) X.length di) TyC.ty rfl (hcA' _)) ?_|refine QW (rr_idxc (j := col) Und.eq TyC.ty rfl rfl hcX) ?_|refine QW (rr_loadN (cs := actC x) TyC.ty rfl rfl (hatA _)) ?_|refine QW QL ?_|refine QW QA ?_|refine QW (rr_not rfl rfl) ?_|refine QW QgT ?_|refine QW QgF ?_|refine QW QeT ?_|refine QW QeF ?_|refine QW QaA ?_|refine QW QaS ?_|refine QW QnT ?_|refine QW QnF ?_)|refine TW_skip rfl rfl rfl rfl rfl rfl rfl ?_|refine TW_done ?_)
  refine TW_one rfl (TL_new rfl fun g14 => ?_)
  conv=>arg 8;simp only[zA,zB,zC,zD,zE,zF,zG,zH,zI,rowS,ret,id_eq]
  refine TW_on (sub_pick [1, 3] (by decide) rfl) ?_
  refine TW_one rfl (TL_storeB (i := 5) (cs' := (actC x).toArray) rfl rfl rfl rfl rfl rfl ?_)
  conv=>arg 8;simp only[zA,zB,zC,zD,zE,zF,zG,zH,zI,rowS,ret,id_eq]
  refine TW_on (sub_pick [1, 3] (by decide) rfl) ?_
  repeat(first|((first|refine TW_plain rfl rfl ?_|refine TW_gmet rfl rfl rfl rfl ?_);first|refine QW QP ?_|refine QW QL ?_|refine QW QA ?_|refine QW (rr_not rfl rfl) ?_|refine QW QgT ?_|refine QW QgF ?_|refine QW QeT ?_|refine QW QeF ?_|refine QW QaA ?_|refine QW QaS ?_|refine QW QnT ?_|refine QW QnF ?_)|refine TW_skip rfl rfl rfl rfl rfl rfl rfl ?_|refine TW_done ?_)
  obtain ⟨k, m⟩ := x
  have hn20 : ((2001 - (f + 1) : Nat) : Int) = 2000 ↔ f = 0 := by omega
  by_cases ck : k = 0
  · subst ck
    rw [rb_0 hx] at i1
    subst i1
    by_cases c0 : f = 0
    · repeat(first|refine QV QP ?_|refine QZ ?_|refine qcT rfl ?_|refine qcF rfl ?_|refine qs rfl rfl rfl rfl rfl rfl ?_|((try refine qg rfl rfl rfl ?_);first|refine QV QP ?_|refine QV (rr_eql (b := true) rfl rfl (decide_eq_true (hn20.2 c0))) ?_|refine QV (rr_load1 (v := .int .i64 0) TyC.ty rfl (at_blk (i := 5) rfl rfl)) ?_|refine QV QL ?_|refine QV QA ?_|refine QV (rr_not rfl rfl) ?_|refine QV QgT ?_|refine QV QgF ?_|refine QV QeT ?_|refine QV QeF ?_|refine QV QaA ?_|refine QV QaS ?_|refine QV QnT ?_|refine QV QnF ?_))
      exact E_ret3 rfl rfl rfl rfl fun w hm => hm.meets (S := runBS (13, [], [])) (.slice none 0 0, .slice none 0 0) trivial [] (by decide) rfl
    · repeat(first|refine QV QP ?_|refine QZ ?_|refine qcT rfl ?_|refine qcF rfl ?_|refine qs rfl rfl rfl rfl rfl rfl ?_|((try refine qg rfl rfl rfl ?_);first|refine QV QP ?_|refine QV (rr_eql (b := false) rfl rfl (decide_eq_false fun h => c0 (hn20.1 h))) ?_|refine QV (rr_load1 (v := .int .i64 0) TyC.ty rfl (at_blk (i := 5) rfl rfl)) ?_|refine QV QL ?_|refine QV QA ?_|refine QV (rr_not rfl rfl) ?_|refine QV QgT ?_|refine QV QgF ?_|refine QV QeT ?_|refine QV QeF ?_|refine QV QaA ?_|refine QV QaS ?_|refine QV QnT ?_|refine QV QnF ?_))
      exact E_ret3 rfl rfl rfl rfl fun w hm => hm.meets (S := runBS (13, [], [])) (.slice none 0 0, .slice none 0 0) trivial [] (by decide) rfl
  by_cases c0 : f = 0
  · subst c0
    rw [rb_top hx ck] at i1
    subst i1
    repeat(first|refine QV QP ?_|refine QZ ?_|refine qcT rfl ?_|refine qcF rfl ?_|refine qs rfl rfl rfl rfl rfl rfl ?_|((try refine qg rfl rfl rfl ?_);first|refine QV QP ?_|refine QV (rr_eql (b := true) rfl rfl (decide_eq_true (hn20.2 rfl))) ?_|refine QV (rr_load1 (v := .int .i64 k) TyC.ty rfl (at_blk (i := 5) rfl rfl)) ?_|refine QV QL ?_|refine QV QA ?_|refine QV (rr_not rfl rfl) ?_|refine QV QgT ?_|refine QV QgF ?_|refine QV QeT ?_|refine QV QeF ?_|refine QV QaA ?_|refine QV QaS ?_|refine QV (rr_neq (b := true) rfl rfl (decide_eq_true ck)) ?_|refine QV QnT ?_|refine QV QnF ?_))
    exact E_ret3 rfl rfl rfl rfl fun w hm => hm.meets (S := runBS (14, [], [])) (.slice none 0 0, .slice none 0 0) trivial [] (by decide) rfl
  have hn20 : ¬ ((2001 - (f + 1) : Nat) : Int) = 2000 := fun h => c0 (hn20.1 h)
  obtain ⟨f, rfl⟩ : ∃ f', f = f' + 1 := ⟨f - 1, by omega⟩
  rcases hriq with ⟨e, _⟩ | ⟨e, h1, h2, h3⟩ | ⟨e, h1, h2⟩ | ⟨e, _⟩ <;> dsimp only at e <;> subst e
  · exact absurd rfl ck
  · dsimp only at h1 h2 h3
    rw [rb_1 hx] at i1
    repeat(first|refine QV QP ?_|refine QZ ?_|refine qcT rfl ?_|refine qcF rfl ?_|refine qs rfl rfl rfl rfl rfl rfl ?_|((try refine qg rfl rfl rfl ?_);first|refine QV QP ?_|refine QV (rr_eql (b := false) rfl rfl (decide_eq_false hn20)) ?_|refine QV (rr_load1 (v := .int .i64 1) TyC.ty rfl (at_blk (i := 5) rfl rfl)) ?_|refine QV QL ?_|refine QV QA ?_|refine QV (rr_not rfl rfl) ?_|refine QV QgT ?_|refine QV QgF ?_|refine QV QeT ?_|refine QV QeF ?_|refine QV QaA ?_|refine QV QaS ?_|refine QV QnT ?_|refine QV QnF ?_))
    refine T_ord ([blkO g6 (skV vs (seen : Int) 0 false).cells 125, blkO g14 (actC (1, m)).toArray 87]) (.calm 0 (.calm 1 (.calm 2 (.calm 5 (.calm 6 (.calm 7 (.calm 8 (.two 3 (.two 4 (.one 9 (.one 10 (.calm 11 (.calm 12 (.done))))) 9 (.one 4 (.one 10 (.calm 11 (.calm 12 (.done)))))) 9 (.one 3 (.one 4 (.one 10 (.calm 11 (.calm 12 (.done)))))))))))))) (sub_pick [2, 5] (by decide) rfl) (by kernel_rfl) (by kernel_rfl) (by intro c a d v w h; cases d <;> exact h) ?_
    repeat(first|((first|refine TW_plain rfl rfl ?_|refine TW_gmet rfl rfl rfl rfl ?_);first|refine QW QP ?_|refine QW (rr_load1 (v := .int .i64 m) TyC.ty rfl (at_blk (i := 1) rfl rfl)) ?_|refine QW (rr_load1 (v := .int .i64 (seen : Int)) TyC.ty rfl (at_blk (i := 0) rfl rfl)) ?_|refine QW (rr_build rfl (build_evn _ _)) ?_|refine QW QL ?_|refine QW QA ?_|refine QW (rr_not rfl rfl) ?_|refine QW QgT ?_|refine QW QgF ?_|refine QW QeT ?_|refine QW QeF ?_|refine QW QaA ?_|refine QW QaS ?_|refine QW QnT ?_|refine QW QnF ?_)|refine TW_skip rfl rfl rfl rfl rfl rfl rfl ?_|refine TW_done ?_)
    refine TW_two rfl rfl ?bw1 ?bw2
    case' bw1 =>
      refine TL_one (cs := #[.int .i64 m]) rfl rfl rfl rfl rfl fun g52 => TW_on (sub_pick [2, 5] (by decide) rfl) ?_
      refine TW_two rfl rfl ?bw3 ?bw4
    case' bw3 =>
      refine TL_app11 (i := 3) (q := 6) rfl rfl rfl rfl rfl rfl (by simp only [List.length_cons]; omega) (by simp only [List.length_cons]; omega) rfl fun v3 => TW_on (sub_pick [2, 5] (by decide) rfl) ?_
      refine TW_one rfl (TL_one (cs := (symC (2, (seen : Int))).toArray) rfl rfl rfl rfl rfl fun g58 => TW_on (sub_pick [2, 5] (by decide) rfl) ?_)
      refine TW_one rfl (TL_app1 (i := 4) (q := 7) rfl rfl rfl rfl rfl rfl (by omega) (by omega) rfl fun v4 => TW_on (sub_pick [2, 5] (by decide) rfl) ?_)
    case' bw4 =>
      refine TL_one (cs := (symC (2, (seen : Int))).toArray) rfl rfl rfl rfl rfl fun g58 => TW_on (sub_pick [2, 5] (by decide) rfl) ?_
      refine TW_one rfl (TL_app11 (i := 3) (q := 6) rfl rfl rfl rfl rfl rfl (by simp only [List.length_cons]; omega) (by simp only [List.length_cons]; omega) rfl fun v3 => TW_on (sub_pick [2, 5] (by decide) rfl) ?_)
      refine TW_one rfl (TL_app1 (i := 4) (q := 7) rfl rfl rfl rfl rfl rfl (by omega) (by omega) rfl fun v4 => TW_on (sub_pick [2, 5] (by decide) rfl) ?_)
    case' bw2 =>
      refine TL_one (cs := (symC (2, (seen : Int))).toArray) rfl rfl rfl rfl rfl fun g58 => TW_on (sub_pick [2, 5] (by decide) rfl) ?_
      refine TW_one rfl (TL_one (cs := #[.int .i64 m]) rfl rfl rfl rfl rfl fun g52 => TW_on (sub_pick [2, 5] (by decide) rfl) ?_)
      refine TW_one rfl (TL_app11 (i := 3) (q := 7) rfl rfl rfl rfl rfl rfl (by simp only [List.length_cons]; omega) (by simp only [List.length_cons]; omega) rfl fun v3 => TW_on (sub_pick [2, 5] (by decide) rfl) ?_)
      refine TW_one rfl (TL_app1 (i := 4) (q := 6) rfl rfl rfl rfl rfl rfl (by omega) (by omega) rfl fun v4 => TW_on (sub_pick [2, 5] (by decide) rfl) ?_)
    all_goals
      repeat(first|((first|refine TW_plain rfl rfl ?_|refine TW_gmet rfl rfl rfl rfl ?_);first|refine QW QP ?_|refine QW QL ?_|refine QW QA ?_|refine QW (rr_not rfl rfl) ?_|refine QW QgT ?_|refine QW QgF ?_|refine QW QeT ?_|refine QW QeF ?_|refine QW QaA ?_|refine QW QaS ?_|refine QW QnT ?_|refine QW QnF ?_)|refine TW_skip rfl rfl rfl rfl rfl rfl rfl ?_|refine TW_done ?_)
      by_cases c6 : 60 < (q :: σ).length + 1
      · rw [if_pos c6] at i1
        subst i1
        repeat(first|refine QV QP ?_|refine QZ ?_|refine qcT rfl ?_|refine qcF rfl ?_|refine qs rfl rfl rfl rfl rfl rfl ?_|((try refine qg rfl rfl rfl ?_);first|refine QV QP ?_|refine QV (rr_rowlen (i := 3) Und.eq rfl rfl) ?_|refine QV (rr_gtr (b := true) rfl rfl (decide_eq_true (by omega))) ?_|refine QV QL ?_|refine QV QA ?_|refine QV (rr_not rfl rfl) ?_|refine QV QgT ?_|refine QV QgF ?_|refine QV QeT ?_|refine QV QeF ?_|refine QV QaA ?_|refine QV QaS ?_|refine QV QnT ?_|refine QV QnF ?_))
        exact E_ret3 rfl rfl rfl rfl fun w hm => hm.meets (S := runBS (14, [], [])) (.slice none 0 0, .slice none 0 0) trivial [] (by decide) rfl
      · rw [if_neg c6] at i1
        subst i1
        repeat(first|refine QV QP ?_|refine QZ ?_|refine qcT rfl ?_|refine qcF rfl ?_|refine qs rfl rfl rfl rfl rfl rfl ?_|((try refine qg rfl rfl rfl ?_);first|refine QV QP ?_|refine QV (rr_rowlen (i := 3) Und.eq rfl rfl) ?_|refine QV (rr_gtr (b := false) rfl rfl (decide_eq_false (by omega))) ?_|refine QV (rr_load1 (v := .int .i64 1) TyC.ty rfl (at_blk (i := 5) rfl rfl)) ?_|refine QV QL ?_|refine QV QA ?_|refine QV (rr_not rfl rfl) ?_|refine QV QgT ?_|refine QV QgF ?_|refine QV QeT ?_|refine QV QeF ?_|refine QV QaA ?_|refine QV QaS ?_|refine QV QnT ?_|refine QV QnF ?_))
        exact E_ret3 rfl rfl rfl rfl fun w hm => hm.meets (S := runBS (0, m.toNat :: q :: σ, o ++ [(2, (seen : Int))])) (v3, v4) trivial [3, 4] (by decide) (by
          show [skO v3 (m.toNat :: q :: σ), evO v4 (o ++ [(2, (seen : Int))])] = _
          rw [← sk_push h2, ← ev_push]
          rfl)
  · dsimp only at h1 h2
    obtain ⟨pn, rfl⟩ := Int.eq_ofNat_of_zero_le h1
    have hrd1 := fun w' hg' hs' => hrd (.slice (some ⟨gs, 0, none⟩) (σ.length + 1) cs) (q :: σ) pn w' hg' hs' i7 (by simp only [List.length_cons]; omega) (by omega)
    have hrk := fun σ' => hrok (q :: σ) σ' (pn : Int) h1 h2 i7
    have hb2n := fun hr => @rb_2n g.prods (actT A) (gotoT G) col seen f q σ o (pn : Int) hx hr
    have hb2 := fun σ' hr => @rb_2 g.prods (actT A) (gotoT G) col seen f q σ o (pn : Int) σ' hx hr
    generalize redB g.prods (gotoT G) (q :: σ) (pn : Int) = R2 at *
    clear hrd hrok
    cases R2 with
    | none =>
      rw [hb2n rfl] at i1
      subst i1
      repeat(first|refine QV QP ?_|refine QZ ?_|refine qcT rfl ?_|refine qcF rfl ?_|refine qs rfl rfl rfl rfl rfl rfl ?_|((try refine qg rfl rfl rfl ?_);first|refine QV QP ?_|refine QV (rr_eql (b := false) rfl rfl (decide_eq_false hn20)) ?_|refine QV (rr_load1 (v := .int .i64 2) TyC.ty rfl (at_blk (i := 5) rfl rfl)) ?_|refine QV (rr_loadB (i := 0) TyC.ty rfl rfl rfl) ?_|refine QV (rr_loadB (i := 1) TyC.ty rfl rfl rfl) ?_|refine QV (rr_load1 (v := .int .i64 (pn : Int)) TyC.ty rfl (at_blk (i := 5) rfl rfl)) ?_|refine QV QL ?_|refine QV QA ?_|refine QV (rr_not rfl rfl) ?_|refine QV QgT ?_|refine QV QgF ?_|refine QV QeT ?_|refine QV QeF ?_|refine QV QaA ?_|refine QV QaS ?_|refine QV QnT ?_|refine QV QnF ?_))
      refine TL_call (he4 EntersC.en rfl rfl rfl rfl rfl) (fun w' hm => hrd1 w' hm.below (Sl.of_own (hm.get (i := 3) rfl))) rfl rfl rfl ?_
      intro v2 _
      conv=>arg 8;simp only[zA,zB,zC,zD,zE,zF,zG,zH,zI,rowS,ret,id_eq, rduS]
      conv => arg 7; simp only [rduS]
      repeat(first|refine QV QP ?_|refine QZ ?_|refine qcT rfl ?_|refine qcF rfl ?_|refine qs rfl rfl rfl rfl rfl rfl ?_|((try refine qg rfl rfl rfl ?_);first|refine QV QP ?_|refine QV QL ?_|refine QV QA ?_|refine QV (rr_not rfl rfl) ?_|refine QV QgT ?_|refine QV QgF ?_|refine QV QeT ?_|refine QV QeF ?_|refine QV QaA ?_|refine QV QaS ?_|refine QV QnT ?_|refine QV QnF ?_))
      exact E_ret3 rfl rfl rfl rfl fun w hm => hm.meets (S := runBS (13, [], [])) (.slice none 0 0, .slice none 0 0) trivial [] (by decide) rfl
    | some σ' =>
      rw [hb2 σ' rfl] at i1
      obtain ⟨k1, k2, k3⟩ := hrk σ' rfl
      simp only [List.length_cons] at k2
      repeat(first|refine QV QP ?_|refine QZ ?_|refine qcT rfl ?_|refine qcF rfl ?_|refine qs rfl rfl rfl rfl rfl rfl ?_|((try refine qg rfl rfl rfl ?_);first|refine QV QP ?_|refine QV (rr_eql (b := false) rfl rfl (decide_eq_false hn20)) ?_|refine QV (rr_load1 (v := .int .i64 2) TyC.ty rfl (at_blk (i := 5) rfl rfl)) ?_|refine QV (rr_loadB (i := 0) TyC.ty rfl rfl rfl) ?_|refine QV (rr_loadB (i := 1) TyC.ty rfl rfl rfl) ?_|refine QV (rr_load1 (v := .int .i64 (pn : Int)) TyC.ty rfl (at_blk (i := 5) rfl rfl)) ?_|refine QV QL ?_|refine QV QA ?_|refine QV (rr_not rfl rfl) ?_|refine QV QgT ?_|refine QV QgF ?_|refine QV QeT ?_|refine QV QeF ?_|refine QV QaA ?_|refine QV QaS ?_|refine QV QnT ?_|refine QV QnF ?_))
      refine TL_call (he4 EntersC.en rfl rfl rfl rfl rfl) (fun w' hm => hrd1 w' hm.below (Sl.of_own (hm.get (i := 3) rfl))) rfl rfl rfl ?_
      intro v2 _
      conv=>arg 8;simp only[zA,zB,zC,zD,zE,zF,zG,zH,zI,rowS,ret,id_eq, rduS]
      conv => arg 7; simp only [rduS]
      repeat(first|refine QV QP ?_|refine QZ ?_|refine qcT rfl ?_|refine qcF rfl ?_|refine qs rfl rfl rfl rfl rfl rfl ?_|((try refine qg rfl rfl rfl ?_);first|refine QV QP ?_|refine QV (rr_load1 (v := .int .i64 (pn : Int)) TyC.ty rfl (at_blk (i := 5) rfl rfl)) ?_|refine QV (rr_build rfl (build_evn _ _)) ?_|refine QV QL ?_|refine QV QA ?_|refine QV (rr_not rfl rfl) ?_|refine QV QgT ?_|refine QV QgF ?_|refine QV QeT ?_|refine QV QeF ?_|refine QV QaA ?_|refine QV QaS ?_|refine QV QnT ?_|refine QV QnF ?_))
      refine TL_pushN (i := 4) rfl rfl rfl rfl rfl rfl rfl (fun z h => by cases h; rfl) (by omega) (by omega) rfl fun z4 v4 => ?_
      conv=>arg 8;simp only[zA,zB,zC,zD,zE,zF,zG,zH,zI,rowS,ret,id_eq]
      by_cases c6 : 60 < σ'.length
      · rw [if_pos c6] at i1
        subst i1
        repeat(first|refine QV QP ?_|refine QZ ?_|refine qcT rfl ?_|refine qcF rfl ?_|refine qs rfl rfl rfl rfl rfl rfl ?_|((try refine qg rfl rfl rfl ?_);first|refine QV QP ?_|refine QV (rr_rowlen (i := 6) Und.eq rfl rfl) ?_|refine QV (rr_gtr (b := true) rfl rfl (decide_eq_true (by omega))) ?_|refine QV QL ?_|refine QV QA ?_|refine QV (rr_not rfl rfl) ?_|refine QV QgT ?_|refine QV QgF ?_|refine QV QeT ?_|refine QV QeF ?_|refine QV QaA ?_|refine QV QaS ?_|refine QV QnT ?_|refine QV QnF ?_))
        exact E_ret3 rfl rfl rfl rfl fun w hm => hm.meets (S := runBS (14, [], [])) (.slice none 0 0, .slice none 0 0) trivial [] (by decide) rfl
      · rw [if_neg c6] at i1
        repeat(first|refine QV QP ?_|refine QZ ?_|refine qcT rfl ?_|refine qcF rfl ?_|refine qs rfl rfl rfl rfl rfl rfl ?_|((try refine qg rfl rfl rfl ?_);first|refine QV QP ?_|refine QV (rr_rowlen (i := 6) Und.eq rfl rfl) ?_|refine QV (rr_gtr (b := false) rfl rfl (decide_eq_false (by omega))) ?_|refine QV (rr_load1 (v := .int .i64 2) TyC.ty rfl (at_blk (i := 5) rfl rfl)) ?_|refine QV (rr_add64 (r := ((2001 - (f + 1) : Nat) : Int)) rfl rfl (by omega) (by omega) (by omega)) ?_|refine QV QL ?_|refine QV QA ?_|refine QV (rr_not rfl rfl) ?_|refine QV QgT ?_|refine QV QgF ?_|refine QV QeT ?_|refine QV QeF ?_|refine QV QaA ?_|refine QV QaS ?_|refine QV QnT ?_|refine QV QnF ?_))
        refine E_pick [0, 1, 2, 6, 4] (by decide) rfl ?_
        exact E_round (f + 1, σ', o ++ [(4, (pn : Int))], v2, v4) ⟨i1, by omega, by omega, by show (o ++ [(4, (pn : Int))]).length + (f + 1) ≤ 2001; rw [List.length_append, List.length_singleton]; omega, k1, by show σ'.length ≤ 60; omega, k3⟩ (by show f + 1 < f + 1 + 1; omega) (by repeat' (first | exact True.intro | refine And.intro rfl ?_)) (by rw [← ev_push]; rfl)
  · rw [rb_3 hx] at i1
    subst i1
    repeat(first|refine QV QP ?_|refine QZ ?_|refine qcT rfl ?_|refine qcF rfl ?_|refine qs rfl rfl rfl rfl rfl rfl ?_|((try refine qg rfl rfl rfl ?_);first|refine QV QP ?_|refine QV (rr_eql (b := false) rfl rfl (decide_eq_false hn20)) ?_|refine QV (rr_load1 (v := .int .i64 3) TyC.ty rfl (at_blk (i := 5) rfl rfl)) ?_|refine QV QL ?_|refine QV QA ?_|refine QV (rr_not rfl rfl) ?_|refine QV QgT ?_|refine QV QgF ?_|refine QV QeT ?_|refine QV QeF ?_|refine QV QaA ?_|refine QV QaS ?_|refine QV QnT ?_|refine QV QnF ?_))
    exact E_ret3 rfl rfl rfl rfl fun w hm => hm.meets (S := runBS (0, q :: σ, o)) (.slice (some ⟨gs, 0, none⟩) (σ.length + 1) cs, vo) trivial [3, 4] (by decide) rfl
end Go.Proofs.Ytlojfbnimmdehaa.eng

/- ClimbE -/
namespace Go.Proofs.Ytlojfbnimmdehaa.eng
open Go.RowKit kit mix gramL treeL climbL llL countL factsL derL
def climbedS (R : List Sym × Nat × Int) : Spec Value := ⟨fun _ => True, fun vo => .tuple #[vo, .int .i64 (R.2.1 : Int), .int .i64 R.2.2], fun vo => [evO vo R.1]⟩
theorem evO_app {v : Value} {a b : List Sym} : rowO 82 2 v (a.length + b.length) (a.flatMap symC ++ b.flatMap symC) = evO v (a ++ b) := by unfold evO; rw [List.length_append, List.flatMap_append]
theorem ev_len (l : List Sym) : (l.flatMap symC).length = l.length * 2 := len_el (f := symC) (c := 2) (fun _ => rfl) l
end Go.Proofs.Ytlojfbnimmdehaa.eng

/- BuC -/
namespace Go.Proofs.Ytlojfbnimmdehaa.eng
open Go.RowKit kit mix gramL treeL factsL itemL smallL
/-- a push's answer -/
def pushBS (seen : Int) (R : Int × List Nat × List Sym) : Spec (Value × Value) :=
  ⟨fun _ => True, fun x => if R.1 = 0 then .tuple #[skV x.1 (seen + 1) 0 false, x.2, .int .i64 0] else .tuple #[skV (.slice none 0 0) seen R.1 false, .slice none 0 0, .int .i64 R.1], fun x => if R.1 = 0 then [skO x.1 R.2.1, evO x.2 R.2.2] else []⟩
theorem pushBS_ok {seen : Int} {σ : List Nat} {o : List Sym} : pushBS seen (0, σ, o) = ⟨fun _ => True, fun x => .tuple #[skV x.1 (seen + 1) 0 false, x.2, .int .i64 0], fun x => [skO x.1 σ, evO x.2 o]⟩ := by unfold pushBS; simp
theorem pushBS_no {seen e : Int} (he : e ≠ 0) {x : List Nat × List Sym} : pushBS seen (e, x) = ⟨fun _ => True, fun _ => .tuple #[skV (.slice none 0 0) seen e false, .slice none 0 0, .int .i64 e], fun _ => []⟩ := by unfold pushBS; simp [he]
theorem sk_one {v : Value} {a b : Int} {c : Bool} (h : v.oneCell' = true) : (#[v, .int .i64 a, .int .i64 b, .bool c] : Array Value).toList.all Value.oneCell' = true := by
  simp only [List.all_cons, List.all_nil, h]; rfl
attribute [local irreducible] Instr.build in
set_option maxHeartbeats 4000000 in
theorem bdPush_calls (v t vs : Value) (g : Gram) (T N : Nat) (A : List (List itemL.Act)) (G : List (List Int)) (σ0 : List Nat) (seen col : Nat) (w : World) (hG : GraR (fun k => k < w.heap.size) w v g) (ht : TabR w t A G) (hs : skR w vs σ0) (hT : LrOk g T N A G) (hq : ∀ q ∈ σ0, q < A.length) (hne : σ0 ≠ []) (hl : σ0.length ≤ 60) (hc : col < T) (hsn : seen ≤ 1000000) :
    Calls Try.prog 58 #[v, t, skV vs (seen : Int) 0 false, .int .i64 (col : Int)] w (Meets (pushBS (seen : Int) (runB g.prods (actT A) (gotoT G) col seen 2001 σ0 [])) w) := by
  have h0 : 0 < σ0.length := by rcases σ0 with _ | ⟨a, b⟩; exact absurd rfl hne; simp
  have hterm := hT.terms
  have hck := fun w' (hg : Gr w w') => bdCheck_calls v t vs g T N A G σ0 (seen : Int) (col : Int) w' (hG.gr hg) (ht.gr hg) (hs.gr hg) hT hq h0 hl (by omega) (by omega) (by omega) (by omega)
  have hrn := fun w' (hg : Gr w w') => bdRun_calls v t vs g T N A G σ0 seen col w' (hG.gr hg) (ht.gr hg) (hs.gr hg) hT hq hne hl (by omega)
  have hlen := fun h => (runB_ok (a := seen) hT (show col ≤ T by omega) 2001 (o := []) hne hq hl h).2.2.1
  generalize runB g.prods (actT A) (gotoT G) col seen 2001 σ0 [] = R at *
  obtain ⟨e, σ, o⟩ := R
  dsimp only at hlen
  obtain ⟨vp, rfl, -⟩ := hG
  obtain ⟨vA, vG, rfl, -⟩ := ht
  clear hs hT
  refine enter (args := [graV g.terms g.nons vp, .agg #[vA, vG], skV vs (seen : Int) 0 false, .int .i64 (col : Int)]) (n := 51) Try.func58 rfl rfl rfl ?_
  refine T_seq (T_region (TL_box rfl rfl rfl fun g4 => ?_))
  conv=>arg 8;simp only[zA,zB,zC,zD,zE,zF,zG,zH,zI,rowS,ret,id_eq]
  refine TL_box rfl rfl rfl fun g5 => ?_
  conv=>arg 8;simp only[zA,zB,zC,zD,zE,zF,zG,zH,zI,rowS,ret,id_eq]
  refine TL_box rfl rfl rfl fun g6 => ?_
  conv=>arg 8;simp only[zA,zB,zC,zD,zE,zF,zG,zH,zI,rowS,ret,id_eq]
  refine TL_new rfl fun g8 => ?_
  conv=>arg 8;simp only[zA,zB,zC,zD,zE,zF,zG,zH,zI,rowS,ret,id_eq]
  repeat(first|refine QV QP ?_|refine QZ ?_|refine qcT rfl ?_|refine qcF rfl ?_|refine QV (rr_load1 (v := .int .i64 g.terms) TyC.ty rfl (at_blk (i := 0) rfl rfl)) ?_|refine QV (rr_eql (b := false) rfl rfl (decide_eq_false (by omega))) ?_|refine QV (rr_loadB (i := 0) TyC.ty rfl rfl rfl) ?_|refine QV (rr_loadB (i := 1) TyC.ty rfl rfl rfl) ?_|refine QV (rr_loadB (i := 2) TyC.ty rfl rfl rfl) ?_|refine QV QA ?_|refine QV QeT ?_|refine QV QeF ?_|refine QV QnT ?_|refine QV QnF ?_|refine QV QaA ?_)
  refine TL_call (he4 EntersC.en rfl rfl rfl rfl rfl) (fun w hm => hck w hm.below) rfl rfl rfl ?_
  intro _ _
  conv=>arg 8;simp only[zA,zB,zC,zD,zE,zF,zG,zH,zI,rowS,ret,id_eq]
  repeat(first|refine QV QP ?_|refine QZ ?_|refine qcT rfl ?_|refine qcF rfl ?_|refine QV (rr_loadB (i := 0) TyC.ty rfl rfl rfl) ?_|refine QV (rr_loadB (i := 1) TyC.ty rfl rfl rfl) ?_|refine QV (rr_loadB (i := 2) TyC.ty rfl rfl rfl) ?_|refine QV QA ?_|refine QV QeT ?_|refine QV QeF ?_|refine QV QnT ?_|refine QV QnF ?_|refine QV QaA ?_)
  by_cases c : e = 0
  · subst c
    rw [runBS_ok] at hrn
    rw [pushBS_ok]
    have hlen := hlen rfl
    refine TL_call (he4 EntersC.en rfl rfl rfl rfl rfl) (fun w hm => hrn w hm.below) rfl rfl rfl ?_
    rintro ⟨v1, v2⟩ _
    conv=>arg 8;simp only[zA,zB,zC,zD,zE,zF,zG,zH,zI,rowS,ret,id_eq]
    repeat(first|refine QV QP ?_|refine QZ ?_|refine qcT rfl ?_|refine qcF rfl ?_|refine QV QA ?_|refine QV QeT ?_|refine QV QeF ?_|refine QV QnT ?_|refine QV QnF ?_|refine QV QaA ?_)
    refine TL_rowv (i := 4) rfl fun bt ct hv q1 q2 => ?_
    subst hv
    repeat(first|refine QV QP ?_|refine QZ ?_|refine qcT rfl ?_|refine qcF rfl ?_|refine QV (rr_load1 (v := .int .i64 (seen : Int)) TyC.ty rfl (at_blk (i := 2) rfl rfl)) ?_|refine QV (rr_add64 (r := (seen : Int) + 1) rfl rfl (by omega) (by omega) (by omega)) ?_|refine QV (rr_build rfl (build_skN _ _ _ _)) ?_|refine QV QA ?_|refine QV QeT ?_|refine QV QeF ?_|refine QV QnT ?_|refine QV QnF ?_|refine QV QaA ?_)
    refine TL_storeB (i := 3) (cs' := #[.slice bt σ.length ct, .int .i64 ((seen : Int) + 1), .int .i64 0, .bool false]) rfl rfl rfl rfl rfl rfl ?_
    conv=>arg 8;simp only[zA,zB,zC,zD,zE,zF,zG,zH,zI,rowS,ret,id_eq]
    repeat(first|refine QV QP ?_|refine QZ ?_|refine qcT rfl ?_|refine qcF rfl ?_|refine QV QA ?_|refine QV QeT ?_|refine QV QeF ?_|refine QV QnT ?_|refine QV QnF ?_|refine QV QaA ?_)
    exact E_retc3 (i := 3) rfl rfl rfl rfl rfl rfl fun w hm => hm.meets (S := ⟨fun _ => True, fun x => .tuple #[skV x.1 ((seen : Int) + 1) 0 false, x.2, .int .i64 0], fun x => [skO x.1 σ, evO x.2 o]⟩) (.slice bt σ.length ct, v2) trivial [4, 5] (by decide) rfl
  · rw [runBS_no c] at hrn
    rw [pushBS_no c]
    refine TL_call (he4 EntersC.en rfl rfl rfl rfl rfl) (fun w hm => hrn w hm.below) rfl rfl rfl ?_
    rintro _ _
    conv=>arg 8;simp only[zA,zB,zC,zD,zE,zF,zG,zH,zI,rowS,ret,id_eq]
    repeat(first|refine QV QP ?_|refine QZ ?_|refine qcT rfl ?_|refine qcF rfl ?_|refine QV (rr_neq (b := true) rfl rfl (decide_eq_true c)) ?_|refine QV (rr_load1 (v := .int .i64 (seen : Int)) TyC.ty rfl (at_blk (i := 2) rfl rfl)) ?_|refine QV (rr_build rfl (build_skE _ _)) ?_|refine QV QA ?_|refine QV QeT ?_|refine QV QeF ?_|refine QV QnT ?_|refine QV QnF ?_|refine QV QaA ?_)
    refine TL_storeB (i := 3) (cs' := #[.slice none 0 0, .int .i64 (seen : Int), .int .i64 e, .bool false]) rfl rfl rfl rfl rfl rfl ?_
    conv=>arg 8;simp only[zA,zB,zC,zD,zE,zF,zG,zH,zI,rowS,ret,id_eq]
    repeat(first|refine QV QP ?_|refine QZ ?_|refine qcT rfl ?_|refine qcF rfl ?_|refine QV QA ?_|refine QV QeT ?_|refine QV QeF ?_|refine QV QnT ?_|refine QV QnF ?_|refine QV QaA ?_)
    exact E_retc3 (i := 3) rfl rfl rfl rfl rfl rfl fun w hm => hm.meets (S := ⟨fun (_ : Value × Value) => True, fun _ => .tuple #[skV (.slice none 0 0) (seen : Int) e false, .slice none 0 0, .int .i64 e], fun _ => []⟩) (.slice none 0 0, .slice none 0 0) trivial [] (by decide) rfl
def endBS (seen : Int) (R : Int × List Nat × List Sym) : Spec Value :=
  ⟨fun _ => True, fun x => if R.1 = 0 then .tuple #[skV (.slice none 0 0) seen 0 true, x, .int .i64 0] else .tuple #[skV (.slice none 0 0) seen R.1 false, .slice none 0 0, .int .i64 R.1], fun x => if R.1 = 0 then [evO x R.2.2] else []⟩
theorem endBS_ok {seen : Int} {σ : List Nat} {o : List Sym} : endBS seen (0, σ, o) = ⟨fun _ => True, fun x => .tuple #[skV (.slice none 0 0) seen 0 true, x, .int .i64 0], fun x => [evO x o]⟩ := by unfold endBS; simp
theorem endBS_no {seen e : Int} (he : e ≠ 0) {x : List Nat × List Sym} : endBS seen (e, x) = ⟨fun _ => True, fun _ => .tuple #[skV (.slice none 0 0) seen e false, .slice none 0 0, .int .i64 e], fun _ => []⟩ := by unfold endBS; simp [he]
attribute [local irreducible] Instr.build in
set_option maxHeartbeats 4000000 in
theorem bdEnd_calls (v t vs : Value) (g : Gram) (T N : Nat) (A : List (List itemL.Act)) (G : List (List Int)) (σ0 : List Nat) (seen : Nat) (w : World) (hG : GraR (fun k => k < w.heap.size) w v g) (ht : TabR w t A G) (hs : skR w vs σ0) (hT : LrOk g T N A G) (hq : ∀ q ∈ σ0, q < A.length) (hne : σ0 ≠ []) (hl : σ0.length ≤ 60) (hsn : seen ≤ 1000000) :
    Calls Try.prog 59 #[v, t, skV vs (seen : Int) 0 false] w (Meets (endBS (seen : Int) (runB g.prods (actT A) (gotoT G) T seen 2001 σ0 [])) w) := by
  have h0 : 0 < σ0.length := by rcases σ0 with _ | ⟨a, b⟩; exact absurd rfl hne; simp
  have hterm := hT.terms
  have hck := fun w' (hg : Gr w w') => bdCheck_calls v t vs g T N A G σ0 (seen : Int) (T : Int) w' (hG.gr hg) (ht.gr hg) (hs.gr hg) hT hq h0 hl (by omega) (by omega) (by omega) (by omega)
  have hrn := fun w' (hg : Gr w w') => bdRun_calls v t vs g T N A G σ0 seen T w' (hG.gr hg) (ht.gr hg) (hs.gr hg) hT hq hne hl (Nat.le_refl _)
  generalize runB g.prods (actT A) (gotoT G) T seen 2001 σ0 [] = R at *
  obtain ⟨e, σ, o⟩ := R
  obtain ⟨vp, rfl, -⟩ := hG
  obtain ⟨vA, vG, rfl, -⟩ := ht
  clear hs hT
  refine enter (args := [graV g.terms g.nons vp, .agg #[vA, vG], skV vs (seen : Int) 0 false]) (n := 45) Try.func59 rfl rfl rfl ?_
  refine T_seq (T_region (TL_box rfl rfl rfl fun g4 => ?_))
  conv=>arg 8;simp only[zA,zB,zC,zD,zE,zF,zG,zH,zI,rowS,ret,id_eq]
  refine TL_box rfl rfl rfl fun g5 => ?_
  conv=>arg 8;simp only[zA,zB,zC,zD,zE,zF,zG,zH,zI,rowS,ret,id_eq]
  refine TL_box rfl rfl rfl fun g6 => ?_
  conv=>arg 8;simp only[zA,zB,zC,zD,zE,zF,zG,zH,zI,rowS,ret,id_eq]
  refine TL_new rfl fun g8 => ?_
  conv=>arg 8;simp only[zA,zB,zC,zD,zE,zF,zG,zH,zI,rowS,ret,id_eq]
  repeat(first|refine QV QP ?_|refine QZ ?_|refine qcT rfl ?_|refine qcF rfl ?_|refine QV (rr_load1 (v := .int .i64 (T : Int)) TyC.ty rfl (at_blk (i := 0) rfl (by show some (Value.int .i64 g.terms) = _; rw [hterm]))) ?_|refine QV (rr_loadB (i := 0) TyC.ty rfl rfl rfl) ?_|refine QV (rr_loadB (i := 1) TyC.ty rfl rfl rfl) ?_|refine QV (rr_loadB (i := 2) TyC.ty rfl rfl rfl) ?_|refine QV QA ?_|refine QV QnT ?_|refine QV QnF ?_)
  refine TL_call (he4 EntersC.en rfl rfl rfl rfl rfl) (fun w hm => hck w hm.below) rfl rfl rfl ?_
  intro _ _
  conv=>arg 8;simp only[zA,zB,zC,zD,zE,zF,zG,zH,zI,rowS,ret,id_eq]
  repeat(first|refine QV QP ?_|refine QZ ?_|refine qcT rfl ?_|refine qcF rfl ?_|refine QV (rr_load1 (v := .int .i64 (T : Int)) TyC.ty rfl (at_blk (i := 0) rfl (by show some (Value.int .i64 g.terms) = _; rw [hterm]))) ?_|refine QV (rr_loadB (i := 0) TyC.ty rfl rfl rfl) ?_|refine QV (rr_loadB (i := 1) TyC.ty rfl rfl rfl) ?_|refine QV (rr_loadB (i := 2) TyC.ty rfl rfl rfl) ?_|refine QV QA ?_|refine QV QnT ?_|refine QV QnF ?_)
  by_cases c : e = 0
  · subst c
    rw [runBS_ok] at hrn
    rw [endBS_ok]
    refine TL_call (he4 EntersC.en rfl rfl rfl rfl rfl) (fun w hm => hrn w hm.below) rfl rfl rfl ?_
    rintro ⟨v1, v2⟩ _
    conv=>arg 8;simp only[zA,zB,zC,zD,zE,zF,zG,zH,zI,rowS,ret,id_eq]
    repeat(first|refine QV QP ?_|refine QZ ?_|refine qcT rfl ?_|refine qcF rfl ?_|refine QV (rr_load1 (v := .int .i64 (seen : Int)) TyC.ty rfl (at_blk (i := 2) rfl rfl)) ?_|refine QV (rr_build rfl (build_skD _)) ?_|refine QV QA ?_|refine QV QnT ?_|refine QV QnF ?_)
    refine TL_storeB (i := 3) (cs' := #[.slice none 0 0, .int .i64 (seen : Int), .int .i64 0, .bool true]) rfl rfl rfl rfl rfl rfl ?_
    conv=>arg 8;simp only[zA,zB,zC,zD,zE,zF,zG,zH,zI,rowS,ret,id_eq]
    repeat(first|refine QV QP ?_|refine QZ ?_|refine qcT rfl ?_|refine qcF rfl ?_|refine QV QA ?_|refine QV QnT ?_|refine QV QnF ?_)
    exact E_retc3 (i := 3) rfl rfl rfl rfl rfl rfl fun w hm => hm.meets (S := ⟨fun _ => True, fun x => .tuple #[skV (.slice none 0 0) (seen : Int) 0 true, x, .int .i64 0], fun x => [evO x o]⟩) v2 trivial [5] (by decide) rfl
  · rw [runBS_no c] at hrn
    rw [endBS_no c]
    refine TL_call (he4 EntersC.en rfl rfl rfl rfl rfl) (fun w hm => hrn w hm.below) rfl rfl rfl ?_
    rintro _ _
    conv=>arg 8;simp only[zA,zB,zC,zD,zE,zF,zG,zH,zI,rowS,ret,id_eq]
    repeat(first|refine QV QP ?_|refine QZ ?_|refine qcT rfl ?_|refine qcF rfl ?_|refine QV (rr_neq (b := true) rfl rfl (decide_eq_true c)) ?_|refine QV (rr_load1 (v := .int .i64 (seen : Int)) TyC.ty rfl (at_blk (i := 2) rfl rfl)) ?_|refine QV (rr_build rfl (build_skE _ _)) ?_|refine QV QA ?_|refine QV QnT ?_|refine QV QnF ?_)
    refine TL_storeB (i := 3) (cs' := #[.slice none 0 0, .int .i64 (seen : Int), .int .i64 e, .bool false]) rfl rfl rfl rfl rfl rfl ?_
    conv=>arg 8;simp only[zA,zB,zC,zD,zE,zF,zG,zH,zI,rowS,ret,id_eq]
    repeat(first|refine QV QP ?_|refine QZ ?_|refine qcT rfl ?_|refine qcF rfl ?_|refine QV QA ?_|refine QV QnT ?_|refine QV QnF ?_)
    exact E_retc3 (i := 3) rfl rfl rfl rfl rfl rfl fun w hm => hm.meets (S := ⟨fun (_ : Value) => True, fun _ => .tuple #[skV (.slice none 0 0) (seen : Int) e false, .slice none 0 0, .int .i64 e], fun _ => []⟩) (.slice none 0 0) trivial [] (by decide) rfl
end Go.Proofs.Ytlojfbnimmdehaa.eng

/- BuD -/
namespace Go.Proofs.Ytlojfbnimmdehaa.eng
open Go.RowKit kit mix gramL treeL climbL factsL itemL smallL
set_option maxHeartbeats 4000000 in
theorem built_calls (v t vw : Value) (g : Gram) (T N : Nat) (A : List (List itemL.Act)) (G : List (List Int)) (word : List Int) (w : World) (h : GraR (fun k => k < w.heap.size) w v g) (ht : TabR w t A G) (hs : Sl w vw word.length (word.map (.int .i64))) (hT : LrOk g T N A G) (hw : ∀ x ∈ word, 0 ≤ x ∧ x < (T : Int)) (hl : word.length ≤ 1000) :
    Calls Try.prog 28 #[v, t, vw] w (Meets (climbedS (bRun g.prods (actT A) (gotoT G) T word [0] 0 [])) w) := by
  have hp := fun vs σ (seen col : Nat) w' (hg' : Gr w w') hs' hq hne hl' hc hsn => bdPush_calls v t vs g T N A G σ seen col w' (h.gr hg') (ht.gr hg') hs' hT hq hne hl' hc hsn
  have he := fun vs σ (seen : Nat) w' (hg' : Gr w w') hs' hq hne hl' hsn => bdEnd_calls v t vs g T N A G σ seen w' (h.gr hg') (ht.gr hg') hs' hT hq hne hl' hsn
  obtain ⟨vp, rfl, _⟩ := h
  obtain ⟨vA, vG, rfl, _⟩ := ht
  obtain ⟨bw, cw, rfl, hw1, hw2, hw3⟩ := hs
  unfold maxLen at hw2
  refine enter (args := [graV g.terms g.nons vp, .agg #[vA, vG], .slice bw word.length cw]) (n := 55) Try.func28 rfl rfl rfl ?_
  refine T_seq (T_region (TL_box rfl rfl rfl fun g3 => ?_))
  conv=>arg 8;simp only[zA,zB,zC,zD,zE,zF,zG,zH,zI,rowS,ret,id_eq]
  refine TL_box rfl rfl rfl fun g4 => ?_
  conv=>arg 8;simp only[zA,zB,zC,zD,zE,zF,zG,zH,zI,rowS,ret,id_eq]
  repeat(first|refine QV QP ?_|refine QZ ?_|refine qcT rfl ?_|refine qcF rfl ?_|refine E_blockX ?_|refine E_blockO rfl ?_|refine QV QL ?_|refine QV QlT ?_|refine QV QlF ?_|refine QV QnT ?_|refine QV QnF ?_|refine QV QaA ?_)
  refine TL_call (he0 EntersC.en rfl) (fun w hm => bdBegin_calls w) rfl rfl rfl ?_
  intro vt0 _
  conv=>arg 8;simp only[zA,zB,zC,zD,zE,zF,zG,zH,zI,rowS,ret,id_eq, beginSS]
  conv => arg 7; simp only [beginSS]
  refine TL_slv (i := 2) rfl fun hv1 hv2 => ?_
  refine TL_new rfl fun g9 => ?_
  refine TL_storeB (i := 3) (cs' := #[vt0, .int .i64 0, .int .i64 0, .bool false]) rfl rfl rfl rfl (sk_one hv2) rfl ?_
  conv=>arg 8;simp only[zA,zB,zC,zD,zE,zF,zG,zH,zI,rowS,ret,id_eq]
  repeat(first|refine QV QP ?_|refine QZ ?_|refine qcT rfl ?_|refine qcF rfl ?_|refine E_blockX ?_|refine E_blockO rfl ?_|refine QV QL ?_|refine QV QlT ?_|refine QV QlF ?_|refine QV QnT ?_|refine QV QnF ?_|refine QV QaA ?_)
  refine T_nil 82 2 ?_
  generalize hR : bRun g.prods (actT A) (gotoT G) T word [0] 0 [] = R
  refine T_pick [0, 1, 3, 2, 4] (by decide) rfl ?_
  refine T_loop (ι := Nat × List Nat × List Sym × Value × Value) (fun (k, σ, out, _, _) => k ≤ word.length ∧ bRun g.prods (actT A) (gotoT G) T (word.drop k) σ k out = R ∧ (∀ q ∈ σ, q < A.length) ∧ σ ≠ [] ∧ σ.length ≤ 60 ∧ out.length ≤ k * 2001)
    (fun (k, _, _, _, vo) => [(3, .pointer (some ⟨g3, 0, none⟩)), (4, .pointer (some ⟨g4, 0, none⟩)), (6, vo), (7, .int .i64 (k : Int)), (9, .pointer (some ⟨g9, 0, none⟩)), (16, .slice bw word.length cw), (17, .int .i64 word.length), (18, .int .i64 (k : Int))])
    (fun (k, σ, out, vt, vo) => [blkO g3 (graV g.terms g.nons vp).cells 24, blkO g4 (Value.agg #[vA, vG]).cells 29, blkO g9 #[vt, .int .i64 (k : Int), .int .i64 0, .bool false] 125, skO vt σ, evO vo out]) (fun (k, _, _, _, _) => word.length - k) (0, [0], [], vt0, .slice none 0 0)
    ⟨Nat.zero_le _, hR, by intro q hq; rw [List.mem_singleton.1 hq]; exact hT.pos, by simp, by decide, by simp⟩ (by repeat' (first | exact True.intro | refine And.intro rfl ?_)) rfl ?_
  clear hR hv1 hv2
  rintro ⟨k, σ, out, vt, vo⟩ ⟨i1, i2, i3, i4, i6, i5⟩
  dsimp only at i1 i2 i3 i4 i5 i6 ⊢
  by_cases c : k < word.length
  · obtain ⟨b, off, rfl, hrd⟩ := hw3 (by omega)
    have hat := fun L => at_rdm (L := L) hrd c
    rw [List.drop_eq_getElem_cons c, bRun] at i2
    have hwk := hw _ (List.getElem_mem c)
    clear hrd hw3
    generalize word[k] = t at *
    obtain ⟨tn, rfl⟩ : ∃ tn : Nat, t = tn := ⟨t.toNat, by omega⟩
    rw [Int.toNat_natCast] at i2
    have hpk := fun w' hg' hs' => hp vt σ k tn w' hg' hs' i3 i4 i6 (by omega) (by omega)
    have hok := fun h0 => runB_ok (a := k) hT (show tn ≤ T by omega) 2001 (o := []) i4 i3 i6 h0
    generalize runB g.prods (actT A) (gotoT G) tn k 2001 σ [] = P at *
    obtain ⟨e, σ', l⟩ := P
    dsimp only at i2 hok
    by_cases c1 : e = 0
    · subst c1
      obtain ⟨o1, o2, o3, o4⟩ := hok rfl
      simp only [List.length_nil] at o4
      rw [if_neg (by simp)] at i2
      rw [pushBS_ok] at hpk
      clear hok
      repeat(first|refine QV QP ?_|refine QZ ?_|refine qcT rfl ?_|refine qcF rfl ?_|refine E_blockX ?_|refine E_blockO rfl ?_|refine QV (rr_idx1 Und.eq TyC.ty rfl rfl c) ?_|refine QV (rr_load1 TyC.ty rfl (hat _)) ?_|refine QV (rr_loadB (i := 0) TyC.ty rfl rfl rfl) ?_|refine QV (rr_loadB (i := 1) TyC.ty rfl rfl rfl) ?_|refine QV (rr_loadB (i := 2) TyC.ty rfl rfl rfl) ?_|refine QV QL ?_|refine QV QlT ?_|refine QV QlF ?_|refine QV QnT ?_|refine QV QnF ?_|refine QV QaA ?_)
      refine TL_call (he4 EntersC.en rfl rfl rfl rfl rfl) (fun w' hm => hpk w' hm.below (Sl.of_own (hm.get (i := 3) rfl))) rfl rfl rfl ?_
      rintro ⟨vt', vl⟩ _
      conv=>arg 8;simp only[zA,zB,zC,zD,zE,zF,zG,zH,zI,rowS,ret,id_eq]
      repeat(first|refine QV QP ?_|refine QZ ?_|refine qcT rfl ?_|refine qcF rfl ?_|refine E_blockX ?_|refine E_blockO rfl ?_|refine QV QL ?_|refine QV QlT ?_|refine QV QlF ?_|refine QV QnT ?_|refine QV QnF ?_|refine QV QaA ?_)
      refine TL_slv (i := 5) rfl fun hv1 hv2 => ?_
      refine TL_storeB (i := 2) (cs' := #[vt', .int .i64 ((k : Int) + 1), .int .i64 0, .bool false]) rfl rfl rfl rfl (sk_one hv2) rfl ?_
      conv=>arg 8;simp only[zA,zB,zC,zD,zE,zF,zG,zH,zI,rowS,ret,id_eq]
      repeat(first|refine QV QP ?_|refine QZ ?_|refine qcT rfl ?_|refine qcF rfl ?_|refine E_blockX ?_|refine E_blockO rfl ?_|refine QV QL ?_|refine QV QlT ?_|refine QV QlF ?_|refine QV QnT ?_|refine QV QnF ?_|refine QV QaA ?_)
      refine TL_appSl (i := 4) (k := l.length) (ys := l.flatMap symC) rfl (sl_row (i := 6) rfl) rfl rfl (ev_len l) (one_sym l) (by omega) (by omega) rfl fun vo' => ?_
      conv=>arg 8;simp only[zA,zB,zC,zD,zE,zF,zG,zH,zI,rowS,ret,id_eq]
      repeat(first|refine QV QP ?_|refine QZ ?_|refine qcT rfl ?_|refine qcF rfl ?_|refine E_blockX ?_|refine E_blockO rfl ?_|refine QV QL ?_|refine QV QlT ?_|refine QV QlF ?_|refine QV QnT ?_|refine QV QnF ?_|refine QV QaA ?_)
      refine E_pick [0, 1, 2, 5, 4] (by decide) rfl ?_
      exact E_round (k + 1, σ', out ++ l, vt', vo') ⟨by omega, i2, o2, o1, o3, (by show (out ++ l).length ≤ (k + 1) * 2001; rw [List.length_append]; omega)⟩ (by show word.length - (k + 1) < word.length - k; omega) (by repeat' (first | exact True.intro | refine And.intro rfl ?_)) (by rw [evO_app]; push_cast; rfl)
    · rw [if_pos c1] at i2
      subst i2
      rw [pushBS_no c1] at hpk
      clear hok
      repeat(first|refine QV QP ?_|refine QZ ?_|refine qcT rfl ?_|refine qcF rfl ?_|refine E_blockX ?_|refine E_blockO rfl ?_|refine QV (rr_idx1 Und.eq TyC.ty rfl rfl c) ?_|refine QV (rr_load1 TyC.ty rfl (hat _)) ?_|refine QV (rr_loadB (i := 0) TyC.ty rfl rfl rfl) ?_|refine QV (rr_loadB (i := 1) TyC.ty rfl rfl rfl) ?_|refine QV (rr_loadB (i := 2) TyC.ty rfl rfl rfl) ?_|refine QV QL ?_|refine QV QlT ?_|refine QV QlF ?_|refine QV QnT ?_|refine QV QnF ?_|refine QV QaA ?_)
      refine TL_call (he4 EntersC.en rfl rfl rfl rfl rfl) (fun w' hm => hpk w' hm.below (Sl.of_own (hm.get (i := 3) rfl))) rfl rfl rfl ?_
      intro _ _
      conv=>arg 8;simp only[zA,zB,zC,zD,zE,zF,zG,zH,zI,rowS,ret,id_eq]
      repeat(first|refine QV QP ?_|refine QZ ?_|refine qcT rfl ?_|refine qcF rfl ?_|refine E_blockX ?_|refine E_blockO rfl ?_|refine QV QL ?_|refine QV QlT ?_|refine QV QlF ?_|refine QV QnT ?_|refine QV QnF ?_|refine QV QaA ?_)
      refine TL_storeB (i := 2) (cs' := #[.slice none 0 0, .int .i64 (k : Int), .int .i64 e, .bool false]) rfl rfl rfl rfl rfl rfl ?_
      conv=>arg 8;simp only[zA,zB,zC,zD,zE,zF,zG,zH,zI,rowS,ret,id_eq]
      repeat(first|refine QV QP ?_|refine QZ ?_|refine qcT rfl ?_|refine qcF rfl ?_|refine E_blockX ?_|refine E_blockO rfl ?_|refine QV (rr_neq (b := true) rfl rfl (decide_eq_true c1)) ?_|refine QV QL ?_|refine QV QlT ?_|refine QV QlF ?_|refine QV QnT ?_|refine QV QnF ?_|refine QV QaA ?_)
      exact E_ret3 rfl rfl rfl rfl fun w hm => hm.meets (S := climbedS (out, k, e)) vo trivial [4] (by decide) rfl
  · rw [List.drop_of_length_le (by omega), bRun] at i2
    obtain rfl : k = word.length := by omega
    have hek := fun w' hg' hs' => he vt σ word.length w' hg' hs' i3 i4 i6 (by omega)
    have hok := fun h0 => (runB_ok (a := word.length) hT (Nat.le_refl T) 2001 (o := []) i4 i3 i6 h0).2.2.2
    have hno := runB_nil (l := g.prods) (act := actT A) (gt := gotoT G) (col := T) (a := word.length) 2001 σ []
    generalize runB g.prods (actT A) (gotoT G) T word.length 2001 σ [] = P at *
    obtain ⟨e, σ', l⟩ := P
    dsimp only at i2 hok hno
    by_cases c1 : e = 0
    · subst c1
      have hll := hok rfl
      simp only [List.length_nil] at hll
      subst i2
      rw [endBS_ok] at hek
      clear hok hno
      repeat(first|refine QV QP ?_|refine QZ ?_|refine qcT rfl ?_|refine qcF rfl ?_|refine E_blockX ?_|refine E_blockO rfl ?_|refine QV (rr_loadB (i := 0) TyC.ty rfl rfl rfl) ?_|refine QV (rr_loadB (i := 1) TyC.ty rfl rfl rfl) ?_|refine QV (rr_loadB (i := 2) TyC.ty rfl rfl rfl) ?_|refine QV QL ?_|refine QV QlT ?_|refine QV QlF ?_|refine QV QnT ?_|refine QV QnF ?_|refine QV QaA ?_)
      refine TL_call (he3 EntersC.en rfl rfl rfl rfl) (fun w' hm => hek w' hm.below (Sl.of_own (hm.get (i := 3) rfl))) rfl rfl rfl ?_
      intro vl _
      conv=>arg 8;simp only[zA,zB,zC,zD,zE,zF,zG,zH,zI,rowS,ret,id_eq]
      repeat(first|refine QV QP ?_|refine QZ ?_|refine qcT rfl ?_|refine qcF rfl ?_|refine E_blockX ?_|refine E_blockO rfl ?_|refine QV QL ?_|refine QV QlT ?_|refine QV QlF ?_|refine QV QnT ?_|refine QV QnF ?_|refine QV QaA ?_)
      refine TL_new rfl fun g13 => ?_
      refine TL_storeB (i := 6) (cs' := #[.slice none 0 0, .int .i64 (word.length : Int), .int .i64 0, .bool true]) rfl rfl rfl rfl rfl rfl ?_
      conv=>arg 8;simp only[zA,zB,zC,zD,zE,zF,zG,zH,zI,rowS,ret,id_eq]
      repeat(first|refine QV QP ?_|refine QZ ?_|refine qcT rfl ?_|refine qcF rfl ?_|refine E_blockX ?_|refine E_blockO rfl ?_|refine QV QL ?_|refine QV QlT ?_|refine QV QlF ?_|refine QV QnT ?_|refine QV QnF ?_|refine QV QaA ?_)
      refine TL_appSl (i := 4) (k := l.length) (ys := l.flatMap symC) rfl (sl_row (i := 5) rfl) rfl rfl (ev_len l) (one_sym l) (by omega) (by omega) rfl fun vo' => ?_
      conv=>arg 8;simp only[zA,zB,zC,zD,zE,zF,zG,zH,zI,rowS,ret,id_eq]
      repeat(first|refine QV QP ?_|refine QZ ?_|refine qcT rfl ?_|refine qcF rfl ?_|refine E_blockX ?_|refine E_blockO rfl ?_|refine QV QL ?_|refine QV QlT ?_|refine QV QlF ?_|refine QV QnT ?_|refine QV QnF ?_|refine QV QaA ?_)
      exact E_ret3 rfl rfl rfl rfl fun w hm => hm.meets (S := climbedS (out ++ l, word.length, 0)) vo' trivial [4] (by decide) (by show [evO vo' (out ++ l)] = _; rw [← evO_app]; rfl)
    · have hl0 : l = [] := (Prod.ext_iff.1 (hno c1)).2
      subst hl0
      rw [List.append_nil] at i2
      subst i2
      rw [endBS_no c1] at hek
      clear hok hno
      repeat(first|refine QV QP ?_|refine QZ ?_|refine qcT rfl ?_|refine qcF rfl ?_|refine E_blockX ?_|refine E_blockO rfl ?_|refine QV (rr_loadB (i := 0) TyC.ty rfl rfl rfl) ?_|refine QV (rr_loadB (i := 1) TyC.ty rfl rfl rfl) ?_|refine QV (rr_loadB (i := 2) TyC.ty rfl rfl rfl) ?_|refine QV QL ?_|refine QV QlT ?_|refine QV QlF ?_|refine QV QnT ?_|refine QV QnF ?_|refine QV QaA ?_)
      refine TL_call (he3 EntersC.en rfl rfl rfl rfl) (fun w' hm => hek w' hm.below (Sl.of_own (hm.get (i := 3) rfl))) rfl rfl rfl ?_
      intro _ _
      conv=>arg 8;simp only[zA,zB,zC,zD,zE,zF,zG,zH,zI,rowS,ret,id_eq]
      repeat(first|refine QV QP ?_|refine QZ ?_|refine qcT rfl ?_|refine qcF rfl ?_|refine E_blockX ?_|refine E_blockO rfl ?_|refine QV QL ?_|refine QV QlT ?_|refine QV QlF ?_|refine QV QnT ?_|refine QV QnF ?_|refine QV QaA ?_)
      refine TL_new rfl fun g13 => ?_
      refine TL_storeB (i := 5) (cs' := #[.slice none 0 0, .int .i64 (word.length : Int), .int .i64 e, .bool false]) rfl rfl rfl rfl rfl rfl ?_
      conv=>arg 8;simp only[zA,zB,zC,zD,zE,zF,zG,zH,zI,rowS,ret,id_eq]
      repeat(first|refine QV QP ?_|refine QZ ?_|refine qcT rfl ?_|refine qcF rfl ?_|refine E_blockX ?_|refine E_blockO rfl ?_|refine QV QL ?_|refine QV QlT ?_|refine QV QlF ?_|refine QV QnT ?_|refine QV QnF ?_|refine QV QaA ?_)
      refine TL_append0 ElC.el (i := 4) rfl rfl rfl rfl ?_
      conv=>arg 8;simp only[zA,zB,zC,zD,zE,zF,zG,zH,zI,rowS,ret,id_eq]
      repeat(first|refine QV QP ?_|refine QZ ?_|refine qcT rfl ?_|refine qcF rfl ?_|refine E_blockX ?_|refine E_blockO rfl ?_|refine QV QL ?_|refine QV QlT ?_|refine QV QlF ?_|refine QV QnT ?_|refine QV QnF ?_|refine QV QaA ?_)
      exact E_ret3 rfl rfl rfl rfl fun w hm => hm.meets (S := climbedS (out, word.length, e)) vo trivial [4] (by decide) rfl
end Go.Proofs.Ytlojfbnimmdehaa.eng

/- BuP -/
namespace Go.Proofs.Ytlojfbnimmdehaa.eng
open gramL treeL countL factsL itemL smallL derL
open climbL (right_der yieldX_top top_prod)
open llL (colAt)
section
variable {g : Gram} {T N : Nat} {Nx : List (List Int)} {S : List (List itemL.Item)}
/-- what is told -/
abbrev bR (g : Gram) (T : Nat) (Nx : List (List Int)) (S : List (List itemL.Item)) (W : List Int) : List Sym × Nat × Int := bRun g.prods (actT (actTab g.prods T Nx S S.length)) (gotoT (gotoTab T Nx S.length)) T W [0] 0 []
theorem MadeT.top (h : MadeT g T N Nx S) : ∀ q, q < S.length → ∀ it ∈ S.getD q [], it.1 = (g.prods.length : Int) → it.2.2 = (T : Int) := all_top h.wide h.few h.t30 h.all
theorem MadeT.pos (h : MadeT g T N Nx S) : 0 < S.length := (List.getElem?_eq_some_iff.1 h.law.start).1
theorem bR_sound (h : MadeT g T N Nx S) {W : List Int} (hW : ∀ x ∈ W, 0 ≤ x ∧ x < (T : Int)) (h0 : (bR g T Nx S W).2.2 = 0) : ∃ t, Right g.prods t (2, 0) 0 ∧ upE g.prods t = (bR g T Nx S W).1 ∧ yieldT g.prods t = W := by
  obtain ⟨t, h1, h2, h3⟩ := run_sound h.tabB h.law h.wide h.few h.t30 h.heads h.top W (out := []) hW .start rfl h0
  refine ⟨t, h1, ?_, h3⟩
  rw [← h2]
  unfold upX
  rw [if_neg (by have := top_prod h1; omega)]
theorem bR_det (h : MadeT g T N Nx S) (hc : calmB g = true) {W : List Int} (hW : ∀ x ∈ W, 0 ≤ x ∧ x < (T : Int)) {t : Tree} (ht : Right g.prods t (2, 0) 0) (hy : yieldT g.prods t = W) : (bR g T Nx S W).2.2 = 14 ∨ ((bR g T Nx S W).2.2 = 0 ∧ (bR g T Nx S W).1 = upE g.prods t ∧ (bR g T Nx S W).2.1 = W.length) := by
  obtain ⟨s, ρ, h1, h2⟩ := tree_runs (h.lrH hc hW) ht hy
  have := (run_det h.tabB h.law h.heads hW h1 (by intro q hq; rw [List.mem_singleton.1 hq]; exact h.pos) rfl (fun q ρ e => by obtain ⟨rfl, rfl⟩ := List.cons.inj e; exact h2) (by simp) 2001 [] 0 W [] (Nat.zero_le _) (Nat.zero_le _) (Nat.zero_le _) rfl).1 rfl
  rw [← run_cont] at this
  rcases this with h14 | e
  · exact .inl h14
  · refine .inr ?_
    unfold bR
    rw [e]
    refine ⟨rfl, ?_, rfl⟩
    show [] ++ ([] ++ upX g.prods t) = _
    rw [List.nil_append, List.nil_append]
    unfold upX
    rw [if_neg (by have := top_prod ht; omega)]
end
/-! ### who climbs down, without a bound of the word's length -/
section
open climbL (nxC)
variable {g : Gram} {T N : Nat}
abbrev cR (g : Gram) (T N : Nat) (W : List Int) : List Sym × Nat × Int := climbL.runF g.prods (nxC g T N) T W [.sym (2, 0)] 0 []
end
end Go.Proofs.Ytlojfbnimmdehaa.eng

/- EachF -/
namespace Go.Proofs.Ytlojfbnimmdehaa.eng
open Go.RowKit kit mix gramL treeL
theorem pick_mem2 {L : List Own} {R : List Nat} {o : Own} (h : o ∈ R.filterMap fun i => L[i]?) : o ∈ L := by
  obtain ⟨i, _, hi⟩ := List.mem_filterMap.1 h
  exact List.mem_of_getElem? hi
set_option maxRecDepth 100000 in
set_option maxHeartbeats 16000000 in
/-- each node of a right tree: closures that turn what they have captured -/
theorem each5_calls (w0 : World) (t n : Int) (vp : Value) (prods : List gramL.Prod) (hG : SlF prodS (fun k => k < w0.heap.size) w0 vp prods) {α : Type} (O1 O2 : α → Value → Own) (X1 X2 X3 : Own) (step : α → Deed → α) (len : α → Nat) (fa fb fl : FuncId) (a1 a2 b1 b2 l1 l2 : Array Value) (ea : Enters Try.prog fa) (eb : Enters Try.prog fb) (el : Enters Try.prog fl)
    (hA : ∀ s z p w B, len s ≤ 100000 → Mem B [O1 s z, O2 s z, X1, X2, X3] w → Calls Try.prog fa (a1 ++ #[.int .i64 p] ++ a2) w (MeetsB ⟨fun (_ : Value) => True, fun _ => .tuple #[], fun z' => [O1 (step s (.ahead p)) z', O2 (step s (.ahead p)) z', X1, X2, X3]⟩ B))
    (hB : ∀ s z p w B, len s ≤ 100000 → Mem B [O1 s z, O2 s z, X1, X2, X3] w → Calls Try.prog fb (b1 ++ #[.int .i64 p] ++ b2) w (MeetsB ⟨fun (_ : Value) => True, fun _ => .tuple #[], fun z' => [O1 (step s (.behind p)) z', O2 (step s (.behind p)) z', X1, X2, X3]⟩ B))
    (hL : ∀ s z p q w B, len s ≤ 100000 → Mem B [O1 s z, O2 s z, X1, X2, X3] w → Calls Try.prog fl (l1 ++ #[.int .i64 p, .int .i64 q] ++ l2) w (MeetsB ⟨fun (_ : Value) => True, fun _ => .tuple #[], fun z' => [O1 (step s (.leaf p q)) z', O2 (step s (.leaf p q)) z', X1, X2, X3]⟩ B))
    (hlen : ∀ s x, len (step s x) ≤ len s + 1) : ∀ (N : Nat) (tr : Tree), size tr ≤ N → ∀ (vt : Value) (x : Sym) (u : Nat) (s : α) (z : Value) (w : World) (B : Base), TreeR (fun k => k < w0.heap.size) w0 vt tr → Right prods tr x u → 0 ≤ tr.prod → len s + (acts prods tr).length ≤ 100000 → Old w0 B → Mem B [O1 s z, O2 s z, X1, X2, X3] w →
    Calls Try.prog 103 #[graV t n vp, vt, .func (.func fa) a1 a2, .func (.func fb) b1 b2, .func (.func fl) l1 l2] w (MeetsB ⟨fun (_ : Value) => True, fun _ => .tuple #[], fun z' => [O1 ((acts prods tr).foldl step s) z', O2 ((acts prods tr).foldl step s) z', X1, X2, X3]⟩ B)
  | 0, tr, h, _, _, _, _, _, _, _, _, _, _, _, _, _ => by have := size_pos tr; omega
  | N + 1, .mk p k kids, hN, vt, x, u, s, z, w, B, hv, hR, hp0, hsl, ho, hm => by
    have IH := each5_calls w0 t n vp prods hG O1 O2 X1 X2 X3 step len fa fb fl a1 a2 b1 b2 l1 l2 ea eb el hA hB hL hlen N
    obtain ⟨vk, rfl, hp64, hk64, hks⟩ := hv
    dsimp only [Tree.prod, Tree.tok, Tree.kids] at hp64 hk64 hks hp0 ⊢
    obtain ⟨bk, ck, rfl, hck, hmk, hrk⟩ := hks
    unfold maxLen at hmk
    rw [size] at hN
    rw [Right] at hR
    rw [acts] at hsl ⊢
    obtain ⟨r1, r2, r3, r4, r5, r6⟩ : x.1 ≠ 1 ∧ 0 ≤ p ∧ p < (prods.length : Int) ∧ (prodAt prods p).1 = x.2 ∧ k = 0 ∧ Rights prods kids (prodAt prods p).2 u := by
      rcases hR with ⟨_, h, _⟩ | h
      · omega
      · exact h
    clear hR
    obtain ⟨pn, rfl⟩ : ∃ pn : Nat, p = pn := ⟨p.toNat, by omega⟩
    have c6 : pn < prods.length := by omega
    obtain ⟨bp, cp, rfl, hcp, hmp, hrp⟩ := hG
    unfold maxLen at hmp
    obtain ⟨b, off, rfl, _, hr⟩ := hrp (by omega)
    obtain ⟨bb, cb, q1, q2, q3⟩ := prod_at hr c6
    rw [prodAt_eq c6] at r4 r6 hsl ⊢
    have hat : ∀ (L : List Own) (j : Nat) (v : Value), ([.int .i64 prods[pn].1, .slice bb prods[pn].2.length cb] : List Value)[j]? = some v → At B L ⟨b, off + pn * 2 + j, none⟩ v := fun L j v hj => at_old0 ho (q1 j v hj)
    have hfl := q3.flat (by decide)
    clear hr hrp q1 q3 q2
    generalize prods[pn] = pd at *
    obtain ⟨hd, body⟩ := pd
    dsimp only at *
    have hat1 := fun L => hat L 1 _ rfl
    clear hat
    obtain ⟨b2', cb2, he, hb4, hb5, hb6⟩ := hfl
    simp only [Value.slice.injEq, true_and] at he
    obtain ⟨rfl, rfl⟩ := he
    unfold maxLen at hb5
    have hkl := rights_len r6
    have hall := rights_at r6
    refine enterB hm (args := [graV t n (.slice (some ⟨b, off, none⟩) prods.length cp), treeV (pn : Int) k (.slice bk kids.length ck), .func (.func fa) a1 a2, .func (.func fb) b1 b2, .func (.func fl) l1 l2]) (n := 53) Try.func103 rfl rfl rfl ?_
    clear hm
    refine T_seq (T_region (TL_box rfl rfl rfl fun g5 => TL_box rfl rfl rfl fun g6 => ?_))
    conv=>arg 8;simp only[zA,zB,zC,zD,zE,zF,zG,zH,zI,rowS,ret,id_eq]
    repeat(first|refine QV QP ?_|refine QZ ?_|refine qcT rfl ?_|refine qcF rfl ?_|refine E_blockX ?_|refine E_blockO rfl ?_|refine QV (rr_load1 TyC.ty rfl (at_blk (i := 6) rfl rfl)) ?_|refine QV QL ?_|refine QV QA ?_|refine QV QlT ?_|refine QV QlF ?_|refine QV QaA ?_)
    refine TL_callB [0, 1, 2, 3, 4] [5, 6] (by decide) rfl rfl (he1c ea rfl rfl) (fun w hm hb => hA s z _ w _ (by omega) hb) rfl rfl rfl ?_
    intro z1 _
    conv=>arg 8;simp only[zA,zB,zC,zD,zE,zF,zG,zH,zI,rowS,ret,id_eq]
    repeat(first|refine QV QP ?_|refine QZ ?_|refine qcT rfl ?_|refine qcF rfl ?_|refine E_blockX ?_|refine E_blockO rfl ?_|refine QV (rr_load1 TyC.ty rfl (at_blk (i := 1) rfl rfl)) ?_|refine QV QL ?_|refine QV QA ?_|refine QV QlT ?_|refine QV QlF ?_|refine QV QaA ?_)
    rw [List.foldl_cons] at *
    have hl1 := hlen s (.ahead (pn : Int))
    rw [List.length_cons] at hsl
    generalize step s (.ahead (pn : Int)) = s1 at *
    generalize hfin : (actss prods kids body ++ [Deed.behind (pn : Int)]).foldl step s1 = fin
    refine T_loop (ι := Nat × α × Value) (fun (i, a, _) => i ≤ kids.length ∧ len a + (actss prods (kids.drop i) (body.drop i) ++ [Deed.behind (pn : Int)]).length ≤ 100000 ∧ (actss prods (kids.drop i) (body.drop i) ++ [Deed.behind (pn : Int)]).foldl step a = fin) (fun (i, _, _) => [(2, .func (.func fa) a1 a2), (3, .func (.func fb) b1 b2), (4, .func (.func fl) l1 l2), (5, .pointer (some ⟨g5, 0, none⟩)), (6, .pointer (some ⟨g6, 0, none⟩)), (17, .slice bk kids.length ck), (18, .int .i64 kids.length), (19, .int .i64 (i : Int))])
      (fun (_, a, z) => [blkO g5 (graV t n (.slice (some ⟨b, off, none⟩) prods.length cp)).cells 24, blkO g6 (treeV (pn : Int) k (.slice bk kids.length ck)).cells 142, O1 a z, O2 a z, X1, X2, X3]) (fun (i, _, _) => kids.length - i) (0, s1, z1) ⟨Nat.zero_le _, by rw [List.drop_zero, List.drop_zero]; omega, hfin⟩ (by repeat' (first | exact True.intro | refine And.intro rfl ?_)) rfl ?_
    clear hfin hsl hl1
    rintro ⟨i, a, z'⟩ ⟨i1, i2, i3⟩
    dsimp only at i1 i2 i3 ⊢
    by_cases c7 : i < kids.length
    · obtain ⟨bk2, offk, rfl, _, hrkk⟩ := hrk (by omega)
      obtain ⟨kb, kc, y1, y2⟩ := kid_at hrkk c7
      have c8 : i < body.length := by omega
      obtain ⟨b3, off3, rfl, hr3⟩ := hb6 (by omega)
      obtain ⟨uu, hru⟩ := hall i c7 c8
      rw [List.drop_eq_getElem_cons c7, List.drop_eq_getElem_cons c8] at i2 i3
      have hatk : ∀ (L : List Own) (j : Nat) (v : Value), ([.int .i64 kids[i].prod, .int .i64 kids[i].tok, .slice kb kids[i].kids.length kc] : List Value)[j]? = some v → At B L ⟨bk2, offk + i * 3 + j, none⟩ v := fun L j v hj => at_old0 ho (y1 j v hj)
      have hatx := fun L => at_elL (W := B) (L := L) SymS_len (fun q x hq => at_old0 ho (hr3 q x hq)) c8
      have hszk : size kids[i] ≤ N := by have := size_mem kids i c7; omega
      have IHk := IH kids[i] hszk
      clear hrk hrkk hb6 hr3 y1 IH hall
      generalize kids[i] = kt at *
      generalize body[i] = y at *
      have IHk := IHk (treeV kt.prod kt.tok (.slice kb kt.kids.length kc)) y uu a z'
      obtain ⟨kp, kk, kk2⟩ := kt
      dsimp only [Tree.prod, Tree.tok, Tree.kids] at *
      obtain ⟨yq, ym⟩ := y
      rw [actss] at i2 i3
      repeat(first|refine QV QP ?_|refine QZ ?_|refine qcT rfl ?_|refine qcF rfl ?_|refine E_blockX ?_|refine E_blockO rfl ?_|refine QV (rr_idxc Und.eq TyC.ty rfl rfl c7) ?_|refine QV (rr_loadN TyC.ty rfl rfl (hatk _)) ?_|refine QV QL ?_|refine QV QA ?_|refine QV QlT ?_|refine QV QlF ?_|refine QV QaA ?_)
      refine TL_new rfl fun g11 => ?_
      repeat(first|refine QV QP ?_|refine QZ ?_|refine qcT rfl ?_|refine qcF rfl ?_|refine E_blockX ?_|refine E_blockO rfl ?_|refine QV QL ?_|refine QV QA ?_|refine QV QlT ?_|refine QV QlF ?_|refine QV QaA ?_)
      refine TL_storeB (i := 7) rfl rfl rfl rfl rfl rfl ?_
      conv=>arg 8;simp only[zA,zB,zC,zD,zE,zF,zG,zH,zI,rowS,ret,id_eq]
      by_cases c9 : kp < 0
      · rw [if_pos c9] at i2 i3
        have hl2 := hlen a (.leaf ym kk)
        simp only [List.cons_append, List.nil_append, List.foldl_cons, List.length_cons] at i2 i3
        repeat(first|refine QV QP ?_|refine QZ ?_|refine qcT rfl ?_|refine qcF rfl ?_|refine E_blockX ?_|refine E_blockO rfl ?_|refine QV (rr_load1 TyC.ty rfl (at_blk (i := 7) rfl rfl)) ?_|refine QV QL ?_|refine QV QA ?_|refine QV QlT ?_|refine QV QlF ?_|refine QV QaA ?_)
        refine T_ord ([blkO g5 (graV t n (.slice (some ⟨b, off, none⟩) prods.length cp)).cells 24, blkO g6 (treeV (pn : Int) k (.slice (some ⟨bk2, offk, none⟩) kids.length ck)).cells 142, blkO g11 #[.int .i64 kp, .int .i64 kk, .slice kb kk2.length kc] 142]) (.calm 0 (.calm 1 (.calm 2 (.calm 3 (.calm 4 (.calm 5 (.calm 6 (.calm 7 (.calm 8 (.calm 9 (.calm 10 (.calm 11 (.calm 12 (.calm 13 (.one 14 (.done)))))))))))))))) (sub_pick [0, 1, 7] (by decide) rfl) (by kernel_rfl) (by kernel_rfl) (by intro c a d v w h; cases d <;> exact h) ?_
        repeat(first|((first|refine TW_plain rfl rfl ?_|refine TW_gmet rfl rfl rfl rfl ?_);first|refine QW QP ?_|refine QW (rr_load1 TyC.ty rfl (at_blk (i := 0) rfl rfl)) ?_|refine QW (rr_load1 TyC.ty rfl (at_blk (i := 1) rfl rfl)) ?_|refine QW (rr_load1 TyC.ty rfl (at_blk (i := 2) rfl rfl)) ?_|refine QW (rr_idxc Und.eq TyC.ty rfl rfl c6) ?_|refine QW (rr_load1 TyC.ty rfl (hat1 _)) ?_|refine QW (rr_idxc Und.eq TyC.ty rfl rfl c8) ?_|refine QW (rr_load1 TyC.ty rfl (hatx _ 1 _ rfl)) ?_|refine QW QL ?_|refine QW QA ?_|refine QW QlT ?_|refine QW QlF ?_|refine QW QaA ?_)|refine TW_done ?_)
        refine TW_one rfl ?_
        refine TL_callB [2, 3, 4, 5, 6] [0, 1, 7] (by decide) rfl rfl (he2c el rfl rfl rfl) (fun w hm hb => hL a z' _ _ w _ (by omega) hb) rfl rfl rfl ?_
        intro z2 _
        conv=>arg 8;simp only[zA,zB,zC,zD,zE,zF,zG,zH,zI,rowS,ret,id_eq]
        refine TW_on (sub_pick [0, 1, 2] (by decide) rfl) ?_
        repeat(first|((first|refine TW_plain rfl rfl ?_|refine TW_gmet rfl rfl rfl rfl ?_);first|refine QW QP ?_|refine QW QL ?_|refine QW QA ?_|refine QW QlT ?_|refine QW QlF ?_|refine QW QaA ?_)|refine TW_done ?_)
        repeat(first|refine QV QP ?_|refine QZ ?_|refine qcT rfl ?_|refine qcF rfl ?_|refine E_blockX ?_|refine E_blockO rfl ?_|refine QV QL ?_|refine QV QA ?_|refine QV QlT ?_|refine QV QlF ?_|refine QV QaA ?_)
        refine E_pick [0, 1, 3, 4, 5, 6, 7] (by decide) rfl ?_
        exact E_round (i + 1, step a (.leaf ym kk), z2) ⟨by omega, by dsimp only; omega, i3⟩ (by show kids.length - (i + 1) < kids.length - i; omega) (by repeat' (first | exact True.intro | refine And.intro rfl ?_)) rfl
      · rw [if_neg c9] at i2 i3
        rw [List.append_assoc, List.foldl_append] at i3
        rw [List.append_assoc, List.length_append] at i2
        have hfl : len ((acts prods (.mk kp kk kk2)).foldl step a) ≤ len a + (acts prods (.mk kp kk kk2)).length := by
          have : ∀ (l : List Deed) (a : α), len (l.foldl step a) ≤ len a + l.length := by
            intro l
            induction l with
            | nil => intro a; simp
            | cons y r ih => intro a; rw [List.foldl_cons, List.length_cons]; have := ih (step a y); have := hlen a y; omega
          exact this _ a
        have IHk := fun w' B' ho' hm' => IHk w' B' y2 hru (by omega) (by omega) ho' hm'
        generalize (acts prods (.mk kp kk kk2)).foldl step a = a' at *
        repeat(first|refine QV QP ?_|refine QZ ?_|refine qcT rfl ?_|refine qcF rfl ?_|refine E_blockX ?_|refine E_blockO rfl ?_|refine QV (rr_load1 TyC.ty rfl (at_blk (i := 7) rfl rfl)) ?_|refine QV (rr_loadB (i := 0) TyC.ty rfl rfl rfl) ?_|refine QV (rr_loadB (i := 7) TyC.ty rfl rfl rfl) ?_|refine QV QL ?_|refine QV QA ?_|refine QV QlT ?_|refine QV QlF ?_|refine QV QaA ?_)
        refine TL_callB [2, 3, 4, 5, 6] [0, 1, 7] (by decide) rfl rfl (he5 EntersC.en rfl rfl rfl rfl rfl rfl) (fun w hm hb => IHk w _ (ho.on hm fun o h => pick_mem2 h) hb) rfl rfl rfl ?_
        intro z2 _
        conv=>arg 8;simp only[zA,zB,zC,zD,zE,zF,zG,zH,zI,rowS,ret,id_eq]
        repeat(first|refine QV QP ?_|refine QZ ?_|refine qcT rfl ?_|refine qcF rfl ?_|refine E_blockX ?_|refine E_blockO rfl ?_|refine QV QL ?_|refine QV QA ?_|refine QV QlT ?_|refine QV QlF ?_|refine QV QaA ?_)
        refine E_pick [0, 1, 3, 4, 5, 6, 7] (by decide) rfl ?_
        exact E_round (i + 1, a', z2) ⟨by omega, by dsimp only; omega, i3⟩ (by show kids.length - (i + 1) < kids.length - i; omega) (by repeat' (first | exact True.intro | refine And.intro rfl ?_)) rfl
    · have e1 : actss prods (kids.drop i) (body.drop i) = [] := by rw [List.drop_of_length_le (by omega), actss]
      rw [e1] at i2 i3
      simp only [List.nil_append, List.foldl_cons, List.foldl_nil, List.length_cons, List.length_nil] at i2 i3
      subst i3
      repeat(first|refine QV QP ?_|refine QZ ?_|refine qcT rfl ?_|refine qcF rfl ?_|refine E_blockX ?_|refine E_blockO rfl ?_|refine QV (rr_load1 TyC.ty rfl (at_blk (i := 1) rfl rfl)) ?_|refine QV QL ?_|refine QV QA ?_|refine QV QlT ?_|refine QV QlF ?_|refine QV QaA ?_)
      refine TL_callB [2, 3, 4, 5, 6] [0, 1] (by decide) rfl rfl (he1c eb rfl rfl) (fun w hm hb => hB a z' _ w _ (by omega) hb) rfl rfl rfl ?_
      intro z2 _
      conv=>arg 8;simp only[zA,zB,zC,zD,zE,zF,zG,zH,zI,rowS,ret,id_eq]
      repeat(first|refine QV QP ?_|refine QZ ?_|refine qcT rfl ?_|refine qcF rfl ?_|refine E_blockX ?_|refine E_blockO rfl ?_|refine QV QL ?_|refine QV QA ?_|refine QV QlT ?_|refine QV QlF ?_|refine QV QaA ?_)
      exact E_end0 rfl fun w hm => hm.meetsB (S := ⟨fun (_ : Value) => True, fun _ => .tuple #[], fun z' => [O1 (step a (.behind (pn : Int))) z', O2 (step a (.behind (pn : Int))) z', X1, X2, X3]⟩) z2 trivial [2, 3, 4, 5, 6] (by decide) rfl
end Go.Proofs.Ytlojfbnimmdehaa.eng

/- EvT -/
namespace Go.Proofs.Ytlojfbnimmdehaa.eng
open Go.RowKit kit mix gramL treeL
instance : TyC Try.prog 194 false 1 := ⟨Ty.of (by kernel_rfl)⟩
instance : ZeroC Try.prog 194 #[.nilFunc] := ⟨by kernel_rfl⟩
theorem build_ev (k q : Int) (w : World) : (Instr.build 82 #[(0, .int .i64 k), (1, .int .i64 q)]).run Try.prog w = .ok (.agg #[.int .i64 k, .int .i64 q]) w := by
  go_simp
def eO1 (g : Nat) (_ : List Sym) (z : Value) : Own := blkO g #[z] 75
def eO2 (s : List Sym) (z : Value) : Own := rowO 82 2 z s.length (s.flatMap symC)
def eS (l : List Sym) : Spec Value := rowS 82 2 l.length (l.flatMap symC) fun v => .tuple #[v, .int .i64 0]
theorem putDown_calls (g gb : Nat) (kind n : Int) (s : List Sym) (z : Value) (w : World) (B : Base) (Y1 Y2 Y3 : Own) (i : Nat) (hi : ∀ a b, ([a, b, Y1, Y2, Y3] : List Own)[i]? = some (blkO gb #[.int .i64 kind] 3)) (hs : s.length ≤ 100000) (hm : Mem B [eO1 g s z, eO2 s z, Y1, Y2, Y3] w) :
    Calls Try.prog 102 #[.int .i64 n, .pointer (some ⟨g, 0, none⟩), .pointer (some ⟨gb, 0, none⟩)] w (MeetsB ⟨fun (_ : Value) => True, fun _ => .tuple #[], fun z' => [eO1 g (s ++ [(kind, n)]) z', eO2 (s ++ [(kind, n)]) z', Y1, Y2, Y3]⟩ B) := by
  refine enterB hm (args := [.int .i64 n, .pointer (some ⟨g, 0, none⟩), .pointer (some ⟨gb, 0, none⟩)]) (n := 10) Try.func102 rfl rfl rfl ?_
  repeat(first|refine QV QP ?_|refine QZ ?_|refine QV (rr_load1 TyC.ty rfl (at_blk (i := 0) rfl rfl)) ?_|refine QV (rr_load1 TyC.ty rfl (at_blk (i := i) (hi _ _) rfl)) ?_|refine QV (rr_build rfl (build_ev _ _)) ?_)
  refine TL_pushN (i := 1) rfl rfl rfl rfl rfl rfl rfl (fun z h => by cases h; rfl) (by omega) (by omega) rfl fun z' v' => ?_
  conv=>arg 8;simp only[zA,zB,zC,zD,zE,zF,zG,zH,zI,rowS,ret,id_eq]
  refine TL_slv (i := 1) rfl fun hv1 hv2 => ?_
  refine TL_store1 (i := 0) rfl rfl rfl hv1 hv2 rfl ?_
  conv=>arg 8;simp only[zA,zB,zC,zD,zE,zF,zG,zH,zI,rowS,ret,id_eq]
  repeat(first|refine QV QP ?_|refine QZ ?_)
  exact E_end0 rfl fun w hm => hm.meetsB (S := ⟨fun (_ : Value) => True, fun _ => .tuple #[], fun z' => [eO1 g (s ++ [(kind, n)]) z', eO2 (s ++ [(kind, n)]) z', Y1, Y2, Y3]⟩) v' trivial [0, 1, 2, 3, 4] (by decide) (by simp [eO1, eO2, symC])
theorem kindDown_calls (g : Nat) (kind : Int) (w : World) : Calls Try.prog 101 #[.int .i64 kind, .pointer (some ⟨g, 0, none⟩)] w (Meets ⟨fun (_ : Nat) => True, fun gb => .func (.func 102) #[] #[.pointer (some ⟨g, 0, none⟩), .pointer (some ⟨gb, 0, none⟩)], fun gb => [blkO gb #[.int .i64 kind] 3]⟩ w) := by
  refine enter (args := [.int .i64 kind, .pointer (some ⟨g, 0, none⟩)]) (n := 5) Try.func101 rfl rfl rfl ?_
  refine T_seq (T_region (TL_box rfl rfl rfl fun gb => ?_))
  conv=>arg 8;simp only[zA,zB,zC,zD,zE,zF,zG,zH,zI,rowS,ret,id_eq]
  repeat(first|refine QV QP ?_|refine QZ ?_|refine QV (rr_func rfl rfl) ?_)
  exact E_ret1 rfl rfl fun w hm => hm.meets (S := ⟨fun (_ : Nat) => True, fun gb => .func (.func 102) #[] #[.pointer (some ⟨g, 0, none⟩), .pointer (some ⟨gb, 0, none⟩)], fun gb => [blkO gb #[.int .i64 kind] 3]⟩) gb trivial [0] (by decide) rfl
theorem leafDown_calls (g g8 : Nat) (p q : Int) (s : List Sym) (z : Value) (w : World) (B : Base) (Y2 Y3 : Own) (hs : s.length ≤ 100000) (hm : Mem B [eO1 g s z, eO2 s z, blkO g8 #[.func (.func 101) #[] #[.pointer (some ⟨g, 0, none⟩)]] 194, Y2, Y3] w) :
    Calls Try.prog 104 #[.int .i64 p, .int .i64 q, .pointer (some ⟨g8, 0, none⟩)] w (MeetsB ⟨fun (_ : Value) => True, fun _ => .tuple #[], fun z' => [eO1 g (s ++ [(2, q)]) z', eO2 (s ++ [(2, q)]) z', blkO g8 #[.func (.func 101) #[] #[.pointer (some ⟨g, 0, none⟩)]] 194, Y2, Y3]⟩ B) := by
  refine enterB hm (args := [.int .i64 p, .int .i64 q, .pointer (some ⟨g8, 0, none⟩)]) (n := 9) Try.func104 rfl rfl rfl ?_
  repeat(first|refine QV QP ?_|refine QZ ?_|refine QV (rr_load1 TyC.ty rfl (at_blk (i := 2) rfl rfl)) ?_)
  refine TL_call (he1c EntersC.en rfl rfl) (fun w hm => kindDown_calls g 2 w) rfl rfl rfl ?_
  intro gb _
  conv=>arg 8;simp only[zA,zB,zC,zD,zE,zF,zG,zH,zI,rowS,ret,id_eq]
  repeat(first|refine QV QP ?_|refine QZ ?_)
  refine TL_callB [0, 1, 5, 2, 3] [4] (by decide) rfl rfl (he1c EntersC.en rfl rfl) (fun w hm hb => putDown_calls g gb 2 q s z w _ _ _ _ 2 (fun _ _ => rfl) hs hb) rfl rfl rfl ?_
  intro z' _
  conv=>arg 8;simp only[zA,zB,zC,zD,zE,zF,zG,zH,zI,rowS,ret,id_eq]
  repeat(first|refine QV QP ?_|refine QZ ?_)
  exact E_end0 rfl fun w hm => hm.meetsB (S := ⟨fun (_ : Value) => True, fun _ => .tuple #[], fun z' => [eO1 g (s ++ [(2, q)]) z', eO2 (s ++ [(2, q)]) z', blkO g8 #[.func (.func 101) #[] #[.pointer (some ⟨g, 0, none⟩)]] 194, Y2, Y3]⟩) z' trivial [1, 2, 4, 5, 0] (by decide) rfl
theorem putUp_calls (g gb : Nat) (kind n : Int) (s : List Sym) (z : Value) (w : World) (B : Base) (Y1 Y2 Y3 : Own) (i : Nat) (hi : ∀ a b, ([a, b, Y1, Y2, Y3] : List Own)[i]? = some (blkO gb #[.int .i64 kind] 3)) (hs : s.length ≤ 100000) (hm : Mem B [eO1 g s z, eO2 s z, Y1, Y2, Y3] w) :
    Calls Try.prog 106 #[.int .i64 n, .pointer (some ⟨g, 0, none⟩), .pointer (some ⟨gb, 0, none⟩)] w (MeetsB ⟨fun (_ : Value) => True, fun _ => .tuple #[], fun z' => [eO1 g (s ++ [(kind, n)]) z', eO2 (s ++ [(kind, n)]) z', Y1, Y2, Y3]⟩ B) := by
  refine enterB hm (args := [.int .i64 n, .pointer (some ⟨g, 0, none⟩), .pointer (some ⟨gb, 0, none⟩)]) (n := 10) Try.func106 rfl rfl rfl ?_
  repeat(first|refine QV QP ?_|refine QZ ?_|refine QV (rr_load1 TyC.ty rfl (at_blk (i := 0) rfl rfl)) ?_|refine QV (rr_load1 TyC.ty rfl (at_blk (i := i) (hi _ _) rfl)) ?_|refine QV (rr_build rfl (build_ev _ _)) ?_)
  refine TL_pushN (i := 1) rfl rfl rfl rfl rfl rfl rfl (fun z h => by cases h; rfl) (by omega) (by omega) rfl fun z' v' => ?_
  conv=>arg 8;simp only[zA,zB,zC,zD,zE,zF,zG,zH,zI,rowS,ret,id_eq]
  refine TL_slv (i := 1) rfl fun hv1 hv2 => ?_
  refine TL_store1 (i := 0) rfl rfl rfl hv1 hv2 rfl ?_
  conv=>arg 8;simp only[zA,zB,zC,zD,zE,zF,zG,zH,zI,rowS,ret,id_eq]
  repeat(first|refine QV QP ?_|refine QZ ?_)
  exact E_end0 rfl fun w hm => hm.meetsB (S := ⟨fun (_ : Value) => True, fun _ => .tuple #[], fun z' => [eO1 g (s ++ [(kind, n)]) z', eO2 (s ++ [(kind, n)]) z', Y1, Y2, Y3]⟩) v' trivial [0, 1, 2, 3, 4] (by decide) (by simp [eO1, eO2, symC])
theorem kindUp_calls (g : Nat) (kind : Int) (w : World) : Calls Try.prog 105 #[.int .i64 kind, .pointer (some ⟨g, 0, none⟩)] w (Meets ⟨fun (_ : Nat) => True, fun gb => .func (.func 106) #[] #[.pointer (some ⟨g, 0, none⟩), .pointer (some ⟨gb, 0, none⟩)], fun gb => [blkO gb #[.int .i64 kind] 3]⟩ w) := by
  refine enter (args := [.int .i64 kind, .pointer (some ⟨g, 0, none⟩)]) (n := 5) Try.func105 rfl rfl rfl ?_
  refine T_seq (T_region (TL_box rfl rfl rfl fun gb => ?_))
  conv=>arg 8;simp only[zA,zB,zC,zD,zE,zF,zG,zH,zI,rowS,ret,id_eq]
  repeat(first|refine QV QP ?_|refine QZ ?_|refine QV (rr_func rfl rfl) ?_)
  exact E_ret1 rfl rfl fun w hm => hm.meets (S := ⟨fun (_ : Nat) => True, fun gb => .func (.func 106) #[] #[.pointer (some ⟨g, 0, none⟩), .pointer (some ⟨gb, 0, none⟩)], fun gb => [blkO gb #[.int .i64 kind] 3]⟩) gb trivial [0] (by decide) rfl
theorem leafUp_calls (g g8 : Nat) (p q : Int) (s : List Sym) (z : Value) (w : World) (B : Base) (Y2 Y3 : Own) (hs : s.length ≤ 100000) (hm : Mem B [eO1 g s z, eO2 s z, blkO g8 #[.func (.func 105) #[] #[.pointer (some ⟨g, 0, none⟩)]] 194, Y2, Y3] w) :
    Calls Try.prog 108 #[.int .i64 p, .int .i64 q, .pointer (some ⟨g8, 0, none⟩)] w (MeetsB ⟨fun (_ : Value) => True, fun _ => .tuple #[], fun z' => [eO1 g (s ++ [(2, q)]) z', eO2 (s ++ [(2, q)]) z', blkO g8 #[.func (.func 105) #[] #[.pointer (some ⟨g, 0, none⟩)]] 194, Y2, Y3]⟩ B) := by
  refine enterB hm (args := [.int .i64 p, .int .i64 q, .pointer (some ⟨g8, 0, none⟩)]) (n := 9) Try.func108 rfl rfl rfl ?_
  repeat(first|refine QV QP ?_|refine QZ ?_|refine QV (rr_load1 TyC.ty rfl (at_blk (i := 2) rfl rfl)) ?_)
  refine TL_call (he1c EntersC.en rfl rfl) (fun w hm => kindUp_calls g 2 w) rfl rfl rfl ?_
  intro gb _
  conv=>arg 8;simp only[zA,zB,zC,zD,zE,zF,zG,zH,zI,rowS,ret,id_eq]
  repeat(first|refine QV QP ?_|refine QZ ?_)
  refine TL_callB [0, 1, 5, 2, 3] [4] (by decide) rfl rfl (he1c EntersC.en rfl rfl) (fun w hm hb => putUp_calls g gb 2 q s z w _ _ _ _ 2 (fun _ _ => rfl) hs hb) rfl rfl rfl ?_
  intro z' _
  conv=>arg 8;simp only[zA,zB,zC,zD,zE,zF,zG,zH,zI,rowS,ret,id_eq]
  repeat(first|refine QV QP ?_|refine QZ ?_)
  exact E_end0 rfl fun w hm => hm.meetsB (S := ⟨fun (_ : Value) => True, fun _ => .tuple #[], fun z' => [eO1 g (s ++ [(2, q)]) z', eO2 (s ++ [(2, q)]) z', blkO g8 #[.func (.func 105) #[] #[.pointer (some ⟨g, 0, none⟩)]] 194, Y2, Y3]⟩) z' trivial [1, 2, 4, 5, 0] (by decide) rfl
end Go.Proofs.Ytlojfbnimmdehaa.eng

/- DownUp -/
namespace Go.Proofs.Ytlojfbnimmdehaa.eng
open Go.RowKit kit mix gramL treeL
set_option maxHeartbeats 4000000 in
theorem down_calls (v vt : Value) (g : Gram) (tr : Tree) (w : World) (h : GraR (fun k => k < w.heap.size) w v g) (ht : TreeR (fun k => k < w.heap.size) w vt tr) (hc : checkT g tr = 0) :
    Calls Try.prog 66 #[v, vt] w (Meets (eS (downE g.prods tr)) w) := by
  have hck := fun w' (hg : Gr w w') => treeCheck_calls v vt g tr w' (h.gr hg) (ht.gr hg)
  rw [hc] at hck
  obtain ⟨c1, c2, c3, c4⟩ := checkT_iff.1 hc
  obtain ⟨vp, rfl, h1, _⟩ := h
  have ht0 := ht
  obtain ⟨vk, rfl, _, _, hk4⟩ := ht
  obtain ⟨bk, ck, rfl, _⟩ := hk4
  obtain ⟨t, n, prods⟩ := g
  dsimp only at *
  have hea := fun g7 g8 ga gb w' B ho hm => each5_calls w t n vp prods h1 (eO1 g7) eO2 (blkO g8 #[.func (.func 101) #[] #[.pointer (some ⟨g7, 0, none⟩)]] 194) (blkO ga #[.int .i64 1] 3) (blkO gb #[.int .i64 3] 3) stepD List.length 102 102 104 #[] #[.pointer (some ⟨g7, 0, none⟩), .pointer (some ⟨ga, 0, none⟩)] #[] #[.pointer (some ⟨g7, 0, none⟩), .pointer (some ⟨gb, 0, none⟩)] #[] #[.pointer (some ⟨g8, 0, none⟩)] EntersC.en EntersC.en EntersC.en
    (fun s z p w B hs hm => putDown_calls g7 ga 1 p s z w B _ _ _ 3 (fun _ _ => rfl) hs hm) (fun s z p w B hs hm => putDown_calls g7 gb 3 p s z w B _ _ _ 4 (fun _ _ => rfl) hs hm) (fun s z p q w B hs hm => leafDown_calls g7 g8 p q s z w B _ _ hs hm)
    (fun s x => by simp [stepD]) (size tr) tr (Nat.le_refl _) (treeV tr.prod tr.tok (.slice bk tr.kids.length ck)) (2, 0) 0 [] (.slice none 0 0) w' B ht0 c2 (right_prod c2) (by have := acts_le prods tr; simp only [List.length_nil]; omega) ho hm
  rw [foldD] at hea
  refine enter (args := [graV t n vp, treeV tr.prod tr.tok (.slice bk tr.kids.length ck)]) (n := 25) Try.func66 rfl rfl rfl ?_
  refine T_seq (T_region (TL_box rfl rfl rfl fun g2 => TL_box rfl rfl rfl fun g3 => ?_))
  conv=>arg 8;simp only[zA,zB,zC,zD,zE,zF,zG,zH,zI,rowS,ret,id_eq]
  repeat(first|refine QV QP ?_|refine QZ ?_|refine qcT rfl ?_|refine qcF rfl ?_|refine QV (rr_loadB (i := 0) TyC.ty rfl rfl rfl) ?_|refine QV (rr_loadB (i := 1) TyC.ty rfl rfl rfl) ?_|refine QV QnT ?_|refine QV QnF ?_)
  refine TL_call (he2 EntersC.en rfl rfl rfl) (fun w hm => hck _ hm.below) rfl rfl rfl ?_
  intro _ _
  conv=>arg 8;simp only[zA,zB,zC,zD,zE,zF,zG,zH,zI,rowS,ret,id_eq]
  repeat(first|refine QV QP ?_|refine QZ ?_|refine qcT rfl ?_|refine qcF rfl ?_|refine QV QnT ?_|refine QV QnF ?_)
  refine TL_new rfl fun g7 => ?_
  conv=>arg 8;simp only[zA,zB,zC,zD,zE,zF,zG,zH,zI,rowS,ret,id_eq]
  repeat(first|refine QV QP ?_|refine QZ ?_|refine qcT rfl ?_|refine qcF rfl ?_|refine QV (rr_func rfl rfl) ?_|refine QV QnT ?_|refine QV QnF ?_)
  refine TL_new rfl fun g8 => ?_
  refine TL_store1 (i := 3) rfl rfl rfl rfl rfl rfl ?_
  conv=>arg 8;simp only[zA,zB,zC,zD,zE,zF,zG,zH,zI,rowS,ret,id_eq]
  repeat(first|refine QV QP ?_|refine TL_nil ?_|refine E_then ?_|refine QV QnT ?_|refine QV QnF ?_)
  (repeat refine T_seq ?_)
  refine T_nil 82 2 ?_
  conv => arg 7; simp only [zA, zB, zC, zD, zE, zF, zG, zH, zI, rowS, ret, id_eq]
  refine T_ord ([blkO g2 (graV t n vp).cells 24, blkO g3 (treeV tr.prod tr.tok (.slice bk tr.kids.length ck)).cells 142, blkO g8 #[.func (.func 101) #[] #[.pointer (some ⟨g7, 0, none⟩)]] 194]) (.calm 0 (.calm 1 (.calm 2 (.calm 4 (.calm 6 (.one 3 (.one 5 (.one 7 (.done))))))))) (sub_pick [0, 1, 3] (by decide) rfl) (by kernel_rfl) (by kernel_rfl) (by intro c a d v w h; cases d <;> exact h) ?_
  repeat(first|((first|refine TW_plain rfl rfl ?_|refine TW_gmet rfl rfl rfl rfl ?_);first|refine QW QP ?_|refine QW (rr_loadB (i := 0) TyC.ty rfl rfl rfl) ?_|refine QW (rr_loadB (i := 1) TyC.ty rfl rfl rfl) ?_|refine QW (rr_load1 TyC.ty rfl (at_blk (i := 2) rfl rfl)) ?_|refine QW (rr_func rfl rfl) ?_|refine QW QnT ?_|refine QW QnF ?_)|refine TW_done ?_)
  refine TW_one rfl ?_
  refine TL_call (he1c EntersC.en rfl rfl) (fun w hm => kindDown_calls g7 1 w) rfl rfl rfl ?_
  intro ga _
  conv=>arg 8;simp only[zA,zB,zC,zD,zE,zF,zG,zH,zI,rowS,ret,id_eq]
  refine TW_on (sub_pick [0, 1, 3] (by decide) rfl) ?_
  refine TW_one rfl ?_
  refine TL_call (he1c EntersC.en rfl rfl) (fun w hm => kindDown_calls g7 3 w) rfl rfl rfl ?_
  intro gb _
  conv=>arg 8;simp only[zA,zB,zC,zD,zE,zF,zG,zH,zI,rowS,ret,id_eq]
  refine TW_on (sub_pick [0, 1, 3] (by decide) rfl) ?_
  refine TW_one rfl ?_
  refine TL_callB [2, 4, 3, 5, 6] [0, 1] (by decide) rfl rfl (he5 EntersC.en rfl rfl rfl rfl rfl rfl) (fun w' hm hb => hea g7 g8 ga gb w' _ ((Old.self w).on hm fun o h => pick_mem2 h) hb) rfl rfl rfl ?_
  intro z _
  conv=>arg 8;simp only[zA,zB,zC,zD,zE,zF,zG,zH,zI,rowS,ret,id_eq]
  refine TW_on (sub_pick [0, 1, 4] (by decide) rfl) ?_
  repeat(first|((first|refine TW_plain rfl rfl ?_|refine TW_gmet rfl rfl rfl rfl ?_);first|refine QW QP ?_|refine QW QnT ?_|refine QW QnF ?_)|refine TW_done ?_)
  repeat(first|refine QV QP ?_|refine QZ ?_|refine qcT rfl ?_|refine qcF rfl ?_|refine QV (rr_load1 TyC.ty rfl (at_blk (i := 2) rfl rfl)) ?_|refine QV QnT ?_|refine QV QnF ?_)
  exact E_ret2 rfl rfl rfl fun w hm => hm.meets (S := eS (downE prods tr)) z trivial [3] (by decide) rfl
set_option maxHeartbeats 4000000 in
theorem up_calls (v vt : Value) (g : Gram) (tr : Tree) (w : World) (h : GraR (fun k => k < w.heap.size) w v g) (ht : TreeR (fun k => k < w.heap.size) w vt tr) (hc : checkT g tr = 0) :
    Calls Try.prog 67 #[v, vt] w (Meets (eS (upE g.prods tr)) w) := by
  have hck := fun w' (hg : Gr w w') => treeCheck_calls v vt g tr w' (h.gr hg) (ht.gr hg)
  rw [hc] at hck
  obtain ⟨c1, c2, c3, c4⟩ := checkT_iff.1 hc
  obtain ⟨vp, rfl, h1, _⟩ := h
  have ht0 := ht
  obtain ⟨vk, rfl, _, _, hk4⟩ := ht
  obtain ⟨bk, ck, rfl, _⟩ := hk4
  obtain ⟨t, n, prods⟩ := g
  dsimp only at *
  have hea := fun g7 g8 ga w' B ho hm => each5_calls w t n vp prods h1 (eO1 g7) eO2 (blkO g8 #[.func (.func 105) #[] #[.pointer (some ⟨g7, 0, none⟩)]] 194) (blkO ga #[.int .i64 4] 3) (kidsO (fun _ => False) (.slice none 0 0) []) stepU List.length 107 106 108 #[] #[] #[] #[.pointer (some ⟨g7, 0, none⟩), .pointer (some ⟨ga, 0, none⟩)] #[] #[.pointer (some ⟨g8, 0, none⟩)] EntersC.en EntersC.en EntersC.en
    (fun s z p w B _ hm => nothing_calls p (fun z => [eO1 g7 s z, eO2 s z, (blkO g8 #[.func (.func 105) #[] #[.pointer (some ⟨g7, 0, none⟩)]] 194), (blkO ga #[.int .i64 4] 3), (kidsO (fun _ => False) (.slice none 0 0) [])]) z w B hm) (fun s z p w B hs hm => putUp_calls g7 ga 4 p s z w B _ _ _ 3 (fun _ _ => rfl) hs hm) (fun s z p q w B hs hm => leafUp_calls g7 g8 p q s z w B _ _ hs hm)
    (fun s x => by cases x <;> simp [stepU, evU]) (size tr) tr (Nat.le_refl _) (treeV tr.prod tr.tok (.slice bk tr.kids.length ck)) (2, 0) 0 [] (.slice none 0 0) w' B ht0 c2 (right_prod c2) (by have := acts_le prods tr; simp only [List.length_nil]; omega) ho hm
  rw [foldU] at hea
  refine enter (args := [graV t n vp, treeV tr.prod tr.tok (.slice bk tr.kids.length ck)]) (n := 23) Try.func67 rfl rfl rfl ?_
  refine T_seq (T_region (TL_box rfl rfl rfl fun g2 => TL_box rfl rfl rfl fun g3 => ?_))
  conv=>arg 8;simp only[zA,zB,zC,zD,zE,zF,zG,zH,zI,rowS,ret,id_eq]
  repeat(first|refine QV QP ?_|refine QZ ?_|refine qcT rfl ?_|refine qcF rfl ?_|refine QV (rr_loadB (i := 0) TyC.ty rfl rfl rfl) ?_|refine QV (rr_loadB (i := 1) TyC.ty rfl rfl rfl) ?_|refine QV QnT ?_|refine QV QnF ?_)
  refine TL_call (he2 EntersC.en rfl rfl rfl) (fun w hm => hck _ hm.below) rfl rfl rfl ?_
  intro _ _
  conv=>arg 8;simp only[zA,zB,zC,zD,zE,zF,zG,zH,zI,rowS,ret,id_eq]
  repeat(first|refine QV QP ?_|refine QZ ?_|refine qcT rfl ?_|refine qcF rfl ?_|refine QV QnT ?_|refine QV QnF ?_)
  refine TL_new rfl fun g7 => ?_
  conv=>arg 8;simp only[zA,zB,zC,zD,zE,zF,zG,zH,zI,rowS,ret,id_eq]
  repeat(first|refine QV QP ?_|refine QZ ?_|refine qcT rfl ?_|refine qcF rfl ?_|refine QV (rr_func rfl rfl) ?_|refine QV QnT ?_|refine QV QnF ?_)
  refine TL_new rfl fun g8 => ?_
  refine TL_store1 (i := 3) rfl rfl rfl rfl rfl rfl ?_
  conv=>arg 8;simp only[zA,zB,zC,zD,zE,zF,zG,zH,zI,rowS,ret,id_eq]
  repeat(first|refine QV QP ?_|refine TL_nil ?_|refine E_then ?_|refine QV QnT ?_|refine QV QnF ?_)
  (repeat refine T_seq ?_)
  refine T_nil 82 2 (T_extra (kidsO (fun _ => False) (.slice none 0 0) []) (fun k hk => hk.elim (fun h => by cases h) id) kidsO_nil ?_)
  conv => arg 7; simp only [zA, zB, zC, zD, zE, zF, zG, zH, zI, rowS, ret, id_eq]
  refine T_ord ([blkO g2 (graV t n vp).cells 24, blkO g3 (treeV tr.prod tr.tok (.slice bk tr.kids.length ck)).cells 142, blkO g8 #[.func (.func 105) #[] #[.pointer (some ⟨g7, 0, none⟩)]] 194]) (.calm 0 (.calm 1 (.calm 2 (.calm 4 (.one 3 (.one 5 (.done))))))) (sub_pick [0, 1, 3] (by decide) rfl) (by kernel_rfl) (by kernel_rfl) (by intro c a d v w h; cases d <;> exact h) ?_
  repeat(first|((first|refine TW_plain rfl rfl ?_|refine TW_gmet rfl rfl rfl rfl ?_);first|refine QW QP ?_|refine QW (rr_loadB (i := 0) TyC.ty rfl rfl rfl) ?_|refine QW (rr_loadB (i := 1) TyC.ty rfl rfl rfl) ?_|refine QW (rr_load1 TyC.ty rfl (at_blk (i := 2) rfl rfl)) ?_|refine QW (rr_func rfl rfl) ?_|refine QW QnT ?_|refine QW QnF ?_)|refine TW_done ?_)
  refine TW_one rfl ?_
  refine TL_call (he1c EntersC.en rfl rfl) (fun w hm => kindUp_calls g7 4 w) rfl rfl rfl ?_
  intro ga _
  conv=>arg 8;simp only[zA,zB,zC,zD,zE,zF,zG,zH,zI,rowS,ret,id_eq]
  refine TW_on (sub_pick [0, 1, 3] (by decide) rfl) ?_
  refine TW_one rfl ?_
  refine TL_callB [2, 4, 3, 6, 5] [0, 1] (by decide) rfl rfl (he5 EntersC.en rfl rfl rfl rfl rfl rfl) (fun w' hm hb => hea g7 g8 ga w' _ ((Old.self w).on hm fun o h => pick_mem2 h) hb) rfl rfl rfl ?_
  intro z _
  conv=>arg 8;simp only[zA,zB,zC,zD,zE,zF,zG,zH,zI,rowS,ret,id_eq]
  refine TW_on (sub_pick [0, 1, 4] (by decide) rfl) ?_
  repeat(first|((first|refine TW_plain rfl rfl ?_|refine TW_gmet rfl rfl rfl rfl ?_);first|refine QW QP ?_|refine QW QnT ?_|refine QW QnF ?_)|refine TW_done ?_)
  repeat(first|refine QV QP ?_|refine QZ ?_|refine qcT rfl ?_|refine qcF rfl ?_|refine QV (rr_load1 TyC.ty rfl (at_blk (i := 2) rfl rfl)) ?_|refine QV QnT ?_|refine QV QnF ?_)
  exact E_ret2 rfl rfl rfl fun w hm => hm.meets (S := eS (upE prods tr)) z trivial [3] (by decide) rfl
end Go.Proofs.Ytlojfbnimmdehaa.eng

/- EvP -/
namespace Go.Proofs.Ytlojfbnimmdehaa.eng
open Go.RowKit kit mix gramL
theorem eq_evt (f f' : Sym) (w : World) : (Op.equalIn 10000 82 (.agg (symC f).toArray) (.agg (symC f').toArray)).run Try.prog w = .ok (decide (f = f')) w := by
  obtain ⟨k, q⟩ := f
  obtain ⟨k', q'⟩ := f'
  unfold symC
  go_simp
  by_cases e1 : k = k' <;> by_cases e2 : q = q' <;> simp [e1, e2]
end Go.Proofs.Ytlojfbnimmdehaa.eng

/- EvQ -/
namespace Go.Proofs.Ytlojfbnimmdehaa.eng
open Go.RowKit kit mix
theorem EvQ_len (a : gramL.Sym) : (symC a).length = 2 := rfl
set_option maxHeartbeats 2000000 in
theorem equalEvQ_calls (v v' : Value) (l l' : List gramL.Sym) (w : World) (hs : Sl w v l.length (l.flatMap symC)) (hs' : Sl w v' l'.length (l'.flatMap symC)) :
    Calls Try.prog 68 #[v, v'] w (Meets (ret (.bool (decide (l = l')))) w) := by
  obtain ⟨base, cap, rfl, hcap, hmax, hrd⟩ := hs
  obtain ⟨base', cap', rfl, hcap', hmax', hrd'⟩ := hs'
  unfold maxLen at hmax hmax'
  refine enter (args := [.slice base l.length cap, .slice base' l'.length cap']) (n := 26) Try.func68 rfl rfl rfl ?_
  by_cases c1 : l.length = l'.length
  · repeat(first|refine QV QP ?_|refine QZ ?_|refine qcT rfl ?_|refine qcF rfl ?_|refine E_blockX ?_|refine E_blockO rfl ?_|refine QV QL ?_|refine QV QlT ?_|refine QV QlF ?_|refine QV QnT ?_|refine QV QnF ?_|refine QV QaA ?_)
    refine T_loop (ι := Nat) (fun k => k ≤ l.length ∧ l.take k = l'.take k) (fun k => [(0, .slice base l.length cap), (1, .slice base' l'.length cap'), (12, .int .i64 l.length), (13, .int .i64 (k : Int))]) (fun _ => []) (fun k => l.length - k) 0 ⟨by omega, rfl⟩ ⟨rfl, rfl, rfl, rfl, trivial⟩ rfl ?_
    rintro k ⟨h1, h2⟩
    by_cases c2 : k < l.length
    · obtain ⟨b, off, rfl, hr⟩ := hrd (by omega)
      obtain ⟨b', off', rfl, hr'⟩ := hrd' (by omega)
      have c2' : k < l'.length := by omega
      have hat := at_el (L := ([] : List Own)) EvQ_len hr c2
      have hat' := at_el (L := ([] : List Own)) EvQ_len hr' c2'
      have heq := eq_evt l[k] l'[k]
      by_cases c3 : l[k] = l'[k]
      · rw [decide_eq_true c3] at heq
        repeat(first|refine QV QP ?_|refine QZ ?_|refine qcT rfl ?_|refine qcF rfl ?_|refine E_blockX ?_|refine E_blockO rfl ?_|refine QV QL ?_|refine QV QlT ?_|refine QV QlF ?_|refine QV QnT ?_|refine QV QnF ?_|refine QV QaA ?_)
        refine T_draw 8 (List.replicate 8 true) rfl (by kernel_rfl) (by kernel_rfl) (by intro c a d v w h; cases d <;> exact h) ?_
        repeat(first|refine TM_valg rfl (qp rfl) rfl rfl ?_|refine TM_valg rfl (rr_idxc Und.eq TyC.ty rfl rfl c2) rfl rfl ?_|refine TM_valg rfl (rr_idxc Und.eq TyC.ty rfl rfl c2') rfl rfl ?_|refine TM_valg rfl (rr_loadN TyC.ty rfl rfl hat) rfl rfl ?_|refine TM_valg rfl (rr_loadN TyC.ty rfl rfl hat') rfl rfl ?_|refine TM_valg rfl (qlen Und.eq rfl) rfl rfl ?_|refine TM_valg rfl (rr_lss rfl rfl (qT (by omega))) rfl rfl ?_|refine TM_valg rfl (rr_lss rfl rfl (qF (by omega))) rfl rfl ?_|refine TM_valg rfl (rr_neq rfl rfl (qT (by omega))) rfl rfl ?_|refine TM_valg rfl (rr_neq rfl rfl (qF (by omega))) rfl rfl ?_|refine TM_valg rfl (rr_add64 rfl rfl (by omega) (by omega) rfl) rfl rfl ?_|refine TM_end ?_)
        repeat(first|refine QV QP ?_|refine QZ ?_|refine qcT rfl ?_|refine qcF rfl ?_|refine E_blockX ?_|refine E_blockO rfl ?_|refine QV (rr_aggne rfl rfl (by kernel_rfl) heq rfl) ?_|refine QV QL ?_|refine QV QlT ?_|refine QV QlF ?_|refine QV QnT ?_|refine QV QnF ?_|refine QV QaA ?_)
        exact E_round (k + 1) ⟨by omega, by rw [List.take_succ_eq_append_getElem c2, List.take_succ_eq_append_getElem c2', h2, c3]⟩ (by show l.length - (k + 1) < l.length - k; omega) ⟨rfl, rfl, rfl, rfl, trivial⟩ rfl
      · rw [decide_eq_false c3] at heq
        rw [decide_eq_false (fun h => c3 (by subst h; rfl))]
        repeat(first|refine QV QP ?_|refine QZ ?_|refine qcT rfl ?_|refine qcF rfl ?_|refine E_blockX ?_|refine E_blockO rfl ?_|refine QV QL ?_|refine QV QlT ?_|refine QV QlF ?_|refine QV QnT ?_|refine QV QnF ?_|refine QV QaA ?_)
        refine T_draw 8 (List.replicate 8 true) rfl (by kernel_rfl) (by kernel_rfl) (by intro c a d v w h; cases d <;> exact h) ?_
        repeat(first|refine TM_valg rfl (qp rfl) rfl rfl ?_|refine TM_valg rfl (rr_idxc Und.eq TyC.ty rfl rfl c2) rfl rfl ?_|refine TM_valg rfl (rr_idxc Und.eq TyC.ty rfl rfl c2') rfl rfl ?_|refine TM_valg rfl (rr_loadN TyC.ty rfl rfl hat) rfl rfl ?_|refine TM_valg rfl (rr_loadN TyC.ty rfl rfl hat') rfl rfl ?_|refine TM_valg rfl (qlen Und.eq rfl) rfl rfl ?_|refine TM_valg rfl (rr_lss rfl rfl (qT (by omega))) rfl rfl ?_|refine TM_valg rfl (rr_lss rfl rfl (qF (by omega))) rfl rfl ?_|refine TM_valg rfl (rr_neq rfl rfl (qT (by omega))) rfl rfl ?_|refine TM_valg rfl (rr_neq rfl rfl (qF (by omega))) rfl rfl ?_|refine TM_valg rfl (rr_add64 rfl rfl (by omega) (by omega) rfl) rfl rfl ?_|refine TM_end ?_)
        repeat(first|refine QV QP ?_|refine QZ ?_|refine qcT rfl ?_|refine qcF rfl ?_|refine E_blockX ?_|refine E_blockO rfl ?_|refine QV (rr_aggne rfl rfl (by kernel_rfl) heq rfl) ?_|refine QV QL ?_|refine QV QlT ?_|refine QV QlF ?_|refine QV QnT ?_|refine QV QnF ?_|refine QV QaA ?_)
        exact E_ret1 rfl rfl fun w hm => hm.ret
    · have e : l = l' := by
        rw [List.take_of_length_le (by omega), List.take_of_length_le (by omega)] at h2; exact h2
      rw [decide_eq_true e]
      repeat(first|refine QV QP ?_|refine QZ ?_|refine qcT rfl ?_|refine qcF rfl ?_|refine E_blockX ?_|refine E_blockO rfl ?_|refine QV QL ?_|refine QV QlT ?_|refine QV QlF ?_|refine QV QnT ?_|refine QV QnF ?_|refine QV QaA ?_)
      exact E_ret1 rfl rfl fun w hm => hm.ret
  · rw [decide_eq_false (fun h => c1 (by rw [h]))]
    repeat(first|refine QV QP ?_|refine QZ ?_|refine qcT rfl ?_|refine qcF rfl ?_|refine E_blockX ?_|refine E_blockO rfl ?_|refine QV QL ?_|refine QV QlT ?_|refine QV QlF ?_|refine QV QnT ?_|refine QV QnF ?_|refine QV QaA ?_)
    exact E_ret1 rfl rfl fun w hm => hm.ret
end Go.Proofs.Ytlojfbnimmdehaa.eng

/- CountE -/
namespace Go.Proofs.Ytlojfbnimmdehaa.eng
open Go.RowKit kit mix gramL countL
attribute [local irreducible] Instr.build in
set_option maxHeartbeats 2000000 in
theorem trees_calls (v vw : Value) (g : Gram) (word : List Int) (w : World) (h : GraR (fun k => k < w.heap.size) w v g) (hs : Sl w vw word.length (word.map (.int .i64))) :
    Calls Try.prog 12 #[v, vw] w (Meets (ret (.tuple #[.int .i64 (treesN g word : Int), .int .i64 (checkC g word)])) w) := by
  have hck := fun w' (hg : Gr w w') => checkC_calls v vw g word w' (h.gr hg) (hs.gr hg)
  by_cases c0 : checkC g word = 0
  · have h0 := h
    obtain ⟨vp, rfl, h1, _⟩ := h
    have hfi := fun w' (hg : Gr w w') => filled_calls vp vw g word w' (h0.gr hg) (hs.gr hg) c0
    have hN := fun (c : Chart) hc => treesN_eq (c := c) c0 hc
    obtain ⟨hg, hl, hw⟩ := checkC_ok c0
    rw [c0] at hck ⊢
    obtain ⟨bw, cw, rfl, _⟩ := hs
    obtain ⟨t, n, prods⟩ := g
    dsimp only at *
    refine enter (args := [graV t n vp, .slice bw word.length cw]) (n := 23) Try.func12 rfl rfl rfl ?_
    refine T_seq (T_region (TL_box rfl rfl rfl fun g2 => ?_))
    repeat(first|refine QV QP ?_|refine QZ ?_|refine qcT rfl ?_|refine qcF rfl ?_|refine QV (rr_loadB (i := 0) TyC.ty rfl rfl rfl) ?_|refine QV QL ?_|refine QV QA ?_|refine QV (rr_nilc rfl) ?_|refine QV QnT ?_|refine QV QnF ?_)
    refine TL_call (he2 EntersC.en rfl rfl rfl) (fun w hm => hck _ hm.below) rfl rfl rfl ?_
    intro _ _
    conv=>arg 8;simp only[zA,zB,zC,zD,zE,zF,zG,zH,zI,rowS,ret,id_eq]
    repeat(first|refine QV QP ?_|refine QZ ?_|refine qcT rfl ?_|refine qcF rfl ?_|refine QV (rr_loadB (i := 0) TyC.ty rfl rfl rfl) ?_|refine QV QL ?_|refine QV QA ?_|refine QV (rr_nilc rfl) ?_|refine QV QnT ?_|refine QV QnF ?_)
    refine TL_call (he2 EntersC.en rfl rfl rfl) (fun w' hm => hfi w' hm.below) rfl rfl rfl ?_
    rintro ⟨gc, gm, c, Bd⟩ ⟨hx, _⟩
    have hN := hN c hx
    conv=>arg 8;simp only[zA,zB,zC,zD,zE,zF,zG,zH,zI,rowS,ret,id_eq, filledS]
    repeat(first|refine QV QP ?_|refine QZ ?_|refine qcT rfl ?_|refine qcF rfl ?_|refine QV (rr_load1 TyC.ty rfl (at_blk (i := 1) rfl rfl)) ?_|refine QV (rr_build rfl (build_span _ _ _)) ?_|refine QV (rr_lookT (x := (0, 0, (word.length : Int))) (i := 2) spanK Und.eq zero_int rfl rfl rfl (span_ok (m := 0) (a := 0) ⟨by decide, by decide⟩ (by omega) (by omega)) (by rw [hN])) ?_|refine QV QL ?_|refine QV QA ?_|refine QV (rr_nilc rfl) ?_|refine QV QnT ?_|refine QV QnF ?_)
    exact E_ret2 rfl rfl rfl fun w hm => hm.ret
  · have hN : treesN g word = 0 := by unfold treesN; rw [if_neg c0]
    rw [hN]
    obtain ⟨vp, rfl, h1, _⟩ := h
    obtain ⟨bw, cw, rfl, _⟩ := hs
    generalize checkC g word = e at *
    obtain ⟨t, n, prods⟩ := g
    dsimp only at *
    refine enter (args := [graV t n vp, .slice bw word.length cw]) (n := 23) Try.func12 rfl rfl rfl ?_
    refine T_seq (T_region (TL_box rfl rfl rfl fun g2 => ?_))
    repeat(first|refine QV QP ?_|refine QZ ?_|refine qcT rfl ?_|refine qcF rfl ?_|refine QV (rr_loadB (i := 0) TyC.ty rfl rfl rfl) ?_|refine QV QL ?_|refine QV QA ?_|refine QV (rr_nilc rfl) ?_|refine QV QnT ?_|refine QV QnF ?_)
    refine TL_call (he2 EntersC.en rfl rfl rfl) (fun w hm => hck _ hm.below) rfl rfl rfl ?_
    intro _ _
    repeat(first|refine QV QP ?_|refine QZ ?_|refine qcT rfl ?_|refine qcF rfl ?_|refine QV QL ?_|refine QV QA ?_|refine QV (rr_nilc rfl) ?_|refine QV QnT ?_|refine QV QnF ?_)
    exact E_ret2 rfl rfl rfl fun w hm => hm.ret
end Go.Proofs.Ytlojfbnimmdehaa.eng

/- ReadD -/
namespace Go.Proofs.Ytlojfbnimmdehaa.eng
open Go.RowKit kit mix gramL treeL
theorem build_tree0 (w : World) : (Instr.build 142 (#[] : Array (Nat × Value))).run Try.prog w = .ok (treeV 0 0 (.slice none 0 0)) w := by
  unfold treeV; go_simp
end Go.Proofs.Ytlojfbnimmdehaa.eng

