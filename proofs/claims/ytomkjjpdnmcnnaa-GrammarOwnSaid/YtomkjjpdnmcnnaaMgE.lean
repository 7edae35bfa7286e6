/- Part 5 of what GrammarOwn needs: PrI, GramS, GrU, GrS, ItS, ItQ, ItT, ItZ, SmIr, GrammarOwnW. -/
import Derived.Test.YtomkjjpdnmcnnaaMgD
import Derived.WalkKit
import Derived.WalkSpells
import Derived.WalkLawsBesides
import Derived.Deep.RegionLaw
import Derived.Deep.AppendLies
import Derived.Deep.QuietTactic
import Derived.BigQuiet
import Derived.Deep.DeepCutAuto
import Derived.Lib.Hide
import Derived.Test.YtomkjjpdnmcnnaaRows
import Derived.ProofKit
import Derived.OpenShut
import Derived.ShutString
import Derived.SizedLaws
import Derived.JoinedCond
import Derived.Deep.CondSized
import Derived.Deep.Quiet
import Derived.StillTail
import Derived.Deep.LoopGhost
import Derived.Laws.BitsLemmas
import Derived.Laws.BytesString
import Derived.Test.YtomkjjpdnmcnnaaProg
import Derived.Laws.StructEq
import Derived.Laws.MakeOwn
import Derived.Laws.AppendOwn
import Derived.Laws.Entries
import Derived.Maps.OwnSet
import Derived.DeepKeys4
import Derived.WideKeyEntry
import Derived.Sort.Grow
import Derived.Lib.Walk
import Derived.Deep.RegionWith
import Derived.Deep.RegionHeld
import Derived.StringKeys
import Derived.Laws.BitsAllLaws
import Derived.Shelf.SlGeneric
import Derived.Shelf.SlSortCmp.NoneTotal
import Derived.Ground.SlsfProg
/- PrI -/
namespace Go.Proofs.Ytomkjjpdnmcnnaa.eng
open Go.RowKit kit mix
theorem PrI_len (a : (Int × Nat × Nat)) : (pcT a).length = 2 := rfl
set_option maxHeartbeats 2000000 in
theorem indexFuncPrI_calls (v : Value) (l : List (Int × Nat × Nat)) (w : World) (hs : Sl w v l.length (l.flatMap pcT)) (fid : FuncId) (first cp : Array Value) (p : (Int × Nat × Nat) → Bool) (hen : Enters Try.prog fid)
    (hp : ∀ a ∈ l, ∀ w', Gr w w' → Calls Try.prog fid (first ++ #[(.agg (pcT a).toArray)] ++ cp) w' (Meets (ret (.bool (p a))) w')) :
    Calls Try.prog 54 #[v, .func (.func fid) first cp] w (Meets (ret (.int .i64 (idxF p l))) w) := by
  obtain ⟨base, cap, rfl, hcap, hmax, hrd⟩ := hs
  unfold maxLen at hmax
  refine enter (args := [.slice base l.length cap, .func (.func fid) first cp]) (n := 19) Try.func54 rfl rfl rfl ?_
  repeat(first|refine QV QP ?_|refine QZ ?_|refine qcT rfl ?_|refine qcF rfl ?_|refine E_blockX ?_|refine E_blockO rfl ?_|refine QV QL ?_|refine QV QlT ?_|refine QV QlF ?_|refine QV QaA ?_)
  refine T_loop (ι := Nat) (fun k => k ≤ l.length ∧ ∀ j (hj : j < l.length), j < k → p l[j] = false) (fun k => [(0, .slice base l.length cap), (1, .func (.func fid) first cp), (7, .int .i64 l.length), (8, .int .i64 (k : Int))]) (fun _ => []) (fun k => l.length - k) 0 ⟨by omega, fun j hj h => by omega⟩ (by repeat' (first | exact True.intro | refine And.intro rfl ?_)) rfl ?_
  rintro k ⟨h1, h2⟩
  by_cases c2 : k < l.length
  · obtain ⟨b, off, rfl, hr⟩ := hrd (by omega)
    have hat := at_el (L := ([] : List Own)) PrI_len hr c2
    have hcl := hp l[k] (List.getElem_mem c2)
    by_cases c3 : p l[k] = true
    · rw [idxF_some c2 c3 h2]
      rw [c3] at hcl
      clear hp h2 hrd
      repeat(first|refine QV QP ?_|refine QZ ?_|refine qcT rfl ?_|refine qcF rfl ?_|refine E_blockX ?_|refine E_blockO rfl ?_|refine QV (rr_idxc Und.eq TyC.ty rfl rfl c2) ?_|refine QV (rr_loadN TyC.ty rfl rfl hat) ?_|refine QV QL ?_|refine QV QlT ?_|refine QV QlF ?_|refine QV QaA ?_)
      refine TL_call (he1c hen rfl rfl) (fun w hm => hcl w hm.below) rfl rfl rfl ?_
      intro _ _
      repeat(first|refine QV QP ?_|refine QZ ?_|refine qcT rfl ?_|refine qcF rfl ?_|refine E_blockX ?_|refine E_blockO rfl ?_|refine QV QL ?_|refine QV QlT ?_|refine QV QlF ?_|refine QV QaA ?_)
      exact E_ret1 rfl rfl fun w hm => hm.ret
    · have c3' : p l[k] = false := by simpa using c3
      rw [c3'] at hcl
      clear hp hrd c3
      repeat(first|refine QV QP ?_|refine QZ ?_|refine qcT rfl ?_|refine qcF rfl ?_|refine E_blockX ?_|refine E_blockO rfl ?_|refine QV (rr_idxc Und.eq TyC.ty rfl rfl c2) ?_|refine QV (rr_loadN TyC.ty rfl rfl hat) ?_|refine QV QL ?_|refine QV QlT ?_|refine QV QlF ?_|refine QV QaA ?_)
      refine TL_call (he1c hen rfl rfl) (fun w hm => hcl w hm.below) rfl rfl rfl ?_
      intro _ _
      repeat(first|refine QV QP ?_|refine QZ ?_|refine qcT rfl ?_|refine qcF rfl ?_|refine E_blockX ?_|refine E_blockO rfl ?_|refine QV QL ?_|refine QV QlT ?_|refine QV QlF ?_|refine QV QaA ?_)
      exact E_round (k + 1) ⟨by omega, fun j hj h => if e : j < k then h2 j hj e else (by obtain rfl : j = k := (by omega); exact c3')⟩ (by show l.length - (k + 1) < l.length - k; omega) (by repeat' (first | exact True.intro | refine And.intro rfl ?_)) rfl
  · rw [idxF_none fun j hj => h2 j hj (by omega)]
    clear hp h2 hrd
    repeat(first|refine QV QP ?_|refine QZ ?_|refine qcT rfl ?_|refine qcF rfl ?_|refine E_blockX ?_|refine E_blockO rfl ?_|refine QV QL ?_|refine QV QlT ?_|refine QV QlF ?_|refine QV QaA ?_)
    exact E_ret1 rfl rfl fun w hm => hm.ret
theorem containsFuncPrI_calls (v : Value) (l : List (Int × Nat × Nat)) (w : World) (hs : Sl w v l.length (l.flatMap pcT)) (fid : FuncId) (first cp : Array Value) (p : (Int × Nat × Nat) → Bool) (hen : Enters Try.prog fid)
    (hp : ∀ a ∈ l, ∀ w', Gr w w' → Calls Try.prog fid (first ++ #[(.agg (pcT a).toArray)] ++ cp) w' (Meets (ret (.bool (p a))) w')) :
    Calls Try.prog 34 #[v, .func (.func fid) first cp] w (Meets (ret (.bool (l.any p))) w) := by
  refine enter (args := [v, .func (.func fid) first cp]) (n := 9) Try.func34 rfl rfl rfl ?_
  have hh := fun w' (hg : Gr w w') => indexFuncPrI_calls v l w' (hs.gr hg) fid first cp p hen fun a ha w'' hg' => hp a ha w'' (hg.trans hg')
  have hr := idxF_range p l
  rw [← idxF_any p l]
  generalize idxF p l = r at *
  repeat(first|refine QV QP ?_|refine QZ ?_|refine QV QhT ?_|refine QV QhF ?_)
  refine TL_call (he2 EntersC.en rfl rfl rfl) (fun w hm => hh _ hm.below) rfl rfl rfl ?_
  intro _ _
  repeat(first|refine QV QP ?_|refine QZ ?_|refine QV (rr_geq rfl rfl rfl) ?_|refine QV QhT ?_|refine QV QhF ?_)
  exact E_ret1 rfl rfl fun w hm => hm.ret
end Go.Proofs.Ytomkjjpdnmcnnaa.eng


/- GramS -/
namespace Go.Proofs.Ytomkjjpdnmcnnaa.eng
open Go.RowKit kit mix gramL
set_option maxHeartbeats 4000000 in
theorem sameGram_calls (v v' : Value) (g : Gram) (w : World) (h : GraR (fun k => k < w.heap.size) w v g) (h' : GraR (fun k => k < w.heap.size) w v' g) :
    Calls Try.prog 33 #[v, v'] w (Meets (ret (.bool true)) w) := by
  obtain ⟨vp, rfl, h1, _⟩ := h
  obtain ⟨bp, cp, rfl, hcp, hmp, hrp⟩ := h1
  obtain ⟨vp', rfl, h1', _⟩ := h'
  obtain ⟨bp', cp', rfl, hcp', hmp', hrp'⟩ := h1'
  unfold maxLen at hmp hmp'
  obtain ⟨t, n, prods⟩ := g
  dsimp only at *
  refine enter (args := [graV t n (.slice bp prods.length cp), graV t n (.slice bp' prods.length cp')]) (n := 63) Try.func33 rfl rfl rfl ?_
  refine T_seq (T_region (TL_box rfl rfl rfl fun g1 => TL_box rfl rfl rfl fun g2 => ?_))
  repeat(first|refine qv rfl (qp rfl) rfl rfl ?_|refine TL_nil ?_|refine T_seq ?_|refine T_region ?_|refine qcT rfl ?_|refine qcF rfl ?_|refine T_skip ?_|refine T_exit ?_|refine T_ret ?_|refine T_block ?_|refine E_then ?_|refine E_thenX ?_|refine E_thenR ?_|refine E_blockN ?_|refine E_blockR ?_|refine E_blockX ?_|refine E_blockO rfl ?_|refine qs rfl rfl rfl rfl rfl rfl ?_|((try refine qg rfl rfl rfl ?_);first|refine qv rfl (qp rfl) rfl rfl ?_|refine qv rfl (rr_load1 TyC.ty rfl (at_blk (i := 0) rfl rfl)) rfl rfl ?_|refine qv rfl (rr_load1 TyC.ty rfl (at_blk (i := 1) rfl rfl)) rfl rfl ?_|refine qv rfl (qlen Und.eq rfl) rfl rfl ?_|refine qv rfl (qfld FldC.fld rfl rfl) rfl rfl ?_|refine qv rfl (rr_lss rfl rfl (qT (by omega))) rfl rfl ?_|refine qv rfl (rr_lss rfl rfl (qF (by omega))) rfl rfl ?_|refine qv rfl (rr_neq rfl rfl (qT (by omega))) rfl rfl ?_|refine qv rfl (rr_neq rfl rfl (qF (by omega))) rfl rfl ?_|refine qv rfl (rr_add64 rfl rfl (by omega) (by omega) rfl) rfl rfl ?_|refine qv rfl (rr_not rfl rfl) rfl rfl ?_))
  refine T_loop (ι := Nat) (fun k => k ≤ prods.length) (fun k => [(2, .pointer (some ⟨g1, 0, none⟩)), (3, .pointer (some ⟨g2, 0, none⟩)), (5, .int .i64 (k : Int))])
    (fun _ => [blkO g1 (graV t n (.slice bp prods.length cp)).cells 24, blkO g2 (graV t n (.slice bp' prods.length cp')).cells 24]) (fun k => prods.length - k) 0 (Nat.zero_le _) (by repeat' (first | exact True.intro | refine And.intro rfl ?_)) rfl ?_
  intro k i1
  by_cases c6 : k < prods.length
  · obtain ⟨b, off, rfl, _, hr⟩ := hrp (by omega)
    obtain ⟨bb, cb, q1, q2, q3⟩ := prod_at hr c6
    obtain ⟨b', off', rfl, _, hr'⟩ := hrp' (by omega)
    obtain ⟨bb', cb', q1', q2', q3'⟩ := prod_at hr' c6
    have hL : ∀ (L : List Own), At w L ⟨b, off + k * 2 + 0, none⟩ (.int .i64 prods[k].1) ∧ At w L ⟨b, off + k * 2 + 1, none⟩ (.slice bb prods[k].2.length cb) := fun L => ⟨at_rd q1 rfl, at_rd q1 rfl⟩
    have hL' : ∀ (L : List Own), At w L ⟨b', off' + k * 2 + 0, none⟩ (.int .i64 prods[k].1) ∧ At w L ⟨b', off' + k * 2 + 1, none⟩ (.slice bb' prods[k].2.length cb') := fun L => ⟨at_rd q1' rfl, at_rd q1' rfl⟩
    clear hr hrp q1 hr' hrp' q1' q2 q2'
    generalize prods[k] = p at *
    obtain ⟨hd, body⟩ := p
    have heq := fun w' (hg : Gr w w') => equalSymS_calls (.slice bb body.length cb) (.slice bb' body.length cb') body body w' ((q3.flat (by decide)).gr hg) ((q3'.flat (by decide)).gr hg)
    rw [decide_eq_true rfl] at heq
    dsimp only at *
    repeat(first|refine qv rfl (qp rfl) rfl rfl ?_|refine TL_nil ?_|refine T_seq ?_|refine T_region ?_|refine qcT rfl ?_|refine qcF rfl ?_|refine T_skip ?_|refine T_exit ?_|refine T_ret ?_|refine T_block ?_|refine E_then ?_|refine E_thenX ?_|refine E_thenR ?_|refine E_blockN ?_|refine E_blockR ?_|refine E_blockX ?_|refine E_blockO rfl ?_|refine qs rfl rfl rfl rfl rfl rfl ?_|((try refine qg rfl rfl rfl ?_);first|refine qv rfl (qp rfl) rfl rfl ?_|refine qv rfl (rr_load1 TyC.ty rfl (at_blk (i := 0) rfl rfl)) rfl rfl ?_|refine qv rfl (qlen Und.eq rfl) rfl rfl ?_|refine qv rfl (qfld FldC.fld rfl rfl) rfl rfl ?_|refine qv rfl (rr_lss rfl rfl (qT (by omega))) rfl rfl ?_|refine qv rfl (rr_lss rfl rfl (qF (by omega))) rfl rfl ?_|refine qv rfl (rr_neq rfl rfl (qT (by omega))) rfl rfl ?_|refine qv rfl (rr_neq rfl rfl (qF (by omega))) rfl rfl ?_|refine qv rfl (rr_add64 rfl rfl (by omega) (by omega) rfl) rfl rfl ?_|refine qv rfl (rr_not rfl rfl) rfl rfl ?_))
    (repeat refine T_seq ?_)
    refine T_ord ([blkO g1 (graV t n (.slice (some ⟨b, off, none⟩) prods.length cp)).cells 24, blkO g2 (graV t n (.slice (some ⟨b', off', none⟩) prods.length cp')).cells 24]) (.calm 0 (.calm 1 (.calm 2 (.calm 3 (.calm 4 (.calm 5 (.calm 6 (.calm 7 (.calm 8 (.calm 9 (.calm 10 (.calm 11 (.calm 12 (.calm 13 (.calm 14 (.calm 15 (.calm 16 (.calm 17 (.calm 18 (.calm 19 (.calm 20 (.calm 21 (.calm 22 (.calm 23 (.calm 24 (.calm 25 (.calm 26 (.calm 27 (.calm 28 (.done)))))))))))))))))))))))))))))) (fun _ h => h) (by kernel_rfl) (by kernel_rfl) (by intro c a d v w h; cases d <;> exact h) ?_
    repeat(first|((first|refine TW_plain rfl rfl ?_|refine TW_gmet rfl rfl rfl rfl ?_);first|refine TN_val (qp rfl) rfl rfl ?_|refine TN_val (rr_load1 TyC.ty rfl (at_blk (i := 0) rfl rfl)) rfl rfl ?_|refine TN_val (rr_load1 TyC.ty rfl (at_blk (i := 1) rfl rfl)) rfl rfl ?_|refine TN_val (rr_idxc Und.eq TyC.ty rfl rfl c6) rfl rfl ?_|refine TN_val (rr_load1 TyC.ty rfl (hL _).1) rfl rfl ?_|refine TN_val (rr_load1 TyC.ty rfl (hL' _).1) rfl rfl ?_|refine TN_val (rr_load1 TyC.ty rfl (hL _).2) rfl rfl ?_|refine TN_val (rr_load1 TyC.ty rfl (hL' _).2) rfl rfl ?_|refine TN_val (qlen Und.eq rfl) rfl rfl ?_|refine TN_val (qfld FldC.fld rfl rfl) rfl rfl ?_|refine TN_val (rr_lss rfl rfl (qT (by omega))) rfl rfl ?_|refine TN_val (rr_lss rfl rfl (qF (by omega))) rfl rfl ?_|refine TN_val (rr_neq rfl rfl (qT (by omega))) rfl rfl ?_|refine TN_val (rr_neq rfl rfl (qF (by omega))) rfl rfl ?_|refine TN_val (rr_add64 rfl rfl (by omega) (by omega) rfl) rfl rfl ?_|refine TN_val (rr_not rfl rfl) rfl rfl ?_)|refine TW_skip rfl rfl rfl rfl rfl rfl rfl ?_|refine TW_done ?_)
    refine TW_gcall rfl (he2 EntersC.en rfl rfl rfl) (fun w hm => heq _ hm.below) rfl rfl rfl rfl rfl ?_
    repeat(first|((first|refine TW_plain rfl rfl ?_|refine TW_gmet rfl rfl rfl rfl ?_);first|refine TN_val (qp rfl) rfl rfl ?_|refine TN_val (qlen Und.eq rfl) rfl rfl ?_|refine TN_val (qfld FldC.fld rfl rfl) rfl rfl ?_|refine TN_val (rr_lss rfl rfl (qT (by omega))) rfl rfl ?_|refine TN_val (rr_lss rfl rfl (qF (by omega))) rfl rfl ?_|refine TN_val (rr_neq rfl rfl (qT (by omega))) rfl rfl ?_|refine TN_val (rr_neq rfl rfl (qF (by omega))) rfl rfl ?_|refine TN_val (rr_add64 rfl rfl (by omega) (by omega) rfl) rfl rfl ?_|refine TN_val (rr_not rfl rfl) rfl rfl ?_)|refine TW_skip rfl rfl rfl rfl rfl rfl rfl ?_|refine TW_done ?_)
    repeat(first|refine qv rfl (qp rfl) rfl rfl ?_|refine TL_nil ?_|refine T_seq ?_|refine T_region ?_|refine qcT rfl ?_|refine qcF rfl ?_|refine T_skip ?_|refine T_exit ?_|refine T_ret ?_|refine T_block ?_|refine E_then ?_|refine E_thenX ?_|refine E_thenR ?_|refine E_blockN ?_|refine E_blockR ?_|refine E_blockX ?_|refine E_blockO rfl ?_|refine qs rfl rfl rfl rfl rfl rfl ?_|((try refine qg rfl rfl rfl ?_);first|refine qv rfl (qp rfl) rfl rfl ?_|refine qv rfl (qlen Und.eq rfl) rfl rfl ?_|refine qv rfl (qfld FldC.fld rfl rfl) rfl rfl ?_|refine qv rfl (rr_lss rfl rfl (qT (by omega))) rfl rfl ?_|refine qv rfl (rr_lss rfl rfl (qF (by omega))) rfl rfl ?_|refine qv rfl (rr_neq rfl rfl (qT (by omega))) rfl rfl ?_|refine qv rfl (rr_neq rfl rfl (qF (by omega))) rfl rfl ?_|refine qv rfl (rr_add64 rfl rfl (by omega) (by omega) rfl) rfl rfl ?_|refine qv rfl (rr_not rfl rfl) rfl rfl ?_))
    exact E_round (k + 1) (by omega) (by show prods.length - (k + 1) < prods.length - k; omega) (by repeat' (first | exact True.intro | refine And.intro rfl ?_)) rfl
  · repeat(first|refine qv rfl (qp rfl) rfl rfl ?_|refine TL_nil ?_|refine T_seq ?_|refine T_region ?_|refine qcT rfl ?_|refine qcF rfl ?_|refine T_skip ?_|refine T_exit ?_|refine T_ret ?_|refine T_block ?_|refine E_then ?_|refine E_thenX ?_|refine E_thenR ?_|refine E_blockN ?_|refine E_blockR ?_|refine E_blockX ?_|refine E_blockO rfl ?_|refine qs rfl rfl rfl rfl rfl rfl ?_|((try refine qg rfl rfl rfl ?_);first|refine qv rfl (qp rfl) rfl rfl ?_|refine qv rfl (rr_load1 TyC.ty rfl (at_blk (i := 0) rfl rfl)) rfl rfl ?_|refine qv rfl (qlen Und.eq rfl) rfl rfl ?_|refine qv rfl (qfld FldC.fld rfl rfl) rfl rfl ?_|refine qv rfl (rr_lss rfl rfl (qT (by omega))) rfl rfl ?_|refine qv rfl (rr_lss rfl rfl (qF (by omega))) rfl rfl ?_|refine qv rfl (rr_neq rfl rfl (qT (by omega))) rfl rfl ?_|refine qv rfl (rr_neq rfl rfl (qF (by omega))) rfl rfl ?_|refine qv rfl (rr_add64 rfl rfl (by omega) (by omega) rfl) rfl rfl ?_|refine qv rfl (rr_not rfl rfl) rfl rfl ?_))
    exact E_ret1 rfl rfl fun w hm => hm.ret
end Go.Proofs.Ytomkjjpdnmcnnaa.eng

/- GrU -/
namespace Go.Proofs.Ytomkjjpdnmcnnaa.eng
open Go.RowKit kit mix gramL treeL
theorem room_body {l : List gramL.Prod} {gb : Nat → Nat} {w : World} (h : (famP (fun i => i < l.length) (roomF l gb)).holds w) {i : Nat} (hi : i < l.length) : w.heap[gb i]? = some (.cells (rmC (prodAt l (i : Int)).2) 60 (0, 0)) := h.1 i hi
theorem room_read {l : List gramL.Prod} {gb : Nat → Nat} {w : World} (h : (famP (fun i => i < l.length) (roomF l gb)).holds w) {i : Nat} (hi : i < l.length) (j : Nat) (u : Value) (hj : ((prodAt l (i : Int)).2.flatMap symC ++ (symC (7, 0) ++ symC (7, 0)))[j]? = some u) : w.cell? ⟨gb i, j, none⟩ = some u := by
  rw [cell_of_row w (gb i) j _ _ _ (room_body h hi)]
  unfold rmC
  rw [List.getElem?_toArray, List.getElem?_append_left (List.getElem?_eq_some_iff.1 hj).1]
  exact hj
theorem room_gra {F0 : Nat → Prop} {w0 w : World} {v vp : Value} {g : Gram} {gb : Nat → Nat} (hG : GraR F0 w0 v g) (hb8 : ∀ p ∈ g.prods, p.2.length ≤ 8796093021952) (hR : (rowO 57 2 vp g.prods.length ((List.range g.prods.length).flatMap (pcR g.prods gb))).holds w) (hF : (famP (fun i => i < g.prods.length) (roomF g.prods gb)).holds w) : GraR (fun k => k < w.heap.size) w (graV g.terms g.nons vp) g := by
  obtain ⟨vp0, -, hp, o1, o2⟩ := hG
  obtain ⟨bp, cp, -, -, -, hrp⟩ := hp
  rw [pcL_flat] at hR
  have hs := Sl.of_own hR
  have hlt := fun k hk => (rowO 57 2 vp g.prods.length ((pcL g.prods gb).flatMap pcT)).lt w hR k hk
  obtain ⟨base, cap, rfl, h1, h2, h3⟩ := hs
  refine ⟨_, rfl, ⟨base, cap, rfl, h1, h2, fun h0 => ?_⟩, o1, o2⟩
  obtain ⟨b, off, rfl, hr⟩ := h3 h0
  refine ⟨b, off, rfl, hlt b (.inl rfl), fun i hi => ?_⟩
  obtain ⟨b0, off0, -, -, hr0⟩ := hrp h0
  obtain ⟨base0, cap0, -, q2, q3⟩ := prod_at hr0 hi
  have hpe : prodAt g.prods (i : Int) = g.prods[i] := by unfold prodAt; rw [Int.toNat_natCast, List.getD_eq_getElem?_getD, List.getElem?_eq_getElem hi]; rfl
  have hbd := room_read hF hi
  have hfoot := (roomF g.prods gb i).lt w (hF.1 i hi) (gb i) (.inl rfl)
  rw [hpe] at hbd
  have hb := hb8 _ (List.getElem_mem hi)
  refine ⟨[.int .i64 g.prods[i].1, .slice (some ⟨gb i, 0, none⟩) g.prods[i].2.length (g.prods[i].2.length + 3)], ⟨[.int .i64 g.prods[i].1], [.slice (some ⟨gb i, 0, none⟩) g.prods[i].2.length (g.prods[i].2.length + 3)], rfl, ⟨rfl, q2⟩, _, rfl, ?_⟩, ?_⟩
  · refine SlF.of_flat ⟨_, _, rfl, by omega, by unfold maxLen; omega, fun _ => ⟨gb i, 0, rfl, fun j u hj => ?_⟩⟩ q3.okp (fun k hk => ?_) (fun a n cp hv => ?_)
    · rw [Nat.zero_add]
      exact hbd j u (by rw [List.getElem?_append_left (List.getElem?_eq_some_iff.1 hj).1]; exact hj)
    · simp only [Value.ownBlock, Option.some.injEq] at hk
      subst hk; exact hfoot
    · cases hv; exact hfoot
  · intro j u hj
    have hjc : j < 2 := (List.getElem?_eq_some_iff.1 hj).1
    have hil : i < (pcL g.prods gb).length := by rw [pcL_len]; exact hi
    have hget? : (pcL g.prods gb)[i]? = some (pcN g.prods gb i) := by unfold pcL; rw [List.getElem?_map, List.getElem?_range hi]; rfl
    have hget : (pcL g.prods gb)[i] = pcN g.prods gb i := (List.getElem?_eq_some_iff.1 hget?).2
    have := hr (i * 2 + j) u (by
      rw [get_el (f := pcT) (c := 2) (fun _ => rfl) _ i j hil hjc, hget]
      unfold pcN pcT
      rw [hpe]
      exact hj)
    show w.cell? ⟨b, off + i * 2 + j, none⟩ = some u
    rw [Nat.add_assoc]
    exact this
end Go.Proofs.Ytomkjjpdnmcnnaa.eng


/- GrS -/
namespace Go.Proofs.Ytomkjjpdnmcnnaa.eng
open Go.RowKit kit mix gramL treeL
attribute [local irreducible] Instr.build in
theorem stays1_calls (h : Int) (gB : Nat) (bd : List Sym) (w : World) (hb : bd.length ≤ 8796093021952) (hbd : ∀ (j : Nat) (u : Value), (bd.flatMap symC ++ (symC (7, 0) ++ symC (7, 0)))[j]? = some u → w.cell? ⟨gB, j, none⟩ = some u) :
    Calls Try.prog 35 #[.agg #[.int .i64 h, .slice (some ⟨gB, 0, none⟩) bd.length (bd.length + 3)]] w (Meets (ret (.bool false)) w) := by
  have hfl := fun w' (hg : Gr w w') => filledSymZ_calls gB (bd.length + 3) bd (7, 0) w' (by omega) (by omega) fun j u hj => by
    have h1 := hbd j u hj
    rw [hg.cell (World.block_lt_of_cell? w _ h1)]; exact h1
  refine enter (args := [.agg #[.int .i64 h, .slice (some ⟨gB, 0, none⟩) bd.length (bd.length + 3)]]) (n := 8) Try.func35 rfl rfl rfl ?_
  refine T_seq (T_region (TL_box rfl rfl rfl fun g1 => ?_))
  conv=>arg 8;simp only[zA,zB,zC,zD,zE,zF,zG,zH,zI,rowS,ret,id_eq]
  repeat(first|refine QV QP ?_|refine QZ ?_|refine QV (rr_load1 (v := .slice (some ⟨gB, 0, none⟩) bd.length (bd.length + 3)) TyC.ty rfl (at_blk (i := 0) rfl rfl)) ?_|refine QV (rr_build rfl build_sym7) ?_|refine QV QA ?_|refine QV (rr_not rfl rfl) ?_)
  refine TL_call (he2 EntersC.en rfl rfl rfl) (fun w hm => hfl w hm.below) rfl rfl rfl ?_
  intro _ _
  conv=>arg 8;simp only[zA,zB,zC,zD,zE,zF,zG,zH,zI,rowS,ret,id_eq]
  repeat(first|refine QV QP ?_|refine QZ ?_|refine QV QA ?_|refine QV (rr_not rfl rfl) ?_)
  exact E_ret1 rfl rfl fun w hm => hm.ret
theorem stays_calls (v vp : Value) (g : Gram) (gb : Nat → Nat) (w : World) (hG : GraR (fun k => k < w.heap.size) w v g) (hb8 : ∀ p ∈ g.prods, p.2.length ≤ 8796093021952) (hR : (rowO 57 2 vp g.prods.length ((List.range g.prods.length).flatMap (pcR g.prods gb))).holds w) (hF : (famP (fun i => i < g.prods.length) (roomF g.prods gb)).holds w) :
    Calls Try.prog 12 #[graV g.terms g.nons vp, v] w (Meets (ret (.bool true)) w) := by
  have hsm := fun w' (hg : Gr w w') => sameGram_calls (graV g.terms g.nons vp) v g w' ((room_gra hG hb8 hR hF).gr hg) (hG.gr hg)
  have hco := fun w' (hg : Gr w w') => containsFuncPrI_calls vp (pcL g.prods gb) w' (by
    have := (Sl.of_own hR).gr hg
    rw [pcL_flat] at this
    rw [pcL_len]; exact this) 35 #[] #[] (fun _ => false) EntersC.en (fun a ha w'' hg' => by
    unfold pcL at ha
    obtain ⟨i, hi, rfl⟩ := List.mem_map.1 ha
    have hi := List.mem_range.1 hi
    have hpe : prodAt g.prods (i : Int) = g.prods[i] := by unfold prodAt; rw [Int.toNat_natCast, List.getD_eq_getElem?_getD, List.getElem?_eq_getElem hi]; rfl
    exact stays1_calls (prodAt g.prods (i : Int)).1 (gb i) (prodAt g.prods (i : Int)).2 w'' (by rw [hpe]; exact hb8 _ (List.getElem_mem hi)) fun j u hj => by
      have h1 := room_read hF hi j u hj
      rw [(hg.trans hg').cell (World.block_lt_of_cell? w _ h1)]; exact h1)
  have hany : (pcL g.prods gb).any (fun _ => false) = false := by rw [List.any_eq_false]; intro _ _ h; cases h
  rw [hany] at hco
  obtain ⟨vp0, rfl, -⟩ := hG
  refine enter (args := [graV g.terms g.nons vp, graV g.terms g.nons vp0]) (n := 14) Try.func12 rfl rfl rfl ?_
  refine T_seq (T_region (TL_box rfl rfl rfl fun g2 => ?_))
  conv=>arg 8;simp only[zA,zB,zC,zD,zE,zF,zG,zH,zI,rowS,ret,id_eq]
  refine TL_box rfl rfl rfl fun g3 => ?_
  conv=>arg 8;simp only[zA,zB,zC,zD,zE,zF,zG,zH,zI,rowS,ret,id_eq]
  repeat(first|refine QV QP ?_|refine QZ ?_|refine qs rfl rfl rfl rfl rfl rfl ?_|((try refine qg rfl rfl rfl ?_);first|refine QV QP ?_|refine QV (rr_loadB (i := 0) TyC.ty rfl rfl rfl) ?_|refine QV (rr_loadB (i := 1) TyC.ty rfl rfl rfl) ?_|refine QV QA ?_|refine QV (rr_not rfl rfl) ?_))
  refine TL_call (he2 EntersC.en rfl rfl rfl) (fun w hm => hsm w hm.below) rfl rfl rfl ?_
  intro _ _
  conv=>arg 8;simp only[zA,zB,zC,zD,zE,zF,zG,zH,zI,rowS,ret,id_eq]
  repeat(first|refine QV QP ?_|refine QZ ?_|refine qs rfl rfl rfl rfl rfl rfl ?_|((try refine qg rfl rfl rfl ?_);first|refine QV QP ?_|refine QV (rr_load1 (v := vp) TyC.ty rfl (at_blk (i := 0) rfl rfl)) ?_|refine QV QA ?_|refine QV (rr_not rfl rfl) ?_))
  refine TL_gcall (he2 EntersC.en rfl rfl rfl) (fun w hm => hco w hm.below) rfl rfl rfl rfl rfl ?_
  intro _ _
  conv=>arg 8;simp only[zA,zB,zC,zD,zE,zF,zG,zH,zI,rowS,ret,id_eq]
  repeat(first|refine QV QP ?_|refine QZ ?_|refine qs rfl rfl rfl rfl rfl rfl ?_|((try refine qg rfl rfl rfl ?_);first|refine QV QP ?_|refine QV QA ?_|refine QV (rr_not rfl rfl) ?_))
  exact E_ret1 rfl rfl fun w hm => hm.ret
end Go.Proofs.Ytomkjjpdnmcnnaa.eng


/- ItS -/
namespace Go.Proofs.Ytomkjjpdnmcnnaa.eng
open Go.RowKit kit mix gramL treeL factsL itemL smallL
theorem checkI_ok {g : Gram} {l : List itemL.Item} (h : checkI g l = 0) : checkG g = 0 ∧ l.length ≤ 4000 ∧ ∀ x ∈ l, RightI g.prods g.terms.toNat x := by
  unfold checkI at h
  by_cases c0 : checkG g = 0
  · rw [if_neg (by rw [c0]; simp)] at h
    by_cases c1 : 4000 < l.length
    · rw [if_pos c1] at h; cases h
    · rw [if_neg c1] at h
      refine ⟨c0, by omega, fun x hx => ?_⟩
      have := of_decide_eq_true (itemsE_ok h x hx)
      have ht := (checkG_ok c0).1
      unfold RightI
      omega
  · rw [if_pos c0] at h; exact absurd h c0
def closedA (g : Gram) (l : List itemL.Item) : List itemL.Item := if checkI g l = 0 then closedI g.prods g.terms.toNat (lkG g) l else []
def itemsS (e : Int) (r : List itemL.Item) : Spec Value := ⟨fun _ => True, fun v => .tuple #[v, .int .i64 e], fun v => [rowO 43 3 v r.length (r.flatMap itC)]⟩
theorem flat_ne {α : Type} {f : α → List Value} {c : Nat} (hc : ∀ a, (f a).length = c) (hc0 : 0 < c) {l : List α} (h : 0 < l.length) : l.flatMap f ≠ [] := by
  intro e
  have := len_el hc l
  rw [e] at this
  have h2 : 0 < l.length * c := Nat.mul_pos h hc0
  rw [← this] at h2
  exact absurd h2 (by simp)
set_option maxHeartbeats 4000000 in
theorem itemsClosed_calls (v : Value) (g : Gram) (vl : Value) (l : List itemL.Item) (w : World) (hG : GraR (fun k => k < w.heap.size) w v g) (hl : Sl w vl l.length (l.flatMap itC)) :
    Calls Try.prog 10 #[v, vl] w (Meets (itemsS (checkI g l) (closedA g l)) w) := by
  have hG0 := hG
  have hck := fun w' (hg : Gr w w') => itCheck_calls v g vl l w' (hG.gr hg) (hl.gr hg)
  obtain ⟨vp, rfl, hp, ht, hn⟩ := hG
  obtain ⟨vb, bp, cp, rfl, -, -, hvb, hrp⟩ := prods_vb hp
  have hbg := begunI_calls g.terms g.nons (.slice bp g.prods.length cp)
  have hA : closedA g l = if checkI g l = 0 then closedI g.prods g.terms.toNat (lkG g) l else [] := rfl
  refine enter (args := [graV g.terms g.nons (.slice bp g.prods.length cp), vl]) (n := 17) Try.func10 rfl rfl rfl ?_
  refine T_seq (T_region (TL_box rfl rfl rfl fun g2 => ?_))
  conv=>arg 8;simp only[zA,zB,zC,zD,zE,zF,zG,zH,zI,rowS,ret,id_eq]
  repeat(first|refine QV QP ?_|refine QZ ?_|refine qcT rfl ?_|refine qcF rfl ?_|refine QV (rr_loadB (i := 0) TyC.ty rfl rfl rfl) ?_|refine QV QnT ?_|refine QV QnF ?_)
  refine TL_call (he2 EntersC.en rfl rfl rfl) (fun w hm => hck w hm.below) rfl rfl rfl ?_
  intro _ _
  conv=>arg 8;simp only[zA,zB,zC,zD,zE,zF,zG,zH,zI,rowS,ret,id_eq]
  by_cases c0 : checkI g l = 0
  · rw [if_pos c0] at hA
    obtain ⟨hg, hll, hr⟩ := checkI_ok c0
    have hT := (checkG_ok hg).1
    have hT2 := (checkG_ok hg).2.1
    have hcl := fun go gm w' B' ho' hs' hm' => itClosed_calls g hg bp cp vb w hG0 hvb (fun h => let ⟨b, off, h1, _, h3⟩ := hrp h; ⟨b, off, h1, fun i hi => (h3 i hi).1⟩) go gm 0 (fun _ => none) g.terms.toNat (by omega) (by omega) l vl hr (by omega) (fun x v h => by cases h) (by omega) w' B' ho' hs' hm'
    rw [hA, c0]
    repeat(first|refine QV QP ?_|refine QZ ?_|refine qcT rfl ?_|refine qcF rfl ?_|refine QV (rr_loadB (i := 0) TyC.ty rfl rfl rfl) ?_|refine QV QnT ?_|refine QV QnF ?_)
    refine TL_call (he1 EntersC.en rfl rfl) (fun w hm => hbg w) rfl rfl rfl ?_
    rintro ⟨go, gm⟩ _
    conv=>arg 8;simp only[zA,zB,zC,zD,zE,zF,zG,zH,zI,rowS,ret,id_eq, begS]
    conv => arg 7; simp only [begS]
    repeat(first|refine QV QP ?_|refine QZ ?_|refine qcT rfl ?_|refine qcF rfl ?_|refine QV QnT ?_|refine QV QnF ?_)
    refine TL_callB [2, 1] [0] (by decide) rfl rfl (he2 EntersC.en rfl rfl rfl) (fun w' hm hb => hcl go gm w' _ ((Old.self w).on hm fun o h => pickMem h) (SlB.old ((Old.self w).on hm fun o h => pickMem h) hl (fun hn => flat_ne itC_len (by decide) hn)) hb) rfl rfl rfl ?_
    rintro ⟨f2, c2, v2⟩ _
    conv=>arg 8;simp only[zA,zB,zC,zD,zE,zF,zG,zH,zI,rowS,ret,id_eq, itClS, opL]
    conv => arg 7; simp only [itClS]
    repeat(first|refine QV QP ?_|refine QZ ?_|refine qcT rfl ?_|refine qcF rfl ?_|refine QV QnT ?_|refine QV QnF ?_)
    exact E_ret2 rfl rfl rfl fun w hm => hm.meets (S := itemsS 0 (closedI g.prods g.terms.toNat (lkG g) l)) v2 trivial [3] (by decide) rfl
  · rw [if_neg c0] at hA
    rw [hA]
    have hpos := checkI g l
    repeat(first|refine QV QP ?_|refine QZ ?_|refine qcT rfl ?_|refine qcF rfl ?_|refine QV (rr_neq (b := true) rfl rfl (decide_eq_true c0)) ?_|refine QV QnT ?_|refine QV QnF ?_)
    refine E_nilrow 43 3 ?_
    exact E_ret2 rfl rfl rfl fun w hm => hm.meets (S := itemsS (checkI g l) []) (.slice none 0 0) trivial [1] (by decide) rfl
end Go.Proofs.Ytomkjjpdnmcnnaa.eng


/- ItQ -/
namespace Go.Proofs.Ytomkjjpdnmcnnaa.eng
open Go.RowKit kit mix
theorem eq_item (f f' : itemL.Item) (w : World) : (Op.equalIn 10000 43 (.agg (itC f).toArray) (.agg (itC f').toArray)).run Try.prog w = .ok (decide (f = f')) w := by
  obtain ⟨k, q, r⟩ := f
  obtain ⟨k', q', r'⟩ := f'
  unfold itC
  go_simp
  by_cases e1 : k = k' <;> by_cases e2 : q = q' <;> by_cases e3 : r = r' <;> simp [e1, e2, e3]
theorem one_its (l : List itemL.Item) : ∀ u ∈ l.flatMap itC, u.oneCell' = true := by
  intro u hu
  obtain ⟨f, _, h⟩ := List.mem_flatMap.1 hu
  simp only [itC, List.mem_cons, List.not_mem_nil, or_false] at h
  rcases h with rfl | rfl | rfl <;> rfl
end Go.Proofs.Ytomkjjpdnmcnnaa.eng


/- ItT -/
namespace Go.Proofs.Ytomkjjpdnmcnnaa.eng
open Go.RowKit kit mix
theorem ItT_len (a : itemL.Item) : (itC a).length = 3 := rfl
set_option maxHeartbeats 2000000 in
theorem equalItT_calls (v v' : Value) (l l' : List itemL.Item) (w : World) (hs : Sl w v l.length (l.flatMap itC)) (hs' : Sl w v' l'.length (l'.flatMap itC)) :
    Calls Try.prog 13 #[v, v'] w (Meets (ret (.bool (decide (l = l')))) w) := by
  obtain ⟨base, cap, rfl, hcap, hmax, hrd⟩ := hs
  obtain ⟨base', cap', rfl, hcap', hmax', hrd'⟩ := hs'
  unfold maxLen at hmax hmax'
  refine enter (args := [.slice base l.length cap, .slice base' l'.length cap']) (n := 26) Try.func13 rfl rfl rfl ?_
  by_cases c1 : l.length = l'.length
  · repeat(first|refine QV QP ?_|refine QZ ?_|refine qcT rfl ?_|refine qcF rfl ?_|refine E_blockX ?_|refine E_blockO rfl ?_|refine QV QL ?_|refine QV QlT ?_|refine QV QlF ?_|refine QV QnT ?_|refine QV QnF ?_|refine QV QaA ?_)
    refine T_loop (ι := Nat) (fun k => k ≤ l.length ∧ l.take k = l'.take k) (fun k => [(0, .slice base l.length cap), (1, .slice base' l'.length cap'), (12, .int .i64 l.length), (13, .int .i64 (k : Int))]) (fun _ => []) (fun k => l.length - k) 0 ⟨by omega, rfl⟩ ⟨rfl, rfl, rfl, rfl, trivial⟩ rfl ?_
    rintro k ⟨h1, h2⟩
    by_cases c2 : k < l.length
    · obtain ⟨b, off, rfl, hr⟩ := hrd (by omega)
      obtain ⟨b', off', rfl, hr'⟩ := hrd' (by omega)
      have c2' : k < l'.length := by omega
      have hat := at_el (L := ([] : List Own)) ItT_len hr c2
      have hat' := at_el (L := ([] : List Own)) ItT_len hr' c2'
      have heq := eq_item l[k] l'[k]
      by_cases c3 : l[k] = l'[k]
      · rw [decide_eq_true c3] at heq
        repeat(first|refine QV QP ?_|refine QZ ?_|refine qcT rfl ?_|refine qcF rfl ?_|refine E_blockX ?_|refine E_blockO rfl ?_|refine QV QL ?_|refine QV QlT ?_|refine QV QlF ?_|refine QV QnT ?_|refine QV QnF ?_|refine QV QaA ?_)
        refine T_draw 8 (List.replicate 8 true) rfl (by kernel_rfl) (by kernel_rfl) (by intro c a d v w h; cases d <;> exact h) ?_
        repeat(first|refine TM_valg rfl (qp rfl) rfl rfl ?_|refine TM_valg rfl (rr_idxc Und.eq TyC.ty rfl rfl c2) rfl rfl ?_|refine TM_valg rfl (rr_idxc Und.eq TyC.ty rfl rfl c2') rfl rfl ?_|refine TM_valg rfl (rr_loadN TyC.ty rfl rfl hat) rfl rfl ?_|refine TM_valg rfl (rr_loadN TyC.ty rfl rfl hat') rfl rfl ?_|refine TM_valg rfl (qlen Und.eq rfl) rfl rfl ?_|refine TM_valg rfl (rr_lss rfl rfl (qT (by omega))) rfl rfl ?_|refine TM_valg rfl (rr_lss rfl rfl (qF (by omega))) rfl rfl ?_|refine TM_valg rfl (rr_neq rfl rfl (qT (by omega))) rfl rfl ?_|refine TM_valg rfl (rr_neq rfl rfl (qF (by omega))) rfl rfl ?_|refine TM_valg rfl (rr_add64 rfl rfl (by omega) (by omega) rfl) rfl rfl ?_|refine TM_end ?_)
        repeat(first|refine QV QP ?_|refine QZ ?_|refine qcT rfl ?_|refine qcF rfl ?_|refine E_blockX ?_|refine E_blockO rfl ?_|refine QV (rr_aggne rfl rfl (by kernel_rfl) heq rfl) ?_|refine QV QL ?_|refine QV QlT ?_|refine QV QlF ?_|refine QV QnT ?_|refine QV QnF ?_|refine QV QaA ?_)
        exact E_round (k + 1) ⟨by omega, by rw [List.take_succ_eq_append_getElem c2, List.take_succ_eq_append_getElem c2', h2, c3]⟩ (by show l.length - (k + 1) < l.length - k; omega) ⟨rfl, rfl, rfl, rfl, trivial⟩ rfl
      · rw [decide_eq_false c3] at heq
        rw [decide_eq_false (fun h => c3 (by subst h; rfl))]
        repeat(first|refine QV QP ?_|refine QZ ?_|refine qcT rfl ?_|refine qcF rfl ?_|refine E_blockX ?_|refine E_blockO rfl ?_|refine QV QL ?_|refine QV QlT ?_|refine QV QlF ?_|refine QV QnT ?_|refine QV QnF ?_|refine QV QaA ?_)
        refine T_draw 8 (List.replicate 8 true) rfl (by kernel_rfl) (by kernel_rfl) (by intro c a d v w h; cases d <;> exact h) ?_
        repeat(first|refine TM_valg rfl (qp rfl) rfl rfl ?_|refine TM_valg rfl (rr_idxc Und.eq TyC.ty rfl rfl c2) rfl rfl ?_|refine TM_valg rfl (rr_idxc Und.eq TyC.ty rfl rfl c2') rfl rfl ?_|refine TM_valg rfl (rr_loadN TyC.ty rfl rfl hat) rfl rfl ?_|refine TM_valg rfl (rr_loadN TyC.ty rfl rfl hat') rfl rfl ?_|refine TM_valg rfl (qlen Und.eq rfl) rfl rfl ?_|refine TM_valg rfl (rr_lss rfl rfl (qT (by omega))) rfl rfl ?_|refine TM_valg rfl (rr_lss rfl rfl (qF (by omega))) rfl rfl ?_|refine TM_valg rfl (rr_neq rfl rfl (qT (by omega))) rfl rfl ?_|refine TM_valg rfl (rr_neq rfl rfl (qF (by omega))) rfl rfl ?_|refine TM_valg rfl (rr_add64 rfl rfl (by omega) (by omega) rfl) rfl rfl ?_|refine TM_end ?_)
        repeat(first|refine QV QP ?_|refine QZ ?_|refine qcT rfl ?_|refine qcF rfl ?_|refine E_blockX ?_|refine E_blockO rfl ?_|refine QV (rr_aggne rfl rfl (by kernel_rfl) heq rfl) ?_|refine QV QL ?_|refine QV QlT ?_|refine QV QlF ?_|refine QV QnT ?_|refine QV QnF ?_|refine QV QaA ?_)
        exact E_ret1 rfl rfl fun w hm => hm.ret
    · have e : l = l' := by
        rw [List.take_of_length_le (by omega), List.take_of_length_le (by omega)] at h2; exact h2
      rw [decide_eq_true e]
      repeat(first|refine QV QP ?_|refine QZ ?_|refine qcT rfl ?_|refine qcF rfl ?_|refine E_blockX ?_|refine E_blockO rfl ?_|refine QV QL ?_|refine QV QlT ?_|refine QV QlF ?_|refine QV QnT ?_|refine QV QnF ?_|refine QV QaA ?_)
      exact E_ret1 rfl rfl fun w hm => hm.ret
  · rw [decide_eq_false (fun h => c1 (by rw [h]))]
    repeat(first|refine QV QP ?_|refine QZ ?_|refine qcT rfl ?_|refine qcF rfl ?_|refine E_blockX ?_|refine E_blockO rfl ?_|refine QV QL ?_|refine QV QlT ?_|refine QV QlF ?_|refine QV QnT ?_|refine QV QnF ?_|refine QV QaA ?_)
    exact E_ret1 rfl rfl fun w hm => hm.ret
end Go.Proofs.Ytomkjjpdnmcnnaa.eng


/- ItZ -/
namespace Go.Proofs.Ytomkjjpdnmcnnaa.eng
open Go.RowKit kit mix
theorem ItZ_len (a : itemL.Item) : (itC a).length = 3 := rfl
theorem roomAItZ (l : List itemL.Item) : ((madeCells #[Value.int .i64 0, Value.int .i64 0, Value.int .i64 0] ((l.length + 3) * 3)).toList.take (0 * 3) ++ l.flatMap itC ++ (madeCells #[Value.int .i64 0, Value.int .i64 0, Value.int .i64 0] ((l.length + 3) * 3)).toList.drop (0 * 3 + (l.flatMap itC).length)).toArray = (l.flatMap itC ++ (List.replicate 3 [Value.int .i64 0, Value.int .i64 0, Value.int .i64 0]).flatten).toArray := by
  rw [madeC (k := 3) rfl (by decide), len_el ItZ_len]
  congr 1
  simp only [Nat.zero_mul, List.take_zero, List.nil_append, Nat.zero_add]
  congr 1
  rw [← List.replicate_append_replicate, List.flatten_append, List.drop_left' (by simp)]
theorem roomBItZ (l : List itemL.Item) (b : List Value) (hb : b.length = 2 * 3) : ((l.flatMap itC ++ (List.replicate 3 [Value.int .i64 0, Value.int .i64 0, Value.int .i64 0]).flatten).toArray.toList.take (l.length * 3) ++ b ++ (l.flatMap itC ++ (List.replicate 3 [Value.int .i64 0, Value.int .i64 0, Value.int .i64 0]).flatten).toArray.toList.drop (l.length * 3 + b.length)).toArray = (l.flatMap itC ++ b ++ [Value.int .i64 0, Value.int .i64 0, Value.int .i64 0]).toArray := by
  congr 1
  have h := len_el ItZ_len l
  rw [List.take_left' h, ← List.drop_drop, List.drop_left' h, hb]
  rfl
set_option maxHeartbeats 2000000 in
theorem roomyItZ_calls (v : Value) (l : List itemL.Item) (a : itemL.Item) (w : World) (hs : Sl w v l.length (l.flatMap itC)) (hl : 24 * (l.length + 3) ≤ 281474976710656) (h1 : ∀ u ∈ itC a, u.oneCell' = true) :
    Calls Try.prog 9 #[v, (.agg (itC a).toArray)] w (Meets ⟨fun _ => True, fun (g : Nat) => .slice (some ⟨g, 0, none⟩) l.length (l.length + 3), fun g => [blkO g (l.flatMap itC ++ (itC a ++ itC a) ++ [Value.int .i64 0, Value.int .i64 0, Value.int .i64 0]).toArray 43]⟩ w) := by
  have hsl : ∀ L, SlL w L v l.length (l.flatMap itC) := fun L w' hm => hs.gr hm.below
  obtain ⟨base, cap, rfl, hcap, hmax, _⟩ := hs
  unfold maxLen at hmax
  refine enter (args := [.slice base l.length cap, (.agg (itC a).toArray)]) (n := 20) Try.func9 rfl rfl rfl ?_
  refine T_seq (T_region (TL_box rfl rfl rfl fun g0 => ?_))
  repeat(first|refine QV QP ?_|refine TL_nil ?_|refine E_then ?_|refine QV QL ?_|refine QV QaA ?_)
  (repeat refine T_seq ?_)
  refine T_midq (ι := Nat) (fun _ => True) (fun g => [(0, .slice base l.length cap), (5, .slice (some ⟨g, 0, none⟩) (l.length + 2) (l.length + 3))]) (fun g => [blkO g (l.flatMap itC ++ (itC a ++ itC a) ++ [Value.int .i64 0, Value.int .i64 0, Value.int .i64 0]).toArray 43]) ?_ ?_
  · refine T_ord ([blkO g0 (itC a).toArray 43]) (.calm 0 (.calm 1 (.calm 2 (.calm 4 (.calm 6 (.calm 7 (.two 3 (.two 5 (.one 8 (.one 9 (.calm 10 (.done)))) 8 (.one 5 (.one 9 (.calm 10 (.done))))) 8 (.one 3 (.one 5 (.one 9 (.calm 10 (.done)))))))))))) (sub_pick [0] (by decide) rfl) (by kernel_rfl) (by kernel_rfl) (by intro c a d v w h; cases d <;> exact h) ?_
    repeat(first|((first|refine TW_plain rfl rfl ?_|refine TW_gmet rfl rfl rfl rfl ?_);first|refine QW QP ?_|refine QW (rr_loadB (i := 0) TyC.ty rfl rfl rfl) ?_|refine QW QL ?_|refine QW QaA ?_)|refine TW_done ?_)
    refine TW_two rfl rfl ?_ ?_
    · refine TL_makeB (m := 0) (cap := l.length + 3) rfl rfl (by omega) (by omega) (by omega) rfl fun g => ?_
      refine TW_on (sub_pick [0] (by decide) rfl) ?_
      refine TW_two rfl rfl ?_ ?_
      · refine TL_appBs (i := 1) (k := l.length) (cs' := (l.flatMap itC ++ (List.replicate 3 [Value.int .i64 0, Value.int .i64 0, Value.int .i64 0]).flatten).toArray) rfl rfl rfl (hsl _) (len_el ItZ_len l) (one_its l) (by omega) (by rw [size_madeCells, len_el ItZ_len]; omega) (roomAItZ l).symm rfl ?_
        refine TW_on (sub_pick [0] (by decide) rfl) ?_
        refine TW_one rfl (TL_litN (cs := (itC a ++ itC a).toArray) [(.agg (itC a).toArray), (.agg (itC a).toArray)] rfl rfl rfl (by intro v hv; simp only [List.mem_cons, List.not_mem_nil, or_false, or_self] at hv; subst hv; rfl) rfl rfl rfl fun g8 => TW_on (sub_pick [0] (by decide) rfl) ?_)
        refine TW_one rfl (TL_appB (i := 1) (k := 2) (ys := itC a ++ itC a) (cs' := (l.flatMap itC ++ (itC a ++ itC a) ++ [Value.int .i64 0, Value.int .i64 0, Value.int .i64 0]).toArray) rfl rfl rfl (fun w hm j u hj => by rw [addr_add, Nat.zero_add]; exact at_blk (i := 2) rfl (by simpa using hj) w hm) rfl (by intro u hu; rcases List.mem_append.1 hu with h | h <;> exact h1 u h) (by omega) (by simp [len_el ItZ_len, itC] <;> omega) (by rw [Nat.zero_add]; exact (roomBItZ l _ rfl).symm) rfl (TW_on (sub_pick [0] (by decide) rfl) ?_))
        repeat(first|((first|refine TW_plain rfl rfl ?_|refine TW_gmet rfl rfl rfl rfl ?_);first|refine QW QP ?_|refine QW QL ?_|refine QW QaA ?_)|refine TW_done ?_)
        refine E_pick [1] (by decide) rfl ?_
        exact E_mid g trivial ⟨rfl, by rw [show l.length + 2 = 0 + l.length + 2 by omega]; rfl, trivial⟩ rfl
      · refine TL_litN (cs := (itC a ++ itC a).toArray) [(.agg (itC a).toArray), (.agg (itC a).toArray)] rfl rfl rfl (by intro v hv; simp only [List.mem_cons, List.not_mem_nil, or_false, or_self] at hv; subst hv; rfl) rfl rfl rfl fun g8 => ?_
        refine TW_on (sub_pick [0] (by decide) rfl) ?_
        refine TW_one rfl (TL_appBs (i := 1) (k := l.length) (cs' := (l.flatMap itC ++ (List.replicate 3 [Value.int .i64 0, Value.int .i64 0, Value.int .i64 0]).flatten).toArray) rfl rfl rfl (hsl _) (len_el ItZ_len l) (one_its l) (by omega) (by rw [size_madeCells, len_el ItZ_len]; omega) (roomAItZ l).symm rfl (TW_on (sub_pick [0] (by decide) rfl) ?_))
        refine TW_one rfl (TL_appB (i := 1) (k := 2) (ys := itC a ++ itC a) (cs' := (l.flatMap itC ++ (itC a ++ itC a) ++ [Value.int .i64 0, Value.int .i64 0, Value.int .i64 0]).toArray) rfl rfl rfl (fun w hm j u hj => by rw [addr_add, Nat.zero_add]; exact at_blk (i := 2) rfl (by simpa using hj) w hm) rfl (by intro u hu; rcases List.mem_append.1 hu with h | h <;> exact h1 u h) (by omega) (by simp [len_el ItZ_len, itC] <;> omega) (by rw [Nat.zero_add]; exact (roomBItZ l _ rfl).symm) rfl (TW_on (sub_pick [0] (by decide) rfl) ?_))
        repeat(first|((first|refine TW_plain rfl rfl ?_|refine TW_gmet rfl rfl rfl rfl ?_);first|refine QW QP ?_|refine QW QL ?_|refine QW QaA ?_)|refine TW_done ?_)
        refine E_pick [1] (by decide) rfl ?_
        exact E_mid g trivial ⟨rfl, by rw [show l.length + 2 = 0 + l.length + 2 by omega]; rfl, trivial⟩ rfl
    · refine TL_litN (cs := (itC a ++ itC a).toArray) [(.agg (itC a).toArray), (.agg (itC a).toArray)] rfl rfl rfl (by intro v hv; simp only [List.mem_cons, List.not_mem_nil, or_false, or_self] at hv; subst hv; rfl) rfl rfl rfl fun g8 => ?_
      refine TW_on (sub_pick [0] (by decide) rfl) ?_
      refine TW_one rfl (TL_makeB (m := 0) (cap := l.length + 3) rfl rfl (by omega) (by omega) (by omega) rfl fun g => TW_on (sub_pick [0] (by decide) rfl) ?_)
      refine TW_one rfl (TL_appBs (i := 2) (k := l.length) (cs' := (l.flatMap itC ++ (List.replicate 3 [Value.int .i64 0, Value.int .i64 0, Value.int .i64 0]).flatten).toArray) rfl rfl rfl (hsl _) (len_el ItZ_len l) (one_its l) (by omega) (by rw [size_madeCells, len_el ItZ_len]; omega) (roomAItZ l).symm rfl (TW_on (sub_pick [0] (by decide) rfl) ?_))
      refine TW_one rfl (TL_appB (i := 2) (k := 2) (ys := itC a ++ itC a) (cs' := (l.flatMap itC ++ (itC a ++ itC a) ++ [Value.int .i64 0, Value.int .i64 0, Value.int .i64 0]).toArray) rfl rfl rfl (fun w hm j u hj => by rw [addr_add, Nat.zero_add]; exact at_blk (i := 1) rfl (by simpa using hj) w hm) rfl (by intro u hu; rcases List.mem_append.1 hu with h | h <;> exact h1 u h) (by omega) (by simp [len_el ItZ_len, itC] <;> omega) (by rw [Nat.zero_add]; exact (roomBItZ l _ rfl).symm) rfl (TW_on (sub_pick [0] (by decide) rfl) ?_))
      repeat(first|((first|refine TW_plain rfl rfl ?_|refine TW_gmet rfl rfl rfl rfl ?_);first|refine QW QP ?_|refine QW QL ?_|refine QW QaA ?_)|refine TW_done ?_)
      refine E_pick [2] (by decide) rfl ?_
      exact E_mid g trivial ⟨rfl, by rw [show l.length + 2 = 0 + l.length + 2 by omega]; rfl, trivial⟩ rfl
  · intro g _
    repeat(first|refine QV QP ?_|refine QZ ?_|refine QV (rr_slpre Und.eq TyC.ty rfl rfl (by omega)) ?_|refine QV QL ?_|refine QV QaA ?_)
    exact E_ret1 rfl rfl fun w hm => hm.meets (S := ⟨fun _ => True, fun (g : Nat) => .slice (some ⟨g, 0, none⟩) l.length (l.length + 3), fun g => [blkO g (l.flatMap itC ++ (itC a ++ itC a) ++ [Value.int .i64 0, Value.int .i64 0, Value.int .i64 0]).toArray 43]⟩) g trivial [0] (by decide) rfl
set_option maxHeartbeats 2000000 in
theorem filledItZ_calls (g cap : Nat) (l : List itemL.Item) (a : itemL.Item) (w : World) (hcap : l.length + 2 ≤ cap) (hmax : cap ≤ 9223372036854775807) (h : ∀ (j : Nat) (u : Value), (l.flatMap itC ++ (itC a ++ itC a))[j]? = some u → w.cell? ⟨g, j, none⟩ = some u) :
    Calls Try.prog 14 #[.slice (some ⟨g, 0, none⟩) l.length cap, (.agg (itC a).toArray)] w (Meets (ret (.bool true)) w) := by
  have hl2 : (l ++ [a, a]).flatMap itC = l.flatMap itC ++ (itC a ++ itC a) := by simp
  have hat : ∀ (L : List Own) (k : Nat) (hk : k < (l ++ [a, a]).length) (j : Nat) (u : Value), (itC (l ++ [a, a])[k])[j]? = some u → At w L ⟨g, 0 + k * 3 + j, none⟩ u := fun L k hk => at_elL ItZ_len (off := 0) (fun j u hj => by rw [Nat.zero_add]; exact at_old (h j u (by rw [← hl2]; exact hj))) hk
  have h0 := fun L => hat L l.length (by simp)
  have h1 := fun L => hat L (l.length + 1) (by simp)
  have e0 : (l ++ [a, a])[l.length]'(by simp) = a := by simp
  have e1 : (l ++ [a, a])[l.length + 1]'(by simp) = a := by simp
  rw [e0] at h0
  rw [e1] at h1
  clear hat e0 e1 hl2 h
  have heq := eq_item a a
  rw [decide_eq_true rfl] at heq
  refine enter (args := [.slice (some ⟨g, 0, none⟩) l.length cap, (.agg (itC a).toArray)]) (n := 28) Try.func14 rfl rfl rfl ?_
  refine T_seq (T_region (TL_box rfl rfl rfl fun g0 => ?_))
  repeat(first|refine QV QP ?_|refine QZ ?_|refine qs rfl rfl rfl rfl rfl rfl ?_|((try refine qg rfl rfl rfl ?_);first|refine QV QP ?_|refine QV (rr_slpre (j := l.length + 2) Und.eq TyC.ty rfl rfl hcap) ?_|refine QV QL ?_|refine QV QaA ?_))
  refine T_ord ([blkO g0 (itC a).toArray 43]) (.calm 0 (.calm 1 (.calm 2 (.calm 3 (.calm 4 (.calm 5 (.calm 6 (.calm 7 (.calm 8 (.calm 9 (.calm 10 (.calm 11 (.calm 12 (.calm 13 (.calm 14 (.calm 15 (.calm 16 (.calm 17 (.done))))))))))))))))))) (fun _ h => h) (by kernel_rfl) (by kernel_rfl) (by intro c a d v w h; cases d <;> exact h) ?_
  repeat(first|((first|refine TW_plain rfl rfl ?_|refine TW_gmet rfl rfl rfl rfl ?_);first|refine QW QP ?_|refine QW (rr_loadB (i := 0) TyC.ty rfl rfl rfl) ?_|refine QW (rr_idxc (j := l.length) Und.eq TyC.ty rfl rfl (by omega)) ?_|refine QW (rr_idxc (j := l.length + 1) Und.eq TyC.ty rfl rfl (by omega)) ?_|refine QW (rr_loadN TyC.ty rfl rfl (h0 _)) ?_|refine QW (rr_loadN TyC.ty rfl rfl (h1 _)) ?_|refine QW (rr_aggeq rfl rfl (by kernel_rfl) heq) ?_|refine QW QL ?_|refine QW QaA ?_)|refine TW_skip rfl rfl rfl rfl rfl rfl rfl ?_|refine TW_done ?_)
  repeat(first|refine QV QP ?_|refine QZ ?_|refine qs rfl rfl rfl rfl rfl rfl ?_|((try refine qg rfl rfl rfl ?_);first|refine QV QP ?_|refine QV QL ?_|refine QV QaA ?_))
  exact E_ret1 rfl rfl fun w hm => hm.ret
theorem spoilAItZ (k cap : Nat) (a : itemL.Item) (cs : Array Value) (hc : cs.size = cap * 3) (hk : k < cap) : (((List.replicate k (itC a)).flatten ++ cs.toList.drop (k * 3)).toArray.toList.take (k * 3) ++ (itC a).toArray.toList ++ ((List.replicate k (itC a)).flatten ++ cs.toList.drop (k * 3)).toArray.toList.drop (k * 3 + 3)).toArray = ((List.replicate (k + 1) (itC a)).flatten ++ cs.toList.drop ((k + 1) * 3)).toArray := by
  congr 1
  have h : ((List.replicate k (itC a)).flatten).length = k * 3 := by simp [itC]
  simp only []
  rw [List.take_left' h, ← List.drop_drop, List.drop_left' h, List.replicate_succ', List.flatten_append, List.drop_drop]
  simp [Nat.add_mul]
set_option maxHeartbeats 2000000 in
theorem spoilItZ_calls (g n cap : Nat) (cs : Array Value) (a : itemL.Item) (w : World) (B : Base) (hn : n ≤ cap) (hmax : cap ≤ 9223372036854775807) (hc : cs.size = cap * 3) (h1 : (itC a).all Value.oneCell' = true) (hm : Mem B [blkO g cs 43] w) :
    Calls Try.prog 17 #[.slice (some ⟨g, 0, none⟩) n cap, (.agg (itC a).toArray)] w (MeetsB ⟨fun (_ : Unit) => True, fun _ => .tuple #[], fun _ => [blkO g ((List.replicate cap (itC a)).flatten).toArray 43]⟩ B) := by
  refine enterB hm (args := [.slice (some ⟨g, 0, none⟩) n cap, (.agg (itC a).toArray)]) (n := 19) Try.func17 rfl rfl rfl ?_
  refine T_seq (T_region (TL_box rfl rfl rfl fun g0 => ?_))
  repeat(first|refine QV QP ?_|refine QZ ?_|refine qcT rfl ?_|refine qcF rfl ?_|refine E_blockX ?_|refine E_blockO rfl ?_|refine QV (rr_cap Und.eq rfl) ?_|refine QV (rr_slpre Und.eq TyC.ty rfl rfl (Nat.le_refl cap)) ?_|refine QV QL ?_|refine QV QlT ?_|refine QV QlF ?_|refine QV QaA ?_)
  refine T_loop (ι := Nat) (fun k => k ≤ cap) (fun k => [(0, .slice (some ⟨g, 0, none⟩) cap cap), (3, .pointer (some ⟨g0, 0, none⟩)), (10, .int .i64 cap), (11, .int .i64 (k : Int))]) (fun k => [blkO g ((List.replicate k (itC a)).flatten ++ cs.toList.drop (k * 3)).toArray 43, blkO g0 (itC a).toArray 43]) (fun k => cap - k) 0 (Nat.zero_le _) (by repeat' (first | exact True.intro | refine And.intro rfl ?_)) (by simp; rfl) ?_
  intro k hk
  by_cases c1 : k < cap
  · have hsz : ((List.replicate k (itC a)).flatten ++ cs.toList.drop (k * 3)).toArray.size = cap * 3 := by simp [hc, itC]; omega
    repeat(first|refine QV QP ?_|refine QZ ?_|refine qcT rfl ?_|refine qcF rfl ?_|refine E_blockX ?_|refine E_blockO rfl ?_|refine QV (rr_loadB (i := 1) TyC.ty rfl rfl rfl) ?_|refine QV (rr_idxc Und.eq TyC.ty rfl rfl c1) ?_|refine QV QL ?_|refine QV QlT ?_|refine QV QlF ?_|refine QV QaA ?_)
    refine TL_store (i := 0) (cs' := ((List.replicate (k + 1) (itC a)).flatten ++ cs.toList.drop ((k + 1) * 3)).toArray) TyC.ty rfl rfl rfl rfl (show ((itC a).toArray.toList.all Value.oneCell') = true by simpa using h1) (by rw [hsz]; omega) (by rw [Nat.zero_add]; exact (spoilAItZ k cap a cs hc c1).symm) ?_
    repeat(first|refine QV QP ?_|refine QZ ?_|refine qcT rfl ?_|refine qcF rfl ?_|refine E_blockX ?_|refine E_blockO rfl ?_|refine QV QL ?_|refine QV QlT ?_|refine QV QlF ?_|refine QV QaA ?_)
    exact E_round (k + 1) (by omega) (by show cap - (k + 1) < cap - k; omega) (by repeat' (first | exact True.intro | refine And.intro rfl ?_)) rfl
  · obtain rfl : k = cap := by omega
    repeat(first|refine QV QP ?_|refine QZ ?_|refine qcT rfl ?_|refine qcF rfl ?_|refine E_blockX ?_|refine E_blockO rfl ?_|refine QV QL ?_|refine QV QlT ?_|refine QV QlF ?_|refine QV QaA ?_)
    refine E_end0 rfl fun w hm => hm.meetsB (S := ⟨fun (_ : Unit) => True, fun _ => .tuple #[], fun _ => [blkO g ((List.replicate k (itC a)).flatten).toArray 43]⟩) () trivial [0] (by decide) (by simp only [List.drop_of_length_le (show cs.toList.length ≤ k * 3 by simp [hc]), List.append_nil]; rfl)
end Go.Proofs.Ytomkjjpdnmcnnaa.eng


/- SmIr -/
namespace Go.Proofs.Ytomkjjpdnmcnnaa.eng
open Go.RowKit kit mix
theorem spoilASmIr (k cap : Nat) (a : Int) (cs : Array Value) (hc : cs.size = cap * 1) (hk : k < cap) : (((List.replicate k (kit.intC a)).flatten ++ cs.toList.drop (k * 1)).toArray.toList.take (k * 1) ++ (kit.intC a).toArray.toList ++ ((List.replicate k (kit.intC a)).flatten ++ cs.toList.drop (k * 1)).toArray.toList.drop (k * 1 + 1)).toArray = ((List.replicate (k + 1) (kit.intC a)).flatten ++ cs.toList.drop ((k + 1) * 1)).toArray := by
  congr 1
  have h : ((List.replicate k (kit.intC a)).flatten).length = k * 1 := by simp [kit.intC]
  simp only []
  rw [List.take_left' h, ← List.drop_drop, List.drop_left' h, List.replicate_succ', List.flatten_append, List.drop_drop]
  simp [Nat.add_mul]
set_option maxHeartbeats 2000000 in
theorem spoilSmIr_calls (g n cap : Nat) (cs : Array Value) (a : Int) (w : World) (B : Base) (hn : n ≤ cap) (hmax : cap ≤ 9223372036854775807) (hc : cs.size = cap * 1) (h1 : (kit.intC a).all Value.oneCell' = true) (hm : Mem B [blkO g cs 3] w) :
    Calls Try.prog 16 #[.slice (some ⟨g, 0, none⟩) n cap, .int .i64 a] w (MeetsB ⟨fun (_ : Unit) => True, fun _ => .tuple #[], fun _ => [blkO g ((List.replicate cap (kit.intC a)).flatten).toArray 3]⟩ B) := by
  refine enterB hm (args := [.slice (some ⟨g, 0, none⟩) n cap, .int .i64 a]) (n := 19) Try.func16 rfl rfl rfl ?_
  repeat(first|refine qv rfl (qp rfl) rfl rfl ?_|refine TL_nil ?_|refine T_seq ?_|refine T_region ?_|refine qcT rfl ?_|refine qcF rfl ?_|refine T_skip ?_|refine T_exit ?_|refine T_block ?_|refine E_then ?_|refine E_thenX ?_|refine E_thenR ?_|refine E_blockN ?_|refine E_blockR ?_|refine E_blockX ?_|refine E_blockO rfl ?_|refine qv rfl (rr_cap Und.eq rfl) rfl rfl ?_|refine qv rfl (rr_slpre Und.eq TyC.ty rfl rfl (Nat.le_refl cap)) rfl rfl ?_|refine qv rfl (qlen Und.eq rfl) rfl rfl ?_|refine qv rfl (rr_lss rfl rfl (qT (by omega))) rfl rfl ?_|refine qv rfl (rr_lss rfl rfl (qF (by omega))) rfl rfl ?_|refine qv rfl (rr_add64 rfl rfl (by omega) (by omega) rfl) rfl rfl ?_)
  refine T_loop (ι := Nat) (fun k => k ≤ cap) (fun k => [(0, .slice (some ⟨g, 0, none⟩) cap cap), (1, .int .i64 a), (10, .int .i64 cap), (11, .int .i64 (k : Int))]) (fun k => [blkO g ((List.replicate k (kit.intC a)).flatten ++ cs.toList.drop (k * 1)).toArray 3]) (fun k => cap - k) 0 (Nat.zero_le _) (by repeat' (first | exact True.intro | refine And.intro rfl ?_)) (by simp) ?_
  intro k hk
  by_cases c1 : k < cap
  · have hsz : ((List.replicate k (kit.intC a)).flatten ++ cs.toList.drop (k * 1)).toArray.size = cap * 1 := by simp [hc, kit.intC]; omega
    repeat(first|refine qv rfl (qp rfl) rfl rfl ?_|refine TL_nil ?_|refine T_seq ?_|refine T_region ?_|refine qcT rfl ?_|refine qcF rfl ?_|refine T_skip ?_|refine T_exit ?_|refine T_block ?_|refine E_then ?_|refine E_thenX ?_|refine E_thenR ?_|refine E_blockN ?_|refine E_blockR ?_|refine E_blockX ?_|refine E_blockO rfl ?_|refine qv rfl (rr_idxc Und.eq TyC.ty rfl rfl c1) rfl rfl ?_|refine qv rfl (qlen Und.eq rfl) rfl rfl ?_|refine qv rfl (rr_lss rfl rfl (qT (by omega))) rfl rfl ?_|refine qv rfl (rr_lss rfl rfl (qF (by omega))) rfl rfl ?_|refine qv rfl (rr_add64 rfl rfl (by omega) (by omega) rfl) rfl rfl ?_)
    refine TL_store (i := 0) (cs' := ((List.replicate (k + 1) (kit.intC a)).flatten ++ cs.toList.drop ((k + 1) * 1)).toArray) TyC.ty rfl rfl rfl rfl (show ((kit.intC a).toArray.toList.all Value.oneCell') = true by simpa using h1) (by rw [hsz]; omega) (by rw [Nat.zero_add]; exact (spoilASmIr k cap a cs hc c1).symm) ?_
    repeat(first|refine qv rfl (qp rfl) rfl rfl ?_|refine TL_nil ?_|refine T_seq ?_|refine T_region ?_|refine qcT rfl ?_|refine qcF rfl ?_|refine T_skip ?_|refine T_exit ?_|refine T_block ?_|refine E_then ?_|refine E_thenX ?_|refine E_thenR ?_|refine E_blockN ?_|refine E_blockR ?_|refine E_blockX ?_|refine E_blockO rfl ?_|refine qv rfl (qlen Und.eq rfl) rfl rfl ?_|refine qv rfl (rr_lss rfl rfl (qT (by omega))) rfl rfl ?_|refine qv rfl (rr_lss rfl rfl (qF (by omega))) rfl rfl ?_|refine qv rfl (rr_add64 rfl rfl (by omega) (by omega) rfl) rfl rfl ?_)
    exact E_round (k + 1) (by omega) (by show cap - (k + 1) < cap - k; omega) (by repeat' (first | exact True.intro | refine And.intro rfl ?_)) rfl
  · obtain rfl : k = cap := by omega
    repeat(first|refine qv rfl (qp rfl) rfl rfl ?_|refine TL_nil ?_|refine T_seq ?_|refine T_region ?_|refine qcT rfl ?_|refine qcF rfl ?_|refine T_skip ?_|refine T_exit ?_|refine T_block ?_|refine E_then ?_|refine E_thenX ?_|refine E_thenR ?_|refine E_blockN ?_|refine E_blockR ?_|refine E_blockX ?_|refine E_blockO rfl ?_|refine qv rfl (qlen Und.eq rfl) rfl rfl ?_|refine qv rfl (rr_lss rfl rfl (qT (by omega))) rfl rfl ?_|refine qv rfl (rr_lss rfl rfl (qF (by omega))) rfl rfl ?_|refine qv rfl (rr_add64 rfl rfl (by omega) (by omega) rfl) rfl rfl ?_)
    refine E_end0 rfl fun w hm => hm.meetsB (S := ⟨fun (_ : Unit) => True, fun _ => .tuple #[], fun _ => [blkO g ((List.replicate k (kit.intC a)).flatten).toArray 3]⟩) () trivial [0] (by decide) (by simp only [List.drop_of_length_le (show cs.toList.length ≤ k * 1 by simp [hc]), List.append_nil]; rfl)
theorem spoilNilSmIr_calls (a : Int) (w : World) : Calls Try.prog 16 #[.slice none 0 0, .int .i64 a] w (Meets (ret (.tuple #[])) w) := by
  refine enter (args := [.slice none 0 0, .int .i64 a]) (n := 19) Try.func16 rfl rfl rfl ?_
  repeat(first|refine qv rfl (qp rfl) rfl rfl ?_|refine TL_nil ?_|refine T_seq ?_|refine T_region ?_|refine qcT rfl ?_|refine qcF rfl ?_|refine T_skip ?_|refine T_exit ?_|refine T_block ?_|refine E_then ?_|refine E_thenX ?_|refine E_thenR ?_|refine E_blockN ?_|refine E_blockR ?_|refine E_blockX ?_|refine E_blockO rfl ?_|refine qv rfl (rr_cap Und.eq rfl) rfl rfl ?_|refine qv rfl (rr_slpre (j := 0) Und.eq TyC.ty rfl rfl (Nat.le_refl 0)) rfl rfl ?_|refine qv rfl (qlen Und.eq rfl) rfl rfl ?_|refine qv rfl (rr_lss rfl rfl (qT (by omega))) rfl rfl ?_|refine qv rfl (rr_lss rfl rfl (qF (by omega))) rfl rfl ?_|refine qv rfl (rr_add64 rfl rfl (by omega) (by omega) rfl) rfl rfl ?_)
  refine T_loop (ι := Unit) (fun _ => True) (fun _ => [(10, .int .i64 0), (11, .int .i64 0)]) (fun _ => []) (fun _ => 0) () trivial (by repeat' (first | exact True.intro | refine And.intro rfl ?_)) rfl ?_
  intro _ _
  repeat(first|refine qv rfl (qp rfl) rfl rfl ?_|refine TL_nil ?_|refine T_seq ?_|refine T_region ?_|refine qcT rfl ?_|refine qcF rfl ?_|refine T_skip ?_|refine T_exit ?_|refine T_block ?_|refine E_then ?_|refine E_thenX ?_|refine E_thenR ?_|refine E_blockN ?_|refine E_blockR ?_|refine E_blockX ?_|refine E_blockO rfl ?_|refine qv rfl (qlen Und.eq rfl) rfl rfl ?_|refine qv rfl (rr_lss rfl rfl (qT (by omega))) rfl rfl ?_|refine qv rfl (rr_lss rfl rfl (qF (by omega))) rfl rfl ?_|refine qv rfl (rr_add64 rfl rfl (by omega) (by omega) rfl) rfl rfl ?_)
  exact E_end0 rfl fun w hm => hm.ret
end Go.Proofs.Ytomkjjpdnmcnnaa.eng


/- GrammarOwnW -/
namespace Go.Proofs.Ytomkjjpdnmcnnaa.grammarOwn
open Go.RowKit kit mix gramL treeL factsL itemL smallL eng
theorem brk_two : checkG brkG = 0 ∧ brkG.prods.length = 2 := ⟨by kernel_rfl, by kernel_rfl⟩
theorem build_it99 (w : World) : (Instr.build 43 #[(0, .int .i64 99)]).run Try.prog w = .ok (.agg (itC (99, 0, 0)).toArray) w := by
  unfold itC; go_simp
theorem build_it00 (w : World) : (Instr.build 43 (#[] : Array (Nat × Value))).run Try.prog w = .ok (.agg (itC (0, 0, 0)).toArray) w := by
  unfold itC; go_simp
theorem build_sym0 (w : World) : (Instr.build 60 (#[] : Array (Nat × Value))).run Try.prog w = .ok (.agg (symC (0, 0)).toArray) w := by
  unfold symC; go_simp
theorem build_sym19 (w : World) : (Instr.build 60 #[(0, .int .i64 2), (1, .int .i64 19)]).run Try.prog w = .ok (.agg (symC (2, 19)).toArray) w := by
  unfold symC; go_simp
theorem llMakeE_calls (v : Value) (g : Gram) (w : World) (h : GraR (fun k => k < w.heap.size) w v g) (hg : checkG g ≠ 0) :
    Calls Try.prog 8 #[v] w (Meets (ret (.tuple #[.slice none 0 0, .slice none 0 0, .int .i64 (checkG g)])) w) := by
  have hof := fun w' (hg' : Gr w w') => ofE_calls v g w' (h.gr hg') hg
  obtain ⟨vp, rfl, -⟩ := h
  generalize checkG g = e at *
  refine enter (args := [graV g.terms g.nons vp]) (n := 119) Try.func8 rfl rfl rfl ?_
  refine T_seq (T_region (TL_box rfl rfl rfl fun g1 => ?_))
  conv=>arg 8;simp only[zA,zB,zC,zD,zE,zF,zG,zH,zI,rowS,ret,id_eq]
  repeat(first|refine QV QP ?_|refine QZ ?_|refine qcT rfl ?_|refine qcF rfl ?_|refine E_blockX ?_|refine E_blockO rfl ?_|refine qs rfl rfl rfl rfl rfl rfl ?_|((try refine qg rfl rfl rfl ?_);first|refine QV QP ?_|refine QV (rr_loadB (i := 0) TyC.ty rfl rfl rfl) ?_|refine QV QL ?_|refine QV QA ?_|refine QV QlT ?_|refine QV QlF ?_|refine QV QnT ?_|refine QV QnF ?_|refine QV QaA ?_|refine QV QeT ?_|refine QV QeF ?_))
  refine TL_call (he1 EntersC.en rfl rfl) (fun w hm => hof _ hm.below) rfl rfl rfl ?_
  intro _ _
  conv=>arg 8;simp only[zA,zB,zC,zD,zE,zF,zG,zH,zI,rowS,ret,id_eq]
  repeat(first|refine QV QP ?_|refine QZ ?_|refine qcT rfl ?_|refine qcF rfl ?_|refine E_blockX ?_|refine E_blockO rfl ?_|refine qs rfl rfl rfl rfl rfl rfl ?_|((try refine qg rfl rfl rfl ?_);first|refine QV QP ?_|refine QV QL ?_|refine QV QA ?_|refine QV QlT ?_|refine QV QlF ?_|refine QV QnT ?_|refine QV QnF ?_|refine QV QaA ?_|refine QV QeT ?_|refine QV QeF ?_))
  refine TL_new rfl fun g2 => ?_
  conv=>arg 8;simp only[zA,zB,zC,zD,zE,zF,zG,zH,zI,rowS,ret,id_eq]
  refine TL_storeB (i := 1) rfl rfl rfl rfl rfl rfl ?_
  conv=>arg 8;simp only[zA,zB,zC,zD,zE,zF,zG,zH,zI,rowS,ret,id_eq]
  repeat(first|refine QV QP ?_|refine QZ ?_|refine qcT rfl ?_|refine qcF rfl ?_|refine E_blockX ?_|refine E_blockO rfl ?_|refine qs rfl rfl rfl rfl rfl rfl ?_|((try refine qg rfl rfl rfl ?_);first|refine QV QP ?_|refine QV (rr_neq (b := true) rfl rfl (decide_eq_true hg)) ?_|refine QV QL ?_|refine QV QA ?_|refine QV QlT ?_|refine QV QlF ?_|refine QV QnT ?_|refine QV QnF ?_|refine QV QaA ?_|refine QV QeT ?_|refine QV QeF ?_))
  exact E_ret3e rfl rfl rfl rfl rfl
/-- an item's list with room behind it -/
def rmI (l : List itemL.Item) : Array Value := (l.flatMap itC ++ (itC (99, 0, 0) ++ itC (99, 0, 0)) ++ [Value.int .i64 0, Value.int .i64 0, Value.int .i64 0]).toArray
theorem rmI_get2 (l : List itemL.Item) (j : Nat) (u : Value) (h : (l.flatMap itC ++ (itC (99, 0, 0) ++ itC (99, 0, 0)))[j]? = some u) : (rmI l)[j]? = some u := by
  unfold rmI
  rw [List.getElem?_toArray, List.getElem?_append_left (List.getElem?_eq_some_iff.1 h).1]
  exact h
theorem rmI_get (l : List itemL.Item) (j : Nat) (u : Value) (h : (l.flatMap itC)[j]? = some u) : (rmI l)[j]? = some u :=
  rmI_get2 l j u (by rw [List.getElem?_append_left (List.getElem?_eq_some_iff.1 h).1]; exact h)
theorem rmI_size (l : List itemL.Item) : (rmI l).size = (l.length + 3) * 3 := by
  unfold rmI
  have := len_el ItZ_len l
  simp only [List.size_toArray, List.length_append, this]
  simp [itC]; omega
set_option maxHeartbeats 8000000 in
theorem walk (w : World) (v : Value) (g : Gram) (h : GraR (fun k => k < w.heap.size) w v g) (hl : g.prods.length * 32 ≤ 140737488351232) (hb8 : ∀ p ∈ g.prods, p.2.length * 16 ≤ 140737488351232) (vl : Value) (l : List itemL.Item) (hs : Sl w vl l.length (l.flatMap itC)) (hlw : l.length * 24 ≤ 140737488351232) :
    Calls Try.prog 3 #[v, vl] w (Meets (ret (.bool true)) w) := by
  have hb : ∀ p ∈ g.prods, p.2.length ≤ 8796093021952 := fun p hp => by have := hb8 p hp; omega
  have hR := fun w' (hg : Gr w w') => room_calls v g w' (h.gr hg) hl hb
  have hI := fun w' (hg : Gr w w') => roomyItZ_calls vl l (99, 0, 0) w' (hs.gr hg) (by omega) (fun u hu => by simp only [itC, List.mem_cons, List.not_mem_nil, or_false] at hu; rcases hu with rfl | rfl | rfl <;> rfl)
  have hC := fun w' (hg : Gr w w') => itemsClosed_calls v g vl l w' (h.gr hg) (hs.gr hg)
  have hg' := fun (w' : World) (hw : Gr w w') => h.gr hw
  obtain ⟨vp, rfl, -⟩ := id h
  refine enter (args := [graV g.terms g.nons vp, vl]) (n := 161) Try.func3 rfl rfl rfl ?_
  refine T_seq (T_region (TL_box rfl rfl rfl fun g2 => ?_))
  conv=>arg 8;simp only[zA,zB,zC,zD,zE,zF,zG,zH,zI,rowS,ret,id_eq]
  repeat(first|refine QV QP ?_|refine QZ ?_|refine qcT rfl ?_|refine qcF rfl ?_|refine E_blockX ?_|refine E_blockO rfl ?_|refine qs rfl rfl rfl rfl rfl rfl ?_|((try refine qg rfl rfl rfl ?_);first|refine QV QP ?_|refine QV QL ?_|refine QV QA ?_|refine QV (rr_not rfl rfl) ?_|refine QV QlT ?_|refine QV QlF ?_|refine QV QnT ?_|refine QV QnF ?_|refine QV QaA ?_|refine QV QeT ?_|refine QV QeF ?_))
  refine TL_call (he0 EntersC.en rfl) (fun w hm => brackets_calls w) rfl rfl rfl ?_
  rintro ⟨vk, F⟩ _
  conv=>arg 8;simp only[zA,zB,zC,zD,zE,zF,zG,zH,zI,rowS,ret,id_eq, gramS]
  conv => arg 7; simp only [gramS]
  refine TL_call (he1 EntersC.en rfl rfl) (fun w hm => mirrorW_calls _ brkG w (prodsO_gra ok2 ok1 (hm.get (i := 1) rfl)) brk_two.1) rfl rfl rfl ?_
  rintro ⟨v5, F5, hv5⟩ _
  conv=>arg 8;simp only[zA,zB,zC,zD,zE,zF,zG,zH,zI,rowS,ret,id_eq, mirWS]
  conv => arg 7; simp only [mirWS]
  rw [brk_two.2]
  refine TL_know (i := 2) rfl row_slm fun hrow => ?_
  obtain ⟨a5, c5, rfl, -⟩ := hrow
  repeat(first|refine QV QP ?_|refine QZ ?_|refine qcT rfl ?_|refine qcF rfl ?_|refine E_blockX ?_|refine E_blockO rfl ?_|refine qs rfl rfl rfl rfl rfl rfl ?_|((try refine qg rfl rfl rfl ?_);first|refine QV QP ?_|refine QV QL ?_|refine QV QA ?_|refine QV (rr_not rfl rfl) ?_|refine QV QlT ?_|refine QV QlF ?_|refine QV QnT ?_|refine QV QnF ?_|refine QV QaA ?_|refine QV QeT ?_|refine QV QeF ?_))
  refine TL_new rfl fun g5 => ?_
  conv=>arg 8;simp only[zA,zB,zC,zD,zE,zF,zG,zH,zI,rowS,ret,id_eq]
  refine TL_storeB (i := 4) (cs' := (graV brkG.terms brkG.nons (.slice a5 2 c5)).cells) rfl rfl rfl rfl rfl rfl ?_
  conv=>arg 8;simp only[zA,zB,zC,zD,zE,zF,zG,zH,zI,rowS,ret,id_eq]
  repeat(first|refine QV QP ?_|refine QZ ?_|refine qcT rfl ?_|refine qcF rfl ?_|refine E_blockX ?_|refine E_blockO rfl ?_|refine qs rfl rfl rfl rfl rfl rfl ?_|((try refine qg rfl rfl rfl ?_);first|refine QV QP ?_|refine QV (rr_load1 (v := .slice a5 2 c5) TyC.ty rfl (at_blk (i := 4) rfl rfl)) ?_|refine QV (rr_loadB (i := 0) TyC.ty rfl rfl rfl) ?_|refine QV QL ?_|refine QV QA ?_|refine QV (rr_not rfl rfl) ?_|refine QV QlT ?_|refine QV QlF ?_|refine QV QnT ?_|refine QV QnF ?_|refine QV QaA ?_|refine QV QeT ?_|refine QV QeF ?_))
  refine TL_pick [0] (by decide) rfl ?_
  refine TL_call (he1 EntersC.en rfl rfl) (fun w hm => hR _ hm.below) rfl rfl rfl ?_
  rintro ⟨vh, gb⟩ _
  conv=>arg 8;simp only[zA,zB,zC,zD,zE,zF,zG,zH,zI,rowS,ret,id_eq, roomS]
  conv => arg 7; simp only [roomS]
  refine TL_know (i := 1) rfl row_slm fun hrow => ?_
  obtain ⟨ah, ch, rfl, -, hah⟩ := hrow
  have hGr := fun (w' : World) (L : List Own) (hm : Mem (w : Base) L w') (h1 : L[1]? = some (rowO 57 2 (.slice ah g.prods.length ch) g.prods.length ((List.range g.prods.length).flatMap (pcR g.prods gb)))) (h2 : L[2]? = some (famP (fun i => i < g.prods.length) (roomF g.prods gb))) => room_gra (w := w') h hb (hm.get (i := 1) h1) (hm.get (i := 2) h2)
  clear hR
  repeat(first|refine QV QP ?_|refine QZ ?_|refine qcT rfl ?_|refine qcF rfl ?_|refine E_blockX ?_|refine E_blockO rfl ?_|refine qs rfl rfl rfl rfl rfl rfl ?_|((try refine qg rfl rfl rfl ?_);first|refine QV QP ?_|refine QV QL ?_|refine QV QA ?_|refine QV (rr_not rfl rfl) ?_|refine QV QlT ?_|refine QV QlF ?_|refine QV QnT ?_|refine QV QnF ?_|refine QV QaA ?_|refine QV QeT ?_|refine QV QeF ?_))
  refine TL_new rfl fun g7 => ?_
  conv=>arg 8;simp only[zA,zB,zC,zD,zE,zF,zG,zH,zI,rowS,ret,id_eq]
  refine TL_storeB (i := 3) (cs' := (graV g.terms g.nons (.slice ah g.prods.length ch)).cells) rfl rfl rfl rfl rfl rfl ?_
  conv=>arg 8;simp only[zA,zB,zC,zD,zE,zF,zG,zH,zI,rowS,ret,id_eq]
  by_cases c0 : checkG g = 0
  · obtain ⟨hT1, hT2, hN1, hN2, hpl, hgb⟩ := checkG_ok c0
    obtain ⟨T, hTt⟩ : ∃ T : Nat, g.terms = (T : Int) := ⟨g.terms.toNat, by omega⟩
    obtain ⟨N, hNn⟩ : ∃ N : Nat, g.nons = (N : Int) := ⟨g.nons.toNat, by omega⟩
    repeat(first|refine QV QP ?_|refine QZ ?_|refine qcT rfl ?_|refine qcF rfl ?_|refine E_blockX ?_|refine E_blockO rfl ?_|refine qs rfl rfl rfl rfl rfl rfl ?_|((try refine qg rfl rfl rfl ?_);first|refine QV QP ?_|refine QV (rr_loadB (i := 3) TyC.ty rfl rfl rfl) ?_|refine QV QL ?_|refine QV QA ?_|refine QV (rr_not rfl rfl) ?_|refine QV QlT ?_|refine QV QlF ?_|refine QV QnT ?_|refine QV QnF ?_|refine QV QaA ?_|refine QV QeT ?_|refine QV QeF ?_))
    refine TL_call (he1 EntersC.en rfl rfl) (fun w hm => mirrorW_calls _ g w (hGr w _ hm rfl rfl) c0) rfl rfl rfl ?_
    rintro ⟨vm, F8, hvs⟩ hvl
    conv=>arg 8;simp only[zA,zB,zC,zD,zE,zF,zG,zH,zI,rowS,ret,id_eq, mirWS]
    conv => arg 7; simp only [mirWS]
    refine TL_know (i := 4) rfl row_slm fun hrow => ?_
    obtain ⟨am, cm, rfl, -, ham⟩ := hrow
    repeat(first|refine QV QP ?_|refine QZ ?_|refine qcT rfl ?_|refine qcF rfl ?_|refine E_blockX ?_|refine E_blockO rfl ?_|refine qs rfl rfl rfl rfl rfl rfl ?_|((try refine qg rfl rfl rfl ?_);first|refine QV QP ?_|refine QV QL ?_|refine QV QA ?_|refine QV (rr_not rfl rfl) ?_|refine QV QlT ?_|refine QV QlF ?_|refine QV QnT ?_|refine QV QnF ?_|refine QV QaA ?_|refine QV QeT ?_|refine QV QeF ?_))
    refine TL_new rfl fun g8 => ?_
    conv=>arg 8;simp only[zA,zB,zC,zD,zE,zF,zG,zH,zI,rowS,ret,id_eq]
    refine TL_storeB (i := 6) (cs' := (graV g.terms g.nons (.slice am g.prods.length cm)).cells) rfl rfl rfl rfl rfl rfl ?_
    conv=>arg 8;simp only[zA,zB,zC,zD,zE,zF,zG,zH,zI,rowS,ret,id_eq]
    repeat(first|refine QV QP ?_|refine QZ ?_|refine qcT rfl ?_|refine qcF rfl ?_|refine E_blockX ?_|refine E_blockO rfl ?_|refine qs rfl rfl rfl rfl rfl rfl ?_|((try refine qg rfl rfl rfl ?_);first|refine QV QP ?_|refine QV (rr_loadB (i := 3) TyC.ty rfl rfl rfl) ?_|refine QV QL ?_|refine QV QA ?_|refine QV (rr_not rfl rfl) ?_|refine QV QlT ?_|refine QV QlF ?_|refine QV QnT ?_|refine QV QnF ?_|refine QV QaA ?_|refine QV QeT ?_|refine QV QeF ?_))
    refine TL_call (he1 EntersC.en rfl rfl) (fun w' hm => (of_calls _ g w' (hGr w' _ hm rfl rfl) c0 N hNn).mono fun e w2 h => meets_of h) rfl rfl rfl ?_
    intro x10 _
    conv=>arg 8;simp only[zA,zB,zC,zD,zE,zF,zG,zH,zI,rowS,ret,id_eq]
    repeat(first|refine QV QP ?_|refine QZ ?_|refine qcT rfl ?_|refine qcF rfl ?_|refine E_blockX ?_|refine E_blockO rfl ?_|refine qs rfl rfl rfl rfl rfl rfl ?_|((try refine qg rfl rfl rfl ?_);first|refine QV QP ?_|refine QV QL ?_|refine QV QA ?_|refine QV (rr_not rfl rfl) ?_|refine QV QlT ?_|refine QV QlF ?_|refine QV QnT ?_|refine QV QnF ?_|refine QV QaA ?_|refine QV QeT ?_|refine QV QeF ?_))
    refine TL_new rfl fun g10 => ?_
    conv=>arg 8;simp only[zA,zB,zC,zD,zE,zF,zG,zH,zI,rowS,ret,id_eq]
    refine TL_storeB (i := 12) rfl rfl rfl rfl rfl rfl ?_
    refine TL_pick [0, 1, 2, 3, 4, 5, 6] (by decide) rfl ?_
    repeat(first|refine QV QP ?_|refine QZ ?_|refine qcT rfl ?_|refine qcF rfl ?_|refine E_blockX ?_|refine E_blockO rfl ?_|refine qs rfl rfl rfl rfl rfl rfl ?_|((try refine qg rfl rfl rfl ?_);first|refine QV QP ?_|refine QV (rr_loadB (i := 3) TyC.ty rfl rfl rfl) ?_|refine QV QL ?_|refine QV QA ?_|refine QV (rr_not rfl rfl) ?_|refine QV QlT ?_|refine QV QlF ?_|refine QV QnT ?_|refine QV QnF ?_|refine QV QaA ?_|refine QV QeT ?_|refine QV QeF ?_))
    refine TL_call (he1 EntersC.en rfl rfl) (fun w hm => llMake_calls _ g w (hGr w _ hm rfl rfl) c0 T N hTt hNn) rfl rfl rfl ?_
    rintro ⟨gl, vls, vlo⟩ _
    refine TL_pick [0, 1, 2, 3, 4, 5, 6] (by decide) rfl ?_
    repeat(first|refine QV QP ?_|refine QZ ?_|refine qcT rfl ?_|refine qcF rfl ?_|refine E_blockX ?_|refine E_blockO rfl ?_|refine qs rfl rfl rfl rfl rfl rfl ?_|((try refine qg rfl rfl rfl ?_);first|refine QV QP ?_|refine QV (rr_build rfl build_it99) ?_|refine QV QL ?_|refine QV QA ?_|refine QV (rr_not rfl rfl) ?_|refine QV QlT ?_|refine QV QlF ?_|refine QV QnT ?_|refine QV QnF ?_|refine QV QaA ?_|refine QV QeT ?_|refine QV QeF ?_))
    refine TL_call (he2 EntersC.en rfl rfl rfl) (fun w hm => hI _ hm.below) rfl rfl rfl ?_
    intro gi _
    conv=>arg 8;simp only[zA,zB,zC,zD,zE,zF,zG,zH,zI,rowS,ret,id_eq]
    repeat(first|refine QV QP ?_|refine QZ ?_|refine qcT rfl ?_|refine qcF rfl ?_|refine E_blockX ?_|refine E_blockO rfl ?_|refine qs rfl rfl rfl rfl rfl rfl ?_|((try refine qg rfl rfl rfl ?_);first|refine QV QP ?_|refine QV (rr_loadB (i := 3) TyC.ty rfl rfl rfl) ?_|refine QV QL ?_|refine QV QA ?_|refine QV (rr_not rfl rfl) ?_|refine QV QlT ?_|refine QV QlF ?_|refine QV QnT ?_|refine QV QnF ?_|refine QV QaA ?_|refine QV QeT ?_|refine QV QeF ?_))
    refine TL_call (he2 EntersC.en rfl rfl rfl) (fun w hm => itemsClosed_calls _ g _ l w (hGr w _ hm rfl rfl) (sl_blk (i := 7) rfl (rmI_get l) (by omega) (by omega) w hm)) rfl rfl rfl ?_
    intro vc _
    conv=>arg 8;simp only[zA,zB,zC,zD,zE,zF,zG,zH,zI,rowS,ret,id_eq, itemsS]
    conv => arg 7; simp only [itemsS]
    repeat(first|refine QV QP ?_|refine QZ ?_|refine qcT rfl ?_|refine qcF rfl ?_|refine E_blockX ?_|refine E_blockO rfl ?_|refine qs rfl rfl rfl rfl rfl rfl ?_|((try refine qg rfl rfl rfl ?_);first|refine QV QP ?_|refine QV (rr_loadB (i := 3) TyC.ty rfl rfl rfl) ?_|refine QV QL ?_|refine QV QA ?_|refine QV (rr_not rfl rfl) ?_|refine QV QlT ?_|refine QV QlF ?_|refine QV QnT ?_|refine QV QnF ?_|refine QV QaA ?_|refine QV QeT ?_|refine QV QeF ?_))
    refine TL_call (he1 EntersC.en rfl rfl) (fun w hm => lrMakeW_calls _ g w (hGr w _ hm rfl rfl)) rfl rfl rfl ?_
    rintro ⟨⟨vA, vas, FA, vG, vgs, FG⟩, vf⟩ hx
    obtain ⟨aA, nA, cA, rfl⟩ := hx
    conv=>arg 8;simp only[zA,zB,zC,zD,zE,zF,zG,zH,zI,rowS,ret,id_eq, makeWS]
    conv => arg 7; simp only [makeWS]
    refine TL_know (i := 9) rfl row_slm fun hrow => ?_
    obtain ⟨aG, cG, rfl, hnG, haG⟩ := hrow
    refine TL_know (i := 9) (φ := vgs.length = (outT g).2.1.length) rfl (fun w h => by have := h.1; simpa using this) fun hgl => ?_
    generalize (outT g).2.1.length = nG at *
    repeat(first|refine QV QP ?_|refine QZ ?_|refine qcT rfl ?_|refine qcF rfl ?_|refine E_blockX ?_|refine E_blockO rfl ?_|refine qs rfl rfl rfl rfl rfl rfl ?_|((try refine qg rfl rfl rfl ?_);first|refine QV QP ?_|refine QV QL ?_|refine QV QA ?_|refine QV (rr_not rfl rfl) ?_|refine QV QlT ?_|refine QV QlF ?_|refine QV QnT ?_|refine QV QnF ?_|refine QV QaA ?_|refine QV QeT ?_|refine QV QeF ?_))
    refine TL_new rfl fun g18 => ?_
    conv=>arg 8;simp only[zA,zB,zC,zD,zE,zF,zG,zH,zI,rowS,ret,id_eq]
    refine TL_storeB (i := 11) (cs' := #[.slice aA nA cA, .slice aG nG cG]) rfl rfl rfl rfl rfl rfl ?_
    conv=>arg 8;simp only[zA,zB,zC,zD,zE,zF,zG,zH,zI,rowS,ret,id_eq]
    have heq := fun v v' w' h h' => equalItT_calls v v' l l w' h h'
    have heq2 := fun v v' w' h h' => equalItT_calls v v' (closedA g l) (closedA g l) w' h h'
    rw [decide_eq_true rfl] at heq heq2
    repeat(first|refine QV QP ?_|refine QZ ?_|refine qcT rfl ?_|refine qcF rfl ?_|refine E_blockX ?_|refine E_blockO rfl ?_|refine qs rfl rfl rfl rfl rfl rfl ?_|((try refine qg rfl rfl rfl ?_);first|refine QV QP ?_|refine QV (rr_loadB (i := 3) TyC.ty rfl rfl rfl) ?_|refine QV (rr_loadB (i := 0) TyC.ty rfl rfl rfl) ?_|refine QV QL ?_|refine QV QA ?_|refine QV (rr_not rfl rfl) ?_|refine QV QlT ?_|refine QV QlF ?_|refine QV QnT ?_|refine QV QnF ?_|refine QV QaA ?_|refine QV QeT ?_|refine QV QeF ?_))
    refine TL_call (he2 EntersC.en rfl rfl rfl) (fun w hm => stays_calls _ _ g gb w (hg' w hm.below) hb (hm.get (i := 1) rfl) (hm.get (i := 2) rfl)) rfl rfl rfl ?_
    intro _ _
    conv=>arg 8;simp only[zA,zB,zC,zD,zE,zF,zG,zH,zI,rowS,ret,id_eq]
    repeat(first|refine QV QP ?_|refine QZ ?_|refine qcT rfl ?_|refine qcF rfl ?_|refine E_blockX ?_|refine E_blockO rfl ?_|refine qs rfl rfl rfl rfl rfl rfl ?_|((try refine qg rfl rfl rfl ?_);first|refine QV QP ?_|refine QV (rr_not rfl rfl) ?_|refine QV QL ?_|refine QV QA ?_|refine QV (rr_not rfl rfl) ?_|refine QV QlT ?_|refine QV QlF ?_|refine QV QnT ?_|refine QV QnF ?_|refine QV QaA ?_|refine QV QeT ?_|refine QV QeF ?_))
    refine TL_gcall (he2 EntersC.en rfl rfl rfl) (fun w hm => heq _ _ w (sl_blk (i := 7) rfl (rmI_get l) (by omega) (by omega) w hm) (hs.gr hm.below)) rfl rfl rfl rfl rfl ?_
    intro _ _
    conv=>arg 8;simp only[zA,zB,zC,zD,zE,zF,zG,zH,zI,rowS,ret,id_eq]
    repeat(first|refine QV QP ?_|refine QZ ?_|refine qcT rfl ?_|refine qcF rfl ?_|refine E_blockX ?_|refine E_blockO rfl ?_|refine qs rfl rfl rfl rfl rfl rfl ?_|((try refine qg rfl rfl rfl ?_);first|refine QV QP ?_|refine QV (rr_not rfl rfl) ?_|refine QV (rr_build rfl build_it99) ?_|refine QV QL ?_|refine QV QA ?_|refine QV (rr_not rfl rfl) ?_|refine QV QlT ?_|refine QV QlF ?_|refine QV QnT ?_|refine QV QnF ?_|refine QV QaA ?_|refine QV QeT ?_|refine QV QeF ?_))
    refine TL_gcall (he2 EntersC.en rfl rfl rfl) (fun w hm => filledItZ_calls gi (l.length + 3) l (99, 0, 0) w (by omega) (by omega) (fun j u hj => at_blk (i := 7) rfl (rmI_get2 l j u hj) w hm)) rfl rfl rfl rfl rfl ?_
    intro _ _
    conv=>arg 8;simp only[zA,zB,zC,zD,zE,zF,zG,zH,zI,rowS,ret,id_eq]
    repeat(first|refine QV QP ?_|refine QZ ?_|refine qcT rfl ?_|refine qcF rfl ?_|refine E_blockX ?_|refine E_blockO rfl ?_|refine qs rfl rfl rfl rfl rfl rfl ?_|((try refine qg rfl rfl rfl ?_);first|refine QV QP ?_|refine QV (rr_not rfl rfl) ?_|refine QV (rr_load1 (v := .slice ah g.prods.length ch) TyC.ty rfl (at_blk (i := 3) rfl rfl)) ?_|refine QV QL ?_|refine QV QA ?_|refine QV (rr_not rfl rfl) ?_|refine QV QlT ?_|refine QV QlF ?_|refine QV QnT ?_|refine QV QnF ?_|refine QV QaA ?_|refine QV QeT ?_|refine QV QeF ?_))
    refine T_pick [0, 1, 2, 4, 5, 6, 7, 8, 9, 10, 11] (by decide) rfl ?_
    refine T_reown (i := 2) (famP (fun i => i < g.prods.length ∧ 0 ≤ i) (roomF g.prods gb)) rfl (fam_congr (fun k h => h.1) fun _ _ => rfl) (fam_foot (fun k h => h.1) fun _ _ => rfl) ?_
    refine T_loop (ι := Nat) (fun j => j ≤ g.prods.length) (fun j => [(1, vl), (2, .pointer (some ⟨g2, 0, none⟩)), (8, .pointer (some ⟨g8, 0, none⟩)), (15, .slice (some ⟨gi, 0, none⟩) l.length (l.length + 3)), (16, vc), (18, .pointer (some ⟨g18, 0, none⟩)), (116, .slice ah g.prods.length ch), (117, .int .i64 g.prods.length), (118, .int .i64 (j : Int))])
      (fun j => [blkO g2 (graV g.terms g.nons vp).cells 24, rowO 57 2 (.slice ah g.prods.length ch) g.prods.length ((List.range g.prods.length).flatMap (pcR g.prods gb)), famP (fun i => i < g.prods.length ∧ j ≤ i) (roomF g.prods gb), rowO 57 2 (.slice am g.prods.length cm) g.prods.length (hvs.flatMap hvC), wrG 60 2 F8 (hvs.map (·.2)), blkO g8 (graV g.terms g.nons (.slice am g.prods.length cm)).cells 24, blkO gi (rmI l) 43, rowO 43 3 vc (closedA g l).length ((closedA g l).flatMap itC), rowO 61 1 (.slice aG nG cG) nG vgs, wrG 3 1 FG vgs, blkO g18 #[.slice aA nA cA, .slice aG nG cG] 48]) (fun j => g.prods.length - j) 0 (Nat.zero_le _) (by repeat' (first | exact True.intro | refine And.intro rfl ?_)) rfl ?_
    intro j i1
    by_cases c1 : j < g.prods.length
    · obtain ⟨gh, rfl⟩ := hah (by omega)
      have hbj : (prodAt g.prods (j : Int)).2.length ≤ 8796093021952 := by
        have hpe : prodAt g.prods (j : Int) = g.prods[j] := by unfold prodAt; rw [Int.toNat_natCast, List.getD_eq_getElem?_getD, List.getElem?_eq_getElem c1]; rfl
        rw [hpe]; exact hb _ (List.getElem_mem c1)
      have hsz : (rmC (prodAt g.prods (j : Int)).2).size = ((prodAt g.prods (j : Int)).2.length + 3) * 2 := by
        unfold rmC
        have := len_el SymZ_len (prodAt g.prods (j : Int)).2
        simp only [List.size_toArray, List.length_append, this]
        simp [symC]; omega
      have hat : ∀ (L : List Own) (hL : L[1]? = some (rowO 57 2 (.slice (some ⟨gh, 0, none⟩) g.prods.length ch) g.prods.length ((List.range g.prods.length).flatMap (pcR g.prods gb)))) (q : Nat) (u : Value), ([.int .i64 (prodAt g.prods (j : Int)).1, .slice (some ⟨gb j, 0, none⟩) (prodAt g.prods (j : Int)).2.length ((prodAt g.prods (j : Int)).2.length + 3)] : List Value)[q]? = some u → At (w : Base) L ⟨gh, 0 + j * 2 + q, none⟩ u := fun L hL q u hu =>
        at_rowel (c := 2) (fun _ => rfl) hL (show j < (List.range g.prods.length).length by rw [List.length_range]; exact c1) q u (by rw [List.getElem_range]; exact hu)
      repeat(first|refine QV QP ?_|refine QZ ?_|refine qcT rfl ?_|refine qcF rfl ?_|refine E_blockX ?_|refine E_blockO rfl ?_|refine qs rfl rfl rfl rfl rfl rfl ?_|((try refine qg rfl rfl rfl ?_);first|refine QV QP ?_|refine QV (rr_idxc Und.eq TyC.ty rfl rfl c1) ?_|refine QV (rr_loadN TyC.ty rfl rfl (hat _ rfl)) ?_|refine QV QL ?_|refine QV QA ?_|refine QV (rr_not rfl rfl) ?_|refine QV QlT ?_|refine QV QlF ?_|refine QV QnT ?_|refine QV QnF ?_|refine QV QaA ?_|refine QV QeT ?_|refine QV QeF ?_))
      refine TL_new rfl fun g22 => ?_
      conv=>arg 8;simp only[zA,zB,zC,zD,zE,zF,zG,zH,zI,rowS,ret,id_eq]
      refine TL_storeB (i := 11) (cs' := #[.int .i64 (prodAt g.prods (j : Int)).1, .slice (some ⟨gb j, 0, none⟩) (prodAt g.prods (j : Int)).2.length ((prodAt g.prods (j : Int)).2.length + 3)]) rfl rfl rfl rfl rfl rfl ?_
      conv=>arg 8;simp only[zA,zB,zC,zD,zE,zF,zG,zH,zI,rowS,ret,id_eq]
      repeat(first|refine QV QP ?_|refine QZ ?_|refine qcT rfl ?_|refine qcF rfl ?_|refine E_blockX ?_|refine E_blockO rfl ?_|refine qs rfl rfl rfl rfl rfl rfl ?_|((try refine qg rfl rfl rfl ?_);first|refine QV QP ?_|refine QV (rr_load1 (v := .slice (some ⟨gb j, 0, none⟩) (prodAt g.prods (j : Int)).2.length ((prodAt g.prods (j : Int)).2.length + 3)) TyC.ty rfl (at_blk (i := 11) rfl rfl)) ?_|refine QV (rr_build rfl build_sym19) ?_|refine QV QL ?_|refine QV QA ?_|refine QV (rr_not rfl rfl) ?_|refine QV QlT ?_|refine QV QlF ?_|refine QV QnT ?_|refine QV QnF ?_|refine QV QaA ?_|refine QV QeT ?_|refine QV QeF ?_))
      refine TL_take (q := 2) j rfl ⟨c1, Nat.le_refl j⟩ ?_
      conv=>arg 8;simp only[zA,zB,zC,zD,zE,zF,zG,zH,zI,rowS,ret,id_eq]
      refine TL_callB [12] [0, 1, 2, 3, 4, 5, 6, 7, 8, 9, 10] (by decide) rfl rfl (he2 EntersC.en rfl rfl rfl) (fun w hm hb => spoilSymZ_calls (gb j) (prodAt g.prods (j : Int)).2.length ((prodAt g.prods (j : Int)).2.length + 3) (rmC (prodAt g.prods (j : Int)).2) (2, 19) w _ (by omega) (by omega) hsz rfl hb) rfl rfl rfl ?_
      intro _ _
      conv=>arg 8;simp only[zA,zB,zC,zD,zE,zF,zG,zH,zI,rowS,ret,id_eq]
      repeat(first|refine QV QP ?_|refine QZ ?_|refine qcT rfl ?_|refine qcF rfl ?_|refine E_blockX ?_|refine E_blockO rfl ?_|refine qs rfl rfl rfl rfl rfl rfl ?_|((try refine qg rfl rfl rfl ?_);first|refine QV QP ?_|refine QV QL ?_|refine QV QA ?_|refine QV (rr_not rfl rfl) ?_|refine QV QlT ?_|refine QV QlF ?_|refine QV QnT ?_|refine QV QnF ?_|refine QV QaA ?_|refine QV QeT ?_|refine QV QeF ?_))
      refine E_pick [0, 1, 2, 3, 4, 5, 6, 7, 8, 9, 10] (by decide) rfl ?_
      refine E_reown (i := 2) (famP (fun i => i < g.prods.length ∧ j + 1 ≤ i) (roomF g.prods gb)) rfl (fam_congr (fun k h => ⟨⟨h.1, by omega⟩, by omega⟩) fun _ _ => rfl) (fam_foot (fun k h => ⟨⟨h.1, by omega⟩, by omega⟩) fun _ _ => rfl) ?_
      exact E_round (j + 1) (by omega) (by show g.prods.length - (j + 1) < g.prods.length - j; omega) (by repeat' (first | exact True.intro | refine And.intro rfl ?_)) rfl
    · repeat(first|refine QV QP ?_|refine QZ ?_|refine qcT rfl ?_|refine qcF rfl ?_|refine E_blockX ?_|refine E_blockO rfl ?_|refine qs rfl rfl rfl rfl rfl rfl ?_|((try refine qg rfl rfl rfl ?_);first|refine QV QP ?_|refine QV (rr_load1 (v := .slice aG nG cG) TyC.ty rfl (at_blk (i := 10) rfl rfl)) ?_|refine QV QL ?_|refine QV QA ?_|refine QV (rr_not rfl rfl) ?_|refine QV QlT ?_|refine QV QlF ?_|refine QV QnT ?_|refine QV QnF ?_|refine QV QaA ?_|refine QV QeT ?_|refine QV QeF ?_))
      refine T_pick [0, 3, 4, 5, 6, 7, 8, 9] (by decide) rfl ?_
      refine T_loop (ι := Nat) (fun j => j ≤ nG) (fun j => [(1, vl), (2, .pointer (some ⟨g2, 0, none⟩)), (8, .pointer (some ⟨g8, 0, none⟩)), (15, .slice (some ⟨gi, 0, none⟩) l.length (l.length + 3)), (16, vc), (128, .slice aG nG cG), (129, .int .i64 nG), (130, .int .i64 (j : Int))])
        (fun _ => [blkO g2 (graV g.terms g.nons vp).cells 24, rowO 57 2 (.slice am g.prods.length cm) g.prods.length (hvs.flatMap hvC), wrG 60 2 F8 (hvs.map (·.2)), blkO g8 (graV g.terms g.nons (.slice am g.prods.length cm)).cells 24, blkO gi (rmI l) 43, rowO 43 3 vc (closedA g l).length ((closedA g l).flatMap itC), rowO 61 1 (.slice aG nG cG) nG vgs, wrG 3 1 FG vgs]) (fun j => nG - j) 0 (Nat.zero_le _) (by repeat' (first | exact True.intro | refine And.intro rfl ?_)) rfl ?_
      intro j i2
      by_cases c2 : j < nG
      · obtain ⟨gg, rfl⟩ := haG (by omega)
        have hq : vgs[0 + j]? = some (vgs[j]'(by omega)) := by rw [Nat.zero_add]; exact List.getElem?_eq_getElem _
        have hmem : vgs[j]'(by omega) ∈ vgs := List.getElem_mem _
        generalize vgs[j]'(by omega) = u at hq hmem
        repeat(first|refine QV QP ?_|refine QZ ?_|refine qcT rfl ?_|refine qcF rfl ?_|refine E_blockX ?_|refine E_blockO rfl ?_|refine qs rfl rfl rfl rfl rfl rfl ?_|((try refine qg rfl rfl rfl ?_);first|refine QV QP ?_|refine QV (rr_idx1 Und.eq TyC.ty rfl rfl c2) ?_|refine QV (rr_load1 (v := u) TyC.ty rfl (at_row (i := 6) rfl hq)) ?_|refine QV QL ?_|refine QV QA ?_|refine QV (rr_not rfl rfl) ?_|refine QV QlT ?_|refine QV QlF ?_|refine QV QnT ?_|refine QV QnF ?_|refine QV QaA ?_|refine QV QeT ?_|refine QV QeF ?_))
        refine TL_openWr (i := 7) rfl hmem (fun hu => ?_) fun gu mu cu csu hu z1 z2 z3 => ?_
        · subst hu
          refine TL_call (he2 EntersC.en rfl rfl rfl) (fun w hm => spoilNilSmIr_calls 5 w) rfl rfl rfl ?_
          intro _ _
          conv=>arg 8;simp only[zA,zB,zC,zD,zE,zF,zG,zH,zI,rowS,ret,id_eq]
          repeat(first|refine QV QP ?_|refine QZ ?_|refine qcT rfl ?_|refine qcF rfl ?_|refine E_blockX ?_|refine E_blockO rfl ?_|refine qs rfl rfl rfl rfl rfl rfl ?_|((try refine qg rfl rfl rfl ?_);first|refine QV QP ?_|refine QV QL ?_|refine QV QA ?_|refine QV (rr_not rfl rfl) ?_|refine QV QlT ?_|refine QV QlF ?_|refine QV QnT ?_|refine QV QnF ?_|refine QV QaA ?_|refine QV QeT ?_|refine QV QeF ?_))
          exact E_round (j + 1) (by omega) (by show nG - (j + 1) < nG - j; omega) (by repeat' (first | exact True.intro | refine And.intro rfl ?_)) rfl
        · subst hu
          conv=>arg 8;simp only[zA,zB,zC,zD,zE,zF,zG,zH,zI,rowS,ret,id_eq]
          refine TL_callB [8] [0, 1, 2, 3, 4, 5, 6, 7] (by decide) rfl rfl (he2 EntersC.en rfl rfl rfl) (fun w hm hb => spoilSmIr_calls gu mu cu csu 5 w _ z1 z2 z3 rfl hb) rfl rfl rfl ?_
          intro _ _
          conv=>arg 8;simp only[zA,zB,zC,zD,zE,zF,zG,zH,zI,rowS,ret,id_eq]
          repeat(first|refine QV QP ?_|refine QZ ?_|refine qcT rfl ?_|refine qcF rfl ?_|refine E_blockX ?_|refine E_blockO rfl ?_|refine qs rfl rfl rfl rfl rfl rfl ?_|((try refine qg rfl rfl rfl ?_);first|refine QV QP ?_|refine QV QL ?_|refine QV QA ?_|refine QV (rr_not rfl rfl) ?_|refine QV QlT ?_|refine QV QlF ?_|refine QV QnT ?_|refine QV QnF ?_|refine QV QaA ?_|refine QV QeT ?_|refine QV QeF ?_))
          refine E_merge (wrG 3 1 FG vgs) 7 8 [0, 1, 2, 3, 4, 5, 6] (by decide) rfl rfl rfl wr_foot2 (fun w h1 h2 => wr_close h1 h2 (by simp [kit.intC])) ?_
          exact E_round (j + 1) (by omega) (by show nG - (j + 1) < nG - j; omega) (by repeat' (first | exact True.intro | refine And.intro rfl ?_)) rfl
      · repeat(first|refine QV QP ?_|refine QZ ?_|refine qcT rfl ?_|refine qcF rfl ?_|refine E_blockX ?_|refine E_blockO rfl ?_|refine qs rfl rfl rfl rfl rfl rfl ?_|((try refine qg rfl rfl rfl ?_);first|refine QV QP ?_|refine QV (rr_load1 (v := .slice am g.prods.length cm) TyC.ty rfl (at_blk (i := 3) rfl rfl)) ?_|refine QV QL ?_|refine QV QA ?_|refine QV (rr_not rfl rfl) ?_|refine QV QlT ?_|refine QV QlF ?_|refine QV QnT ?_|refine QV QnF ?_|refine QV QaA ?_|refine QV QeT ?_|refine QV QeF ?_))
        refine T_pick [0, 1, 2, 4, 5] (by decide) rfl ?_
        refine T_loop (ι := Nat) (fun j => j ≤ g.prods.length) (fun j => [(1, vl), (2, .pointer (some ⟨g2, 0, none⟩)), (15, .slice (some ⟨gi, 0, none⟩) l.length (l.length + 3)), (16, vc), (138, .slice am g.prods.length cm), (139, .int .i64 g.prods.length), (140, .int .i64 (j : Int))])
          (fun _ => [blkO g2 (graV g.terms g.nons vp).cells 24, rowO 57 2 (.slice am g.prods.length cm) g.prods.length (hvs.flatMap hvC), wrG 60 2 F8 (hvs.map (·.2)), blkO gi (rmI l) 43, rowO 43 3 vc (closedA g l).length ((closedA g l).flatMap itC)]) (fun j => g.prods.length - j) 0 (Nat.zero_le _) (by repeat' (first | exact True.intro | refine And.intro rfl ?_)) rfl ?_
        intro j i3
        by_cases c3 : j < g.prods.length
        · obtain ⟨gm, rfl⟩ := ham (by omega)
          have hjl : j < hvs.length := by rw [show hvs.length = g.prods.length from hvl]; exact c3
          have hat : ∀ (L : List Own) (hL : L[1]? = some (rowO 57 2 (.slice (some ⟨gm, 0, none⟩) g.prods.length cm) g.prods.length (hvs.flatMap hvC))) (q : Nat) (u : Value), (hvC hvs[j])[q]? = some u → At (w : Base) L ⟨gm, 0 + j * 2 + q, none⟩ u := fun L hL => at_rowel hvC_len hL hjl
          have hmem : (hvs[j]).2 ∈ hvs.map (·.2) := List.mem_map.2 ⟨_, List.getElem_mem hjl, rfl⟩
          have hone : ∀ w', (wrG 60 2 F8 (hvs.map (·.2))).holds w' → ∃ a n c, (hvs[j]).2 = .slice a n c := fun w' h => by
            rcases h.1 _ hmem with h | ⟨a, n, c, h, _⟩
            · exact ⟨_, _, _, h⟩
            · exact ⟨_, _, _, h⟩
          generalize hvs[j] = p at hat hmem hone
          obtain ⟨hd, ve⟩ := p
          dsimp only at hmem hone
          refine T_know (i := 2) rfl hone fun hve => ?_
          obtain ⟨a0, n0, k0, rfl⟩ := hve
          repeat(first|refine QV QP ?_|refine QZ ?_|refine qcT rfl ?_|refine qcF rfl ?_|refine E_blockX ?_|refine E_blockO rfl ?_|refine qs rfl rfl rfl rfl rfl rfl ?_|((try refine qg rfl rfl rfl ?_);first|refine QV QP ?_|refine QV (rr_idxc Und.eq TyC.ty rfl rfl c3) ?_|refine QV (rr_loadN (cs := [.int .i64 hd, .slice a0 n0 k0]) TyC.ty rfl rfl (hat _ rfl)) ?_|refine QV QL ?_|refine QV QA ?_|refine QV (rr_not rfl rfl) ?_|refine QV QlT ?_|refine QV QlF ?_|refine QV QnT ?_|refine QV QnF ?_|refine QV QaA ?_|refine QV QeT ?_|refine QV QeF ?_))
          refine TL_new rfl fun g26 => ?_
          conv=>arg 8;simp only[zA,zB,zC,zD,zE,zF,zG,zH,zI,rowS,ret,id_eq]
          refine TL_storeB (i := 5) (cs' := #[.int .i64 hd, .slice a0 n0 k0]) rfl rfl rfl rfl rfl rfl ?_
          conv=>arg 8;simp only[zA,zB,zC,zD,zE,zF,zG,zH,zI,rowS,ret,id_eq]
          repeat(first|refine QV QP ?_|refine QZ ?_|refine qcT rfl ?_|refine qcF rfl ?_|refine E_blockX ?_|refine E_blockO rfl ?_|refine qs rfl rfl rfl rfl rfl rfl ?_|((try refine qg rfl rfl rfl ?_);first|refine QV QP ?_|refine QV (rr_load1 (v := .slice a0 n0 k0) TyC.ty rfl (at_blk (i := 5) rfl rfl)) ?_|refine QV (rr_build rfl build_sym0) ?_|refine QV QL ?_|refine QV QA ?_|refine QV (rr_not rfl rfl) ?_|refine QV QlT ?_|refine QV QlF ?_|refine QV QnT ?_|refine QV QnF ?_|refine QV QaA ?_|refine QV QeT ?_|refine QV QeF ?_))
          refine TL_openWr (i := 2) rfl hmem (fun hu => ?_) fun gu mu cu csu hu z1 z2 z3 => ?_
          · cases hu
            refine TL_call (he2 EntersC.en rfl rfl rfl) (fun w hm => spoilNilSymZ_calls (0, 0) w) rfl rfl rfl ?_
            intro _ _
            conv=>arg 8;simp only[zA,zB,zC,zD,zE,zF,zG,zH,zI,rowS,ret,id_eq]
            repeat(first|refine QV QP ?_|refine QZ ?_|refine qcT rfl ?_|refine qcF rfl ?_|refine E_blockX ?_|refine E_blockO rfl ?_|refine qs rfl rfl rfl rfl rfl rfl ?_|((try refine qg rfl rfl rfl ?_);first|refine QV QP ?_|refine QV QL ?_|refine QV QA ?_|refine QV (rr_not rfl rfl) ?_|refine QV QlT ?_|refine QV QlF ?_|refine QV QnT ?_|refine QV QnF ?_|refine QV QaA ?_|refine QV QeT ?_|refine QV QeF ?_))
            refine E_pick [0, 1, 2, 3, 4] (by decide) rfl ?_
            exact E_round (j + 1) (by omega) (by show g.prods.length - (j + 1) < g.prods.length - j; omega) (by repeat' (first | exact True.intro | refine And.intro rfl ?_)) rfl
          · cases hu
            conv=>arg 8;simp only[zA,zB,zC,zD,zE,zF,zG,zH,zI,rowS,ret,id_eq]
            refine TL_callB [6] [0, 1, 2, 3, 4] (by decide) rfl rfl (he2 EntersC.en rfl rfl rfl) (fun w hm hb => spoilSymZ_calls gu n0 k0 csu (0, 0) w _ z1 z2 z3 rfl hb) rfl rfl rfl ?_
            intro _ _
            conv=>arg 8;simp only[zA,zB,zC,zD,zE,zF,zG,zH,zI,rowS,ret,id_eq]
            repeat(first|refine QV QP ?_|refine QZ ?_|refine qcT rfl ?_|refine qcF rfl ?_|refine E_blockX ?_|refine E_blockO rfl ?_|refine qs rfl rfl rfl rfl rfl rfl ?_|((try refine qg rfl rfl rfl ?_);first|refine QV QP ?_|refine QV QL ?_|refine QV QA ?_|refine QV (rr_not rfl rfl) ?_|refine QV QlT ?_|refine QV QlF ?_|refine QV QnT ?_|refine QV QnF ?_|refine QV QaA ?_|refine QV QeT ?_|refine QV QeF ?_))
            refine E_merge (wrG 60 2 F8 (hvs.map (·.2))) 2 5 [0, 1, 3, 4] (by decide) rfl rfl rfl (wr_foot2 (c := k0 * 2)) (fun w h1 h2 => wr_close h1 h2 (by simp [symC])) ?_
            refine E_pick [0, 1, 4, 2, 3] (by decide) rfl ?_
            exact E_round (j + 1) (by omega) (by show g.prods.length - (j + 1) < g.prods.length - j; omega) (by repeat' (first | exact True.intro | refine And.intro rfl ?_)) rfl
        · repeat(first|refine QV QP ?_|refine QZ ?_|refine qcT rfl ?_|refine qcF rfl ?_|refine E_blockX ?_|refine E_blockO rfl ?_|refine qs rfl rfl rfl rfl rfl rfl ?_|((try refine qg rfl rfl rfl ?_);first|refine QV QP ?_|refine QV (rr_loadB (i := 0) TyC.ty rfl rfl rfl) ?_|refine QV QL ?_|refine QV QA ?_|refine QV (rr_not rfl rfl) ?_|refine QV QlT ?_|refine QV QlF ?_|refine QV QnT ?_|refine QV QnF ?_|refine QV QaA ?_|refine QV QeT ?_|refine QV QeF ?_))
          refine TL_call (he2 EntersC.en rfl rfl rfl) (fun w hm => hC _ hm.below) rfl rfl rfl ?_
          intro vc2 _
          conv=>arg 8;simp only[zA,zB,zC,zD,zE,zF,zG,zH,zI,rowS,ret,id_eq, itemsS]
          conv => arg 7; simp only [itemsS]
          repeat(first|refine QV QP ?_|refine QZ ?_|refine qcT rfl ?_|refine qcF rfl ?_|refine E_blockX ?_|refine E_blockO rfl ?_|refine qs rfl rfl rfl rfl rfl rfl ?_|((try refine qg rfl rfl rfl ?_);first|refine QV QP ?_|refine QV (rr_build rfl build_it00) ?_|refine QV QL ?_|refine QV QA ?_|refine QV (rr_not rfl rfl) ?_|refine QV QlT ?_|refine QV QlF ?_|refine QV QnT ?_|refine QV QnF ?_|refine QV QaA ?_|refine QV QeT ?_|refine QV QeF ?_))
          refine TL_callB [3] [0, 4, 5] (by decide) rfl rfl (he2 EntersC.en rfl rfl rfl) (fun w hm hb => spoilItZ_calls gi l.length (l.length + 3) (rmI l) (0, 0, 0) w _ (by omega) (by omega) (rmI_size l) rfl hb) rfl rfl rfl ?_
          intro _ _
          conv=>arg 8;simp only[zA,zB,zC,zD,zE,zF,zG,zH,zI,rowS,ret,id_eq]
          repeat(first|refine QV QP ?_|refine QZ ?_|refine qcT rfl ?_|refine qcF rfl ?_|refine E_blockX ?_|refine E_blockO rfl ?_|refine qs rfl rfl rfl rfl rfl rfl ?_|((try refine qg rfl rfl rfl ?_);first|refine QV QP ?_|refine QV QL ?_|refine QV QA ?_|refine QV (rr_not rfl rfl) ?_|refine QV QlT ?_|refine QV QlF ?_|refine QV QnT ?_|refine QV QnF ?_|refine QV QaA ?_|refine QV QeT ?_|refine QV QeF ?_))
          refine TL_call (he2 EntersC.en rfl rfl rfl) (fun w hm => heq2 _ _ w (sl_row (i := 1) rfl w hm) (sl_row (i := 2) rfl w hm)) rfl rfl rfl ?_
          intro _ _
          conv=>arg 8;simp only[zA,zB,zC,zD,zE,zF,zG,zH,zI,rowS,ret,id_eq]
          repeat(first|refine QV QP ?_|refine QZ ?_|refine qcT rfl ?_|refine qcF rfl ?_|refine E_blockX ?_|refine E_blockO rfl ?_|refine qs rfl rfl rfl rfl rfl rfl ?_|((try refine qg rfl rfl rfl ?_);first|refine QV QP ?_|refine QV QL ?_|refine QV QA ?_|refine QV (rr_not rfl rfl) ?_|refine QV QlT ?_|refine QV QlF ?_|refine QV QnT ?_|refine QV QnF ?_|refine QV QaA ?_|refine QV QeT ?_|refine QV QeF ?_))
          exact E_ret1e rfl rfl rfl
  · have hnI : checkI g l ≠ 0 := fun e => c0 (checkI_ok e).1
    have hnA : closedA g l = [] := if_neg hnI
    have hnL : (outT g).2.2.2 ≠ 0 := by
      have h1 : (outA g).2.2 = checkG g := by unfold outA; rw [if_pos c0]
      have h2 : outT g = ([], [], [], (outA g).2.2) := by unfold outT; rw [if_pos (by rw [h1]; exact c0)]
      rw [h2, h1]; exact c0
    repeat(first|refine QV QP ?_|refine QZ ?_|refine qcT rfl ?_|refine qcF rfl ?_|refine E_blockX ?_|refine E_blockO rfl ?_|refine qs rfl rfl rfl rfl rfl rfl ?_|((try refine qg rfl rfl rfl ?_);first|refine QV QP ?_|refine QV (rr_loadB (i := 3) TyC.ty rfl rfl rfl) ?_|refine QV QL ?_|refine QV QA ?_|refine QV (rr_not rfl rfl) ?_|refine QV QlT ?_|refine QV QlF ?_|refine QV QnT ?_|refine QV QnF ?_|refine QV QaA ?_|refine QV QeT ?_|refine QV QeF ?_))
    refine TL_call (he1 EntersC.en rfl rfl) (fun w hm => mirrorE2_calls _ g w (hGr w _ hm rfl rfl) c0) rfl rfl rfl ?_
    intro _ _
    conv=>arg 8;simp only[zA,zB,zC,zD,zE,zF,zG,zH,zI,rowS,ret,id_eq]
    repeat(first|refine QV QP ?_|refine QZ ?_|refine qcT rfl ?_|refine qcF rfl ?_|refine E_blockX ?_|refine E_blockO rfl ?_|refine qs rfl rfl rfl rfl rfl rfl ?_|((try refine qg rfl rfl rfl ?_);first|refine QV QP ?_|refine QV QL ?_|refine QV QA ?_|refine QV (rr_not rfl rfl) ?_|refine QV QlT ?_|refine QV QlF ?_|refine QV QnT ?_|refine QV QnF ?_|refine QV QaA ?_|refine QV QeT ?_|refine QV QeF ?_))
    refine TL_new rfl fun g8 => ?_
    conv=>arg 8;simp only[zA,zB,zC,zD,zE,zF,zG,zH,zI,rowS,ret,id_eq]
    refine TL_storeB (i := 4) (cs' := (graV 0 0 (.slice none 0 0)).cells) rfl rfl rfl rfl rfl rfl ?_
    conv=>arg 8;simp only[zA,zB,zC,zD,zE,zF,zG,zH,zI,rowS,ret,id_eq]
    repeat(first|refine QV QP ?_|refine QZ ?_|refine qcT rfl ?_|refine qcF rfl ?_|refine E_blockX ?_|refine E_blockO rfl ?_|refine qs rfl rfl rfl rfl rfl rfl ?_|((try refine qg rfl rfl rfl ?_);first|refine QV QP ?_|refine QV (rr_loadB (i := 3) TyC.ty rfl rfl rfl) ?_|refine QV QL ?_|refine QV QA ?_|refine QV (rr_not rfl rfl) ?_|refine QV QlT ?_|refine QV QlF ?_|refine QV QnT ?_|refine QV QnF ?_|refine QV QaA ?_|refine QV QeT ?_|refine QV QeF ?_))
    refine TL_call (he1 EntersC.en rfl rfl) (fun w hm => ofE_calls _ g w (hGr w _ hm rfl rfl) c0) rfl rfl rfl ?_
    intro _ _
    conv=>arg 8;simp only[zA,zB,zC,zD,zE,zF,zG,zH,zI,rowS,ret,id_eq]
    repeat(first|refine QV QP ?_|refine QZ ?_|refine qcT rfl ?_|refine qcF rfl ?_|refine E_blockX ?_|refine E_blockO rfl ?_|refine qs rfl rfl rfl rfl rfl rfl ?_|((try refine qg rfl rfl rfl ?_);first|refine QV QP ?_|refine QV QL ?_|refine QV QA ?_|refine QV (rr_not rfl rfl) ?_|refine QV QlT ?_|refine QV QlF ?_|refine QV QnT ?_|refine QV QnF ?_|refine QV QaA ?_|refine QV QeT ?_|refine QV QeF ?_))
    refine TL_new rfl fun g10 => ?_
    conv=>arg 8;simp only[zA,zB,zC,zD,zE,zF,zG,zH,zI,rowS,ret,id_eq]
    refine TL_storeB (i := 5) (cs' := #[.slice none 0 0, .slice none 0 0, .slice none 0 0, .slice none 0 0, .slice none 0 0]) rfl rfl rfl rfl rfl rfl ?_
    conv=>arg 8;simp only[zA,zB,zC,zD,zE,zF,zG,zH,zI,rowS,ret,id_eq]
    repeat(first|refine QV QP ?_|refine QZ ?_|refine qcT rfl ?_|refine qcF rfl ?_|refine E_blockX ?_|refine E_blockO rfl ?_|refine qs rfl rfl rfl rfl rfl rfl ?_|((try refine qg rfl rfl rfl ?_);first|refine QV QP ?_|refine QV (rr_loadB (i := 3) TyC.ty rfl rfl rfl) ?_|refine QV QL ?_|refine QV QA ?_|refine QV (rr_not rfl rfl) ?_|refine QV QlT ?_|refine QV QlF ?_|refine QV QnT ?_|refine QV QnF ?_|refine QV QaA ?_|refine QV QeT ?_|refine QV QeF ?_))
    refine TL_call (he1 EntersC.en rfl rfl) (fun w hm => llMakeE_calls _ g w (hGr w _ hm rfl rfl) c0) rfl rfl rfl ?_
    intro _ _
    conv=>arg 8;simp only[zA,zB,zC,zD,zE,zF,zG,zH,zI,rowS,ret,id_eq]
    repeat(first|refine QV QP ?_|refine QZ ?_|refine qcT rfl ?_|refine qcF rfl ?_|refine E_blockX ?_|refine E_blockO rfl ?_|refine qs rfl rfl rfl rfl rfl rfl ?_|((try refine qg rfl rfl rfl ?_);first|refine QV QP ?_|refine QV (rr_build rfl build_it99) ?_|refine QV QL ?_|refine QV QA ?_|refine QV (rr_not rfl rfl) ?_|refine QV QlT ?_|refine QV QlF ?_|refine QV QnT ?_|refine QV QnF ?_|refine QV QaA ?_|refine QV QeT ?_|refine QV QeF ?_))
    refine TL_call (he2 EntersC.en rfl rfl rfl) (fun w hm => hI _ hm.below) rfl rfl rfl ?_
    intro gi _
    conv=>arg 8;simp only[zA,zB,zC,zD,zE,zF,zG,zH,zI,rowS,ret,id_eq]
    repeat(first|refine QV QP ?_|refine QZ ?_|refine qcT rfl ?_|refine qcF rfl ?_|refine E_blockX ?_|refine E_blockO rfl ?_|refine qs rfl rfl rfl rfl rfl rfl ?_|((try refine qg rfl rfl rfl ?_);first|refine QV QP ?_|refine QV (rr_loadB (i := 3) TyC.ty rfl rfl rfl) ?_|refine QV QL ?_|refine QV QA ?_|refine QV (rr_not rfl rfl) ?_|refine QV QlT ?_|refine QV QlF ?_|refine QV QnT ?_|refine QV QnF ?_|refine QV QaA ?_|refine QV QeT ?_|refine QV QeF ?_))
    refine TL_call (he2 EntersC.en rfl rfl rfl) (fun w hm => itemsClosed_calls _ g _ l w (hGr w _ hm rfl rfl) (sl_blk (i := 6) rfl (rmI_get l) (by omega) (by omega) w hm)) rfl rfl rfl ?_
    intro vc _
    conv=>arg 8;simp only[zA,zB,zC,zD,zE,zF,zG,zH,zI,rowS,ret,id_eq, itemsS]
    conv => arg 7; simp only [itemsS]
    rw [hnA]
    refine TL_know (i := 7) rfl row_slm fun hrow => ?_
    obtain ⟨ac, cc, rfl, -⟩ := hrow
    repeat(first|refine QV QP ?_|refine QZ ?_|refine qcT rfl ?_|refine qcF rfl ?_|refine E_blockX ?_|refine E_blockO rfl ?_|refine qs rfl rfl rfl rfl rfl rfl ?_|((try refine qg rfl rfl rfl ?_);first|refine QV QP ?_|refine QV (rr_loadB (i := 3) TyC.ty rfl rfl rfl) ?_|refine QV QL ?_|refine QV QA ?_|refine QV (rr_not rfl rfl) ?_|refine QV QlT ?_|refine QV QlF ?_|refine QV QnT ?_|refine QV QnF ?_|refine QV QaA ?_|refine QV QeT ?_|refine QV QeF ?_))
    refine TL_call (he1 EntersC.en rfl rfl) (fun w hm => lrMakeW_calls _ g w (hGr w _ hm rfl rfl)) rfl rfl rfl ?_
    rintro ⟨⟨vA, vas, FA, vG, vgs, FG⟩, vf⟩ hx
    obtain ⟨aA, nA, cA, rfl⟩ := hx
    conv=>arg 8;simp only[zA,zB,zC,zD,zE,zF,zG,zH,zI,rowS,ret,id_eq, makeWS]
    conv => arg 7; simp only [makeWS]
    refine TL_know (i := 8) rfl row_slm fun hrow => ?_
    obtain ⟨aG, cG, rfl, -, haG⟩ := hrow
    repeat(first|refine QV QP ?_|refine QZ ?_|refine qcT rfl ?_|refine qcF rfl ?_|refine E_blockX ?_|refine E_blockO rfl ?_|refine qs rfl rfl rfl rfl rfl rfl ?_|((try refine qg rfl rfl rfl ?_);first|refine QV QP ?_|refine QV QL ?_|refine QV QA ?_|refine QV (rr_not rfl rfl) ?_|refine QV QlT ?_|refine QV QlF ?_|refine QV QnT ?_|refine QV QnF ?_|refine QV QaA ?_|refine QV QeT ?_|refine QV QeF ?_))
    refine TL_new rfl fun g18 => ?_
    conv=>arg 8;simp only[zA,zB,zC,zD,zE,zF,zG,zH,zI,rowS,ret,id_eq]
    refine TL_storeB (i := 10) (cs' := #[.slice aA nA cA, .slice aG _ cG]) rfl rfl rfl rfl rfl rfl ?_
    conv=>arg 8;simp only[zA,zB,zC,zD,zE,zF,zG,zH,zI,rowS,ret,id_eq]
    repeat(first|refine QV QP ?_|refine QZ ?_|refine qcT rfl ?_|refine qcF rfl ?_|refine E_blockX ?_|refine E_blockO rfl ?_|refine qs rfl rfl rfl rfl rfl rfl ?_|((try refine qg rfl rfl rfl ?_);first|refine QV QP ?_|refine QV (rr_neq (b := true) rfl rfl (decide_eq_true c0)) ?_|refine QV (rr_neq (b := true) rfl rfl (decide_eq_true hnI)) ?_|refine QV (rr_neq (b := true) rfl rfl (decide_eq_true hnL)) ?_|refine QV (rr_load1 (v := .slice none 0 0) TyC.ty rfl (at_blk (i := 5) rfl rfl)) ?_|refine QV QL ?_|refine QV QA ?_|refine QV (rr_not rfl rfl) ?_|refine QV QlT ?_|refine QV QlF ?_|refine QV QnT ?_|refine QV QnF ?_|refine QV QaA ?_|refine QV (rr_eql (b := true) rfl rfl (decide_eq_true rfl)) ?_|refine QV QeT ?_|refine QV QeF ?_))
    exact E_ret1e rfl rfl rfl
end Go.Proofs.Ytomkjjpdnmcnnaa.grammarOwn


