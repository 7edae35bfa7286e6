/- What able computes; grammars without a Clash have one tree of a word. -/
import Derived.Test.YtnicebdkejkieaaLlM
import Derived.Test.YtnicebdkejkieaaFactsT
namespace Go.Proofs.Ytnicebdkejkieaa.eng
open Go.RowKit kit mix gramL treeL countL factsL derL llL
theorem makeE_calls (v : Value) (g : Gram) (w : World) (h : GraR (fun k => k < w.heap.size) w v g) (hg : checkG g ≠ 0) :
    Calls Try.prog 82 #[v] w (Meets (ret (.tuple #[.slice none 0 0, .slice none 0 0, .int .i64 (checkG g)])) w) := by
  have hof := fun w' (hg' : Gr w w') => ofE_calls v g w' (h.gr hg') hg
  obtain ⟨vp, rfl, h1, _⟩ := h
  generalize checkG g = e at *
  refine enter (args := [graV g.terms g.nons vp]) (n := 119) Try.func82 rfl rfl rfl ?_
  refine T_seq (T_region (TL_box rfl rfl rfl fun g1 => ?_))
  conv => arg 8; simp only [zA, zB, zC, zD, zE, zF, zG, zH, zI, rowS, ret, id_eq]
  repeat (first
    | refine qv rfl (qp rfl) rfl rfl ?_ | refine TL_nil ?_ | refine T_seq ?_ | refine T_region ?_ | refine qcT rfl ?_ | refine qcF rfl ?_ | refine T_skip ?_
    | refine T_exit ?_ | refine T_ret ?_ | refine T_block ?_ | refine E_then ?_ | refine E_thenX ?_ | refine E_thenR ?_ | refine E_blockN ?_
    | refine E_blockR ?_ | refine E_blockX ?_ | refine E_blockO rfl ?_ | refine qs rfl rfl rfl rfl rfl rfl ?_
    | ((try refine qg rfl rfl rfl ?_); first | refine qv rfl (qp rfl) rfl rfl ?_ | refine qv rfl (rr_loadB (i := 0) TyC.ty rfl rfl rfl) rfl rfl ?_ | refine qv rfl (qlen Und.eq rfl) rfl rfl ?_ | refine qv rfl (qfld FldC.fld rfl rfl) rfl rfl ?_ | refine qv rfl (rr_lss rfl rfl (qT (by omega))) rfl rfl ?_ | refine qv rfl (rr_lss rfl rfl (qF (by omega))) rfl rfl ?_ | refine qv rfl (rr_neq rfl rfl (qT (by omega))) rfl rfl ?_ | refine qv rfl (rr_neq rfl rfl (qF (by omega))) rfl rfl ?_ | refine qv rfl (rr_add64 rfl rfl (by omega) (by omega) rfl) rfl rfl ?_ | refine qv rfl (rr_eql rfl rfl (qT (by omega))) rfl rfl ?_ | refine qv rfl (rr_eql rfl rfl (qF (by omega))) rfl rfl ?_))
  refine TL_call (he1 EntersC.en rfl rfl) (fun w hm => hof _ hm.below) rfl rfl rfl ?_
  intro _ _
  conv => arg 8; simp only [zA, zB, zC, zD, zE, zF, zG, zH, zI, rowS, ret, id_eq]
  repeat (first
    | refine qv rfl (qp rfl) rfl rfl ?_ | refine TL_nil ?_ | refine T_seq ?_ | refine T_region ?_ | refine qcT rfl ?_ | refine qcF rfl ?_ | refine T_skip ?_
    | refine T_exit ?_ | refine T_ret ?_ | refine T_block ?_ | refine E_then ?_ | refine E_thenX ?_ | refine E_thenR ?_ | refine E_blockN ?_
    | refine E_blockR ?_ | refine E_blockX ?_ | refine E_blockO rfl ?_ | refine qs rfl rfl rfl rfl rfl rfl ?_
    | ((try refine qg rfl rfl rfl ?_); first | refine qv rfl (qp rfl) rfl rfl ?_ | refine qv rfl (qlen Und.eq rfl) rfl rfl ?_ | refine qv rfl (qfld FldC.fld rfl rfl) rfl rfl ?_ | refine qv rfl (rr_lss rfl rfl (qT (by omega))) rfl rfl ?_ | refine qv rfl (rr_lss rfl rfl (qF (by omega))) rfl rfl ?_ | refine qv rfl (rr_neq rfl rfl (qT (by omega))) rfl rfl ?_ | refine qv rfl (rr_neq rfl rfl (qF (by omega))) rfl rfl ?_ | refine qv rfl (rr_add64 rfl rfl (by omega) (by omega) rfl) rfl rfl ?_ | refine qv rfl (rr_eql rfl rfl (qT (by omega))) rfl rfl ?_ | refine qv rfl (rr_eql rfl rfl (qF (by omega))) rfl rfl ?_))
  refine TL_new rfl fun g5 => ?_
  refine TL_storeB (i := 1) rfl rfl rfl rfl rfl rfl ?_
  conv => arg 8; simp only [zA, zB, zC, zD, zE, zF, zG, zH, zI, rowS, ret, id_eq]
  repeat (first
    | refine qv rfl (qp rfl) rfl rfl ?_ | refine TL_nil ?_ | refine T_seq ?_ | refine T_region ?_ | refine qcT rfl ?_ | refine qcF rfl ?_ | refine T_skip ?_
    | refine T_exit ?_ | refine T_ret ?_ | refine T_block ?_ | refine E_then ?_ | refine E_thenX ?_ | refine E_thenR ?_ | refine E_blockN ?_
    | refine E_blockR ?_ | refine E_blockX ?_ | refine E_blockO rfl ?_ | refine qs rfl rfl rfl rfl rfl rfl ?_
    | ((try refine qg rfl rfl rfl ?_); first | refine qv rfl (qp rfl) rfl rfl ?_ | refine qv rfl (qlen Und.eq rfl) rfl rfl ?_ | refine qv rfl (qfld FldC.fld rfl rfl) rfl rfl ?_ | refine qv rfl (rr_lss rfl rfl (qT (by omega))) rfl rfl ?_ | refine qv rfl (rr_lss rfl rfl (qF (by omega))) rfl rfl ?_ | refine qv rfl (rr_neq rfl rfl (qT (by omega))) rfl rfl ?_ | refine qv rfl (rr_neq rfl rfl (qF (by omega))) rfl rfl ?_ | refine qv rfl (rr_add64 rfl rfl (by omega) (by omega) rfl) rfl rfl ?_ | refine qv rfl (rr_eql rfl rfl (qT (by omega))) rfl rfl ?_ | refine qv rfl (rr_eql rfl rfl (qF (by omega))) rfl rfl ?_))
  exact E_ret3 rfl rfl rfl rfl fun w hm => hm.ret
def freeL (l : List gramL.Prod) (may : Nat → Nat) (T N : Nat) : Bool := decide ((rowO' l may T N).length = 0)
def ableS (N T : Nat) (l : List gramL.Prod) (may : Nat → Nat) : Spec (Nat × (Nat → Value)) :=
  ⟨fun _ => True, fun x => .tuple #[.slice (some ⟨x.1, 0, none⟩) N N, .bool (freeL l may T N)], fun x => [rowA 30 vals x.1 N x.2, famP (fun j => j < N) (rowsF l may T x.2 N 0)]⟩
set_option maxHeartbeats 2000000 in
theorem able_calls (v : Value) (g : Gram) (w : World) (h : GraR (fun k => k < w.heap.size) w v g) (hg : checkG g = 0) (T N : Nat) (hT : g.terms = T) (hN : g.nons = N) :
    Calls Try.prog 52 #[v] w (Meets (ableS N T g.prods (mayG N g.prods)) w) := by
  have hmk := fun w' (hg' : Gr w w') => make_calls v g w' (h.gr hg') hg T N hT hN
  obtain ⟨vp, rfl, h1, _⟩ := h
  generalize mayG N g.prods = may at *
  generalize g.prods = prods at *
  clear h1
  refine enter (args := [graV g.terms g.nons vp]) (n := 21) Try.func52 rfl rfl rfl ?_
  refine T_seq (T_region (TL_box rfl rfl rfl fun g1 => ?_))
  conv => arg 8; simp only [zA, zB, zC, zD, zE, zF, zG, zH, zI, rowS, ret, id_eq]
  repeat (first
    | refine qv rfl (qp rfl) rfl rfl ?_ | refine TL_nil ?_ | refine T_seq ?_ | refine T_region ?_ | refine T_ret ?_ | refine E_then ?_ | refine E_thenR ?_
    | refine qs rfl rfl rfl rfl rfl rfl ?_
    | ((try refine qg rfl rfl rfl ?_); first | refine qv rfl (qp rfl) rfl rfl ?_ | refine qv rfl (rr_loadB (i := 0) TyC.ty rfl rfl rfl) rfl rfl ?_ | refine qv rfl (rr_eql rfl rfl (qT (by omega))) rfl rfl ?_ | refine qv rfl (rr_eql rfl rfl (qF (by omega))) rfl rfl ?_ | refine qv rfl (qlen Und.eq rfl) rfl rfl ?_))
  refine TL_call (he1 EntersC.en rfl rfl) (fun w' hm => hmk w' hm.below) rfl rfl rfl ?_
  rintro ⟨g10, vs, vo⟩ _
  conv => arg 8; simp only [zA, zB, zC, zD, zE, zF, zG, zH, zI, rowS, ret, id_eq, makeS]
  unfold ableS
  have hfr : freeL prods may T N = decide ((rowO' prods may T N).length = 0) := rfl
  generalize freeL prods may T N = fr at *
  cases fr
  · have hne := of_decide_eq_false hfr.symm
    repeat (first
      | refine qv rfl (qp rfl) rfl rfl ?_ | refine TL_nil ?_ | refine T_seq ?_ | refine T_region ?_ | refine T_ret ?_ | refine E_then ?_ | refine E_thenR ?_
      | refine qs rfl rfl rfl rfl rfl rfl ?_
      | ((try refine qg rfl rfl rfl ?_); first | refine qv rfl (qp rfl) rfl rfl ?_ | refine qv rfl (rr_eql rfl rfl (qT (by omega))) rfl rfl ?_ | refine qv rfl (rr_eql rfl rfl (qF (by omega))) rfl rfl ?_ | refine qv rfl (rr_rowlen (i := 3) Und.eq rfl rfl) rfl rfl ?_ | refine qv rfl (qlen Und.eq rfl) rfl rfl ?_))
    exact E_ret2 rfl rfl rfl fun w hm => hm.meets (S := ⟨fun (_ : Nat × (Nat → Value)) => True, fun x => .tuple #[.slice (some ⟨x.1, 0, none⟩) N N, .bool false], fun x => [rowA 30 vals x.1 N x.2, famP (fun j => j < N) (rowsF prods may T x.2 N 0)]⟩) (g10, vs) trivial [1, 2] (by decide) rfl
  · have hne := of_decide_eq_true hfr.symm
    repeat (first
      | refine qv rfl (qp rfl) rfl rfl ?_ | refine TL_nil ?_ | refine T_seq ?_ | refine T_region ?_ | refine T_ret ?_ | refine E_then ?_ | refine E_thenR ?_
      | refine qs rfl rfl rfl rfl rfl rfl ?_
      | ((try refine qg rfl rfl rfl ?_); first | refine qv rfl (qp rfl) rfl rfl ?_ | refine qv rfl (rr_eql rfl rfl (qT (by omega))) rfl rfl ?_ | refine qv rfl (rr_eql rfl rfl (qF (by omega))) rfl rfl ?_ | refine qv rfl (rr_rowlen (i := 3) Und.eq rfl rfl) rfl rfl ?_ | refine qv rfl (qlen Und.eq rfl) rfl rfl ?_))
    exact E_ret2 rfl rfl rfl fun w hm => hm.meets (S := ⟨fun (_ : Nat × (Nat → Value)) => True, fun x => .tuple #[.slice (some ⟨x.1, 0, none⟩) N N, .bool true], fun x => [rowA 30 vals x.1 N x.2, famP (fun j => j < N) (rowsF prods may T x.2 N 0)]⟩) (g10, vs) trivial [1, 2] (by decide) rfl
theorem ableE_calls (v : Value) (g : Gram) (w : World) (h : GraR (fun k => k < w.heap.size) w v g) (hg : checkG g ≠ 0) :
    Calls Try.prog 52 #[v] w (Meets (ret (.tuple #[.slice none 0 0, .bool false])) w) := by
  have hmk := fun w' (hg' : Gr w w') => makeE_calls v g w' (h.gr hg') hg
  obtain ⟨vp, rfl, h1, _⟩ := h
  generalize checkG g = e at *
  refine enter (args := [graV g.terms g.nons vp]) (n := 21) Try.func52 rfl rfl rfl ?_
  refine T_seq (T_region (TL_box rfl rfl rfl fun g1 => ?_))
  conv => arg 8; simp only [zA, zB, zC, zD, zE, zF, zG, zH, zI, rowS, ret, id_eq]
  repeat (first
    | refine qv rfl (qp rfl) rfl rfl ?_ | refine TL_nil ?_ | refine T_seq ?_ | refine T_region ?_ | refine T_ret ?_ | refine E_then ?_ | refine E_thenR ?_
    | refine qs rfl rfl rfl rfl rfl rfl ?_
    | ((try refine qg rfl rfl rfl ?_); first | refine qv rfl (qp rfl) rfl rfl ?_ | refine qv rfl (rr_loadB (i := 0) TyC.ty rfl rfl rfl) rfl rfl ?_ | refine qv rfl (rr_eql rfl rfl (qT (by omega))) rfl rfl ?_ | refine qv rfl (rr_eql rfl rfl (qF (by omega))) rfl rfl ?_ | refine qv rfl (qlen Und.eq rfl) rfl rfl ?_))
  refine TL_call (he1 EntersC.en rfl rfl) (fun w hm => hmk _ hm.below) rfl rfl rfl ?_
  intro _ _
  conv => arg 8; simp only [zA, zB, zC, zD, zE, zF, zG, zH, zI, rowS, ret, id_eq]
  repeat (first
    | refine qv rfl (qp rfl) rfl rfl ?_ | refine TL_nil ?_ | refine T_seq ?_ | refine T_region ?_ | refine T_ret ?_ | refine E_then ?_ | refine E_thenR ?_
    | refine qs rfl rfl rfl rfl rfl rfl ?_
    | ((try refine qg rfl rfl rfl ?_); first | refine qv rfl (qp rfl) rfl rfl ?_ | refine qv rfl (rr_eql rfl rfl (qT (by omega))) rfl rfl ?_ | refine qv rfl (rr_eql rfl rfl (qF (by omega))) rfl rfl ?_ | refine qv rfl (qlen Und.eq rfl) rfl rfl ?_))
  exact E_ret2 rfl rfl rfl fun w hm => hm.ret
/-! ### laws -/
def nxG (g : Gram) (T N : Nat) (word : List Int) : Int → Nat → Int := fun h a => llL.rowAt g.prods (mayG N g.prods) T h.toNat (colAt T word a)
theorem det_tree {g : Gram} {T N : Nat} (hg : checkG g = 0) (hT : g.terms = T) (hN : g.nons = N) (hf : freeL g.prods (mayG N g.prods) T N = true) {t : Tree} {word : List Int} (h : Right g.prods t (2, 0) 0) (hy : yieldT g.prods t = word) (hw : ∀ x ∈ word, 0 ≤ x ∧ x < (T : Int)) : DetT g.prods (nxG g T N word) t 0 := by
  obtain ⟨_, a2, _⟩ := checkG_ok hg
  have hC := closed_of hg hN
  have hs := symsOk_of hg hN
  have hp : 0 ≤ t.prod := by
    obtain ⟨p, k, kids⟩ := t
    rw [Right] at h
    rcases h with ⟨e, _⟩ | ⟨_, e, _⟩
    · cases e
    · exact e
  have hl := yield_len h hp
  have hnil : rowO' g.prods (mayG N g.prods) T N = [] := List.eq_nil_of_length_eq_zero (of_decide_eq_true hf)
  have hlk : LookT g.prods (ofS N g.prods).E (ofF N g.prods) (ofW N g.prods) (ofS N g.prods).R (ofS N g.prods).M word t 0 := by
    refine looks_right hC hs h hp hC.top ?_ ⟨[], by rw [hy]; simp⟩
    have e : bitAt word (0 + leaves t) = 63 := by unfold bitAt; rw [if_neg (by rw [← hy]; omega)]
    rw [e]
    exact hC.last
  exact det_of hC hs (by omega) hw (fun i _ => rfl) (rowO_none N hnil) h hp hlk ⟨[], by rw [hy]; simp⟩
theorem ll_one {g : Gram} {T N : Nat} (hT : g.terms = T) (hN : g.nons = N) (hf : freeL g.prods (mayG N g.prods) T N = true) {word : List Int} (hc : checkC g word = 0) : treesN g word ≤ 1 := by
  obtain ⟨hg, _, hw⟩ := checkC_ok hc
  rw [hT] at hw
  apply Nat.le_of_not_lt
  intro h2
  obtain ⟨t, t', hne, h1, y1, h2, y2⟩ := two_trees (g := g) (w := word) h2
  exact hne (det_eq h1 h2 (fun _ => det_tree hg hT hN hf h1 y1 hw) (fun _ => det_tree hg hT hN hf h2 y2 hw))
end Go.Proofs.Ytnicebdkejkieaa.eng
