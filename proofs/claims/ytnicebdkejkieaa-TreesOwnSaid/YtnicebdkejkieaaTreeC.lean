/- What trees.Yield computes; a tree of one's own. -/
import Derived.Test.YtnicebdkejkieaaTreeB
import Derived.Test.YtnicebdkejkieaaTreeM
import Derived.Test.YtnicebdkejkieaaMgB
namespace Go.Proofs.Ytnicebdkejkieaa.eng
open Go.RowKit kit mix gramL treeL
def stepY (s : List Int) (d : Deed) : List Int := match d with | .leaf t _ => s ++ [t] | _ => s
theorem foldY : ∀ (l : List Deed) (s : List Int), l.foldl stepY s = s ++ l.filterMap termOf
  | [], s => by simp
  | .leaf t _ :: r, s => by
    rw [List.foldl_cons, foldY r]
    show (s ++ [t]) ++ r.filterMap termOf = s ++ (t :: r.filterMap termOf)
    simp
  | .ahead _ :: r, s => by rw [List.foldl_cons, foldY r, List.filterMap_cons_none rfl]; simp [stepY]
  | .behind _ :: r, s => by rw [List.foldl_cons, foldY r, List.filterMap_cons_none rfl]; simp [stepY]
def yO1 (g : Nat) (_ : List Int) (z : Value) : Own := blkO g #[z] 30
def yO2 (s : List Int) (z : Value) : Own := rowO 3 1 z s.length (s.map (.int .i64))
theorem nothing_calls (p : Int) (O : Value → List Own) (z : Value) (w : World) (B : Base) (hm : Mem B (O z) w) : Calls Try.prog 65 #[.int .i64 p] w (MeetsB ⟨fun (_ : Value) => True, fun _ => .tuple #[], fun z' => O z'⟩ B) := by
  refine enterB hm (args := [.int .i64 p]) (n := 2) Try.func65 rfl rfl rfl ?_
  repeat (first
    | refine T_skip ?_)
  exact E_end0 rfl fun w hm => ⟨z, trivial, rfl, hm⟩
theorem yield1_calls (g : Nat) (s : List Int) (z : Value) (p q : Int) (w : World) (B : Base) (hs : s.length ≤ 100000) (hm : Mem B [yO1 g s z, yO2 s z] w) :
    Calls Try.prog 66 #[.int .i64 p, .int .i64 q, .pointer (some ⟨g, 0, none⟩)] w (MeetsB ⟨fun (_ : Value) => True, fun _ => .tuple #[], fun z' => [yO1 g (stepY s (.leaf p q)) z', yO2 (stepY s (.leaf p q)) z']⟩ B) := by
  refine enterB hm (args := [.int .i64 p, .int .i64 q, .pointer (some ⟨g, 0, none⟩)]) (n := 9) Try.func66 rfl rfl rfl ?_
  refine T_slv (i := 1) rfl fun hv1 hv2 => ?_
  repeat (first
    | refine qv rfl (qp rfl) rfl rfl ?_ | refine TL_nil ?_ | refine T_region ?_ | refine qv rfl (rr_load1 TyC.ty rfl (at_blk (i := 0) rfl rfl)) rfl rfl ?_)
  refine TL_push1 (i := 1) rfl rfl rfl rfl rfl rfl (fun z h => by cases h; rfl) (by omega) (by omega) rfl fun z' v' => ?_
  conv => arg 8; simp only [zA, zB, zC, zD, zE, zF, zG, zH, zI, rowS, ret, id_eq]
  refine TL_slv (i := 1) rfl fun hv1 hv2 => ?_
  refine TL_store1 (i := 0) rfl rfl rfl hv1 hv2 rfl ?_
  conv => arg 8; simp only [zA, zB, zC, zD, zE, zF, zG, zH, zI, rowS, ret, id_eq]
  repeat (first
    | refine qv rfl (qp rfl) rfl rfl ?_ | refine TL_nil ?_ | refine T_region ?_)
  exact E_end0 rfl fun w hm => hm.meetsB (S := ⟨fun (_ : Value) => True, fun _ => .tuple #[], fun z' => [yO1 g (stepY s (.leaf p q)) z', yO2 (stepY s (.leaf p q)) z']⟩) v' trivial [0, 1] (by decide) (by simp [yO1, yO2, stepY])
def yieldS (l : List Int) : Spec Value := rowS 3 1 l.length (l.map (.int .i64)) fun v => .tuple #[v, .int .i64 0]
theorem right_prod {l : List gramL.Prod} {t : Tree} {u : Nat} (h : Right l t (2, 0) u) : 0 ≤ t.prod := by
  obtain ⟨p, k, kids⟩ := t
  rw [Right] at h
  rcases h with ⟨h, _⟩ | ⟨_, h, _⟩
  · cases h
  · exact h
set_option maxHeartbeats 2000000 in
theorem yield_calls (v vt : Value) (g : Gram) (tr : Tree) (w : World) (h : GraR (fun k => k < w.heap.size) w v g) (ht : TreeR (fun k => k < w.heap.size) w vt tr) (hc : checkT g tr = 0) :
    Calls Try.prog 27 #[v, vt] w (Meets (yieldS (yieldT g.prods tr)) w) := by
  have hck := fun w' (hg : Gr w w') => treeCheck_calls v vt g tr w' (h.gr hg) (ht.gr hg)
  rw [hc] at hck
  obtain ⟨c1, c2, c3, c4⟩ := checkT_iff.1 hc
  obtain ⟨vp, rfl, h1, _⟩ := h
  have ht0 := ht
  obtain ⟨vk, rfl, _, _, hk4⟩ := ht
  obtain ⟨bk, ck, rfl, _⟩ := hk4
  obtain ⟨t, n, prods⟩ := g
  dsimp only at *
  have hea := fun g7 w' B ho hm => each_calls w t n vp prods h1 (yO1 g7) yO2 stepY List.length 65 65 66 #[] #[] #[] #[] #[] #[.pointer (some ⟨g7, 0, none⟩)] EntersC.en EntersC.en EntersC.en
    (fun s z p w B _ hm => nothing_calls p (fun z => [yO1 g7 s z, yO2 s z]) z w B hm) (fun s z p w B _ hm => nothing_calls p (fun z => [yO1 g7 s z, yO2 s z]) z w B hm) (fun s z p q w B hs hm => yield1_calls g7 s z p q w B hs hm)
    (fun s x => by cases x <;> simp [stepY]) (size tr) tr (Nat.le_refl _) (treeV tr.prod tr.tok (.slice bk tr.kids.length ck)) (2, 0) 0 [] (.slice none 0 0) w' B ht0 c2 (right_prod c2) (by have := acts_le prods tr; simp only [List.length_nil]; omega) ho hm
  rw [foldY] at hea
  refine enter (args := [graV t n vp, treeV tr.prod tr.tok (.slice bk tr.kids.length ck)]) (n := 19) Try.func27 rfl rfl rfl ?_
  refine T_seq (T_region (TL_box rfl rfl rfl fun g2 => TL_box rfl rfl rfl fun g3 => ?_))
  conv => arg 8; simp only [zA, zB, zC, zD, zE, zF, zG, zH, zI, rowS, ret, id_eq]
  repeat (first
    | refine qv rfl (qp rfl) rfl rfl ?_ | refine TL_nil ?_ | refine T_seq ?_ | refine T_region ?_ | refine qcT rfl ?_ | refine qcF rfl ?_ | refine T_skip ?_
    | refine T_ret ?_ | refine E_then ?_ | refine E_thenR ?_ | refine qv rfl (rr_loadB (i := 0) TyC.ty rfl rfl rfl) rfl rfl ?_
    | refine qv rfl (rr_loadB (i := 1) TyC.ty rfl rfl rfl) rfl rfl ?_ | refine qv rfl (rr_neq rfl rfl (qT (by omega))) rfl rfl ?_
    | refine qv rfl (rr_neq rfl rfl (qF (by omega))) rfl rfl ?_)
  refine TL_call (he2 EntersC.en rfl rfl rfl) (fun w hm => hck _ hm.below) rfl rfl rfl ?_
  intro _ _
  conv => arg 8; simp only [zA, zB, zC, zD, zE, zF, zG, zH, zI, rowS, ret, id_eq]
  repeat (first
    | refine qv rfl (qp rfl) rfl rfl ?_ | refine TL_nil ?_ | refine T_seq ?_ | refine T_region ?_ | refine qcT rfl ?_ | refine qcF rfl ?_ | refine T_skip ?_
    | refine T_ret ?_ | refine E_then ?_ | refine E_thenR ?_ | refine qv rfl (rr_neq rfl rfl (qT (by omega))) rfl rfl ?_
    | refine qv rfl (rr_neq rfl rfl (qF (by omega))) rfl rfl ?_)
  refine TL_new rfl fun g7 => ?_
  conv => arg 8; simp only [zA, zB, zC, zD, zE, zF, zG, zH, zI, rowS, ret, id_eq]
  repeat (first
    | refine qv rfl (qp rfl) rfl rfl ?_ | refine TL_nil ?_ | refine T_seq ?_ | refine T_region ?_ | refine qcT rfl ?_ | refine qcF rfl ?_ | refine T_skip ?_
    | refine T_ret ?_ | refine E_then ?_ | refine E_thenR ?_ | refine qv rfl (rr_neq rfl rfl (qT (by omega))) rfl rfl ?_
    | refine qv rfl (rr_neq rfl rfl (qF (by omega))) rfl rfl ?_)
  refine TL_nilrow 3 1 ?_
  conv => arg 8; simp only [zA, zB, zC, zD, zE, zF, zG, zH, zI, rowS, ret, id_eq]
  repeat (first
    | refine qv rfl (qp rfl) rfl rfl ?_ | refine TL_nil ?_ | refine T_seq ?_ | refine T_region ?_ | refine qcT rfl ?_ | refine qcF rfl ?_ | refine T_skip ?_
    | refine T_ret ?_ | refine E_then ?_ | refine E_thenR ?_ | refine qv rfl (rr_loadB (i := 0) TyC.ty rfl rfl rfl) rfl rfl ?_
    | refine qv rfl (rr_loadB (i := 1) TyC.ty rfl rfl rfl) rfl rfl ?_ | refine qv rfl (rr_func rfl rfl) rfl rfl ?_
    | refine qv rfl (rr_neq rfl rfl (qT (by omega))) rfl rfl ?_ | refine qv rfl (rr_neq rfl rfl (qF (by omega))) rfl rfl ?_)
  refine TL_callB [2, 3] [0, 1] (by decide) rfl rfl (he5 EntersC.en rfl rfl rfl rfl rfl rfl) (fun w' hm hb => hea g7 w' _ ((Old.self w).on hm (by intro o ho; simp at ho ⊢; rcases ho with h | h <;> simp [h])) hb) rfl rfl rfl ?_
  intro z _
  conv => arg 8; simp only [zA, zB, zC, zD, zE, zF, zG, zH, zI, rowS, ret, id_eq]
  repeat (first
    | refine qv rfl (qp rfl) rfl rfl ?_ | refine TL_nil ?_ | refine T_seq ?_ | refine T_region ?_ | refine qcT rfl ?_ | refine qcF rfl ?_ | refine T_skip ?_
    | refine T_ret ?_ | refine E_then ?_ | refine E_thenR ?_ | refine qv rfl (rr_load1 TyC.ty rfl (at_blk (i := 2) rfl rfl)) rfl rfl ?_
    | refine qv rfl (rr_neq rfl rfl (qT (by omega))) rfl rfl ?_ | refine qv rfl (rr_neq rfl rfl (qF (by omega))) rfl rfl ?_)
  exact E_ret2 rfl rfl rfl fun w hm => hm.meets (S := yieldS (yieldT prods tr)) z trivial [3] (by decide) rfl
theorem yieldE_calls (v vt : Value) (g : Gram) (tr : Tree) (w : World) (h : GraR (fun k => k < w.heap.size) w v g) (ht : TreeR (fun k => k < w.heap.size) w vt tr) (hc : checkT g tr ≠ 0) :
    Calls Try.prog 27 #[v, vt] w (Meets (ret (.tuple #[.slice none 0 0, .int .i64 (checkT g tr)])) w) := by
  have hck := fun w' (hg : Gr w w') => treeCheck_calls v vt g tr w' (h.gr hg) (ht.gr hg)
  obtain ⟨vp, rfl, h1, _⟩ := h
  obtain ⟨vk, rfl, _, _, hk4⟩ := ht
  obtain ⟨bk, ck, rfl, _⟩ := hk4
  generalize checkT g tr = e at *
  obtain ⟨t, n, prods⟩ := g
  dsimp only at *
  refine enter (args := [graV t n vp, treeV tr.prod tr.tok (.slice bk tr.kids.length ck)]) (n := 19) Try.func27 rfl rfl rfl ?_
  refine T_seq (T_region (TL_box rfl rfl rfl fun g2 => TL_box rfl rfl rfl fun g3 => ?_))
  conv => arg 8; simp only [zA, zB, zC, zD, zE, zF, zG, zH, zI, rowS, ret, id_eq]
  repeat (first
    | refine qv rfl (qp rfl) rfl rfl ?_ | refine TL_nil ?_ | refine T_seq ?_ | refine T_region ?_ | refine qcT rfl ?_ | refine qcF rfl ?_ | refine T_skip ?_
    | refine T_ret ?_ | refine E_then ?_ | refine E_thenR ?_ | refine qv rfl (rr_loadB (i := 0) TyC.ty rfl rfl rfl) rfl rfl ?_
    | refine qv rfl (rr_loadB (i := 1) TyC.ty rfl rfl rfl) rfl rfl ?_ | refine qv rfl (rr_neq rfl rfl (qT (by omega))) rfl rfl ?_
    | refine qv rfl (rr_neq rfl rfl (qF (by omega))) rfl rfl ?_)
  refine TL_call (he2 EntersC.en rfl rfl rfl) (fun w hm => hck _ hm.below) rfl rfl rfl ?_
  intro _ _
  conv => arg 8; simp only [zA, zB, zC, zD, zE, zF, zG, zH, zI, rowS, ret, id_eq]
  repeat (first
    | refine qv rfl (qp rfl) rfl rfl ?_ | refine TL_nil ?_ | refine T_seq ?_ | refine T_region ?_ | refine qcT rfl ?_ | refine qcF rfl ?_ | refine T_skip ?_
    | refine T_ret ?_ | refine E_then ?_ | refine E_thenR ?_ | refine qv rfl (rr_neq rfl rfl (qT (by omega))) rfl rfl ?_
    | refine qv rfl (rr_neq rfl rfl (qF (by omega))) rfl rfl ?_)
  exact E_ret2 rfl rfl rfl fun w hm => hm.ret
/-! trees that are made -/
def kidsO (F : Nat → Prop) (v : Value) (l : List Tree) : Own := shpO (sliceS treeS) F [v] l
def treeSp (t : Tree) : Spec (Value × (Nat → Prop)) := ⟨fun _ => True, fun x => treeV t.prod t.tok x.1, fun x => [kidsO x.2 x.1 t.kids]⟩
theorem kidsO_tree {F : Nat → Prop} {v : Value} {t : Tree} {w : World} (h1 : kit.okI64 t.prod) (h2 : kit.okI64 t.tok) (h : (kidsO F v t.kids).holds w) : TreeR (fun k => k < w.heap.size) w (treeV t.prod t.tok v) t := by
  obtain ⟨⟨v', hv, h3⟩, h4⟩ := h
  simp only [List.cons.injEq, and_true] at hv
  subst hv
  exact ⟨v, rfl, h1, h2, h3.mono h4⟩
theorem kidsO_one {F : Nat → Prop} {v : Value} {l : List Tree} {w : World} (h : (kidsO F v l).holds w) : v.oneCell' = true ∧ v.cells = #[v] := by
  obtain ⟨⟨v', hv, h3⟩, h4⟩ := h
  simp only [List.cons.injEq, and_true] at hv
  subst hv
  obtain ⟨b, c, rfl, _⟩ := h3
  exact ⟨rfl, rfl⟩
theorem kidsO_nil (w : World) : (kidsO (fun _ => False) (.slice none 0 0) []).holds w := ⟨⟨_, rfl, SlF.nil⟩, fun k h => h.elim⟩
def oneT : Tree := .mk 1 0 [.mk (-1) 0 [], .mk 0 0 [], .mk (-1) 1 [], .mk 0 0 []]
theorem leaf_is {F : Nat → Prop} {w : World} {p k : Int} (hp : kit.okI64 p) (hk : kit.okI64 k) : treeS.is F w [.int .i64 p, .int .i64 k, .slice none 0 0] (.mk p k []) := tree_iff.2 ⟨_, rfl, hp, hk, SlF.nil⟩
theorem okm1 : kit.okI64 (-1) := ⟨by decide, by decide⟩
theorem okz : kit.okI64 0 := ⟨by decide, by decide⟩
theorem oku : kit.okI64 1 := ⟨by decide, by decide⟩
theorem one_slf {w : World} {g : Nat} {T : TypeId} (hg : w.heap[g]? = some (.cells #[.int .i64 (-1), .int .i64 0, .slice none 0 0, .int .i64 0, .int .i64 0, .slice none 0 0, .int .i64 (-1), .int .i64 1, .slice none 0 0, .int .i64 0, .int .i64 0, .slice none 0 0] T (0, 0))) : SlF treeS (fun k => k = g) w (.slice (some ⟨g, 0, none⟩) 4 4) oneT.kids := by
  refine ⟨_, _, rfl, Nat.le_refl _, by decide, fun _ => ⟨g, 0, rfl, rfl, fun i hi => ?_⟩⟩
  have key : ∀ (q : Nat) (p k : Int), (∀ (j : Nat) (u : Value), ([.int .i64 p, .int .i64 k, .slice none 0 0] : List Value)[j]? = some u → (#[.int .i64 (-1), .int .i64 0, .slice none 0 0, .int .i64 0, .int .i64 0, .slice none 0 0, .int .i64 (-1), .int .i64 1, .slice none 0 0, .int .i64 0, .int .i64 0, .slice none 0 0] : Array Value)[q + j]? = some u) → Rd w g q [.int .i64 p, .int .i64 k, .slice none 0 0] := fun q p k h j u hj => by
    rw [cell_of_row w g (q + j) _ _ _ hg]; exact h j u hj
  match i, hi with
  | 0, _ => exact ⟨_, leaf_is okm1 okz, key 0 _ _ fun j u hj => by match j, hj with | 0, hj => exact hj | 1, hj => exact hj | 2, hj => exact hj⟩
  | 1, _ => exact ⟨_, leaf_is okz okz, key 3 _ _ fun j u hj => by match j, hj with | 0, hj => exact hj | 1, hj => exact hj | 2, hj => exact hj⟩
  | 2, _ => exact ⟨_, leaf_is okm1 oku, key 6 _ _ fun j u hj => by match j, hj with | 0, hj => exact hj | 1, hj => exact hj | 2, hj => exact hj⟩
  | 3, _ => exact ⟨_, leaf_is okz okz, key 9 _ _ fun j u hj => by match j, hj with | 0, hj => exact hj | 1, hj => exact hj | 2, hj => exact hj⟩
theorem build_tree1 (p : Int) (w : World) : (Instr.build 46 #[(0, .int .i64 p)]).run Try.prog w = .ok (treeV p 0 (.slice none 0 0)) w := by
  unfold treeV; go_simp
theorem build_tree2 (p k : Int) (w : World) : (Instr.build 46 #[(0, .int .i64 p), (1, .int .i64 k)]).run Try.prog w = .ok (treeV p k (.slice none 0 0)) w := by
  unfold treeV; go_simp
theorem build_tree3 (p : Int) (b : Option Addr) (m c : Nat) (w : World) : (Instr.build 46 #[(0, .int .i64 p), (2, .slice b m c)]).run Try.prog w = .ok (treeV p 0 (.slice b m c)) w := by
  unfold treeV; go_simp
attribute [local irreducible] Instr.build in
set_option maxHeartbeats 1000000 in
theorem one_calls' (w : World) : Calls Try.prog 28 #[] w (Meets (treeSp oneT) w) := by
  refine enter (args := []) (n := 7) Try.func28 rfl rfl rfl ?_
  refine T_seq (T_region (TL_new rfl fun g => ?_))
  repeat (first
    | refine TL_nil ?_ | refine T_seq ?_ | refine T_region ?_ | refine T_ret ?_ | refine E_then ?_ | refine E_thenR ?_
    | refine qv rfl (rr_build rfl (build_tree1 _)) rfl rfl ?_ | refine qv rfl (rr_build rfl (build_tree2 _ _)) rfl rfl ?_)
  refine TL_litN (cs := #[.int .i64 (-1), .int .i64 0, .slice none 0 0, .int .i64 0, .int .i64 0, .slice none 0 0, .int .i64 (-1), .int .i64 1, .slice none 0 0, .int .i64 0, .int .i64 0, .slice none 0 0]) [treeV (-1) 0 (.slice none 0 0), treeV 0 0 (.slice none 0 0), treeV (-1) 1 (.slice none 0 0), treeV 0 0 (.slice none 0 0)] rfl rfl rfl (by intro v hv; simp at hv; rcases hv with rfl | rfl | rfl | rfl <;> rfl) rfl rfl rfl fun g5 => ?_
  conv => arg 8; simp only [zA, zB, zC, zD, zE, zF, zG, zH, zI, rowS, ret, id_eq]
  repeat (first
    | refine TL_nil ?_ | refine T_seq ?_ | refine T_region ?_ | refine T_ret ?_ | refine E_then ?_ | refine E_thenR ?_
    | refine qv rfl (rr_build rfl (build_tree3 _ _ _ _)) rfl rfl ?_)
  refine TL_storeB (i := 0) rfl rfl rfl rfl rfl rfl ?_
  conv => arg 8; simp only [zA, zB, zC, zD, zE, zF, zG, zH, zI, rowS, ret, id_eq]
  repeat (first
    | refine TL_nil ?_ | refine T_seq ?_ | refine T_region ?_ | refine T_ret ?_ | refine E_then ?_ | refine E_thenR ?_)
  refine E_reown (i := 1) (o := blkO g5 #[.int .i64 (-1), .int .i64 0, .slice none 0 0, .int .i64 0, .int .i64 0, .slice none 0 0, .int .i64 (-1), .int .i64 1, .slice none 0 0, .int .i64 0, .int .i64 0, .slice none 0 0] 46) (kidsO (fun k => k = g5) (.slice (some ⟨g5, 0, none⟩) 4 4) oneT.kids) rfl (fun w h => ⟨⟨_, rfl, one_slf h⟩, fun k hk => by rw [hk]; exact (Array.getElem?_eq_some_iff.1 (show w.heap[g5]? = some _ from h)).1⟩) (fun k hk => hk.elim (fun h => by cases h) fun h => .inl (by rw [h]; rfl)) ?_
  exact E_retc1 (i := 0) rfl rfl rfl rfl fun w hm => hm.meets (S := treeSp oneT) (.slice (some ⟨g5, 0, none⟩) 4 4, fun k => k = g5) trivial [1] (by decide) rfl
end Go.Proofs.Ytnicebdkejkieaa.eng
