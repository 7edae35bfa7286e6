/- What pushkeep.from computes. -/
import Derived.Test.YtbiacehgfmgfdaaSmFL
import Derived.Test.YtbiacehgfmgfdaaSmRc
import Derived.Test.YtbiacehgfmgfdaaSmIn
namespace Go.Proofs.Ytbiacehgfmgfdaa.eng
open Go.RowKit kit mix dfaL smallL
theorem flat_cell : ∀ (l : List Row) (k b : Nat) (x : Int) (_ : k < l.length) (_ : b < 256), (l.flatMap rowC).set (0 + k * 256 + b) (.int .i16 x) = (l.set k ((l.getD k row0).set b x)).flatMap rowC
  | a :: r, 0, b, x, h, hb => by
    rw [Nat.zero_mul, Nat.zero_add, List.flatMap_cons, List.set_append_left _ _ (by rw [rowC_len]; exact hb), List.set_cons_zero, List.flatMap_cons]
    congr 1
    show (rowC a).set b _ = rowC (a.set b x)
    unfold rowC
    rw [Vector.toList_set, List.map_set]
  | a :: r, k + 1, b, x, h, hb => by
    have ih := flat_cell r k b x (by simpa using h) hb
    rw [List.flatMap_cons, List.set_append_right _ _ (by rw [rowC_len]; omega), rowC_len, List.set_cons_succ, List.flatMap_cons]
    rw [show 0 + (k + 1) * 256 + b - 256 = 0 + k * 256 + b by omega, ih]
    rfl
/-- a cell of an own row of rows is written over -/
theorem TL_setCell {P : Program} {n : Nat} {W : Base} {fr : Fr} {L : List Own} {Q : Exit → Act → World → Prop} {ops : Array Oper} {rest : List Oper} {ty : TypeId} {pos : String} {after : Array Edge} {t e : TypeId} {p x : Operand} {i g cap m k b : Nat} {l : List Row} {z : Int} (hT : Ty P t false 1) (hi : L[i]? = some (rowO e 256 (.slice (some ⟨g, 0, none⟩) m cap) m (l.flatMap rowC))) (hp : ev fr p = some (.pointer (some ⟨g, 0 + k * 256 + b, none⟩))) (hx : ev fr x = some (.int .i16 z)) (hk : k < l.length) (hb : b < 256)
    (h : TL P n W ops Q rest fr (L.set i (rowO e 256 (.slice (some ⟨g, 0, none⟩) m cap) m ((l.set k ((l.getD k row0).set b z)).flatMap rowC)))) : TL P n W ops Q (⟨none, .store t p x, ty, pos, after, none⟩ :: rest) fr L := by
  refine TL_storeRow hT hi hp hx rfl rfl rfl ?_ ?_
  · have : (k + 1) * 256 ≤ l.length * 256 := Nat.mul_le_mul_right _ hk
    rw [len_el rowC_len]; omega
  · rw [flat_cell l k b z hk hb]; exact h
theorem build_dfaG (g n c h m c' : Nat) (w : World) : (Instr.build 25 #[(0, .slice (some ⟨g, 0, none⟩) n c), (1, .slice (some ⟨h, 0, none⟩) m c')]).run Try.prog w = .ok (dfaV (.slice (some ⟨g, 0, none⟩) n c) (.slice (some ⟨h, 0, none⟩) m c')) w := by kernel_rfl
/-- rows swapped -/
theorem swap_tab {α : Type} (l : List α) (d : α) {a : Nat} (ha : a < l.length) (h0 : 0 < l.length) : (l.set 0 (l[a]'ha)).set a (l[0]'h0) = tabA l.length fun k => l.getD (swp a k) d := by
  refine List.ext_getElem (by simp [tabA_len]) fun k h1 h2 => ?_
  have hk : k < l.length := by simpa using h1
  have e := tabA_get (fun k => l.getD (swp a k) d) hk
  rw [List.getElem?_eq_getElem h2, Option.some.injEq] at e
  rw [e, List.getD_eq_getElem?_getD, List.getElem?_eq_getElem (swp_lt ha hk), Option.getD_some, List.getElem_set, List.getElem_set]
  unfold swp
  by_cases c : a = k
  · subst c
    simp
  · rw [if_neg c]
    have c' : ¬ k = a := fun h => c h.symm
    by_cases c2 : 0 = k
    · subst c2
      simp [c']
    · have c3 : ¬ k = 0 := fun h => c2 h.symm
      simp [c', c2, c3]
/-- on the way: the first i rows are done, and of the next one the first b cells -/
def frP (a : Nat) (r : Row) (b : Nat) : Row := Vector.ofFn fun j : Fin 256 => if j < b then swI a r[j] else r[j]
theorem frP_0 (a : Nat) (r : Row) : frP a r 0 = r := by
  refine Vector.ext fun j hj => ?_
  unfold frP; simp
theorem frP_all (a : Nat) (r : Row) : frP a r 256 = r.map (swI a) := by
  refine Vector.ext fun j hj => ?_
  unfold frP; simp [hj]
theorem frP_set (a : Nat) (r : Row) {b : Nat} (hb : b < 256) : (frP a r b).set b (swI a r[b]) = frP a r (b + 1) := by
  refine Vector.ext fun j hj => ?_
  unfold frP
  rw [Vector.getElem_set, Vector.getElem_ofFn, Vector.getElem_ofFn]
  split
  · rename_i e; subst e; simp
  · have : j < b ↔ j < b + 1 := by omega
    simp only [this]
theorem frP_same (a : Nat) (r : Row) {b : Nat} (hb : b < 256) (h : swI a r[b] = r[b]) : frP a r (b + 1) = frP a r b := by
  rw [← frP_set a r hb, h]
  refine Vector.ext fun j hj => ?_
  rw [Vector.getElem_set]
  split
  · rename_i e; subst e
    unfold frP; simp
  · rfl
def frX (R : List Row) (a i b : Nat) : List Row := tabA R.length fun k => if k < i then (R.getD (swp a k) row0).map (swI a) else if k = i then frP a (R.getD (swp a k) row0) b else R.getD (swp a k) row0
theorem frX_0 (R : List Row) (a : Nat) : frX R a 0 0 = tabA R.length fun k => R.getD (swp a k) row0 := by
  unfold frX
  refine tabA_congr fun k _ => ?_
  rw [if_neg (Nat.not_lt_zero k), frP_0, ite_self]
theorem frX_row (R : List Row) (a i : Nat) : frX R a i 256 = frX R a (i + 1) 0 := by
  unfold frX
  refine tabA_congr fun k _ => ?_
  rw [frP_all, frP_0, ite_self]
  by_cases c : k < i
  · rw [if_pos c, if_pos (by omega)]
  · rw [if_neg c]
    by_cases c2 : k = i
    · rw [if_pos c2, if_pos (by omega)]
    · rw [if_neg c2, if_neg (by omega)]
theorem frX_end (R : List Row) (a b : Nat) : frX R a R.length b = fromR R a := by
  unfold frX fromR
  refine tabA_congr fun k hk => ?_
  rw [if_pos hk]
theorem frX_len (R : List Row) (a i b : Nat) : (frX R a i b).length = R.length := tabA_len _ _
theorem frX_get (R : List Row) (a : Nat) {i : Nat} (b : Nat) (hi : i < R.length) : (frX R a i b).getD i row0 = frP a (R.getD (swp a i) row0) b := by
  unfold frX
  rw [tabA_getD _ _ hi, if_neg (Nat.lt_irrefl i), if_pos rfl]
theorem frX_set (R : List Row) (a : Nat) {i b : Nat} (hi : i < R.length) (hb : b < 256) : (frX R a i b).set i (((frX R a i b).getD i row0).set b (swI a (R.getD (swp a i) row0)[b])) = frX R a i (b + 1) := by
  rw [frX_get R a b hi, frP_set a _ hb]
  refine tabA_set _ _ i _ fun k hk => ?_
  by_cases c : k = i
  · subst c
    rw [if_neg (Nat.lt_irrefl k), if_pos rfl, if_pos rfl]
  · rw [if_neg c, if_neg c, if_neg c]
theorem frX_same (R : List Row) (a : Nat) {i b : Nat} (hi : i < R.length) (hb : b < 256) (h : swI a (R.getD (swp a i) row0)[b] = (R.getD (swp a i) row0)[b]) : frX R a i (b + 1) = frX R a i b := by
  unfold frX
  refine tabA_congr fun k hk => ?_
  by_cases c : k = i
  · subst c
    rw [frP_same a _ hb h]
  · rw [if_neg c, if_neg c]
def fromS (R : List Row) (tags : List Int) (a : Nat) : Spec (Value × Value) := ⟨fun _ => True, fun x => dfaV x.1 x.2, fun x => [rowO 31 256 x.1 (fromR R a).length ((fromR R a).flatMap rowC), rowO 3 1 x.2 (fromT tags a).length ((fromT tags a).flatMap kit.intC)]⟩
set_option maxRecDepth 100000 in
set_option maxHeartbeats 8000000 in
theorem from_calls (vr vt : Value) (R : List Row) (tags : List Int) (a : Nat) (w : World) (h : DfaM w vr vt R tags) (hc : chk R tags = 0) (ha : a < R.length) :
    Calls Try.prog 14 #[dfaV vr vt, .int .i64 (a : Int)] w (Meets (fromS R tags a) w) := by
  obtain ⟨hA, hlt⟩ := chk_ok hc
  have hle : R.length ≤ 200 := hA.le
  have hclR := fun w' (hg : Gr w w') => cloneSmRc_calls vr R w' (h.hR.gr hg) (by omega)
  have hclT := fun w' (hg : Gr w w') => cloneSmIn_calls vt tags w' (h.hT.gr hg) (by omega)
  have hrng := (chk_rng hc).1
  clear h hA
  refine enter (args := [dfaV vr vt, .int .i64 (a : Int)]) (n := 86) Try.func14 rfl rfl rfl ?_
  refine T_seq (T_region (TL_box rfl rfl rfl fun g2 => ?_))
  refine TL_new rfl fun g4 => ?_
  conv => arg 8; simp only [zA, zB, zC, zD, zE, zF, zG, zH, zI, rowS, ret, id_eq]
  repeat (first
    | refine qv rfl (qp rfl) rfl rfl ?_ | refine TL_nil ?_ | refine T_seq ?_ | refine T_region ?_ | refine qcT rfl ?_ | refine qcF rfl ?_ | refine T_skip ?_
    | refine T_exit ?_ | refine T_ret ?_ | refine T_block ?_ | refine E_then ?_ | refine E_thenX ?_ | refine E_thenR ?_ | refine E_blockN ?_
    | refine E_blockR ?_ | refine E_blockX ?_ | refine E_blockO rfl ?_ | refine qv rfl (qlen Und.eq rfl) rfl rfl ?_
    | refine qv rfl (qfld FldC.fld rfl rfl) rfl rfl ?_ | refine qv rfl (rr_lss rfl rfl (qT (by omega))) rfl rfl ?_
    | refine qv rfl (rr_lss rfl rfl (qF (by omega))) rfl rfl ?_ | refine qv rfl (rr_eql rfl rfl (qT (by omega))) rfl rfl ?_
    | refine qv rfl (rr_eql rfl rfl (qF (by omega))) rfl rfl ?_ | refine qv rfl (rr_add64 rfl rfl (by omega) (by omega) rfl) rfl rfl ?_)
  (repeat refine T_seq ?_)
  refine T_midq (ι := Nat × Nat × Nat × Nat × Nat) (fun _ => True) (fun (_, _, _, _, g5) => [(1, .int .i64 (a : Int)), (4, .pointer (some ⟨g4, 0, none⟩)), (5, .pointer (some ⟨g5, 0, none⟩))])
    (fun (gr, cr, gt, ct, g5) => [blkO g4 (dfaV (.slice none 0 0) (.slice none 0 0)).cells 25, rowO 31 256 (.slice (some ⟨gr, 0, none⟩) R.length cr) R.length (R.flatMap rowC), rowO 3 1 (.slice (some ⟨gt, 0, none⟩) tags.length ct) tags.length (tags.flatMap kit.intC), blkO g5 (dfaV (.slice (some ⟨gr, 0, none⟩) R.length cr) (.slice (some ⟨gt, 0, none⟩) tags.length ct)).cells 25]) ?_ ?_
  · refine T_ord ([blkO g2 (dfaV vr vt).cells 25]) (.calm 0 (.calm 1 (.calm 3 (.calm 4 (.two 2 (.two 5 (.calm 6 (.one 7 (.one 8 (.done)))) 7 (.one 5 (.calm 6 (.one 8 (.done))))) 7 (.one 2 (.one 5 (.calm 6 (.one 8 (.done)))))))))) (sub_pick [0] (by decide) rfl) (by kernel_rfl) (by kernel_rfl) (by intro c a d v w h; cases d <;> exact h) ?_
    repeat (first
      | ((first | refine TW_plain rfl rfl ?_ | refine TW_gmet rfl rfl rfl rfl ?_); first | refine TN_val (qp rfl) rfl rfl ?_ | refine TN_val (rr_load1 TyC.ty rfl (at_blk (i := 0) rfl rfl)) rfl rfl ?_ | refine TN_val (qlen Und.eq rfl) rfl rfl ?_ | refine TN_val (qfld FldC.fld rfl rfl) rfl rfl ?_ | refine TN_val (rr_lss rfl rfl (qT (by omega))) rfl rfl ?_ | refine TN_val (rr_lss rfl rfl (qF (by omega))) rfl rfl ?_ | refine TN_val (rr_eql rfl rfl (qT (by omega))) rfl rfl ?_ | refine TN_val (rr_eql rfl rfl (qF (by omega))) rfl rfl ?_ | refine TN_val (rr_add64 rfl rfl (by omega) (by omega) rfl) rfl rfl ?_)
      | refine TW_done ?_)
    refine TW_two rfl rfl ?_ ?_
    · refine TL_call (he1 EntersC.en rfl rfl) (fun w hm => hclR w hm.below) rfl rfl rfl fun v1 _ => ?_
      refine TL_rowN (i := 2) rfl (by omega) fun gr cr hv _ _ => ?_
      replace hv : v1 = _ := hv
      subst hv
      refine TW_on (sub_pick [0] (by decide) rfl) ?_
      refine TW_two rfl rfl ?_ ?_
      · refine TL_call (he1 EntersC.en rfl rfl) (fun w hm => hclT w hm.below) rfl rfl rfl fun v2 _ => ?_
        refine TL_rowN (i := 3) rfl (by omega) fun gt ct hv _ _ => ?_
        replace hv : v2 = _ := hv
        subst hv
        refine TW_on (sub_pick [0] (by decide) rfl) ?_
        repeat (first
          | ((first | refine TW_plain rfl rfl ?_ | refine TW_gmet rfl rfl rfl rfl ?_); first | refine TN_val (qp rfl) rfl rfl ?_ | refine TN_val (rr_build rfl (build_dfaG _ _ _ _ _ _)) rfl rfl ?_ | refine TN_val (qlen Und.eq rfl) rfl rfl ?_ | refine TN_val (qfld FldC.fld rfl rfl) rfl rfl ?_ | refine TN_val (rr_lss rfl rfl (qT (by omega))) rfl rfl ?_ | refine TN_val (rr_lss rfl rfl (qF (by omega))) rfl rfl ?_ | refine TN_val (rr_eql rfl rfl (qT (by omega))) rfl rfl ?_ | refine TN_val (rr_eql rfl rfl (qF (by omega))) rfl rfl ?_ | refine TN_val (rr_add64 rfl rfl (by omega) (by omega) rfl) rfl rfl ?_)
          | refine TW_done ?_)
        refine TW_one rfl (TL_new rfl fun g5 => TW_on (sub_pick [0] (by decide) rfl) ?_)
        refine TW_one rfl (TL_storeB (i := 4) (cs' := (dfaV (.slice (some ⟨gr, 0, none⟩) R.length cr) (.slice (some ⟨gt, 0, none⟩) tags.length ct)).cells) rfl rfl rfl rfl rfl rfl (TW_on (sub_pick [0] (by decide) rfl) ?_))
        repeat (first
          | ((first | refine TW_plain rfl rfl ?_ | refine TW_gmet rfl rfl rfl rfl ?_); first | refine TN_val (qp rfl) rfl rfl ?_ | refine TN_val (qlen Und.eq rfl) rfl rfl ?_ | refine TN_val (qfld FldC.fld rfl rfl) rfl rfl ?_ | refine TN_val (rr_lss rfl rfl (qT (by omega))) rfl rfl ?_ | refine TN_val (rr_lss rfl rfl (qF (by omega))) rfl rfl ?_ | refine TN_val (rr_eql rfl rfl (qT (by omega))) rfl rfl ?_ | refine TN_val (rr_eql rfl rfl (qF (by omega))) rfl rfl ?_ | refine TN_val (rr_add64 rfl rfl (by omega) (by omega) rfl) rfl rfl ?_)
          | refine TW_done ?_)
        refine E_pick [1, 2, 3, 4] (by decide) rfl ?_
        exact E_mid (gr, cr, gt, ct, g5) trivial (by repeat' (first | exact True.intro | refine And.intro rfl ?_)) rfl
      · refine TL_new rfl fun g5 => TW_on (sub_pick [0] (by decide) rfl) ?_
        refine TW_one rfl (TL_call (he1 EntersC.en rfl rfl) (fun w hm => hclT w hm.below) rfl rfl rfl fun v2 _ => ?_)
        refine TL_rowN (i := 4) rfl (by omega) fun gt ct hv _ _ => ?_
        replace hv : v2 = _ := hv
        subst hv
        refine TW_on (sub_pick [0] (by decide) rfl) ?_
        repeat (first
          | ((first | refine TW_plain rfl rfl ?_ | refine TW_gmet rfl rfl rfl rfl ?_); first | refine TN_val (qp rfl) rfl rfl ?_ | refine TN_val (rr_build rfl (build_dfaG _ _ _ _ _ _)) rfl rfl ?_ | refine TN_val (qlen Und.eq rfl) rfl rfl ?_ | refine TN_val (qfld FldC.fld rfl rfl) rfl rfl ?_ | refine TN_val (rr_lss rfl rfl (qT (by omega))) rfl rfl ?_ | refine TN_val (rr_lss rfl rfl (qF (by omega))) rfl rfl ?_ | refine TN_val (rr_eql rfl rfl (qT (by omega))) rfl rfl ?_ | refine TN_val (rr_eql rfl rfl (qF (by omega))) rfl rfl ?_ | refine TN_val (rr_add64 rfl rfl (by omega) (by omega) rfl) rfl rfl ?_)
          | refine TW_done ?_)
        refine TW_one rfl (TL_storeB (i := 3) (cs' := (dfaV (.slice (some ⟨gr, 0, none⟩) R.length cr) (.slice (some ⟨gt, 0, none⟩) tags.length ct)).cells) rfl rfl rfl rfl rfl rfl (TW_on (sub_pick [0] (by decide) rfl) ?_))
        repeat (first
          | ((first | refine TW_plain rfl rfl ?_ | refine TW_gmet rfl rfl rfl rfl ?_); first | refine TN_val (qp rfl) rfl rfl ?_ | refine TN_val (qlen Und.eq rfl) rfl rfl ?_ | refine TN_val (qfld FldC.fld rfl rfl) rfl rfl ?_ | refine TN_val (rr_lss rfl rfl (qT (by omega))) rfl rfl ?_ | refine TN_val (rr_lss rfl rfl (qF (by omega))) rfl rfl ?_ | refine TN_val (rr_eql rfl rfl (qT (by omega))) rfl rfl ?_ | refine TN_val (rr_eql rfl rfl (qF (by omega))) rfl rfl ?_ | refine TN_val (rr_add64 rfl rfl (by omega) (by omega) rfl) rfl rfl ?_)
          | refine TW_done ?_)
        refine E_pick [1, 2, 4, 3] (by decide) rfl ?_
        exact E_mid (gr, cr, gt, ct, g5) trivial (by repeat' (first | exact True.intro | refine And.intro rfl ?_)) rfl
    · refine TL_new rfl fun g5 => TW_on (sub_pick [0] (by decide) rfl) ?_
      refine TW_one rfl (TL_call (he1 EntersC.en rfl rfl) (fun w hm => hclR w hm.below) rfl rfl rfl fun v1 _ => ?_)
      refine TL_rowN (i := 3) rfl (by omega) fun gr cr hv _ _ => ?_
      replace hv : v1 = _ := hv
      subst hv
      refine TW_on (sub_pick [0] (by decide) rfl) ?_
      refine TW_one rfl (TL_call (he1 EntersC.en rfl rfl) (fun w hm => hclT w hm.below) rfl rfl rfl fun v2 _ => ?_)
      refine TL_rowN (i := 4) rfl (by omega) fun gt ct hv _ _ => ?_
      replace hv : v2 = _ := hv
      subst hv
      refine TW_on (sub_pick [0] (by decide) rfl) ?_
      repeat (first
        | ((first | refine TW_plain rfl rfl ?_ | refine TW_gmet rfl rfl rfl rfl ?_); first | refine TN_val (qp rfl) rfl rfl ?_ | refine TN_val (rr_build rfl (build_dfaG _ _ _ _ _ _)) rfl rfl ?_ | refine TN_val (qlen Und.eq rfl) rfl rfl ?_ | refine TN_val (qfld FldC.fld rfl rfl) rfl rfl ?_ | refine TN_val (rr_lss rfl rfl (qT (by omega))) rfl rfl ?_ | refine TN_val (rr_lss rfl rfl (qF (by omega))) rfl rfl ?_ | refine TN_val (rr_eql rfl rfl (qT (by omega))) rfl rfl ?_ | refine TN_val (rr_eql rfl rfl (qF (by omega))) rfl rfl ?_ | refine TN_val (rr_add64 rfl rfl (by omega) (by omega) rfl) rfl rfl ?_)
        | refine TW_done ?_)
      refine TW_one rfl (TL_storeB (i := 2) (cs' := (dfaV (.slice (some ⟨gr, 0, none⟩) R.length cr) (.slice (some ⟨gt, 0, none⟩) tags.length ct)).cells) rfl rfl rfl rfl rfl rfl (TW_on (sub_pick [0] (by decide) rfl) ?_))
      repeat (first
        | ((first | refine TW_plain rfl rfl ?_ | refine TW_gmet rfl rfl rfl rfl ?_); first | refine TN_val (qp rfl) rfl rfl ?_ | refine TN_val (qlen Und.eq rfl) rfl rfl ?_ | refine TN_val (qfld FldC.fld rfl rfl) rfl rfl ?_ | refine TN_val (rr_lss rfl rfl (qT (by omega))) rfl rfl ?_ | refine TN_val (rr_lss rfl rfl (qF (by omega))) rfl rfl ?_ | refine TN_val (rr_eql rfl rfl (qT (by omega))) rfl rfl ?_ | refine TN_val (rr_eql rfl rfl (qF (by omega))) rfl rfl ?_ | refine TN_val (rr_add64 rfl rfl (by omega) (by omega) rfl) rfl rfl ?_)
        | refine TW_done ?_)
      refine E_pick [1, 3, 4, 2] (by decide) rfl ?_
      exact E_mid (gr, cr, gt, ct, g5) trivial (by repeat' (first | exact True.intro | refine And.intro rfl ?_)) rfl
  rintro ⟨gr, cr, gt, ct, g5⟩ _
  dsimp only
  have h0 : 0 < R.length := by omega
  have h0' : 0 < tags.length := by omega
  have ha' : a < tags.length := by omega
  have hsw := swap_tab R row0 ha h0
  have hswT := swap_tab tags 0 ha' h0'
  have hatA := fun (L : List Own) hi => at_rowel (W := w) (L := L) (i := 1) (g := gr) (m := R.length) (cap := cr) (n := R.length) (size := 256) (e := 31) rowC_len hi ha
  have hat0 := fun (L : List Own) hi => at_rowel (W := w) (L := L) (i := 1) (g := gr) (m := R.length) (cap := cr) (n := R.length) (size := 256) (e := 31) rowC_len hi h0
  have hatTA := fun (L : List Own) hi => at_rowel (W := w) (L := L) (i := 2) (g := gt) (m := tags.length) (cap := ct) (n := tags.length) (size := 1) (f := kit.intC) (e := 3) (fun _ => rfl) hi ha' 0 _ rfl
  have hatT0 := fun (L : List Own) hi => at_rowel (W := w) (L := L) (i := 2) (g := gt) (m := tags.length) (cap := ct) (n := tags.length) (size := 1) (f := kit.intC) (e := 3) (fun _ => rfl) hi h0' 0 _ rfl
  generalize R[a] = rA at *
  generalize R[0] = rZ at *
  generalize tags[a] = tA at *
  generalize tags[0] = tZ at *
  (repeat refine T_seq ?_)
  refine T_midq (ι := Unit) (fun _ => True) (fun _ => [(1, .int .i64 (a : Int)), (4, .pointer (some ⟨g4, 0, none⟩)), (5, .pointer (some ⟨g5, 0, none⟩))])
    (fun _ => [blkO g4 (dfaV (.slice none 0 0) (.slice none 0 0)).cells 25, rowO 31 256 (.slice (some ⟨gr, 0, none⟩) R.length cr) R.length ((frX R a 0 0).flatMap rowC), rowO 3 1 (.slice (some ⟨gt, 0, none⟩) tags.length ct) tags.length (tags.flatMap kit.intC), blkO g5 (dfaV (.slice (some ⟨gr, 0, none⟩) R.length cr) (.slice (some ⟨gt, 0, none⟩) tags.length ct)).cells 25]) ?_ ?_
  · refine T_ord ([blkO g5 (dfaV (.slice (some ⟨gr, 0, none⟩) R.length cr) (.slice (some ⟨gt, 0, none⟩) tags.length ct)).cells 25]) (.calm 0 (.calm 1 (.calm 2 (.calm 3 (.calm 4 (.calm 5 (.calm 6 (.calm 7 (.calm 8 (.calm 10 (.calm 11 (.calm 12 (.two 9 (.one 13 (.calm 14 (.one 15 (.calm 16 (.one 17 (.done)))))) 13 (.one 9 (.calm 14 (.one 15 (.calm 16 (.one 17 (.done))))))))))))))))))) (sub_pick [3] (by decide) rfl) (by kernel_rfl) (by kernel_rfl) (by intro c a d v w h; cases d <;> exact h) ?_
    repeat (first
      | ((first | refine TW_plain rfl rfl ?_ | refine TW_gmet rfl rfl rfl rfl ?_); first | refine TN_val (qp rfl) rfl rfl ?_ | refine TN_val (rr_load1 TyC.ty rfl (at_blk (i := 0) rfl rfl)) rfl rfl ?_ | refine TN_val (rr_idxc (j := a) Und.eq TyC.ty rfl rfl ha) rfl rfl ?_ | refine TN_val (rr_idxc (j := 0) Und.eq TyC.ty rfl rfl h0) rfl rfl ?_ | refine TN_val (qlen Und.eq rfl) rfl rfl ?_ | refine TN_val (qfld FldC.fld rfl rfl) rfl rfl ?_ | refine TN_val (rr_lss rfl rfl (qT (by omega))) rfl rfl ?_ | refine TN_val (rr_lss rfl rfl (qF (by omega))) rfl rfl ?_ | refine TN_val (rr_eql rfl rfl (qT (by omega))) rfl rfl ?_ | refine TN_val (rr_eql rfl rfl (qF (by omega))) rfl rfl ?_ | refine TN_val (rr_add64 rfl rfl (by omega) (by omega) rfl) rfl rfl ?_)
      | refine TW_done ?_)
    refine TW_two rfl rfl ?_ ?_
    · refine TL_val (rr_loadN TyC.ty rfl (rowC_len rA) (hatA _ rfl)) rfl rfl rfl (TW_on (sub_pick [3] (by decide) rfl) ?_)
      refine TW_one rfl (TL_val (rr_loadN TyC.ty rfl (rowC_len rZ) (hat0 _ rfl)) rfl rfl rfl (TW_on (sub_pick [3] (by decide) rfl) ?_))
      repeat (first
        | ((first | refine TW_plain rfl rfl ?_ | refine TW_gmet rfl rfl rfl rfl ?_); first | refine TN_val (qp rfl) rfl rfl ?_ | refine TN_val (rr_idxc (j := 0) Und.eq TyC.ty rfl rfl h0) rfl rfl ?_ | refine TN_val (qlen Und.eq rfl) rfl rfl ?_ | refine TN_val (qfld FldC.fld rfl rfl) rfl rfl ?_ | refine TN_val (rr_lss rfl rfl (qT (by omega))) rfl rfl ?_ | refine TN_val (rr_lss rfl rfl (qF (by omega))) rfl rfl ?_ | refine TN_val (rr_eql rfl rfl (qT (by omega))) rfl rfl ?_ | refine TN_val (rr_eql rfl rfl (qF (by omega))) rfl rfl ?_ | refine TN_val (rr_add64 rfl rfl (by omega) (by omega) rfl) rfl rfl ?_)
        | refine TW_done ?_)
      refine TW_one rfl (TL_setRow (i := 1) (k := 0) (a := rA) rowC_len TyC.ty rfl rfl (Nat.zero_add _) h0 rfl rfl rfl (row_one1 rA) (TW_on (sub_pick [3] (by decide) rfl) ?_))
      repeat (first
        | ((first | refine TW_plain rfl rfl ?_ | refine TW_gmet rfl rfl rfl rfl ?_); first | refine TN_val (qp rfl) rfl rfl ?_ | refine TN_val (rr_idxc (j := a) Und.eq TyC.ty rfl rfl ha) rfl rfl ?_ | refine TN_val (qlen Und.eq rfl) rfl rfl ?_ | refine TN_val (qfld FldC.fld rfl rfl) rfl rfl ?_ | refine TN_val (rr_lss rfl rfl (qT (by omega))) rfl rfl ?_ | refine TN_val (rr_lss rfl rfl (qF (by omega))) rfl rfl ?_ | refine TN_val (rr_eql rfl rfl (qT (by omega))) rfl rfl ?_ | refine TN_val (rr_eql rfl rfl (qF (by omega))) rfl rfl ?_ | refine TN_val (rr_add64 rfl rfl (by omega) (by omega) rfl) rfl rfl ?_)
        | refine TW_done ?_)
      refine TW_one rfl (TL_setRow (i := 1) (k := a) (a := rZ) rowC_len TyC.ty rfl rfl (Nat.zero_add _) (by simpa using ha) (by simp) rfl rfl (row_one1 rZ) (TW_on (sub_pick [3] (by decide) rfl) ?_))
      repeat (first
        | ((first | refine TW_plain rfl rfl ?_ | refine TW_gmet rfl rfl rfl rfl ?_); first | refine TN_val (qp rfl) rfl rfl ?_ | refine TN_val (qlen Und.eq rfl) rfl rfl ?_ | refine TN_val (qfld FldC.fld rfl rfl) rfl rfl ?_ | refine TN_val (rr_lss rfl rfl (qT (by omega))) rfl rfl ?_ | refine TN_val (rr_lss rfl rfl (qF (by omega))) rfl rfl ?_ | refine TN_val (rr_eql rfl rfl (qT (by omega))) rfl rfl ?_ | refine TN_val (rr_eql rfl rfl (qF (by omega))) rfl rfl ?_ | refine TN_val (rr_add64 rfl rfl (by omega) (by omega) rfl) rfl rfl ?_)
        | refine TW_done ?_)
      exact E_mid () trivial (by repeat' (first | exact True.intro | refine And.intro rfl ?_)) (by rw [frX_0, ← hsw]; rfl)
    · refine TL_val (rr_loadN TyC.ty rfl (rowC_len rZ) (hat0 _ rfl)) rfl rfl rfl (TW_on (sub_pick [3] (by decide) rfl) ?_)
      refine TW_one rfl (TL_val (rr_loadN TyC.ty rfl (rowC_len rA) (hatA _ rfl)) rfl rfl rfl (TW_on (sub_pick [3] (by decide) rfl) ?_))
      repeat (first
        | ((first | refine TW_plain rfl rfl ?_ | refine TW_gmet rfl rfl rfl rfl ?_); first | refine TN_val (qp rfl) rfl rfl ?_ | refine TN_val (rr_idxc (j := 0) Und.eq TyC.ty rfl rfl h0) rfl rfl ?_ | refine TN_val (qlen Und.eq rfl) rfl rfl ?_ | refine TN_val (qfld FldC.fld rfl rfl) rfl rfl ?_ | refine TN_val (rr_lss rfl rfl (qT (by omega))) rfl rfl ?_ | refine TN_val (rr_lss rfl rfl (qF (by omega))) rfl rfl ?_ | refine TN_val (rr_eql rfl rfl (qT (by omega))) rfl rfl ?_ | refine TN_val (rr_eql rfl rfl (qF (by omega))) rfl rfl ?_ | refine TN_val (rr_add64 rfl rfl (by omega) (by omega) rfl) rfl rfl ?_)
        | refine TW_done ?_)
      refine TW_one rfl (TL_setRow (i := 1) (k := 0) (a := rA) rowC_len TyC.ty rfl rfl (Nat.zero_add _) h0 rfl rfl rfl (row_one1 rA) (TW_on (sub_pick [3] (by decide) rfl) ?_))
      repeat (first
        | ((first | refine TW_plain rfl rfl ?_ | refine TW_gmet rfl rfl rfl rfl ?_); first | refine TN_val (qp rfl) rfl rfl ?_ | refine TN_val (rr_idxc (j := a) Und.eq TyC.ty rfl rfl ha) rfl rfl ?_ | refine TN_val (qlen Und.eq rfl) rfl rfl ?_ | refine TN_val (qfld FldC.fld rfl rfl) rfl rfl ?_ | refine TN_val (rr_lss rfl rfl (qT (by omega))) rfl rfl ?_ | refine TN_val (rr_lss rfl rfl (qF (by omega))) rfl rfl ?_ | refine TN_val (rr_eql rfl rfl (qT (by omega))) rfl rfl ?_ | refine TN_val (rr_eql rfl rfl (qF (by omega))) rfl rfl ?_ | refine TN_val (rr_add64 rfl rfl (by omega) (by omega) rfl) rfl rfl ?_)
        | refine TW_done ?_)
      refine TW_one rfl (TL_setRow (i := 1) (k := a) (a := rZ) rowC_len TyC.ty rfl rfl (Nat.zero_add _) (by simpa using ha) (by simp) rfl rfl (row_one1 rZ) (TW_on (sub_pick [3] (by decide) rfl) ?_))
      repeat (first
        | ((first | refine TW_plain rfl rfl ?_ | refine TW_gmet rfl rfl rfl rfl ?_); first | refine TN_val (qp rfl) rfl rfl ?_ | refine TN_val (qlen Und.eq rfl) rfl rfl ?_ | refine TN_val (qfld FldC.fld rfl rfl) rfl rfl ?_ | refine TN_val (rr_lss rfl rfl (qT (by omega))) rfl rfl ?_ | refine TN_val (rr_lss rfl rfl (qF (by omega))) rfl rfl ?_ | refine TN_val (rr_eql rfl rfl (qT (by omega))) rfl rfl ?_ | refine TN_val (rr_eql rfl rfl (qF (by omega))) rfl rfl ?_ | refine TN_val (rr_add64 rfl rfl (by omega) (by omega) rfl) rfl rfl ?_)
        | refine TW_done ?_)
      exact E_mid () trivial (by repeat' (first | exact True.intro | refine And.intro rfl ?_)) (by rw [frX_0, ← hsw]; rfl)
  rintro ⟨⟩ _
  clear hatA hat0 hsw
  repeat (first
    | refine qv rfl (qp rfl) rfl rfl ?_ | refine TL_nil ?_ | refine T_seq ?_ | refine T_region ?_ | refine qcT rfl ?_ | refine qcF rfl ?_ | refine T_skip ?_
    | refine T_exit ?_ | refine T_ret ?_ | refine T_block ?_ | refine E_then ?_ | refine E_thenX ?_ | refine E_thenR ?_ | refine E_blockN ?_
    | refine E_blockR ?_ | refine E_blockX ?_ | refine E_blockO rfl ?_ | refine qv rfl (qlen Und.eq rfl) rfl rfl ?_
    | refine qv rfl (qfld FldC.fld rfl rfl) rfl rfl ?_ | refine qv rfl (rr_lss rfl rfl (qT (by omega))) rfl rfl ?_
    | refine qv rfl (rr_lss rfl rfl (qF (by omega))) rfl rfl ?_ | refine qv rfl (rr_eql rfl rfl (qT (by omega))) rfl rfl ?_
    | refine qv rfl (rr_eql rfl rfl (qF (by omega))) rfl rfl ?_ | refine qv rfl (rr_add64 rfl rfl (by omega) (by omega) rfl) rfl rfl ?_)
  (repeat refine T_seq ?_)
  refine T_midq (ι := Unit) (fun _ => True) (fun _ => [(1, .int .i64 (a : Int)), (4, .pointer (some ⟨g4, 0, none⟩)), (5, .pointer (some ⟨g5, 0, none⟩))])
    (fun _ => [blkO g4 (dfaV (.slice none 0 0) (.slice none 0 0)).cells 25, rowO 31 256 (.slice (some ⟨gr, 0, none⟩) R.length cr) R.length ((frX R a 0 0).flatMap rowC), rowO 3 1 (.slice (some ⟨gt, 0, none⟩) tags.length ct) tags.length ((fromT tags a).flatMap kit.intC), blkO g5 (dfaV (.slice (some ⟨gr, 0, none⟩) R.length cr) (.slice (some ⟨gt, 0, none⟩) tags.length ct)).cells 25]) ?_ ?_
  · refine T_ord ([blkO g5 (dfaV (.slice (some ⟨gr, 0, none⟩) R.length cr) (.slice (some ⟨gt, 0, none⟩) tags.length ct)).cells 25]) (.calm 0 (.calm 1 (.calm 2 (.calm 3 (.calm 4 (.calm 5 (.calm 6 (.calm 7 (.calm 8 (.calm 10 (.calm 11 (.calm 12 (.two 9 (.one 13 (.calm 14 (.one 15 (.calm 16 (.one 17 (.done)))))) 13 (.one 9 (.calm 14 (.one 15 (.calm 16 (.one 17 (.done))))))))))))))))))) (sub_pick [3] (by decide) rfl) (by kernel_rfl) (by kernel_rfl) (by intro c a d v w h; cases d <;> exact h) ?_
    repeat (first
      | ((first | refine TW_plain rfl rfl ?_ | refine TW_gmet rfl rfl rfl rfl ?_); first | refine TN_val (qp rfl) rfl rfl ?_ | refine TN_val (rr_load1 TyC.ty rfl (at_blk (i := 0) rfl rfl)) rfl rfl ?_ | refine TN_val (rr_idxc (j := a) Und.eq TyC.ty rfl rfl ha') rfl rfl ?_ | refine TN_val (rr_idxc (j := 0) Und.eq TyC.ty rfl rfl h0') rfl rfl ?_ | refine TN_val (qlen Und.eq rfl) rfl rfl ?_ | refine TN_val (qfld FldC.fld rfl rfl) rfl rfl ?_ | refine TN_val (rr_lss rfl rfl (qT (by omega))) rfl rfl ?_ | refine TN_val (rr_lss rfl rfl (qF (by omega))) rfl rfl ?_ | refine TN_val (rr_eql rfl rfl (qT (by omega))) rfl rfl ?_ | refine TN_val (rr_eql rfl rfl (qF (by omega))) rfl rfl ?_ | refine TN_val (rr_add64 rfl rfl (by omega) (by omega) rfl) rfl rfl ?_)
      | refine TW_done ?_)
    refine TW_two rfl rfl ?_ ?_
    · refine TL_val (rr_load1 TyC.ty rfl (hatTA _ rfl)) rfl rfl rfl (TW_on (sub_pick [3] (by decide) rfl) ?_)
      refine TW_one rfl (TL_val (rr_load1 TyC.ty rfl (hatT0 _ rfl)) rfl rfl rfl (TW_on (sub_pick [3] (by decide) rfl) ?_))
      repeat (first
        | ((first | refine TW_plain rfl rfl ?_ | refine TW_gmet rfl rfl rfl rfl ?_); first | refine TN_val (qp rfl) rfl rfl ?_ | refine TN_val (rr_idxc (j := 0) Und.eq TyC.ty rfl rfl h0') rfl rfl ?_ | refine TN_val (qlen Und.eq rfl) rfl rfl ?_ | refine TN_val (qfld FldC.fld rfl rfl) rfl rfl ?_ | refine TN_val (rr_lss rfl rfl (qT (by omega))) rfl rfl ?_ | refine TN_val (rr_lss rfl rfl (qF (by omega))) rfl rfl ?_ | refine TN_val (rr_eql rfl rfl (qT (by omega))) rfl rfl ?_ | refine TN_val (rr_eql rfl rfl (qF (by omega))) rfl rfl ?_ | refine TN_val (rr_add64 rfl rfl (by omega) (by omega) rfl) rfl rfl ?_)
        | refine TW_done ?_)
      refine TW_one rfl (TL_setRow (i := 2) (k := 0) (a := tA) (f := kit.intC) (fun _ => rfl) TyC.ty rfl rfl (Nat.zero_add _) h0' rfl rfl rfl rfl (TW_on (sub_pick [3] (by decide) rfl) ?_))
      repeat (first
        | ((first | refine TW_plain rfl rfl ?_ | refine TW_gmet rfl rfl rfl rfl ?_); first | refine TN_val (qp rfl) rfl rfl ?_ | refine TN_val (rr_idxc (j := a) Und.eq TyC.ty rfl rfl ha') rfl rfl ?_ | refine TN_val (qlen Und.eq rfl) rfl rfl ?_ | refine TN_val (qfld FldC.fld rfl rfl) rfl rfl ?_ | refine TN_val (rr_lss rfl rfl (qT (by omega))) rfl rfl ?_ | refine TN_val (rr_lss rfl rfl (qF (by omega))) rfl rfl ?_ | refine TN_val (rr_eql rfl rfl (qT (by omega))) rfl rfl ?_ | refine TN_val (rr_eql rfl rfl (qF (by omega))) rfl rfl ?_ | refine TN_val (rr_add64 rfl rfl (by omega) (by omega) rfl) rfl rfl ?_)
        | refine TW_done ?_)
      refine TW_one rfl (TL_setRow (i := 2) (k := a) (a := tZ) (f := kit.intC) (fun _ => rfl) TyC.ty rfl rfl (Nat.zero_add _) (by simpa using ha') (by simp) rfl rfl rfl (TW_on (sub_pick [3] (by decide) rfl) ?_))
      repeat (first
        | ((first | refine TW_plain rfl rfl ?_ | refine TW_gmet rfl rfl rfl rfl ?_); first | refine TN_val (qp rfl) rfl rfl ?_ | refine TN_val (qlen Und.eq rfl) rfl rfl ?_ | refine TN_val (qfld FldC.fld rfl rfl) rfl rfl ?_ | refine TN_val (rr_lss rfl rfl (qT (by omega))) rfl rfl ?_ | refine TN_val (rr_lss rfl rfl (qF (by omega))) rfl rfl ?_ | refine TN_val (rr_eql rfl rfl (qT (by omega))) rfl rfl ?_ | refine TN_val (rr_eql rfl rfl (qF (by omega))) rfl rfl ?_ | refine TN_val (rr_add64 rfl rfl (by omega) (by omega) rfl) rfl rfl ?_)
        | refine TW_done ?_)
      exact E_mid () trivial (by repeat' (first | exact True.intro | refine And.intro rfl ?_)) (by unfold fromT; rw [← hswT]; rfl)
    · refine TL_val (rr_load1 TyC.ty rfl (hatT0 _ rfl)) rfl rfl rfl (TW_on (sub_pick [3] (by decide) rfl) ?_)
      refine TW_one rfl (TL_val (rr_load1 TyC.ty rfl (hatTA _ rfl)) rfl rfl rfl (TW_on (sub_pick [3] (by decide) rfl) ?_))
      repeat (first
        | ((first | refine TW_plain rfl rfl ?_ | refine TW_gmet rfl rfl rfl rfl ?_); first | refine TN_val (qp rfl) rfl rfl ?_ | refine TN_val (rr_idxc (j := 0) Und.eq TyC.ty rfl rfl h0') rfl rfl ?_ | refine TN_val (qlen Und.eq rfl) rfl rfl ?_ | refine TN_val (qfld FldC.fld rfl rfl) rfl rfl ?_ | refine TN_val (rr_lss rfl rfl (qT (by omega))) rfl rfl ?_ | refine TN_val (rr_lss rfl rfl (qF (by omega))) rfl rfl ?_ | refine TN_val (rr_eql rfl rfl (qT (by omega))) rfl rfl ?_ | refine TN_val (rr_eql rfl rfl (qF (by omega))) rfl rfl ?_ | refine TN_val (rr_add64 rfl rfl (by omega) (by omega) rfl) rfl rfl ?_)
        | refine TW_done ?_)
      refine TW_one rfl (TL_setRow (i := 2) (k := 0) (a := tA) (f := kit.intC) (fun _ => rfl) TyC.ty rfl rfl (Nat.zero_add _) h0' rfl rfl rfl rfl (TW_on (sub_pick [3] (by decide) rfl) ?_))
      repeat (first
        | ((first | refine TW_plain rfl rfl ?_ | refine TW_gmet rfl rfl rfl rfl ?_); first | refine TN_val (qp rfl) rfl rfl ?_ | refine TN_val (rr_idxc (j := a) Und.eq TyC.ty rfl rfl ha') rfl rfl ?_ | refine TN_val (qlen Und.eq rfl) rfl rfl ?_ | refine TN_val (qfld FldC.fld rfl rfl) rfl rfl ?_ | refine TN_val (rr_lss rfl rfl (qT (by omega))) rfl rfl ?_ | refine TN_val (rr_lss rfl rfl (qF (by omega))) rfl rfl ?_ | refine TN_val (rr_eql rfl rfl (qT (by omega))) rfl rfl ?_ | refine TN_val (rr_eql rfl rfl (qF (by omega))) rfl rfl ?_ | refine TN_val (rr_add64 rfl rfl (by omega) (by omega) rfl) rfl rfl ?_)
        | refine TW_done ?_)
      refine TW_one rfl (TL_setRow (i := 2) (k := a) (a := tZ) (f := kit.intC) (fun _ => rfl) TyC.ty rfl rfl (Nat.zero_add _) (by simpa using ha') (by simp) rfl rfl rfl (TW_on (sub_pick [3] (by decide) rfl) ?_))
      repeat (first
        | ((first | refine TW_plain rfl rfl ?_ | refine TW_gmet rfl rfl rfl rfl ?_); first | refine TN_val (qp rfl) rfl rfl ?_ | refine TN_val (qlen Und.eq rfl) rfl rfl ?_ | refine TN_val (qfld FldC.fld rfl rfl) rfl rfl ?_ | refine TN_val (rr_lss rfl rfl (qT (by omega))) rfl rfl ?_ | refine TN_val (rr_lss rfl rfl (qF (by omega))) rfl rfl ?_ | refine TN_val (rr_eql rfl rfl (qT (by omega))) rfl rfl ?_ | refine TN_val (rr_eql rfl rfl (qF (by omega))) rfl rfl ?_ | refine TN_val (rr_add64 rfl rfl (by omega) (by omega) rfl) rfl rfl ?_)
        | refine TW_done ?_)
      exact E_mid () trivial (by repeat' (first | exact True.intro | refine And.intro rfl ?_)) (by unfold fromT; rw [← hswT]; rfl)
  rintro ⟨⟩ _
  clear hatTA hatT0 hswT
  repeat (first
    | refine qv rfl (qp rfl) rfl rfl ?_ | refine TL_nil ?_ | refine T_seq ?_ | refine T_region ?_ | refine qcT rfl ?_ | refine qcF rfl ?_ | refine T_skip ?_
    | refine T_exit ?_ | refine T_ret ?_ | refine T_block ?_ | refine E_then ?_ | refine E_thenX ?_ | refine E_thenR ?_ | refine E_blockN ?_
    | refine E_blockR ?_ | refine E_blockX ?_ | refine E_blockO rfl ?_ | refine qv rfl (rr_load1 TyC.ty rfl (at_blk (i := 3) rfl rfl)) rfl rfl ?_
    | refine qv rfl (qlen Und.eq rfl) rfl rfl ?_ | refine qv rfl (qfld FldC.fld rfl rfl) rfl rfl ?_
    | refine qv rfl (rr_lss rfl rfl (qT (by omega))) rfl rfl ?_ | refine qv rfl (rr_lss rfl rfl (qF (by omega))) rfl rfl ?_
    | refine qv rfl (rr_eql rfl rfl (qT (by omega))) rfl rfl ?_ | refine qv rfl (rr_eql rfl rfl (qF (by omega))) rfl rfl ?_
    | refine qv rfl (rr_add64 rfl rfl (by omega) (by omega) rfl) rfl rfl ?_)
  refine T_loop (ι := Nat) (fun i => i ≤ R.length) (fun i => [(1, .int .i64 (a : Int)), (4, .pointer (some ⟨g4, 0, none⟩)), (5, .pointer (some ⟨g5, 0, none⟩)), (50, .int .i64 (R.length : Int)), (51, .int .i64 (i : Int))])
    (fun i => [blkO g4 (dfaV (.slice none 0 0) (.slice none 0 0)).cells 25, rowO 31 256 (.slice (some ⟨gr, 0, none⟩) R.length cr) R.length ((frX R a i 0).flatMap rowC), rowO 3 1 (.slice (some ⟨gt, 0, none⟩) tags.length ct) tags.length ((fromT tags a).flatMap kit.intC), blkO g5 (dfaV (.slice (some ⟨gr, 0, none⟩) R.length cr) (.slice (some ⟨gt, 0, none⟩) tags.length ct)).cells 25]) (fun i => R.length - i) 0 (Nat.zero_le _) (by repeat' (first | exact True.intro | refine And.intro rfl ?_)) rfl ?_
  intro i hi
  by_cases c1 : i < R.length
  · have hat := fun (L : List Own) hl => at_rowel (W := w) (L := L) (i := 1) (g := gr) (m := R.length) (cap := cr) (n := R.length) (size := 256) (e := 31) (l := frX R a i 0) rowC_len hl (k := i) (by rw [frX_len]; exact c1)
    have hgi : (frX R a i 0)[i]'(by rw [frX_len]; exact c1) = R.getD (swp a i) row0 := by
      have := frX_get R a 0 c1
      rw [frP_0, List.getD_eq_getElem?_getD, List.getElem?_eq_getElem (by rw [frX_len]; exact c1)] at this
      exact this
    rw [hgi] at hat
    have hset := fun b hb => frX_set R a (i := i) (b := b) c1 hb
    have hsame := fun b hb => frX_same R a (i := i) (b := b) c1 hb
    have hr16 : ∀ b (hb : b < 256), (-32768 : Int) ≤ (R.getD (swp a i) row0)[b] ∧ (R.getD (swp a i) row0)[b] ≤ 32767 := fun b hb => by
      have hk := swp_lt ha c1
      rw [List.getD_eq_getElem?_getD, List.getElem?_eq_getElem hk, Option.getD_some]
      exact hrng _ (List.getElem_mem hk) _ (by rw [← Vector.getElem_toList (h := by simpa using hb)]; exact List.getElem_mem _)
    clear hgi
    generalize R.getD (swp a i) row0 = r at *
    repeat (first
      | refine qv rfl (qp rfl) rfl rfl ?_ | refine TL_nil ?_ | refine T_seq ?_ | refine T_region ?_ | refine qcT rfl ?_ | refine qcF rfl ?_ | refine T_skip ?_
      | refine T_exit ?_ | refine T_ret ?_ | refine T_block ?_ | refine E_then ?_ | refine E_thenX ?_ | refine E_thenR ?_ | refine E_blockN ?_
      | refine E_blockR ?_ | refine E_blockX ?_ | refine E_blockO rfl ?_ | refine qv rfl (rr_load1 TyC.ty rfl (at_blk (i := 3) rfl rfl)) rfl rfl ?_
      | refine qv rfl (rr_idxc Und.eq TyC.ty rfl rfl c1) rfl rfl ?_ | refine qv rfl (rr_loadN TyC.ty rfl (rowC_len r) (hat _ rfl)) rfl rfl ?_
      | refine qv rfl (qlen Und.eq rfl) rfl rfl ?_ | refine qv rfl (qfld FldC.fld rfl rfl) rfl rfl ?_
      | refine qv rfl (rr_lss rfl rfl (qT (by omega))) rfl rfl ?_ | refine qv rfl (rr_lss rfl rfl (qF (by omega))) rfl rfl ?_
      | refine qv rfl (rr_eql rfl rfl (qT (by omega))) rfl rfl ?_ | refine qv rfl (rr_eql rfl rfl (qF (by omega))) rfl rfl ?_
      | refine qv rfl (rr_add64 rfl rfl (by omega) (by omega) rfl) rfl rfl ?_)
    refine T_loop (ι := Nat) (fun b => b ≤ 256) (fun b => [(1, .int .i64 (a : Int)), (4, .pointer (some ⟨g4, 0, none⟩)), (5, .pointer (some ⟨g5, 0, none⟩)), (6, .int .i64 (i : Int)), (50, .int .i64 (R.length : Int)), (51, .int .i64 (i : Int)), (58, rowV r), (59, .int .i64 (b : Int))])
      (fun b => [blkO g4 (dfaV (.slice none 0 0) (.slice none 0 0)).cells 25, rowO 31 256 (.slice (some ⟨gr, 0, none⟩) R.length cr) R.length ((frX R a i b).flatMap rowC), rowO 3 1 (.slice (some ⟨gt, 0, none⟩) tags.length ct) tags.length ((fromT tags a).flatMap kit.intC), blkO g5 (dfaV (.slice (some ⟨gr, 0, none⟩) R.length cr) (.slice (some ⟨gt, 0, none⟩) tags.length ct)).cells 25]) (fun b => 256 - b) 0 (Nat.zero_le _) (by repeat' (first | exact True.intro | refine And.intro rfl ?_)) rfl ?_
    intro b hb
    by_cases c2 : b < 256
    · have hcell : (rowC r).toArray[b]? = some (.int .i16 r[b]) := by rw [List.getElem?_toArray]; exact rowC_get r c2
      have hset' := hset b c2
      have hsame' := hsame b c2
      have hx := hr16 b c2
      clear hset hsame hat hr16
      generalize r[b] = x at *
      by_cases c3 : x = a
      · have e : swI a x = 0 := by unfold swI; rw [if_pos c3]
        rw [e] at hset'
        repeat (first
          | refine qv rfl (qp rfl) rfl rfl ?_ | refine TL_nil ?_ | refine T_seq ?_ | refine T_region ?_ | refine qcT rfl ?_ | refine qcF rfl ?_ | refine T_skip ?_
          | refine T_exit ?_ | refine T_ret ?_ | refine T_block ?_ | refine E_then ?_ | refine E_thenX ?_ | refine E_thenR ?_ | refine E_blockN ?_
          | refine E_blockR ?_ | refine E_blockX ?_ | refine E_blockO rfl ?_ | refine qv rfl (rr_arridx Und.eq TyC.ty rfl rfl c2 hcell) rfl rfl ?_
          | refine qv rfl (rr_conv Und.eq Und.eq rfl (wrap_in (by omega) (by omega))) rfl rfl ?_
          | refine qv rfl (rr_load1 TyC.ty rfl (at_blk (i := 3) rfl rfl)) rfl rfl ?_ | refine qv rfl (rr_idxc Und.eq TyC.ty rfl rfl c1) rfl rfl ?_
          | refine qv rfl (rr_aidx1 Und.eq TyC.ty rfl rfl c2) rfl rfl ?_ | refine qv rfl (qlen Und.eq rfl) rfl rfl ?_
          | refine qv rfl (qfld FldC.fld rfl rfl) rfl rfl ?_ | refine qv rfl (rr_lss rfl rfl (qT (by omega))) rfl rfl ?_
          | refine qv rfl (rr_lss rfl rfl (qF (by omega))) rfl rfl ?_ | refine qv rfl (rr_eql rfl rfl (qT (by omega))) rfl rfl ?_
          | refine qv rfl (rr_eql rfl rfl (qF (by omega))) rfl rfl ?_ | refine qv rfl (rr_add64 rfl rfl (by omega) (by omega) rfl) rfl rfl ?_)
        refine TL_setCell (i := 1) (k := i) (b := b) TyC.ty rfl rfl rfl (by rw [frX_len]; exact c1) c2 ?_
        rw [hset']
        conv => arg 8; simp only [zA, zB, zC, zD, zE, zF, zG, zH, zI, rowS, ret, id_eq]
        repeat (first
          | refine qv rfl (qp rfl) rfl rfl ?_ | refine TL_nil ?_ | refine T_seq ?_ | refine T_region ?_ | refine qcT rfl ?_ | refine qcF rfl ?_ | refine T_skip ?_
          | refine T_exit ?_ | refine T_ret ?_ | refine T_block ?_ | refine E_then ?_ | refine E_thenX ?_ | refine E_thenR ?_ | refine E_blockN ?_
          | refine E_blockR ?_ | refine E_blockX ?_ | refine E_blockO rfl ?_ | refine qv rfl (qlen Und.eq rfl) rfl rfl ?_
          | refine qv rfl (qfld FldC.fld rfl rfl) rfl rfl ?_ | refine qv rfl (rr_lss rfl rfl (qT (by omega))) rfl rfl ?_
          | refine qv rfl (rr_lss rfl rfl (qF (by omega))) rfl rfl ?_ | refine qv rfl (rr_eql rfl rfl (qT (by omega))) rfl rfl ?_
          | refine qv rfl (rr_eql rfl rfl (qF (by omega))) rfl rfl ?_ | refine qv rfl (rr_add64 rfl rfl (by omega) (by omega) rfl) rfl rfl ?_)
        exact E_round (b + 1) (by show b + 1 ≤ 256; omega) (by show 256 - (b + 1) < 256 - b; omega) (by repeat' (first | exact True.intro | refine And.intro rfl ?_)) rfl
      · by_cases c4 : x = 0
        · have e : swI a x = (a : Int) := by unfold swI; rw [if_neg c3, if_pos c4]
          rw [e] at hset'
          repeat (first
            | refine qv rfl (qp rfl) rfl rfl ?_ | refine TL_nil ?_ | refine T_seq ?_ | refine T_region ?_ | refine qcT rfl ?_ | refine qcF rfl ?_ | refine T_skip ?_
            | refine T_exit ?_ | refine T_ret ?_ | refine T_block ?_ | refine E_then ?_ | refine E_thenX ?_ | refine E_thenR ?_ | refine E_blockN ?_
            | refine E_blockR ?_ | refine E_blockX ?_ | refine E_blockO rfl ?_ | refine qv rfl (rr_arridx Und.eq TyC.ty rfl rfl c2 hcell) rfl rfl ?_
            | refine qv rfl (rr_conv Und.eq Und.eq rfl (wrap_in (by omega) (by omega))) rfl rfl ?_
            | refine qv rfl (rr_load1 TyC.ty rfl (at_blk (i := 3) rfl rfl)) rfl rfl ?_
            | refine qv rfl (rr_conv Und.eq Und.eq rfl (wrap16 (by omega) (by omega))) rfl rfl ?_ | refine qv rfl (rr_idxc Und.eq TyC.ty rfl rfl c1) rfl rfl ?_
            | refine qv rfl (rr_aidx1 Und.eq TyC.ty rfl rfl c2) rfl rfl ?_ | refine qv rfl (qlen Und.eq rfl) rfl rfl ?_
            | refine qv rfl (qfld FldC.fld rfl rfl) rfl rfl ?_ | refine qv rfl (rr_lss rfl rfl (qT (by omega))) rfl rfl ?_
            | refine qv rfl (rr_lss rfl rfl (qF (by omega))) rfl rfl ?_ | refine qv rfl (rr_eql rfl rfl (qT (by omega))) rfl rfl ?_
            | refine qv rfl (rr_eql rfl rfl (qF (by omega))) rfl rfl ?_ | refine qv rfl (rr_add64 rfl rfl (by omega) (by omega) rfl) rfl rfl ?_)
          refine TL_setCell (i := 1) (k := i) (b := b) TyC.ty rfl rfl rfl (by rw [frX_len]; exact c1) c2 ?_
          rw [hset']
          conv => arg 8; simp only [zA, zB, zC, zD, zE, zF, zG, zH, zI, rowS, ret, id_eq]
          repeat (first
            | refine qv rfl (qp rfl) rfl rfl ?_ | refine TL_nil ?_ | refine T_seq ?_ | refine T_region ?_ | refine qcT rfl ?_ | refine qcF rfl ?_ | refine T_skip ?_
            | refine T_exit ?_ | refine T_ret ?_ | refine T_block ?_ | refine E_then ?_ | refine E_thenX ?_ | refine E_thenR ?_ | refine E_blockN ?_
            | refine E_blockR ?_ | refine E_blockX ?_ | refine E_blockO rfl ?_ | refine qv rfl (qlen Und.eq rfl) rfl rfl ?_
            | refine qv rfl (qfld FldC.fld rfl rfl) rfl rfl ?_ | refine qv rfl (rr_lss rfl rfl (qT (by omega))) rfl rfl ?_
            | refine qv rfl (rr_lss rfl rfl (qF (by omega))) rfl rfl ?_ | refine qv rfl (rr_eql rfl rfl (qT (by omega))) rfl rfl ?_
            | refine qv rfl (rr_eql rfl rfl (qF (by omega))) rfl rfl ?_ | refine qv rfl (rr_add64 rfl rfl (by omega) (by omega) rfl) rfl rfl ?_)
          exact E_round (b + 1) (by show b + 1 ≤ 256; omega) (by show 256 - (b + 1) < 256 - b; omega) (by repeat' (first | exact True.intro | refine And.intro rfl ?_)) rfl
        · have e : swI a x = x := by unfold swI; rw [if_neg c3, if_neg c4]
          rw [e] at hsame'
          repeat (first
            | refine qv rfl (qp rfl) rfl rfl ?_ | refine TL_nil ?_ | refine T_seq ?_ | refine T_region ?_ | refine qcT rfl ?_ | refine qcF rfl ?_ | refine T_skip ?_
            | refine T_exit ?_ | refine T_ret ?_ | refine T_block ?_ | refine E_then ?_ | refine E_thenX ?_ | refine E_thenR ?_ | refine E_blockN ?_
            | refine E_blockR ?_ | refine E_blockX ?_ | refine E_blockO rfl ?_ | refine qv rfl (rr_arridx Und.eq TyC.ty rfl rfl c2 hcell) rfl rfl ?_
            | refine qv rfl (rr_conv Und.eq Und.eq rfl (wrap_in (by omega) (by omega))) rfl rfl ?_ | refine qv rfl (qlen Und.eq rfl) rfl rfl ?_
            | refine qv rfl (qfld FldC.fld rfl rfl) rfl rfl ?_ | refine qv rfl (rr_lss rfl rfl (qT (by omega))) rfl rfl ?_
            | refine qv rfl (rr_lss rfl rfl (qF (by omega))) rfl rfl ?_ | refine qv rfl (rr_eql rfl rfl (qT (by omega))) rfl rfl ?_
            | refine qv rfl (rr_eql rfl rfl (qF (by omega))) rfl rfl ?_ | refine qv rfl (rr_add64 rfl rfl (by omega) (by omega) rfl) rfl rfl ?_)
          exact E_round (b + 1) (by show b + 1 ≤ 256; omega) (by show 256 - (b + 1) < 256 - b; omega) (by repeat' (first | exact True.intro | refine And.intro rfl ?_)) (by rw [hsame' rfl])
    · obtain rfl : b = 256 := by omega
      rw [frX_row]
      repeat (first
        | refine qv rfl (qp rfl) rfl rfl ?_ | refine TL_nil ?_ | refine T_seq ?_ | refine T_region ?_ | refine qcT rfl ?_ | refine qcF rfl ?_ | refine T_skip ?_
        | refine T_exit ?_ | refine T_ret ?_ | refine T_block ?_ | refine E_then ?_ | refine E_thenX ?_ | refine E_thenR ?_ | refine E_blockN ?_
        | refine E_blockR ?_ | refine E_blockX ?_ | refine E_blockO rfl ?_ | refine qv rfl (qlen Und.eq rfl) rfl rfl ?_
        | refine qv rfl (qfld FldC.fld rfl rfl) rfl rfl ?_ | refine qv rfl (rr_lss rfl rfl (qT (by omega))) rfl rfl ?_
        | refine qv rfl (rr_lss rfl rfl (qF (by omega))) rfl rfl ?_ | refine qv rfl (rr_eql rfl rfl (qT (by omega))) rfl rfl ?_
        | refine qv rfl (rr_eql rfl rfl (qF (by omega))) rfl rfl ?_ | refine qv rfl (rr_add64 rfl rfl (by omega) (by omega) rfl) rfl rfl ?_)
      exact E_round (i + 1) (by show i + 1 ≤ R.length; omega) (by show R.length - (i + 1) < R.length - i; omega) (by repeat' (first | exact True.intro | refine And.intro rfl ?_)) rfl
  · obtain rfl : i = R.length := by omega
    rw [frX_end]
    repeat (first
      | refine qv rfl (qp rfl) rfl rfl ?_ | refine TL_nil ?_ | refine T_seq ?_ | refine T_region ?_ | refine qcT rfl ?_ | refine qcF rfl ?_ | refine T_skip ?_
      | refine T_exit ?_ | refine T_ret ?_ | refine T_block ?_ | refine E_then ?_ | refine E_thenX ?_ | refine E_thenR ?_ | refine E_blockN ?_
      | refine E_blockR ?_ | refine E_blockX ?_ | refine E_blockO rfl ?_ | refine qv rfl (rr_loadB (i := 3) TyC.ty rfl rfl rfl) rfl rfl ?_
      | refine qv rfl (qlen Und.eq rfl) rfl rfl ?_ | refine qv rfl (qfld FldC.fld rfl rfl) rfl rfl ?_
      | refine qv rfl (rr_lss rfl rfl (qT (by omega))) rfl rfl ?_ | refine qv rfl (rr_lss rfl rfl (qF (by omega))) rfl rfl ?_
      | refine qv rfl (rr_eql rfl rfl (qT (by omega))) rfl rfl ?_ | refine qv rfl (rr_eql rfl rfl (qF (by omega))) rfl rfl ?_
      | refine qv rfl (rr_add64 rfl rfl (by omega) (by omega) rfl) rfl rfl ?_)
    refine TL_storeB (i := 0) (cs' := (dfaV (.slice (some ⟨gr, 0, none⟩) R.length cr) (.slice (some ⟨gt, 0, none⟩) tags.length ct)).cells) rfl rfl rfl rfl rfl rfl ?_
    conv => arg 8; simp only [zA, zB, zC, zD, zE, zF, zG, zH, zI, rowS, ret, id_eq]
    repeat (first
      | refine qv rfl (qp rfl) rfl rfl ?_ | refine TL_nil ?_ | refine T_seq ?_ | refine T_region ?_ | refine qcT rfl ?_ | refine qcF rfl ?_ | refine T_skip ?_
      | refine T_exit ?_ | refine T_ret ?_ | refine T_block ?_ | refine E_then ?_ | refine E_thenX ?_ | refine E_thenR ?_ | refine E_blockN ?_
      | refine E_blockR ?_ | refine E_blockX ?_ | refine E_blockO rfl ?_ | refine qv rfl (qlen Und.eq rfl) rfl rfl ?_
      | refine qv rfl (qfld FldC.fld rfl rfl) rfl rfl ?_ | refine qv rfl (rr_lss rfl rfl (qT (by omega))) rfl rfl ?_
      | refine qv rfl (rr_lss rfl rfl (qF (by omega))) rfl rfl ?_ | refine qv rfl (rr_eql rfl rfl (qT (by omega))) rfl rfl ?_
      | refine qv rfl (rr_eql rfl rfl (qF (by omega))) rfl rfl ?_ | refine qv rfl (rr_add64 rfl rfl (by omega) (by omega) rfl) rfl rfl ?_)
    refine E_retc1 (i := 0) rfl rfl rfl rfl fun w hm => ?_
    exact hm.meets (S := fromS R tags a) (.slice (some ⟨gr, 0, none⟩) R.length cr, .slice (some ⟨gt, 0, none⟩) tags.length ct) trivial [1, 2] (by decide) (by unfold fromS; dsimp only; rw [fromR_len, fromT_len]; rfl)
end Go.Proofs.Ytbiacehgfmgfdaa.eng
