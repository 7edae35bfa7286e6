/- Functions of package slices at api.Rex (printed by program). -/
import Derived.Test.YtbiacehgfmgfdaaDoorRexT
import Derived.Test.YtbiacehgfmgfdaaDoorMgB
namespace Go.Proofs.YtbiacehgfmgfdaaDoor.eng
open Go.RowKit kit mix
theorem RcR_len (a : RC) : (rcC a).length = 6 := rfl
theorem revARcR {l X : List RC} {i : Nat} (hX : X.length = l.length) (h : ∀ q, q < l.length → X[q]? = if q < i ∨ l.length - i ≤ q then l[l.length - 1 - q]? else l[q]?) (h0 : i < l.length - 1 - i) (x y : RC) (hx : X[i]? = some x) (hy : X[l.length - 1 - i]? = some y) :
    ∀ q, q < l.length → ((X.set i y).set (l.length - 1 - i) x)[q]? = if q < i + 1 ∨ l.length - (i + 1) ≤ q then l[l.length - 1 - q]? else l[q]? := by
  intro q hq
  rw [List.getElem?_set]
  by_cases c1 : l.length - 1 - i = q
  · rw [if_pos c1, if_pos (by simp; omega), if_pos (by omega), ← hx, h i (by omega), if_neg (by omega)]
    congr 1; omega
  · rw [if_neg c1, List.getElem?_set]
    by_cases c2 : i = q
    · rw [if_pos c2, if_pos (by omega), if_pos (by omega), ← hy, h _ (by omega), if_neg (by omega)]
      congr 1; omega
    · rw [if_neg c2, h q hq]
      by_cases c3 : q < i ∨ l.length - i ≤ q
      · rw [if_pos c3, if_pos (by omega)]
      · rw [if_neg c3, if_neg (by omega)]
theorem revBRcR {l X : List RC} {i : Nat} (hX : X.length = l.length) (h : ∀ q, q < l.length → X[q]? = if q < i ∨ l.length - i ≤ q then l[l.length - 1 - q]? else l[q]?) (h0 : ¬ i < l.length - 1 - i) : X = l.reverse := by
  apply List.ext_getElem?
  intro q
  by_cases hq : q < l.length
  · rw [h q hq, List.getElem?_reverse hq]
    by_cases c3 : q < i ∨ l.length - i ≤ q
    · rw [if_pos c3]
    · rw [if_neg c3]; congr 1; omega
  · rw [List.getElem?_eq_none (by omega), List.getElem?_eq_none (by simp; omega)]
set_option maxHeartbeats 2000000 in
theorem reverseRcR_calls (v : Value) (l : List RC) (w : World) (B : Base) (hm : Mem B [rowO 44 6 v l.length (l.flatMap rcC)] w) (hn : l.length ≤ 9223372036854775807) :
    Calls Tryd.prog 38 #[v] w (MeetsB ⟨fun (_ : Unit) => True, fun _ => .tuple #[], fun _ => [rowO 44 6 v l.length (l.reverse.flatMap rcC)]⟩ B) := by
  have h1 : ∀ a, (rcC a).all Value.oneCell' = true := fun a => List.all_eq_true.2 fun u hu => rc_one [a] u (by simpa using hu)
  refine enterB hm (args := [v]) (n := 28) Tryd.func38 rfl rfl rfl ?_
  refine T_rowc (i := 0) rfl (fun hv h0 => ?_) (fun g cap hv => ?_)
  · have hl : l = [] := List.eq_nil_of_length_eq_zero h0
    subst hv hl
    repeat (first
      | refine qv rfl (qp rfl) rfl rfl ?_ | refine TL_nil ?_ | refine T_seq ?_ | refine T_region ?_ | refine qcT rfl ?_ | refine qcF rfl ?_ | refine T_skip ?_
      | refine T_exit ?_ | refine T_block ?_ | refine E_then ?_ | refine E_thenX ?_ | refine E_thenR ?_ | refine E_blockN ?_ | refine E_blockR ?_
      | refine E_blockX ?_ | refine E_blockO rfl ?_ | refine qv rfl (rr_sub64 (r := -1) rfl rfl (by decide) (by decide) rfl) rfl rfl ?_
      | refine qv rfl (qlen Und.eq rfl) rfl rfl ?_ | refine qv rfl (rr_lss rfl rfl (qT (by omega))) rfl rfl ?_
      | refine qv rfl (rr_lss rfl rfl (qF (by omega))) rfl rfl ?_ | refine qv rfl (rr_add64 rfl rfl (by omega) (by omega) rfl) rfl rfl ?_
      | refine qv rfl (rr_sub64 rfl rfl (by omega) (by omega) rfl) rfl rfl ?_)
    refine T_loop (ι := Unit) (fun _ => True) (fun _ => [(0, .slice none 0 0), (2, .int .i64 0), (3, .int .i64 (-1))]) (fun _ => [rowO 44 6 (.slice none 0 0) 0 []]) (fun _ => 0) () trivial (by repeat' (first | exact True.intro | refine And.intro rfl ?_)) rfl ?_
    intro _ _
    repeat (first
      | refine qv rfl (qp rfl) rfl rfl ?_ | refine TL_nil ?_ | refine T_seq ?_ | refine T_region ?_ | refine qcT rfl ?_ | refine qcF rfl ?_ | refine T_skip ?_
      | refine T_exit ?_ | refine T_block ?_ | refine E_then ?_ | refine E_thenX ?_ | refine E_thenR ?_ | refine E_blockN ?_ | refine E_blockR ?_
      | refine E_blockX ?_ | refine E_blockO rfl ?_ | refine qv rfl (rr_lss (b := false) rfl rfl (by decide)) rfl rfl ?_
      | refine qv rfl (qlen Und.eq rfl) rfl rfl ?_ | refine qv rfl (rr_lss rfl rfl (qT (by omega))) rfl rfl ?_
      | refine qv rfl (rr_lss rfl rfl (qF (by omega))) rfl rfl ?_ | refine qv rfl (rr_add64 rfl rfl (by omega) (by omega) rfl) rfl rfl ?_
      | refine qv rfl (rr_sub64 rfl rfl (by omega) (by omega) rfl) rfl rfl ?_)
    exact E_end0 rfl fun w hm => hm.meetsB (S := ⟨fun (_ : Unit) => True, fun _ => .tuple #[], fun _ => [rowO 44 6 (.slice none 0 0) 0 []]⟩) () trivial [0] (by decide) rfl
  · subst hv
    repeat (first
      | refine qv rfl (qp rfl) rfl rfl ?_ | refine TL_nil ?_ | refine T_seq ?_ | refine T_region ?_ | refine qcT rfl ?_ | refine qcF rfl ?_ | refine T_skip ?_
      | refine T_exit ?_ | refine T_block ?_ | refine E_then ?_ | refine E_thenX ?_ | refine E_thenR ?_ | refine E_blockN ?_ | refine E_blockR ?_
      | refine E_blockX ?_ | refine E_blockO rfl ?_ | refine qv rfl (qlen Und.eq rfl) rfl rfl ?_ | refine qv rfl (rr_lss rfl rfl (qT (by omega))) rfl rfl ?_
      | refine qv rfl (rr_lss rfl rfl (qF (by omega))) rfl rfl ?_ | refine qv rfl (rr_add64 rfl rfl (by omega) (by omega) rfl) rfl rfl ?_
      | refine qv rfl (rr_sub64 rfl rfl (by omega) (by omega) rfl) rfl rfl ?_)
    refine T_loop (ι := Nat × List RC) (fun (i, X) => i ≤ l.length ∧ X.length = l.length ∧ ∀ q, q < l.length → X[q]? = if q < i ∨ l.length - i ≤ q then l[l.length - 1 - q]? else l[q]?) (fun (i, X) => [(0, .slice (some ⟨g, 0, none⟩) l.length cap), (2, .int .i64 (i : Int)), (3, .int .i64 ((l.length : Int) - 1 - (i : Int)))]) (fun (i, X) => [rowO 44 6 (.slice (some ⟨g, 0, none⟩) l.length cap) l.length (X.flatMap rcC)]) (fun (i, X) => l.length - i) (0, l) ⟨Nat.zero_le _, rfl, fun q hq => by rw [if_neg (by omega)]⟩ ⟨rfl, rfl, by show _ = some (Value.int .i64 ((l.length : Int) - 1 - 0)); rw [Int.sub_zero]; rfl, trivial⟩ rfl ?_
    rintro ⟨i, X⟩ ⟨h2, h3, h4⟩
    dsimp only at h2 h3 h4 ⊢
    by_cases c1 : i < l.length - 1 - i
    · have e1 : ((l.length : Int) - 1 - (i : Int)) = ((l.length - 1 - i : Nat) : Int) := by omega
      rw [e1]
      generalize hj : l.length - 1 - i = j at *
      have hi : i < X.length := by omega
      have hjl : j < X.length := by omega
      have hat1 := at_rowel (L := [rowO 44 6 (.slice (some ⟨g, 0, none⟩) l.length cap) l.length (X.flatMap rcC)]) (i := 0) RcR_len (W := B) rfl hi
      have hat2 := at_rowel (L := [rowO 44 6 (.slice (some ⟨g, 0, none⟩) l.length cap) l.length (X.flatMap rcC)]) (i := 0) RcR_len (W := B) rfl hjl
      have hx : X[i]? = some X[i] := List.getElem?_eq_getElem hi
      have hy : X[j]? = some X[j] := List.getElem?_eq_getElem hjl
      have hnew := revARcR h3 h4 (by omega) X[i] X[j] hx (by rw [hj]; exact hy)
      rw [hj] at hnew
      generalize X[i] = x at *
      generalize X[j] = y at *
      repeat (first
        | refine qv rfl (qp rfl) rfl rfl ?_ | refine TL_nil ?_ | refine T_seq ?_ | refine T_region ?_ | refine qcT rfl ?_ | refine qcF rfl ?_ | refine T_skip ?_
        | refine T_exit ?_ | refine T_block ?_ | refine E_then ?_ | refine E_thenX ?_ | refine E_thenR ?_ | refine E_blockN ?_ | refine E_blockR ?_
        | refine E_blockX ?_ | refine E_blockO rfl ?_ | refine qv rfl (qlen Und.eq rfl) rfl rfl ?_ | refine qv rfl (rr_lss rfl rfl (qT (by omega))) rfl rfl ?_
        | refine qv rfl (rr_lss rfl rfl (qF (by omega))) rfl rfl ?_ | refine qv rfl (rr_add64 rfl rfl (by omega) (by omega) rfl) rfl rfl ?_
        | refine qv rfl (rr_sub64 rfl rfl (by omega) (by omega) rfl) rfl rfl ?_)
      (repeat refine T_seq ?_)
      refine T_ord ([]) (.calm 0 (.calm 1 (.calm 2 (.calm 3 (.calm 4 (.calm 5 (.calm 6 (.calm 8 (.calm 9 (.calm 10 (.two 7 (.one 11 (.calm 12 (.one 13 (.calm 14 (.one 15 (.done)))))) 11 (.one 7 (.calm 12 (.one 13 (.calm 14 (.one 15 (.done))))))))))))))))) (sub_nil) (by kernel_rfl) (by kernel_rfl) (by intro c a d v w h; cases d <;> exact h) ?_
      repeat (first
        | ((first | refine TW_plain rfl rfl ?_ | refine TW_gmet rfl rfl rfl rfl ?_); first | refine TN_val (qp rfl) rfl rfl ?_ | refine TN_val (rr_idxc (j := i) Und.eq TyC.ty rfl rfl (by omega)) rfl rfl ?_ | refine TN_val (rr_idxc (j := j) Und.eq TyC.ty rfl rfl (by omega)) rfl rfl ?_ | refine TN_val (qlen Und.eq rfl) rfl rfl ?_ | refine TN_val (rr_lss rfl rfl (qT (by omega))) rfl rfl ?_ | refine TN_val (rr_lss rfl rfl (qF (by omega))) rfl rfl ?_ | refine TN_val (rr_add64 rfl rfl (by omega) (by omega) rfl) rfl rfl ?_ | refine TN_val (rr_sub64 rfl rfl (by omega) (by omega) rfl) rfl rfl ?_)
        | refine TW_done ?_)
      refine TW_two rfl rfl ?_ ?_
      · refine TL_val (rr_loadN TyC.ty rfl rfl hat2) rfl rfl rfl (TW_on sub_nil ?_)
        refine TW_one rfl (TL_val (rr_loadN TyC.ty rfl rfl hat1) rfl rfl rfl (TW_on sub_nil ?_))
        repeat (first
          | ((first | refine TW_plain rfl rfl ?_ | refine TW_gmet rfl rfl rfl rfl ?_); first | refine TN_val (qp rfl) rfl rfl ?_ | refine TN_val (rr_idxc (j := i) Und.eq TyC.ty rfl rfl (by omega)) rfl rfl ?_ | refine TN_val (rr_idxc (j := j) Und.eq TyC.ty rfl rfl (by omega)) rfl rfl ?_ | refine TN_val (qlen Und.eq rfl) rfl rfl ?_ | refine TN_val (rr_lss rfl rfl (qT (by omega))) rfl rfl ?_ | refine TN_val (rr_lss rfl rfl (qF (by omega))) rfl rfl ?_ | refine TN_val (rr_add64 rfl rfl (by omega) (by omega) rfl) rfl rfl ?_ | refine TN_val (rr_sub64 rfl rfl (by omega) (by omega) rfl) rfl rfl ?_)
          | refine TW_done ?_)
        refine TW_one rfl (TL_setRow (i := 0) (k := i) (a := y) RcR_len TyC.ty rfl rfl (Nat.zero_add _) (by omega) h3.symm rfl rfl (h1 y) (TW_on sub_nil ?_))
        repeat (first
          | ((first | refine TW_plain rfl rfl ?_ | refine TW_gmet rfl rfl rfl rfl ?_); first | refine TN_val (qp rfl) rfl rfl ?_ | refine TN_val (rr_idxc (j := i) Und.eq TyC.ty rfl rfl (by omega)) rfl rfl ?_ | refine TN_val (rr_idxc (j := j) Und.eq TyC.ty rfl rfl (by omega)) rfl rfl ?_ | refine TN_val (qlen Und.eq rfl) rfl rfl ?_ | refine TN_val (rr_lss rfl rfl (qT (by omega))) rfl rfl ?_ | refine TN_val (rr_lss rfl rfl (qF (by omega))) rfl rfl ?_ | refine TN_val (rr_add64 rfl rfl (by omega) (by omega) rfl) rfl rfl ?_ | refine TN_val (rr_sub64 rfl rfl (by omega) (by omega) rfl) rfl rfl ?_)
          | refine TW_done ?_)
        refine TW_one rfl (TL_setRow (i := 0) (k := j) (a := x) RcR_len TyC.ty rfl rfl (Nat.zero_add _) (by simp; omega) (by simp [h3]) rfl rfl (h1 x) (TW_on sub_nil ?_))
        repeat (first
          | ((first | refine TW_plain rfl rfl ?_ | refine TW_gmet rfl rfl rfl rfl ?_); first | refine TN_val (qp rfl) rfl rfl ?_ | refine TN_val (qlen Und.eq rfl) rfl rfl ?_ | refine TN_val (rr_lss rfl rfl (qT (by omega))) rfl rfl ?_ | refine TN_val (rr_lss rfl rfl (qF (by omega))) rfl rfl ?_ | refine TN_val (rr_add64 rfl rfl (by omega) (by omega) rfl) rfl rfl ?_ | refine TN_val (rr_sub64 rfl rfl (by omega) (by omega) rfl) rfl rfl ?_)
          | refine TW_done ?_)
        repeat (first
          | refine qv rfl (qp rfl) rfl rfl ?_ | refine TL_nil ?_ | refine T_seq ?_ | refine T_region ?_ | refine qcT rfl ?_ | refine qcF rfl ?_ | refine T_skip ?_
          | refine T_exit ?_ | refine T_block ?_ | refine E_then ?_ | refine E_thenX ?_ | refine E_thenR ?_ | refine E_blockN ?_ | refine E_blockR ?_
          | refine E_blockX ?_ | refine E_blockO rfl ?_ | refine qv rfl (qlen Und.eq rfl) rfl rfl ?_ | refine qv rfl (rr_lss rfl rfl (qT (by omega))) rfl rfl ?_
          | refine qv rfl (rr_lss rfl rfl (qF (by omega))) rfl rfl ?_ | refine qv rfl (rr_add64 rfl rfl (by omega) (by omega) rfl) rfl rfl ?_
          | refine qv rfl (rr_sub64 rfl rfl (by omega) (by omega) rfl) rfl rfl ?_)
        exact E_round (i + 1, (X.set i y).set j x) ⟨by omega, by simp [h3], hnew⟩ (by show l.length - (i + 1) < l.length - i; omega) ⟨rfl, rfl, by show _ = some (Value.int .i64 ((l.length : Int) - 1 - ((i + 1 : Nat) : Int))); rw [show (l.length : Int) - 1 - ((i + 1 : Nat) : Int) = (j : Int) - 1 by omega]; rfl, trivial⟩ rfl
      · refine TL_val (rr_loadN TyC.ty rfl rfl hat1) rfl rfl rfl (TW_on sub_nil ?_)
        refine TW_one rfl (TL_val (rr_loadN TyC.ty rfl rfl hat2) rfl rfl rfl (TW_on sub_nil ?_))
        repeat (first
          | ((first | refine TW_plain rfl rfl ?_ | refine TW_gmet rfl rfl rfl rfl ?_); first | refine TN_val (qp rfl) rfl rfl ?_ | refine TN_val (rr_idxc (j := i) Und.eq TyC.ty rfl rfl (by omega)) rfl rfl ?_ | refine TN_val (rr_idxc (j := j) Und.eq TyC.ty rfl rfl (by omega)) rfl rfl ?_ | refine TN_val (qlen Und.eq rfl) rfl rfl ?_ | refine TN_val (rr_lss rfl rfl (qT (by omega))) rfl rfl ?_ | refine TN_val (rr_lss rfl rfl (qF (by omega))) rfl rfl ?_ | refine TN_val (rr_add64 rfl rfl (by omega) (by omega) rfl) rfl rfl ?_ | refine TN_val (rr_sub64 rfl rfl (by omega) (by omega) rfl) rfl rfl ?_)
          | refine TW_done ?_)
        refine TW_one rfl (TL_setRow (i := 0) (k := i) (a := y) RcR_len TyC.ty rfl rfl (Nat.zero_add _) (by omega) h3.symm rfl rfl (h1 y) (TW_on sub_nil ?_))
        repeat (first
          | ((first | refine TW_plain rfl rfl ?_ | refine TW_gmet rfl rfl rfl rfl ?_); first | refine TN_val (qp rfl) rfl rfl ?_ | refine TN_val (rr_idxc (j := i) Und.eq TyC.ty rfl rfl (by omega)) rfl rfl ?_ | refine TN_val (rr_idxc (j := j) Und.eq TyC.ty rfl rfl (by omega)) rfl rfl ?_ | refine TN_val (qlen Und.eq rfl) rfl rfl ?_ | refine TN_val (rr_lss rfl rfl (qT (by omega))) rfl rfl ?_ | refine TN_val (rr_lss rfl rfl (qF (by omega))) rfl rfl ?_ | refine TN_val (rr_add64 rfl rfl (by omega) (by omega) rfl) rfl rfl ?_ | refine TN_val (rr_sub64 rfl rfl (by omega) (by omega) rfl) rfl rfl ?_)
          | refine TW_done ?_)
        refine TW_one rfl (TL_setRow (i := 0) (k := j) (a := x) RcR_len TyC.ty rfl rfl (Nat.zero_add _) (by simp; omega) (by simp [h3]) rfl rfl (h1 x) (TW_on sub_nil ?_))
        repeat (first
          | ((first | refine TW_plain rfl rfl ?_ | refine TW_gmet rfl rfl rfl rfl ?_); first | refine TN_val (qp rfl) rfl rfl ?_ | refine TN_val (qlen Und.eq rfl) rfl rfl ?_ | refine TN_val (rr_lss rfl rfl (qT (by omega))) rfl rfl ?_ | refine TN_val (rr_lss rfl rfl (qF (by omega))) rfl rfl ?_ | refine TN_val (rr_add64 rfl rfl (by omega) (by omega) rfl) rfl rfl ?_ | refine TN_val (rr_sub64 rfl rfl (by omega) (by omega) rfl) rfl rfl ?_)
          | refine TW_done ?_)
        repeat (first
          | refine qv rfl (qp rfl) rfl rfl ?_ | refine TL_nil ?_ | refine T_seq ?_ | refine T_region ?_ | refine qcT rfl ?_ | refine qcF rfl ?_ | refine T_skip ?_
          | refine T_exit ?_ | refine T_block ?_ | refine E_then ?_ | refine E_thenX ?_ | refine E_thenR ?_ | refine E_blockN ?_ | refine E_blockR ?_
          | refine E_blockX ?_ | refine E_blockO rfl ?_ | refine qv rfl (qlen Und.eq rfl) rfl rfl ?_ | refine qv rfl (rr_lss rfl rfl (qT (by omega))) rfl rfl ?_
          | refine qv rfl (rr_lss rfl rfl (qF (by omega))) rfl rfl ?_ | refine qv rfl (rr_add64 rfl rfl (by omega) (by omega) rfl) rfl rfl ?_
          | refine qv rfl (rr_sub64 rfl rfl (by omega) (by omega) rfl) rfl rfl ?_)
        exact E_round (i + 1, (X.set i y).set j x) ⟨by omega, by simp [h3], hnew⟩ (by show l.length - (i + 1) < l.length - i; omega) ⟨rfl, rfl, by show _ = some (Value.int .i64 ((l.length : Int) - 1 - ((i + 1 : Nat) : Int))); rw [show (l.length : Int) - 1 - ((i + 1 : Nat) : Int) = (j : Int) - 1 by omega]; rfl, trivial⟩ rfl
    · have hX := revBRcR h3 h4 c1
      subst hX
      repeat (first
        | refine qv rfl (qp rfl) rfl rfl ?_ | refine TL_nil ?_ | refine T_seq ?_ | refine T_region ?_ | refine qcT rfl ?_ | refine qcF rfl ?_ | refine T_skip ?_
        | refine T_exit ?_ | refine T_block ?_ | refine E_then ?_ | refine E_thenX ?_ | refine E_thenR ?_ | refine E_blockN ?_ | refine E_blockR ?_
        | refine E_blockX ?_ | refine E_blockO rfl ?_ | refine qv rfl (qlen Und.eq rfl) rfl rfl ?_ | refine qv rfl (rr_lss rfl rfl (qT (by omega))) rfl rfl ?_
        | refine qv rfl (rr_lss rfl rfl (qF (by omega))) rfl rfl ?_ | refine qv rfl (rr_add64 rfl rfl (by omega) (by omega) rfl) rfl rfl ?_
        | refine qv rfl (rr_sub64 rfl rfl (by omega) (by omega) rfl) rfl rfl ?_)
      exact E_end0 rfl fun w hm => hm.meetsB (S := ⟨fun (_ : Unit) => True, fun _ => .tuple #[], fun _ => [rowO 44 6 (.slice (some ⟨g, 0, none⟩) l.length cap) l.length (l.reverse.flatMap rcC)]⟩) () trivial [0] (by decide) rfl
end Go.Proofs.YtbiacehgfmgfdaaDoor.eng
