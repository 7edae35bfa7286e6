/- Bytes of a text that was turned into a list, reversed. -/
import Derived.Test.YtbiacehgfmgfdaaDoorMgB
namespace Go.Proofs.YtbiacehgfmgfdaaDoor.eng
open Go.RowKit kit mix
theorem revARevW {l X : List UInt8} {i : Nat} (hX : X.length = l.length) (h : ∀ q, q < l.length → X[q]? = if q < i ∨ l.length - i ≤ q then l[l.length - 1 - q]? else l[q]?) (h0 : i < l.length - 1 - i) (x y : UInt8) (hx : X[i]? = some x) (hy : X[l.length - 1 - i]? = some y) :
    ∀ q, q < l.length → ((X.set i y).set (l.length - 1 - i) x)[q]? = if q < i + 1 ∨ l.length - (i + 1) ≤ q then l[l.length - 1 - q]? else l[q]? := by
  intro q hq
  rw [List.getElem?_set]
  by_cases c1 : l.length - 1 - i = q
  · rw [if_pos c1, if_pos (by simp; omega), if_pos (by omega), ← hx, h i (by omega), if_neg (by omega)]
    congr 1; omega
  · rw [if_neg c1, List.getElem?_set]
    by_cases c2 : i = q
    · rw [if_pos c2, if_pos (by omega), if_pos (by omega), ← hy, h _ (by omega), if_neg (by omega)]
      congr 1; omega
    · rw [if_neg c2, h q hq]
      by_cases c3 : q < i ∨ l.length - i ≤ q
      · rw [if_pos c3, if_pos (by omega)]
      · rw [if_neg c3, if_neg (by omega)]
theorem revBRevW {l X : List UInt8} {i : Nat} (hX : X.length = l.length) (h : ∀ q, q < l.length → X[q]? = if q < i ∨ l.length - i ≤ q then l[l.length - 1 - q]? else l[q]?) (h0 : ¬ i < l.length - 1 - i) : X = l.reverse := by
  apply List.ext_getElem?
  intro q
  by_cases hq : q < l.length
  · rw [h q hq, List.getElem?_reverse hq]
    by_cases c3 : q < i ∨ l.length - i ≤ q
    · rw [if_pos c3]
    · rw [if_neg c3]; congr 1; omega
  · rw [List.getElem?_eq_none (by omega), List.getElem?_eq_none (by simp; omega)]
theorem TL_setWr {P : Program} {n : Nat} {W : Base} {fr : Fr} {L : List Own} {Q : Exit → Act → World → Prop} {ops : Array Oper} {rest : List Oper} {ty : TypeId} {pos : String} {after : Array Edge} {t : TypeId} {p x : Operand} {i g k : Nat} {X : List UInt8} {a : UInt8} (hT : Ty P t false 1) (hi : L[i]? = some (wrO g (X.map u8v))) (hp : ev fr p = some (.pointer (some ⟨g, 0 + k * 1, none⟩))) (hx : ev fr x = some (u8v a)) (hk : k < X.length)
    (h : TL P n W ops Q rest fr (L.set i (wrO g ((X.set k a).map u8v)))) : TL P n W ops Q (⟨none, .store t p x, ty, pos, after, none⟩ :: rest) fr L := by
  rw [Nat.zero_add, Nat.mul_one] at hp
  refine TL_storeWr hT hi hp hx rfl rfl rfl (by rw [List.length_map]; exact hk) ?_
  rw [← List.map_set]; exact h
set_option maxHeartbeats 2000000 in
theorem reverseWr_calls (g cap : Nat) (l : List UInt8) (w : World) (B : Base) (hm : Mem B [wrO g (l.map u8v)] w) (hn : l.length ≤ 9223372036854775807) :
    Calls Tryd.prog 39 #[.slice (some ⟨g, 0, none⟩) l.length cap] w (MeetsB ⟨fun (_ : Unit) => True, fun _ => .tuple #[], fun _ => [wrO g (l.reverse.map u8v)]⟩ B) := by
  refine enterB hm (args := [.slice (some ⟨g, 0, none⟩) l.length cap]) (n := 28) Tryd.func39 rfl rfl rfl ?_
  repeat (first
    | refine qv rfl (qp rfl) rfl rfl ?_ | refine TL_nil ?_ | refine T_seq ?_ | refine T_region ?_ | refine qcT rfl ?_ | refine qcF rfl ?_ | refine T_skip ?_
    | refine T_exit ?_ | refine T_block ?_ | refine E_then ?_ | refine E_thenX ?_ | refine E_thenR ?_ | refine E_blockN ?_ | refine E_blockR ?_
    | refine E_blockX ?_ | refine E_blockO rfl ?_ | refine qv rfl (qlen Und.eq rfl) rfl rfl ?_ | refine qv rfl (rr_lss rfl rfl (qT (by omega))) rfl rfl ?_
    | refine qv rfl (rr_lss rfl rfl (qF (by omega))) rfl rfl ?_ | refine qv rfl (rr_add64 rfl rfl (by omega) (by omega) rfl) rfl rfl ?_
    | refine qv rfl (rr_sub64 rfl rfl (by omega) (by omega) rfl) rfl rfl ?_)
  refine T_loop (ι := Nat × List UInt8) (fun (i, X) => i ≤ l.length ∧ X.length = l.length ∧ ∀ q, q < l.length → X[q]? = if q < i ∨ l.length - i ≤ q then l[l.length - 1 - q]? else l[q]?) (fun (i, X) => [(0, .slice (some ⟨g, 0, none⟩) l.length cap), (2, .int .i64 (i : Int)), (3, .int .i64 ((l.length : Int) - 1 - (i : Int)))]) (fun (i, X) => [wrO g (X.map u8v)]) (fun (i, X) => l.length - i) (0, l) ⟨Nat.zero_le _, rfl, fun q hq => by rw [if_neg (by omega)]⟩ ⟨rfl, rfl, by show _ = some (Value.int .i64 ((l.length : Int) - 1 - 0)); rw [Int.sub_zero]; rfl, trivial⟩ rfl ?_
  rintro ⟨i, X⟩ ⟨h2, h3, h4⟩
  dsimp only at h2 h3 h4 ⊢
  by_cases c1 : i < l.length - 1 - i
  · have e1 : ((l.length : Int) - 1 - (i : Int)) = ((l.length - 1 - i : Nat) : Int) := by omega
    rw [e1]
    generalize hj : l.length - 1 - i = j at *
    have hi : i < X.length := by omega
    have hjl : j < X.length := by omega
    have a1 : (X.map u8v)[0 + i * 1]? = some (u8v X[i]) := by rw [Nat.zero_add, Nat.mul_one, List.getElem?_map, List.getElem?_eq_getElem hi]; rfl
    have a2 : (X.map u8v)[0 + j * 1]? = some (u8v X[j]) := by rw [Nat.zero_add, Nat.mul_one, List.getElem?_map, List.getElem?_eq_getElem hjl]; rfl
    have hx : X[i]? = some X[i] := List.getElem?_eq_getElem hi
    have hy : X[j]? = some X[j] := List.getElem?_eq_getElem hjl
    have hnew := revARevW h3 h4 (by omega) X[i] X[j] hx (by rw [hj]; exact hy)
    rw [hj] at hnew
    generalize X[i] = x at *
    generalize X[j] = y at *
    repeat (first
      | refine qv rfl (qp rfl) rfl rfl ?_ | refine TL_nil ?_ | refine T_seq ?_ | refine T_region ?_ | refine qcT rfl ?_ | refine qcF rfl ?_ | refine T_skip ?_
      | refine T_exit ?_ | refine T_block ?_ | refine E_then ?_ | refine E_thenX ?_ | refine E_thenR ?_ | refine E_blockN ?_ | refine E_blockR ?_
      | refine E_blockX ?_ | refine E_blockO rfl ?_ | refine qv rfl (qlen Und.eq rfl) rfl rfl ?_ | refine qv rfl (rr_lss rfl rfl (qT (by omega))) rfl rfl ?_
      | refine qv rfl (rr_lss rfl rfl (qF (by omega))) rfl rfl ?_ | refine qv rfl (rr_add64 rfl rfl (by omega) (by omega) rfl) rfl rfl ?_
      | refine qv rfl (rr_sub64 rfl rfl (by omega) (by omega) rfl) rfl rfl ?_)
    (repeat refine T_seq ?_)
    refine T_ord ([]) (.calm 0 (.calm 1 (.calm 2 (.calm 3 (.calm 4 (.calm 5 (.calm 6 (.calm 8 (.calm 9 (.calm 10 (.two 7 (.one 11 (.calm 12 (.one 13 (.calm 14 (.one 15 (.done)))))) 11 (.one 7 (.calm 12 (.one 13 (.calm 14 (.one 15 (.done))))))))))))))))) (sub_nil) (by kernel_rfl) (by kernel_rfl) (by intro c a d v w h; cases d <;> exact h) ?_
    repeat (first
      | ((first | refine TW_plain rfl rfl ?_ | refine TW_gmet rfl rfl rfl rfl ?_); first | refine TN_val (qp rfl) rfl rfl ?_ | refine TN_val (rr_idxc (j := i) Und.eq TyC.ty rfl rfl (by omega)) rfl rfl ?_ | refine TN_val (rr_idxc (j := j) Und.eq TyC.ty rfl rfl (by omega)) rfl rfl ?_ | refine TN_val (qlen Und.eq rfl) rfl rfl ?_ | refine TN_val (rr_lss rfl rfl (qT (by omega))) rfl rfl ?_ | refine TN_val (rr_lss rfl rfl (qF (by omega))) rfl rfl ?_ | refine TN_val (rr_add64 rfl rfl (by omega) (by omega) rfl) rfl rfl ?_ | refine TN_val (rr_sub64 rfl rfl (by omega) (by omega) rfl) rfl rfl ?_)
      | refine TW_done ?_)
    refine TW_two rfl rfl ?_ ?_
    · refine TL_val (rr_load1 TyC.ty rfl (at_wr (i := 0) rfl a2)) rfl rfl rfl (TW_on sub_nil ?_)
      refine TW_one rfl (TL_val (rr_load1 TyC.ty rfl (at_wr (i := 0) rfl a1)) rfl rfl rfl (TW_on sub_nil ?_))
      repeat (first
        | ((first | refine TW_plain rfl rfl ?_ | refine TW_gmet rfl rfl rfl rfl ?_); first | refine TN_val (qp rfl) rfl rfl ?_ | refine TN_val (rr_idxc (j := i) Und.eq TyC.ty rfl rfl (by omega)) rfl rfl ?_ | refine TN_val (rr_idxc (j := j) Und.eq TyC.ty rfl rfl (by omega)) rfl rfl ?_ | refine TN_val (qlen Und.eq rfl) rfl rfl ?_ | refine TN_val (rr_lss rfl rfl (qT (by omega))) rfl rfl ?_ | refine TN_val (rr_lss rfl rfl (qF (by omega))) rfl rfl ?_ | refine TN_val (rr_add64 rfl rfl (by omega) (by omega) rfl) rfl rfl ?_ | refine TN_val (rr_sub64 rfl rfl (by omega) (by omega) rfl) rfl rfl ?_)
        | refine TW_done ?_)
      refine TW_one rfl (TL_setWr (i := 0) (k := i) (a := y) TyC.ty rfl rfl rfl (by omega) (TW_on sub_nil ?_))
      repeat (first
        | ((first | refine TW_plain rfl rfl ?_ | refine TW_gmet rfl rfl rfl rfl ?_); first | refine TN_val (qp rfl) rfl rfl ?_ | refine TN_val (rr_idxc (j := i) Und.eq TyC.ty rfl rfl (by omega)) rfl rfl ?_ | refine TN_val (rr_idxc (j := j) Und.eq TyC.ty rfl rfl (by omega)) rfl rfl ?_ | refine TN_val (qlen Und.eq rfl) rfl rfl ?_ | refine TN_val (rr_lss rfl rfl (qT (by omega))) rfl rfl ?_ | refine TN_val (rr_lss rfl rfl (qF (by omega))) rfl rfl ?_ | refine TN_val (rr_add64 rfl rfl (by omega) (by omega) rfl) rfl rfl ?_ | refine TN_val (rr_sub64 rfl rfl (by omega) (by omega) rfl) rfl rfl ?_)
        | refine TW_done ?_)
      refine TW_one rfl (TL_setWr (i := 0) (k := j) (a := x) TyC.ty rfl rfl rfl (by simp; omega) (TW_on sub_nil ?_))
      repeat (first
        | ((first | refine TW_plain rfl rfl ?_ | refine TW_gmet rfl rfl rfl rfl ?_); first | refine TN_val (qp rfl) rfl rfl ?_ | refine TN_val (qlen Und.eq rfl) rfl rfl ?_ | refine TN_val (rr_lss rfl rfl (qT (by omega))) rfl rfl ?_ | refine TN_val (rr_lss rfl rfl (qF (by omega))) rfl rfl ?_ | refine TN_val (rr_add64 rfl rfl (by omega) (by omega) rfl) rfl rfl ?_ | refine TN_val (rr_sub64 rfl rfl (by omega) (by omega) rfl) rfl rfl ?_)
        | refine TW_done ?_)
      repeat (first
        | refine qv rfl (qp rfl) rfl rfl ?_ | refine TL_nil ?_ | refine T_seq ?_ | refine T_region ?_ | refine qcT rfl ?_ | refine qcF rfl ?_ | refine T_skip ?_
        | refine T_exit ?_ | refine T_block ?_ | refine E_then ?_ | refine E_thenX ?_ | refine E_thenR ?_ | refine E_blockN ?_ | refine E_blockR ?_
        | refine E_blockX ?_ | refine E_blockO rfl ?_ | refine qv rfl (qlen Und.eq rfl) rfl rfl ?_ | refine qv rfl (rr_lss rfl rfl (qT (by omega))) rfl rfl ?_
        | refine qv rfl (rr_lss rfl rfl (qF (by omega))) rfl rfl ?_ | refine qv rfl (rr_add64 rfl rfl (by omega) (by omega) rfl) rfl rfl ?_
        | refine qv rfl (rr_sub64 rfl rfl (by omega) (by omega) rfl) rfl rfl ?_)
      exact E_round (i + 1, (X.set i y).set j x) ⟨by omega, by simp [h3], hnew⟩ (by show l.length - (i + 1) < l.length - i; omega) ⟨rfl, rfl, by show _ = some (Value.int .i64 ((l.length : Int) - 1 - ((i + 1 : Nat) : Int))); rw [show (l.length : Int) - 1 - ((i + 1 : Nat) : Int) = (j : Int) - 1 by omega]; rfl, trivial⟩ rfl
    · refine TL_val (rr_load1 TyC.ty rfl (at_wr (i := 0) rfl a1)) rfl rfl rfl (TW_on sub_nil ?_)
      refine TW_one rfl (TL_val (rr_load1 TyC.ty rfl (at_wr (i := 0) rfl a2)) rfl rfl rfl (TW_on sub_nil ?_))
      repeat (first
        | ((first | refine TW_plain rfl rfl ?_ | refine TW_gmet rfl rfl rfl rfl ?_); first | refine TN_val (qp rfl) rfl rfl ?_ | refine TN_val (rr_idxc (j := i) Und.eq TyC.ty rfl rfl (by omega)) rfl rfl ?_ | refine TN_val (rr_idxc (j := j) Und.eq TyC.ty rfl rfl (by omega)) rfl rfl ?_ | refine TN_val (qlen Und.eq rfl) rfl rfl ?_ | refine TN_val (rr_lss rfl rfl (qT (by omega))) rfl rfl ?_ | refine TN_val (rr_lss rfl rfl (qF (by omega))) rfl rfl ?_ | refine TN_val (rr_add64 rfl rfl (by omega) (by omega) rfl) rfl rfl ?_ | refine TN_val (rr_sub64 rfl rfl (by omega) (by omega) rfl) rfl rfl ?_)
        | refine TW_done ?_)
      refine TW_one rfl (TL_setWr (i := 0) (k := i) (a := y) TyC.ty rfl rfl rfl (by omega) (TW_on sub_nil ?_))
      repeat (first
        | ((first | refine TW_plain rfl rfl ?_ | refine TW_gmet rfl rfl rfl rfl ?_); first | refine TN_val (qp rfl) rfl rfl ?_ | refine TN_val (rr_idxc (j := i) Und.eq TyC.ty rfl rfl (by omega)) rfl rfl ?_ | refine TN_val (rr_idxc (j := j) Und.eq TyC.ty rfl rfl (by omega)) rfl rfl ?_ | refine TN_val (qlen Und.eq rfl) rfl rfl ?_ | refine TN_val (rr_lss rfl rfl (qT (by omega))) rfl rfl ?_ | refine TN_val (rr_lss rfl rfl (qF (by omega))) rfl rfl ?_ | refine TN_val (rr_add64 rfl rfl (by omega) (by omega) rfl) rfl rfl ?_ | refine TN_val (rr_sub64 rfl rfl (by omega) (by omega) rfl) rfl rfl ?_)
        | refine TW_done ?_)
      refine TW_one rfl (TL_setWr (i := 0) (k := j) (a := x) TyC.ty rfl rfl rfl (by simp; omega) (TW_on sub_nil ?_))
      repeat (first
        | ((first | refine TW_plain rfl rfl ?_ | refine TW_gmet rfl rfl rfl rfl ?_); first | refine TN_val (qp rfl) rfl rfl ?_ | refine TN_val (qlen Und.eq rfl) rfl rfl ?_ | refine TN_val (rr_lss rfl rfl (qT (by omega))) rfl rfl ?_ | refine TN_val (rr_lss rfl rfl (qF (by omega))) rfl rfl ?_ | refine TN_val (rr_add64 rfl rfl (by omega) (by omega) rfl) rfl rfl ?_ | refine TN_val (rr_sub64 rfl rfl (by omega) (by omega) rfl) rfl rfl ?_)
        | refine TW_done ?_)
      repeat (first
        | refine qv rfl (qp rfl) rfl rfl ?_ | refine TL_nil ?_ | refine T_seq ?_ | refine T_region ?_ | refine qcT rfl ?_ | refine qcF rfl ?_ | refine T_skip ?_
        | refine T_exit ?_ | refine T_block ?_ | refine E_then ?_ | refine E_thenX ?_ | refine E_thenR ?_ | refine E_blockN ?_ | refine E_blockR ?_
        | refine E_blockX ?_ | refine E_blockO rfl ?_ | refine qv rfl (qlen Und.eq rfl) rfl rfl ?_ | refine qv rfl (rr_lss rfl rfl (qT (by omega))) rfl rfl ?_
        | refine qv rfl (rr_lss rfl rfl (qF (by omega))) rfl rfl ?_ | refine qv rfl (rr_add64 rfl rfl (by omega) (by omega) rfl) rfl rfl ?_
        | refine qv rfl (rr_sub64 rfl rfl (by omega) (by omega) rfl) rfl rfl ?_)
      exact E_round (i + 1, (X.set i y).set j x) ⟨by omega, by simp [h3], hnew⟩ (by show l.length - (i + 1) < l.length - i; omega) ⟨rfl, rfl, by show _ = some (Value.int .i64 ((l.length : Int) - 1 - ((i + 1 : Nat) : Int))); rw [show (l.length : Int) - 1 - ((i + 1 : Nat) : Int) = (j : Int) - 1 by omega]; rfl, trivial⟩ rfl
  · have hX := revBRevW h3 h4 c1
    subst hX
    repeat (first
      | refine qv rfl (qp rfl) rfl rfl ?_ | refine TL_nil ?_ | refine T_seq ?_ | refine T_region ?_ | refine qcT rfl ?_ | refine qcF rfl ?_ | refine T_skip ?_
      | refine T_exit ?_ | refine T_block ?_ | refine E_then ?_ | refine E_thenX ?_ | refine E_thenR ?_ | refine E_blockN ?_ | refine E_blockR ?_
      | refine E_blockX ?_ | refine E_blockO rfl ?_ | refine qv rfl (qlen Und.eq rfl) rfl rfl ?_ | refine qv rfl (rr_lss rfl rfl (qT (by omega))) rfl rfl ?_
      | refine qv rfl (rr_lss rfl rfl (qF (by omega))) rfl rfl ?_ | refine qv rfl (rr_add64 rfl rfl (by omega) (by omega) rfl) rfl rfl ?_
      | refine qv rfl (rr_sub64 rfl rfl (by omega) (by omega) rfl) rfl rfl ?_)
    exact E_end0 rfl fun w hm => hm.meetsB (S := ⟨fun (_ : Unit) => True, fun _ => .tuple #[], fun _ => [wrO g (l.reverse.map u8v)]⟩) () trivial [0] (by decide) rfl
end Go.Proofs.YtbiacehgfmgfdaaDoor.eng
