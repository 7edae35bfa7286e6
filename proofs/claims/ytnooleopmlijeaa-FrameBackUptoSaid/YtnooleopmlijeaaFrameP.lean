/- pushkeep.pieces. -/
import Derived.Test.YtnooleopmlijeaaFrame
import Derived.Test.YtnooleopmlijeaaRestE
namespace Go.Proofs.Ytnooleopmlijeaa.frameL
def cutAt (c : Int) (s : List UInt8) : Nat := (c % ((s.length : Int) + 1)).toNat
def piecesL (s : List UInt8) : List Int → List (List UInt8)
  | [] => [s]
  | c :: r => s.take (cutAt c s) :: piecesL (s.drop (cutAt c s)) r
theorem piecesL_length : ∀ (cs : List Int) (s : List UInt8), (piecesL s cs).length = cs.length + 1
  | [], _ => rfl
  | c :: r, s => by simp [piecesL, piecesL_length r]
theorem piecesL_flat : ∀ (cs : List Int) (s : List UInt8), (piecesL s cs).flatten = s
  | [], s => by simp [piecesL]
  | c :: r, s => by simp [piecesL, piecesL_flat r]
end Go.Proofs.Ytnooleopmlijeaa.frameL
namespace Go.Proofs.Ytnooleopmlijeaa.eng
open Go.RowKit kit mix frameL
set_option maxHeartbeats 2000000 in
theorem pieces_calls (s : List UInt8) (vc : Value) (cs : List Int) (w : World) (hs : Sl w vc cs.length (cs.map (.int .i64))) (hok : ∀ c ∈ cs, kit.okI64 c) (hn : cs.length ≤ 1048576) (hl : s.length ≤ 1000000000000000000) :
    Calls Try.prog 23 #[str s, vc] w (Meets (rowS 9 1 (piecesL s cs).length ((piecesL s cs).map str) fun v => v) w) := by
  obtain ⟨base, cap, rfl, hcap, hmax, hrd⟩ := hs
  unfold maxLen at hmax
  refine enter (args := [str s, .slice base cs.length cap]) (n := 34) Try.func23 rfl rfl rfl ?_
  repeat (first
    | refine TL_val (rr_move rfl) rfl rfl rfl ?_
    | refine TL_val (rr_assign rfl) rfl rfl rfl ?_
    | refine TL_nil ?_
    | refine T_seq ?_
    | refine T_region ?_
    | refine T_condT rfl ?_
    | refine T_condF rfl ?_
    | refine T_skip ?_
    | refine T_exit ?_
    | refine T_ret ?_
    | refine T_block ?_
    | refine E_then ?_
    | refine E_thenX ?_
    | refine E_thenR ?_
    | refine E_blockN ?_
    | refine E_blockR ?_
    | refine E_blockX ?_
    | refine E_blockO rfl ?_
    | refine TL_val (rr_strlen Und.eq rfl) rfl rfl rfl ?_
    | refine TL_val (rr_len Und.eq rfl) rfl rfl rfl ?_
    | refine TL_val (rr_lss rfl rfl (decide_eq_true (by omega))) rfl rfl rfl ?_
    | refine TL_val (rr_lss rfl rfl (decide_eq_false (by omega))) rfl rfl rfl ?_
    | refine TL_val (rr_add64 rfl rfl (by omega) (by omega) rfl) rfl rfl rfl ?_)
  refine T_nil 9 1 ?_
  refine T_loop (ι := Nat × List UInt8 × List (List UInt8) × Value) (fun (i, r, o, _) => i ≤ cs.length ∧ o ++ piecesL r (cs.drop i) = piecesL s cs ∧ o.length = i ∧ r.length ≤ s.length) (fun (i, r, _, v) => [(0, str r), (5, v), (9, .slice base cs.length cap), (10, .int .i64 cs.length), (11, .int .i64 (i : Int))]) (fun (_, _, o, v) => [rowO 9 1 v o.length (o.map str)]) (fun (i, _, _, _) => cs.length - i) (0, s, [], .slice none 0 0) ⟨by omega, rfl, rfl, by omega⟩ ⟨rfl, rfl, rfl, rfl, rfl, trivial⟩ rfl ?_
  rintro ⟨i, r, o, v⟩ ⟨h1, h2, h3, h4⟩
  by_cases c1 : i < cs.length
  · obtain ⟨b, off, rfl, hr⟩ := hrd (by omega)
    have hat := at_rdm (L := [rowO 9 1 v o.length (o.map str)]) hr c1
    have hc := hok cs[i] (List.getElem_mem c1)
    rw [List.drop_eq_getElem_cons c1] at h2
    simp only [piecesL] at h2
    generalize cs[i] = c at *
    have hm0 := Int.emod_nonneg c (b := (r.length : Int) + 1) (by omega)
    have hm1 := Int.emod_lt_of_pos c (b := (r.length : Int) + 1) (by omega)
    have hcut : c % ((r.length : Int) + 1) = cutAt c r := by unfold cutAt; omega
    have hrest := fun w => restE c ((r.length : Int) + 1) w hc.1 hc.2 (by omega) (by omega)
    rw [hcut] at hrest hm0 hm1
    generalize cutAt c r = n at *
    clear hr hrd hok hc
    repeat (first
      | refine TL_val (rr_move rfl) rfl rfl rfl ?_
      | refine TL_val (rr_assign rfl) rfl rfl rfl ?_
      | refine TL_nil ?_
      | refine T_seq ?_
      | refine T_region ?_
      | refine T_condT rfl ?_
      | refine T_condF rfl ?_
      | refine T_skip ?_
      | refine T_exit ?_
      | refine T_ret ?_
      | refine T_block ?_
      | refine E_then ?_
      | refine E_thenX ?_
      | refine E_thenR ?_
      | refine E_blockN ?_
      | refine E_blockR ?_
      | refine E_blockX ?_
      | refine E_blockO rfl ?_
      | refine TL_val (rr_idx1 Und.eq TyC.ty rfl rfl c1) rfl rfl rfl ?_
      | refine TL_val (rr_load1 TyC.ty rfl hat) rfl rfl rfl ?_
      | refine TL_val (rr_strlen Und.eq rfl) rfl rfl rfl ?_
      | refine TL_val (rr_len Und.eq rfl) rfl rfl rfl ?_
      | refine TL_val (rr_lss rfl rfl (decide_eq_true (by omega))) rfl rfl rfl ?_
      | refine TL_val (rr_lss rfl rfl (decide_eq_false (by omega))) rfl rfl rfl ?_
      | refine TL_val (rr_add64 rfl rfl (by omega) (by omega) rfl) rfl rfl rfl ?_)
    refine TL_call (he2 EntersC.en rfl rfl rfl) (fun w hm => hrest _) rfl rfl rfl ?_
    intro _ _
    clear hrest
    repeat (first
      | refine TL_val (rr_move rfl) rfl rfl rfl ?_
      | refine TL_val (rr_assign rfl) rfl rfl rfl ?_
      | refine TL_nil ?_
      | refine T_seq ?_
      | refine T_region ?_
      | refine T_condT rfl ?_
      | refine T_condF rfl ?_
      | refine T_skip ?_
      | refine T_exit ?_
      | refine T_ret ?_
      | refine T_block ?_
      | refine E_then ?_
      | refine E_thenX ?_
      | refine E_thenR ?_
      | refine E_blockN ?_
      | refine E_blockR ?_
      | refine E_blockX ?_
      | refine E_blockO rfl ?_
      | refine TL_val (rr_strupto Und.eq rfl rfl (by omega)) rfl rfl rfl ?_
      | refine TL_val (rr_strlen Und.eq rfl) rfl rfl rfl ?_
      | refine TL_val (rr_len Und.eq rfl) rfl rfl rfl ?_
      | refine TL_val (rr_lss rfl rfl (decide_eq_true (by omega))) rfl rfl rfl ?_
      | refine TL_val (rr_lss rfl rfl (decide_eq_false (by omega))) rfl rfl rfl ?_
      | refine TL_val (rr_add64 rfl rfl (by omega) (by omega) rfl) rfl rfl rfl ?_)
    refine TL_push1 (i := 0) rfl rfl rfl rfl rfl rfl (fun z h => by cases h; rfl) (by omega) (by omega) rfl fun z v' => ?_
    repeat (first
      | refine TL_val (rr_move rfl) rfl rfl rfl ?_
      | refine TL_val (rr_assign rfl) rfl rfl rfl ?_
      | refine TL_nil ?_
      | refine T_seq ?_
      | refine T_region ?_
      | refine T_condT rfl ?_
      | refine T_condF rfl ?_
      | refine T_skip ?_
      | refine T_exit ?_
      | refine T_ret ?_
      | refine T_block ?_
      | refine E_then ?_
      | refine E_thenX ?_
      | refine E_thenR ?_
      | refine E_blockN ?_
      | refine E_blockR ?_
      | refine E_blockX ?_
      | refine E_blockO rfl ?_
      | refine TL_val (rr_strfrom Und.eq rfl rfl (by omega)) rfl rfl rfl ?_
      | refine TL_val (rr_strlen Und.eq rfl) rfl rfl rfl ?_
      | refine TL_val (rr_len Und.eq rfl) rfl rfl rfl ?_
      | refine TL_val (rr_lss rfl rfl (decide_eq_true (by omega))) rfl rfl rfl ?_
      | refine TL_val (rr_lss rfl rfl (decide_eq_false (by omega))) rfl rfl rfl ?_
      | refine TL_val (rr_add64 rfl rfl (by omega) (by omega) rfl) rfl rfl rfl ?_)
    exact E_round (i + 1, r.drop n, o ++ [r.take n], v') ⟨by omega, by rw [List.append_assoc]; exact h2, by simp [h3], by simp; omega⟩ (by show cs.length - (i + 1) < cs.length - i; omega) ⟨rfl, rfl, rfl, rfl, rfl, trivial⟩ (by simp only [List.length_append, List.map_append, List.length_singleton, List.map_cons, List.map_nil]; rfl)
  · rw [List.drop_of_length_le (by omega)] at h2
    simp only [piecesL] at h2
    rw [← h2]
    repeat (first
      | refine TL_val (rr_move rfl) rfl rfl rfl ?_
      | refine TL_val (rr_assign rfl) rfl rfl rfl ?_
      | refine TL_nil ?_
      | refine T_seq ?_
      | refine T_region ?_
      | refine T_condT rfl ?_
      | refine T_condF rfl ?_
      | refine T_skip ?_
      | refine T_exit ?_
      | refine T_ret ?_
      | refine T_block ?_
      | refine E_then ?_
      | refine E_thenX ?_
      | refine E_thenR ?_
      | refine E_blockN ?_
      | refine E_blockR ?_
      | refine E_blockX ?_
      | refine E_blockO rfl ?_
      | refine TL_val (rr_strlen Und.eq rfl) rfl rfl rfl ?_
      | refine TL_val (rr_len Und.eq rfl) rfl rfl rfl ?_
      | refine TL_val (rr_lss rfl rfl (decide_eq_true (by omega))) rfl rfl rfl ?_
      | refine TL_val (rr_lss rfl rfl (decide_eq_false (by omega))) rfl rfl rfl ?_
      | refine TL_val (rr_add64 rfl rfl (by omega) (by omega) rfl) rfl rfl rfl ?_)
    refine TL_push1 (i := 0) rfl rfl rfl rfl rfl rfl (fun z h => by cases h; rfl) (by omega) (by omega) rfl fun z v' => ?_
    repeat (first
      | refine TL_val (rr_move rfl) rfl rfl rfl ?_
      | refine TL_val (rr_assign rfl) rfl rfl rfl ?_
      | refine TL_nil ?_
      | refine T_seq ?_
      | refine T_region ?_
      | refine T_condT rfl ?_
      | refine T_condF rfl ?_
      | refine T_skip ?_
      | refine T_exit ?_
      | refine T_ret ?_
      | refine T_block ?_
      | refine E_then ?_
      | refine E_thenX ?_
      | refine E_thenR ?_
      | refine E_blockN ?_
      | refine E_blockR ?_
      | refine E_blockX ?_
      | refine E_blockO rfl ?_
      | refine TL_val (rr_strlen Und.eq rfl) rfl rfl rfl ?_
      | refine TL_val (rr_len Und.eq rfl) rfl rfl rfl ?_
      | refine TL_val (rr_lss rfl rfl (decide_eq_true (by omega))) rfl rfl rfl ?_
      | refine TL_val (rr_lss rfl rfl (decide_eq_false (by omega))) rfl rfl rfl ?_
      | refine TL_val (rr_add64 rfl rfl (by omega) (by omega) rfl) rfl rfl rfl ?_)
    exact E_ret1 rfl rfl fun w hm => hm.meets (S := rowS 9 1 (o ++ [r]).length ((o ++ [r]).map str) fun v => v) v' trivial [0] (by decide) (by simp [rowS])
end Go.Proofs.Ytnooleopmlijeaa.eng
