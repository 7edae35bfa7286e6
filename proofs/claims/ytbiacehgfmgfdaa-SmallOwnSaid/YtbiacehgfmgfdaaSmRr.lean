/- Functions of package slices at api.Row (printed by program). -/
import Derived.Test.YtbiacehgfmgfdaaSmRw
import Derived.Test.YtbiacehgfmgfdaaMgB
namespace Go.Proofs.Ytbiacehgfmgfdaa.eng
open Go.RowKit kit mix smallL
theorem SmRr_len (a : Row) : (rowC a).length = 256 := rowC_len a
set_option maxRecDepth 100000 in
theorem roomASmRr (l : List Row) : ((madeCells (List.replicate 256 (.int .i16 0 : Value)).toArray ((l.length + 3) * 256)).toList.take (0 * 256) ++ l.flatMap rowC ++ (madeCells (List.replicate 256 (.int .i16 0 : Value)).toArray ((l.length + 3) * 256)).toList.drop (0 * 256 + (l.flatMap rowC).length)).toArray = (l.flatMap rowC ++ (List.replicate 3 (List.replicate 256 (.int .i16 0 : Value))).flatten).toArray := by
  rw [madeC (k := 256) rfl (by decide), len_el SmRr_len]
  congr 1
  simp only [Nat.zero_mul, List.take_zero, List.nil_append, Nat.zero_add]
  congr 1
  rw [← List.replicate_append_replicate, List.flatten_append, List.drop_left' (by simp)]
set_option maxRecDepth 100000 in
theorem roomBSmRr (l : List Row) (b : List Value) (hb : b.length = 2 * 256) : ((l.flatMap rowC ++ (List.replicate 3 (List.replicate 256 (.int .i16 0 : Value))).flatten).toArray.toList.take (l.length * 256) ++ b ++ (l.flatMap rowC ++ (List.replicate 3 (List.replicate 256 (.int .i16 0 : Value))).flatten).toArray.toList.drop (l.length * 256 + b.length)).toArray = (l.flatMap rowC ++ b ++ (List.replicate 256 (.int .i16 0 : Value))).toArray := by
  congr 1
  have h := len_el SmRr_len l
  rw [List.take_left' h, ← List.drop_drop, List.drop_left' h, hb]
  rfl
set_option maxRecDepth 100000 in
set_option maxHeartbeats 2000000 in
theorem roomySmRr_calls (v : Value) (l : List Row) (a : Row) (w : World) (hs : Sl w v l.length (l.flatMap rowC)) (hl : 512 * (l.length + 3) ≤ 281474976710656) (h1 : ∀ u ∈ rowC a, u.oneCell' = true) :
    Calls Try.prog 19 #[v, (.agg (rowC a).toArray)] w (Meets ⟨fun _ => True, fun (g : Nat) => .slice (some ⟨g, 0, none⟩) l.length (l.length + 3), fun g => [blkO g (l.flatMap rowC ++ (rowC a ++ rowC a) ++ (List.replicate 256 (.int .i16 0 : Value))).toArray 31]⟩ w) := by
  have hsl : ∀ L, SlL w L v l.length (l.flatMap rowC) := fun L w' hm => hs.gr hm.below
  obtain ⟨base, cap, rfl, hcap, hmax, _⟩ := hs
  unfold maxLen at hmax
  refine enter (args := [.slice base l.length cap, (.agg (rowC a).toArray)]) (n := 20) Try.func19 rfl rfl rfl ?_
  refine T_seq (T_region (TL_box rfl rfl rfl fun g0 => ?_))
  repeat (first
    | refine qv rfl (qp rfl) rfl rfl ?_ | refine TL_nil ?_ | refine E_then ?_ | refine qv rfl (qlen Und.eq rfl) rfl rfl ?_
    | refine qv rfl (rr_add64 rfl rfl (by omega) (by omega) rfl) rfl rfl ?_)
  (repeat refine T_seq ?_)
  refine T_midq (ι := Nat) (fun _ => True) (fun g => [(0, .slice base l.length cap), (5, .slice (some ⟨g, 0, none⟩) (l.length + 2) (l.length + 3))]) (fun g => [blkO g (l.flatMap rowC ++ (rowC a ++ rowC a) ++ (List.replicate 256 (.int .i16 0 : Value))).toArray 31]) ?_ ?_
  · refine T_ord ([blkO g0 (rowC a).toArray 31]) (.calm 0 (.calm 1 (.calm 2 (.calm 4 (.calm 6 (.calm 7 (.two 3 (.two 5 (.one 8 (.one 9 (.calm 10 (.done)))) 8 (.one 5 (.one 9 (.calm 10 (.done))))) 8 (.one 3 (.one 5 (.one 9 (.calm 10 (.done)))))))))))) (sub_pick [0] (by decide) rfl) (by kernel_rfl) (by kernel_rfl) (by intro c a d v w h; cases d <;> exact h) ?_
    repeat (first
      | ((first | refine TW_plain rfl rfl ?_ | refine TW_gmet rfl rfl rfl rfl ?_); first | refine TN_val (qp rfl) rfl rfl ?_ | refine TN_val (rr_loadB (i := 0) TyC.ty rfl rfl (by rw [List.size_toArray, rowC_len])) rfl rfl ?_ | refine TN_val (qlen Und.eq rfl) rfl rfl ?_ | refine TN_val (rr_add64 rfl rfl (by omega) (by omega) rfl) rfl rfl ?_)
      | refine TW_done ?_)
    refine TW_two rfl rfl ?_ ?_
    · refine TL_makeB (m := 0) (cap := l.length + 3) rfl rfl (by omega) (by omega) (by omega) rfl fun g => ?_
      refine TW_on (sub_pick [0] (by decide) rfl) ?_
      refine TW_two rfl rfl ?_ ?_
      · refine TL_appBs (i := 1) (k := l.length) (cs' := (l.flatMap rowC ++ (List.replicate 3 (List.replicate 256 (.int .i16 0 : Value))).flatten).toArray) rfl rfl rfl (hsl _) (len_el SmRr_len l) (row_one l) (by omega) (by rw [size_madeCells, len_el SmRr_len]; omega) (roomASmRr l).symm rfl ?_
        refine TW_on (sub_pick [0] (by decide) rfl) ?_
        refine TW_one rfl (TL_litN (cs := (rowC a ++ rowC a).toArray) [(.agg (rowC a).toArray), (.agg (rowC a).toArray)] rfl rfl rfl (by intro v hv; simp only [List.mem_cons, List.not_mem_nil, or_false, or_self] at hv; subst hv; show (rowC a).toArray.size = 256; rw [List.size_toArray, rowC_len]) rfl (by show _ = (rowC a ++ (rowC a ++ [])).toArray; rw [List.append_nil]) rfl fun g8 => TW_on (sub_pick [0] (by decide) rfl) ?_)
        refine TW_one rfl (TL_appB (i := 1) (k := 2) (ys := rowC a ++ rowC a) (cs' := (l.flatMap rowC ++ (rowC a ++ rowC a) ++ (List.replicate 256 (.int .i16 0 : Value))).toArray) rfl rfl rfl (fun w hm j u hj => by rw [addr_add, Nat.zero_add]; exact at_blk (i := 2) rfl (by simpa using hj) w hm) (by rw [List.length_append, rowC_len]) (by intro u hu; rcases List.mem_append.1 hu with h | h <;> exact h1 u h) (by omega) (by simp [len_el SmRr_len, rowC] <;> omega) (by rw [Nat.zero_add]; exact (roomBSmRr l _ (by rw [List.length_append, rowC_len])).symm) rfl (TW_on (sub_pick [0] (by decide) rfl) ?_))
        repeat (first
          | ((first | refine TW_plain rfl rfl ?_ | refine TW_gmet rfl rfl rfl rfl ?_); first | refine TN_val (qp rfl) rfl rfl ?_ | refine TN_val (qlen Und.eq rfl) rfl rfl ?_ | refine TN_val (rr_add64 rfl rfl (by omega) (by omega) rfl) rfl rfl ?_)
          | refine TW_done ?_)
        refine E_pick [1] (by decide) rfl ?_
        exact E_mid g trivial ⟨rfl, by rw [show l.length + 2 = 0 + l.length + 2 by omega]; rfl, trivial⟩ rfl
      · refine TL_litN (cs := (rowC a ++ rowC a).toArray) [(.agg (rowC a).toArray), (.agg (rowC a).toArray)] rfl rfl rfl (by intro v hv; simp only [List.mem_cons, List.not_mem_nil, or_false, or_self] at hv; subst hv; show (rowC a).toArray.size = 256; rw [List.size_toArray, rowC_len]) rfl (by show _ = (rowC a ++ (rowC a ++ [])).toArray; rw [List.append_nil]) rfl fun g8 => ?_
        refine TW_on (sub_pick [0] (by decide) rfl) ?_
        refine TW_one rfl (TL_appBs (i := 1) (k := l.length) (cs' := (l.flatMap rowC ++ (List.replicate 3 (List.replicate 256 (.int .i16 0 : Value))).flatten).toArray) rfl rfl rfl (hsl _) (len_el SmRr_len l) (row_one l) (by omega) (by rw [size_madeCells, len_el SmRr_len]; omega) (roomASmRr l).symm rfl (TW_on (sub_pick [0] (by decide) rfl) ?_))
        refine TW_one rfl (TL_appB (i := 1) (k := 2) (ys := rowC a ++ rowC a) (cs' := (l.flatMap rowC ++ (rowC a ++ rowC a) ++ (List.replicate 256 (.int .i16 0 : Value))).toArray) rfl rfl rfl (fun w hm j u hj => by rw [addr_add, Nat.zero_add]; exact at_blk (i := 2) rfl (by simpa using hj) w hm) (by rw [List.length_append, rowC_len]) (by intro u hu; rcases List.mem_append.1 hu with h | h <;> exact h1 u h) (by omega) (by simp [len_el SmRr_len, rowC] <;> omega) (by rw [Nat.zero_add]; exact (roomBSmRr l _ (by rw [List.length_append, rowC_len])).symm) rfl (TW_on (sub_pick [0] (by decide) rfl) ?_))
        repeat (first
          | ((first | refine TW_plain rfl rfl ?_ | refine TW_gmet rfl rfl rfl rfl ?_); first | refine TN_val (qp rfl) rfl rfl ?_ | refine TN_val (qlen Und.eq rfl) rfl rfl ?_ | refine TN_val (rr_add64 rfl rfl (by omega) (by omega) rfl) rfl rfl ?_)
          | refine TW_done ?_)
        refine E_pick [1] (by decide) rfl ?_
        exact E_mid g trivial ⟨rfl, by rw [show l.length + 2 = 0 + l.length + 2 by omega]; rfl, trivial⟩ rfl
    · refine TL_litN (cs := (rowC a ++ rowC a).toArray) [(.agg (rowC a).toArray), (.agg (rowC a).toArray)] rfl rfl rfl (by intro v hv; simp only [List.mem_cons, List.not_mem_nil, or_false, or_self] at hv; subst hv; show (rowC a).toArray.size = 256; rw [List.size_toArray, rowC_len]) rfl (by show _ = (rowC a ++ (rowC a ++ [])).toArray; rw [List.append_nil]) rfl fun g8 => ?_
      refine TW_on (sub_pick [0] (by decide) rfl) ?_
      refine TW_one rfl (TL_makeB (m := 0) (cap := l.length + 3) rfl rfl (by omega) (by omega) (by omega) rfl fun g => TW_on (sub_pick [0] (by decide) rfl) ?_)
      refine TW_one rfl (TL_appBs (i := 2) (k := l.length) (cs' := (l.flatMap rowC ++ (List.replicate 3 (List.replicate 256 (.int .i16 0 : Value))).flatten).toArray) rfl rfl rfl (hsl _) (len_el SmRr_len l) (row_one l) (by omega) (by rw [size_madeCells, len_el SmRr_len]; omega) (roomASmRr l).symm rfl (TW_on (sub_pick [0] (by decide) rfl) ?_))
      refine TW_one rfl (TL_appB (i := 2) (k := 2) (ys := rowC a ++ rowC a) (cs' := (l.flatMap rowC ++ (rowC a ++ rowC a) ++ (List.replicate 256 (.int .i16 0 : Value))).toArray) rfl rfl rfl (fun w hm j u hj => by rw [addr_add, Nat.zero_add]; exact at_blk (i := 1) rfl (by simpa using hj) w hm) (by rw [List.length_append, rowC_len]) (by intro u hu; rcases List.mem_append.1 hu with h | h <;> exact h1 u h) (by omega) (by simp [len_el SmRr_len, rowC] <;> omega) (by rw [Nat.zero_add]; exact (roomBSmRr l _ (by rw [List.length_append, rowC_len])).symm) rfl (TW_on (sub_pick [0] (by decide) rfl) ?_))
      repeat (first
        | ((first | refine TW_plain rfl rfl ?_ | refine TW_gmet rfl rfl rfl rfl ?_); first | refine TN_val (qp rfl) rfl rfl ?_ | refine TN_val (qlen Und.eq rfl) rfl rfl ?_ | refine TN_val (rr_add64 rfl rfl (by omega) (by omega) rfl) rfl rfl ?_)
        | refine TW_done ?_)
      refine E_pick [2] (by decide) rfl ?_
      exact E_mid g trivial ⟨rfl, by rw [show l.length + 2 = 0 + l.length + 2 by omega]; rfl, trivial⟩ rfl
  · intro g _
    repeat (first
      | refine qv rfl (qp rfl) rfl rfl ?_ | refine TL_nil ?_ | refine T_seq ?_ | refine T_region ?_ | refine T_ret ?_ | refine E_then ?_ | refine E_thenR ?_
      | refine qv rfl (rr_slpre Und.eq TyC.ty rfl rfl (by omega)) rfl rfl ?_ | refine qv rfl (qlen Und.eq rfl) rfl rfl ?_
      | refine qv rfl (rr_add64 rfl rfl (by omega) (by omega) rfl) rfl rfl ?_)
    exact E_ret1 rfl rfl fun w hm => hm.meets (S := ⟨fun _ => True, fun (g : Nat) => .slice (some ⟨g, 0, none⟩) l.length (l.length + 3), fun g => [blkO g (l.flatMap rowC ++ (rowC a ++ rowC a) ++ (List.replicate 256 (.int .i16 0 : Value))).toArray 31]⟩) g trivial [0] (by decide) rfl
set_option maxRecDepth 100000 in
set_option maxHeartbeats 2000000 in
theorem filledSmRr_calls (g cap : Nat) (l : List Row) (a : Row) (w : World) (hcap : l.length + 2 ≤ cap) (hmax : cap ≤ 9223372036854775807) (h : ∀ (j : Nat) (u : Value), (l.flatMap rowC ++ (rowC a ++ rowC a))[j]? = some u → w.cell? ⟨g, j, none⟩ = some u) :
    Calls Try.prog 21 #[.slice (some ⟨g, 0, none⟩) l.length cap, (.agg (rowC a).toArray)] w (Meets (ret (.bool true)) w) := by
  have hl2 : (l ++ [a, a]).flatMap rowC = l.flatMap rowC ++ (rowC a ++ rowC a) := by simp
  have hat : ∀ (L : List Own) (k : Nat) (hk : k < (l ++ [a, a]).length) (j : Nat) (u : Value), (rowC (l ++ [a, a])[k])[j]? = some u → At w L ⟨g, 0 + k * 256 + j, none⟩ u := fun L k hk => at_elL SmRr_len (off := 0) (fun j u hj => by rw [Nat.zero_add]; exact at_old (h j u (by rw [← hl2]; exact hj))) hk
  have h0 := fun L => hat L l.length (by simp)
  have h1 := fun L => hat L (l.length + 1) (by simp)
  have e0 : (l ++ [a, a])[l.length]'(by simp) = a := by simp
  have e1 : (l ++ [a, a])[l.length + 1]'(by simp) = a := by simp
  rw [e0] at h0
  rw [e1] at h1
  clear hat e0 e1 hl2 h
  have heq := eqRow a a
  rw [decide_eq_true rfl] at heq
  refine enter (args := [.slice (some ⟨g, 0, none⟩) l.length cap, (.agg (rowC a).toArray)]) (n := 28) Try.func21 rfl rfl rfl ?_
  refine T_seq (T_region (TL_box rfl rfl rfl fun g0 => ?_))
  repeat (first
    | refine qv rfl (qp rfl) rfl rfl ?_ | refine TL_nil ?_ | refine T_seq ?_ | refine T_region ?_ | refine T_ret ?_ | refine E_then ?_ | refine E_thenR ?_
    | refine qs rfl rfl rfl rfl rfl rfl ?_
    | ((try refine qg rfl rfl rfl ?_); first | refine qv rfl (qp rfl) rfl rfl ?_ | refine qv rfl (rr_slpre (j := l.length + 2) Und.eq TyC.ty rfl rfl hcap) rfl rfl ?_ | refine qv rfl (qlen Und.eq rfl) rfl rfl ?_ | refine qv rfl (rr_add64 rfl rfl (by omega) (by omega) rfl) rfl rfl ?_))
  refine T_ord ([blkO g0 (rowC a).toArray 31]) (.calm 0 (.calm 1 (.calm 2 (.calm 3 (.calm 4 (.calm 5 (.calm 6 (.calm 7 (.calm 8 (.calm 9 (.calm 10 (.calm 11 (.calm 12 (.calm 13 (.calm 14 (.calm 15 (.calm 16 (.calm 17 (.done))))))))))))))))))) (fun _ h => h) (by kernel_rfl) (by kernel_rfl) (by intro c a d v w h; cases d <;> exact h) ?_
  repeat (first
    | ((first | refine TW_plain rfl rfl ?_ | refine TW_gmet rfl rfl rfl rfl ?_); first | refine TN_val (qp rfl) rfl rfl ?_ | refine TN_val (rr_loadB (i := 0) TyC.ty rfl rfl (by rw [List.size_toArray, rowC_len])) rfl rfl ?_ | refine TN_val (rr_idxc (j := l.length) Und.eq TyC.ty rfl rfl (by omega)) rfl rfl ?_ | refine TN_val (rr_idxc (j := l.length + 1) Und.eq TyC.ty rfl rfl (by omega)) rfl rfl ?_ | refine TN_val (rr_loadN TyC.ty rfl (rowC_len a) (h0 _)) rfl rfl ?_ | refine TN_val (rr_loadN TyC.ty rfl (rowC_len a) (h1 _)) rfl rfl ?_ | refine TN_val (rr_aggeq rfl rfl (by kernel_rfl) heq) rfl rfl ?_ | refine TN_val (qlen Und.eq rfl) rfl rfl ?_ | refine TN_val (rr_add64 rfl rfl (by omega) (by omega) rfl) rfl rfl ?_)
    | refine TW_skip rfl rfl rfl rfl rfl rfl rfl ?_ | refine TW_done ?_)
  repeat (first
    | refine qv rfl (qp rfl) rfl rfl ?_ | refine TL_nil ?_ | refine T_seq ?_ | refine T_region ?_ | refine T_ret ?_ | refine E_then ?_ | refine E_thenR ?_
    | refine qs rfl rfl rfl rfl rfl rfl ?_
    | ((try refine qg rfl rfl rfl ?_); first | refine qv rfl (qp rfl) rfl rfl ?_ | refine qv rfl (qlen Und.eq rfl) rfl rfl ?_ | refine qv rfl (rr_add64 rfl rfl (by omega) (by omega) rfl) rfl rfl ?_))
  exact E_ret1 rfl rfl fun w hm => hm.ret
theorem spoilASmRr (k cap : Nat) (a : Row) (cs : Array Value) (hc : cs.size = cap * 256) (hk : k < cap) : (((List.replicate k (rowC a)).flatten ++ cs.toList.drop (k * 256)).toArray.toList.take (k * 256) ++ (rowC a).toArray.toList ++ ((List.replicate k (rowC a)).flatten ++ cs.toList.drop (k * 256)).toArray.toList.drop (k * 256 + 256)).toArray = ((List.replicate (k + 1) (rowC a)).flatten ++ cs.toList.drop ((k + 1) * 256)).toArray := by
  congr 1
  have h : ((List.replicate k (rowC a)).flatten).length = k * 256 := by simp [rowC]
  simp only []
  rw [List.take_left' h, ← List.drop_drop, List.drop_left' h, List.replicate_succ', List.flatten_append, List.drop_drop]
  simp [Nat.add_mul]
set_option maxRecDepth 100000 in
set_option maxHeartbeats 2000000 in
theorem spoilSmRr_calls (g n cap : Nat) (cs : Array Value) (a : Row) (w : World) (B : Base) (hn : n ≤ cap) (hmax : cap ≤ 9223372036854775807) (hc : cs.size = cap * 256) (h1 : (rowC a).all Value.oneCell' = true) (hm : Mem B [blkO g cs 31] w) :
    Calls Try.prog 25 #[.slice (some ⟨g, 0, none⟩) n cap, (.agg (rowC a).toArray)] w (MeetsB ⟨fun (_ : Unit) => True, fun _ => .tuple #[], fun _ => [blkO g ((List.replicate cap (rowC a)).flatten).toArray 31]⟩ B) := by
  refine enterB hm (args := [.slice (some ⟨g, 0, none⟩) n cap, (.agg (rowC a).toArray)]) (n := 19) Try.func25 rfl rfl rfl ?_
  refine T_seq (T_region (TL_box rfl rfl rfl fun g0 => ?_))
  repeat (first
    | refine qv rfl (qp rfl) rfl rfl ?_ | refine TL_nil ?_ | refine T_seq ?_ | refine T_region ?_ | refine qcT rfl ?_ | refine qcF rfl ?_ | refine T_skip ?_
    | refine T_exit ?_ | refine T_block ?_ | refine E_then ?_ | refine E_thenX ?_ | refine E_thenR ?_ | refine E_blockN ?_ | refine E_blockR ?_
    | refine E_blockX ?_ | refine E_blockO rfl ?_ | refine qv rfl (rr_cap Und.eq rfl) rfl rfl ?_
    | refine qv rfl (rr_slpre Und.eq TyC.ty rfl rfl (Nat.le_refl cap)) rfl rfl ?_ | refine qv rfl (qlen Und.eq rfl) rfl rfl ?_
    | refine qv rfl (rr_lss rfl rfl (qT (by omega))) rfl rfl ?_ | refine qv rfl (rr_lss rfl rfl (qF (by omega))) rfl rfl ?_
    | refine qv rfl (rr_add64 rfl rfl (by omega) (by omega) rfl) rfl rfl ?_)
  refine T_loop (ι := Nat) (fun k => k ≤ cap) (fun k => [(0, .slice (some ⟨g, 0, none⟩) cap cap), (3, .pointer (some ⟨g0, 0, none⟩)), (10, .int .i64 cap), (11, .int .i64 (k : Int))]) (fun k => [blkO g ((List.replicate k (rowC a)).flatten ++ cs.toList.drop (k * 256)).toArray 31, blkO g0 (rowC a).toArray 31]) (fun k => cap - k) 0 (Nat.zero_le _) (by repeat' (first | exact True.intro | refine And.intro rfl ?_)) (by simp; rfl) ?_
  intro k hk
  by_cases c1 : k < cap
  · have hsz : ((List.replicate k (rowC a)).flatten ++ cs.toList.drop (k * 256)).toArray.size = cap * 256 := by simp [hc, rowC]; omega
    repeat (first
      | refine qv rfl (qp rfl) rfl rfl ?_ | refine TL_nil ?_ | refine T_seq ?_ | refine T_region ?_ | refine qcT rfl ?_ | refine qcF rfl ?_ | refine T_skip ?_
      | refine T_exit ?_ | refine T_block ?_ | refine E_then ?_ | refine E_thenX ?_ | refine E_thenR ?_ | refine E_blockN ?_ | refine E_blockR ?_
      | refine E_blockX ?_ | refine E_blockO rfl ?_ | refine qv rfl (rr_loadB (i := 1) TyC.ty rfl rfl (by rw [List.size_toArray, rowC_len])) rfl rfl ?_
      | refine qv rfl (rr_idxc Und.eq TyC.ty rfl rfl c1) rfl rfl ?_ | refine qv rfl (qlen Und.eq rfl) rfl rfl ?_
      | refine qv rfl (rr_lss rfl rfl (qT (by omega))) rfl rfl ?_ | refine qv rfl (rr_lss rfl rfl (qF (by omega))) rfl rfl ?_
      | refine qv rfl (rr_add64 rfl rfl (by omega) (by omega) rfl) rfl rfl ?_)
    refine TL_store (i := 0) (cs' := ((List.replicate (k + 1) (rowC a)).flatten ++ cs.toList.drop ((k + 1) * 256)).toArray) TyC.ty rfl rfl rfl (by show (rowC a).toArray.size = 256; rw [List.size_toArray, rowC_len]) (show ((rowC a).toArray.toList.all Value.oneCell') = true by simpa using h1) (by rw [hsz]; omega) (by rw [Nat.zero_add]; exact (spoilASmRr k cap a cs hc c1).symm) ?_
    repeat (first
      | refine qv rfl (qp rfl) rfl rfl ?_ | refine TL_nil ?_ | refine T_seq ?_ | refine T_region ?_ | refine qcT rfl ?_ | refine qcF rfl ?_ | refine T_skip ?_
      | refine T_exit ?_ | refine T_block ?_ | refine E_then ?_ | refine E_thenX ?_ | refine E_thenR ?_ | refine E_blockN ?_ | refine E_blockR ?_
      | refine E_blockX ?_ | refine E_blockO rfl ?_ | refine qv rfl (qlen Und.eq rfl) rfl rfl ?_ | refine qv rfl (rr_lss rfl rfl (qT (by omega))) rfl rfl ?_
      | refine qv rfl (rr_lss rfl rfl (qF (by omega))) rfl rfl ?_ | refine qv rfl (rr_add64 rfl rfl (by omega) (by omega) rfl) rfl rfl ?_)
    exact E_round (k + 1) (by omega) (by show cap - (k + 1) < cap - k; omega) (by repeat' (first | exact True.intro | refine And.intro rfl ?_)) rfl
  · obtain rfl : k = cap := by omega
    repeat (first
      | refine qv rfl (qp rfl) rfl rfl ?_ | refine TL_nil ?_ | refine T_seq ?_ | refine T_region ?_ | refine qcT rfl ?_ | refine qcF rfl ?_ | refine T_skip ?_
      | refine T_exit ?_ | refine T_block ?_ | refine E_then ?_ | refine E_thenX ?_ | refine E_thenR ?_ | refine E_blockN ?_ | refine E_blockR ?_
      | refine E_blockX ?_ | refine E_blockO rfl ?_ | refine qv rfl (qlen Und.eq rfl) rfl rfl ?_ | refine qv rfl (rr_lss rfl rfl (qT (by omega))) rfl rfl ?_
      | refine qv rfl (rr_lss rfl rfl (qF (by omega))) rfl rfl ?_ | refine qv rfl (rr_add64 rfl rfl (by omega) (by omega) rfl) rfl rfl ?_)
    refine E_end0 rfl fun w hm => hm.meetsB (S := ⟨fun (_ : Unit) => True, fun _ => .tuple #[], fun _ => [blkO g ((List.replicate k (rowC a)).flatten).toArray 31]⟩) () trivial [0] (by decide) (by simp only [List.drop_of_length_le (show cs.toList.length ≤ k * 256 by simp [hc]), List.append_nil]; rfl)
theorem spoilNilSmRr_calls (a : Row) (w : World) : Calls Try.prog 25 #[.slice none 0 0, (.agg (rowC a).toArray)] w (Meets (ret (.tuple #[])) w) := by
  refine enter (args := [.slice none 0 0, (.agg (rowC a).toArray)]) (n := 19) Try.func25 rfl rfl rfl ?_
  refine T_seq (T_region (TL_box rfl rfl rfl fun g0 => ?_))
  repeat (first
    | refine qv rfl (qp rfl) rfl rfl ?_ | refine TL_nil ?_ | refine T_seq ?_ | refine T_region ?_ | refine qcT rfl ?_ | refine qcF rfl ?_ | refine T_skip ?_
    | refine T_exit ?_ | refine T_block ?_ | refine E_then ?_ | refine E_thenX ?_ | refine E_thenR ?_ | refine E_blockN ?_ | refine E_blockR ?_
    | refine E_blockX ?_ | refine E_blockO rfl ?_ | refine qv rfl (rr_cap Und.eq rfl) rfl rfl ?_
    | refine qv rfl (rr_slpre (j := 0) Und.eq TyC.ty rfl rfl (Nat.le_refl 0)) rfl rfl ?_ | refine qv rfl (qlen Und.eq rfl) rfl rfl ?_
    | refine qv rfl (rr_lss rfl rfl (qT (by omega))) rfl rfl ?_ | refine qv rfl (rr_lss rfl rfl (qF (by omega))) rfl rfl ?_
    | refine qv rfl (rr_add64 rfl rfl (by omega) (by omega) rfl) rfl rfl ?_)
  refine T_loop (ι := Unit) (fun _ => True) (fun _ => [(10, .int .i64 0), (11, .int .i64 0)]) (fun _ => [blkO g0 (rowC a).toArray 31]) (fun _ => 0) () trivial (by repeat' (first | exact True.intro | refine And.intro rfl ?_)) rfl ?_
  intro _ _
  repeat (first
    | refine qv rfl (qp rfl) rfl rfl ?_ | refine TL_nil ?_ | refine T_seq ?_ | refine T_region ?_ | refine qcT rfl ?_ | refine qcF rfl ?_ | refine T_skip ?_
    | refine T_exit ?_ | refine T_block ?_ | refine E_then ?_ | refine E_thenX ?_ | refine E_thenR ?_ | refine E_blockN ?_ | refine E_blockR ?_
    | refine E_blockX ?_ | refine E_blockO rfl ?_ | refine qv rfl (qlen Und.eq rfl) rfl rfl ?_ | refine qv rfl (rr_lss rfl rfl (qT (by omega))) rfl rfl ?_
    | refine qv rfl (rr_lss rfl rfl (qF (by omega))) rfl rfl ?_ | refine qv rfl (rr_add64 rfl rfl (by omega) (by omega) rfl) rfl rfl ?_)
  exact E_end0 rfl fun w hm => hm.ret
end Go.Proofs.Ytbiacehgfmgfdaa.eng
