/- Functions of package slices at api.Event (printed by program). -/
import Derived.Test.YtnooleopmlijeaaEvS
import Derived.Test.YtnooleopmlijeaaRoom
import Derived.Test.YtnooleopmlijeaaSeq
namespace Go.Proofs.Ytnooleopmlijeaa.eng
open Go.RowKit kit mix gateL
theorem EvR_len (a : Ev) : (evC a).length = 2 := rfl
theorem roomAEvR (l : List Ev) : ((madeCells #[Value.int .i64 0, Value.int .i64 0] ((l.length + 3) * 2)).toList.take (0 * 2) ++ l.flatMap evC ++ (madeCells #[Value.int .i64 0, Value.int .i64 0] ((l.length + 3) * 2)).toList.drop (0 * 2 + (l.flatMap evC).length)).toArray = (l.flatMap evC ++ (List.replicate 3 [Value.int .i64 0, Value.int .i64 0]).flatten).toArray := by
  rw [madeC (k := 2) rfl (by decide), len_el EvR_len]
  congr 1
  simp only [Nat.zero_mul, List.take_zero, List.nil_append, Nat.zero_add]
  congr 1
  rw [← List.replicate_append_replicate, List.flatten_append, List.drop_left' (by simp)]
theorem roomBEvR (l : List Ev) (b : List Value) (hb : b.length = 2 * 2) : ((l.flatMap evC ++ (List.replicate 3 [Value.int .i64 0, Value.int .i64 0]).flatten).toArray.toList.take (l.length * 2) ++ b ++ (l.flatMap evC ++ (List.replicate 3 [Value.int .i64 0, Value.int .i64 0]).flatten).toArray.toList.drop (l.length * 2 + b.length)).toArray = (l.flatMap evC ++ b ++ [Value.int .i64 0, Value.int .i64 0]).toArray := by
  congr 1
  have h := len_el EvR_len l
  rw [List.take_left' h, ← List.drop_drop, List.drop_left' h, hb]
  rfl
set_option maxHeartbeats 2000000 in
theorem roomyEvR_calls (v : Value) (l : List Ev) (a : Ev) (w : World) (hs : Sl w v l.length (l.flatMap evC)) (hl : 16 * (l.length + 3) ≤ 281474976710656) (h1 : ∀ u ∈ evC a, u.oneCell' = true) :
    Calls Try.prog 32 #[v, (.agg (evC a).toArray)] w (Meets ⟨fun _ => True, fun (g : Nat) => .slice (some ⟨g, 0, none⟩) l.length (l.length + 3), fun g => [blkO g (l.flatMap evC ++ (evC a ++ evC a) ++ [Value.int .i64 0, Value.int .i64 0]).toArray 56]⟩ w) := by
  have hsl : ∀ L, SlL w L v l.length (l.flatMap evC) := fun L w' hm => hs.gr hm.below
  obtain ⟨base, cap, rfl, hcap, hmax, _⟩ := hs
  unfold maxLen at hmax
  refine enter (args := [.slice base l.length cap, (.agg (evC a).toArray)]) (n := 20) Try.func32 rfl rfl rfl ?_
  refine T_seq (T_region (TL_box rfl rfl rfl fun g0 => ?_))
  repeat (first
    | refine TL_val (rr_move rfl) rfl rfl rfl ?_
    | refine TL_val (rr_assign rfl) rfl rfl rfl ?_
    | refine TL_nil ?_
    | refine E_then ?_
    | refine TL_val (rr_len Und.eq rfl) rfl rfl rfl ?_
    | refine TL_val (rr_add64 rfl rfl (by omega) (by omega) rfl) rfl rfl rfl ?_)
  (repeat refine T_seq ?_)
  refine T_midq (ι := Nat) (fun _ => True) (fun g => [(0, .slice base l.length cap), (5, .slice (some ⟨g, 0, none⟩) (l.length + 2) (l.length + 3))]) (fun g => [blkO g (l.flatMap evC ++ (evC a ++ evC a) ++ [Value.int .i64 0, Value.int .i64 0]).toArray 56]) ?_ ?_
  · refine T_ord ([blkO g0 (evC a).toArray 56]) (.calm 0 (.calm 1 (.calm 2 (.calm 4 (.calm 6 (.calm 7 (.two 3 (.two 5 (.one 8 (.one 9 (.calm 10 (.done)))) 8 (.one 5 (.one 9 (.calm 10 (.done))))) 8 (.one 3 (.one 5 (.one 9 (.calm 10 (.done)))))))))))) (sub_pick [0] (by decide) rfl) (by kernel_rfl) (by kernel_rfl) (by intro c a d v w h; cases d <;> exact h) ?_
    repeat (first
      | refine TW_val rfl (rr_move rfl) rfl rfl rfl ?_
      | refine TW_val rfl (rr_assign rfl) rfl rfl rfl ?_
      | refine TW_val rfl (rr_loadB (i := 0) TyC.ty rfl rfl rfl) rfl rfl rfl ?_
      | refine TW_val rfl (rr_len Und.eq rfl) rfl rfl rfl ?_
      | refine TW_val rfl (rr_add64 rfl rfl (by omega) (by omega) rfl) rfl rfl rfl ?_
      | refine TW_done ?_)
    refine TW_two rfl rfl ?_ ?_
    · refine TL_makeB (m := 0) (cap := l.length + 3) rfl rfl (by omega) (by omega) (by omega) rfl fun g => ?_
      refine TW_on (sub_pick [0] (by decide) rfl) ?_
      refine TW_two rfl rfl ?_ ?_
      · refine TL_appBs (i := 1) (k := l.length) (cs' := (l.flatMap evC ++ (List.replicate 3 [Value.int .i64 0, Value.int .i64 0]).flatten).toArray) rfl rfl rfl (hsl _) (len_el EvR_len l) (one_ev l) (by omega) (by rw [size_madeCells, len_el EvR_len]; omega) (roomAEvR l).symm rfl ?_
        refine TW_on (sub_pick [0] (by decide) rfl) ?_
        refine TW_one rfl (TL_litN (cs := (evC a ++ evC a).toArray) [(.agg (evC a).toArray), (.agg (evC a).toArray)] rfl rfl rfl (by intro v hv; simp only [List.mem_cons, List.not_mem_nil, or_false, or_self] at hv; subst hv; rfl) rfl rfl rfl fun g8 => TW_on (sub_pick [0] (by decide) rfl) ?_)
        refine TW_one rfl (TL_appB (i := 1) (k := 2) (ys := evC a ++ evC a) (cs' := (l.flatMap evC ++ (evC a ++ evC a) ++ [Value.int .i64 0, Value.int .i64 0]).toArray) rfl rfl rfl (fun w hm j u hj => by rw [addr_add, Nat.zero_add]; exact at_blk (i := 2) rfl (by simpa using hj) w hm) rfl (by intro u hu; rcases List.mem_append.1 hu with h | h <;> exact h1 u h) (by omega) (by simp [len_el EvR_len, evC] <;> omega) (by rw [Nat.zero_add]; exact (roomBEvR l _ rfl).symm) rfl (TW_on (sub_pick [0] (by decide) rfl) ?_))
        repeat (first
          | refine TW_val rfl (rr_move rfl) rfl rfl rfl ?_
          | refine TW_val rfl (rr_assign rfl) rfl rfl rfl ?_
          | refine TW_val rfl (rr_len Und.eq rfl) rfl rfl rfl ?_
          | refine TW_val rfl (rr_add64 rfl rfl (by omega) (by omega) rfl) rfl rfl rfl ?_
          | refine TW_done ?_)
        refine E_pick [1] (by decide) rfl ?_
        exact E_mid g trivial ⟨rfl, by rw [show l.length + 2 = 0 + l.length + 2 by omega]; rfl, trivial⟩ rfl
      · refine TL_litN (cs := (evC a ++ evC a).toArray) [(.agg (evC a).toArray), (.agg (evC a).toArray)] rfl rfl rfl (by intro v hv; simp only [List.mem_cons, List.not_mem_nil, or_false, or_self] at hv; subst hv; rfl) rfl rfl rfl fun g8 => ?_
        refine TW_on (sub_pick [0] (by decide) rfl) ?_
        refine TW_one rfl (TL_appBs (i := 1) (k := l.length) (cs' := (l.flatMap evC ++ (List.replicate 3 [Value.int .i64 0, Value.int .i64 0]).flatten).toArray) rfl rfl rfl (hsl _) (len_el EvR_len l) (one_ev l) (by omega) (by rw [size_madeCells, len_el EvR_len]; omega) (roomAEvR l).symm rfl (TW_on (sub_pick [0] (by decide) rfl) ?_))
        refine TW_one rfl (TL_appB (i := 1) (k := 2) (ys := evC a ++ evC a) (cs' := (l.flatMap evC ++ (evC a ++ evC a) ++ [Value.int .i64 0, Value.int .i64 0]).toArray) rfl rfl rfl (fun w hm j u hj => by rw [addr_add, Nat.zero_add]; exact at_blk (i := 2) rfl (by simpa using hj) w hm) rfl (by intro u hu; rcases List.mem_append.1 hu with h | h <;> exact h1 u h) (by omega) (by simp [len_el EvR_len, evC] <;> omega) (by rw [Nat.zero_add]; exact (roomBEvR l _ rfl).symm) rfl (TW_on (sub_pick [0] (by decide) rfl) ?_))
        repeat (first
          | refine TW_val rfl (rr_move rfl) rfl rfl rfl ?_
          | refine TW_val rfl (rr_assign rfl) rfl rfl rfl ?_
          | refine TW_val rfl (rr_len Und.eq rfl) rfl rfl rfl ?_
          | refine TW_val rfl (rr_add64 rfl rfl (by omega) (by omega) rfl) rfl rfl rfl ?_
          | refine TW_done ?_)
        refine E_pick [1] (by decide) rfl ?_
        exact E_mid g trivial ⟨rfl, by rw [show l.length + 2 = 0 + l.length + 2 by omega]; rfl, trivial⟩ rfl
    · refine TL_litN (cs := (evC a ++ evC a).toArray) [(.agg (evC a).toArray), (.agg (evC a).toArray)] rfl rfl rfl (by intro v hv; simp only [List.mem_cons, List.not_mem_nil, or_false, or_self] at hv; subst hv; rfl) rfl rfl rfl fun g8 => ?_
      refine TW_on (sub_pick [0] (by decide) rfl) ?_
      refine TW_one rfl (TL_makeB (m := 0) (cap := l.length + 3) rfl rfl (by omega) (by omega) (by omega) rfl fun g => TW_on (sub_pick [0] (by decide) rfl) ?_)
      refine TW_one rfl (TL_appBs (i := 2) (k := l.length) (cs' := (l.flatMap evC ++ (List.replicate 3 [Value.int .i64 0, Value.int .i64 0]).flatten).toArray) rfl rfl rfl (hsl _) (len_el EvR_len l) (one_ev l) (by omega) (by rw [size_madeCells, len_el EvR_len]; omega) (roomAEvR l).symm rfl (TW_on (sub_pick [0] (by decide) rfl) ?_))
      refine TW_one rfl (TL_appB (i := 2) (k := 2) (ys := evC a ++ evC a) (cs' := (l.flatMap evC ++ (evC a ++ evC a) ++ [Value.int .i64 0, Value.int .i64 0]).toArray) rfl rfl rfl (fun w hm j u hj => by rw [addr_add, Nat.zero_add]; exact at_blk (i := 1) rfl (by simpa using hj) w hm) rfl (by intro u hu; rcases List.mem_append.1 hu with h | h <;> exact h1 u h) (by omega) (by simp [len_el EvR_len, evC] <;> omega) (by rw [Nat.zero_add]; exact (roomBEvR l _ rfl).symm) rfl (TW_on (sub_pick [0] (by decide) rfl) ?_))
      repeat (first
        | refine TW_val rfl (rr_move rfl) rfl rfl rfl ?_
        | refine TW_val rfl (rr_assign rfl) rfl rfl rfl ?_
        | refine TW_val rfl (rr_len Und.eq rfl) rfl rfl rfl ?_
        | refine TW_val rfl (rr_add64 rfl rfl (by omega) (by omega) rfl) rfl rfl rfl ?_
        | refine TW_done ?_)
      refine E_pick [2] (by decide) rfl ?_
      exact E_mid g trivial ⟨rfl, by rw [show l.length + 2 = 0 + l.length + 2 by omega]; rfl, trivial⟩ rfl
  · intro g _
    repeat (first
      | refine TL_val (rr_move rfl) rfl rfl rfl ?_
      | refine TL_val (rr_assign rfl) rfl rfl rfl ?_
      | refine TL_nil ?_
      | refine T_seq ?_
      | refine T_region ?_
      | refine T_ret ?_
      | refine E_then ?_
      | refine E_thenR ?_
      | refine TL_val (rr_slpre Und.eq TyC.ty rfl rfl (by omega)) rfl rfl rfl ?_
      | refine TL_val (rr_len Und.eq rfl) rfl rfl rfl ?_
      | refine TL_val (rr_add64 rfl rfl (by omega) (by omega) rfl) rfl rfl rfl ?_)
    exact E_ret1 rfl rfl fun w hm => hm.meets (S := ⟨fun _ => True, fun (g : Nat) => .slice (some ⟨g, 0, none⟩) l.length (l.length + 3), fun g => [blkO g (l.flatMap evC ++ (evC a ++ evC a) ++ [Value.int .i64 0, Value.int .i64 0]).toArray 56]⟩) g trivial [0] (by decide) rfl
set_option maxHeartbeats 2000000 in
theorem filledEvR_calls (g cap : Nat) (l : List Ev) (a : Ev) (w : World) (hcap : l.length + 2 ≤ cap) (hmax : cap ≤ 9223372036854775807) (h : ∀ (j : Nat) (u : Value), (l.flatMap evC ++ (evC a ++ evC a))[j]? = some u → w.cell? ⟨g, j, none⟩ = some u) :
    Calls Try.prog 34 #[.slice (some ⟨g, 0, none⟩) l.length cap, (.agg (evC a).toArray)] w (Meets (ret (.bool true)) w) := by
  have hl2 : (l ++ [a, a]).flatMap evC = l.flatMap evC ++ (evC a ++ evC a) := by simp
  have hat : ∀ (L : List Own) (k : Nat) (hk : k < (l ++ [a, a]).length) (j : Nat) (u : Value), (evC (l ++ [a, a])[k])[j]? = some u → At w L ⟨g, 0 + k * 2 + j, none⟩ u := fun L k hk => at_elL EvR_len (off := 0) (fun j u hj => by rw [Nat.zero_add]; exact at_old (h j u (by rw [← hl2]; exact hj))) hk
  have h0 := fun L => hat L l.length (by simp)
  have h1 := fun L => hat L (l.length + 1) (by simp)
  have e0 : (l ++ [a, a])[l.length]'(by simp) = a := by simp
  have e1 : (l ++ [a, a])[l.length + 1]'(by simp) = a := by simp
  rw [e0] at h0
  rw [e1] at h1
  clear hat e0 e1 hl2 h
  have heq := eq_ev a a
  rw [decide_eq_true rfl] at heq
  refine enter (args := [.slice (some ⟨g, 0, none⟩) l.length cap, (.agg (evC a).toArray)]) (n := 28) Try.func34 rfl rfl rfl ?_
  refine T_seq (T_region (TL_box rfl rfl rfl fun g0 => ?_))
  repeat (first
    | refine TL_val (rr_move rfl) rfl rfl rfl ?_
    | refine TL_val (rr_assign rfl) rfl rfl rfl ?_
    | refine TL_nil ?_
    | refine T_seq ?_
    | refine T_region ?_
    | refine T_ret ?_
    | refine E_then ?_
    | refine E_thenR ?_
    | refine TL_val (rr_slpre (j := l.length + 2) Und.eq TyC.ty rfl rfl hcap) rfl rfl rfl ?_
    | refine TL_val (rr_pickT rfl rfl) rfl rfl rfl ?_
    | refine TL_val (rr_pickF rfl rfl) rfl rfl rfl ?_
    | refine TL_val (rr_len Und.eq rfl) rfl rfl rfl ?_
    | refine TL_val (rr_add64 rfl rfl (by omega) (by omega) rfl) rfl rfl rfl ?_
    | refine TL_skip rfl rfl rfl rfl rfl rfl ?_
    | refine TL_gval (rr_slpre (j := l.length + 2) Und.eq TyC.ty rfl rfl hcap) rfl rfl rfl rfl rfl ?_
    | refine TL_gval (rr_move rfl) rfl rfl rfl rfl rfl ?_
    | refine TL_gval (rr_len Und.eq rfl) rfl rfl rfl rfl rfl ?_
    | refine TL_gval (rr_add64 rfl rfl (by omega) (by omega) rfl) rfl rfl rfl rfl rfl ?_)
  refine T_ord ([blkO g0 (evC a).toArray 56]) (.calm 0 (.calm 1 (.calm 2 (.calm 3 (.calm 4 (.calm 5 (.calm 6 (.calm 7 (.calm 8 (.calm 9 (.calm 10 (.calm 11 (.calm 12 (.calm 13 (.calm 14 (.calm 15 (.calm 16 (.calm 17 (.done))))))))))))))))))) (fun _ h => h) (by kernel_rfl) (by kernel_rfl) (by intro c a d v w h; cases d <;> exact h) ?_
  repeat (first
    | refine TW_val rfl (rr_move rfl) rfl rfl rfl ?_
    | refine TW_val rfl (rr_assign rfl) rfl rfl rfl ?_
    | refine TW_val rfl (rr_loadB (i := 0) TyC.ty rfl rfl rfl) rfl rfl rfl ?_
    | refine TW_val rfl (rr_idxc (j := l.length) Und.eq TyC.ty rfl rfl (by omega)) rfl rfl rfl ?_
    | refine TW_val rfl (rr_idxc (j := l.length + 1) Und.eq TyC.ty rfl rfl (by omega)) rfl rfl rfl ?_
    | refine TW_val rfl (rr_loadN TyC.ty rfl rfl (h0 _)) rfl rfl rfl ?_
    | refine TW_val rfl (rr_loadN TyC.ty rfl rfl (h1 _)) rfl rfl rfl ?_
    | refine TW_val rfl (rr_aggeq rfl rfl (by kernel_rfl) heq) rfl rfl rfl ?_
    | refine TW_val rfl (rr_pickT rfl rfl) rfl rfl rfl ?_
    | refine TW_val rfl (rr_pickF rfl rfl) rfl rfl rfl ?_
    | refine TW_val rfl (rr_len Und.eq rfl) rfl rfl rfl ?_
    | refine TW_val rfl (rr_add64 rfl rfl (by omega) (by omega) rfl) rfl rfl rfl ?_
    | refine TW_skip rfl rfl rfl rfl rfl rfl rfl ?_
    | refine TW_gval rfl (rr_loadB (i := 0) TyC.ty rfl rfl rfl) rfl rfl rfl rfl rfl ?_
    | refine TW_gval rfl (rr_idxc (j := l.length) Und.eq TyC.ty rfl rfl (by omega)) rfl rfl rfl rfl rfl ?_
    | refine TW_gval rfl (rr_idxc (j := l.length + 1) Und.eq TyC.ty rfl rfl (by omega)) rfl rfl rfl rfl rfl ?_
    | refine TW_gval rfl (rr_loadN TyC.ty rfl rfl (h0 _)) rfl rfl rfl rfl rfl ?_
    | refine TW_gval rfl (rr_loadN TyC.ty rfl rfl (h1 _)) rfl rfl rfl rfl rfl ?_
    | refine TW_gval rfl (rr_aggeq rfl rfl (by kernel_rfl) heq) rfl rfl rfl rfl rfl ?_
    | refine TW_gval rfl (rr_move rfl) rfl rfl rfl rfl rfl ?_
    | refine TW_gval rfl (rr_len Und.eq rfl) rfl rfl rfl rfl rfl ?_
    | refine TW_gval rfl (rr_add64 rfl rfl (by omega) (by omega) rfl) rfl rfl rfl rfl rfl ?_
    | refine TW_done ?_)
  repeat (first
    | refine TL_val (rr_move rfl) rfl rfl rfl ?_
    | refine TL_val (rr_assign rfl) rfl rfl rfl ?_
    | refine TL_nil ?_
    | refine T_seq ?_
    | refine T_region ?_
    | refine T_ret ?_
    | refine E_then ?_
    | refine E_thenR ?_
    | refine TL_val (rr_pickT rfl rfl) rfl rfl rfl ?_
    | refine TL_val (rr_pickF rfl rfl) rfl rfl rfl ?_
    | refine TL_val (rr_len Und.eq rfl) rfl rfl rfl ?_
    | refine TL_val (rr_add64 rfl rfl (by omega) (by omega) rfl) rfl rfl rfl ?_
    | refine TL_skip rfl rfl rfl rfl rfl rfl ?_
    | refine TL_gval (rr_move rfl) rfl rfl rfl rfl rfl ?_
    | refine TL_gval (rr_len Und.eq rfl) rfl rfl rfl rfl rfl ?_
    | refine TL_gval (rr_add64 rfl rfl (by omega) (by omega) rfl) rfl rfl rfl rfl rfl ?_)
  exact E_ret1 rfl rfl fun w hm => hm.ret
theorem spoilAEvR (k cap : Nat) (a : Ev) (cs : Array Value) (hc : cs.size = cap * 2) (hk : k < cap) : (((List.replicate k (evC a)).flatten ++ cs.toList.drop (k * 2)).toArray.toList.take (k * 2) ++ (evC a).toArray.toList ++ ((List.replicate k (evC a)).flatten ++ cs.toList.drop (k * 2)).toArray.toList.drop (k * 2 + 2)).toArray = ((List.replicate (k + 1) (evC a)).flatten ++ cs.toList.drop ((k + 1) * 2)).toArray := by
  congr 1
  have h : ((List.replicate k (evC a)).flatten).length = k * 2 := by simp [evC]
  simp only []
  rw [List.take_left' h, ← List.drop_drop, List.drop_left' h, List.replicate_succ', List.flatten_append, List.drop_drop]
  simp [Nat.add_mul]
set_option maxHeartbeats 2000000 in
theorem spoilEvR_calls (g n cap : Nat) (cs : Array Value) (a : Ev) (w : World) (B : Base) (hn : n ≤ cap) (hmax : cap ≤ 9223372036854775807) (hc : cs.size = cap * 2) (h1 : (evC a).all Value.oneCell' = true) (hm : Mem B [blkO g cs 56] w) :
    Calls Try.prog 35 #[.slice (some ⟨g, 0, none⟩) n cap, (.agg (evC a).toArray)] w (MeetsB ⟨fun (_ : Unit) => True, fun _ => .tuple #[], fun _ => [blkO g ((List.replicate cap (evC a)).flatten).toArray 56]⟩ B) := by
  refine enterB hm (args := [.slice (some ⟨g, 0, none⟩) n cap, (.agg (evC a).toArray)]) (n := 19) Try.func35 rfl rfl rfl ?_
  refine T_seq (T_region (TL_box rfl rfl rfl fun g0 => ?_))
  repeat (first
    | refine TL_val (rr_move rfl) rfl rfl rfl ?_
    | refine TL_val (rr_assign rfl) rfl rfl rfl ?_
    | refine TL_nil ?_
    | refine T_seq ?_
    | refine T_region ?_
    | refine T_condT rfl ?_
    | refine T_condF rfl ?_
    | refine T_skip ?_
    | refine T_exit ?_
    | refine T_block ?_
    | refine E_then ?_
    | refine E_thenX ?_
    | refine E_thenR ?_
    | refine E_blockN ?_
    | refine E_blockR ?_
    | refine E_blockX ?_
    | refine E_blockO rfl ?_
    | refine TL_val (rr_cap Und.eq rfl) rfl rfl rfl ?_
    | refine TL_val (rr_slpre Und.eq TyC.ty rfl rfl (Nat.le_refl cap)) rfl rfl rfl ?_
    | refine TL_val (rr_len Und.eq rfl) rfl rfl rfl ?_
    | refine TL_val (rr_lss rfl rfl (decide_eq_true (by omega))) rfl rfl rfl ?_
    | refine TL_val (rr_lss rfl rfl (decide_eq_false (by omega))) rfl rfl rfl ?_
    | refine TL_val (rr_add64 rfl rfl (by omega) (by omega) rfl) rfl rfl rfl ?_)
  refine T_loop (ι := Nat) (fun k => k ≤ cap) (fun k => [(0, .slice (some ⟨g, 0, none⟩) cap cap), (3, .pointer (some ⟨g0, 0, none⟩)), (10, .int .i64 cap), (11, .int .i64 (k : Int))]) (fun k => [blkO g ((List.replicate k (evC a)).flatten ++ cs.toList.drop (k * 2)).toArray 56, blkO g0 (evC a).toArray 56]) (fun k => cap - k) 0 (Nat.zero_le _) (by repeat' (first | exact True.intro | refine And.intro rfl ?_)) (by simp; rfl) ?_
  intro k hk
  by_cases c1 : k < cap
  · have hsz : ((List.replicate k (evC a)).flatten ++ cs.toList.drop (k * 2)).toArray.size = cap * 2 := by simp [hc, evC]; omega
    repeat (first
      | refine TL_val (rr_move rfl) rfl rfl rfl ?_
      | refine TL_val (rr_assign rfl) rfl rfl rfl ?_
      | refine TL_nil ?_
      | refine T_seq ?_
      | refine T_region ?_
      | refine T_condT rfl ?_
      | refine T_condF rfl ?_
      | refine T_skip ?_
      | refine T_exit ?_
      | refine T_block ?_
      | refine E_then ?_
      | refine E_thenX ?_
      | refine E_thenR ?_
      | refine E_blockN ?_
      | refine E_blockR ?_
      | refine E_blockX ?_
      | refine E_blockO rfl ?_
      | refine TL_val (rr_loadB (i := 1) TyC.ty rfl rfl rfl) rfl rfl rfl ?_
      | refine TL_val (rr_idxc Und.eq TyC.ty rfl rfl c1) rfl rfl rfl ?_
      | refine TL_val (rr_len Und.eq rfl) rfl rfl rfl ?_
      | refine TL_val (rr_lss rfl rfl (decide_eq_true (by omega))) rfl rfl rfl ?_
      | refine TL_val (rr_lss rfl rfl (decide_eq_false (by omega))) rfl rfl rfl ?_
      | refine TL_val (rr_add64 rfl rfl (by omega) (by omega) rfl) rfl rfl rfl ?_)
    refine TL_store (i := 0) (cs' := ((List.replicate (k + 1) (evC a)).flatten ++ cs.toList.drop ((k + 1) * 2)).toArray) TyC.ty rfl rfl rfl rfl (show ((evC a).toArray.toList.all Value.oneCell') = true by simpa using h1) (by rw [hsz]; omega) (by rw [Nat.zero_add]; exact (spoilAEvR k cap a cs hc c1).symm) ?_
    repeat (first
      | refine TL_val (rr_move rfl) rfl rfl rfl ?_
      | refine TL_val (rr_assign rfl) rfl rfl rfl ?_
      | refine TL_nil ?_
      | refine T_seq ?_
      | refine T_region ?_
      | refine T_condT rfl ?_
      | refine T_condF rfl ?_
      | refine T_skip ?_
      | refine T_exit ?_
      | refine T_block ?_
      | refine E_then ?_
      | refine E_thenX ?_
      | refine E_thenR ?_
      | refine E_blockN ?_
      | refine E_blockR ?_
      | refine E_blockX ?_
      | refine E_blockO rfl ?_
      | refine TL_val (rr_len Und.eq rfl) rfl rfl rfl ?_
      | refine TL_val (rr_lss rfl rfl (decide_eq_true (by omega))) rfl rfl rfl ?_
      | refine TL_val (rr_lss rfl rfl (decide_eq_false (by omega))) rfl rfl rfl ?_
      | refine TL_val (rr_add64 rfl rfl (by omega) (by omega) rfl) rfl rfl rfl ?_)
    exact E_round (k + 1) (by omega) (by show cap - (k + 1) < cap - k; omega) (by repeat' (first | exact True.intro | refine And.intro rfl ?_)) rfl
  · obtain rfl : k = cap := by omega
    repeat (first
      | refine TL_val (rr_move rfl) rfl rfl rfl ?_
      | refine TL_val (rr_assign rfl) rfl rfl rfl ?_
      | refine TL_nil ?_
      | refine T_seq ?_
      | refine T_region ?_
      | refine T_condT rfl ?_
      | refine T_condF rfl ?_
      | refine T_skip ?_
      | refine T_exit ?_
      | refine T_block ?_
      | refine E_then ?_
      | refine E_thenX ?_
      | refine E_thenR ?_
      | refine E_blockN ?_
      | refine E_blockR ?_
      | refine E_blockX ?_
      | refine E_blockO rfl ?_
      | refine TL_val (rr_len Und.eq rfl) rfl rfl rfl ?_
      | refine TL_val (rr_lss rfl rfl (decide_eq_true (by omega))) rfl rfl rfl ?_
      | refine TL_val (rr_lss rfl rfl (decide_eq_false (by omega))) rfl rfl rfl ?_
      | refine TL_val (rr_add64 rfl rfl (by omega) (by omega) rfl) rfl rfl rfl ?_)
    refine E_end0 rfl fun w hm => hm.meetsB (S := ⟨fun (_ : Unit) => True, fun _ => .tuple #[], fun _ => [blkO g ((List.replicate k (evC a)).flatten).toArray 56]⟩) () trivial [0] (by decide) (by simp only [List.drop_of_length_le (show cs.toList.length ≤ k * 2 by simp [hc]), List.append_nil]; rfl)
theorem spoilNilEvR_calls (a : Ev) (w : World) : Calls Try.prog 35 #[.slice none 0 0, (.agg (evC a).toArray)] w (Meets (ret (.tuple #[])) w) := by
  refine enter (args := [.slice none 0 0, (.agg (evC a).toArray)]) (n := 19) Try.func35 rfl rfl rfl ?_
  refine T_seq (T_region (TL_box rfl rfl rfl fun g0 => ?_))
  repeat (first
    | refine TL_val (rr_move rfl) rfl rfl rfl ?_
    | refine TL_val (rr_assign rfl) rfl rfl rfl ?_
    | refine TL_nil ?_
    | refine T_seq ?_
    | refine T_region ?_
    | refine T_condT rfl ?_
    | refine T_condF rfl ?_
    | refine T_skip ?_
    | refine T_exit ?_
    | refine T_block ?_
    | refine E_then ?_
    | refine E_thenX ?_
    | refine E_thenR ?_
    | refine E_blockN ?_
    | refine E_blockR ?_
    | refine E_blockX ?_
    | refine E_blockO rfl ?_
    | refine TL_val (rr_cap Und.eq rfl) rfl rfl rfl ?_
    | refine TL_val (rr_slpre (j := 0) Und.eq TyC.ty rfl rfl (Nat.le_refl 0)) rfl rfl rfl ?_
    | refine TL_val (rr_len Und.eq rfl) rfl rfl rfl ?_
    | refine TL_val (rr_lss rfl rfl (decide_eq_true (by omega))) rfl rfl rfl ?_
    | refine TL_val (rr_lss rfl rfl (decide_eq_false (by omega))) rfl rfl rfl ?_
    | refine TL_val (rr_add64 rfl rfl (by omega) (by omega) rfl) rfl rfl rfl ?_)
  refine T_loop (ι := Unit) (fun _ => True) (fun _ => [(10, .int .i64 0), (11, .int .i64 0)]) (fun _ => [blkO g0 (evC a).toArray 56]) (fun _ => 0) () trivial (by repeat' (first | exact True.intro | refine And.intro rfl ?_)) rfl ?_
  intro _ _
  repeat (first
    | refine TL_val (rr_move rfl) rfl rfl rfl ?_
    | refine TL_val (rr_assign rfl) rfl rfl rfl ?_
    | refine TL_nil ?_
    | refine T_seq ?_
    | refine T_region ?_
    | refine T_condT rfl ?_
    | refine T_condF rfl ?_
    | refine T_skip ?_
    | refine T_exit ?_
    | refine T_block ?_
    | refine E_then ?_
    | refine E_thenX ?_
    | refine E_thenR ?_
    | refine E_blockN ?_
    | refine E_blockR ?_
    | refine E_blockX ?_
    | refine E_blockO rfl ?_
    | refine TL_val (rr_len Und.eq rfl) rfl rfl rfl ?_
    | refine TL_val (rr_lss rfl rfl (decide_eq_true (by omega))) rfl rfl rfl ?_
    | refine TL_val (rr_lss rfl rfl (decide_eq_false (by omega))) rfl rfl rfl ?_
    | refine TL_val (rr_add64 rfl rfl (by omega) (by omega) rfl) rfl rfl rfl ?_)
  exact E_end0 rfl fun w hm => hm.ret
end Go.Proofs.Ytnooleopmlijeaa.eng
