/- Functions of package slices at api.Event (printed by program). -/
import Derived.Test.YtnicebdkejkieaaEvP
import Derived.Test.YtnicebdkejkieaaMgB
namespace Go.Proofs.Ytnicebdkejkieaa.eng
open Go.RowKit kit mix
theorem EvZ_len (a : gramL.Sym) : (symC a).length = 2 := rfl
theorem roomAEvZ (l : List gramL.Sym) : ((madeCells #[Value.int .i64 0, Value.int .i64 0] ((l.length + 3) * 2)).toList.take (0 * 2) ++ l.flatMap symC ++ (madeCells #[Value.int .i64 0, Value.int .i64 0] ((l.length + 3) * 2)).toList.drop (0 * 2 + (l.flatMap symC).length)).toArray = (l.flatMap symC ++ (List.replicate 3 [Value.int .i64 0, Value.int .i64 0]).flatten).toArray := by
  rw [madeC (k := 2) rfl (by decide), len_el EvZ_len]
  congr 1
  simp only [Nat.zero_mul, List.take_zero, List.nil_append, Nat.zero_add]
  congr 1
  rw [← List.replicate_append_replicate, List.flatten_append, List.drop_left' (by simp)]
theorem roomBEvZ (l : List gramL.Sym) (b : List Value) (hb : b.length = 2 * 2) : ((l.flatMap symC ++ (List.replicate 3 [Value.int .i64 0, Value.int .i64 0]).flatten).toArray.toList.take (l.length * 2) ++ b ++ (l.flatMap symC ++ (List.replicate 3 [Value.int .i64 0, Value.int .i64 0]).flatten).toArray.toList.drop (l.length * 2 + b.length)).toArray = (l.flatMap symC ++ b ++ [Value.int .i64 0, Value.int .i64 0]).toArray := by
  congr 1
  have h := len_el EvZ_len l
  rw [List.take_left' h, ← List.drop_drop, List.drop_left' h, hb]
  rfl
set_option maxHeartbeats 2000000 in
theorem roomyEvZ_calls (v : Value) (l : List gramL.Sym) (a : gramL.Sym) (w : World) (hs : Sl w v l.length (l.flatMap symC)) (hl : 16 * (l.length + 3) ≤ 281474976710656) (h1 : ∀ u ∈ symC a, u.oneCell' = true) :
    Calls Try.prog 47 #[v, (.agg (symC a).toArray)] w (Meets ⟨fun _ => True, fun (g : Nat) => .slice (some ⟨g, 0, none⟩) l.length (l.length + 3), fun g => [blkO g (l.flatMap symC ++ (symC a ++ symC a) ++ [Value.int .i64 0, Value.int .i64 0]).toArray 78]⟩ w) := by
  have hsl : ∀ L, SlL w L v l.length (l.flatMap symC) := fun L w' hm => hs.gr hm.below
  obtain ⟨base, cap, rfl, hcap, hmax, _⟩ := hs
  unfold maxLen at hmax
  refine enter (args := [.slice base l.length cap, (.agg (symC a).toArray)]) (n := 20) Try.func47 rfl rfl rfl ?_
  refine T_seq (T_region (TL_box rfl rfl rfl fun g0 => ?_))
  repeat (first
    | refine qv rfl (qp rfl) rfl rfl ?_ | refine TL_nil ?_ | refine E_then ?_ | refine qv rfl (qlen Und.eq rfl) rfl rfl ?_
    | refine qv rfl (rr_add64 rfl rfl (by omega) (by omega) rfl) rfl rfl ?_)
  (repeat refine T_seq ?_)
  refine T_midq (ι := Nat) (fun _ => True) (fun g => [(0, .slice base l.length cap), (5, .slice (some ⟨g, 0, none⟩) (l.length + 2) (l.length + 3))]) (fun g => [blkO g (l.flatMap symC ++ (symC a ++ symC a) ++ [Value.int .i64 0, Value.int .i64 0]).toArray 78]) ?_ ?_
  · refine T_ord ([blkO g0 (symC a).toArray 78]) (.calm 0 (.calm 1 (.calm 2 (.calm 4 (.calm 6 (.calm 7 (.two 3 (.two 5 (.one 8 (.one 9 (.calm 10 (.done)))) 8 (.one 5 (.one 9 (.calm 10 (.done))))) 8 (.one 3 (.one 5 (.one 9 (.calm 10 (.done)))))))))))) (sub_pick [0] (by decide) rfl) (by kernel_rfl) (by kernel_rfl) (by intro c a d v w h; cases d <;> exact h) ?_
    repeat (first
      | ((first | refine TW_plain rfl rfl ?_ | refine TW_gmet rfl rfl rfl rfl ?_); first | refine TN_val (qp rfl) rfl rfl ?_ | refine TN_val (rr_loadB (i := 0) TyC.ty rfl rfl rfl) rfl rfl ?_ | refine TN_val (qlen Und.eq rfl) rfl rfl ?_ | refine TN_val (rr_add64 rfl rfl (by omega) (by omega) rfl) rfl rfl ?_)
      | refine TW_done ?_)
    refine TW_two rfl rfl ?_ ?_
    · refine TL_makeB (m := 0) (cap := l.length + 3) rfl rfl (by omega) (by omega) (by omega) rfl fun g => ?_
      refine TW_on (sub_pick [0] (by decide) rfl) ?_
      refine TW_two rfl rfl ?_ ?_
      · refine TL_appBs (i := 1) (k := l.length) (cs' := (l.flatMap symC ++ (List.replicate 3 [Value.int .i64 0, Value.int .i64 0]).flatten).toArray) rfl rfl rfl (hsl _) (len_el EvZ_len l) (one_sym l) (by omega) (by rw [size_madeCells, len_el EvZ_len]; omega) (roomAEvZ l).symm rfl ?_
        refine TW_on (sub_pick [0] (by decide) rfl) ?_
        refine TW_one rfl (TL_litN (cs := (symC a ++ symC a).toArray) [(.agg (symC a).toArray), (.agg (symC a).toArray)] rfl rfl rfl (by intro v hv; simp only [List.mem_cons, List.not_mem_nil, or_false, or_self] at hv; subst hv; rfl) rfl rfl rfl fun g8 => TW_on (sub_pick [0] (by decide) rfl) ?_)
        refine TW_one rfl (TL_appB (i := 1) (k := 2) (ys := symC a ++ symC a) (cs' := (l.flatMap symC ++ (symC a ++ symC a) ++ [Value.int .i64 0, Value.int .i64 0]).toArray) rfl rfl rfl (fun w hm j u hj => by rw [addr_add, Nat.zero_add]; exact at_blk (i := 2) rfl (by simpa using hj) w hm) rfl (by intro u hu; rcases List.mem_append.1 hu with h | h <;> exact h1 u h) (by omega) (by simp [len_el EvZ_len, symC] <;> omega) (by rw [Nat.zero_add]; exact (roomBEvZ l _ rfl).symm) rfl (TW_on (sub_pick [0] (by decide) rfl) ?_))
        repeat (first
          | ((first | refine TW_plain rfl rfl ?_ | refine TW_gmet rfl rfl rfl rfl ?_); first | refine TN_val (qp rfl) rfl rfl ?_ | refine TN_val (qlen Und.eq rfl) rfl rfl ?_ | refine TN_val (rr_add64 rfl rfl (by omega) (by omega) rfl) rfl rfl ?_)
          | refine TW_done ?_)
        refine E_pick [1] (by decide) rfl ?_
        exact E_mid g trivial ⟨rfl, by rw [show l.length + 2 = 0 + l.length + 2 by omega]; rfl, trivial⟩ rfl
      · refine TL_litN (cs := (symC a ++ symC a).toArray) [(.agg (symC a).toArray), (.agg (symC a).toArray)] rfl rfl rfl (by intro v hv; simp only [List.mem_cons, List.not_mem_nil, or_false, or_self] at hv; subst hv; rfl) rfl rfl rfl fun g8 => ?_
        refine TW_on (sub_pick [0] (by decide) rfl) ?_
        refine TW_one rfl (TL_appBs (i := 1) (k := l.length) (cs' := (l.flatMap symC ++ (List.replicate 3 [Value.int .i64 0, Value.int .i64 0]).flatten).toArray) rfl rfl rfl (hsl _) (len_el EvZ_len l) (one_sym l) (by omega) (by rw [size_madeCells, len_el EvZ_len]; omega) (roomAEvZ l).symm rfl (TW_on (sub_pick [0] (by decide) rfl) ?_))
        refine TW_one rfl (TL_appB (i := 1) (k := 2) (ys := symC a ++ symC a) (cs' := (l.flatMap symC ++ (symC a ++ symC a) ++ [Value.int .i64 0, Value.int .i64 0]).toArray) rfl rfl rfl (fun w hm j u hj => by rw [addr_add, Nat.zero_add]; exact at_blk (i := 2) rfl (by simpa using hj) w hm) rfl (by intro u hu; rcases List.mem_append.1 hu with h | h <;> exact h1 u h) (by omega) (by simp [len_el EvZ_len, symC] <;> omega) (by rw [Nat.zero_add]; exact (roomBEvZ l _ rfl).symm) rfl (TW_on (sub_pick [0] (by decide) rfl) ?_))
        repeat (first
          | ((first | refine TW_plain rfl rfl ?_ | refine TW_gmet rfl rfl rfl rfl ?_); first | refine TN_val (qp rfl) rfl rfl ?_ | refine TN_val (qlen Und.eq rfl) rfl rfl ?_ | refine TN_val (rr_add64 rfl rfl (by omega) (by omega) rfl) rfl rfl ?_)
          | refine TW_done ?_)
        refine E_pick [1] (by decide) rfl ?_
        exact E_mid g trivial ⟨rfl, by rw [show l.length + 2 = 0 + l.length + 2 by omega]; rfl, trivial⟩ rfl
    · refine TL_litN (cs := (symC a ++ symC a).toArray) [(.agg (symC a).toArray), (.agg (symC a).toArray)] rfl rfl rfl (by intro v hv; simp only [List.mem_cons, List.not_mem_nil, or_false, or_self] at hv; subst hv; rfl) rfl rfl rfl fun g8 => ?_
      refine TW_on (sub_pick [0] (by decide) rfl) ?_
      refine TW_one rfl (TL_makeB (m := 0) (cap := l.length + 3) rfl rfl (by omega) (by omega) (by omega) rfl fun g => TW_on (sub_pick [0] (by decide) rfl) ?_)
      refine TW_one rfl (TL_appBs (i := 2) (k := l.length) (cs' := (l.flatMap symC ++ (List.replicate 3 [Value.int .i64 0, Value.int .i64 0]).flatten).toArray) rfl rfl rfl (hsl _) (len_el EvZ_len l) (one_sym l) (by omega) (by rw [size_madeCells, len_el EvZ_len]; omega) (roomAEvZ l).symm rfl (TW_on (sub_pick [0] (by decide) rfl) ?_))
      refine TW_one rfl (TL_appB (i := 2) (k := 2) (ys := symC a ++ symC a) (cs' := (l.flatMap symC ++ (symC a ++ symC a) ++ [Value.int .i64 0, Value.int .i64 0]).toArray) rfl rfl rfl (fun w hm j u hj => by rw [addr_add, Nat.zero_add]; exact at_blk (i := 1) rfl (by simpa using hj) w hm) rfl (by intro u hu; rcases List.mem_append.1 hu with h | h <;> exact h1 u h) (by omega) (by simp [len_el EvZ_len, symC] <;> omega) (by rw [Nat.zero_add]; exact (roomBEvZ l _ rfl).symm) rfl (TW_on (sub_pick [0] (by decide) rfl) ?_))
      repeat (first
        | ((first | refine TW_plain rfl rfl ?_ | refine TW_gmet rfl rfl rfl rfl ?_); first | refine TN_val (qp rfl) rfl rfl ?_ | refine TN_val (qlen Und.eq rfl) rfl rfl ?_ | refine TN_val (rr_add64 rfl rfl (by omega) (by omega) rfl) rfl rfl ?_)
        | refine TW_done ?_)
      refine E_pick [2] (by decide) rfl ?_
      exact E_mid g trivial ⟨rfl, by rw [show l.length + 2 = 0 + l.length + 2 by omega]; rfl, trivial⟩ rfl
  · intro g _
    repeat (first
      | refine qv rfl (qp rfl) rfl rfl ?_ | refine TL_nil ?_ | refine T_seq ?_ | refine T_region ?_ | refine T_ret ?_ | refine E_then ?_ | refine E_thenR ?_
      | refine qv rfl (rr_slpre Und.eq TyC.ty rfl rfl (by omega)) rfl rfl ?_ | refine qv rfl (qlen Und.eq rfl) rfl rfl ?_
      | refine qv rfl (rr_add64 rfl rfl (by omega) (by omega) rfl) rfl rfl ?_)
    exact E_ret1 rfl rfl fun w hm => hm.meets (S := ⟨fun _ => True, fun (g : Nat) => .slice (some ⟨g, 0, none⟩) l.length (l.length + 3), fun g => [blkO g (l.flatMap symC ++ (symC a ++ symC a) ++ [Value.int .i64 0, Value.int .i64 0]).toArray 78]⟩) g trivial [0] (by decide) rfl
set_option maxHeartbeats 2000000 in
theorem filledEvZ_calls (g cap : Nat) (l : List gramL.Sym) (a : gramL.Sym) (w : World) (hcap : l.length + 2 ≤ cap) (hmax : cap ≤ 9223372036854775807) (h : ∀ (j : Nat) (u : Value), (l.flatMap symC ++ (symC a ++ symC a))[j]? = some u → w.cell? ⟨g, j, none⟩ = some u) :
    Calls Try.prog 48 #[.slice (some ⟨g, 0, none⟩) l.length cap, (.agg (symC a).toArray)] w (Meets (ret (.bool true)) w) := by
  have hl2 : (l ++ [a, a]).flatMap symC = l.flatMap symC ++ (symC a ++ symC a) := by simp
  have hat : ∀ (L : List Own) (k : Nat) (hk : k < (l ++ [a, a]).length) (j : Nat) (u : Value), (symC (l ++ [a, a])[k])[j]? = some u → At w L ⟨g, 0 + k * 2 + j, none⟩ u := fun L k hk => at_elL EvZ_len (off := 0) (fun j u hj => by rw [Nat.zero_add]; exact at_old (h j u (by rw [← hl2]; exact hj))) hk
  have h0 := fun L => hat L l.length (by simp)
  have h1 := fun L => hat L (l.length + 1) (by simp)
  have e0 : (l ++ [a, a])[l.length]'(by simp) = a := by simp
  have e1 : (l ++ [a, a])[l.length + 1]'(by simp) = a := by simp
  rw [e0] at h0
  rw [e1] at h1
  clear hat e0 e1 hl2 h
  have heq := eq_evt a a
  rw [decide_eq_true rfl] at heq
  refine enter (args := [.slice (some ⟨g, 0, none⟩) l.length cap, (.agg (symC a).toArray)]) (n := 28) Try.func48 rfl rfl rfl ?_
  refine T_seq (T_region (TL_box rfl rfl rfl fun g0 => ?_))
  repeat (first
    | refine qv rfl (qp rfl) rfl rfl ?_ | refine TL_nil ?_ | refine T_seq ?_ | refine T_region ?_ | refine T_ret ?_ | refine E_then ?_ | refine E_thenR ?_
    | refine qs rfl rfl rfl rfl rfl rfl ?_
    | ((try refine qg rfl rfl rfl ?_); first | refine qv rfl (qp rfl) rfl rfl ?_ | refine qv rfl (rr_slpre (j := l.length + 2) Und.eq TyC.ty rfl rfl hcap) rfl rfl ?_ | refine qv rfl (qlen Und.eq rfl) rfl rfl ?_ | refine qv rfl (rr_add64 rfl rfl (by omega) (by omega) rfl) rfl rfl ?_))
  refine T_ord ([blkO g0 (symC a).toArray 78]) (.calm 0 (.calm 1 (.calm 2 (.calm 3 (.calm 4 (.calm 5 (.calm 6 (.calm 7 (.calm 8 (.calm 9 (.calm 10 (.calm 11 (.calm 12 (.calm 13 (.calm 14 (.calm 15 (.calm 16 (.calm 17 (.done))))))))))))))))))) (fun _ h => h) (by kernel_rfl) (by kernel_rfl) (by intro c a d v w h; cases d <;> exact h) ?_
  repeat (first
    | ((first | refine TW_plain rfl rfl ?_ | refine TW_gmet rfl rfl rfl rfl ?_); first | refine TN_val (qp rfl) rfl rfl ?_ | refine TN_val (rr_loadB (i := 0) TyC.ty rfl rfl rfl) rfl rfl ?_ | refine TN_val (rr_idxc (j := l.length) Und.eq TyC.ty rfl rfl (by omega)) rfl rfl ?_ | refine TN_val (rr_idxc (j := l.length + 1) Und.eq TyC.ty rfl rfl (by omega)) rfl rfl ?_ | refine TN_val (rr_loadN TyC.ty rfl rfl (h0 _)) rfl rfl ?_ | refine TN_val (rr_loadN TyC.ty rfl rfl (h1 _)) rfl rfl ?_ | refine TN_val (rr_aggeq rfl rfl (by kernel_rfl) heq) rfl rfl ?_ | refine TN_val (qlen Und.eq rfl) rfl rfl ?_ | refine TN_val (rr_add64 rfl rfl (by omega) (by omega) rfl) rfl rfl ?_)
    | refine TW_skip rfl rfl rfl rfl rfl rfl rfl ?_ | refine TW_done ?_)
  repeat (first
    | refine qv rfl (qp rfl) rfl rfl ?_ | refine TL_nil ?_ | refine T_seq ?_ | refine T_region ?_ | refine T_ret ?_ | refine E_then ?_ | refine E_thenR ?_
    | refine qs rfl rfl rfl rfl rfl rfl ?_
    | ((try refine qg rfl rfl rfl ?_); first | refine qv rfl (qp rfl) rfl rfl ?_ | refine qv rfl (qlen Und.eq rfl) rfl rfl ?_ | refine qv rfl (rr_add64 rfl rfl (by omega) (by omega) rfl) rfl rfl ?_))
  exact E_ret1 rfl rfl fun w hm => hm.ret
theorem spoilAEvZ (k cap : Nat) (a : gramL.Sym) (cs : Array Value) (hc : cs.size = cap * 2) (hk : k < cap) : (((List.replicate k (symC a)).flatten ++ cs.toList.drop (k * 2)).toArray.toList.take (k * 2) ++ (symC a).toArray.toList ++ ((List.replicate k (symC a)).flatten ++ cs.toList.drop (k * 2)).toArray.toList.drop (k * 2 + 2)).toArray = ((List.replicate (k + 1) (symC a)).flatten ++ cs.toList.drop ((k + 1) * 2)).toArray := by
  congr 1
  have h : ((List.replicate k (symC a)).flatten).length = k * 2 := by simp [symC]
  simp only []
  rw [List.take_left' h, ← List.drop_drop, List.drop_left' h, List.replicate_succ', List.flatten_append, List.drop_drop]
  simp [Nat.add_mul]
set_option maxHeartbeats 2000000 in
theorem spoilEvZ_calls (g n cap : Nat) (cs : Array Value) (a : gramL.Sym) (w : World) (B : Base) (hn : n ≤ cap) (hmax : cap ≤ 9223372036854775807) (hc : cs.size = cap * 2) (h1 : (symC a).all Value.oneCell' = true) (hm : Mem B [blkO g cs 78] w) :
    Calls Try.prog 49 #[.slice (some ⟨g, 0, none⟩) n cap, (.agg (symC a).toArray)] w (MeetsB ⟨fun (_ : Unit) => True, fun _ => .tuple #[], fun _ => [blkO g ((List.replicate cap (symC a)).flatten).toArray 78]⟩ B) := by
  refine enterB hm (args := [.slice (some ⟨g, 0, none⟩) n cap, (.agg (symC a).toArray)]) (n := 19) Try.func49 rfl rfl rfl ?_
  refine T_seq (T_region (TL_box rfl rfl rfl fun g0 => ?_))
  repeat (first
    | refine qv rfl (qp rfl) rfl rfl ?_ | refine TL_nil ?_ | refine T_seq ?_ | refine T_region ?_ | refine qcT rfl ?_ | refine qcF rfl ?_ | refine T_skip ?_
    | refine T_exit ?_ | refine T_block ?_ | refine E_then ?_ | refine E_thenX ?_ | refine E_thenR ?_ | refine E_blockN ?_ | refine E_blockR ?_
    | refine E_blockX ?_ | refine E_blockO rfl ?_ | refine qv rfl (rr_cap Und.eq rfl) rfl rfl ?_
    | refine qv rfl (rr_slpre Und.eq TyC.ty rfl rfl (Nat.le_refl cap)) rfl rfl ?_ | refine qv rfl (qlen Und.eq rfl) rfl rfl ?_
    | refine qv rfl (rr_lss rfl rfl (qT (by omega))) rfl rfl ?_ | refine qv rfl (rr_lss rfl rfl (qF (by omega))) rfl rfl ?_
    | refine qv rfl (rr_add64 rfl rfl (by omega) (by omega) rfl) rfl rfl ?_)
  refine T_loop (ι := Nat) (fun k => k ≤ cap) (fun k => [(0, .slice (some ⟨g, 0, none⟩) cap cap), (3, .pointer (some ⟨g0, 0, none⟩)), (10, .int .i64 cap), (11, .int .i64 (k : Int))]) (fun k => [blkO g ((List.replicate k (symC a)).flatten ++ cs.toList.drop (k * 2)).toArray 78, blkO g0 (symC a).toArray 78]) (fun k => cap - k) 0 (Nat.zero_le _) (by repeat' (first | exact True.intro | refine And.intro rfl ?_)) (by simp; rfl) ?_
  intro k hk
  by_cases c1 : k < cap
  · have hsz : ((List.replicate k (symC a)).flatten ++ cs.toList.drop (k * 2)).toArray.size = cap * 2 := by simp [hc, symC]; omega
    repeat (first
      | refine qv rfl (qp rfl) rfl rfl ?_ | refine TL_nil ?_ | refine T_seq ?_ | refine T_region ?_ | refine qcT rfl ?_ | refine qcF rfl ?_ | refine T_skip ?_
      | refine T_exit ?_ | refine T_block ?_ | refine E_then ?_ | refine E_thenX ?_ | refine E_thenR ?_ | refine E_blockN ?_ | refine E_blockR ?_
      | refine E_blockX ?_ | refine E_blockO rfl ?_ | refine qv rfl (rr_loadB (i := 1) TyC.ty rfl rfl rfl) rfl rfl ?_
      | refine qv rfl (rr_idxc Und.eq TyC.ty rfl rfl c1) rfl rfl ?_ | refine qv rfl (qlen Und.eq rfl) rfl rfl ?_
      | refine qv rfl (rr_lss rfl rfl (qT (by omega))) rfl rfl ?_ | refine qv rfl (rr_lss rfl rfl (qF (by omega))) rfl rfl ?_
      | refine qv rfl (rr_add64 rfl rfl (by omega) (by omega) rfl) rfl rfl ?_)
    refine TL_store (i := 0) (cs' := ((List.replicate (k + 1) (symC a)).flatten ++ cs.toList.drop ((k + 1) * 2)).toArray) TyC.ty rfl rfl rfl rfl (show ((symC a).toArray.toList.all Value.oneCell') = true by simpa using h1) (by rw [hsz]; omega) (by rw [Nat.zero_add]; exact (spoilAEvZ k cap a cs hc c1).symm) ?_
    repeat (first
      | refine qv rfl (qp rfl) rfl rfl ?_ | refine TL_nil ?_ | refine T_seq ?_ | refine T_region ?_ | refine qcT rfl ?_ | refine qcF rfl ?_ | refine T_skip ?_
      | refine T_exit ?_ | refine T_block ?_ | refine E_then ?_ | refine E_thenX ?_ | refine E_thenR ?_ | refine E_blockN ?_ | refine E_blockR ?_
      | refine E_blockX ?_ | refine E_blockO rfl ?_ | refine qv rfl (qlen Und.eq rfl) rfl rfl ?_ | refine qv rfl (rr_lss rfl rfl (qT (by omega))) rfl rfl ?_
      | refine qv rfl (rr_lss rfl rfl (qF (by omega))) rfl rfl ?_ | refine qv rfl (rr_add64 rfl rfl (by omega) (by omega) rfl) rfl rfl ?_)
    exact E_round (k + 1) (by omega) (by show cap - (k + 1) < cap - k; omega) (by repeat' (first | exact True.intro | refine And.intro rfl ?_)) rfl
  · obtain rfl : k = cap := by omega
    repeat (first
      | refine qv rfl (qp rfl) rfl rfl ?_ | refine TL_nil ?_ | refine T_seq ?_ | refine T_region ?_ | refine qcT rfl ?_ | refine qcF rfl ?_ | refine T_skip ?_
      | refine T_exit ?_ | refine T_block ?_ | refine E_then ?_ | refine E_thenX ?_ | refine E_thenR ?_ | refine E_blockN ?_ | refine E_blockR ?_
      | refine E_blockX ?_ | refine E_blockO rfl ?_ | refine qv rfl (qlen Und.eq rfl) rfl rfl ?_ | refine qv rfl (rr_lss rfl rfl (qT (by omega))) rfl rfl ?_
      | refine qv rfl (rr_lss rfl rfl (qF (by omega))) rfl rfl ?_ | refine qv rfl (rr_add64 rfl rfl (by omega) (by omega) rfl) rfl rfl ?_)
    refine E_end0 rfl fun w hm => hm.meetsB (S := ⟨fun (_ : Unit) => True, fun _ => .tuple #[], fun _ => [blkO g ((List.replicate k (symC a)).flatten).toArray 78]⟩) () trivial [0] (by decide) (by simp only [List.drop_of_length_le (show cs.toList.length ≤ k * 2 by simp [hc]), List.append_nil]; rfl)
theorem spoilNilEvZ_calls (a : gramL.Sym) (w : World) : Calls Try.prog 49 #[.slice none 0 0, (.agg (symC a).toArray)] w (Meets (ret (.tuple #[])) w) := by
  refine enter (args := [.slice none 0 0, (.agg (symC a).toArray)]) (n := 19) Try.func49 rfl rfl rfl ?_
  refine T_seq (T_region (TL_box rfl rfl rfl fun g0 => ?_))
  repeat (first
    | refine qv rfl (qp rfl) rfl rfl ?_ | refine TL_nil ?_ | refine T_seq ?_ | refine T_region ?_ | refine qcT rfl ?_ | refine qcF rfl ?_ | refine T_skip ?_
    | refine T_exit ?_ | refine T_block ?_ | refine E_then ?_ | refine E_thenX ?_ | refine E_thenR ?_ | refine E_blockN ?_ | refine E_blockR ?_
    | refine E_blockX ?_ | refine E_blockO rfl ?_ | refine qv rfl (rr_cap Und.eq rfl) rfl rfl ?_
    | refine qv rfl (rr_slpre (j := 0) Und.eq TyC.ty rfl rfl (Nat.le_refl 0)) rfl rfl ?_ | refine qv rfl (qlen Und.eq rfl) rfl rfl ?_
    | refine qv rfl (rr_lss rfl rfl (qT (by omega))) rfl rfl ?_ | refine qv rfl (rr_lss rfl rfl (qF (by omega))) rfl rfl ?_
    | refine qv rfl (rr_add64 rfl rfl (by omega) (by omega) rfl) rfl rfl ?_)
  refine T_loop (ι := Unit) (fun _ => True) (fun _ => [(10, .int .i64 0), (11, .int .i64 0)]) (fun _ => [blkO g0 (symC a).toArray 78]) (fun _ => 0) () trivial (by repeat' (first | exact True.intro | refine And.intro rfl ?_)) rfl ?_
  intro _ _
  repeat (first
    | refine qv rfl (qp rfl) rfl rfl ?_ | refine TL_nil ?_ | refine T_seq ?_ | refine T_region ?_ | refine qcT rfl ?_ | refine qcF rfl ?_ | refine T_skip ?_
    | refine T_exit ?_ | refine T_block ?_ | refine E_then ?_ | refine E_thenX ?_ | refine E_thenR ?_ | refine E_blockN ?_ | refine E_blockR ?_
    | refine E_blockX ?_ | refine E_blockO rfl ?_ | refine qv rfl (qlen Und.eq rfl) rfl rfl ?_ | refine qv rfl (rr_lss rfl rfl (qT (by omega))) rfl rfl ?_
    | refine qv rfl (rr_lss rfl rfl (qF (by omega))) rfl rfl ?_ | refine qv rfl (rr_add64 rfl rfl (by omega) (by omega) rfl) rfl rfl ?_)
  exact E_end0 rfl fun w hm => hm.ret
end Go.Proofs.Ytnicebdkejkieaa.eng
