/- Functions of package slices at int (printed by program). -/
import Derived.Test.YtbiacehgfmgfdaaMgB
namespace Go.Proofs.Ytbiacehgfmgfdaa.eng
open Go.RowKit kit mix
theorem SmIr_len (a : Int) : (kit.intC a).length = 1 := rfl
theorem SmIr_one (a : Int) : kit.intC a = [((kit.intC a).headD undef)] := rfl
theorem roomASmIr (l : List Int) : ((madeCells #[Value.int .i64 0] ((l.length + 3) * 1)).toList.take (0 * 1) ++ l.flatMap kit.intC ++ (madeCells #[Value.int .i64 0] ((l.length + 3) * 1)).toList.drop (0 * 1 + (l.flatMap kit.intC).length)).toArray = (l.flatMap kit.intC ++ (List.replicate 3 [Value.int .i64 0]).flatten).toArray := by
  rw [madeC (k := 1) rfl (by decide), len_el SmIr_len]
  congr 1
  simp only [Nat.zero_mul, List.take_zero, List.nil_append, Nat.zero_add]
  congr 1
  rw [← List.replicate_append_replicate, List.flatten_append, List.drop_left' (by simp)]
theorem roomBSmIr (l : List Int) (b : List Value) (hb : b.length = 2 * 1) : ((l.flatMap kit.intC ++ (List.replicate 3 [Value.int .i64 0]).flatten).toArray.toList.take (l.length * 1) ++ b ++ (l.flatMap kit.intC ++ (List.replicate 3 [Value.int .i64 0]).flatten).toArray.toList.drop (l.length * 1 + b.length)).toArray = (l.flatMap kit.intC ++ b ++ [Value.int .i64 0]).toArray := by
  congr 1
  have h := len_el SmIr_len l
  rw [List.take_left' h, ← List.drop_drop, List.drop_left' h, hb]
  rfl
set_option maxHeartbeats 2000000 in
theorem roomySmIr_calls (v : Value) (l : List Int) (a : Int) (w : World) (hs : Sl w v l.length (l.flatMap kit.intC)) (hl : 8 * (l.length + 3) ≤ 281474976710656) :
    Calls Try.prog 20 #[v, .int .i64 a] w (Meets ⟨fun _ => True, fun (g : Nat) => .slice (some ⟨g, 0, none⟩) l.length (l.length + 3), fun g => [blkO g (l.flatMap kit.intC ++ (kit.intC a ++ kit.intC a) ++ [Value.int .i64 0]).toArray 3]⟩ w) := by
  have hsl : ∀ L, SlL w L v l.length (l.flatMap kit.intC) := fun L w' hm => hs.gr hm.below
  obtain ⟨base, cap, rfl, hcap, hmax, _⟩ := hs
  unfold maxLen at hmax
  refine enter (args := [.slice base l.length cap, .int .i64 a]) (n := 20) Try.func20 rfl rfl rfl ?_
  repeat (first
    | refine qv rfl (qp rfl) rfl rfl ?_ | refine TL_nil ?_ | refine T_seq ?_ | refine T_region ?_ | refine T_ret ?_ | refine E_then ?_ | refine E_thenR ?_
    | refine qv rfl (qlen Und.eq rfl) rfl rfl ?_ | refine qv rfl (rr_add64 rfl rfl (by omega) (by omega) rfl) rfl rfl ?_)
  refine TL_makeB (m := 0) (cap := l.length + 3) rfl rfl (by omega) (by omega) (by omega) rfl fun g => ?_
  conv => arg 8; simp only [zA, zB, zC, zD, zE, zF, zG, zH, zI, rowS, ret, id_eq]
  repeat (first
    | refine qv rfl (qp rfl) rfl rfl ?_ | refine TL_nil ?_ | refine T_seq ?_ | refine T_region ?_ | refine T_ret ?_ | refine E_then ?_ | refine E_thenR ?_
    | refine qv rfl (qlen Und.eq rfl) rfl rfl ?_ | refine qv rfl (rr_add64 rfl rfl (by omega) (by omega) rfl) rfl rfl ?_)
  refine TL_appBs (i := 0) (k := l.length) (cs' := (l.flatMap kit.intC ++ (List.replicate 3 [Value.int .i64 0]).flatten).toArray) rfl rfl rfl (hsl _) (len_el SmIr_len l) (one_int l) (by omega) (by rw [size_madeCells, len_el SmIr_len]; omega) (roomASmIr l).symm rfl ?_
  conv => arg 8; simp only [zA, zB, zC, zD, zE, zF, zG, zH, zI, rowS, ret, id_eq]
  repeat (first
    | refine qv rfl (qp rfl) rfl rfl ?_ | refine TL_nil ?_ | refine T_seq ?_ | refine T_region ?_ | refine T_ret ?_ | refine E_then ?_ | refine E_thenR ?_
    | refine qv rfl (qlen Und.eq rfl) rfl rfl ?_ | refine qv rfl (rr_add64 rfl rfl (by omega) (by omega) rfl) rfl rfl ?_)
  refine TL_litN (cs := (kit.intC a ++ kit.intC a).toArray) [.int .i64 a, .int .i64 a] rfl rfl rfl (by intro v hv; simp only [List.mem_cons, List.not_mem_nil, or_false, or_self] at hv; subst hv; rfl) rfl rfl rfl fun g8 => ?_
  refine TL_appB (i := 0) (k := 2) (ys := kit.intC a ++ kit.intC a) (cs' := (l.flatMap kit.intC ++ (kit.intC a ++ kit.intC a) ++ [Value.int .i64 0]).toArray) rfl rfl rfl (fun w hm j u hj => by rw [addr_add, Nat.zero_add]; exact at_blk (i := 1) rfl (by simpa using hj) w hm) rfl (by intro u hu; simp only [kit.intC, List.cons_append, List.nil_append, List.mem_cons, List.not_mem_nil, or_false, or_self] at hu; subst hu; rfl) (by omega) (by rw [List.size_toArray, List.length_append, List.length_append, len_el SmIr_len]; show (0 + l.length) * 1 + 2 ≤ l.length * 1 + 3; omega) (by rw [show 0 + l.length = l.length by omega]; exact (roomBSmIr l (kit.intC a ++ kit.intC a) rfl).symm) rfl ?_
  conv => arg 8; simp only [zA, zB, zC, zD, zE, zF, zG, zH, zI, rowS, ret, id_eq]
  repeat (first
    | refine qv rfl (qp rfl) rfl rfl ?_ | refine TL_nil ?_ | refine T_seq ?_ | refine T_region ?_ | refine T_ret ?_ | refine E_then ?_ | refine E_thenR ?_
    | refine qv rfl (rr_slpre Und.eq TyC.ty rfl rfl (by omega)) rfl rfl ?_ | refine qv rfl (qlen Und.eq rfl) rfl rfl ?_
    | refine qv rfl (rr_add64 rfl rfl (by omega) (by omega) rfl) rfl rfl ?_)
  exact E_ret1 rfl rfl fun w hm => hm.meets (S := ⟨fun _ => True, fun (g : Nat) => .slice (some ⟨g, 0, none⟩) l.length (l.length + 3), fun g => [blkO g (l.flatMap kit.intC ++ (kit.intC a ++ kit.intC a) ++ [Value.int .i64 0]).toArray 3]⟩) g trivial [0] (by decide) rfl
set_option maxHeartbeats 2000000 in
theorem filledSmIr_calls (g cap : Nat) (l : List Int) (a : Int) (w : World) (hcap : l.length + 2 ≤ cap) (hmax : cap ≤ 9223372036854775807) (h : ∀ (j : Nat) (u : Value), (l.flatMap kit.intC ++ (kit.intC a ++ kit.intC a))[j]? = some u → w.cell? ⟨g, j, none⟩ = some u) :
    Calls Try.prog 22 #[.slice (some ⟨g, 0, none⟩) l.length cap, .int .i64 a] w (Meets (ret (.bool true)) w) := by
  have hl2 : (l ++ [a, a]).flatMap kit.intC = l.flatMap kit.intC ++ (kit.intC a ++ kit.intC a) := by simp
  have hat : ∀ (L : List Own) (k : Nat) (hk : k < (l ++ [a, a]).length) (j : Nat) (u : Value), (kit.intC (l ++ [a, a])[k])[j]? = some u → At w L ⟨g, 0 + k * 1 + j, none⟩ u := fun L k hk => at_elL SmIr_len (off := 0) (fun j u hj => by rw [Nat.zero_add]; exact at_old (h j u (by rw [← hl2]; exact hj))) hk
  have h0 := fun L => hat L l.length (by simp) 0 _ rfl
  have h1 := fun L => hat L (l.length + 1) (by simp) 0 _ rfl
  have e0 : (l ++ [a, a])[l.length]'(by simp) = a := by simp
  have e1 : (l ++ [a, a])[l.length + 1]'(by simp) = a := by simp
  rw [e0] at h0
  rw [e1] at h1
  clear hat e0 e1 hl2 h
  refine enter (args := [.slice (some ⟨g, 0, none⟩) l.length cap, .int .i64 a]) (n := 28) Try.func22 rfl rfl rfl ?_
  repeat (first
    | refine qv rfl (qp rfl) rfl rfl ?_ | refine TL_nil ?_ | refine T_seq ?_ | refine T_region ?_ | refine T_ret ?_ | refine E_then ?_ | refine E_thenR ?_
    | refine qs rfl rfl rfl rfl rfl rfl ?_
    | ((try refine qg rfl rfl rfl ?_); first | refine qv rfl (qp rfl) rfl rfl ?_ | refine qv rfl (rr_slpre (j := l.length + 2) Und.eq TyC.ty rfl rfl hcap) rfl rfl ?_ | refine qv rfl (rr_idxc (j := l.length) Und.eq TyC.ty rfl rfl (by omega)) rfl rfl ?_ | refine qv rfl (rr_idxc (j := l.length + 1) Und.eq TyC.ty rfl rfl (by omega)) rfl rfl ?_ | refine qv rfl (rr_load1 TyC.ty rfl (h0 _)) rfl rfl ?_ | refine qv rfl (rr_load1 TyC.ty rfl (h1 _)) rfl rfl ?_ | refine qv rfl (rr_eql (b := true) rfl rfl (decide_eq_true rfl)) rfl rfl ?_ | refine qv rfl (qlen Und.eq rfl) rfl rfl ?_ | refine qv rfl (rr_eql rfl rfl (qT (by omega))) rfl rfl ?_ | refine qv rfl (rr_eql rfl rfl (qF (by omega))) rfl rfl ?_ | refine qv rfl (rr_add64 rfl rfl (by omega) (by omega) rfl) rfl rfl ?_))
  exact E_ret1 rfl rfl fun w hm => hm.ret
theorem spoilASmIr (k cap : Nat) (a : Int) (cs : Array Value) (hc : cs.size = cap * 1) (hk : k < cap) : (((List.replicate k (kit.intC a)).flatten ++ cs.toList.drop (k * 1)).toArray.toList.take (k * 1) ++ (kit.intC a).toArray.toList ++ ((List.replicate k (kit.intC a)).flatten ++ cs.toList.drop (k * 1)).toArray.toList.drop (k * 1 + 1)).toArray = ((List.replicate (k + 1) (kit.intC a)).flatten ++ cs.toList.drop ((k + 1) * 1)).toArray := by
  congr 1
  have h : ((List.replicate k (kit.intC a)).flatten).length = k * 1 := by simp [kit.intC]
  simp only []
  rw [List.take_left' h, ← List.drop_drop, List.drop_left' h, List.replicate_succ', List.flatten_append, List.drop_drop]
  simp [Nat.add_mul]
set_option maxHeartbeats 2000000 in
theorem spoilSmIr_calls (g n cap : Nat) (cs : Array Value) (a : Int) (w : World) (B : Base) (hn : n ≤ cap) (hmax : cap ≤ 9223372036854775807) (hc : cs.size = cap * 1) (h1 : (kit.intC a).all Value.oneCell' = true) (hm : Mem B [blkO g cs 3] w) :
    Calls Try.prog 26 #[.slice (some ⟨g, 0, none⟩) n cap, .int .i64 a] w (MeetsB ⟨fun (_ : Unit) => True, fun _ => .tuple #[], fun _ => [blkO g ((List.replicate cap (kit.intC a)).flatten).toArray 3]⟩ B) := by
  refine enterB hm (args := [.slice (some ⟨g, 0, none⟩) n cap, .int .i64 a]) (n := 19) Try.func26 rfl rfl rfl ?_
  repeat (first
    | refine qv rfl (qp rfl) rfl rfl ?_ | refine TL_nil ?_ | refine T_seq ?_ | refine T_region ?_ | refine qcT rfl ?_ | refine qcF rfl ?_ | refine T_skip ?_
    | refine T_exit ?_ | refine T_block ?_ | refine E_then ?_ | refine E_thenX ?_ | refine E_thenR ?_ | refine E_blockN ?_ | refine E_blockR ?_
    | refine E_blockX ?_ | refine E_blockO rfl ?_ | refine qv rfl (rr_cap Und.eq rfl) rfl rfl ?_
    | refine qv rfl (rr_slpre Und.eq TyC.ty rfl rfl (Nat.le_refl cap)) rfl rfl ?_ | refine qv rfl (qlen Und.eq rfl) rfl rfl ?_
    | refine qv rfl (rr_lss rfl rfl (qT (by omega))) rfl rfl ?_ | refine qv rfl (rr_lss rfl rfl (qF (by omega))) rfl rfl ?_
    | refine qv rfl (rr_add64 rfl rfl (by omega) (by omega) rfl) rfl rfl ?_)
  refine T_loop (ι := Nat) (fun k => k ≤ cap) (fun k => [(0, .slice (some ⟨g, 0, none⟩) cap cap), (1, .int .i64 a), (10, .int .i64 cap), (11, .int .i64 (k : Int))]) (fun k => [blkO g ((List.replicate k (kit.intC a)).flatten ++ cs.toList.drop (k * 1)).toArray 3]) (fun k => cap - k) 0 (Nat.zero_le _) (by repeat' (first | exact True.intro | refine And.intro rfl ?_)) (by simp) ?_
  intro k hk
  by_cases c1 : k < cap
  · have hsz : ((List.replicate k (kit.intC a)).flatten ++ cs.toList.drop (k * 1)).toArray.size = cap * 1 := by simp [hc, kit.intC]; omega
    repeat (first
      | refine qv rfl (qp rfl) rfl rfl ?_ | refine TL_nil ?_ | refine T_seq ?_ | refine T_region ?_ | refine qcT rfl ?_ | refine qcF rfl ?_ | refine T_skip ?_
      | refine T_exit ?_ | refine T_block ?_ | refine E_then ?_ | refine E_thenX ?_ | refine E_thenR ?_ | refine E_blockN ?_ | refine E_blockR ?_
      | refine E_blockX ?_ | refine E_blockO rfl ?_ | refine qv rfl (rr_idxc Und.eq TyC.ty rfl rfl c1) rfl rfl ?_ | refine qv rfl (qlen Und.eq rfl) rfl rfl ?_
      | refine qv rfl (rr_lss rfl rfl (qT (by omega))) rfl rfl ?_ | refine qv rfl (rr_lss rfl rfl (qF (by omega))) rfl rfl ?_
      | refine qv rfl (rr_add64 rfl rfl (by omega) (by omega) rfl) rfl rfl ?_)
    refine TL_store (i := 0) (cs' := ((List.replicate (k + 1) (kit.intC a)).flatten ++ cs.toList.drop ((k + 1) * 1)).toArray) TyC.ty rfl rfl rfl rfl (show ((kit.intC a).toArray.toList.all Value.oneCell') = true by simpa using h1) (by rw [hsz]; omega) (by rw [Nat.zero_add]; exact (spoilASmIr k cap a cs hc c1).symm) ?_
    repeat (first
      | refine qv rfl (qp rfl) rfl rfl ?_ | refine TL_nil ?_ | refine T_seq ?_ | refine T_region ?_ | refine qcT rfl ?_ | refine qcF rfl ?_ | refine T_skip ?_
      | refine T_exit ?_ | refine T_block ?_ | refine E_then ?_ | refine E_thenX ?_ | refine E_thenR ?_ | refine E_blockN ?_ | refine E_blockR ?_
      | refine E_blockX ?_ | refine E_blockO rfl ?_ | refine qv rfl (qlen Und.eq rfl) rfl rfl ?_ | refine qv rfl (rr_lss rfl rfl (qT (by omega))) rfl rfl ?_
      | refine qv rfl (rr_lss rfl rfl (qF (by omega))) rfl rfl ?_ | refine qv rfl (rr_add64 rfl rfl (by omega) (by omega) rfl) rfl rfl ?_)
    exact E_round (k + 1) (by omega) (by show cap - (k + 1) < cap - k; omega) (by repeat' (first | exact True.intro | refine And.intro rfl ?_)) rfl
  · obtain rfl : k = cap := by omega
    repeat (first
      | refine qv rfl (qp rfl) rfl rfl ?_ | refine TL_nil ?_ | refine T_seq ?_ | refine T_region ?_ | refine qcT rfl ?_ | refine qcF rfl ?_ | refine T_skip ?_
      | refine T_exit ?_ | refine T_block ?_ | refine E_then ?_ | refine E_thenX ?_ | refine E_thenR ?_ | refine E_blockN ?_ | refine E_blockR ?_
      | refine E_blockX ?_ | refine E_blockO rfl ?_ | refine qv rfl (qlen Und.eq rfl) rfl rfl ?_ | refine qv rfl (rr_lss rfl rfl (qT (by omega))) rfl rfl ?_
      | refine qv rfl (rr_lss rfl rfl (qF (by omega))) rfl rfl ?_ | refine qv rfl (rr_add64 rfl rfl (by omega) (by omega) rfl) rfl rfl ?_)
    refine E_end0 rfl fun w hm => hm.meetsB (S := ⟨fun (_ : Unit) => True, fun _ => .tuple #[], fun _ => [blkO g ((List.replicate k (kit.intC a)).flatten).toArray 3]⟩) () trivial [0] (by decide) (by simp only [List.drop_of_length_le (show cs.toList.length ≤ k * 1 by simp [hc]), List.append_nil]; rfl)
theorem spoilNilSmIr_calls (a : Int) (w : World) : Calls Try.prog 26 #[.slice none 0 0, .int .i64 a] w (Meets (ret (.tuple #[])) w) := by
  refine enter (args := [.slice none 0 0, .int .i64 a]) (n := 19) Try.func26 rfl rfl rfl ?_
  repeat (first
    | refine qv rfl (qp rfl) rfl rfl ?_ | refine TL_nil ?_ | refine T_seq ?_ | refine T_region ?_ | refine qcT rfl ?_ | refine qcF rfl ?_ | refine T_skip ?_
    | refine T_exit ?_ | refine T_block ?_ | refine E_then ?_ | refine E_thenX ?_ | refine E_thenR ?_ | refine E_blockN ?_ | refine E_blockR ?_
    | refine E_blockX ?_ | refine E_blockO rfl ?_ | refine qv rfl (rr_cap Und.eq rfl) rfl rfl ?_
    | refine qv rfl (rr_slpre (j := 0) Und.eq TyC.ty rfl rfl (Nat.le_refl 0)) rfl rfl ?_ | refine qv rfl (qlen Und.eq rfl) rfl rfl ?_
    | refine qv rfl (rr_lss rfl rfl (qT (by omega))) rfl rfl ?_ | refine qv rfl (rr_lss rfl rfl (qF (by omega))) rfl rfl ?_
    | refine qv rfl (rr_add64 rfl rfl (by omega) (by omega) rfl) rfl rfl ?_)
  refine T_loop (ι := Unit) (fun _ => True) (fun _ => [(10, .int .i64 0), (11, .int .i64 0)]) (fun _ => []) (fun _ => 0) () trivial (by repeat' (first | exact True.intro | refine And.intro rfl ?_)) rfl ?_
  intro _ _
  repeat (first
    | refine qv rfl (qp rfl) rfl rfl ?_ | refine TL_nil ?_ | refine T_seq ?_ | refine T_region ?_ | refine qcT rfl ?_ | refine qcF rfl ?_ | refine T_skip ?_
    | refine T_exit ?_ | refine T_block ?_ | refine E_then ?_ | refine E_thenX ?_ | refine E_thenR ?_ | refine E_blockN ?_ | refine E_blockR ?_
    | refine E_blockX ?_ | refine E_blockO rfl ?_ | refine qv rfl (qlen Und.eq rfl) rfl rfl ?_ | refine qv rfl (rr_lss rfl rfl (qT (by omega))) rfl rfl ?_
    | refine qv rfl (rr_lss rfl rfl (qF (by omega))) rfl rfl ?_ | refine qv rfl (rr_add64 rfl rfl (by omega) (by omega) rfl) rfl rfl ?_)
  exact E_end0 rfl fun w hm => hm.ret
end Go.Proofs.Ytbiacehgfmgfdaa.eng
