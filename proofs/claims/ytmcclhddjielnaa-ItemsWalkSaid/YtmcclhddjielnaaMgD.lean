/- Part 4 of what ItemsWalk needs: ItD, OrdK, SortJ, ItE, OrdJ, ClassL, RexL, RexS, PlN, ClassB, PlR, ItF, ItH, ItG, ItS, ItQ, ItT, ItN, StrK, MapN, ItO, ItA, ItJ, ItR, Els. -/
import Derived.Test.YtmcclhddjielnaaMgC
import Derived.WalkKit
import Derived.WalkSpells
import Derived.WalkLawsBesides
import Derived.Deep.RegionLaw
import Derived.Deep.AppendLies
import Derived.Deep.QuietTactic
import Derived.BigQuiet
import Derived.Deep.DeepCutAuto
import Derived.Lib.Hide
import Derived.Test.YtmcclhddjielnaaRows
import Derived.ProofKit
import Derived.OpenShut
import Derived.ShutString
import Derived.SizedLaws
import Derived.JoinedCond
import Derived.Deep.CondSized
import Derived.Deep.Quiet
import Derived.StillTail
import Derived.Deep.LoopGhost
import Derived.Laws.BitsLemmas
import Derived.Laws.BytesString
import Derived.Test.YtmcclhddjielnaaProg
import Derived.Laws.StructEq
import Derived.Laws.MakeOwn
import Derived.Laws.AppendOwn
import Derived.Laws.Entries
import Derived.Maps.OwnSet
import Derived.DeepKeys4
import Derived.WideKeyEntry
import Derived.Sort.Grow
import Derived.Lib.Walk
import Derived.Deep.RegionWith
import Derived.Shelf.SlGeneric
import Derived.Shelf.SlSortCmp.NoneTotal
import Derived.Ground.SlsfProg
import Derived.Deep.RegionHeld
import Derived.Laws.BitsAllLaws
import Derived.StringKeys
/- ItD -/
namespace Go.Proofs.Ytmcclhddjielnaa.eng
open Go.RowKit kit mix gramL treeL factsL itemL smallL
def itCnt (c : itemL.Item → Nat) (x : itemL.Item) : Value := .int .i64 (c x : Int)
def itUp (c : itemL.Item → Nat) (it : itemL.Item) (x : itemL.Item) : Nat := if x = it then c x + 1 else c x
/-- how often each was handed in, and what is told -/
structure PutOk (c : itemL.Item → Nat) (out : List itemL.Item) (b : Nat) : Prop where
  zero : ∀ x, c x = 0 ↔ x ∉ out
  le : ∀ x, c x ≤ b
theorem PutOk.put {c : itemL.Item → Nat} {out : List itemL.Item} {b : Nat} (h : PutOk c out b) (it : itemL.Item) : PutOk (itUp c it) (more out it) (b + 2) := by
  refine ⟨fun x => ?_, fun x => ?_⟩
  · unfold itUp
    by_cases e : x = it
    · subst e
      rw [if_pos rfl]
      constructor
      · intro h; omega
      · intro h; exact absurd (mem_more.2 (.inr rfl)) h
    · rw [if_neg e, h.zero x]
      rw [mem_more]
      constructor
      · intro h1 h2; exact h2.elim h1 e
      · intro h1 h2; exact h1 (.inl h2)
  · unfold itUp
    have := h.le x
    split <;> omega
def putL (g5 gm g6 b : Nat) (v : Value) (c : itemL.Item → Nat) (out : List itemL.Item) : List Own :=
  [blkO g5 #[.map (some gm)] 70, mapT itK gm (.int .i64 0) (itCnt c) b, blkO g6 #[v] 25, rowO 31 3 v out.length (out.flatMap itC)]
theorem it_oneC (x : itemL.Item) : ∀ u ∈ itC x, u.oneCell' = true := by
  intro u hu
  simp only [itC, List.mem_cons, List.not_mem_nil, or_false] at hu
  rcases hu with rfl | rfl | rfl <;> rfl
set_option maxHeartbeats 2000000 in
theorem itPut_calls (g5 gm g6 b : Nat) (v : Value) (c : itemL.Item → Nat) (out : List itemL.Item) (it : itemL.Item) (hit : itK.ok it) (hp : PutOk c out b) (hb : b + 2 ≤ 1152921504606846976) (ho : out.length + 1 ≤ 1000000) (w : World) (B : Base) (hm : Mem B (putL g5 gm g6 b v c out) w) :
    Calls Try.prog 28 #[.agg (itC it).toArray, .pointer (some ⟨g5, 0, none⟩), .pointer (some ⟨g6, 0, none⟩)] w (MeetsB ⟨fun _ => True, fun _ => .tuple #[], fun v' => putL g5 gm g6 (b + 2) v' (itUp c it) (more out it)⟩ B) := by
  unfold putL at hm
  have hle := hp.le it
  have hz := hp.zero it
  obtain ⟨n, hn⟩ : ∃ n, c it = n := ⟨_, rfl⟩
  obtain ⟨F, hF⟩ : ∃ F, itCnt c = F := ⟨_, rfl⟩
  obtain ⟨F', hF'⟩ : ∃ F', itCnt (itUp c it) = F' := ⟨_, rfl⟩
  have hcv : F it = .int .i64 (n : Int) := by rw [← hF, ← hn]; rfl
  have hF1 : F' it = .int .i64 ((n + 1 : Nat) : Int) := by rw [← hF', ← hn]; show Value.int .i64 ((itUp c it it : Nat) : Int) = _; unfold itUp; rw [if_pos rfl]
  have hnx : ∀ y, itK.ok y → F' y = if y = it then .int .i64 ((n + 1 : Nat) : Int) else F y := fun y _ => by
    rw [← hF', ← hF, ← hn]
    show Value.int .i64 ((itUp c it y : Nat) : Int) = if y = it then _ else Value.int .i64 ((c y : Nat) : Int)
    unfold itUp
    by_cases e : y = it
    · subst e; rw [if_pos rfl, if_pos rfl]
    · rw [if_neg e, if_neg e]
  rw [hF] at hm
  rw [hn] at hle hz
  clear hp
  refine enterB hm (args := [.agg (itC it).toArray, .pointer (some ⟨g5, 0, none⟩), .pointer (some ⟨g6, 0, none⟩)]) (n := 18) Try.func28 rfl rfl rfl ?_
  refine T_seq (T_region (TL_box rfl rfl rfl fun g3 => ?_))
  conv => arg 8; simp only [zA, zB, zC, zD, zE, zF, zG, zH, zI, rowS, ret, id_eq]
  repeat (first
    | refine QV QP ?_ | refine QZ ?_ | refine qcT rfl ?_ | refine qcF rfl ?_ | refine QV QeT ?_ | refine QV QeF ?_ | refine QV QaA ?_)
  (repeat refine T_seq ?_)
  refine T_midq (ι := Unit) (fun _ => True) (fun _ => [(1, .pointer (some ⟨g5, 0, none⟩)), (2, .pointer (some ⟨g6, 0, none⟩)), (3, .pointer (some ⟨g3, 0, none⟩))]) (fun _ => [blkO g5 #[.map (some gm)] 70, mapT itK gm (.int .i64 0) F' (b + 1 + 1), blkO g6 #[v] 25, rowO 31 3 v out.length (out.flatMap itC), blkO g3 (itC it).toArray 31]) ?_ ?_
  · refine T_ord ([blkO g5 #[.map (some gm)] 70, blkO g3 (itC it).toArray 31]) (.calm 0 (.calm 1 (.two 2 (.calm 3 (.one 4 (.calm 5 (.one 6 (.done))))) 4 (.calm 5 (.one 2 (.calm 3 (.one 6 (.done)))))))) (sub_pick [0, 4] (by decide) rfl) (by kernel_rfl) (by kernel_rfl) (by intro c a d v w h; cases d <;> exact h) ?_
    repeat (first
      | ((first | refine TW_plain rfl rfl ?_ | refine TW_gmet rfl rfl rfl rfl ?_); first | refine QW QP ?_ | refine QW (rr_load1 (v := .map (some gm)) TyC.ty rfl (at_blk (i := 0) rfl rfl)) ?_ | refine QW (rr_loadB (i := 1) TyC.ty rfl rfl rfl) ?_ | refine QW QeT ?_ | refine QW QeF ?_ | refine QW QaA ?_)
      | refine TW_done ?_)
    refine TW_two rfl rfl ?_ ?_
    · refine TL_val (rr_lookT itK Und.eq zero_i64 (i := 1) rfl rfl (x := it) rfl hit hcv) rfl rfl rfl (TW_on (sub_pick [0, 4] (by decide) rfl) ?_)
      repeat (first
        | ((first | refine TW_plain rfl rfl ?_ | refine TW_gmet rfl rfl rfl rfl ?_); first | refine QW QP ?_ | refine QW (rr_add64 (r := ((n + 1 : Nat) : Int)) rfl rfl (by omega) (by omega) (by omega)) ?_ | refine QW QeT ?_ | refine QW QeF ?_ | refine QW QaA ?_)
        | refine TW_done ?_)
      refine TW_one rfl (TL_entry itK Und.eq zero_i64 (i := 1) rfl rfl (x := it) rfl hit (by omega) rfl fun st => TW_on (sub_pick [0, 4] (by decide) rfl) ?_)
      repeat (first
        | ((first | refine TW_plain rfl rfl ?_ | refine TW_gmet rfl rfl rfl rfl ?_); first | refine QW QP ?_ | refine QW QeT ?_ | refine QW QeF ?_ | refine QW QaA ?_)
        | refine TW_done ?_)
      refine TW_one rfl (TL_entSet itK F' Und.eq (i := 1) rfl rfl rfl rfl hit (by omega) hnx (TW_on (sub_pick [0, 4] (by decide) rfl) ?_))
      repeat (first
        | ((first | refine TW_plain rfl rfl ?_ | refine TW_gmet rfl rfl rfl rfl ?_); first | refine QW QP ?_ | refine QW QeT ?_ | refine QW QeF ?_ | refine QW QaA ?_)
        | refine TW_done ?_)
      exact E_mid () trivial (by repeat' (first | exact True.intro | refine And.intro rfl ?_)) rfl
    · refine TL_entry itK Und.eq zero_i64 (i := 1) rfl rfl (x := it) rfl hit (by omega) rfl fun st => TW_on (sub_pick [0, 4] (by decide) rfl) ?_
      repeat (first
        | ((first | refine TW_plain rfl rfl ?_ | refine TW_gmet rfl rfl rfl rfl ?_); first | refine QW QP ?_ | refine QW QeT ?_ | refine QW QeF ?_ | refine QW QaA ?_)
        | refine TW_done ?_)
      refine TW_one rfl (TL_val (rr_lookE itK Und.eq zero_i64 (i := 1) rfl rfl (x := it) rfl hit hcv) rfl rfl rfl (TW_on (sub_pick [0, 4] (by decide) rfl) ?_))
      repeat (first
        | ((first | refine TW_plain rfl rfl ?_ | refine TW_gmet rfl rfl rfl rfl ?_); first | refine QW QP ?_ | refine QW (rr_add64 (r := ((n + 1 : Nat) : Int)) rfl rfl (by omega) (by omega) (by omega)) ?_ | refine QW QeT ?_ | refine QW QeF ?_ | refine QW QaA ?_)
        | refine TW_done ?_)
      refine TW_one rfl (TL_entSet itK F' Und.eq (i := 1) rfl rfl rfl rfl hit (by omega) hnx (TW_on (sub_pick [0, 4] (by decide) rfl) ?_))
      repeat (first
        | ((first | refine TW_plain rfl rfl ?_ | refine TW_gmet rfl rfl rfl rfl ?_); first | refine QW QP ?_ | refine QW QeT ?_ | refine QW QeF ?_ | refine QW QaA ?_)
        | refine TW_done ?_)
      exact E_mid () trivial (by repeat' (first | exact True.intro | refine And.intro rfl ?_)) rfl
  rintro ⟨⟩ _
  by_cases c1 : it ∈ out
  · have hm1 : more out it = out := if_pos c1
    rw [hm1]
    have hn0 : n ≠ 0 := fun e => hz.1 e c1
    clear hnx hcv
    repeat (first
      | refine QV QP ?_ | refine QZ ?_ | refine qcT rfl ?_ | refine qcF rfl ?_
      | refine QV (rr_load1 (v := .map (some gm)) TyC.ty rfl (at_blk (i := 0) rfl rfl)) ?_ | refine QV (rr_loadB (i := 4) TyC.ty rfl rfl rfl) ?_
      | refine QV (rr_lookT itK Und.eq zero_i64 (i := 1) rfl rfl (x := it) rfl hit hF1) ?_
      | refine QV (rr_eql (b := false) rfl rfl (decide_eq_false (by omega))) ?_ | refine QV QeT ?_ | refine QV QeF ?_ | refine QV QaA ?_)
    exact E_end0 rfl fun w hm => hm.meetsB (S := ⟨fun (_ : Value) => True, fun _ => .tuple #[], fun v' => putL g5 gm g6 (b + 2) v' (itUp c it) out⟩) v trivial [0, 1, 2, 3] (by decide) (by unfold putL; rw [← hF']; rfl)
  · have hm1 : more out it = out ++ [it] := if_neg c1
    rw [hm1]
    have hn0 : n = 0 := hz.2 c1
    clear hnx hcv
    repeat (first
      | refine QV QP ?_ | refine QZ ?_ | refine qcT rfl ?_ | refine qcF rfl ?_
      | refine QV (rr_load1 (v := .map (some gm)) TyC.ty rfl (at_blk (i := 0) rfl rfl)) ?_ | refine QV (rr_loadB (i := 4) TyC.ty rfl rfl rfl) ?_
      | refine QV (rr_lookT itK Und.eq zero_i64 (i := 1) rfl rfl (x := it) rfl hit hF1) ?_
      | refine QV (rr_eql (b := true) rfl rfl (decide_eq_true (by omega))) ?_ | refine QV (rr_load1 (v := v) TyC.ty rfl (at_blk (i := 2) rfl rfl)) ?_
      | refine QV QeT ?_ | refine QV QeF ?_ | refine QV QaA ?_)
    refine TL_litN (cs := (itC it).toArray) [.agg (itC it).toArray] rfl rfl rfl (by intro v hv; simp only [List.mem_cons, List.not_mem_nil, or_false] at hv; subst hv; rfl) rfl rfl rfl fun g16 => ?_
    conv => arg 8; simp only [zA, zB, zC, zD, zE, zF, zG, zH, zI, rowS, ret, id_eq]
    refine TL_appSl (i := 3) (e := 31) (size := 3) (bytes := 24) (m := out.length) (xs := out.flatMap itC) (k := 1) (ys := itC it) rfl (sl_blk (i := 5) rfl (fun j u h => by simpa using h) (Nat.le_refl 1) (by decide)) rfl rfl rfl (it_oneC it) (by omega) (by omega) rfl fun v' => ?_
    conv => arg 8; simp only [zA, zB, zC, zD, zE, zF, zG, zH, zI, rowS, ret, id_eq]
    refine TL_slv (i := 3) rfl fun hv1 hv2 => ?_
    refine TL_store1 (i := 2) rfl rfl rfl hv1 hv2 rfl ?_
    conv => arg 8; simp only [zA, zB, zC, zD, zE, zF, zG, zH, zI, rowS, ret, id_eq]
    repeat (first
      | refine QV QP ?_ | refine QZ ?_ | refine qcT rfl ?_ | refine qcF rfl ?_ | refine QV QeT ?_ | refine QV QeF ?_ | refine QV QaA ?_)
    exact E_end0 rfl fun w hm => hm.meetsB (S := ⟨fun (_ : Value) => True, fun _ => .tuple #[], fun v' => putL g5 gm g6 (b + 2) v' (itUp c it) (out ++ [it])⟩) v' trivial [0, 1, 2, 3] (by decide) (by unfold putL; rw [← hF', List.flatMap_append, List.length_append]; rfl)
end Go.Proofs.Ytmcclhddjielnaa.eng

/- OrdK -/
namespace Go.Proofs.Ytmcclhddjielnaa.eng
open Go.RowKit kit mix itemL Go.Lib Go.Sort
theorem isNaN_k (x : Int) (w : World) : Calls Try.prog 53 #[.int .i64 x] w fun e w' => e = .returned (.bool false) ∧ w' = w := by
  go_enter Try.func53, Try.ntmps53
  go_wp2
  go_ret
  exact ⟨by simp, rfl⟩
set_option maxHeartbeats 1000000 in
theorem compare_k (x y : Int) (w : World) : Calls Try.prog 39 #[.int .i64 x, .int .i64 y] w fun e w' => e = .returned (.int .i64 (cmpI x y)) ∧ w' = w := by
  go_enter Try.func39, Try.ntmps39
  go_wp2_with (go_at_call 53; refine (isNaN_k _ _).mono ?_; rintro e w' ⟨rfl, hw⟩; rw [hw])
  all_goals (go_ret; refine ⟨?_, rfl⟩; unfold cmpI; (repeat' split) <;> first | rfl | (exfalso; omega))
def orI (a b c : Int) : Int := if a ≠ 0 then a else if b ≠ 0 then b else c
theorem orI_a {a b c : Int} (h : ¬ a = 0) : orI a b c = a := if_pos h
theorem orI_b {b c : Int} (h : ¬ b = 0) : orI 0 b c = b := by unfold orI; rw [if_neg (by simp), if_pos h]
theorem orI_c {c : Int} : orI 0 0 c = c := by unfold orI; rw [if_neg (by simp), if_neg (by simp)]
set_option maxHeartbeats 2000000 in
theorem or_k (g : Nat) (a b c : Int) (w : World) (h0 : w.cell? ⟨g, 0, none⟩ = some (.int .i64 a)) (h1 : w.cell? ⟨g, 1, none⟩ = some (.int .i64 b)) (h2 : w.cell? ⟨g, 2, none⟩ = some (.int .i64 c)) :
    Calls Try.prog 38 #[.slice (some ⟨g, 0, none⟩) 3 3] w fun e w' => e = .returned (.int .i64 (orI a b c)) ∧ w' = w := by
  go_enter Try.func38, Try.ntmps38
  go_wp2
  by_cases ha : a = 0
  · subst ha
    refine wp_loop_rounds 4 ?_
    rw [rounds_succ]
    go_wp2
    by_cases hb : b = 0
    · subst hb
      rw [rounds_succ]
      go_wp2
      by_cases hc : c = 0
      · subst hc
        rw [rounds_succ]
        go_wp2
        rw [rounds_succ]
        go_wp2
        go_ret
        exact ⟨by rw [orI_c]; rfl, rfl⟩
      · rw [rounds_succ]
        go_wp2
        go_ret
        exact ⟨by rw [orI_c]; rfl, rfl⟩
    · rw [rounds_succ]
      go_wp2
      go_ret
      exact ⟨by rw [orI_b hb]; rfl, rfl⟩
  · refine wp_loop_rounds 1 ?_
    rw [rounds_succ]
    go_wp2
    go_ret
    exact ⟨by rw [orI_a ha]; rfl, rfl⟩
theorem or_k2 (o1 o2 : Obj) (a b c : Int) (T : TypeId) (w : World) :
    Calls Try.prog 38 #[.slice (some ⟨w.heap.size + 1 + 1, 0, none⟩) 3 3] (((w.alloc o1).alloc o2).alloc (.cells #[.int .i64 a, .int .i64 b, .int .i64 c] T)).drew fun e w' => e = .returned (.int .i64 (orI a b c)) ∧ w' = (((w.alloc o1).alloc o2).alloc (.cells #[.int .i64 a, .int .i64 b, .int .i64 c] T)).drew := by
  have hg : (((w.alloc o1).alloc o2).alloc (.cells #[.int .i64 a, .int .i64 b, .int .i64 c] T)).drew.heap[w.heap.size + 1 + 1]? = some (.cells #[.int .i64 a, .int .i64 b, .int .i64 c] T (0, 0)) := by
    have h := heap_alloc_new ((w.alloc o1).alloc o2) (.cells #[.int .i64 a, .int .i64 b, .int .i64 c] T)
    have e : ((w.alloc o1).alloc o2).heap.size = w.heap.size + 1 + 1 := by
      show ((w.heap.push o1).push o2).size = _
      rw [Array.size_push, Array.size_push]
    rw [e] at h
    exact h
  exact or_k _ a b c _ (cell_of_row _ _ 0 _ T (0, 0) hg) (cell_of_row _ _ 1 _ T (0, 0) hg) (cell_of_row _ _ 2 _ T (0, 0) hg)
end Go.Proofs.Ytmcclhddjielnaa.eng

/- SortJ -/
namespace Go.Proofs.Ytmcclhddjielnaa.eng
open Go.Shelf
def sortIt_ren : Go.Shelf.Ren := ⟨fun | 6 => 30 | 15 => 37 | 14 => 36 | 28 => 51 | 29 => 52 | 20 => 43 | 21 => 44 | 22 => 45 | 23 => 46 | 24 => 47 | 25 => 48 | 26 => 49 | 27 => 50 | 46 => 56 | 47 => 57 | 48 => 58 | 49 => 59 | 50 => 60 | 57 => 64 | n => n, fun | 22 => 25 | 24 => 31 | 25 => 75 | 3 => 3 | 39 => 84 | 0 => 0 | 53 => 105 | 55 => 72 | 4 => 4 | 46 => 99 | 45 => 98 | 50 => 61 | 5 => 5 | 9 => 9 | 66 => 110 | 70 => 114 | 76 => 119 | 77 => 120 | n => n, fun | n => n⟩
theorem sortIt : Go.Proofs.SlLaysF0.n6 Try.prog sortIt_ren := {
  mixed := by kernel_rfl
  f6 := ⟨Try.f30.name, by decide, Try.func30.trans (congrArg some (by kernel_rfl))⟩
  f14 := ⟨Try.f36.name, by decide, Try.func36.trans (congrArg some (by kernel_rfl))⟩
  f15 := Try.func37.trans (congrArg some (by kernel_rfl))
  f20 := ⟨Try.f43.name, by decide, Try.func43.trans (congrArg some (by kernel_rfl))⟩
  f21 := ⟨Try.f44.name, by decide, Try.func44.trans (congrArg some (by kernel_rfl))⟩
  f22 := ⟨Try.f45.name, by decide, Try.func45.trans (congrArg some (by kernel_rfl))⟩
  f23 := ⟨Try.f46.name, by decide, Try.func46.trans (congrArg some (by kernel_rfl))⟩
  f24 := ⟨Try.f47.name, by decide, Try.func47.trans (congrArg some (by kernel_rfl))⟩
  f25 := ⟨Try.f48.name, by decide, Try.func48.trans (congrArg some (by kernel_rfl))⟩
  f26 := ⟨Try.f49.name, by decide, Try.func49.trans (congrArg some (by kernel_rfl))⟩
  f27 := ⟨Try.f50.name, by decide, Try.func50.trans (congrArg some (by kernel_rfl))⟩
  f28 := Try.func51.trans (congrArg some (by kernel_rfl))
  f29 := Try.func52.trans (congrArg some (by kernel_rfl))
  f46 := ⟨Try.f56.name, by decide, Try.func56.trans (congrArg some (by kernel_rfl))⟩
  f47 := Try.func57.trans (congrArg some (by kernel_rfl))
  f48 := Try.func58.trans (congrArg some (by kernel_rfl))
  f49 := ⟨Try.f59.name, by decide, Try.func59.trans (congrArg some (by kernel_rfl))⟩
  f50 := ⟨Try.f60.name, by decide, Try.func60.trans (congrArg some (by kernel_rfl))⟩
  f57 := ⟨Try.f64.name, by decide, Try.func64.trans (congrArg some (by kernel_rfl))⟩
  t0 := Try.underlying0
  a0 := Try.isAgg0
  z0 := Try.sizeOf0
  v0 := Try.zeroValue0
  t3 := Try.underlying3
  a3 := Try.isAgg3
  z3 := Try.sizeOf3
  v3 := Try.zeroValue3
  t4 := Try.underlying4
  a4 := Try.isAgg4
  z4 := Try.sizeOf4
  v4 := Try.zeroValue4
  t5 := Try.underlying5
  a5 := Try.isAgg5
  z5 := Try.sizeOf5
  v5 := Try.zeroValue5
  t9 := Try.underlying9
  a9 := Try.isAgg9
  z9 := Try.sizeOf9
  v9 := Try.zeroValue9
  t22 := Try.underlying25
  a22 := Try.isAgg25
  z22 := Try.sizeOf25
  v22 := Try.zeroValue25
  t25 := Try.underlying75
  a25 := Try.isAgg75
  z25 := Try.sizeOf75
  v25 := Try.zeroValue75
  t39 := Try.underlying84
  a39 := Try.isAgg84
  z39 := Try.sizeOf84
  v39 := Try.zeroValue84
  t45 := Try.underlying98
  a45 := Try.isAgg98
  z45 := Try.sizeOf98
  v45 := Try.zeroValue98
  t46 := Try.underlying99
  a46 := Try.isAgg99
  z46 := Try.sizeOf99
  v46 := Try.zeroValue99
  t50 := Try.underlying61
  a50 := Try.isAgg61
  z50 := Try.sizeOf61
  v50 := Try.zeroValue61
  t53 := Try.underlying105
  a53 := Try.isAgg105
  z53 := Try.sizeOf105
  v53 := Try.zeroValue105
  t55 := Try.underlying72
  a55 := Try.isAgg72
  z55 := Try.sizeOf72
  v55 := Try.zeroValue72
  t66 := Try.underlying110
  a66 := Try.isAgg110
  z66 := Try.sizeOf110
  v66 := Try.zeroValue110
  t70 := Try.underlying114
  a70 := Try.isAgg114
  z70 := Try.sizeOf114
  v70 := Try.zeroValue114
  t76 := Try.underlying119
  a76 := Try.isAgg119
  z76 := Try.sizeOf119
  v76 := Try.zeroValue119
  t77 := Try.underlying120
  a77 := Try.isAgg120
  z77 := Try.sizeOf120
  v77 := Try.zeroValue120 }
end Go.Proofs.Ytmcclhddjielnaa.eng

/- ItE -/
namespace Go.Proofs.Ytmcclhddjielnaa.eng
open Go.RowKit kit mix itemL Go.Sort
theorem put_blockV (w : World) (n g : Nat) (d : Array Value) (os : Array Obj) {k : Nat} (hk : k < w.heap.size) (hg : k ≠ g) : (grow (putRow id (Go.Sort.ahead w n) g 0 d) os).heap[k]? = w.heap[k]? := by
  rw [heap_grow_old _ _ (by rw [size_putRow]; exact hk)]
  show (w.heap.modify g _)[k]? = w.heap[k]?
  rw [Array.getElem?_modify, if_neg (fun h => hg h.symm)]
theorem put_memV {B : Base} {w : World} {e : TypeId} {g cap m size : Nat} {xs : List Value} (hm : Mem B [rowO e size (.slice (some ⟨g, 0, none⟩) m cap) m xs] w) (d : Array Value) (hd : d.size = m * size) (n : Nat) (os : Array Obj) :
    Mem B [rowO e size (.slice (some ⟨g, 0, none⟩) m cap) m d.toList] (grow (putRow id (Go.Sort.ahead w n) g 0 d) os) := by
  have ho : w.ownsRow 0 e size (.slice (some ⟨g, 0, none⟩) m cap) m xs := hm.get (i := 0) rfl
  obtain ⟨hl, hr⟩ := ho
  rcases hr with ⟨h, _⟩ | ⟨g2, cap2, cur, hv, _, hg, hc, hx, hs, ht⟩
  · cases h
  cases hv
  have hmay : B.may g := (hm.owns.all 0 _ rfl).2 g (.inl rfl)
  have hgw : g < w.heap.size := (Array.getElem?_eq_some_iff.1 hg).1
  have hheap : (grow (putRow id (Go.Sort.ahead w n) g 0 d) os).heap[g]? = some (.cells (putCells id 0 d cur) e (0, 0)) := by
    rw [heap_grow_old _ _ (by rw [size_putRow]; exact hgw)]
    show (w.heap.modify g (onCells (putCells id 0 d)))[g]? = _
    rw [Array.getElem?_modify, if_pos rfl, hg]; rfl
  have hle : m * size ≤ cap * size := Nat.mul_le_mul_right _ hc
  refine ⟨⟨hm.low.os, hm.low.tape, hm.low.output, ?_, fun k hk hx => ?_⟩, OwnsP.one ⟨?_, .inr ⟨g, cap, _, rfl, Nat.zero_le _, hheap, hc, hx, ?_, ?_⟩⟩ fun k hk => ?_⟩
  · rw [size_grow, size_putRow]; exact Nat.le_trans hm.low.size (Nat.le_add_right _ _)
  · have hkg : k ≠ g := fun e => by
      subst e
      rcases hmay with h | h
      · omega
      · exact hx h
    rw [put_blockV w n g d os (Nat.lt_of_lt_of_le hk hm.low.size) hkg]
    exact hm.low.block k hk hx
  · rw [Array.length_toList, hd]
  · unfold putCells; rw [Array.size_mapIdx]; exact hs
  · apply List.ext_getElem?
    intro j
    rw [List.getElem?_take]
    by_cases hj : j < m * size
    · have hjc : j < cur.size := by omega
      rw [if_pos hj, Array.getElem?_toList, Array.getElem?_toList]
      unfold putCells
      rw [Array.getElem?_mapIdx, Array.getElem?_eq_getElem hjc, Option.map_some, if_pos ⟨Nat.zero_le _, by omega⟩, Nat.sub_zero, getElem!_pos d j (by omega), Array.getElem?_eq_getElem (by omega : j < d.size)]
      rfl
    · rw [if_neg hj, Array.getElem?_toList, Array.getElem?_eq_none (by omega)]
  · rcases hk with h | h
    · simp only [rowO, Value.ownBlock, Option.some.injEq] at h; subst h; exact hmay
    · exact h.elim
theorem swo_it : SWO (ltOf ordI) := ⟨ltI_irr, fun _ _ _ h1 h2 => ltI_tr h1 h2, fun x y z h1 h2 => by
  have h1 : ltI x y = false := h1
  have h2 : ltI y z = false := h2
  show ltI x z = false
  rw [ltI_no] at *; omega⟩
theorem flat_it (l : List itemL.Item) : (flatK itC 3 l.toArray).toList = l.flatMap itC := by
  have hL : (l.flatMap itC).length = l.length * 3 := len_el itC_len l
  apply List.ext_getElem?
  intro t
  by_cases ht : t < l.length * 3
  · have hd : t / 3 < l.length := by omega
    have h1 := get_flatK itC 3 l.toArray t (by simpa using ht)
    rw [getElem!_pos (flatK itC 3 l.toArray) t (by simpa using ht), getElem!_pos l.toArray (t / 3) (by simpa using hd)] at h1
    have h2 := flatten_get (c := 3) (l.map itC) (fun x hx => by obtain ⟨y, _, rfl⟩ := List.mem_map.1 hx; exact itC_len y) (t / 3) (t % 3) (by simpa using hd) (Nat.mod_lt _ (by decide))
    rw [show t / 3 * 3 + t % 3 = t by omega, List.getElem_map] at h2
    rw [Array.getElem?_toList, Array.getElem?_eq_getElem (by simpa using ht), h1]
    show _ = (l.map itC).flatten[t]?
    rw [h2]
    have h3 : t % 3 < (itC l[t / 3]).length := by rw [itC_len]; exact Nat.mod_lt _ (by decide)
    rw [List.getElem?_eq_getElem h3]
    simp only [List.getElem_toArray]
    rw [getElem!_pos (itC l[t / 3]) (t % 3) h3]
  · rw [List.getElem?_eq_none (by rw [Array.length_toList, size_flatK]; simp; omega), List.getElem?_eq_none (by omega)]
theorem row_holdsV {w : World} {e : TypeId} {g cap m size : Nat} {xs : List Value} (ho : w.ownsRow 0 e size (.slice (some ⟨g, 0, none⟩) m cap) m xs) (d : Array Value) (hd : d.toList = xs) : Holds id w g 0 d ∧ g < w.heap.size := by
  obtain ⟨hl, hr⟩ := ho
  rcases hr with ⟨h, _⟩ | ⟨g2, cap2, cur, hv, _, hg, hc, hx, hs, ht⟩
  · cases h
  cases hv
  refine ⟨fun j hj => ?_, (Array.getElem?_eq_some_iff.1 hg).1⟩
  have hle : m * size ≤ cap * size := Nat.mul_le_mul_right _ hc
  have hj2 : j < xs.length := by rw [← hd]; simpa using hj
  have hcj : cur[j]? = some d[j] := by
    have := congrArg (fun l => l[j]?) ht
    rw [List.getElem?_take, if_pos (by omega), Array.getElem?_toList, ← hd, Array.getElem?_toList, Array.getElem?_eq_getElem hj] at this
    exact this
  refine ⟨?_, ?_⟩
  · rw [cell_of_row w g (0 + j) _ _ _ hg, Nat.zero_add, hcj, getElem!_pos d j hj]; rfl
  · unfold World.frozen?
    rw [hg]
    simp
def OrdLays : Prop := ∀ (x y : itemL.Item) (w : World), Calls Try.prog 31 #[.agg (itC x).toArray, .agg (itC y).toArray] w fun e w' => e = .returned (.int .i64 (ordI x y)) ∧ ∃ q os', w' = grow (w.drewN q) os'
theorem itSortG (hord : OrdLays) (v : Value) (l : List itemL.Item) (w : World) (B : Base) (hm : Mem B [rowO 31 3 v l.length (l.flatMap itC)] w) (hl : l.length < 4611686018427387904) :
    Calls Try.prog 30 #[v, .func (.func 31) #[] #[]] w (MeetsB ⟨fun (_ : Unit) => True, fun _ => .tuple #[], fun _ => [rowO 31 3 v l.length ((sortI l).flatMap itC)]⟩ B) := by
  have ho : w.ownsRow 0 31 3 v l.length (l.flatMap itC) := hm.get (i := 0) rfl
  have ho2 := ho
  rcases ho.2 with ⟨rfl, h0⟩ | ⟨g, cap, cur, rfl, _, hg, hc, hx, hs, ht⟩
  · obtain rfl : l = [] := List.length_eq_zero_iff.1 h0
    refine (AnyF.slices_SortFunc_none sortIt none 0 _ w).mono fun e w' ⟨he, hw⟩ => ⟨(), trivial, he, ?_⟩
    rw [hw]; exact (by simpa [sortI] using hm)
  · obtain ⟨h1, h2⟩ := row_holdsV ho2 (flatK itC 3 l.toArray) (flat_it l)
    have hcmp : CmpLays Try.prog 31 #[] itC 3 ordI g 0 l.toArray.size w := fun m os dk _ x y => by
      have h := hord x y (sortWorldK itC 3 w g 0 m dk os)
      simpa using h
    have h := AnyQ.slices_SortFunc_total sortIt 3 Try.isAgg31 Try.sizeOf31 itC itC_len (fun x v hv => by simp only [itC, List.mem_cons, List.not_mem_nil, or_false] at hv; rcases hv with rfl | rfl | rfl <;> rfl) ordI swo_it 31 #[] g 0 cap l.toArray w EntersC.en hcmp h1 h2 (by simpa using hl) ltI_parts
    have hz : l.toArray.size = l.length := by simp
    rw [hz] at h
    refine h.mono fun e w' ⟨he, n, os, hw⟩ => ⟨(), trivial, he, ?_⟩
    have hlen : (sortI l).length = l.length := sort_len l
    have hq := put_memV hm (flatK itC 3 (sortI l).toArray) (by rw [size_flatK]; simp [hlen]) n os
    rw [flat_it] at hq
    rw [hw]; exact hq
end Go.Proofs.Ytmcclhddjielnaa.eng

/- OrdJ -/
namespace Go.Proofs.Ytmcclhddjielnaa.eng
open Go.RowKit kit mix itemL Go.Lib Go.Sort
theorem two_heap (a b : Obj) (w : World) : ((w.alloc a).alloc b).heap[w.heap.size]? = some a ∧ ((w.alloc a).alloc b).heap[w.heap.size + 1]? = some b := by
  have e : (w.alloc a).heap.size = w.heap.size + 1 := by
    show (w.heap.push a).size = _
    rw [Array.size_push]
  constructor
  · rw [heap_alloc_old (w.alloc a) b (by omega)]
    exact heap_alloc_new w a
  · have h := heap_alloc_new (w.alloc a) b
    rw [e] at h; exact h
theorem three_grow (a b c : Obj) (w : World) : (((w.alloc a).alloc b).alloc c).drew = grow (w.drewN 1) #[a, b, c] := by
  rw [alloc_eq_grow, alloc_eq_grow, alloc_eq_grow, grow_grow, grow_grow]; rfl
set_option maxHeartbeats 4000000 in
theorem order_k (x y : itemL.Item) (w : World) : Calls Try.prog 31 #[.agg (itC x).toArray, .agg (itC y).toArray] w fun e w' => e = .returned (.int .i64 (ordI x y)) ∧ ∃ q os', w' = grow (w.drewN q) os' := by
  obtain ⟨x1, x2, x3⟩ := x
  obtain ⟨y1, y2, y3⟩ := y
  have ho : ordI (x1, x2, x3) (y1, y2, y3) = orI (cmpI x1 y1) (cmpI x2 y2) (cmpI x3 y3) := rfl
  rw [ho]
  clear ho
  unfold itC
  dsimp only
  obtain ⟨t1, t2⟩ := two_heap (.cells #[.int .i64 x1, .int .i64 x2, .int .i64 x3] 31) (.cells #[.int .i64 y1, .int .i64 y2, .int .i64 y3] 31) w
  have k1 := cell_of_row _ _ 0 _ _ (0, 0) t1
  have k2 := cell_of_row _ _ 1 _ _ (0, 0) t1
  have k3 := cell_of_row _ _ 2 _ _ (0, 0) t1
  have k4 := cell_of_row _ _ 0 _ _ (0, 0) t2
  have k5 := cell_of_row _ _ 1 _ _ (0, 0) t2
  have k6 := cell_of_row _ _ 2 _ _ (0, 0) t2
  clear t1 t2
  go_enter Try.func31, Try.ntmps31
  go_wp2
  go_region_held (fun w' => w'.cell? ⟨w.heap.size, 0, none⟩ = some (.int .i64 x1) ∧ w'.cell? ⟨w.heap.size, 1, none⟩ = some (.int .i64 x2) ∧ w'.cell? ⟨w.heap.size, 2, none⟩ = some (.int .i64 x3) ∧ w'.cell? ⟨w.heap.size + 1, 0, none⟩ = some (.int .i64 y1) ∧ w'.cell? ⟨w.heap.size + 1, 1, none⟩ = some (.int .i64 y2) ∧ w'.cell? ⟨w.heap.size + 1, 2, none⟩ = some (.int .i64 y3)) (go_keep) (first | (go_at_call 39; refine (compare_k _ _ _).mono ?_; rintro e w' ⟨rfl, rfl⟩) | (go_at_call 38; have hzz := (or_k2 (.cells #[.int .i64 x1, .int .i64 x2, .int .i64 x3] 31) (.cells #[.int .i64 y1, .int .i64 y2, .int .i64 y3] 31) (cmpI x1 y1) (cmpI x2 y2) (cmpI x3 y3) 3 w); refine hzz.mono ?_; clear hzz; rintro e w' ⟨rfl, rfl⟩))
  go_wp2
  go_ret
  refine ⟨rfl, 1, #[.cells #[.int .i64 x1, .int .i64 x2, .int .i64 x3] 31, .cells #[.int .i64 y1, .int .i64 y2, .int .i64 y3] 31, .cells #[.int .i64 (cmpI x1 y1), .int .i64 (cmpI x2 y2), .int .i64 (cmpI x3 y3)] 3], ?_⟩
  exact three_grow _ _ _ w
end Go.Proofs.Ytmcclhddjielnaa.eng

/- ClassL -/
namespace Go.Proofs.Ytmcclhddjielnaa.classL
/-- a word of 64 bits as the model's number -/
def n64 (x : BitVec 64) : Int := x.toNat
theorem wrap64 (x : BitVec 64) : IntKind.u64.wrap (n64 x) = n64 x := by
  have := x.isLt
  unfold n64
  rw [IntKind.wrap_u64]; omega
theorem ofInt64 (x : BitVec 64) : BitVec.ofInt 64 (n64 x) = x := by
  apply BitVec.eq_of_toNat_eq; simp [n64]
theorem and64 (x y : BitVec 64) : bits .and .u64 (n64 x) (n64 y) = n64 (x &&& y) := by
  unfold bits; simp only [IntKind.bits, ofInt64]; exact wrap64 _
theorem or64 (x y : BitVec 64) : bits .or .u64 (n64 x) (n64 y) = n64 (x ||| y) := by
  unfold bits; simp only [IntKind.bits, ofInt64]; exact wrap64 _
theorem xor64 (x y : BitVec 64) : bits .xor .u64 (n64 x) (n64 y) = n64 (x ^^^ y) := by
  unfold bits; simp only [IntKind.bits, ofInt64]; exact wrap64 _
theorem not64 (x : BitVec 64) : bits .xor .u64 IntKind.u64.max (n64 x) = n64 (~~~ x) := by
  have h := xor64 (BitVec.allOnes 64) x
  rw [BitVec.allOnes_xor] at h
  rw [← h]; rfl
/-- a class of bytes -/
structure C4 where
  a : BitVec 64
  b : BitVec 64
  c : BitVec 64
  d : BitVec 64
  deriving DecidableEq
def C4.zero : C4 := ⟨0, 0, 0, 0⟩
def clsL (x : C4) : List Value := [.int .u64 (n64 x.a), .int .u64 (n64 x.b), .int .u64 (n64 x.c), .int .u64 (n64 x.d)]
end Go.Proofs.Ytmcclhddjielnaa.classL

/- RexL -/
namespace Go.Proofs.Ytmcclhddjielnaa.rexL
open classL
inductive Rx where
  | mk (kind : Int) (c : C4) (kids : List Rx)
def Rx.kind : Rx → Int | .mk k _ _ => k
def Rx.cls : Rx → C4 | .mk _ c _ => c
def Rx.kids : Rx → List Rx | .mk _ _ l => l
/-! ### expressions that are as they should be -/
inductive Re where
  | none
  | empty
  | byte (c : C4)
  | cat (a b : Re)
  | alt (a b : Re)
  | star (a : Re)
def Re.size : Re → Nat
  | .cat a b => a.size + b.size + 1
  | .alt a b => a.size + b.size + 1
  | .star a => a.size + 1
  | _ => 1
def Re.kind : Re → Int
  | .none => 1
  | .empty => 2
  | .byte _ => 3
  | .cat _ _ => 4
  | .alt _ _ => 5
  | .star _ => 6
def Re.cls : Re → C4
  | .byte c => c
  | _ => C4.zero
def Re.kids : Re → List Re
  | .cat a b => [a, b]
  | .alt a b => [a, b]
  | .star a => [a]
  | _ => []
end Go.Proofs.Ytmcclhddjielnaa.rexL

/- RexS -/
namespace Go.Proofs.Ytmcclhddjielnaa.eng
open Go.RowKit kit mix classL rexL
/-- an expression that can be read, its blocks being in F -/
inductive RexIs (F : Nat → Prop) (w : World) : List Value → Rx → Prop
  | mk {k : Int} {c : C4} {kids : List Rx} {base : Option Addr} {cap : Nat} (css : List (List Value)) : kit.okI64 k → kids.length ≤ cap → cap ≤ maxLen → css.length = kids.length →
    (∀ i (h : i < kids.length) (h' : i < css.length), RexIs F w css[i] kids[i]) → (0 < kids.length → ∃ b off, base = some ⟨b, off, none⟩ ∧ F b ∧ ∀ i (_ : i < kids.length) (h' : i < css.length), Rd w b (off + i * 6) css[i]) →
    RexIs F w (.int .i64 k :: (clsL c ++ [.slice base kids.length cap])) (.mk k c kids)
theorem RexIs.len6 {F : Nat → Prop} {w : World} {cs : List Value} {t : Rx} (h : RexIs F w cs t) : cs.length = 6 := by
  cases h; rfl
theorem RexIs.stayed {F : Nat → Prop} {w w' : World} {cs : List Value} {t : Rx} (h : RexIs F w cs t) (hk : ∀ k, F k → w'.heap[k]? = w.heap[k]?) : RexIs F w' cs t := by
  induction h with
  | mk css h2 h3 h4 h5 h6 h7 ih =>
    refine .mk css h2 h3 h4 h5 ih fun hl => ?_
    obtain ⟨b, off, e, hF, hr⟩ := h7 hl
    exact ⟨b, off, e, hF, fun i hi hi' => rd_stay (hr i hi hi') (hk b hF)⟩
theorem RexIs.mono {F F' : Nat → Prop} {w : World} {cs : List Value} {t : Rx} (h : RexIs F w cs t) (hk : ∀ k, F k → F' k) : RexIs F' w cs t := by
  induction h with
  | mk css h2 h3 h4 h5 h6 h7 ih =>
    refine .mk css h2 h3 h4 h5 ih fun hl => ?_
    obtain ⟨b, off, e, hF, hr⟩ := h7 hl
    exact ⟨b, off, e, hk b hF, hr⟩
def rexS : Shp Rx := ⟨6, RexIs, fun h => h.len6, fun h hk => h.stayed hk, fun h hk => h.mono hk⟩
def rexC (k : Int) (c : C4) (v : Value) : List Value := .int .i64 k :: (clsL c ++ [v])
def rexV (k : Int) (c : C4) (v : Value) : Value := .agg (rexC k c v).toArray
theorem rex_iff {F : Nat → Prop} {w : World} {cs : List Value} {k : Int} {c : C4} {kids : List Rx} : RexIs F w cs (.mk k c kids) ↔ ∃ v, cs = rexC k c v ∧ kit.okI64 k ∧ SlF rexS F w v kids := by
  constructor
  · intro h
    cases h with
    | mk css h2 h3 h4 h5 h6 h7 =>
      refine ⟨_, rfl, h2, _, _, rfl, h3, h4, fun hl => ?_⟩
      obtain ⟨b, off, e, hF, hr⟩ := h7 hl
      exact ⟨b, off, e, hF, fun i hi => ⟨css[i]'(by omega), h6 i hi (by omega), hr i hi (by omega)⟩⟩
  · rintro ⟨v, rfl, h2, base, cap, rfl, h3, h4, h5⟩
    by_cases hl : 0 < kids.length
    · obtain ⟨b, off, e, hF, hr⟩ := h5 hl
      have hlen : (List.ofFn fun i : Fin kids.length => Classical.choose (hr i i.2)).length = kids.length := by simp
      refine .mk (List.ofFn fun i : Fin kids.length => Classical.choose (hr i i.2)) h2 h3 h4 hlen (fun i hi hi' => ?_) fun _ => ⟨b, off, e, hF, fun i hi hi' => ?_⟩
      · rw [List.getElem_ofFn]; exact (Classical.choose_spec (hr i hi)).1
      · rw [List.getElem_ofFn]; exact (Classical.choose_spec (hr i hi)).2
    · have : kids = [] := List.eq_nil_of_length_eq_zero (by omega)
      subst this
      exact .mk [] h2 h3 h4 rfl (fun i hi => absurd hi (by simp)) fun h => absurd h (by simp)
/-- an expression that is a value -/
def RexR (F : Nat → Prop) (w : World) (v : Value) (r : Rx) : Prop := ∃ vk, v = rexV r.kind r.cls vk ∧ kit.okI64 r.kind ∧ SlF rexS F w vk r.kids
theorem RexR.stay {F : Nat → Prop} {w w' : World} {v : Value} {r : Rx} (h : RexR F w v r) (hk : ∀ k, F k → w'.heap[k]? = w.heap[k]?) : RexR F w' v r :=
  let ⟨vk, h1, h2, h3⟩ := h; ⟨vk, h1, h2, h3.stay hk⟩
theorem RexR.mono {F F' : Nat → Prop} {w : World} {v : Value} {r : Rx} (h : RexR F w v r) (hk : ∀ k, F k → F' k) : RexR F' w v r :=
  let ⟨vk, h1, h2, h3⟩ := h; ⟨vk, h1, h2, h3.mono hk⟩
/-- what is there at all -/
def Low (w : World) : Nat → Prop := fun k => k < w.heap.size
theorem RexR.gr {w w' : World} {v : Value} {r : Rx} (h : RexR (Low w) w v r) (hg : Gr w w') : RexR (Low w') w' v r :=
  (h.stay fun k hk => hg.block k hk).mono fun k hk => Nat.lt_of_lt_of_le hk hg.size
theorem RexR.is {F : Nat → Prop} {w : World} {v : Value} {r : Rx} (h : RexR F w v r) : ∃ cs, v = .agg cs.toArray ∧ RexIs F w cs r := by
  obtain ⟨k, c, kids⟩ := r
  obtain ⟨vk, rfl, h1, h2⟩ := h
  exact ⟨_, rfl, rex_iff.2 ⟨vk, rfl, h1, h2⟩⟩
theorem RexIs.r {F : Nat → Prop} {w : World} {cs : List Value} {r : Rx} (h : RexIs F w cs r) : RexR F w (.agg cs.toArray) r := by
  obtain ⟨k, c, kids⟩ := r
  obtain ⟨vk, rfl, h1, h2⟩ := rex_iff.1 h
  exact ⟨vk, rfl, h1, h2⟩
/-! ### numbered -/
/-- a node's kids and their numbers -/
def kidsK (r : Re) (k : Nat) : List (Re × Nat) := match r with
  | .cat a b => [(a, k + 1), (b, k + 1 + a.size)]
  | .alt a b => [(a, k + 1), (b, k + 1 + a.size)]
  | .star a => [(a, k + 1)]
  | _ => []
/-- a numbered node that can be read, its kids' blocks being in F -/
inductive NumIs (F : Nat → Prop) (w : World) : List Value → Re × Nat → Prop
  | mk {r : Re} {k : Nat} {vk : Value} {base : Option Addr} {cap : Nat} (css : List (List Value)) : vk.oneCell' = true → (kidsK r k).length ≤ cap → cap ≤ maxLen → css.length = (kidsK r k).length →
    (∀ i (h : i < (kidsK r k).length) (h' : i < css.length), NumIs F w css[i] (kidsK r k)[i]) → (0 < (kidsK r k).length → ∃ b off, base = some ⟨b, off, none⟩ ∧ F b ∧ ∀ i (_ : i < (kidsK r k).length) (h' : i < css.length), Rd w b (off + i * 8) css[i]) →
    NumIs F w (.int .i64 r.kind :: (clsL r.cls ++ [vk, .int .i64 (k : Int), .slice base (kidsK r k).length cap])) (r, k)
theorem NumIs.stayed {F : Nat → Prop} {w w' : World} {cs : List Value} {t : Re × Nat} (h : NumIs F w cs t) (hk : ∀ k, F k → w'.heap[k]? = w.heap[k]?) : NumIs F w' cs t := by
  induction h with
  | mk css h2 h3 h4 h5 h6 h7 ih =>
    refine .mk css h2 h3 h4 h5 ih fun hl => ?_
    obtain ⟨b, off, e, hF, hr⟩ := h7 hl
    exact ⟨b, off, e, hF, fun i hi hi' => rd_stay (hr i hi hi') (hk b hF)⟩
theorem NumIs.mono {F F' : Nat → Prop} {w : World} {cs : List Value} {t : Re × Nat} (h : NumIs F w cs t) (hk : ∀ k, F k → F' k) : NumIs F' w cs t := by
  induction h with
  | mk css h2 h3 h4 h5 h6 h7 ih =>
    refine .mk css h2 h3 h4 h5 ih fun hl => ?_
    obtain ⟨b, off, e, hF, hr⟩ := h7 hl
    exact ⟨b, off, e, hk b hF, hr⟩
section
variable {P : Program} {n : Nat} {W : Base} {fr : Fr} {L : List Own} {Q : Exit → Act → World → Prop} {ops : Array Oper} {rest : List Oper}
end
end Go.Proofs.Ytmcclhddjielnaa.eng

/- PlN -/
namespace Go.Proofs.Ytmcclhddjielnaa.eng
open Go.RowKit kit mix classL rexL
/-- blocks that are there already, and stay -/
def OldB (B : Base) (k : Nat) : Prop := k < B.w.heap.size ∧ ¬ B.X k
theorem at_oldB {B : Base} {L : List Own} {b off : Nat} {cs : List Value} (hb : OldB B b) (h : Rd B.w b off cs) (j : Nat) (v : Value) (hj : cs[j]? = some v) : At B L ⟨b, off + j, none⟩ v := fun w hm =>
  rd_stay h (hm.low.block b hb.1 hb.2) j v hj
end Go.Proofs.Ytmcclhddjielnaa.eng

/- ClassB -/
namespace Go.Proofs.Ytmcclhddjielnaa
open Go.RowKit kit mix classL
attribute [local go_sem] and64 or64 xor64 not64
theorem gr_alloc (w : World) (o : Obj) : Below w.heap.size w (w.alloc o) := (Below.refl _ _).alloc (Nat.le_refl _) _
end Go.Proofs.Ytmcclhddjielnaa

/- PlR -/
namespace Go.Proofs.Ytmcclhddjielnaa.eng
open Go.RowKit kit mix classL rexL
theorem row_slm {e : TypeId} {size n : Nat} {v : Value} {xs : List Value} (w : World) (h : (rowO e size v n xs).holds w) : ∃ a c, v = .slice a n c ∧ n ≤ 9223372036854775807 ∧ (0 < n → ∃ g, a = some ⟨g, 0, none⟩) := by
  rcases (show w.ownsRow 0 e size v n xs from h).2 with ⟨rfl, rfl⟩ | ⟨g, cap, cur, rfl, _, _, hn, hm, _⟩
  · exact ⟨_, _, rfl, by omega, fun h => by omega⟩
  · exact ⟨_, _, rfl, by unfold maxLen at hm; omega, fun _ => ⟨g, rfl⟩⟩
end Go.Proofs.Ytmcclhddjielnaa.eng

/- ItF -/
namespace Go.Proofs.Ytmcclhddjielnaa.eng
open Go.RowKit kit mix gramL treeL factsL itemL smallL
/-- a slice that the caller keeps as it is -/
def SlB (B : Base) (v : Value) (n : Nat) (xs : List Value) : Prop :=
  ∃ base cap, v = .slice base n cap ∧ n ≤ cap ∧ cap ≤ maxLen ∧ (0 < n → ∃ b off, base = some ⟨b, off, none⟩ ∧ OldB B b ∧ Rd B.w b off xs)
theorem SlB.old {w0 : World} {B : Base} {v : Value} {n : Nat} {xs : List Value} (ho : Old w0 B) (h : Sl w0 v n xs) (hx : 0 < n → xs ≠ []) : SlB B v n xs := by
  obtain ⟨base, cap, rfl, h1, h2, h3⟩ := h
  refine ⟨base, cap, rfl, h1, h2, fun hn => ?_⟩
  obtain ⟨b, off, rfl, hr⟩ := h3 hn
  obtain ⟨x, r, hxs⟩ : ∃ x r, xs = x :: r := List.exists_cons_of_ne_nil (hx hn)
  have h0 := hr 0 x (by rw [hxs]; rfl)
  have hlt : b < w0.heap.size := World.block_lt_of_cell? w0 _ h0
  refine ⟨b, off, rfl, ⟨Nat.lt_of_lt_of_le hlt ho.below.size, ho.free b hlt⟩, fun j v hj => ?_⟩
  have h2 := hr j v hj
  rw [ho.below.cell (show (⟨b, off + j, none⟩ : Addr).block < w0.heap.size from hlt)]
  rw [← h2]
/-- a symbol of the body, read -/
theorem body_at {l : List gramL.Prod} {w0 : World} {W : Base} {vb : Nat → Value} {k dn : Nat} {x : Option Nat} {bb : Option Addr} {cc m : Nat} (ho : Old w0 W) (hv : BodR (fun q => q < w0.heap.size) w0 vb l) (hk : k ≤ l.length) (hx : x.isSome = decide (k = l.length)) (hb : bodV vb k x = .slice bb m cc) (hd : dn < (bodyI l (k : Int)).length) :
    ∃ b off, bb = some ⟨b, off, none⟩ ∧ ∀ (L : List Own) (i : Nat), L[i]? = some (bodO x) → ∀ j u, (symC (bodyI l (k : Int))[dn])[j]? = some u → At W L ⟨b, off + dn * 2 + j, none⟩ u := by
  cases x with
  | some g =>
    have hk : k = l.length := by simpa using hx
    subst hk
    have e : bodyI l (l.length : Int) = [(2, 0)] := by unfold bodyI; rw [if_pos rfl]
    have hb : Value.slice (some ⟨g, 0, none⟩) 1 1 = .slice bb m cc := hb
    cases hb
    refine ⟨g, 0, rfl, fun L i hi j u hj => ?_⟩
    have hd0 : dn = 0 := by rw [e] at hd; simpa using hd
    subst hd0
    simp only [e, List.getElem_cons_zero] at hj
    rw [show 0 + 0 * 2 + j = j by omega]
    exact at_blk hi (by simpa [symC] using hj)
  | none =>
    have hk' : k < l.length := by
      have : ¬ k = l.length := by simpa using hx
      omega
    have e : bodyI l (k : Int) = (prodAt l (k : Int)).2 := by unfold bodyI; rw [if_neg (by omega)]
    have hs := (hv k hk').flat (f := symC) (by decide)
    have hb : vb k = .slice bb m cc := hb
    rw [hb] at hs
    obtain ⟨base, cap, h1, _, _, h3⟩ := hs
    cases h1
    have hd' : dn < (prodAt l (k : Int)).2.length := by rw [← e]; exact hd
    obtain ⟨b, off, rfl, hr⟩ := h3 (by omega)
    refine ⟨b, off, rfl, fun L i _ j u hj => ?_⟩
    simp only [e] at hj
    exact at_elL (W := W) (L := L) SymC_len (off := off) (fun q y hq => at_old0 ho (hr q y hq)) hd' j u hj
theorem looksI_lt (g : Gram) {it : itemL.Item} (h : it.2.2.toNat < 64) : looksI (lkG g) it < 18446744073709551616 := by
  have h1 : lkG g it.1 it.2.1 < 18446744073709551616 := begV_lt (by decide)
  unfold looksI
  split
  · exact Nat.or_lt_two_pow (n := 64) (Nat.xor_lt_two_pow (n := 64) h1 (by decide)) (Nat.pow_lt_pow_right (by decide) h)
  · exact h1
theorem expLook_le {i bits : Nat} {out : List itemL.Item} : ∀ k, (expLook i bits out k).length ≤ out.length + k
  | 0 => Nat.le_refl _
  | k + 1 => by
    rw [expLook]
    have := expLook_le (i := i) (bits := bits) (out := out) k
    have h2 : (more (expLook i bits out k) ((i : Int), 0, (k : Int))).length ≤ (expLook i bits out k).length + 1 := by unfold more; split <;> simp
    split <;> omega
theorem expProd_le {l : List gramL.Prod} {T : Nat} {N : Int} {bits : Nat} {out : List itemL.Item} : ∀ i, (expProd l T N bits out i).length ≤ out.length + i * (T + 1)
  | 0 => by rw [Nat.zero_mul]; exact Nat.le_refl _
  | i + 1 => by
    rw [expProd, Nat.succ_mul]
    have := expProd_le (l := l) (T := T) (N := N) (bits := bits) (out := out) i
    have h2 := expLook_le (i := i) (bits := bits) (out := expProd l T N bits out i) (T + 1)
    split <;> omega
theorem pickMem {L : List Own} {is : List Nat} {o : Own} (h : o ∈ is.filterMap fun i => L[i]?) : o ∈ L := by
  obtain ⟨i, _, hi⟩ := List.mem_filterMap.1 h
  exact List.mem_of_getElem? hi
/-- what the opener owns -/
def opL (g : Gram) (bp : Option Addr) (cp go gm : Nat) (f : RK → Option Value) (c : Nat) : List Own := [blkO go (opC g.terms g.nons (.slice bp g.prods.length cp) gm).toArray 69, mapO restK gm f c]
theorem firstsLe {κ : Type} [DecidableEq κ] : ∀ (l D : List κ), (firsts D l).length ≤ D.length + l.length
  | [], D => by simp [firsts]
  | k :: r, D => by
    rw [firsts]
    have := firstsLe r (if k ∈ D then D else D ++ [k])
    have h2 : (if k ∈ D then D else D ++ [k]).length ≤ D.length + 1 := by split <;> simp
    rw [List.length_cons]; omega
theorem right_ok {l : List gramL.Prod} {T : Nat} {x : itemL.Item} (h : RightI l T x) (hl : l.length ≤ 40) (hw : ∀ q ∈ l, q.2.length ≤ 8) (hT : T ≤ 30) : itK.ok x := by
  obtain ⟨a1, a2, a3, a4, a5, a6⟩ := h
  have := body_len (l := l) (p := x.1) hw
  exact ⟨⟨by omega, by omega⟩, ⟨by omega, by omega⟩, by omega, by omega⟩
def itClS (g : Gram) (T : Nat) (l0 : List itemL.Item) (bp : Option Addr) (cp go gm c : Nat) : Spec ((RK → Option Value) × Nat × Value) :=
  ⟨fun x => CacheOk (lkG g) x.1 ∧ x.2.1 ≤ c + 12000, fun x => x.2.2, fun x => opL g bp cp go gm x.1 x.2.1 ++ [rowO 31 3 x.2.2 (closedI g.prods T (lkG g) l0).length ((closedI g.prods T (lkG g) l0).flatMap itC)]⟩
theorem it_ok {i j : Nat} (hi : i ≤ 1000) (hj : j ≤ 1000) : itK.ok ((i : Int), 0, (j : Int)) := by
  show (-9223372036854775808 ≤ (i : Int) ∧ (i : Int) ≤ 9223372036854775807) ∧ (-9223372036854775808 ≤ (0 : Int) ∧ (0 : Int) ≤ 9223372036854775807) ∧ (-9223372036854775808 ≤ (j : Int) ∧ (j : Int) ≤ 9223372036854775807)
  omega
theorem build_it2 (a c : Int) (w : World) : (Instr.build 31 #[(0, .int .i64 a), (2, .int .i64 c)]).run Try.prog w = .ok (.agg #[.int .i64 a, .int .i64 0, .int .i64 c]) w := by kernel_rfl
attribute [local irreducible] Op.shift Go.bits in
set_option maxHeartbeats 8000000 in
theorem itClosed_calls (g : Gram) (hg : checkG g = 0) (bp : Option Addr) (cp : Nat) (vb : Nat → Value) (w0 : World) (hG : GraR (fun q => q < w0.heap.size) w0 (graV g.terms g.nons (.slice bp g.prods.length cp)) g) (hvb : BodR (fun q => q < w0.heap.size) w0 vb g.prods) (hrp : 0 < g.prods.length → ∃ b off, bp = some ⟨b, off, none⟩ ∧ ∀ i, i < g.prods.length → Rd w0 b (off + i * 2) [.int .i64 (prodAt g.prods (i : Int)).1, vb i])
    (go gm c : Nat) (f : RK → Option Value) (T : Nat) (hTt : g.terms = (T : Int)) (hT : T ≤ 30) (l0 : List itemL.Item) (vl : Value) (h0 : ∀ x ∈ l0, RightI g.prods T x) (hl0 : l0.length ≤ 20000) (hc : CacheOk (lkG g) f) (hcc : c ≤ 900000000000000) (w : World) (B : Base) (ho : Old w0 B) (hvl : SlB B vl l0.length (l0.flatMap itC))
    (hm : Mem B (opL g bp cp go gm f c) w) :
    Calls Try.prog 17 #[.pointer (some ⟨go, 0, none⟩), vl] w (MeetsB (itClS g T l0 bp cp go gm c) B) := by
  obtain ⟨-, -, -, -, hpl, hgb⟩ := checkG_ok hg
  have hwl : ∀ q ∈ g.prods, q.2.length ≤ 8 := fun q hq => (hgb q hq).1
  have hput := fun g5 gm2 g6 b v cn out it hit hp hb hn w' B' hm' => itPut_calls g5 gm2 g6 b v cn out it hit hp hb hn w' B' hm'
  unfold opL at hm
  obtain ⟨bl, cl, rfl, hc1, hc2, hrl⟩ := hvl
  unfold maxLen at hc2
  refine enterB hm (args := [.pointer (some ⟨go, 0, none⟩), .slice bl l0.length cl]) (n := 117) Try.func17 rfl rfl rfl ?_
  repeat (first
    | refine QV QP ?_ | refine QZ ?_ | refine qcT rfl ?_ | refine qcF rfl ?_ | refine E_blockX ?_ | refine E_blockO rfl ?_
    | refine qs rfl rfl rfl rfl rfl rfl ?_
    | ((try refine qg rfl rfl rfl ?_); first | refine QV QP ?_ | refine QV QL ?_ | refine QV QA ?_ | refine QV (rr_nilc rfl) ?_ | refine QV QlT ?_ | refine QV QlF ?_ | refine QV QeT ?_ | refine QV QeF ?_ | refine QV QnT ?_ | refine QV QnF ?_ | refine QV QaA ?_))
  refine TL_mapT itK (z := .int .i64 0) rfl fun gm2 => ?_
  conv => arg 8; simp only [zA, zB, zC, zD, zE, zF, zG, zH, zI, rowS, ret, id_eq]
  repeat (first
    | refine QV QP ?_ | refine QZ ?_ | refine qcT rfl ?_ | refine qcF rfl ?_ | refine E_blockX ?_ | refine E_blockO rfl ?_
    | refine qs rfl rfl rfl rfl rfl rfl ?_
    | ((try refine qg rfl rfl rfl ?_); first | refine QV QP ?_ | refine QV QL ?_ | refine QV QA ?_ | refine QV (rr_nilc rfl) ?_ | refine QV QlT ?_ | refine QV QlF ?_ | refine QV QeT ?_ | refine QV QeF ?_ | refine QV QnT ?_ | refine QV QnF ?_ | refine QV QaA ?_))
  refine TL_new rfl fun g5 => ?_
  conv => arg 8; simp only [zA, zB, zC, zD, zE, zF, zG, zH, zI, rowS, ret, id_eq]
  refine TL_store1 (i := 3) rfl rfl rfl rfl rfl rfl ?_
  conv => arg 8; simp only [zA, zB, zC, zD, zE, zF, zG, zH, zI, rowS, ret, id_eq]
  repeat (first
    | refine QV QP ?_ | refine QZ ?_ | refine qcT rfl ?_ | refine qcF rfl ?_ | refine E_blockX ?_ | refine E_blockO rfl ?_
    | refine qs rfl rfl rfl rfl rfl rfl ?_
    | ((try refine qg rfl rfl rfl ?_); first | refine QV QP ?_ | refine QV QL ?_ | refine QV QA ?_ | refine QV (rr_nilc rfl) ?_ | refine QV QlT ?_ | refine QV QlF ?_ | refine QV QeT ?_ | refine QV QeF ?_ | refine QV QnT ?_ | refine QV QnF ?_ | refine QV QaA ?_))
  refine TL_new rfl fun g6 => ?_
  conv => arg 8; simp only [zA, zB, zC, zD, zE, zF, zG, zH, zI, rowS, ret, id_eq]
  repeat (first
    | refine QV QP ?_ | refine QZ ?_ | refine qcT rfl ?_ | refine qcF rfl ?_ | refine E_blockX ?_ | refine E_blockO rfl ?_
    | refine qs rfl rfl rfl rfl rfl rfl ?_
    | ((try refine qg rfl rfl rfl ?_); first | refine QV QP ?_ | refine QV (rr_func rfl rfl) ?_ | refine QV QL ?_ | refine QV QA ?_ | refine QV (rr_nilc rfl) ?_ | refine QV QlT ?_ | refine QV QlF ?_ | refine QV QeT ?_ | refine QV QeF ?_ | refine QV QnT ?_ | refine QV QnF ?_ | refine QV QaA ?_))
  conv => arg 7; simp only [zA, zB, zC, zD, zE, zF, zG, zH, zI, rowS, ret, id_eq]
  refine T_extra (rowO 31 3 (.slice none 0 0) 0 []) (fun k hk => hk.elim (fun h => by cases h) id) (fun w => ⟨by decide, .inl ⟨rfl, rfl⟩⟩) ?_
  refine T_pick [0, 1, 3, 2, 4, 5] (by decide) rfl ?_
  conv => arg 7; simp only [zA, zB, zC, zD, zE, zF, zG, zH, zI, rowS, ret, id_eq]
  refine T_loop (ι := Nat × Value × (itemL.Item → Nat)) (fun (j, _, cn) => j ≤ l0.length ∧ PutOk cn (firsts [] (l0.take j)) (2 * j)) (fun (j, _, _) => [(0, .pointer (some ⟨go, 0, none⟩)), (6, .pointer (some ⟨g6, 0, none⟩)), (7, .func (.func 28) #[] #[.pointer (some ⟨g5, 0, none⟩), .pointer (some ⟨g6, 0, none⟩)]), (18, .slice bl l0.length cl), (19, .int .i64 (l0.length : Int)), (20, .int .i64 (j : Int))])
    (fun (j, v, cn) => [blkO go (opC g.terms g.nons (.slice bp g.prods.length cp) gm).toArray 69, mapO restK gm f c] ++ putL g5 gm2 g6 (2 * j) v cn (firsts [] (l0.take j))) (fun (j, _, _) => l0.length - j) (0, .slice none 0 0, fun _ => 0) ⟨Nat.zero_le _, ⟨fun x => by simp [firsts], fun x => Nat.zero_le _⟩⟩ (by repeat' (first | exact True.intro | refine And.intro rfl ?_)) rfl ?_
  rintro ⟨j, v, cn⟩ ⟨j1, j2⟩
  dsimp only at j1 j2 ⊢
  by_cases c1 : j < l0.length
  · obtain ⟨b, off, rfl, hb1, hb2⟩ := hrl (by omega)
    have hat := fun L => at_elL (W := B) (L := L) itC_len (off := off) (fun q u hq => at_oldB hb1 hb2 q u hq) c1
    have hx0 := h0 l0[j] (List.getElem_mem c1)
    have hxo := right_ok hx0 hpl hwl hT
    have hnd : (firsts [] (l0.take j)).length ≤ j := Nat.le_trans (firstsLe _ _) (by rw [List.length_nil, List.length_take]; omega)
    have hnx : more (firsts [] (l0.take j)) l0[j] = firsts [] (l0.take (j + 1)) := by rw [List.take_succ_eq_append_getElem c1, firsts_snoc]
    have hpo := j2.put l0[j]
    rw [hnx] at hpo
    have hput := fun w' B' hm' => hput g5 gm2 g6 (2 * j) v cn (firsts [] (l0.take j)) l0[j] hxo j2 (by omega) (by omega) w' B' hm'
    rw [hnx] at hput
    generalize firsts [] (l0.take j) = out at *
    generalize hoq : firsts [] (l0.take (j + 1)) = out' at *
    generalize l0[j] = x at *
    repeat (first
      | refine QV QP ?_ | refine QZ ?_ | refine qcT rfl ?_ | refine qcF rfl ?_ | refine E_blockX ?_ | refine E_blockO rfl ?_
      | refine qs rfl rfl rfl rfl rfl rfl ?_
      | ((try refine qg rfl rfl rfl ?_); first | refine QV QP ?_ | refine QV (rr_idxc Und.eq TyC.ty rfl rfl c1) ?_ | refine QV (rr_loadN TyC.ty rfl (itC_len x) (hat _)) ?_ | refine QV QL ?_ | refine QV QA ?_ | refine QV (rr_nilc rfl) ?_ | refine QV QlT ?_ | refine QV QlF ?_ | refine QV QeT ?_ | refine QV QeF ?_ | refine QV QnT ?_ | refine QV QnF ?_ | refine QV QaA ?_))
    refine TL_new rfl fun g9 => ?_
    conv => arg 8; simp only [zA, zB, zC, zD, zE, zF, zG, zH, zI, rowS, ret, id_eq]
    refine TL_storeB (i := 6) (cs' := (itC x).toArray) rfl rfl rfl rfl rfl rfl ?_
    conv => arg 8; simp only [zA, zB, zC, zD, zE, zF, zG, zH, zI, rowS, ret, id_eq]
    repeat (first
      | refine QV QP ?_ | refine QZ ?_ | refine qcT rfl ?_ | refine qcF rfl ?_ | refine E_blockX ?_ | refine E_blockO rfl ?_
      | refine qs rfl rfl rfl rfl rfl rfl ?_
      | ((try refine qg rfl rfl rfl ?_); first | refine QV QP ?_ | refine QV (rr_loadB (i := 6) TyC.ty rfl rfl rfl) ?_ | refine QV QL ?_ | refine QV QA ?_ | refine QV (rr_nilc rfl) ?_ | refine QV QlT ?_ | refine QV QlF ?_ | refine QV QeT ?_ | refine QV QeF ?_ | refine QV QnT ?_ | refine QV QnF ?_ | refine QV QaA ?_))
    refine TL_callB [2, 3, 4, 5] [0, 1, 6] (by decide) rfl rfl (he1c EntersC.en rfl rfl) (fun w hm hb => hput w _ hb) rfl rfl rfl ?_
    intro v' _
    conv => arg 8; simp only [zA, zB, zC, zD, zE, zF, zG, zH, zI, rowS, ret, id_eq]
    repeat (first
      | refine QV QP ?_ | refine QZ ?_ | refine qcT rfl ?_ | refine qcF rfl ?_ | refine E_blockX ?_ | refine E_blockO rfl ?_
      | refine qs rfl rfl rfl rfl rfl rfl ?_
      | ((try refine qg rfl rfl rfl ?_); first | refine QV QP ?_ | refine QV QL ?_ | refine QV QA ?_ | refine QV (rr_nilc rfl) ?_ | refine QV QlT ?_ | refine QV QlF ?_ | refine QV QeT ?_ | refine QV QeF ?_ | refine QV QnT ?_ | refine QV QnF ?_ | refine QV QaA ?_))
    refine E_pick [0, 1, 3, 4, 5, 6] (by decide) rfl ?_
    exact E_round (j + 1, v', itUp cn x) ⟨by show j + 1 ≤ l0.length; omega, by show PutOk _ (firsts [] (l0.take (j + 1))) _; rw [hoq]; exact hpo⟩ (by show l0.length - (j + 1) < l0.length - j; omega) (by repeat' (first | exact True.intro | refine And.intro rfl ?_)) (by dsimp only; rw [hoq]; rfl)
  · obtain rfl : j = l0.length := by omega
    rw [List.take_length] at j2
    have hfl : (firsts [] l0).length ≤ 20000 := Nat.le_trans (firstsLe _ _) (by rw [List.length_nil]; omega)
    clear hrl
    repeat (first
      | refine QV QP ?_ | refine QZ ?_ | refine qcT rfl ?_ | refine qcF rfl ?_ | refine E_blockX ?_ | refine E_blockO rfl ?_
      | refine qs rfl rfl rfl rfl rfl rfl ?_
      | ((try refine qg rfl rfl rfl ?_); first | refine QV QP ?_ | refine QV QL ?_ | refine QV QA ?_ | refine QV (rr_nilc rfl) ?_ | refine QV QlT ?_ | refine QV QlF ?_ | refine QV QeT ?_ | refine QV QeF ?_ | refine QV QnT ?_ | refine QV QnF ?_ | refine QV QaA ?_))
    conv => arg 7; simp only [zA, zB, zC, zD, zE, zF, zG, zH, zI, rowS, ret, id_eq, List.take_length, putL, List.cons_append, List.nil_append]
    refine T_loop (ι := Nat × List itemL.Item × (RK → Option Value) × Nat × Value × (itemL.Item → Nat) × Nat) (fun (n, out, f', c', _, cn', b) => WkI g.prods T (lkG g) l0 n out ∧ workI g.prods T (lkG g) (12000 - n) n out = workI g.prods T (lkG g) 12000 0 (firsts [] l0) ∧ CacheOk (lkG g) f' ∧ c' ≤ c + n ∧ PutOk cn' out b ∧ b ≤ 40000 + 2480 * n)
      (fun (n, _, _, _, _, _, _) => [(0, .pointer (some ⟨go, 0, none⟩)), (6, .pointer (some ⟨g6, 0, none⟩)), (7, .func (.func 28) #[] #[.pointer (some ⟨g5, 0, none⟩), .pointer (some ⟨g6, 0, none⟩)]), (10, .int .i64 (n : Int))])
      (fun (_, out, f', c', v', cn', b) => [blkO go (opC g.terms g.nons (.slice bp g.prods.length cp) gm).toArray 69, mapO restK gm f' c', blkO g5 #[.map (some gm2)] 70, mapT itK gm2 (.int .i64 0) (itCnt cn') b, blkO g6 #[v'] 25, rowO 31 3 v' out.length (out.flatMap itC)]) (fun (n, _) => 12000 - n) (0, firsts [] l0, f, c, v, cn, 2 * l0.length) ⟨wk_start l0, rfl, hc, Nat.le_refl _, j2, by omega⟩ (by repeat' (first | exact True.intro | refine And.intro rfl ?_)) rfl ?_
    rintro ⟨n, out, f', c', v', cn', b⟩ ⟨i1, i2, i3, i4, i5, i6⟩
    dsimp only at i1 i2 i3 i4 i5 i6 ⊢
    have hfew := items_few hwl hpl hT i1.nd fun x hx => right_cl h0 (i1.cl x hx)
    refine T_know (i := 5) rfl row_slm fun hrow => ?_
    obtain ⟨bv, cv, rfl, -, hab⟩ := hrow
    by_cases c2 : n < out.length
    · obtain ⟨gz, rfl⟩ := hab (by omega)
      have hcl := i1.cl out[n] (List.getElem_mem c2)
      have hxr := right_cl h0 hcl
      have hat := fun (L : List Own) (i : Nat) (hL : L[i]? = some (rowO 31 3 (.slice (some ⟨gz, 0, none⟩) out.length cv) out.length (out.flatMap itC))) => at_rowel (W := B) itC_len hL c2
      have hwx : workI g.prods T (lkG g) (12000 - (n + 1)) (n + 1) (expI g.prods T (lkG g) out[n] out) = workI g.prods T (lkG g) 12000 0 (firsts [] l0) := by
        rw [← i2, show 12000 - n = (12000 - (n + 1)) + 1 by omega, workI, if_pos c2, List.getD_eq_getElem?_getD, List.getElem?_eq_getElem c2]; rfl
      have hwk := wk_step i1 c2
      clear i2 hcl
      generalize hxx : out[n] = x at *
      obtain ⟨p, d, lo⟩ := x
      have hxr2 := hxr
      obtain ⟨r1, r2, r3, r4, r5, r6⟩ := hxr2
      dsimp only at r1 r2 r3 r4 r5 r6
      obtain ⟨k, rfl⟩ := Int.eq_ofNat_of_zero_le r1
      obtain ⟨dn, rfl⟩ := Int.eq_ofNat_of_zero_le r3
      obtain ⟨ln, rfl⟩ := Int.eq_ofNat_of_zero_le r5
      have hk : k ≤ g.prods.length := by omega
      have hbd := fun w' (hm' : Mem B [] w') => itBody_calls g.terms g.nons bp cp g.prods vb w0 w' B k hk ho hm' (fun i hi => let ⟨b, c, h, _⟩ := hvb i hi; ⟨b, _, c, h⟩) hrp
      repeat (first
        | refine QV QP ?_ | refine QZ ?_ | refine qcT rfl ?_ | refine qcF rfl ?_ | refine E_blockX ?_ | refine E_blockO rfl ?_
        | refine qs rfl rfl rfl rfl rfl rfl ?_
        | ((try refine qg rfl rfl rfl ?_); first | refine QV QP ?_ | refine QV (rr_load1 (v := .slice (some ⟨gz, 0, none⟩) out.length cv) TyC.ty rfl (at_blk (i := 4) rfl rfl)) ?_ | refine QV (rr_rowlen (i := 5) Und.eq rfl rfl) ?_ | refine QV QL ?_ | refine QV QA ?_ | refine QV (rr_nilc rfl) ?_ | refine QV QlT ?_ | refine QV QlF ?_ | refine QV QeT ?_ | refine QV QeF ?_ | refine QV QnT ?_ | refine QV QnF ?_ | refine QV QaA ?_))
      refine T_ord ([blkO go (opC g.terms g.nons (.slice bp g.prods.length cp) gm).toArray 69, blkO g6 #[.slice (some ⟨gz, 0, none⟩) out.length cv] 25, rowO 31 3 (.slice (some ⟨gz, 0, none⟩) out.length cv) out.length (out.flatMap itC)]) (.calm 0 (.calm 1 (.calm 2 (.calm 3 (.calm 4 (.calm 5 (.calm 6 (.calm 7 (.calm 8 (.one 9 (.calm 10 (.done)))))))))))) (sub_pick [0, 4, 5] (by decide) rfl) (by kernel_rfl) (by kernel_rfl) (by intro c a d v w h; cases d <;> exact h) ?_
      repeat (first
        | ((first | refine TW_plain rfl rfl ?_ | refine TW_gmet rfl rfl rfl rfl ?_); first | refine QW QP ?_ | refine QW (rr_nilc rfl) ?_ | refine QW (rr_loadN TyC.ty rfl (cs := [.int .i64 g.terms, .int .i64 g.nons, .slice bp g.prods.length cp]) rfl (fun j v h => at_blk (i := 0) rfl (op_gram h))) ?_ | refine QW (rr_load1 (v := .slice (some ⟨gz, 0, none⟩) out.length cv) TyC.ty rfl (at_blk (i := 1) rfl rfl)) ?_ | refine QW (rr_idxc Und.eq TyC.ty rfl rfl c2) ?_ | refine QW (rr_load1 (v := .int .i64 (k : Int)) TyC.ty rfl (hat _ 2 rfl 0 _ rfl)) ?_ | refine QW QL ?_ | refine QW QA ?_ | refine QW (rr_nilc rfl) ?_ | refine QW QlT ?_ | refine QW QlF ?_ | refine QW QeT ?_ | refine QW QeF ?_ | refine QW QnT ?_ | refine QW QnF ?_ | refine QW QaA ?_)
        | refine TW_skip rfl rfl rfl rfl rfl rfl rfl ?_ | refine TW_done ?_)
      refine TW_one rfl ?_
      refine TL_call (he2 EntersC.en rfl rfl rfl) (fun w hm => hbd _ (hm.pick [] (by decide) rfl)) rfl rfl rfl ?_
      rintro xb hxb
      conv => arg 8; simp only [zA, zB, zC, zD, zE, zF, zG, zH, zI, rowS, ret, id_eq, bodyS]
      conv => arg 7; simp only [bodyS]
      obtain ⟨bb, cc, hbv, hlc, -⟩ := body_slL (W := B) (i := 6) (L := [blkO go (opC g.terms g.nons (.slice bp g.prods.length cp) gm).toArray 69, mapO restK gm f' c', blkO g5 #[.map (some gm2)] 70, mapT itK gm2 (.int .i64 0) (itCnt cn') b, blkO g6 #[.slice (some ⟨gz, 0, none⟩) out.length cv] 25, rowO 31 3 (.slice (some ⟨gz, 0, none⟩) out.length cv) out.length (out.flatMap itC), bodO xb]) ho hvb hk hxb rfl
      have hsl := fun (L : List Own) (i : Nat) (hi : L[i]? = some (bodO xb)) => (body_slL (W := B) (L := L) ho hvb hk hxb hi)
      rw [hbv] at hsl ⊢
      have hb8 := body_len (l := g.prods) (p := (k : Int)) hwl
      refine TW_on (sub_pick [0, 4, 5] (by decide) rfl) ?_
      repeat (first
        | ((first | refine TW_plain rfl rfl ?_ | refine TW_gmet rfl rfl rfl rfl ?_); first | refine QW QP ?_ | refine QW QL ?_ | refine QW QA ?_ | refine QW (rr_nilc rfl) ?_ | refine QW QlT ?_ | refine QW QlF ?_ | refine QW QeT ?_ | refine QW QeF ?_ | refine QW QnT ?_ | refine QW QnF ?_ | refine QW QaA ?_)
        | refine TW_skip rfl rfl rfl rfl rfl rfl rfl ?_ | refine TW_done ?_)
      clear hbd
      by_cases c3 : dn = (bodyI g.prods (k : Int)).length
      · repeat (first
          | refine QV QP ?_ | refine QZ ?_ | refine qcT rfl ?_ | refine qcF rfl ?_ | refine E_blockX ?_ | refine E_blockO rfl ?_
          | refine qs rfl rfl rfl rfl rfl rfl ?_
          | ((try refine qg rfl rfl rfl ?_); first | refine QV QP ?_ | refine QV (rr_load1 (v := .slice (some ⟨gz, 0, none⟩) out.length cv) TyC.ty rfl (at_blk (i := 4) rfl rfl)) ?_ | refine QV (rr_idxc Und.eq TyC.ty rfl rfl c2) ?_ | refine QV (rr_load1 (v := .int .i64 (dn : Int)) TyC.ty rfl (hat _ 5 rfl 1 _ rfl)) ?_ | refine QV (rr_eql (b := true) rfl rfl (decide_eq_true (by omega))) ?_ | refine QV QL ?_ | refine QV QA ?_ | refine QV (rr_nilc rfl) ?_ | refine QV QlT ?_ | refine QV QlF ?_ | refine QV QeT ?_ | refine QV QeF ?_ | refine QV QnT ?_ | refine QV QnF ?_ | refine QV QaA ?_))
        have hexp : expI g.prods T (lkG g) ((k : Int), (dn : Int), (ln : Int)) out = out := by
          unfold expI nextS
          dsimp only
          rw [Int.toNat_natCast, List.getElem?_eq_none (by omega)]
        rw [hexp] at hwk hwx
        refine E_pick [0, 1, 2, 3, 4, 5] (by decide) rfl ?_
        exact E_round (n + 1, out, f', c', .slice (some ⟨gz, 0, none⟩) out.length cv, cn', b) ⟨hwk, hwx, i3, by show c' ≤ c + (n + 1); omega, i5, by show b ≤ 40000 + 2480 * (n + 1); omega⟩ (by show 12000 - (n + 1) < 12000 - n; omega) (by repeat' (first | exact True.intro | refine And.intro rfl ?_)) rfl
      · have hlt : dn < (bodyI g.prods (k : Int)).length := by omega
        obtain ⟨b2, o2, rfl, hba⟩ := body_at ho hvb hk hxb hbv hlt
        have hnx : nextS g.prods ((k : Int), (dn : Int), (ln : Int)) = some (bodyI g.prods (k : Int))[dn] := by
          unfold nextS
          dsimp only
          rw [Int.toNat_natCast, List.getElem?_eq_getElem hlt]
        generalize hyy : (bodyI g.prods (k : Int))[dn] = y at *
        obtain ⟨yk, yn⟩ := y
        by_cases c4 : yk = 2
        · subst c4
          have hexp : expI g.prods T (lkG g) ((k : Int), (dn : Int), (ln : Int)) out = expProd g.prods T yn (looksI (lkG g) ((k : Int), (dn : Int), (ln : Int))) out g.prods.length := by
            unfold expI
            rw [hnx]
            dsimp only
            rw [if_pos rfl]
          rw [hexp] at hwk hwx
          repeat (first
            | refine QV QP ?_ | refine QZ ?_ | refine qcT rfl ?_ | refine qcF rfl ?_ | refine E_blockX ?_ | refine E_blockO rfl ?_
            | refine qs rfl rfl rfl rfl rfl rfl ?_
            | ((try refine qg rfl rfl rfl ?_); first | refine QV QP ?_ | refine QV (rr_load1 (v := .slice (some ⟨gz, 0, none⟩) out.length cv) TyC.ty rfl (at_blk (i := 4) rfl rfl)) ?_ | refine QV (rr_idxc Und.eq TyC.ty rfl rfl c2) ?_ | refine QV (rr_idxc Und.eq TyC.ty rfl rfl hlt) ?_ | refine QV (rr_load1 (v := .int .i64 (dn : Int)) TyC.ty rfl (hat _ 5 rfl 1 _ rfl)) ?_ | refine QV (rr_eql (b := false) rfl rfl (decide_eq_false (by omega))) ?_ | refine QV (rr_load1 (v := .int .i64 2) TyC.ty rfl (hba _ 6 rfl 0 _ rfl)) ?_ | refine QV (rr_neq (b := false) rfl rfl (decide_eq_false (fun h => h rfl))) ?_ | refine QV (rr_loadN (cs := itC ((k : Int), (dn : Int), (ln : Int))) TyC.ty rfl rfl (hat _ 5 rfl)) ?_ | refine QV QL ?_ | refine QV QA ?_ | refine QV (rr_nilc rfl) ?_ | refine QV QlT ?_ | refine QV QlF ?_ | refine QV QeT ?_ | refine QV QeF ?_ | refine QV QnT ?_ | refine QV QnF ?_ | refine QV QaA ?_))
          refine TL_callB [0, 1] [2, 3, 4, 5, 6] (by decide) rfl rfl (he2 EntersC.en rfl rfl rfl) (fun w hm hb => looks_calls g hg bp cp vb w0 hG hvb hrp go gm c' f' ((k : Int), (dn : Int), (ln : Int)) T hT hxr (by dsimp only; rw [Int.toNat_natCast]; exact hlt) i3 (by omega) w _ (ho.on hm fun o h => pickMem h) hb) rfl rfl rfl ?_
          rintro ⟨f2, c2'⟩ ⟨hf2, hc2'⟩
          dsimp only at hf2 hc2'
          conv => arg 8; simp only [zA, zB, zC, zD, zE, zF, zG, zH, zI, rowS, ret, id_eq]
          have hblt := looksI_lt g (it := ((k : Int), (dn : Int), (ln : Int))) (by show ((ln : Int)).toNat < 64; omega)
          generalize looksI (lkG g) ((k : Int), (dn : Int), (ln : Int)) = bits at *
          repeat (first
            | refine QV QP ?_ | refine QZ ?_ | refine qcT rfl ?_ | refine qcF rfl ?_ | refine E_blockX ?_ | refine E_blockO rfl ?_
            | refine qs rfl rfl rfl rfl rfl rfl ?_
            | ((try refine qg rfl rfl rfl ?_); first | refine QV QP ?_ | refine QV (rr_load1 (v := .slice bp g.prods.length cp) TyC.ty rfl (at_blk (i := 5) rfl rfl)) ?_ | refine QV QL ?_ | refine QV QA ?_ | refine QV (rr_nilc rfl) ?_ | refine QV QlT ?_ | refine QV QlF ?_ | refine QV QeT ?_ | refine QV QeF ?_ | refine QV QnT ?_ | refine QV QnF ?_ | refine QV QaA ?_))
          refine T_pick [5, 6, 0, 1, 2, 3, 4] (by decide) rfl ?_
          conv => arg 7; simp only [zA, zB, zC, zD, zE, zF, zG, zH, zI, rowS, ret, id_eq]
          refine T_loop (ι := Nat × Value × (itemL.Item → Nat) × Nat) (fun (i, _, cn2, b3) => i ≤ g.prods.length ∧ PutOk cn2 (expProd g.prods T yn bits out i) b3 ∧ b3 ≤ b + 62 * i)
            (fun (i, _, _, _) => [(0, .pointer (some ⟨go, 0, none⟩)), (6, .pointer (some ⟨g6, 0, none⟩)), (7, .func (.func 28) #[] #[.pointer (some ⟨g5, 0, none⟩), .pointer (some ⟨g6, 0, none⟩)]), (10, .int .i64 (n : Int)), (11, .slice (some ⟨b2, o2, none⟩) (bodyI g.prods (k : Int)).length cc), (12, bitV bits), (74, .slice bp g.prods.length cp), (75, .int .i64 (g.prods.length : Int)), (76, .int .i64 (i : Int))])
            (fun (i, v2, cn2, b3) => [blkO go (opC g.terms g.nons (.slice bp g.prods.length cp) gm).toArray 69, mapO restK gm f2 c2', blkO g5 #[.map (some gm2)] 70, mapT itK gm2 (.int .i64 0) (itCnt cn2) b3, blkO g6 #[v2] 25, rowO 31 3 v2 (expProd g.prods T yn bits out i).length ((expProd g.prods T yn bits out i).flatMap itC), bodO xb]) (fun (i, _) => g.prods.length - i) (0, .slice (some ⟨gz, 0, none⟩) out.length cv, cn', b) ⟨Nat.zero_le _, i5, by omega⟩ (by repeat' (first | exact True.intro | refine And.intro rfl ?_)) rfl ?_
          rintro ⟨i, v2, cn2, b3⟩ ⟨p1, p2, p3⟩
          dsimp only at p1 p2 p3 ⊢
          by_cases c5 : i < g.prods.length
          · obtain ⟨E, hE⟩ := expProd_pre (l := g.prods) (T := T) yn bits out i
            have hnd := expProd_le (l := g.prods) (T := T) (N := yn) (bits := bits) (out := out) i
            have hnx2 : expProd g.prods T yn bits out (i + 1) = if (prodAt g.prods (i : Int)).1 = yn then expLook i bits (expProd g.prods T yn bits out i) (T + 1) else expProd g.prods T yn bits out i := rfl
            have hm30 : i * (T + 1) ≤ 40 * 31 := Nat.mul_le_mul (by omega) (by omega)
            generalize hou : expProd g.prods T yn bits out i = ou at *
            have hno : n < ou.length := by rw [hE, List.length_append]; omega
            have hox : ou[n] = ((k : Int), (dn : Int), (ln : Int)) := by
              subst hE
              rw [List.getElem_append_left c2]; exact hxx
            refine T_know (i := 5) rfl row_slm fun hrow => ?_
            obtain ⟨bv2, cv2, rfl, -, hab2⟩ := hrow
            obtain ⟨gz2, rfl⟩ := hab2 (by omega)
            have hat2 := fun (L : List Own) (i : Nat) (hL : L[i]? = some (rowO 31 3 (.slice (some ⟨gz2, 0, none⟩) ou.length cv2) ou.length (ou.flatMap itC))) => at_rowel (W := B) itC_len hL hno
            rw [hox] at hat2
            obtain ⟨pb, po, rfl, hpr⟩ := hrp (by omega)
            have hpi := hpr i c5
            have hvo : (vb i).oneCell' = true := slf_one (hvb i c5)
            generalize hhd : (prodAt g.prods (i : Int)).1 = hd at *
            generalize vb i = vbi at hpi hvo
            repeat (first
              | refine QV QP ?_ | refine QZ ?_ | refine qcT rfl ?_ | refine qcF rfl ?_ | refine E_blockX ?_ | refine E_blockO rfl ?_
              | refine qs rfl rfl rfl rfl rfl rfl ?_
              | ((try refine qg rfl rfl rfl ?_); first | refine QV QP ?_ | refine QV (rr_idxc Und.eq TyC.ty rfl rfl c5) ?_ | refine QV (rr_loadN TyC.ty rfl (cs := [.int .i64 hd, vbi]) rfl (fun j v h => at_old0 ho (hpi j v h))) ?_ | refine QV QL ?_ | refine QV QA ?_ | refine QV (rr_nilc rfl) ?_ | refine QV QlT ?_ | refine QV QlF ?_ | refine QV QeT ?_ | refine QV QeF ?_ | refine QV QnT ?_ | refine QV QnF ?_ | refine QV QaA ?_))
            refine TL_new rfl fun g14 => ?_
            conv => arg 8; simp only [zA, zB, zC, zD, zE, zF, zG, zH, zI, rowS, ret, id_eq]
            repeat (first
              | refine QV QP ?_ | refine QZ ?_ | refine qcT rfl ?_ | refine qcF rfl ?_ | refine E_blockX ?_ | refine E_blockO rfl ?_
              | refine qs rfl rfl rfl rfl rfl rfl ?_
              | ((try refine qg rfl rfl rfl ?_); first | refine QV QP ?_ | refine QV QL ?_ | refine QV QA ?_ | refine QV (rr_nilc rfl) ?_ | refine QV QlT ?_ | refine QV QlF ?_ | refine QV QeT ?_ | refine QV QeF ?_ | refine QV QnT ?_ | refine QV QnF ?_ | refine QV QaA ?_))
            refine TL_storeB (i := 7) (cs' := #[.int .i64 hd, vbi]) rfl rfl rfl rfl (by simp only [List.all_cons, List.all_nil, hvo]; rfl) rfl ?_
            conv => arg 8; simp only [zA, zB, zC, zD, zE, zF, zG, zH, zI, rowS, ret, id_eq]
            repeat (first
              | refine QV QP ?_ | refine QZ ?_ | refine qcT rfl ?_ | refine qcF rfl ?_ | refine E_blockX ?_ | refine E_blockO rfl ?_
              | refine qs rfl rfl rfl rfl rfl rfl ?_
              | ((try refine qg rfl rfl rfl ?_); first | refine QV QP ?_ | refine QV QL ?_ | refine QV QA ?_ | refine QV (rr_nilc rfl) ?_ | refine QV QlT ?_ | refine QV QlF ?_ | refine QV QeT ?_ | refine QV QeF ?_ | refine QV QnT ?_ | refine QV QnF ?_ | refine QV QaA ?_))
            refine T_ord ([blkO g14 #[.int .i64 hd, vbi] 55, blkO g6 #[.slice (some ⟨gz2, 0, none⟩) ou.length cv2] 25, rowO 31 3 (.slice (some ⟨gz2, 0, none⟩) ou.length cv2) ou.length (ou.flatMap itC), bodO xb]) (.calm 0 (.calm 1 (.calm 2 (.calm 3 (.calm 4 (.calm 5 (.calm 6 (.calm 7 (.calm 8 (.calm 9 (.calm 10 (.calm 11 (.done))))))))))))) (sub_pick [7, 4, 5, 6] (by decide) rfl) (by kernel_rfl) (by kernel_rfl) (by intro c a d v w h; cases d <;> exact h) ?_
            by_cases c6 : hd = yn
            · rw [if_pos c6] at hnx2
              repeat (first
                | ((first | refine TW_plain rfl rfl ?_ | refine TW_gmet rfl rfl rfl rfl ?_); first | refine QW QP ?_ | refine QW (rr_load1 (v := .int .i64 hd) TyC.ty rfl (at_blk (i := 0) rfl rfl)) ?_ | refine QW (rr_load1 (v := .slice (some ⟨gz2, 0, none⟩) ou.length cv2) TyC.ty rfl (at_blk (i := 1) rfl rfl)) ?_ | refine QW (rr_idxc Und.eq TyC.ty rfl rfl hno) ?_ | refine QW (rr_load1 (v := .int .i64 (dn : Int)) TyC.ty rfl (hat2 _ 2 rfl 1 _ rfl)) ?_ | refine QW (rr_idxc Und.eq TyC.ty rfl rfl hlt) ?_ | refine QW (rr_load1 (v := .int .i64 yn) TyC.ty rfl (hba _ 3 rfl 1 _ rfl)) ?_ | refine QW (rr_neq (b := false) rfl rfl (decide_eq_false (fun h => h c6))) ?_ | refine QW QL ?_ | refine QW QA ?_ | refine QW (rr_nilc rfl) ?_ | refine QW QlT ?_ | refine QW QlF ?_ | refine QW QeT ?_ | refine QW QeF ?_ | refine QW QnT ?_ | refine QW QnF ?_ | refine QW QaA ?_)
                | refine TW_skip rfl rfl rfl rfl rfl rfl rfl ?_ | refine TW_done ?_)
              repeat (first
                | refine QV QP ?_ | refine QZ ?_ | refine qcT rfl ?_ | refine qcF rfl ?_ | refine E_blockX ?_ | refine E_blockO rfl ?_
                | refine qs rfl rfl rfl rfl rfl rfl ?_
                | ((try refine qg rfl rfl rfl ?_); first | refine QV QP ?_ | refine QV (rr_load1 (v := .int .i64 g.terms) TyC.ty rfl (at_blk (i := 0) rfl rfl)) ?_ | refine QV (rr_add64 (r := ((T + 1 : Nat) : Int)) rfl rfl (by omega) (by omega) (by omega)) ?_ | refine QV QL ?_ | refine QV QA ?_ | refine QV (rr_nilc rfl) ?_ | refine QV QlT ?_ | refine QV QlF ?_ | refine QV QeT ?_ | refine QV QeF ?_ | refine QV QnT ?_ | refine QV QnF ?_ | refine QV QaA ?_))
              refine T_pick [0, 1, 2, 3, 4, 5, 6] (by decide) rfl ?_
              conv => arg 7; simp only [zA, zB, zC, zD, zE, zF, zG, zH, zI, rowS, ret, id_eq]
              refine T_loop (ι := Nat × Value × (itemL.Item → Nat) × Nat) (fun (j, _, cn3, b4) => j ≤ T + 1 ∧ PutOk cn3 (expLook i bits ou j) b4 ∧ b4 ≤ b3 + 2 * j)
                (fun (j, _, _, _) => [(0, .pointer (some ⟨go, 0, none⟩)), (6, .pointer (some ⟨g6, 0, none⟩)), (7, .func (.func 28) #[] #[.pointer (some ⟨g5, 0, none⟩), .pointer (some ⟨g6, 0, none⟩)]), (10, .int .i64 (n : Int)), (11, .slice (some ⟨b2, o2, none⟩) (bodyI g.prods (k : Int)).length cc), (12, bitV bits), (13, .int .i64 (i : Int)), (74, .slice (some ⟨pb, po, none⟩) g.prods.length cp), (75, .int .i64 (g.prods.length : Int)), (76, .int .i64 (i : Int)), (98, .int .i64 ((T + 1 : Nat) : Int)), (99, .int .i64 (j : Int))])
                (fun (j, v3, cn3, b4) => [blkO go (opC g.terms g.nons (.slice (some ⟨pb, po, none⟩) g.prods.length cp) gm).toArray 69, mapO restK gm f2 c2', blkO g5 #[.map (some gm2)] 70, mapT itK gm2 (.int .i64 0) (itCnt cn3) b4, blkO g6 #[v3] 25, rowO 31 3 v3 (expLook i bits ou j).length ((expLook i bits ou j).flatMap itC), bodO xb]) (fun (j, _) => T + 1 - j) (0, .slice (some ⟨gz2, 0, none⟩) ou.length cv2, cn2, b3) ⟨Nat.zero_le _, p2, by omega⟩ (by repeat' (first | exact True.intro | refine And.intro rfl ?_)) rfl ?_
              rintro ⟨j, v3, cn3, b4⟩ ⟨s1, s2, s3⟩
              dsimp only at s1 s2 s3 ⊢
              by_cases c7 : j < T + 1
              · have hle6 := expLook_le (i := i) (bits := bits) (out := ou) j
                have hnx3 : expLook i bits ou (j + 1) = if bits.testBit j = true then more (expLook i bits ou j) ((i : Int), 0, (j : Int)) else expLook i bits ou j := rfl
                have hpo := s2.put ((i : Int), 0, (j : Int))
                have hdv : bits / 2 ^ j ≤ bits := Nat.div_le_self _ _
                have ha1 := and1 (y := bits / 2 ^ j) (by omega)
                have hs1 : ∀ w, (Op.shift .shr .u64 (bits : Int) .i64 (j : Int)).run Try.prog w = .ok (.int .u64 ((bits / 2 ^ j : Nat) : Int)) w := fun w => shrU2 bits j 64 .u64 .i64 rfl (by omega) w
                have hbd := bit_dec bits j
                generalize hol : expLook i bits ou j = ol at *
                generalize bits / 2 ^ j = D1 at *
                by_cases c8 : bits.testBit j = true
                · rw [if_pos c8] at hnx3
                  have hb1 : D1 % 2 = 1 := by rw [c8] at hbd; simpa using hbd
                  repeat (first
                    | refine QV QP ?_ | refine QZ ?_ | refine qcT rfl ?_ | refine qcF rfl ?_ | refine E_blockX ?_ | refine E_blockO rfl ?_
                    | refine qs rfl rfl rfl rfl rfl rfl ?_
                    | ((try refine qg rfl rfl rfl ?_); first | refine QV QP ?_ | refine QV (rr_shr rfl rfl hs1) ?_ | refine QV (rr_and rfl rfl ha1) ?_ | refine QV (rr_eql (b := true) rfl rfl (decide_eq_true (by omega))) ?_ | refine QV (rr_build rfl (build_it2 _ _)) ?_ | refine QV QL ?_ | refine QV QA ?_ | refine QV (rr_nilc rfl) ?_ | refine QV QlT ?_ | refine QV QlF ?_ | refine QV QeT ?_ | refine QV QeF ?_ | refine QV QnT ?_ | refine QV QnF ?_ | refine QV QaA ?_))
                  refine TL_callB [2, 3, 4, 5] [0, 1, 6] (by decide) rfl rfl (he1c EntersC.en rfl rfl) (fun w hm hb => hput g5 gm2 g6 b4 v3 cn3 ol ((i : Int), 0, (j : Int)) (it_ok (by omega) (by omega)) s2 (by omega) (by omega) w _ hb) rfl rfl rfl ?_
                  intro v4 _
                  conv => arg 8; simp only [zA, zB, zC, zD, zE, zF, zG, zH, zI, rowS, ret, id_eq, putL]
                  repeat (first
                    | refine QV QP ?_ | refine QZ ?_ | refine qcT rfl ?_ | refine qcF rfl ?_ | refine E_blockX ?_ | refine E_blockO rfl ?_
                    | refine qs rfl rfl rfl rfl rfl rfl ?_
                    | ((try refine qg rfl rfl rfl ?_); first | refine QV QP ?_ | refine QV QL ?_ | refine QV QA ?_ | refine QV (rr_nilc rfl) ?_ | refine QV QlT ?_ | refine QV QlF ?_ | refine QV QeT ?_ | refine QV QeF ?_ | refine QV QnT ?_ | refine QV QnF ?_ | refine QV QaA ?_))
                  refine E_pick [0, 1, 3, 4, 5, 6, 2] (by decide) rfl ?_
                  exact E_round (j + 1, v4, itUp cn3 ((i : Int), 0, (j : Int)), b4 + 2) ⟨by show j + 1 ≤ T + 1; omega, by show PutOk _ (expLook i bits ou (j + 1)) _; rw [hnx3]; exact hpo, by show b4 + 2 ≤ b3 + 2 * (j + 1); omega⟩ (by show T + 1 - (j + 1) < T + 1 - j; omega) (by repeat' (first | exact True.intro | refine And.intro rfl ?_)) (by dsimp only; rw [hnx3]; rfl)
                · rw [if_neg c8] at hnx3
                  have hb1 : ¬ D1 % 2 = 1 := by rw [Bool.eq_false_iff.2 c8] at hbd; simpa using hbd
                  repeat (first
                    | refine QV QP ?_ | refine QZ ?_ | refine qcT rfl ?_ | refine qcF rfl ?_ | refine E_blockX ?_ | refine E_blockO rfl ?_
                    | refine qs rfl rfl rfl rfl rfl rfl ?_
                    | ((try refine qg rfl rfl rfl ?_); first | refine QV QP ?_ | refine QV (rr_shr rfl rfl hs1) ?_ | refine QV (rr_and rfl rfl ha1) ?_ | refine QV (rr_eql (b := false) rfl rfl (decide_eq_false (by omega))) ?_ | refine QV QL ?_ | refine QV QA ?_ | refine QV (rr_nilc rfl) ?_ | refine QV QlT ?_ | refine QV QlF ?_ | refine QV QeT ?_ | refine QV QeF ?_ | refine QV QnT ?_ | refine QV QnF ?_ | refine QV QaA ?_))
                  exact E_round (j + 1, v3, cn3, b4) ⟨by show j + 1 ≤ T + 1; omega, by show PutOk _ (expLook i bits ou (j + 1)) _; rw [hnx3]; exact s2, by show b4 ≤ b3 + 2 * (j + 1); omega⟩ (by show T + 1 - (j + 1) < T + 1 - j; omega) (by repeat' (first | exact True.intro | refine And.intro rfl ?_)) (by dsimp only; rw [hnx3])
              · obtain rfl : j = T + 1 := by omega
                repeat (first
                  | refine QV QP ?_ | refine QZ ?_ | refine qcT rfl ?_ | refine qcF rfl ?_ | refine E_blockX ?_ | refine E_blockO rfl ?_
                  | refine qs rfl rfl rfl rfl rfl rfl ?_
                  | ((try refine qg rfl rfl rfl ?_); first | refine QV QP ?_ | refine QV QL ?_ | refine QV QA ?_ | refine QV (rr_nilc rfl) ?_ | refine QV QlT ?_ | refine QV QlF ?_ | refine QV QeT ?_ | refine QV QeF ?_ | refine QV QnT ?_ | refine QV QnF ?_ | refine QV QaA ?_))
                exact E_round (i + 1, v3, cn3, b4) ⟨by show i + 1 ≤ g.prods.length; omega, by show PutOk cn3 (expProd g.prods T yn bits out (i + 1)) b4; rw [hnx2]; exact s2, by show b4 ≤ b + 62 * (i + 1); omega⟩ (by show g.prods.length - (i + 1) < g.prods.length - i; omega) (by repeat' (first | exact True.intro | refine And.intro rfl ?_)) (by dsimp only; rw [hnx2])
            · rw [if_neg c6] at hnx2
              repeat (first
                | ((first | refine TW_plain rfl rfl ?_ | refine TW_gmet rfl rfl rfl rfl ?_); first | refine QW QP ?_ | refine QW (rr_load1 (v := .int .i64 hd) TyC.ty rfl (at_blk (i := 0) rfl rfl)) ?_ | refine QW (rr_load1 (v := .slice (some ⟨gz2, 0, none⟩) ou.length cv2) TyC.ty rfl (at_blk (i := 1) rfl rfl)) ?_ | refine QW (rr_idxc Und.eq TyC.ty rfl rfl hno) ?_ | refine QW (rr_load1 (v := .int .i64 (dn : Int)) TyC.ty rfl (hat2 _ 2 rfl 1 _ rfl)) ?_ | refine QW (rr_idxc Und.eq TyC.ty rfl rfl hlt) ?_ | refine QW (rr_load1 (v := .int .i64 yn) TyC.ty rfl (hba _ 3 rfl 1 _ rfl)) ?_ | refine QW (rr_neq (b := true) rfl rfl (decide_eq_true c6)) ?_ | refine QW QL ?_ | refine QW QA ?_ | refine QW (rr_nilc rfl) ?_ | refine QW QlT ?_ | refine QW QlF ?_ | refine QW QeT ?_ | refine QW QeF ?_ | refine QW QnT ?_ | refine QW QnF ?_ | refine QW QaA ?_)
                | refine TW_skip rfl rfl rfl rfl rfl rfl rfl ?_ | refine TW_done ?_)
              repeat (first
                | refine QV QP ?_ | refine QZ ?_ | refine qcT rfl ?_ | refine qcF rfl ?_ | refine E_blockX ?_ | refine E_blockO rfl ?_
                | refine qs rfl rfl rfl rfl rfl rfl ?_
                | ((try refine qg rfl rfl rfl ?_); first | refine QV QP ?_ | refine QV QL ?_ | refine QV QA ?_ | refine QV (rr_nilc rfl) ?_ | refine QV QlT ?_ | refine QV QlF ?_ | refine QV QeT ?_ | refine QV QeF ?_ | refine QV QnT ?_ | refine QV QnF ?_ | refine QV QaA ?_))
              refine E_pick [0, 1, 2, 3, 4, 5, 6] (by decide) rfl ?_
              exact E_round (i + 1, .slice (some ⟨gz2, 0, none⟩) ou.length cv2, cn2, b3) ⟨by show i + 1 ≤ g.prods.length; omega, by show PutOk cn2 (expProd g.prods T yn bits out (i + 1)) b3; rw [hnx2]; exact p2, by show b3 ≤ b + 62 * (i + 1); omega⟩ (by show g.prods.length - (i + 1) < g.prods.length - i; omega) (by repeat' (first | exact True.intro | refine And.intro rfl ?_)) (by dsimp only; rw [hnx2]; rfl)
          · obtain rfl : i = g.prods.length := by omega
            repeat (first
              | refine QV QP ?_ | refine QZ ?_ | refine qcT rfl ?_ | refine qcF rfl ?_ | refine E_blockX ?_ | refine E_blockO rfl ?_
              | refine qs rfl rfl rfl rfl rfl rfl ?_
              | ((try refine qg rfl rfl rfl ?_); first | refine QV QP ?_ | refine QV QL ?_ | refine QV QA ?_ | refine QV (rr_nilc rfl) ?_ | refine QV QlT ?_ | refine QV QlF ?_ | refine QV QeT ?_ | refine QV QeF ?_ | refine QV QnT ?_ | refine QV QnF ?_ | refine QV QaA ?_))
            refine E_pick [0, 1, 2, 3, 4, 5] (by decide) rfl ?_
            exact E_round (n + 1, expProd g.prods T yn bits out g.prods.length, f2, c2', v2, cn2, b3) ⟨hwk, hwx, hf2, by show c2' ≤ c + (n + 1); omega, p2, by show b3 ≤ 40000 + 2480 * (n + 1); omega⟩ (by show 12000 - (n + 1) < 12000 - n; omega) (by repeat' (first | exact True.intro | refine And.intro rfl ?_)) rfl
        · repeat (first
            | refine QV QP ?_ | refine QZ ?_ | refine qcT rfl ?_ | refine qcF rfl ?_ | refine E_blockX ?_ | refine E_blockO rfl ?_
            | refine qs rfl rfl rfl rfl rfl rfl ?_
            | ((try refine qg rfl rfl rfl ?_); first | refine QV QP ?_ | refine QV (rr_load1 (v := .slice (some ⟨gz, 0, none⟩) out.length cv) TyC.ty rfl (at_blk (i := 4) rfl rfl)) ?_ | refine QV (rr_idxc Und.eq TyC.ty rfl rfl c2) ?_ | refine QV (rr_idxc Und.eq TyC.ty rfl rfl hlt) ?_ | refine QV (rr_load1 (v := .int .i64 (dn : Int)) TyC.ty rfl (hat _ 5 rfl 1 _ rfl)) ?_ | refine QV (rr_eql (b := false) rfl rfl (decide_eq_false (by omega))) ?_ | refine QV (rr_load1 (v := .int .i64 yk) TyC.ty rfl (hba _ 6 rfl 0 _ rfl)) ?_ | refine QV (rr_neq (b := true) rfl rfl (decide_eq_true c4)) ?_ | refine QV QL ?_ | refine QV QA ?_ | refine QV (rr_nilc rfl) ?_ | refine QV QlT ?_ | refine QV QlF ?_ | refine QV QeT ?_ | refine QV QeF ?_ | refine QV QnT ?_ | refine QV QnF ?_ | refine QV QaA ?_))
          have hexp : expI g.prods T (lkG g) ((k : Int), (dn : Int), (ln : Int)) out = out := by
            unfold expI
            rw [hnx]
            dsimp only
            rw [if_neg c4]
          rw [hexp] at hwk hwx
          refine E_pick [0, 1, 2, 3, 4, 5] (by decide) rfl ?_
          exact E_round (n + 1, out, f', c', .slice (some ⟨gz, 0, none⟩) out.length cv, cn', b) ⟨hwk, hwx, i3, by show c' ≤ c + (n + 1); omega, i5, by show b ≤ 40000 + 2480 * (n + 1); omega⟩ (by show 12000 - (n + 1) < 12000 - n; omega) (by repeat' (first | exact True.intro | refine And.intro rfl ?_)) rfl
    · have hn : n = out.length := by have := i1.le; omega
      have hR : workI g.prods T (lkG g) 12000 0 (firsts [] l0) = out := by
        rw [← i2, show 12000 - n = (11999 - n) + 1 by omega, workI, if_neg c2]
      have hcI : closedI g.prods T (lkG g) l0 = sortI out := by unfold closedI; rw [hR]
      repeat (first
        | refine QV QP ?_ | refine QZ ?_ | refine qcT rfl ?_ | refine qcF rfl ?_ | refine E_blockX ?_ | refine E_blockO rfl ?_
        | refine qs rfl rfl rfl rfl rfl rfl ?_
        | ((try refine qg rfl rfl rfl ?_); first | refine QV QP ?_ | refine QV (rr_load1 (v := .slice bv out.length cv) TyC.ty rfl (at_blk (i := 4) rfl rfl)) ?_ | refine QV QL ?_ | refine QV QA ?_ | refine QV (rr_nilc rfl) ?_ | refine QV QlT ?_ | refine QV QlF ?_ | refine QV QeT ?_ | refine QV QeF ?_ | refine QV QnT ?_ | refine QV QnF ?_ | refine QV QaA ?_))
      refine TL_callB [5] [0, 1, 2, 3, 4] (by decide) rfl rfl (he2 EntersC.en rfl rfl rfl) (fun w hm hb => itSortG order_k (.slice bv out.length cv) out w _ hb (by omega)) rfl rfl rfl ?_
      intro _ _
      conv => arg 8; simp only [zA, zB, zC, zD, zE, zF, zG, zH, zI, rowS, ret, id_eq]
      repeat (first
        | refine QV QP ?_ | refine QZ ?_ | refine qcT rfl ?_ | refine qcF rfl ?_ | refine E_blockX ?_ | refine E_blockO rfl ?_
        | refine qs rfl rfl rfl rfl rfl rfl ?_
        | ((try refine qg rfl rfl rfl ?_); first | refine QV QP ?_ | refine QV (rr_load1 (v := .slice bv out.length cv) TyC.ty rfl (at_blk (i := 4) rfl rfl)) ?_ | refine QV QL ?_ | refine QV QA ?_ | refine QV (rr_nilc rfl) ?_ | refine QV QlT ?_ | refine QV QlF ?_ | refine QV QeT ?_ | refine QV QeF ?_ | refine QV QnT ?_ | refine QV QnF ?_ | refine QV QaA ?_))
      exact E_ret1 rfl rfl fun w hm => hm.meetsB (S := itClS g T l0 bp cp go gm c) (f', c', .slice bv out.length cv) ⟨i3, by show c' ≤ c + 12000; omega⟩ [0, 1, 5] (by decide) (by unfold itClS opL; dsimp only; rw [hcI, sort_len]; rfl)
end Go.Proofs.Ytmcclhddjielnaa.eng

/- ItH -/
namespace Go.Proofs.Ytmcclhddjielnaa.eng
open Go.RowKit kit mix gramL treeL factsL itemL
def rightB (g : Gram) (it : itemL.Item) : Bool := decide (0 ≤ it.1 ∧ it.1 ≤ (g.prods.length : Int) ∧ 0 ≤ it.2.1 ∧ it.2.1 ≤ ((bodyI g.prods it.1).length : Int) ∧ 0 ≤ it.2.2 ∧ it.2.2 ≤ g.terms)
def itemsE (g : Gram) : List itemL.Item → Int
  | [] => 0
  | x :: r => if rightB g x = true then itemsE g r else 1
def checkI (g : Gram) (l : List itemL.Item) : Int := if checkG g ≠ 0 then checkG g else if 4000 < l.length then 2 else itemsE g l
theorem itemsE_ok {g : Gram} : ∀ {l : List itemL.Item}, itemsE g l = 0 → ∀ x ∈ l, rightB g x = true
  | [], _, x, hx => by cases hx
  | y :: r, h, x, hx => by
    rw [itemsE] at h
    split at h
    · rename_i hy
      rcases List.mem_cons.1 hx with rfl | hx
      · exact hy
      · exact itemsE_ok h x hx
    · cases h
theorem itemsE_of {g : Gram} : ∀ {l : List itemL.Item}, (∀ x ∈ l, rightB g x = true) → itemsE g l = 0
  | [], _ => rfl
  | y :: r, h => by
    rw [itemsE, if_pos (h y (List.mem_cons_self ..))]
    exact itemsE_of fun x hx => h x (List.mem_cons_of_mem _ hx)
set_option maxHeartbeats 8000000 in
theorem itCheck_calls (v : Value) (g : Gram) (vl : Value) (l : List itemL.Item) (w : World) (hG : GraR (fun k => k < w.heap.size) w v g) (hl : Sl w vl l.length (l.flatMap itC)) :
    Calls Try.prog 15 #[v, vl] w (Meets (ret (.int .i64 (checkI g l))) w) := by
  have hck := fun w' (hg : Gr w w') => checkG_calls v g w' (hG.gr hg)
  obtain ⟨vp, rfl, hp, ht, hn⟩ := hG
  obtain ⟨vb, bp, cp, rfl, -, -, hvb, hrp⟩ := prods_vb hp
  obtain ⟨bl, cl, rfl, hc1, hc2, hrl⟩ := hl
  unfold maxLen at hc2
  have hbd := fun (k : Nat) hk w' (hm' : Mem (w : Base) [] w') => itBody_calls g.terms g.nons bp cp g.prods vb w w' w k hk (Old.self w) hm' (fun i hi => let ⟨b, c, h, _⟩ := hvb i hi; ⟨b, _, c, h⟩) (fun h => let ⟨b, off, h1, _, h3⟩ := hrp h; ⟨b, off, h1, fun i hi => (h3 i hi).1⟩)
  refine enter (args := [graV g.terms g.nons (.slice bp g.prods.length cp), .slice bl l.length cl]) (n := 61) Try.func15 rfl rfl rfl ?_
  refine T_seq (T_region (TL_box rfl rfl rfl fun g2 => ?_))
  conv => arg 8; simp only [zA, zB, zC, zD, zE, zF, zG, zH, zI, rowS, ret, id_eq]
  repeat (first
    | refine QV QP ?_ | refine QZ ?_ | refine qcT rfl ?_ | refine qcF rfl ?_ | refine E_blockX ?_ | refine E_blockO rfl ?_
    | refine qs rfl rfl rfl rfl rfl rfl ?_
    | ((try refine qg rfl rfl rfl ?_); first | refine QV QP ?_ | refine QV (rr_loadB (i := 0) TyC.ty rfl rfl rfl) ?_ | refine QV QL ?_ | refine QV QA ?_ | refine QV QlT ?_ | refine QV QlF ?_ | refine QV QgT ?_ | refine QV QgF ?_ | refine QV QnT ?_ | refine QV QnF ?_ | refine QV QaA ?_))
  refine TL_call (he1 EntersC.en rfl rfl) (fun w hm => hck w hm.below) rfl rfl rfl ?_
  intro _ _
  conv => arg 8; simp only [zA, zB, zC, zD, zE, zF, zG, zH, zI, rowS, ret, id_eq]
  have hE : checkI g l = if checkG g ≠ 0 then checkG g else if 4000 < l.length then 2 else itemsE g l := rfl
  generalize checkI g l = rE at *
  have hpos := checkG_pos (g := g)
  by_cases c0 : checkG g = 0
  · obtain ⟨-, -, -, -, hpl, hgb⟩ := checkG_ok c0
    rw [if_neg (by rw [c0]; simp)] at hE
    rw [c0]
    by_cases c1 : 4000 < l.length
    · rw [if_pos c1] at hE
      subst hE
      repeat (first
        | refine QV QP ?_ | refine QZ ?_ | refine qcT rfl ?_ | refine qcF rfl ?_ | refine E_blockX ?_ | refine E_blockO rfl ?_
        | refine qs rfl rfl rfl rfl rfl rfl ?_
        | ((try refine qg rfl rfl rfl ?_); first | refine QV QP ?_ | refine QV QL ?_ | refine QV QA ?_ | refine QV QlT ?_ | refine QV QlF ?_ | refine QV QgT ?_ | refine QV QgF ?_ | refine QV QnT ?_ | refine QV QnF ?_ | refine QV QaA ?_))
      exact E_ret1 rfl rfl fun w hm => hm.ret
    rw [if_neg c1] at hE
    repeat (first
      | refine QV QP ?_ | refine QZ ?_ | refine qcT rfl ?_ | refine qcF rfl ?_ | refine E_blockX ?_ | refine E_blockO rfl ?_
      | refine qs rfl rfl rfl rfl rfl rfl ?_
      | ((try refine qg rfl rfl rfl ?_); first | refine QV QP ?_ | refine QV QL ?_ | refine QV QA ?_ | refine QV QlT ?_ | refine QV QlF ?_ | refine QV QgT ?_ | refine QV QgF ?_ | refine QV QnT ?_ | refine QV QnF ?_ | refine QV QaA ?_))
    refine T_loop (ι := Nat) (fun k => k ≤ l.length ∧ rE = itemsE g (l.drop k)) (fun k => [(2, .pointer (some ⟨g2, 0, none⟩)), (16, .slice bl l.length cl), (17, .int .i64 l.length), (18, .int .i64 (k : Int))])
      (fun _ => [blkO g2 (graV g.terms g.nons (.slice bp g.prods.length cp)).cells 24]) (fun k => l.length - k) 0 ⟨Nat.zero_le _, hE⟩ (by repeat' (first | exact True.intro | refine And.intro rfl ?_)) rfl ?_
    rintro k ⟨i1, i2⟩
    clear hE
    by_cases c2 : k < l.length
    · obtain ⟨b, off, rfl, hrd⟩ := hrl (by omega)
      have hat := fun L => at_el (L := L) itC_len hrd c2
      rw [List.drop_eq_getElem_cons c2, itemsE] at i2
      generalize hrest : itemsE g (l.drop (k + 1)) = rest at *
      have hatA : ∀ (L : List Own) (j : Nat) (u : Value), (itC l[k])[j]? = some u → At (w : Base) L ⟨b, off + k * 3 + j, none⟩ u := hat
      clear hat hrl hrd
      generalize l[k] = x at *
      obtain ⟨p, d, lo⟩ := x
      have hB := show rightB g (p, d, lo) = decide (0 ≤ p ∧ p ≤ (g.prods.length : Int) ∧ 0 ≤ d ∧ d ≤ ((bodyI g.prods p).length : Int) ∧ 0 ≤ lo ∧ lo ≤ g.terms) from rfl
      rw [hB] at i2
      clear hB
      repeat (first
        | refine QV QP ?_ | refine QZ ?_ | refine qcT rfl ?_ | refine qcF rfl ?_ | refine E_blockX ?_ | refine E_blockO rfl ?_
        | refine qs rfl rfl rfl rfl rfl rfl ?_
        | ((try refine qg rfl rfl rfl ?_); first | refine QV QP ?_ | refine QV (rr_idxc Und.eq TyC.ty rfl rfl c2) ?_ | refine QV (rr_loadN (cs := itC (p, d, lo)) TyC.ty rfl rfl (hatA _)) ?_ | refine QV QL ?_ | refine QV QA ?_ | refine QV QlT ?_ | refine QV QlF ?_ | refine QV QgT ?_ | refine QV QgF ?_ | refine QV QnT ?_ | refine QV QnF ?_ | refine QV QaA ?_))
      refine TL_new rfl fun g7 => ?_
      conv => arg 8; simp only [zA, zB, zC, zD, zE, zF, zG, zH, zI, rowS, ret, id_eq]
      refine TL_storeB (i := 1) (cs' := (itC (p, d, lo)).toArray) rfl rfl rfl rfl rfl rfl ?_
      conv => arg 8; simp only [zA, zB, zC, zD, zE, zF, zG, zH, zI, rowS, ret, id_eq]
      repeat (first
        | refine QV QP ?_ | refine QZ ?_ | refine qcT rfl ?_ | refine qcF rfl ?_ | refine E_blockX ?_ | refine E_blockO rfl ?_
        | refine qs rfl rfl rfl rfl rfl rfl ?_
        | ((try refine qg rfl rfl rfl ?_); first | refine QV QP ?_ | refine QV QL ?_ | refine QV QA ?_ | refine QV QlT ?_ | refine QV QlF ?_ | refine QV QgT ?_ | refine QV QgF ?_ | refine QV QnT ?_ | refine QV QnF ?_ | refine QV QaA ?_))
      by_cases q1 : p < 0
      · rw [if_neg (by simp; omega)] at i2
        subst i2
        refine T_ord ([blkO g2 (graV g.terms g.nons (.slice bp g.prods.length cp)).cells 24, blkO g7 (itC (p, d, lo)).toArray 31]) (.calm 0 (.calm 1 (.calm 2 (.calm 3 (.calm 4 (.calm 5 (.calm 6 (.calm 7 (.calm 8 (.calm 9 (.calm 10 (.calm 11 (.calm 12 (.calm 13 (.calm 14 (.calm 15 (.calm 16 (.calm 17 (.calm 18 (.calm 19 (.calm 20 (.calm 21 (.calm 22 (.calm 23 (.calm 24 (.calm 25 (.calm 26 (.calm 27 (.calm 28 (.calm 29 (.calm 30 (.calm 31 (.calm 32 (.calm 33 (.calm 34 (.calm 35 (.calm 36 (.calm 37 (.done))))))))))))))))))))))))))))))))))))))) (fun _ h => h) (by kernel_rfl) (by kernel_rfl) (by intro c a d v w h; cases d <;> exact h) ?_
        repeat (first
          | ((first | refine TW_plain rfl rfl ?_ | refine TW_gmet rfl rfl rfl rfl ?_); first | refine QW QP ?_ | refine QW (rr_load1 (v := .int .i64 p) TyC.ty rfl (at_blk (i := 1) rfl rfl)) ?_ | refine QW QL ?_ | refine QW QA ?_ | refine QW QlT ?_ | refine QW QlF ?_ | refine QW QgT ?_ | refine QW QgF ?_ | refine QW QnT ?_ | refine QW QnF ?_ | refine QW QaA ?_)
          | refine TW_skip rfl rfl rfl rfl rfl rfl rfl ?_ | refine TW_done ?_)
        repeat (first
          | refine QV QP ?_ | refine QZ ?_ | refine qcT rfl ?_ | refine qcF rfl ?_ | refine E_blockX ?_ | refine E_blockO rfl ?_
          | refine qs rfl rfl rfl rfl rfl rfl ?_
          | ((try refine qg rfl rfl rfl ?_); first | refine QV QP ?_ | refine QV QL ?_ | refine QV QA ?_ | refine QV QlT ?_ | refine QV QlF ?_ | refine QV QgT ?_ | refine QV QgF ?_ | refine QV QnT ?_ | refine QV QnF ?_ | refine QV QaA ?_))
        exact E_ret1 rfl rfl fun w hm => hm.ret
      by_cases q2 : (g.prods.length : Int) < p
      · rw [if_neg (by simp; omega)] at i2
        subst i2
        refine T_ord ([blkO g2 (graV g.terms g.nons (.slice bp g.prods.length cp)).cells 24, blkO g7 (itC (p, d, lo)).toArray 31]) (.calm 0 (.calm 1 (.calm 2 (.calm 3 (.calm 4 (.calm 5 (.calm 6 (.calm 7 (.calm 8 (.calm 9 (.calm 10 (.calm 11 (.calm 12 (.calm 13 (.calm 14 (.calm 15 (.calm 16 (.calm 17 (.calm 18 (.calm 19 (.calm 20 (.calm 21 (.calm 22 (.calm 23 (.calm 24 (.calm 25 (.calm 26 (.calm 27 (.calm 28 (.calm 29 (.calm 30 (.calm 31 (.calm 32 (.calm 33 (.calm 34 (.calm 35 (.calm 36 (.calm 37 (.done))))))))))))))))))))))))))))))))))))))) (fun _ h => h) (by kernel_rfl) (by kernel_rfl) (by intro c a d v w h; cases d <;> exact h) ?_
        repeat (first
          | ((first | refine TW_plain rfl rfl ?_ | refine TW_gmet rfl rfl rfl rfl ?_); first | refine QW QP ?_ | refine QW (rr_load1 (v := .int .i64 p) TyC.ty rfl (at_blk (i := 1) rfl rfl)) ?_ | refine QW (rr_load1 (v := .slice bp g.prods.length cp) TyC.ty rfl (at_blk (i := 0) rfl rfl)) ?_ | refine QW QL ?_ | refine QW QA ?_ | refine QW QlT ?_ | refine QW QlF ?_ | refine QW QgT ?_ | refine QW QgF ?_ | refine QW QnT ?_ | refine QW QnF ?_ | refine QW QaA ?_)
          | refine TW_skip rfl rfl rfl rfl rfl rfl rfl ?_ | refine TW_done ?_)
        repeat (first
          | refine QV QP ?_ | refine QZ ?_ | refine qcT rfl ?_ | refine qcF rfl ?_ | refine E_blockX ?_ | refine E_blockO rfl ?_
          | refine qs rfl rfl rfl rfl rfl rfl ?_
          | ((try refine qg rfl rfl rfl ?_); first | refine QV QP ?_ | refine QV QL ?_ | refine QV QA ?_ | refine QV QlT ?_ | refine QV QlF ?_ | refine QV QgT ?_ | refine QV QgF ?_ | refine QV QnT ?_ | refine QV QnF ?_ | refine QV QaA ?_))
        exact E_ret1 rfl rfl fun w hm => hm.ret
      by_cases q3 : d < 0
      · rw [if_neg (by simp; omega)] at i2
        subst i2
        refine T_ord ([blkO g2 (graV g.terms g.nons (.slice bp g.prods.length cp)).cells 24, blkO g7 (itC (p, d, lo)).toArray 31]) (.calm 0 (.calm 1 (.calm 2 (.calm 3 (.calm 4 (.calm 5 (.calm 6 (.calm 7 (.calm 8 (.calm 9 (.calm 10 (.calm 11 (.calm 12 (.calm 13 (.calm 14 (.calm 15 (.calm 16 (.calm 17 (.calm 18 (.calm 19 (.calm 20 (.calm 21 (.calm 22 (.calm 23 (.calm 24 (.calm 25 (.calm 26 (.calm 27 (.calm 28 (.calm 29 (.calm 30 (.calm 31 (.calm 32 (.calm 33 (.calm 34 (.calm 35 (.calm 36 (.calm 37 (.done))))))))))))))))))))))))))))))))))))))) (fun _ h => h) (by kernel_rfl) (by kernel_rfl) (by intro c a d v w h; cases d <;> exact h) ?_
        repeat (first
          | ((first | refine TW_plain rfl rfl ?_ | refine TW_gmet rfl rfl rfl rfl ?_); first | refine QW QP ?_ | refine QW (rr_load1 (v := .int .i64 p) TyC.ty rfl (at_blk (i := 1) rfl rfl)) ?_ | refine QW (rr_load1 (v := .slice bp g.prods.length cp) TyC.ty rfl (at_blk (i := 0) rfl rfl)) ?_ | refine QW (rr_load1 (v := .int .i64 d) TyC.ty rfl (at_blk (i := 1) rfl rfl)) ?_ | refine QW QL ?_ | refine QW QA ?_ | refine QW QlT ?_ | refine QW QlF ?_ | refine QW QgT ?_ | refine QW QgF ?_ | refine QW QnT ?_ | refine QW QnF ?_ | refine QW QaA ?_)
          | refine TW_skip rfl rfl rfl rfl rfl rfl rfl ?_ | refine TW_done ?_)
        repeat (first
          | refine QV QP ?_ | refine QZ ?_ | refine qcT rfl ?_ | refine qcF rfl ?_ | refine E_blockX ?_ | refine E_blockO rfl ?_
          | refine qs rfl rfl rfl rfl rfl rfl ?_
          | ((try refine qg rfl rfl rfl ?_); first | refine QV QP ?_ | refine QV QL ?_ | refine QV QA ?_ | refine QV QlT ?_ | refine QV QlF ?_ | refine QV QgT ?_ | refine QV QgF ?_ | refine QV QnT ?_ | refine QV QnF ?_ | refine QV QaA ?_))
        exact E_ret1 rfl rfl fun w hm => hm.ret
      obtain ⟨kn, rfl⟩ := Int.eq_ofNat_of_zero_le (show 0 ≤ p by omega)
      have hk : kn ≤ g.prods.length := by omega
      refine T_ord ([blkO g2 (graV g.terms g.nons (.slice bp g.prods.length cp)).cells 24, blkO g7 (itC ((kn : Int), d, lo)).toArray 31]) (.calm 0 (.calm 1 (.calm 2 (.calm 3 (.calm 4 (.calm 5 (.calm 6 (.calm 7 (.calm 8 (.calm 9 (.calm 10 (.calm 11 (.calm 12 (.calm 13 (.calm 14 (.calm 15 (.calm 16 (.calm 17 (.calm 18 (.calm 19 (.calm 20 (.calm 21 (.one 22 (.calm 23 (.calm 24 (.calm 25 (.calm 26 (.calm 27 (.calm 28 (.calm 29 (.calm 30 (.calm 31 (.calm 32 (.calm 33 (.calm 34 (.calm 35 (.calm 36 (.calm 37 (.done))))))))))))))))))))))))))))))))))))))) (fun _ h => h) (by kernel_rfl) (by kernel_rfl) (by intro c a d v w h; cases d <;> exact h) ?_
      repeat (first
        | ((first | refine TW_plain rfl rfl ?_ | refine TW_gmet rfl rfl rfl rfl ?_); first | refine QW QP ?_ | refine QW (rr_load1 (v := .int .i64 (kn : Int)) TyC.ty rfl (at_blk (i := 1) rfl rfl)) ?_ | refine QW (rr_load1 (v := .slice bp g.prods.length cp) TyC.ty rfl (at_blk (i := 0) rfl rfl)) ?_ | refine QW (rr_load1 (v := .int .i64 d) TyC.ty rfl (at_blk (i := 1) rfl rfl)) ?_ | refine QW (rr_loadB (i := 0) TyC.ty rfl rfl rfl) ?_ | refine QW QL ?_ | refine QW QA ?_ | refine QW QlT ?_ | refine QW QlF ?_ | refine QW QgT ?_ | refine QW QgF ?_ | refine QW QnT ?_ | refine QW QnF ?_ | refine QW QaA ?_)
        | refine TW_skip rfl rfl rfl rfl rfl rfl rfl ?_ | refine TW_done ?_)
      refine TW_one rfl ?_
      refine TL_gcall (he2 EntersC.en rfl rfl rfl) (fun w hm => hbd kn hk _ (hm.pick [] (by decide) rfl)) rfl rfl rfl rfl rfl ?_
      rintro xb hxb
      conv => arg 8; simp only [zA, zB, zC, zD, zE, zF, zG, zH, zI, rowS, ret, id_eq, bodyS]
      conv => arg 7; simp only [bodyS]
      obtain ⟨bb, cc, hbv, hlc, -⟩ := body_slL (W := (w : Base)) (i := 2) (L := [blkO g2 (graV g.terms g.nons (.slice bp g.prods.length cp)).cells 24, blkO g7 (itC ((kn : Int), d, lo)).toArray 31, bodO xb]) (Old.self w) hvb hk hxb rfl
      rw [hbv]
      refine TW_on (sub_pick [0, 1] (by decide) rfl) ?_
      clear hbd
      generalize (bodyI g.prods (kn : Int)).length = m at *
      by_cases q4 : (m : Int) < d
      · rw [if_neg (by simp; omega)] at i2
        subst i2
        repeat (first
          | ((first | refine TW_plain rfl rfl ?_ | refine TW_gmet rfl rfl rfl rfl ?_); first | refine QW QP ?_ | refine QW QL ?_ | refine QW QA ?_ | refine QW QlT ?_ | refine QW QlF ?_ | refine QW QgT ?_ | refine QW QgF ?_ | refine QW QnT ?_ | refine QW QnF ?_ | refine QW QaA ?_)
          | refine TW_skip rfl rfl rfl rfl rfl rfl rfl ?_ | refine TW_done ?_)
        repeat (first
          | refine QV QP ?_ | refine QZ ?_ | refine qcT rfl ?_ | refine qcF rfl ?_ | refine E_blockX ?_ | refine E_blockO rfl ?_
          | refine qs rfl rfl rfl rfl rfl rfl ?_
          | ((try refine qg rfl rfl rfl ?_); first | refine QV QP ?_ | refine QV QL ?_ | refine QV QA ?_ | refine QV QlT ?_ | refine QV QlF ?_ | refine QV QgT ?_ | refine QV QgF ?_ | refine QV QnT ?_ | refine QV QnF ?_ | refine QV QaA ?_))
        exact E_ret1 rfl rfl fun w hm => hm.ret
      by_cases q5 : lo < 0
      · rw [if_neg (by simp; omega)] at i2
        subst i2
        repeat (first
          | ((first | refine TW_plain rfl rfl ?_ | refine TW_gmet rfl rfl rfl rfl ?_); first | refine QW QP ?_ | refine QW (rr_load1 (v := .int .i64 lo) TyC.ty rfl (at_blk (i := 1) rfl rfl)) ?_ | refine QW QL ?_ | refine QW QA ?_ | refine QW QlT ?_ | refine QW QlF ?_ | refine QW QgT ?_ | refine QW QgF ?_ | refine QW QnT ?_ | refine QW QnF ?_ | refine QW QaA ?_)
          | refine TW_skip rfl rfl rfl rfl rfl rfl rfl ?_ | refine TW_done ?_)
        repeat (first
          | refine QV QP ?_ | refine QZ ?_ | refine qcT rfl ?_ | refine qcF rfl ?_ | refine E_blockX ?_ | refine E_blockO rfl ?_
          | refine qs rfl rfl rfl rfl rfl rfl ?_
          | ((try refine qg rfl rfl rfl ?_); first | refine QV QP ?_ | refine QV QL ?_ | refine QV QA ?_ | refine QV QlT ?_ | refine QV QlF ?_ | refine QV QgT ?_ | refine QV QgF ?_ | refine QV QnT ?_ | refine QV QnF ?_ | refine QV QaA ?_))
        exact E_ret1 rfl rfl fun w hm => hm.ret
      by_cases q6 : g.terms < lo
      · rw [if_neg (by simp; omega)] at i2
        subst i2
        repeat (first
          | ((first | refine TW_plain rfl rfl ?_ | refine TW_gmet rfl rfl rfl rfl ?_); first | refine QW QP ?_ | refine QW (rr_load1 (v := .int .i64 lo) TyC.ty rfl (at_blk (i := 1) rfl rfl)) ?_ | refine QW (rr_load1 (v := .int .i64 g.terms) TyC.ty rfl (at_blk (i := 0) rfl rfl)) ?_ | refine QW QL ?_ | refine QW QA ?_ | refine QW QlT ?_ | refine QW QlF ?_ | refine QW QgT ?_ | refine QW QgF ?_ | refine QW QnT ?_ | refine QW QnF ?_ | refine QW QaA ?_)
          | refine TW_skip rfl rfl rfl rfl rfl rfl rfl ?_ | refine TW_done ?_)
        repeat (first
          | refine QV QP ?_ | refine QZ ?_ | refine qcT rfl ?_ | refine qcF rfl ?_ | refine E_blockX ?_ | refine E_blockO rfl ?_
          | refine qs rfl rfl rfl rfl rfl rfl ?_
          | ((try refine qg rfl rfl rfl ?_); first | refine QV QP ?_ | refine QV QL ?_ | refine QV QA ?_ | refine QV QlT ?_ | refine QV QlF ?_ | refine QV QgT ?_ | refine QV QgF ?_ | refine QV QnT ?_ | refine QV QnF ?_ | refine QV QaA ?_))
        exact E_ret1 rfl rfl fun w hm => hm.ret
      rw [if_pos (by simp; omega)] at i2
      repeat (first
        | ((first | refine TW_plain rfl rfl ?_ | refine TW_gmet rfl rfl rfl rfl ?_); first | refine QW QP ?_ | refine QW (rr_load1 (v := .int .i64 lo) TyC.ty rfl (at_blk (i := 1) rfl rfl)) ?_ | refine QW (rr_load1 (v := .int .i64 g.terms) TyC.ty rfl (at_blk (i := 0) rfl rfl)) ?_ | refine QW QL ?_ | refine QW QA ?_ | refine QW QlT ?_ | refine QW QlF ?_ | refine QW QgT ?_ | refine QW QgF ?_ | refine QW QnT ?_ | refine QW QnF ?_ | refine QW QaA ?_)
        | refine TW_skip rfl rfl rfl rfl rfl rfl rfl ?_ | refine TW_done ?_)
      repeat (first
        | refine QV QP ?_ | refine QZ ?_ | refine qcT rfl ?_ | refine qcF rfl ?_ | refine E_blockX ?_ | refine E_blockO rfl ?_
        | refine qs rfl rfl rfl rfl rfl rfl ?_
        | ((try refine qg rfl rfl rfl ?_); first | refine QV QP ?_ | refine QV QL ?_ | refine QV QA ?_ | refine QV QlT ?_ | refine QV QlF ?_ | refine QV QgT ?_ | refine QV QgF ?_ | refine QV QnT ?_ | refine QV QnF ?_ | refine QV QaA ?_))
      refine E_pick [0] (by decide) rfl ?_
      exact E_round (k + 1) ⟨by omega, by rw [hrest]; exact i2⟩ (by show l.length - (k + 1) < l.length - k; omega) (by repeat' (first | exact True.intro | refine And.intro rfl ?_)) rfl
    · obtain rfl : k = l.length := by omega
      rw [List.drop_eq_nil_of_le (Nat.le_refl _), itemsE] at i2
      subst i2
      repeat (first
        | refine QV QP ?_ | refine QZ ?_ | refine qcT rfl ?_ | refine qcF rfl ?_ | refine E_blockX ?_ | refine E_blockO rfl ?_
        | refine qs rfl rfl rfl rfl rfl rfl ?_
        | ((try refine qg rfl rfl rfl ?_); first | refine QV QP ?_ | refine QV QL ?_ | refine QV QA ?_ | refine QV QlT ?_ | refine QV QlF ?_ | refine QV QgT ?_ | refine QV QgF ?_ | refine QV QnT ?_ | refine QV QnF ?_ | refine QV QaA ?_))
      exact E_ret1 rfl rfl fun w hm => hm.ret
  · rw [if_pos c0] at hE
    subst hE
    repeat (first
      | refine QV QP ?_ | refine QZ ?_ | refine qcT rfl ?_ | refine qcF rfl ?_ | refine E_blockX ?_ | refine E_blockO rfl ?_
      | refine qs rfl rfl rfl rfl rfl rfl ?_
      | ((try refine qg rfl rfl rfl ?_); first | refine QV QP ?_ | refine QV QL ?_ | refine QV QA ?_ | refine QV QlT ?_ | refine QV QlF ?_ | refine QV QgT ?_ | refine QV QgF ?_ | refine QV QnT ?_ | refine QV QnF ?_ | refine QV QaA ?_))
    exact E_ret1 rfl rfl fun w hm => hm.ret
theorem build_open (t n : Int) (vp : Value) (gm : Nat) (w : World) : (Instr.build 69 #[(0, graV t n vp), (1, .map (some gm))]).run Try.prog w = .ok (.agg (opC t n vp gm).toArray) w := by kernel_rfl
/-- what begun makes -/
def begS (t n : Int) (vp : Value) : Spec (Nat × Nat) := ⟨fun _ => True, fun x => .pointer (some ⟨x.1, 0, none⟩), fun x => [mapO restK x.2 (fun _ => none) 0, blkO x.1 (opC t n vp x.2).toArray 69]⟩
theorem begun_calls (t n : Int) (vp : Value) (w : World) : Calls Try.prog 16 #[graV t n vp] w (Meets (begS t n vp) w) := by
  have hb := build_open t n vp
  refine enter (args := [graV t n vp]) (n := 7) Try.func16 rfl rfl rfl ?_
  refine T_seq (T_region (TL_box rfl rfl rfl fun g1 => ?_))
  conv => arg 8; simp only [zA, zB, zC, zD, zE, zF, zG, zH, zI, rowS, ret, id_eq]
  repeat (first
    | refine QV QP ?_ | refine QZ ?_ | refine QV (rr_loadB (i := 0) TyC.ty rfl rfl rfl) ?_)
  refine TL_map restK rfl fun gm => ?_
  conv => arg 8; simp only [zA, zB, zC, zD, zE, zF, zG, zH, zI, rowS, ret, id_eq]
  repeat (first
    | refine QV QP ?_ | refine QZ ?_ | refine QV (rr_build rfl (hb _)) ?_)
  refine TL_box rfl rfl rfl fun go => ?_
  conv => arg 8; simp only [zA, zB, zC, zD, zE, zF, zG, zH, zI, rowS, ret, id_eq]
  repeat (first
    | refine QV QP ?_ | refine QZ ?_)
  exact E_ret1 rfl rfl fun w hm => hm.meets (S := begS t n vp) (go, gm) trivial [1, 2] (by decide) rfl
end Go.Proofs.Ytmcclhddjielnaa.eng

/- ItG -/
namespace Go.Proofs.Ytmcclhddjielnaa.eng
open Go.RowKit kit mix gramL treeL factsL itemL smallL
/-- an own slice, handed to a call that can't turn it -/
theorem SlB.row {W : Base} {L Lx : List Own} {w : World} (hm : Mem W L w) {i n size : Nat} {e : TypeId} {v : Value} {xs : List Value} (hi : L[i]? = some (rowO e size v n xs)) (is : List Nat) (hL : Lx = is.filterMap fun i => L[i]?) (hni : i ∉ is) : SlB (Base.on w Lx) v n xs := by
  have hh : (rowO e size v n xs).holds w := hm.get hi
  obtain ⟨base, cap, rfl, h1, h2, h3⟩ := Sl.of_own hh
  refine ⟨base, cap, rfl, h1, h2, fun hn => ?_⟩
  obtain ⟨b, off, rfl, hr⟩ := h3 hn
  have hf : (rowO e size (.slice (some ⟨b, off, none⟩) n cap) n xs).foot b := by
    rcases (show w.ownsRow 0 e size _ n xs from hh).2 with ⟨hv, _⟩ | ⟨g, cp, cur, hv, _⟩
    · cases hv
    · cases hv; exact .inl rfl
  refine ⟨b, off, rfl, ⟨(rowO e size _ n xs).lt w hh b hf, ?_⟩, hr⟩
  rintro ⟨o, ho, hfo⟩
  subst hL
  obtain ⟨j, hj, hoj⟩ := List.mem_filterMap.1 ho
  exact hm.owns.apart i j _ _ (fun h => hni (h ▸ hj)) hi hoj b hf hfo
theorem SlB.at {B : Base} {L : List Own} {α : Type} {f : α → List Value} {c : Nat} (hc : ∀ a, (f a).length = c) {base : Option Addr} {cap n : Nat} {l : List α} (h : SlB B (.slice base n cap) n (l.flatMap f)) (hn : 0 < n) : ∃ b off, base = some ⟨b, off, none⟩ ∧ ∀ (k : Nat) (hk : k < l.length) (j : Nat) (u : Value), (f l[k])[j]? = some u → At B L ⟨b, off + k * c + j, none⟩ u := by
  obtain ⟨base', cap', h0, h1, h2, h3⟩ := h
  cases h0
  obtain ⟨b, off, rfl, ho, hr⟩ := h3 hn
  exact ⟨b, off, rfl, fun k hk j u hj => at_elL (W := B) (L := L) hc (off := off) (fun q y hq => at_oldB ho hr q y hq) hk j u hj⟩
theorem over_take {l : List gramL.Prod} {s : List itemL.Item} {x : Sym} {k : Nat} (h : k < s.length) : overI l (s.take (k + 1)) x = if nextS l s[k] = some x then overI l (s.take k) x ++ [advI s[k]] else overI l (s.take k) x := by
  unfold overI
  rw [List.take_succ_eq_append_getElem h, List.filter_append, List.map_append]
  by_cases c : nextS l s[k] = some x
  · rw [if_pos c, List.filter_cons_of_pos (by simpa using c)]; rfl
  · rw [if_neg c, List.filter_cons_of_neg (by simpa using c)]; simp
theorem over_len {l : List gramL.Prod} {s : List itemL.Item} {x : Sym} : (overI l s x).length ≤ s.length := by
  unfold overI; rw [List.length_map]; exact List.length_filter_le _ _
set_option maxHeartbeats 8000000 in
theorem itStep_calls (g : Gram) (hg : checkG g = 0) (bp : Option Addr) (cp : Nat) (vb : Nat → Value) (w0 : World) (hG : GraR (fun q => q < w0.heap.size) w0 (graV g.terms g.nons (.slice bp g.prods.length cp)) g) (hvb : BodR (fun q => q < w0.heap.size) w0 vb g.prods) (hrp : 0 < g.prods.length → ∃ b off, bp = some ⟨b, off, none⟩ ∧ ∀ i, i < g.prods.length → Rd w0 b (off + i * 2) [.int .i64 (prodAt g.prods (i : Int)).1, vb i])
    (go gm c : Nat) (f : RK → Option Value) (T : Nat) (hTt : g.terms = (T : Int)) (hT : T ≤ 30) (s : List itemL.Item) (x : Sym) (vl : Value) (h0 : ∀ it ∈ s, RightI g.prods T it) (hl0 : s.length ≤ 20000) (hc : CacheOk (lkG g) f) (hcc : c ≤ 900000000000000) (w : World) (B : Base) (ho : Old w0 B) (hvl : SlB B vl s.length (s.flatMap itC))
    (hm : Mem B (opL g bp cp go gm f c) w) :
    Calls Try.prog 26 #[.pointer (some ⟨go, 0, none⟩), vl, .agg (symC x).toArray] w (MeetsB (itClS g T (overI g.prods s x) bp cp go gm c) B) := by
  have hcl := fun v h2 h3 w' B' ho' hs' hm' => itClosed_calls g hg bp cp vb w0 hG hvb hrp go gm c f T hTt hT (overI g.prods s x) v h2 h3 hc hcc w' B' ho' hs' hm'
  have hol := over_len (l := g.prods) (s := s) (x := x)
  have hor := over_right (l := g.prods) (T := T) (x := x) h0
  obtain ⟨bl, cl, rfl, hc1, hc2, hrl⟩ := id hvl
  clear hrl
  unfold maxLen at hc2
  unfold opL at hm
  refine enterB hm (args := [.pointer (some ⟨go, 0, none⟩), .slice bl s.length cl, .agg (symC x).toArray]) (n := 50) Try.func26 rfl rfl rfl ?_
  refine T_seq (T_region (TL_box rfl rfl rfl fun g5 => ?_))
  conv => arg 8; simp only [zA, zB, zC, zD, zE, zF, zG, zH, zI, rowS, ret, id_eq]
  repeat (first
    | refine QV QP ?_ | refine QZ ?_ | refine qcT rfl ?_ | refine qcF rfl ?_ | refine E_blockX ?_ | refine E_blockO rfl ?_
    | refine qs rfl rfl rfl rfl rfl rfl ?_
    | ((try refine qg rfl rfl rfl ?_); first | refine QV QP ?_ | refine QV QL ?_ | refine QV QA ?_ | refine QV (rr_nilc rfl) ?_ | refine QV QlT ?_ | refine QV QlF ?_ | refine QV QaA ?_))
  refine T_nil 31 3 ?_
  conv => arg 7; simp only [zA, zB, zC, zD, zE, zF, zG, zH, zI, rowS, ret, id_eq]
  refine T_loop (ι := Nat × Value) (fun (k, _) => k ≤ s.length) (fun (k, v) => [(0, .pointer (some ⟨go, 0, none⟩)), (5, .pointer (some ⟨g5, 0, none⟩)), (7, v), (11, .slice bl s.length cl), (12, .int .i64 s.length), (13, .int .i64 (k : Int))])
    (fun (k, v) => [blkO go (opC g.terms g.nons (.slice bp g.prods.length cp) gm).toArray 69, mapO restK gm f c, blkO g5 (symC x).toArray 46, rowO 31 3 v (overI g.prods (s.take k) x).length ((overI g.prods (s.take k) x).flatMap itC)]) (fun (k, _) => s.length - k) (0, .slice none 0 0) (Nat.zero_le _) (by repeat' (first | exact True.intro | refine And.intro rfl ?_)) rfl ?_
  rintro ⟨k, v⟩ i1
  dsimp only at i1 ⊢
  by_cases c1 : k < s.length
  · obtain ⟨b, off, rfl, hat⟩ := hvl.at (L := []) itC_len (by omega)
    have hatA : ∀ (L : List Own) (j : Nat) (u : Value), (itC s[k])[j]? = some u → At B L ⟨b, off + k * 3 + j, none⟩ u := fun L => by
      obtain ⟨b', off', he, h⟩ := hvl.at (L := L) itC_len (by omega)
      cases he
      exact h k c1
    clear hat
    have hxr := h0 s[k] (List.getElem_mem c1)
    have hnx := over_take (l := g.prods) (x := x) c1
    have hln : (overI g.prods (s.take k) x).length ≤ 20000 := Nat.le_trans over_len (by rw [List.length_take]; omega)
    generalize overI g.prods (s.take k) x = ov at *
    generalize hnx2 : overI g.prods (s.take (k + 1)) x = ov' at *
    clear hcl hor hol
    generalize s[k] = it at *
    obtain ⟨p, d, lo⟩ := it
    have hxr2 := hxr
    obtain ⟨r1, r2, r3, r4, r5, r6⟩ := hxr2
    dsimp only at r1 r2 r3 r4 r5 r6
    obtain ⟨kn, rfl⟩ := Int.eq_ofNat_of_zero_le r1
    obtain ⟨dn, rfl⟩ := Int.eq_ofNat_of_zero_le r3
    obtain ⟨ln, rfl⟩ := Int.eq_ofNat_of_zero_le r5
    have hk : kn ≤ g.prods.length := by omega
    have hbd := fun w' (hm' : Mem B [] w') => itBody_calls g.terms g.nons bp cp g.prods vb w0 w' B kn hk ho hm' (fun i hi => let ⟨b, c, h, _⟩ := hvb i hi; ⟨b, _, c, h⟩) hrp
    have hwl : ∀ q ∈ g.prods, q.2.length ≤ 8 := fun q hq => ((checkG_ok hg).2.2.2.2.2 q hq).1
    have hb8 := body_len (l := g.prods) (p := (kn : Int)) hwl
    repeat (first
      | refine QV QP ?_ | refine QZ ?_ | refine qcT rfl ?_ | refine qcF rfl ?_ | refine E_blockX ?_ | refine E_blockO rfl ?_
      | refine qs rfl rfl rfl rfl rfl rfl ?_
      | ((try refine qg rfl rfl rfl ?_); first | refine QV QP ?_ | refine QV (rr_idxc Und.eq TyC.ty rfl rfl c1) ?_ | refine QV (rr_loadN (cs := itC ((kn : Int), (dn : Int), (ln : Int))) TyC.ty rfl rfl (hatA _)) ?_ | refine QV QL ?_ | refine QV QA ?_ | refine QV (rr_nilc rfl) ?_ | refine QV QlT ?_ | refine QV QlF ?_ | refine QV QaA ?_))
    refine TL_new rfl fun g9 => ?_
    conv => arg 8; simp only [zA, zB, zC, zD, zE, zF, zG, zH, zI, rowS, ret, id_eq]
    refine TL_storeB (i := 4) (cs' := (itC ((kn : Int), (dn : Int), (ln : Int))).toArray) rfl rfl rfl rfl rfl rfl ?_
    conv => arg 8; simp only [zA, zB, zC, zD, zE, zF, zG, zH, zI, rowS, ret, id_eq]
    repeat (first
      | refine QV QP ?_ | refine QZ ?_ | refine qcT rfl ?_ | refine qcF rfl ?_ | refine E_blockX ?_ | refine E_blockO rfl ?_
      | refine qs rfl rfl rfl rfl rfl rfl ?_
      | ((try refine qg rfl rfl rfl ?_); first | refine QV QP ?_ | refine QV QL ?_ | refine QV QA ?_ | refine QV (rr_nilc rfl) ?_ | refine QV QlT ?_ | refine QV QlF ?_ | refine QV QaA ?_))
    refine T_ord ([blkO go (opC g.terms g.nons (.slice bp g.prods.length cp) gm).toArray 69, blkO g9 (itC ((kn : Int), (dn : Int), (ln : Int))).toArray 31]) (.calm 0 (.calm 1 (.calm 2 (.calm 3 (.calm 4 (.calm 5 (.one 6 (.calm 7 (.done))))))))) (sub_pick [0, 4] (by decide) rfl) (by kernel_rfl) (by kernel_rfl) (by intro c a d v w h; cases d <;> exact h) ?_
    repeat (first
      | ((first | refine TW_plain rfl rfl ?_ | refine TW_gmet rfl rfl rfl rfl ?_); first | refine QW QP ?_ | refine QW (rr_nilc rfl) ?_ | refine QW (rr_loadN TyC.ty rfl (cs := [.int .i64 g.terms, .int .i64 g.nons, .slice bp g.prods.length cp]) rfl (fun j v h => at_blk (i := 0) rfl (op_gram h))) ?_ | refine QW (rr_load1 (v := .int .i64 (kn : Int)) TyC.ty rfl (at_blk (i := 1) rfl rfl)) ?_ | refine QW QL ?_ | refine QW QA ?_ | refine QW (rr_nilc rfl) ?_ | refine QW QlT ?_ | refine QW QlF ?_ | refine QW QaA ?_)
      | refine TW_skip rfl rfl rfl rfl rfl rfl rfl ?_ | refine TW_done ?_)
    refine TW_one rfl ?_
    refine TL_call (he2 EntersC.en rfl rfl rfl) (fun w hm => hbd _ (hm.pick [] (by decide) rfl)) rfl rfl rfl ?_
    rintro xb hxb
    conv => arg 8; simp only [zA, zB, zC, zD, zE, zF, zG, zH, zI, rowS, ret, id_eq, bodyS]
    conv => arg 7; simp only [bodyS]
    obtain ⟨bb, cc, hbv, hlc, -⟩ := body_slL (W := B) (i := 5) (L := [blkO go (opC g.terms g.nons (.slice bp g.prods.length cp) gm).toArray 69, mapO restK gm f c, blkO g5 (symC x).toArray 46, rowO 31 3 v ov.length (ov.flatMap itC), blkO g9 (itC ((kn : Int), (dn : Int), (ln : Int))).toArray 31, bodO xb]) ho hvb hk hxb rfl
    rw [hbv]
    refine TW_on (sub_pick [0, 4] (by decide) rfl) ?_
    repeat (first
      | ((first | refine TW_plain rfl rfl ?_ | refine TW_gmet rfl rfl rfl rfl ?_); first | refine QW QP ?_ | refine QW QL ?_ | refine QW QA ?_ | refine QW (rr_nilc rfl) ?_ | refine QW QlT ?_ | refine QW QlF ?_ | refine QW QaA ?_)
      | refine TW_skip rfl rfl rfl rfl rfl rfl rfl ?_ | refine TW_done ?_)
    clear hbd
    by_cases c2 : dn < (bodyI g.prods (kn : Int)).length
    · obtain ⟨b2, o2, rfl, hba⟩ := body_at ho hvb hk hxb hbv c2
      have hns : nextS g.prods ((kn : Int), (dn : Int), (ln : Int)) = some (bodyI g.prods (kn : Int))[dn] := by
        unfold nextS
        dsimp only
        rw [Int.toNat_natCast, List.getElem?_eq_getElem c2]
      have heq := fun w => eq_sym (bodyI g.prods (kn : Int))[dn] x w
      generalize (bodyI g.prods (kn : Int))[dn] = y at *
      rw [hns] at hnx
      repeat (first
        | refine QV QP ?_ | refine QZ ?_ | refine qcT rfl ?_ | refine qcF rfl ?_ | refine E_blockX ?_ | refine E_blockO rfl ?_
        | refine qs rfl rfl rfl rfl rfl rfl ?_
        | ((try refine qg rfl rfl rfl ?_); first | refine QV QP ?_ | refine QV QL ?_ | refine QV QA ?_ | refine QV (rr_nilc rfl) ?_ | refine QV QlT ?_ | refine QV QlF ?_ | refine QV QaA ?_))
      refine T_ord ([blkO g5 (symC x).toArray 46, blkO g9 (itC ((kn : Int), (dn : Int), (ln : Int))).toArray 31, bodO xb]) (.calm 0 (.calm 1 (.calm 2 (.calm 3 (.calm 4 (.calm 5 (.calm 6 (.calm 7 (.calm 8 (.calm 9 (.calm 10 (.calm 11 (.calm 12 (.calm 13 (.done))))))))))))))) (sub_pick [2, 4, 5] (by decide) rfl) (by kernel_rfl) (by kernel_rfl) (by intro c a d v w h; cases d <;> exact h) ?_
      by_cases c3 : y = x
      · subst c3
        rw [if_pos rfl] at hnx
        rw [decide_eq_true rfl] at heq
        repeat (first
          | ((first | refine TW_plain rfl rfl ?_ | refine TW_gmet rfl rfl rfl rfl ?_); first | refine QW QP ?_ | refine QW (rr_load1 (v := .int .i64 (dn : Int)) TyC.ty rfl (at_blk (i := 1) rfl rfl)) ?_ | refine QW (rr_idxc Und.eq TyC.ty rfl rfl c2) ?_ | refine QW (rr_loadN (cs := symC y) TyC.ty rfl rfl (hba _ 2 rfl)) ?_ | refine QW (rr_loadB (i := 0) TyC.ty rfl rfl rfl) ?_ | refine QW QL ?_ | refine QW QA ?_ | refine QW (rr_nilc rfl) ?_ | refine QW QlT ?_ | refine QW QlF ?_ | refine QW QaA ?_ | refine QW (rr_aggeq rfl rfl (by kernel_rfl) heq) ?_)
          | refine TW_skip rfl rfl rfl rfl rfl rfl rfl ?_ | refine TW_done ?_)
        repeat (first
          | refine QV QP ?_ | refine QZ ?_ | refine qcT rfl ?_ | refine qcF rfl ?_ | refine E_blockX ?_ | refine E_blockO rfl ?_
          | refine qs rfl rfl rfl rfl rfl rfl ?_
          | ((try refine qg rfl rfl rfl ?_); first | refine QV QP ?_ | refine QV (rr_load1 (v := .int .i64 (dn : Int)) TyC.ty rfl (at_blk (i := 4) rfl rfl)) ?_ | refine QV QL ?_ | refine QV QA ?_ | refine QV (rr_nilc rfl) ?_ | refine QV QlT ?_ | refine QV QlF ?_ | refine QV QaA ?_))
        refine TL_store1 (i := 4) rfl rfl rfl rfl rfl rfl ?_
        conv => arg 8; simp only [zA, zB, zC, zD, zE, zF, zG, zH, zI, rowS, ret, id_eq]
        repeat (first
          | refine QV QP ?_ | refine QZ ?_ | refine qcT rfl ?_ | refine qcF rfl ?_ | refine E_blockX ?_ | refine E_blockO rfl ?_
          | refine qs rfl rfl rfl rfl rfl rfl ?_
          | ((try refine qg rfl rfl rfl ?_); first | refine QV QP ?_ | refine QV (rr_loadB (i := 4) TyC.ty rfl rfl rfl) ?_ | refine QV QL ?_ | refine QV QA ?_ | refine QV (rr_nilc rfl) ?_ | refine QV QlT ?_ | refine QV QlF ?_ | refine QV QaA ?_))
        refine TL_pushN (i := 3) rfl rfl rfl rfl rfl rfl rfl (fun z h => by cases h; rfl) (by omega) (by omega) rfl fun z v' => ?_
        conv => arg 8; simp only [zA, zB, zC, zD, zE, zF, zG, zH, zI, rowS, ret, id_eq]
        repeat (first
          | refine QV QP ?_ | refine QZ ?_ | refine qcT rfl ?_ | refine qcF rfl ?_ | refine E_blockX ?_ | refine E_blockO rfl ?_
          | refine qs rfl rfl rfl rfl rfl rfl ?_
          | ((try refine qg rfl rfl rfl ?_); first | refine QV QP ?_ | refine QV QL ?_ | refine QV QA ?_ | refine QV (rr_nilc rfl) ?_ | refine QV QlT ?_ | refine QV QlF ?_ | refine QV QaA ?_))
        refine E_pick [0, 1, 2, 3] (by decide) rfl ?_
        exact E_round (k + 1, v') (by show k + 1 ≤ s.length; omega) (by show s.length - (k + 1) < s.length - k; omega) (by repeat' (first | exact True.intro | refine And.intro rfl ?_)) (by dsimp only; rw [hnx2, hnx, List.length_append, List.flatMap_append]; rfl)
      · rw [if_neg (fun h => c3 (Option.some.inj h))] at hnx
        rw [decide_eq_false c3] at heq
        repeat (first
          | ((first | refine TW_plain rfl rfl ?_ | refine TW_gmet rfl rfl rfl rfl ?_); first | refine QW QP ?_ | refine QW (rr_load1 (v := .int .i64 (dn : Int)) TyC.ty rfl (at_blk (i := 1) rfl rfl)) ?_ | refine QW (rr_idxc Und.eq TyC.ty rfl rfl c2) ?_ | refine QW (rr_loadN (cs := symC y) TyC.ty rfl rfl (hba _ 2 rfl)) ?_ | refine QW (rr_loadB (i := 0) TyC.ty rfl rfl rfl) ?_ | refine QW QL ?_ | refine QW QA ?_ | refine QW (rr_nilc rfl) ?_ | refine QW QlT ?_ | refine QW QlF ?_ | refine QW QaA ?_ | refine QW (rr_aggeq rfl rfl (by kernel_rfl) heq) ?_)
          | refine TW_skip rfl rfl rfl rfl rfl rfl rfl ?_ | refine TW_done ?_)
        repeat (first
          | refine QV QP ?_ | refine QZ ?_ | refine qcT rfl ?_ | refine qcF rfl ?_ | refine E_blockX ?_ | refine E_blockO rfl ?_
          | refine qs rfl rfl rfl rfl rfl rfl ?_
          | ((try refine qg rfl rfl rfl ?_); first | refine QV QP ?_ | refine QV QL ?_ | refine QV QA ?_ | refine QV (rr_nilc rfl) ?_ | refine QV QlT ?_ | refine QV QlF ?_ | refine QV QaA ?_))
        refine E_pick [0, 1, 2, 3] (by decide) rfl ?_
        exact E_round (k + 1, v) (by show k + 1 ≤ s.length; omega) (by show s.length - (k + 1) < s.length - k; omega) (by repeat' (first | exact True.intro | refine And.intro rfl ?_)) (by dsimp only; rw [hnx2, hnx]; rfl)
    · have hns : nextS g.prods ((kn : Int), (dn : Int), (ln : Int)) = none := by
        unfold nextS
        dsimp only
        rw [Int.toNat_natCast, List.getElem?_eq_none (by omega)]
      rw [hns, if_neg (fun h => by cases h)] at hnx
      repeat (first
        | refine QV QP ?_ | refine QZ ?_ | refine qcT rfl ?_ | refine qcF rfl ?_ | refine E_blockX ?_ | refine E_blockO rfl ?_
        | refine qs rfl rfl rfl rfl rfl rfl ?_
        | ((try refine qg rfl rfl rfl ?_); first | refine QV QP ?_ | refine QV QL ?_ | refine QV QA ?_ | refine QV (rr_nilc rfl) ?_ | refine QV QlT ?_ | refine QV QlF ?_ | refine QV QaA ?_))
      refine T_ord ([blkO g5 (symC x).toArray 46, blkO g9 (itC ((kn : Int), (dn : Int), (ln : Int))).toArray 31, bodO xb]) (.calm 0 (.calm 1 (.calm 2 (.calm 3 (.calm 4 (.calm 5 (.calm 6 (.calm 7 (.calm 8 (.calm 9 (.calm 10 (.calm 11 (.calm 12 (.calm 13 (.done))))))))))))))) (sub_pick [2, 4, 5] (by decide) rfl) (by kernel_rfl) (by kernel_rfl) (by intro c a d v w h; cases d <;> exact h) ?_
      repeat (first
        | ((first | refine TW_plain rfl rfl ?_ | refine TW_gmet rfl rfl rfl rfl ?_); first | refine QW QP ?_ | refine QW (rr_load1 (v := .int .i64 (dn : Int)) TyC.ty rfl (at_blk (i := 1) rfl rfl)) ?_ | refine QW QL ?_ | refine QW QA ?_ | refine QW (rr_nilc rfl) ?_ | refine QW QlT ?_ | refine QW QlF ?_ | refine QW QaA ?_)
        | refine TW_skip rfl rfl rfl rfl rfl rfl rfl ?_ | refine TW_done ?_)
      repeat (first
        | refine QV QP ?_ | refine QZ ?_ | refine qcT rfl ?_ | refine qcF rfl ?_ | refine E_blockX ?_ | refine E_blockO rfl ?_
        | refine qs rfl rfl rfl rfl rfl rfl ?_
        | ((try refine qg rfl rfl rfl ?_); first | refine QV QP ?_ | refine QV QL ?_ | refine QV QA ?_ | refine QV (rr_nilc rfl) ?_ | refine QV QlT ?_ | refine QV QlF ?_ | refine QV QaA ?_))
      refine E_pick [0, 1, 2, 3] (by decide) rfl ?_
      exact E_round (k + 1, v) (by show k + 1 ≤ s.length; omega) (by show s.length - (k + 1) < s.length - k; omega) (by repeat' (first | exact True.intro | refine And.intro rfl ?_)) (by dsimp only; rw [hnx2, hnx]; rfl)
  · obtain rfl : k = s.length := by omega
    rw [List.take_length]
    repeat (first
      | refine QV QP ?_ | refine QZ ?_ | refine qcT rfl ?_ | refine qcF rfl ?_ | refine E_blockX ?_ | refine E_blockO rfl ?_
      | refine qs rfl rfl rfl rfl rfl rfl ?_
      | ((try refine qg rfl rfl rfl ?_); first | refine QV QP ?_ | refine QV QL ?_ | refine QV QA ?_ | refine QV (rr_nilc rfl) ?_ | refine QV QlT ?_ | refine QV QlF ?_ | refine QV QaA ?_))
    refine TL_callB [0, 1] [2, 3] (by decide) rfl rfl (he2 EntersC.en rfl rfl rfl) (fun w hm hb => hcl v hor (by omega) w _ (ho.on hm fun o h => pickMem h) (SlB.row hm (i := 3) rfl [0, 1] rfl (by decide)) hb) rfl rfl rfl ?_
    rintro ⟨f2, c2, v2⟩ ⟨hf2, hc2'⟩
    conv => arg 8; simp only [zA, zB, zC, zD, zE, zF, zG, zH, zI, rowS, ret, id_eq, itClS, opL]
    conv => arg 7; simp only [itClS]
    repeat (first
      | refine QV QP ?_ | refine QZ ?_ | refine qcT rfl ?_ | refine qcF rfl ?_ | refine E_blockX ?_ | refine E_blockO rfl ?_
      | refine qs rfl rfl rfl rfl rfl rfl ?_
      | ((try refine qg rfl rfl rfl ?_); first | refine QV QP ?_ | refine QV QL ?_ | refine QV QA ?_ | refine QV (rr_nilc rfl) ?_ | refine QV QlT ?_ | refine QV QlF ?_ | refine QV QaA ?_))
    exact E_ret1 rfl rfl fun w hm => hm.meetsB (S := itClS g T (overI g.prods s x) bp cp go gm c) (f2, c2, v2) ⟨hf2, hc2'⟩ [2, 3, 4] (by decide) rfl
end Go.Proofs.Ytmcclhddjielnaa.eng

/- ItS -/
namespace Go.Proofs.Ytmcclhddjielnaa.eng
open Go.RowKit kit mix gramL treeL factsL itemL smallL
theorem checkI_ok {g : Gram} {l : List itemL.Item} (h : checkI g l = 0) : checkG g = 0 ∧ l.length ≤ 4000 ∧ ∀ x ∈ l, RightI g.prods g.terms.toNat x := by
  unfold checkI at h
  by_cases c0 : checkG g = 0
  · rw [if_neg (by rw [c0]; simp)] at h
    by_cases c1 : 4000 < l.length
    · rw [if_pos c1] at h; cases h
    · rw [if_neg c1] at h
      refine ⟨c0, by omega, fun x hx => ?_⟩
      have := of_decide_eq_true (itemsE_ok h x hx)
      have ht := (checkG_ok c0).1
      unfold RightI
      omega
  · rw [if_pos c0] at h; exact absurd h c0
theorem checkI_of {g : Gram} {l : List itemL.Item} (h : checkG g = 0) (hl : l.length ≤ 4000) (hr : ∀ x ∈ l, RightI g.prods g.terms.toNat x) : checkI g l = 0 := by
  unfold checkI
  rw [if_neg (by rw [h]; simp), if_neg (by omega)]
  have ht := (checkG_ok h).1
  refine itemsE_of fun x hx => decide_eq_true ?_
  have := hr x hx
  unfold RightI at this
  omega
def closedA (g : Gram) (l : List itemL.Item) : List itemL.Item := if checkI g l = 0 then closedI g.prods g.terms.toNat (lkG g) l else []
def itemsS (e : Int) (r : List itemL.Item) : Spec Value := ⟨fun _ => True, fun v => .tuple #[v, .int .i64 e], fun v => [rowO 31 3 v r.length (r.flatMap itC)]⟩
theorem flat_ne {α : Type} {f : α → List Value} {c : Nat} (hc : ∀ a, (f a).length = c) (hc0 : 0 < c) {l : List α} (h : 0 < l.length) : l.flatMap f ≠ [] := by
  intro e
  have := len_el hc l
  rw [e] at this
  have h2 : 0 < l.length * c := Nat.mul_pos h hc0
  rw [← this] at h2
  exact absurd h2 (by simp)
set_option maxHeartbeats 4000000 in
theorem itemsClosed_calls (v : Value) (g : Gram) (vl : Value) (l : List itemL.Item) (w : World) (hG : GraR (fun k => k < w.heap.size) w v g) (hl : Sl w vl l.length (l.flatMap itC)) :
    Calls Try.prog 5 #[v, vl] w (Meets (itemsS (checkI g l) (closedA g l)) w) := by
  have hG0 := hG
  have hck := fun w' (hg : Gr w w') => itCheck_calls v g vl l w' (hG.gr hg) (hl.gr hg)
  obtain ⟨vp, rfl, hp, ht, hn⟩ := hG
  obtain ⟨vb, bp, cp, rfl, -, -, hvb, hrp⟩ := prods_vb hp
  have hbg := begun_calls g.terms g.nons (.slice bp g.prods.length cp)
  have hA : closedA g l = if checkI g l = 0 then closedI g.prods g.terms.toNat (lkG g) l else [] := rfl
  refine enter (args := [graV g.terms g.nons (.slice bp g.prods.length cp), vl]) (n := 17) Try.func5 rfl rfl rfl ?_
  refine T_seq (T_region (TL_box rfl rfl rfl fun g2 => ?_))
  conv => arg 8; simp only [zA, zB, zC, zD, zE, zF, zG, zH, zI, rowS, ret, id_eq]
  repeat (first
    | refine QV QP ?_ | refine QZ ?_ | refine qcT rfl ?_ | refine qcF rfl ?_ | refine QV (rr_loadB (i := 0) TyC.ty rfl rfl rfl) ?_ | refine QV QnT ?_
    | refine QV QnF ?_)
  refine TL_call (he2 EntersC.en rfl rfl rfl) (fun w hm => hck w hm.below) rfl rfl rfl ?_
  intro _ _
  conv => arg 8; simp only [zA, zB, zC, zD, zE, zF, zG, zH, zI, rowS, ret, id_eq]
  by_cases c0 : checkI g l = 0
  · rw [if_pos c0] at hA
    obtain ⟨hg, hll, hr⟩ := checkI_ok c0
    have hT := (checkG_ok hg).1
    have hT2 := (checkG_ok hg).2.1
    have hcl := fun go gm w' B' ho' hs' hm' => itClosed_calls g hg bp cp vb w hG0 hvb (fun h => let ⟨b, off, h1, _, h3⟩ := hrp h; ⟨b, off, h1, fun i hi => (h3 i hi).1⟩) go gm 0 (fun _ => none) g.terms.toNat (by omega) (by omega) l vl hr (by omega) (fun x v h => by cases h) (by omega) w' B' ho' hs' hm'
    rw [hA, c0]
    repeat (first
      | refine QV QP ?_ | refine QZ ?_ | refine qcT rfl ?_ | refine qcF rfl ?_ | refine QV (rr_loadB (i := 0) TyC.ty rfl rfl rfl) ?_ | refine QV QnT ?_
      | refine QV QnF ?_)
    refine TL_call (he1 EntersC.en rfl rfl) (fun w hm => hbg w) rfl rfl rfl ?_
    rintro ⟨go, gm⟩ _
    conv => arg 8; simp only [zA, zB, zC, zD, zE, zF, zG, zH, zI, rowS, ret, id_eq, begS]
    conv => arg 7; simp only [begS]
    repeat (first
      | refine QV QP ?_ | refine QZ ?_ | refine qcT rfl ?_ | refine qcF rfl ?_ | refine QV QnT ?_ | refine QV QnF ?_)
    refine TL_callB [2, 1] [0] (by decide) rfl rfl (he2 EntersC.en rfl rfl rfl) (fun w' hm hb => hcl go gm w' _ ((Old.self w).on hm fun o h => pickMem h) (SlB.old ((Old.self w).on hm fun o h => pickMem h) hl (fun hn => flat_ne itC_len (by decide) hn)) hb) rfl rfl rfl ?_
    rintro ⟨f2, c2, v2⟩ _
    conv => arg 8; simp only [zA, zB, zC, zD, zE, zF, zG, zH, zI, rowS, ret, id_eq, itClS, opL]
    conv => arg 7; simp only [itClS]
    repeat (first
      | refine QV QP ?_ | refine QZ ?_ | refine qcT rfl ?_ | refine qcF rfl ?_ | refine QV QnT ?_ | refine QV QnF ?_)
    exact E_ret2 rfl rfl rfl fun w hm => hm.meets (S := itemsS 0 (closedI g.prods g.terms.toNat (lkG g) l)) v2 trivial [3] (by decide) rfl
  · rw [if_neg c0] at hA
    rw [hA]
    have hpos := checkI g l
    repeat (first
      | refine QV QP ?_ | refine QZ ?_ | refine qcT rfl ?_ | refine qcF rfl ?_ | refine QV (rr_neq (b := true) rfl rfl (decide_eq_true c0)) ?_
      | refine QV QnT ?_ | refine QV QnF ?_)
    refine E_nilrow 31 3 ?_
    exact E_ret2 rfl rfl rfl fun w hm => hm.meets (S := itemsS (checkI g l) []) (.slice none 0 0) trivial [1] (by decide) rfl
def stepE (g : Gram) (l : List itemL.Item) (x : Sym) : Int := if checkI g l ≠ 0 then checkI g l else if right g.terms g.nons x = true then 0 else 1
def stepA (g : Gram) (l : List itemL.Item) (x : Sym) : List itemL.Item := if stepE g l x = 0 then stepI g.prods g.terms.toNat (lkG g) l x else []
set_option maxHeartbeats 4000000 in
theorem itemsStep_calls (v : Value) (g : Gram) (vl : Value) (l : List itemL.Item) (x : Sym) (w : World) (hG : GraR (fun k => k < w.heap.size) w v g) (hl : Sl w vl l.length (l.flatMap itC)) :
    Calls Try.prog 14 #[v, vl, .agg (symC x).toArray] w (Meets (itemsS (stepE g l x) (stepA g l x)) w) := by
  have hG0 := hG
  have hck := fun w' (hg : Gr w w') => itCheck_calls v g vl l w' (hG.gr hg) (hl.gr hg)
  obtain ⟨vp, rfl, hp, ht, hn⟩ := hG
  obtain ⟨vb, bp, cp, rfl, -, -, hvb, hrp⟩ := prods_vb hp
  have hbg := begun_calls g.terms g.nons (.slice bp g.prods.length cp)
  have hA : stepA g l x = if stepE g l x = 0 then stepI g.prods g.terms.toNat (lkG g) l x else [] := rfl
  have hE : stepE g l x = if checkI g l ≠ 0 then checkI g l else if right g.terms g.nons x = true then 0 else 1 := rfl
  refine enter (args := [graV g.terms g.nons (.slice bp g.prods.length cp), vl, .agg (symC x).toArray]) (n := 48) Try.func14 rfl rfl rfl ?_
  refine T_seq (T_region (TL_box rfl rfl rfl fun g3 => ?_))
  conv => arg 8; simp only [zA, zB, zC, zD, zE, zF, zG, zH, zI, rowS, ret, id_eq]
  refine TL_box rfl rfl rfl fun g5 => ?_
  conv => arg 8; simp only [zA, zB, zC, zD, zE, zF, zG, zH, zI, rowS, ret, id_eq]
  repeat (first
    | refine QV QP ?_ | refine QZ ?_ | refine qcT rfl ?_ | refine qcF rfl ?_ | refine qs rfl rfl rfl rfl rfl rfl ?_
    | ((try refine qg rfl rfl rfl ?_); first | refine QV QP ?_ | refine QV (rr_loadB (i := 0) TyC.ty rfl rfl rfl) ?_ | refine QV QA ?_ | refine QV QlT ?_ | refine QV QlF ?_ | refine QV QnT ?_ | refine QV QnF ?_ | refine QV (rr_not rfl rfl) ?_ | refine QV QeT ?_ | refine QV QeF ?_))
  refine TL_call (he2 EntersC.en rfl rfl rfl) (fun w hm => hck w hm.below) rfl rfl rfl ?_
  intro _ _
  conv => arg 8; simp only [zA, zB, zC, zD, zE, zF, zG, zH, zI, rowS, ret, id_eq]
  by_cases c0 : checkI g l = 0
  · rw [if_neg (by rw [c0]; simp)] at hE
    obtain ⟨hg, hll, hr⟩ := checkI_ok c0
    have hT := (checkG_ok hg).1
    have hT2 := (checkG_ok hg).2.1
    rw [c0]
    repeat (first
      | refine QV QP ?_ | refine QZ ?_ | refine qcT rfl ?_ | refine qcF rfl ?_ | refine qs rfl rfl rfl rfl rfl rfl ?_
      | ((try refine qg rfl rfl rfl ?_); first | refine QV QP ?_ | refine QV QA ?_ | refine QV QlT ?_ | refine QV QlF ?_ | refine QV QnT ?_ | refine QV QnF ?_ | refine QV (rr_not rfl rfl) ?_ | refine QV QeT ?_ | refine QV QeF ?_))
    obtain ⟨xk, xn⟩ := x
    by_cases c1 : right g.terms g.nons (xk, xn) = true
    · rw [if_pos c1] at hE
      rw [hE, if_pos rfl] at hA
      rw [hE, hA]
      have hst := fun go gm w' B' ho' hs' hm' => itStep_calls g hg bp cp vb w hG0 hvb (fun h => let ⟨b, off, h1, _, h3⟩ := hrp h; ⟨b, off, h1, fun i hi => (h3 i hi).1⟩) go gm 0 (fun _ => none) g.terms.toNat (by omega) (by omega) l (xk, xn) vl hr (by omega) (fun x v h => by cases h) (by omega) w' B' ho' hs' hm'
      rcases right_cases c1 with ⟨h1, h2, h3⟩ | ⟨h1, h2, h3⟩
      all_goals
        dsimp only at h1 h2 h3
        subst h1
        repeat (first
          | refine QV QP ?_ | refine QZ ?_ | refine qcT rfl ?_ | refine qcF rfl ?_ | refine qs rfl rfl rfl rfl rfl rfl ?_
          | ((try refine qg rfl rfl rfl ?_); first | refine QV QP ?_ | refine QV (rr_load1 (v := .int .i64 xn) TyC.ty rfl (at_blk (i := 1) rfl rfl)) ?_ | refine QV (rr_load1 (v := .int .i64 1) TyC.ty rfl (at_blk (i := 1) rfl rfl)) ?_ | refine QV (rr_load1 (v := .int .i64 2) TyC.ty rfl (at_blk (i := 1) rfl rfl)) ?_ | refine QV (rr_load1 (v := .int .i64 g.terms) TyC.ty rfl (at_blk (i := 0) rfl rfl)) ?_ | refine QV (rr_load1 (v := .int .i64 g.nons) TyC.ty rfl (at_blk (i := 0) rfl rfl)) ?_ | refine QV QA ?_ | refine QV QlT ?_ | refine QV QlF ?_ | refine QV QnT ?_ | refine QV QnF ?_ | refine QV (rr_not rfl rfl) ?_ | refine QV QeT ?_ | refine QV QeF ?_))
        refine T_ord ([blkO g3 (graV g.terms g.nons (.slice bp g.prods.length cp)).cells 24, blkO g5 (symC (_, xn)).toArray 46]) (.calm 0 (.calm 2 (.calm 3 (.one 1 (.one 4 (.calm 5 (.calm 6 (.done)))))))) (sub_pick [0, 1] (by decide) rfl) (by kernel_rfl) (by kernel_rfl) (by intro c a d v w h; cases d <;> exact h) ?_
        repeat (first
          | ((first | refine TW_plain rfl rfl ?_ | refine TW_gmet rfl rfl rfl rfl ?_); first | refine QW QP ?_ | refine QW (rr_loadB (i := 0) TyC.ty rfl rfl rfl) ?_ | refine QW (rr_loadB (i := 1) TyC.ty rfl rfl rfl) ?_ | refine QW QA ?_ | refine QW QlT ?_ | refine QW QlF ?_ | refine QW QnT ?_ | refine QW QnF ?_ | refine QW (rr_not rfl rfl) ?_ | refine QW QeT ?_ | refine QW QeF ?_)
          | refine TW_skip rfl rfl rfl rfl rfl rfl rfl ?_ | refine TW_done ?_)
        refine TW_one rfl ?_
        refine TL_call (he1 EntersC.en rfl rfl) (fun w hm => hbg w) rfl rfl rfl ?_
        rintro ⟨go, gm⟩ _
        conv => arg 8; simp only [zA, zB, zC, zD, zE, zF, zG, zH, zI, rowS, ret, id_eq, begS]
        conv => arg 7; simp only [begS]
        refine TW_on (sub_pick [0, 1] (by decide) rfl) ?_
        repeat (first
          | ((first | refine TW_plain rfl rfl ?_ | refine TW_gmet rfl rfl rfl rfl ?_); first | refine QW QP ?_ | refine QW QA ?_ | refine QW QlT ?_ | refine QW QlF ?_ | refine QW QnT ?_ | refine QW QnF ?_ | refine QW (rr_not rfl rfl) ?_ | refine QW QeT ?_ | refine QW QeF ?_)
          | refine TW_skip rfl rfl rfl rfl rfl rfl rfl ?_ | refine TW_done ?_)
        refine TW_one rfl ?_
        refine TL_callB [3, 2] [0, 1] (by decide) rfl rfl (he3 EntersC.en rfl rfl rfl rfl) (fun w' hm hb => hst go gm w' _ ((Old.self w).on hm fun o h => pickMem h) (SlB.old ((Old.self w).on hm fun o h => pickMem h) hl (fun hn => flat_ne itC_len (by decide) hn)) hb) rfl rfl rfl ?_
        rintro ⟨f2, c2, v2⟩ _
        conv => arg 8; simp only [zA, zB, zC, zD, zE, zF, zG, zH, zI, rowS, ret, id_eq, itClS, opL]
        conv => arg 7; simp only [itClS]
        refine TW_on (sub_pick [0, 1] (by decide) rfl) ?_
        repeat (first
          | ((first | refine TW_plain rfl rfl ?_ | refine TW_gmet rfl rfl rfl rfl ?_); first | refine QW QP ?_ | refine QW QA ?_ | refine QW QlT ?_ | refine QW QlF ?_ | refine QW QnT ?_ | refine QW QnF ?_ | refine QW (rr_not rfl rfl) ?_ | refine QW QeT ?_ | refine QW QeF ?_)
          | refine TW_skip rfl rfl rfl rfl rfl rfl rfl ?_ | refine TW_done ?_)
        repeat (first
          | refine QV QP ?_ | refine QZ ?_ | refine qcT rfl ?_ | refine qcF rfl ?_ | refine qs rfl rfl rfl rfl rfl rfl ?_
          | ((try refine qg rfl rfl rfl ?_); first | refine QV QP ?_ | refine QV QA ?_ | refine QV QlT ?_ | refine QV QlF ?_ | refine QV QnT ?_ | refine QV QnF ?_ | refine QV (rr_not rfl rfl) ?_ | refine QV QeT ?_ | refine QV QeF ?_))
        exact E_ret2 rfl rfl rfl fun w hm => hm.meets (S := itemsS 0 (stepI g.prods g.terms.toNat (lkG g) l (_, xn))) v2 trivial [4] (by decide) rfl
    · rw [if_neg c1] at hE
      rw [hE, if_neg (by decide)] at hA
      rw [hE, hA]
      by_cases hneg : xn < 0
      · repeat (first
          | refine QV QP ?_ | refine QZ ?_ | refine qcT rfl ?_ | refine qcF rfl ?_ | refine qs rfl rfl rfl rfl rfl rfl ?_
          | ((try refine qg rfl rfl rfl ?_); first | refine QV QP ?_ | refine QV (rr_load1 (v := .int .i64 xn) TyC.ty rfl (at_blk (i := 1) rfl rfl)) ?_ | refine QV QA ?_ | refine QV QlT ?_ | refine QV QlF ?_ | refine QV QnT ?_ | refine QV QnF ?_ | refine QV (rr_not rfl rfl) ?_ | refine QV QeT ?_ | refine QV QeF ?_))
        refine E_nilrow 31 3 ?_
        exact E_ret2 rfl rfl rfl fun w hm => hm.meets (S := itemsS 1 []) (.slice none 0 0) trivial [2] (by decide) rfl

      have c2 := wrong_cases (Bool.eq_false_iff.2 c1)
      dsimp only at c2
      rcases c2 with ⟨h1, h2⟩ | ⟨h1, h2⟩ | ⟨h1, h2, h3⟩ | ⟨h1, h2⟩ | ⟨h1, h2, h3⟩
      · repeat (first
          | refine QV QP ?_ | refine QZ ?_ | refine qcT rfl ?_ | refine qcF rfl ?_ | refine qs rfl rfl rfl rfl rfl rfl ?_
          | ((try refine qg rfl rfl rfl ?_); first | refine QV QP ?_ | refine QV (rr_load1 (v := .int .i64 xn) TyC.ty rfl (at_blk (i := 1) rfl rfl)) ?_ | refine QV (rr_load1 (v := .int .i64 xk) TyC.ty rfl (at_blk (i := 1) rfl rfl)) ?_ | refine QV QA ?_ | refine QV QlT ?_ | refine QV QlF ?_ | refine QV QnT ?_ | refine QV QnF ?_ | refine QV (rr_not rfl rfl) ?_ | refine QV QeT ?_ | refine QV QeF ?_))
        refine E_nilrow 31 3 ?_
        exact E_ret2 rfl rfl rfl fun w hm => hm.meets (S := itemsS 1 []) (.slice none 0 0) trivial [2] (by decide) rfl
      · omega
      · subst h1
        repeat (first
          | refine QV QP ?_ | refine QZ ?_ | refine qcT rfl ?_ | refine qcF rfl ?_ | refine qs rfl rfl rfl rfl rfl rfl ?_
          | ((try refine qg rfl rfl rfl ?_); first | refine QV QP ?_ | refine QV (rr_load1 (v := .int .i64 xn) TyC.ty rfl (at_blk (i := 1) rfl rfl)) ?_ | refine QV (rr_load1 (v := .int .i64 1) TyC.ty rfl (at_blk (i := 1) rfl rfl)) ?_ | refine QV (rr_load1 (v := .int .i64 g.terms) TyC.ty rfl (at_blk (i := 0) rfl rfl)) ?_ | refine QV QA ?_ | refine QV QlT ?_ | refine QV QlF ?_ | refine QV QnT ?_ | refine QV QnF ?_ | refine QV (rr_not rfl rfl) ?_ | refine QV QeT ?_ | refine QV QeF ?_))
        refine E_nilrow 31 3 ?_
        exact E_ret2 rfl rfl rfl fun w hm => hm.meets (S := itemsS 1 []) (.slice none 0 0) trivial [2] (by decide) rfl
      · omega
      · subst h1
        repeat (first
          | refine QV QP ?_ | refine QZ ?_ | refine qcT rfl ?_ | refine qcF rfl ?_ | refine qs rfl rfl rfl rfl rfl rfl ?_
          | ((try refine qg rfl rfl rfl ?_); first | refine QV QP ?_ | refine QV (rr_load1 (v := .int .i64 xn) TyC.ty rfl (at_blk (i := 1) rfl rfl)) ?_ | refine QV (rr_load1 (v := .int .i64 2) TyC.ty rfl (at_blk (i := 1) rfl rfl)) ?_ | refine QV (rr_load1 (v := .int .i64 g.nons) TyC.ty rfl (at_blk (i := 0) rfl rfl)) ?_ | refine QV QA ?_ | refine QV QlT ?_ | refine QV QlF ?_ | refine QV QnT ?_ | refine QV QnF ?_ | refine QV (rr_not rfl rfl) ?_ | refine QV QeT ?_ | refine QV QeF ?_))
        refine E_nilrow 31 3 ?_
        exact E_ret2 rfl rfl rfl fun w hm => hm.meets (S := itemsS 1 []) (.slice none 0 0) trivial [2] (by decide) rfl
  · rw [if_pos c0] at hE
    rw [if_neg (by rw [hE]; exact c0)] at hA
    rw [hA, hE]
    repeat (first
      | refine QV QP ?_ | refine QZ ?_ | refine qcT rfl ?_ | refine qcF rfl ?_ | refine qs rfl rfl rfl rfl rfl rfl ?_
      | ((try refine qg rfl rfl rfl ?_); first | refine QV QP ?_ | refine QV (rr_neq (b := true) rfl rfl (decide_eq_true c0)) ?_ | refine QV QA ?_ | refine QV QlT ?_ | refine QV QlF ?_ | refine QV QnT ?_ | refine QV QnF ?_ | refine QV (rr_not rfl rfl) ?_ | refine QV QeT ?_ | refine QV QeF ?_))
    refine E_nilrow 31 3 ?_
    exact E_ret2 rfl rfl rfl fun w hm => hm.meets (S := itemsS (checkI g l) []) (.slice none 0 0) trivial [2] (by decide) rfl
end Go.Proofs.Ytmcclhddjielnaa.eng

/- ItQ -/
namespace Go.Proofs.Ytmcclhddjielnaa.eng
open Go.RowKit kit mix
theorem eq_item (f f' : itemL.Item) (w : World) : (Op.equalIn 10000 31 (.agg (itC f).toArray) (.agg (itC f').toArray)).run Try.prog w = .ok (decide (f = f')) w := by
  obtain ⟨k, q, r⟩ := f
  obtain ⟨k', q', r'⟩ := f'
  unfold itC
  go_simp
  by_cases e1 : k = k' <;> by_cases e2 : q = q' <;> by_cases e3 : r = r' <;> simp [e1, e2, e3]
end Go.Proofs.Ytmcclhddjielnaa.eng

/- ItT -/
namespace Go.Proofs.Ytmcclhddjielnaa.eng
open Go.RowKit kit mix
theorem ItT_len (a : itemL.Item) : (itC a).length = 3 := rfl
set_option maxHeartbeats 2000000 in
theorem equalItT_calls (v v' : Value) (l l' : List itemL.Item) (w : World) (hs : Sl w v l.length (l.flatMap itC)) (hs' : Sl w v' l'.length (l'.flatMap itC)) :
    Calls Try.prog 9 #[v, v'] w (Meets (ret (.bool (decide (l = l')))) w) := by
  obtain ⟨base, cap, rfl, hcap, hmax, hrd⟩ := hs
  obtain ⟨base', cap', rfl, hcap', hmax', hrd'⟩ := hs'
  unfold maxLen at hmax hmax'
  refine enter (args := [.slice base l.length cap, .slice base' l'.length cap']) (n := 26) Try.func9 rfl rfl rfl ?_
  by_cases c1 : l.length = l'.length
  · repeat (first
      | refine QV QP ?_ | refine QZ ?_ | refine qcT rfl ?_ | refine qcF rfl ?_ | refine E_blockX ?_ | refine E_blockO rfl ?_ | refine QV QL ?_
      | refine QV QlT ?_ | refine QV QlF ?_ | refine QV QnT ?_ | refine QV QnF ?_ | refine QV QaA ?_)
    refine T_loop (ι := Nat) (fun k => k ≤ l.length ∧ l.take k = l'.take k) (fun k => [(0, .slice base l.length cap), (1, .slice base' l'.length cap'), (12, .int .i64 l.length), (13, .int .i64 (k : Int))]) (fun _ => []) (fun k => l.length - k) 0 ⟨by omega, rfl⟩ ⟨rfl, rfl, rfl, rfl, trivial⟩ rfl ?_
    rintro k ⟨h1, h2⟩
    by_cases c2 : k < l.length
    · obtain ⟨b, off, rfl, hr⟩ := hrd (by omega)
      obtain ⟨b', off', rfl, hr'⟩ := hrd' (by omega)
      have c2' : k < l'.length := by omega
      have hat := at_el (L := ([] : List Own)) ItT_len hr c2
      have hat' := at_el (L := ([] : List Own)) ItT_len hr' c2'
      have heq := eq_item l[k] l'[k]
      by_cases c3 : l[k] = l'[k]
      · rw [decide_eq_true c3] at heq
        repeat (first
          | refine QV QP ?_ | refine QZ ?_ | refine qcT rfl ?_ | refine qcF rfl ?_ | refine E_blockX ?_ | refine E_blockO rfl ?_ | refine QV QL ?_
          | refine QV QlT ?_ | refine QV QlF ?_ | refine QV QnT ?_ | refine QV QnF ?_ | refine QV QaA ?_)
        refine T_draw 8 (List.replicate 8 true) rfl (by kernel_rfl) (by kernel_rfl) (by intro c a d v w h; cases d <;> exact h) ?_
        repeat (first
          | refine TM_valg rfl (qp rfl) rfl rfl ?_ | refine TM_valg rfl (rr_idxc Und.eq TyC.ty rfl rfl c2) rfl rfl ?_
          | refine TM_valg rfl (rr_idxc Und.eq TyC.ty rfl rfl c2') rfl rfl ?_ | refine TM_valg rfl (rr_loadN TyC.ty rfl rfl hat) rfl rfl ?_
          | refine TM_valg rfl (rr_loadN TyC.ty rfl rfl hat') rfl rfl ?_ | refine TM_valg rfl (qlen Und.eq rfl) rfl rfl ?_
          | refine TM_valg rfl (rr_lss rfl rfl (qT (by omega))) rfl rfl ?_ | refine TM_valg rfl (rr_lss rfl rfl (qF (by omega))) rfl rfl ?_
          | refine TM_valg rfl (rr_neq rfl rfl (qT (by omega))) rfl rfl ?_ | refine TM_valg rfl (rr_neq rfl rfl (qF (by omega))) rfl rfl ?_
          | refine TM_valg rfl (rr_add64 rfl rfl (by omega) (by omega) rfl) rfl rfl ?_ | refine TM_end ?_)
        repeat (first
          | refine QV QP ?_ | refine QZ ?_ | refine qcT rfl ?_ | refine qcF rfl ?_ | refine E_blockX ?_ | refine E_blockO rfl ?_
          | refine QV (rr_aggne rfl rfl (by kernel_rfl) heq rfl) ?_ | refine QV QL ?_ | refine QV QlT ?_ | refine QV QlF ?_ | refine QV QnT ?_ | refine QV QnF ?_
          | refine QV QaA ?_)
        exact E_round (k + 1) ⟨by omega, by rw [List.take_succ_eq_append_getElem c2, List.take_succ_eq_append_getElem c2', h2, c3]⟩ (by show l.length - (k + 1) < l.length - k; omega) ⟨rfl, rfl, rfl, rfl, trivial⟩ rfl
      · rw [decide_eq_false c3] at heq
        rw [decide_eq_false (fun h => c3 (by subst h; rfl))]
        repeat (first
          | refine QV QP ?_ | refine QZ ?_ | refine qcT rfl ?_ | refine qcF rfl ?_ | refine E_blockX ?_ | refine E_blockO rfl ?_ | refine QV QL ?_
          | refine QV QlT ?_ | refine QV QlF ?_ | refine QV QnT ?_ | refine QV QnF ?_ | refine QV QaA ?_)
        refine T_draw 8 (List.replicate 8 true) rfl (by kernel_rfl) (by kernel_rfl) (by intro c a d v w h; cases d <;> exact h) ?_
        repeat (first
          | refine TM_valg rfl (qp rfl) rfl rfl ?_ | refine TM_valg rfl (rr_idxc Und.eq TyC.ty rfl rfl c2) rfl rfl ?_
          | refine TM_valg rfl (rr_idxc Und.eq TyC.ty rfl rfl c2') rfl rfl ?_ | refine TM_valg rfl (rr_loadN TyC.ty rfl rfl hat) rfl rfl ?_
          | refine TM_valg rfl (rr_loadN TyC.ty rfl rfl hat') rfl rfl ?_ | refine TM_valg rfl (qlen Und.eq rfl) rfl rfl ?_
          | refine TM_valg rfl (rr_lss rfl rfl (qT (by omega))) rfl rfl ?_ | refine TM_valg rfl (rr_lss rfl rfl (qF (by omega))) rfl rfl ?_
          | refine TM_valg rfl (rr_neq rfl rfl (qT (by omega))) rfl rfl ?_ | refine TM_valg rfl (rr_neq rfl rfl (qF (by omega))) rfl rfl ?_
          | refine TM_valg rfl (rr_add64 rfl rfl (by omega) (by omega) rfl) rfl rfl ?_ | refine TM_end ?_)
        repeat (first
          | refine QV QP ?_ | refine QZ ?_ | refine qcT rfl ?_ | refine qcF rfl ?_ | refine E_blockX ?_ | refine E_blockO rfl ?_
          | refine QV (rr_aggne rfl rfl (by kernel_rfl) heq rfl) ?_ | refine QV QL ?_ | refine QV QlT ?_ | refine QV QlF ?_ | refine QV QnT ?_ | refine QV QnF ?_
          | refine QV QaA ?_)
        exact E_ret1 rfl rfl fun w hm => hm.ret
    · have e : l = l' := by
        rw [List.take_of_length_le (by omega), List.take_of_length_le (by omega)] at h2; exact h2
      rw [decide_eq_true e]
      repeat (first
        | refine QV QP ?_ | refine QZ ?_ | refine qcT rfl ?_ | refine qcF rfl ?_ | refine E_blockX ?_ | refine E_blockO rfl ?_ | refine QV QL ?_
        | refine QV QlT ?_ | refine QV QlF ?_ | refine QV QnT ?_ | refine QV QnF ?_ | refine QV QaA ?_)
      exact E_ret1 rfl rfl fun w hm => hm.ret
  · rw [decide_eq_false (fun h => c1 (by rw [h]))]
    repeat (first
      | refine QV QP ?_ | refine QZ ?_ | refine qcT rfl ?_ | refine qcF rfl ?_ | refine E_blockX ?_ | refine E_blockO rfl ?_ | refine QV QL ?_
      | refine QV QlT ?_ | refine QV QlF ?_ | refine QV QnT ?_ | refine QV QnF ?_ | refine QV QaA ?_)
    exact E_ret1 rfl rfl fun w hm => hm.ret
end Go.Proofs.Ytmcclhddjielnaa.eng

/- ItN -/
namespace Go.Proofs.Ytmcclhddjielnaa.eng
open Go.RowKit kit mix gramL treeL factsL itemL
theorem conv_it {x : Int} (h0 : 0 ≤ x) (h1 : x < 256) : IntKind.u8.wrap x = (((UInt8.ofNat x.toNat).toNat : Nat) : Int) := by
  obtain ⟨n, rfl⟩ := Int.eq_ofNat_of_zero_le h0
  rw [Int.toNat_natCast, IntKind.wrap_u8]; simp
theorem nameI_len (l : List itemL.Item) : (nameI l).length = 3 * l.length := by
  induction l with
  | nil => rfl
  | cons x r ih =>
    have : nameI (x :: r) = [UInt8.ofNat x.1.toNat, UInt8.ofNat x.2.1.toNat, UInt8.ofNat x.2.2.toNat] ++ nameI r := rfl
    rw [this, List.length_append, ih, List.length_cons]
    show 3 + 3 * r.length = 3 * (r.length + 1)
    omega
theorem nameI_take {l : List itemL.Item} {k : Nat} (h : k < l.length) : nameI (l.take (k + 1)) = nameI (l.take k) ++ [UInt8.ofNat l[k].1.toNat, UInt8.ofNat l[k].2.1.toNat, UInt8.ofNat l[k].2.2.toNat] := by
  unfold nameI
  rw [List.take_succ_eq_append_getElem h, List.flatMap_append]
  rfl
set_option maxHeartbeats 4000000 in
theorem name_calls (vl : Value) (l : List itemL.Item) (w : World) (hl : Sl w vl l.length (l.flatMap itC)) (hb : ∀ it ∈ l, 0 ≤ it.1 ∧ it.1 < 256 ∧ 0 ≤ it.2.1 ∧ it.2.1 < 256 ∧ 0 ≤ it.2.2 ∧ it.2.2 < 256) (hn : l.length ≤ 20000) :
    Calls Try.prog 24 #[vl] w (Meets (ret (str (nameI l))) w) := by
  obtain ⟨bl, cl, rfl, hc1, hc2, hrl⟩ := hl
  unfold maxLen at hc2
  refine enter (args := [.slice bl l.length cl]) (n := 27) Try.func24 rfl rfl rfl ?_
  repeat (first
    | refine QV QP ?_ | refine QZ ?_ | refine qcT rfl ?_ | refine qcF rfl ?_ | refine E_blockX ?_ | refine E_blockO rfl ?_ | refine QV QL ?_
    | refine QV QA ?_ | refine QV QlT ?_ | refine QV QlF ?_ | refine QV QaA ?_)
  refine T_nil 5 1 ?_
  conv => arg 7; simp only [zA, zB, zC, zD, zE, zF, zG, zH, zI, rowS, ret, id_eq]
  refine T_loop (ι := Nat × Value) (fun (k, _) => k ≤ l.length) (fun (k, v) => [(3, v), (6, .slice bl l.length cl), (7, .int .i64 l.length), (8, .int .i64 (k : Int))])
    (fun (k, v) => [rowO 5 1 v (nameI (l.take k)).length ((nameI (l.take k)).map u8v)]) (fun (k, _) => l.length - k) (0, .slice none 0 0) (Nat.zero_le _) (by repeat' (first | exact True.intro | refine And.intro rfl ?_)) rfl ?_
  rintro ⟨k, v⟩ i1
  dsimp only at i1 ⊢
  by_cases c1 : k < l.length
  · obtain ⟨b, off, rfl, hrd⟩ := hrl (by omega)
    have hat := fun L => at_el (L := L) itC_len hrd c1
    have hatA : ∀ (L : List Own) (j : Nat) (u : Value), (itC l[k])[j]? = some u → At (w : Base) L ⟨b, off + k * 3 + j, none⟩ u := hat
    clear hat hrl hrd
    obtain ⟨b1, b2, b3, b4, b5, b6⟩ := hb l[k] (List.getElem_mem c1)
    have hnx := nameI_take c1
    have hln : (nameI (l.take k)).length ≤ 60000 := by rw [nameI_len, List.length_take]; omega
    generalize l[k] = x at *
    obtain ⟨p, d, lo⟩ := x
    dsimp only at b1 b2 b3 b4 b5 b6 hnx
    have e1 := conv_it b1 b2
    have e2 := conv_it b3 b4
    have e3 := conv_it b5 b6
    generalize UInt8.ofNat p.toNat = y1 at *
    generalize UInt8.ofNat d.toNat = y2 at *
    generalize UInt8.ofNat lo.toNat = y3 at *
    generalize hN : nameI (l.take k) = N at *
    repeat (first
      | refine QV QP ?_ | refine QZ ?_ | refine qcT rfl ?_ | refine qcF rfl ?_ | refine E_blockX ?_ | refine E_blockO rfl ?_
      | refine QV (rr_idxc Und.eq TyC.ty rfl rfl c1) ?_ | refine QV (rr_loadN (cs := itC (p, d, lo)) TyC.ty rfl rfl (hatA _)) ?_ | refine QV QL ?_
      | refine QV QA ?_ | refine QV QlT ?_ | refine QV QlF ?_ | refine QV QaA ?_)
    refine TL_new rfl fun g5 => ?_
    conv => arg 8; simp only [zA, zB, zC, zD, zE, zF, zG, zH, zI, rowS, ret, id_eq]
    refine TL_storeB (i := 1) (cs' := (itC (p, d, lo)).toArray) rfl rfl rfl rfl rfl rfl ?_
    conv => arg 8; simp only [zA, zB, zC, zD, zE, zF, zG, zH, zI, rowS, ret, id_eq]
    repeat (first
      | refine QV QP ?_ | refine QZ ?_ | refine qcT rfl ?_ | refine qcF rfl ?_ | refine E_blockX ?_ | refine E_blockO rfl ?_
      | refine QV (rr_load1 (v := .int .i64 p) TyC.ty rfl (at_blk (i := 1) rfl rfl)) ?_
      | refine QV (rr_load1 (v := .int .i64 d) TyC.ty rfl (at_blk (i := 1) rfl rfl)) ?_
      | refine QV (rr_load1 (v := .int .i64 lo) TyC.ty rfl (at_blk (i := 1) rfl rfl)) ?_ | refine QV (rr_conv Und.eq Und.eq rfl e1) ?_
      | refine QV (rr_conv Und.eq Und.eq rfl e2) ?_ | refine QV (rr_conv Und.eq Und.eq rfl e3) ?_ | refine QV QL ?_ | refine QV QA ?_ | refine QV QlT ?_
      | refine QV QlF ?_ | refine QV QaA ?_)
    refine TL_litV [u8v y1, u8v y2, u8v y3] rfl rfl rfl (by intro v hv; simp at hv; rcases hv with rfl | rfl | rfl <;> rfl) rfl rfl fun g22 => ?_
    conv => arg 8; simp only [zA, zB, zC, zD, zE, zF, zG, zH, zI, rowS, ret, id_eq]
    refine TL_appSl (i := 0) (e := 5) (size := 1) (bytes := 1) (m := N.length) (xs := N.map u8v) (k := 3) (ys := [u8v y1, u8v y2, u8v y3]) rfl (sl_blk (i := 2) rfl (fun j u h => by simpa using h) (Nat.le_refl 3) (by decide)) rfl rfl rfl (by intro u hu; simp at hu; rcases hu with rfl | rfl | rfl <;> rfl) (by omega) (by omega) rfl fun v' => ?_
    conv => arg 8; simp only [zA, zB, zC, zD, zE, zF, zG, zH, zI, rowS, ret, id_eq]
    repeat (first
      | refine QV QP ?_ | refine QZ ?_ | refine qcT rfl ?_ | refine qcF rfl ?_ | refine E_blockX ?_ | refine E_blockO rfl ?_ | refine QV QL ?_
      | refine QV QA ?_ | refine QV QlT ?_ | refine QV QlF ?_ | refine QV QaA ?_)
    refine E_pick [0] (by decide) rfl ?_
    exact E_round (k + 1, v') (by show k + 1 ≤ l.length; omega) (by show l.length - (k + 1) < l.length - k; omega) (by repeat' (first | exact True.intro | refine And.intro rfl ?_)) (by dsimp only; rw [hnx, List.length_append, List.map_append]; rfl)
  · obtain rfl : k = l.length := by omega
    rw [List.take_length]
    repeat (first
      | refine QV QP ?_ | refine QZ ?_ | refine qcT rfl ?_ | refine qcF rfl ?_ | refine E_blockX ?_ | refine E_blockO rfl ?_
      | refine QV (rr_string Und.eq Und.eq Und.eq rfl rfl (sl_row (i := 0) rfl)) ?_ | refine QV QL ?_ | refine QV QA ?_ | refine QV QlT ?_ | refine QV QlF ?_
      | refine QV QaA ?_)
    exact E_ret1 rfl rfl fun w hm => hm.ret
set_option maxHeartbeats 4000000 in
theorem symbols_calls (T N : Nat) (hT : T ≤ 1000) (hN : N ≤ 1000) (vp : Value) (w : World) :
    Calls Try.prog 25 #[graV (T : Int) (N : Int) vp] w (Meets (rowS 46 2 (symsI T N).length ((symsI T N).flatMap symC) id) w) := by
  have hb1 := fun (q : Int) => build_sym 1 q
  have hb2 := fun (q : Int) => build_sym 2 q
  refine enter (args := [graV (T : Int) (N : Int) vp]) (n := 29) Try.func25 rfl rfl rfl ?_
  refine T_seq (T_region (TL_box rfl rfl rfl fun g1 => ?_))
  conv => arg 8; simp only [zA, zB, zC, zD, zE, zF, zG, zH, zI, rowS, ret, id_eq]
  repeat (first
    | refine QV QP ?_ | refine QZ ?_ | refine qcT rfl ?_ | refine qcF rfl ?_ | refine E_blockX ?_ | refine E_blockO rfl ?_
    | refine QV (rr_load1 (v := .int .i64 (T : Int)) TyC.ty rfl (at_blk (i := 0) rfl rfl)) ?_ | refine QV QA ?_ | refine QV QlT ?_ | refine QV QlF ?_
    | refine QV QaA ?_)
  refine T_nil 46 2 ?_
  conv => arg 7; simp only [zA, zB, zC, zD, zE, zF, zG, zH, zI, rowS, ret, id_eq]
  refine T_loop (ι := Nat × Value) (fun (k, _) => k ≤ T) (fun (k, v) => [(1, .pointer (some ⟨g1, 0, none⟩)), (3, v), (7, .int .i64 (T : Int)), (8, .int .i64 (k : Int))])
    (fun (k, v) => [blkO g1 (graV (T : Int) (N : Int) vp).cells 24, rowO 46 2 v ((List.range k).map (fun n : Nat => ((1 : Int), (n : Int)))).length (((List.range k).map (fun n : Nat => ((1 : Int), (n : Int)))).flatMap symC)]) (fun (k, _) => T - k) (0, .slice none 0 0) (Nat.zero_le _) (by repeat' (first | exact True.intro | refine And.intro rfl ?_)) rfl ?_
  rintro ⟨k, v⟩ i1
  dsimp only at i1 ⊢
  by_cases c1 : k < T
  · have hnx : (List.range (k + 1)).map (fun n : Nat => ((1 : Int), (n : Int))) = (List.range k).map (fun n : Nat => ((1 : Int), (n : Int))) ++ [((1 : Int), (k : Int))] := by rw [List.range_succ, List.map_append]; rfl
    have hln : ((List.range k).map (fun n : Nat => ((1 : Int), (n : Int)))).length = k := by rw [List.length_map, List.length_range]
    generalize hA : (List.range k).map (fun n : Nat => ((1 : Int), (n : Int))) = A at *
    repeat (first
      | refine QV QP ?_ | refine QZ ?_ | refine qcT rfl ?_ | refine qcF rfl ?_ | refine E_blockX ?_ | refine E_blockO rfl ?_
      | refine QV (rr_build rfl (hb1 _)) ?_ | refine QV QA ?_ | refine QV QlT ?_ | refine QV QlF ?_ | refine QV QaA ?_)
    refine TL_pushN (i := 1) rfl rfl rfl rfl rfl rfl rfl (fun z h => by cases h; rfl) (by omega) (by omega) rfl fun z v' => ?_
    conv => arg 8; simp only [zA, zB, zC, zD, zE, zF, zG, zH, zI, rowS, ret, id_eq]
    repeat (first
      | refine QV QP ?_ | refine QZ ?_ | refine qcT rfl ?_ | refine qcF rfl ?_ | refine E_blockX ?_ | refine E_blockO rfl ?_ | refine QV QA ?_
      | refine QV QlT ?_ | refine QV QlF ?_ | refine QV QaA ?_)
    exact E_round (k + 1, v') (by show k + 1 ≤ T; omega) (by show T - (k + 1) < T - k; omega) (by repeat' (first | exact True.intro | refine And.intro rfl ?_)) (by dsimp only; rw [hnx, List.length_append, List.flatMap_append]; rfl)
  obtain rfl : k = T := by omega
  have hln : ((List.range k).map (fun n : Nat => ((1 : Int), (n : Int)))).length = k := by rw [List.length_map, List.length_range]
  have hS : symsI k N = (List.range k).map (fun n : Nat => ((1 : Int), (n : Int))) ++ (List.range N).map (fun n : Nat => ((2 : Int), (n : Int))) := rfl
  generalize symsI k N = S at *
  generalize hA : (List.range k).map (fun n : Nat => ((1 : Int), (n : Int))) = A at *
  repeat (first
    | refine QV QP ?_ | refine QZ ?_ | refine qcT rfl ?_ | refine qcF rfl ?_ | refine E_blockX ?_ | refine E_blockO rfl ?_
    | refine QV (rr_load1 (v := .int .i64 (N : Int)) TyC.ty rfl (at_blk (i := 0) rfl rfl)) ?_ | refine QV QA ?_ | refine QV QlT ?_ | refine QV QlF ?_
    | refine QV QaA ?_)
  refine T_loop (ι := Nat × Value) (fun (j, _) => j ≤ N) (fun (j, v) => [(3, v), (18, .int .i64 (N : Int)), (19, .int .i64 (j : Int))])
    (fun (j, v) => [blkO g1 (graV (k : Int) (N : Int) vp).cells 24, rowO 46 2 v (A ++ (List.range j).map (fun n : Nat => ((2 : Int), (n : Int)))).length ((A ++ (List.range j).map (fun n : Nat => ((2 : Int), (n : Int)))).flatMap symC)]) (fun (j, _) => N - j) (0, v) (Nat.zero_le _) (by repeat' (first | exact True.intro | refine And.intro rfl ?_)) (by simp only [List.range_zero, List.map_nil, List.append_nil]) ?_
  rintro ⟨j, v⟩ j1
  dsimp only at j1 ⊢
  by_cases c2 : j < N
  · have hnx : A ++ (List.range (j + 1)).map (fun n : Nat => ((2 : Int), (n : Int))) = (A ++ (List.range j).map (fun n : Nat => ((2 : Int), (n : Int)))) ++ [((2 : Int), (j : Int))] := by rw [List.range_succ, List.map_append, List.append_assoc]; rfl
    have hln2 : (A ++ (List.range j).map (fun n : Nat => ((2 : Int), (n : Int)))).length ≤ 2000 := by rw [List.length_append, List.length_map, List.length_range]; omega
    generalize hD : A ++ (List.range j).map (fun n : Nat => ((2 : Int), (n : Int))) = D at *
    repeat (first
      | refine QV QP ?_ | refine QZ ?_ | refine qcT rfl ?_ | refine qcF rfl ?_ | refine E_blockX ?_ | refine E_blockO rfl ?_
      | refine QV (rr_build rfl (hb2 _)) ?_ | refine QV QA ?_ | refine QV QlT ?_ | refine QV QlF ?_ | refine QV QaA ?_)
    refine TL_pushN (i := 1) rfl rfl rfl rfl rfl rfl rfl (fun z h => by cases h; rfl) (by omega) (by omega) rfl fun z v' => ?_
    conv => arg 8; simp only [zA, zB, zC, zD, zE, zF, zG, zH, zI, rowS, ret, id_eq]
    repeat (first
      | refine QV QP ?_ | refine QZ ?_ | refine qcT rfl ?_ | refine qcF rfl ?_ | refine E_blockX ?_ | refine E_blockO rfl ?_ | refine QV QA ?_
      | refine QV QlT ?_ | refine QV QlF ?_ | refine QV QaA ?_)
    exact E_round (j + 1, v') (by show j + 1 ≤ N; omega) (by show N - (j + 1) < N - j; omega) (by repeat' (first | exact True.intro | refine And.intro rfl ?_)) (by dsimp only; rw [hnx, List.length_append, List.flatMap_append]; rfl)
  obtain rfl : j = N := by omega
  rw [← hS]
  repeat (first
    | refine QV QP ?_ | refine QZ ?_ | refine qcT rfl ?_ | refine qcF rfl ?_ | refine E_blockX ?_ | refine E_blockO rfl ?_ | refine QV QA ?_
    | refine QV QlT ?_ | refine QV QlF ?_ | refine QV QaA ?_)
  exact E_ret1 rfl rfl fun w hm => hm.meets (S := rowS 46 2 S.length (S.flatMap symC) id) v trivial [1] (by decide) rfl
end Go.Proofs.Ytmcclhddjielnaa.eng

/- StrK -/
namespace Go.Proofs.Ytmcclhddjielnaa.eng
open Go.RowKit kit mix
theorem str_inj {x y : List UInt8} (h : str x = str y) : x = y := by
  unfold str at h
  simpa using h
def strK : KeyT Try.prog 9 (List UInt8) where
  kv := str
  ok l := l.length ≤ 9223372036854775807
  law := Go.WideMaps.string_law Try.underlying9
  key l h := ⟨_, Go.WideMaps.keyOf_string_mk Try.underlying9 (by unfold maxLen; simpa [ByteArray.size] using h)⟩
  inj x y h := str_inj h
end Go.Proofs.Ytmcclhddjielnaa.eng

/- MapN -/
namespace Go.Proofs.Ytmcclhddjielnaa.eng
open Go.RowKit kit mix smallL
def mapAt {κ : Type} [DecidableEq κ] (D : List κ) (x : κ) : Option Value := if x ∈ D then some (.int .i64 (idx D x : Int)) else none
theorem mapAt_add {κ : Type} [DecidableEq κ] {D : List κ} {x : κ} (hn : x ∉ D) : (fun y => if y = x then some (.int .i64 (D.length : Int)) else mapAt D y) = mapAt (D ++ [x]) := by
  funext y
  unfold mapAt
  by_cases c : y = x
  · subst c
    rw [if_pos rfl, if_pos (by simp)]
    have := idx_more (D := D) (k := y)
    unfold more at this
    rw [if_neg hn, if_neg hn] at this
    rw [this]
  · rw [if_neg c]
    by_cases c2 : y ∈ D
    · rw [if_pos c2, if_pos (List.mem_append_left _ c2), idx_pre c2]
    · rw [if_neg c2, if_neg (by simp [c, c2])]
section
variable {P : Program} {k : TypeId} {κ : Type} {K : KeyT P k κ}
variable {W : Base} {fr : Fr} {L : List Own} {Q : Exit → Act → World → Prop} {ops : Array Oper} {rest : List Oper} {n d : Nat} {dst : Option Tmp} {ty : TypeId} {pos : String} {after : Array Edge} {guard : Option (Nat × Bool)} {i g c : Nat} {t e : TypeId} {D : List κ} {x : κ} {z : Value} {xm xk xv : Operand} [DecidableEq κ]
theorem rr_lookNumS (ht : P.underlying t = some (.map k e)) (hz : ∀ w, (zeroValue e).run P w = .ok z w) (hi : L[i]? = some (mapO K g (mapAt D) c)) (hm : ev fr xm = some (.map (some g))) (hk : ev fr xk = some (K.kv x)) (hx : K.ok x) (hn : x ∈ D) : RR P n W ⟨dst, .lookup t xm xk true, ty, pos, after, guard⟩ fr L (.tuple #[.int .i64 (idx D x : Int), .bool true]) := by
  have := rr_lookOk (n := n) (W := W) (dst := dst) (ty := ty) (pos := pos) (after := after) (guard := guard) K ht hz hi hm hk hx
  rw [show mapAt D x = some (.int .i64 (idx D x : Int)) from if_pos hn] at this
  exact this
theorem rr_lookNumN (ht : P.underlying t = some (.map k e)) (hz : ∀ w, (zeroValue e).run P w = .ok z w) (hi : L[i]? = some (mapO K g (mapAt D) c)) (hm : ev fr xm = some (.map (some g))) (hk : ev fr xk = some (K.kv x)) (hx : K.ok x) (hn : x ∉ D) : RR P n W ⟨dst, .lookup t xm xk true, ty, pos, after, guard⟩ fr L (.tuple #[z, .bool false]) := by
  have := rr_lookOk (n := n) (W := W) (dst := dst) (ty := ty) (pos := pos) (after := after) (guard := guard) K ht hz hi hm hk hx
  rw [show mapAt D x = none from if_neg hn] at this
  exact this
theorem TL_mapNew (hn : Nat.blt d n = true) (h : ∀ g, TL P n W ops Q rest ((d, .map (some g)) :: fr) (L ++ [mapO K g (mapAt []) 0])) :
    TL P n W ops Q (⟨some d, .makeMap t none, ty, pos, after, none⟩ :: rest) fr L := by
  refine TL_map K hn fun g => ?_
  have e : (fun (_ : κ) => (none : Option Value)) = mapAt [] := by funext y; unfold mapAt; rw [if_neg (by simp)]
  rw [e]; exact h g
end
end Go.Proofs.Ytmcclhddjielnaa.eng

/- ItO -/
namespace Go.Proofs.Ytmcclhddjielnaa.eng
open Go.RowKit kit mix gramL treeL factsL itemL smallL
def itS : Shp itemL.Item := flatS itC 3 (fun _ => rfl) (fun _ => True)
theorem idx_map {κ τ : Type} [DecidableEq κ] [DecidableEq τ] (f : κ → τ) (x : κ) : ∀ (D : List κ), (∀ y ∈ D, f y = f x → y = x) → idx (D.map f) (f x) = idx D x
  | [], _ => rfl
  | y :: D, h => by
    have ih := idx_map f x D fun z hz => h z (List.mem_cons_of_mem _ hz)
    unfold idx at ih ⊢
    rw [List.map_cons, List.idxOf_cons, List.idxOf_cons, ih]
    by_cases e : y = x
    · subst e; simp
    · have : ¬ f y = f x := fun e2 => e (h y (List.mem_cons_self ..) e2)
      rw [show (f y == f x) = false by simpa using this, show (y == x) = false by simpa using e]
/-- items whose numbers are bytes -/
def SmallIt (s : List itemL.Item) : Prop := ∀ it ∈ s, 0 ≤ it.1 ∧ it.1 < 256 ∧ 0 ≤ it.2.1 ∧ it.2.1 < 256 ∧ 0 ≤ it.2.2 ∧ it.2.2 < 256
theorem mem_names {S : List (List itemL.Item)} {s : List itemL.Item} (hS : ∀ t ∈ S, SmallIt t) (hs : SmallIt s) : nameI s ∈ S.map nameI ↔ s ∈ S := by
  constructor
  · intro h
    obtain ⟨t, ht, e⟩ := List.mem_map.1 h
    rw [← name_inj (hS t ht) hs e]; exact ht
  · exact List.mem_map_of_mem
def stL (g6 gm g7 : Nat) (vS vN : Value) (vss : List Value) (F : Nat → Prop) (S : List (List itemL.Item)) : List Own :=
  [blkO g6 #[.map (some gm)] 60, mapO strK gm (mapAt (S.map nameI)) S.length, blkO g7 #[vS, vN] 42, rowO 25 1 vS S.length vss, elsO (sliceS itS) F (vss.map fun v => [v]) S]
theorem row_foot {w : World} {e : TypeId} {size n : Nat} {v : Value} {xs : List Value} (h : (rowO e size v n xs).holds w) : ∀ k, v.ownBlock = some k → k < w.heap.size := fun k hk => (rowO e size v n xs).lt w h k (.inl hk)
theorem it_of_row {w : World} {v : Value} {l : List itemL.Item} (h : (rowO 31 3 v l.length (l.flatMap itC)).holds w) : (sliceS itS).is (fun k => v.ownBlock = some k) w [v] l :=
  ⟨v, rfl, SlF.of_flat (Sl.of_own h) (fun _ _ => trivial) (fun _ h => h) (fun a n cp hv => by rw [hv]; rfl)⟩
set_option maxHeartbeats 4000000 in
theorem state_calls (g6 gm g7 : Nat) (vS vN : Value) (vss : List Value) (F : Nat → Prop) (S : List (List itemL.Item)) (vl : Value) (s : List itemL.Item) (hS : ∀ t ∈ S, SmallIt t) (hs : SmallIt s) (hSl : S.length ≤ 1000) (hsl : s.length ≤ 20000) (w : World) (B : Base)
    (hm : Mem B (stL g6 gm g7 vS vN vss F S ++ [rowO 31 3 vl s.length (s.flatMap itC)]) w) :
    Calls Try.prog 23 #[vl, .pointer (some ⟨g6, 0, none⟩), .pointer (some ⟨g7, 0, none⟩)] w (MeetsB ⟨fun (_ : Value × List Value × (Nat → Prop)) => True, fun _ => .int .i64 ((stateI S s).1 : Int), fun x => stL g6 gm g7 x.1 vN x.2.1 x.2.2 (stateI S s).2⟩ B) := by
  have hmn := mem_names hS hs
  have hix := idx_map nameI s S fun t ht e => name_inj (hS t ht) hs e
  have hok : strK.ok (nameI s) := by
    show (nameI s).length ≤ 9223372036854775807
    rw [nameI_len]; omega
  unfold stL at hm
  refine enterB hm (args := [vl, .pointer (some ⟨g6, 0, none⟩), .pointer (some ⟨g7, 0, none⟩)]) (n := 30) Try.func23 rfl rfl rfl ?_
  refine T_know (i := 3) rfl row_slm fun hrow => ?_
  obtain ⟨aS, cS, rfl, -⟩ := hrow
  repeat (first
    | refine QV QP ?_ | refine QZ ?_ | refine qcT rfl ?_ | refine qcF rfl ?_ | refine QV QL ?_ | refine QV QA ?_ | refine QV (rr_not rfl rfl) ?_)
  refine T_ord ([blkO g6 #[.map (some gm)] 60, mapO strK gm (mapAt (S.map nameI)) S.length, rowO 31 3 vl s.length (s.flatMap itC)]) (.calm 0 (.calm 1 (.calm 2 (.calm 3 (.calm 4 (.calm 5 (.calm 6 (.calm 7 (.calm 8 (.done)))))))))) (sub_pick [0, 1, 5] (by decide) rfl) (by kernel_rfl) (by kernel_rfl) (by intro c a d v w h; cases d <;> exact h) ?_
  repeat (first
    | ((first | refine TW_plain rfl rfl ?_ | refine TW_gmet rfl rfl rfl rfl ?_); first | refine QW QP ?_ | refine QW (rr_load1 (v := .map (some gm)) TyC.ty rfl (at_blk (i := 0) rfl rfl)) ?_ | refine QW QL ?_ | refine QW QA ?_ | refine QW (rr_not rfl rfl) ?_)
    | refine TW_done ?_)
  refine TW_call rfl (he1 EntersC.en rfl rfl) (fun w hm => name_calls vl s w (Sl.of_own (hm.get (i := 2) rfl)) hs hsl) rfl rfl rfl ?_
  by_cases c : s ∈ S
  · have hst : stateI S s = (idx S s, S) := if_pos c
    rw [hst]
    repeat (first
      | ((first | refine TW_plain rfl rfl ?_ | refine TW_gmet rfl rfl rfl rfl ?_); first | refine QW QP ?_ | refine QW (rr_lookNumS (K := strK) (x := nameI s) Und.eq zero_i64 (i := 1) rfl rfl rfl hok (hmn.2 c)) ?_ | refine QW QL ?_ | refine QW QA ?_ | refine QW (rr_not rfl rfl) ?_)
      | refine TW_done ?_)
    rw [hix]
    repeat (first
      | refine QV QP ?_ | refine QZ ?_ | refine qcT rfl ?_ | refine qcF rfl ?_ | refine QV QL ?_ | refine QV QA ?_ | refine QV (rr_not rfl rfl) ?_)
    exact E_ret1 rfl rfl fun w hm => hm.meetsB (S := ⟨fun (_ : Value × List Value × (Nat → Prop)) => True, fun _ => .int .i64 (idx S s : Int), fun x => stL g6 gm g7 x.1 vN x.2.1 x.2.2 S⟩) (.slice aS S.length cS, vss, F) trivial [0, 1, 2, 3, 4] (by decide) rfl
  · have hst : stateI S s = (S.length, S ++ [s]) := if_neg c
    rw [hst]
    have hn : nameI s ∉ S.map nameI := fun h => c (hmn.1 h)
    have hadd := mapAt_add hn
    have hnone : mapAt (S.map nameI) (nameI s) = none := if_neg hn
    rw [List.length_map] at hadd
    clear hix hmn
    repeat (first
      | ((first | refine TW_plain rfl rfl ?_ | refine TW_gmet rfl rfl rfl rfl ?_); first | refine QW QP ?_ | refine QW (rr_lookNumN (K := strK) (x := nameI s) Und.eq zero_i64 (i := 1) rfl rfl rfl hok hn) ?_ | refine QW QL ?_ | refine QW QA ?_ | refine QW (rr_not rfl rfl) ?_)
      | refine TW_done ?_)
    repeat (first
      | refine QV QP ?_ | refine QZ ?_ | refine qcT rfl ?_ | refine qcF rfl ?_
      | refine QV (rr_load1 (v := .slice aS S.length cS) TyC.ty rfl (at_blk (i := 2) rfl rfl)) ?_ | refine QV QL ?_ | refine QV QA ?_
      | refine QV (rr_not rfl rfl) ?_)
    refine T_ord ([blkO g6 #[.map (some gm)] 60, rowO 31 3 vl s.length (s.flatMap itC)]) (.calm 0 (.calm 1 (.calm 2 (.calm 3 (.one 4 (.done)))))) (sub_pick [0, 5] (by decide) rfl) (by kernel_rfl) (by kernel_rfl) (by intro c a d v w h; cases d <;> exact h) ?_
    repeat (first
      | ((first | refine TW_plain rfl rfl ?_ | refine TW_gmet rfl rfl rfl rfl ?_); first | refine QW QP ?_ | refine QW (rr_load1 (v := .map (some gm)) TyC.ty rfl (at_blk (i := 0) rfl rfl)) ?_ | refine QW QL ?_ | refine QW QA ?_ | refine QW (rr_not rfl rfl) ?_)
      | refine TW_done ?_)
    refine TW_call rfl (he1 EntersC.en rfl rfl) (fun w hm => name_calls vl s w (Sl.of_own (hm.get (i := 1) rfl)) hs hsl) rfl rfl rfl ?_
    repeat (first
      | ((first | refine TW_plain rfl rfl ?_ | refine TW_gmet rfl rfl rfl rfl ?_); first | refine QW QP ?_ | refine QW QL ?_ | refine QW QA ?_ | refine QW (rr_not rfl rfl) ?_)
      | refine TW_done ?_)
    refine TW_one rfl ?_
    refine TL_mapSet (i := 1) (x := nameI s) (v := .int .i64 (S.length : Int)) strK Und.eq rfl rfl rfl rfl hok (by omega) ?_
    conv => arg 8; simp only [zA, zB, zC, zD, zE, zF, zG, zH, zI, rowS, ret, id_eq]
    rw [hadd, hnone, if_neg (by decide)]
    refine TW_on (sub_pick [0, 5] (by decide) rfl) ?_
    repeat (first
      | ((first | refine TW_plain rfl rfl ?_ | refine TW_gmet rfl rfl rfl rfl ?_); first | refine QW QP ?_ | refine QW QL ?_ | refine QW QA ?_ | refine QW (rr_not rfl rfl) ?_)
      | refine TW_done ?_)
    repeat (first
      | refine QV QP ?_ | refine QZ ?_ | refine qcT rfl ?_ | refine qcF rfl ?_
      | refine QV (rr_load1 (v := .slice aS S.length cS) TyC.ty rfl (at_blk (i := 2) rfl rfl)) ?_ | refine QV QL ?_ | refine QV QA ?_
      | refine QV (rr_not rfl rfl) ?_)
    refine TL_slv (i := 5) rfl fun hl1 hl2 => ?_
    refine TL_push1 (i := 3) rfl rfl hl1 hl2 rfl rfl (fun z h => by cases h; rfl) (by omega) (by omega) rfl fun z vS' => ?_
    conv => arg 8; simp only [zA, zB, zC, zD, zE, zF, zG, zH, zI, rowS, ret, id_eq]
    refine TL_merge (elsO (sliceS itS) (fun k => F k ∨ vl.ownBlock = some k) ((vss.map fun v => [v]) ++ [[vl]]) (S ++ [s])) 5 4 [0, 1, 2, 3] (by decide) rfl rfl rfl (fun k hk => hk.elim (fun h => by cases h) fun h => h.elim (fun h => .inr (.inr h)) fun h => .inl (.inl h)) (fun w hr he => els_snoc he (it_of_row hr) (row_foot hr)) ?_
    conv => arg 8; simp only [zA, zB, zC, zD, zE, zF, zG, zH, zI, rowS, ret, id_eq]
    repeat (first
      | refine QV QP ?_ | refine QZ ?_ | refine qcT rfl ?_ | refine qcF rfl ?_ | refine QV QL ?_ | refine QV QA ?_ | refine QV (rr_not rfl rfl) ?_)
    refine TL_slv (i := 3) rfl fun hv1 hv2 => TL_store1 (i := 2) rfl rfl rfl hv1 hv2 rfl ?_
    conv => arg 8; simp only [zA, zB, zC, zD, zE, zF, zG, zH, zI, rowS, ret, id_eq]
    repeat (first
      | refine QV QP ?_ | refine QZ ?_ | refine qcT rfl ?_ | refine qcF rfl ?_ | refine QV QL ?_ | refine QV QA ?_ | refine QV (rr_not rfl rfl) ?_)
    exact E_ret1 rfl rfl fun w hm => hm.meetsB (S := ⟨fun (_ : Value × List Value × (Nat → Prop)) => True, fun _ => .int .i64 (S.length : Int), fun x => stL g6 gm g7 x.1 vN x.2.1 x.2.2 (S ++ [s])⟩) (vS', vss ++ [vl], fun k => F k ∨ vl.ownBlock = some k) trivial [0, 1, 2, 3, 4] (by decide) (by dsimp only [stL]; rw [List.map_append, List.map_append, List.length_append]; rfl)
end Go.Proofs.Ytmcclhddjielnaa.eng

/- ItA -/
namespace Go.Proofs.Ytmcclhddjielnaa.eng
open Go.RowKit kit mix gramL treeL factsL itemL smallL
def outA (g : Gram) : List (List Int) × List (List itemL.Item) × Int := if checkG g ≠ 0 then ([], [], checkG g) else match allI g.prods g.terms.toNat g.nons.toNat (lkG g) with
  | some (Nx, S) => (Nx, S, 0)
  | none => ([], [], 8)
def allS (g : Gram) : Spec (Value × Value × List Value × (Nat → Prop) × List Value × (Nat → Prop)) := ⟨fun _ => True, fun x => .tuple #[.agg #[x.1, x.2.1], .int .i64 (outA g).2.2], fun x => [rowO 25 1 x.1 (outA g).2.1.length x.2.2.1, elsO (sliceS itS) x.2.2.2.1 (x.2.2.1.map fun v => [v]) (outA g).2.1, rowO 49 1 x.2.1 (outA g).1.length x.2.2.2.2.1, elsO (sliceS intS) x.2.2.2.2.2 (x.2.2.2.2.1.map fun v => [v]) (outA g).1]⟩
theorem build_auto0 (w : World) : (Instr.build 42 (#[] : Array (Nat × Value))).run Try.prog w = .ok (.agg #[.slice none 0 0, .slice none 0 0]) w := by kernel_rfl
theorem small_right {l : List gramL.Prod} {T : Nat} {s : List itemL.Item} (hw : ∀ q ∈ l, q.2.length ≤ 8) (hl : l.length ≤ 40) (hT : T ≤ 30) (h : ∀ it ∈ s, RightI l T it) : SmallIt s := fun it hit => by
  obtain ⟨a1, a2, a3, a4, a5, a6⟩ := h it hit
  have := body_len (l := l) (p := it.1) hw
  omega
/-- a list among owned ones, handed to a call that can't turn it -/
theorem SlB.els {W : Base} {L Lx : List Own} {w : World} (hm : Mem W L w) {i n : Nat} {F : Nat → Prop} {vss : List Value} {S : List (List itemL.Item)} (hi : L[i]? = some (elsO (sliceS itS) F (vss.map fun v => [v]) S)) (is : List Nat) (hL : Lx = is.filterMap fun i => L[i]?) (hni : i ∉ is) {s : List itemL.Item} (hs : S[n]? = some s) {v : Value} (hv : vss[n]? = some v) : SlB (Base.on w Lx) v s.length (s.flatMap itC) := by
  obtain ⟨hn, rfl⟩ := List.getElem?_eq_some_iff.1 hs
  obtain ⟨⟨h1, h2⟩, h3⟩ := hm.get hi
  have hnv : n < vss.length := (List.getElem?_eq_some_iff.1 hv).1
  obtain ⟨v', e, hs⟩ := h2 n hn (by rw [List.length_map]; exact hnv)
  rw [List.getElem_map] at e
  obtain rfl : v = v' := by
    have := (List.getElem?_eq_some_iff.1 hv).2
    rw [this] at e
    exact (List.cons.inj e).1
  obtain ⟨base, cap, rfl, a1, a2, a3⟩ := hs
  refine ⟨base, cap, rfl, a1, a2, fun h0 => ?_⟩
  obtain ⟨b, off, rfl, hF, _⟩ := a3 h0
  have hfl := SlF.flat (f := itC) (c := 3) (hc := fun _ => rfl) (p := fun _ => True) (F := F) (by decide) (⟨some ⟨b, off, none⟩, cap, rfl, a1, a2, a3⟩ : SlF itS F w _ S[n])
  obtain ⟨base', cap', e', _, _, q⟩ := hfl
  obtain ⟨b', off', e2, hr⟩ := q h0
  cases e'
  cases e2
  refine ⟨b, off, rfl, ⟨h3 b hF, ?_⟩, hr⟩
  rintro ⟨o, ho, hfo⟩
  subst hL
  obtain ⟨j, hj, hoj⟩ := List.mem_filterMap.1 ho
  exact hm.owns.apart i j _ _ (fun h => hni (h ▸ hj)) hi hoj b (.inr hF) hfo
theorem step_cnt {a b c k : Nat} (h1 : a ≤ b + 12000) (h2 : b ≤ c + 12000 * k) : a ≤ c + 12000 * (k + 1) := by rw [Nat.mul_succ, ← Nat.add_assoc]; exact Nat.le_trans h1 (Nat.add_le_add_right h2 _)
theorem ints_of_row {w : World} {v : Value} {l : List Int} (hp : ∀ x ∈ l, kit.okI64 x) (h : (rowO 3 1 v l.length (l.map (Value.int .i64))).holds w) : (sliceS intS).is (fun k => v.ownBlock = some k) w [v] l :=
  ⟨v, rfl, SlF.of_flat (by have := Sl.of_own h; rwa [show l.map (Value.int .i64) = l.flatMap (fun n => [Value.int .i64 n]) by rw [List.map_eq_flatMap]] at this) hp (fun _ h => h) (fun a n cp hv => by rw [hv]; rfl)⟩
set_option maxHeartbeats 8000000 in
theorem all_calls (v : Value) (g : Gram) (w : World) (hG : GraR (fun k => k < w.heap.size) w v g) :
    Calls Try.prog 12 #[v] w (Meets (allS g) w) := by
  have hG0 := hG
  have hck := fun w' (hg : Gr w w') => checkG_calls v g w' (hG.gr hg)
  obtain ⟨vp, rfl, hp, ht, hn⟩ := hG
  obtain ⟨vb, bp, cp, rfl, -, -, hvb, hrp⟩ := prods_vb hp
  have hbg := begun_calls g.terms g.nons (.slice bp g.prods.length cp)
  have hb0 := build_auto0
  have hO : outA g = if checkG g ≠ 0 then ([], [], checkG g) else match allI g.prods g.terms.toNat g.nons.toNat (lkG g) with
    | some (Nx, S) => (Nx, S, 0)
    | none => ([], [], 8) := rfl
  unfold allS
  refine enter (args := [graV g.terms g.nons (.slice bp g.prods.length cp)]) (n := 81) Try.func12 rfl rfl rfl ?_
  refine T_seq (T_region (TL_box rfl rfl rfl fun g1 => ?_))
  conv => arg 8; simp only [zA, zB, zC, zD, zE, zF, zG, zH, zI, rowS, ret, id_eq]
  repeat (first
    | refine QV QP ?_ | refine QZ ?_ | refine qcT rfl ?_ | refine qcF rfl ?_ | refine E_blockX ?_ | refine E_blockO rfl ?_ | refine QV QL ?_
    | refine QV QA ?_ | refine QV QlT ?_ | refine QV QlF ?_ | refine QV QgT ?_ | refine QV QgF ?_ | refine QV QnT ?_ | refine QV QnF ?_ | refine QV QaA ?_)
  refine TL_new rfl fun g2 => ?_
  conv => arg 8; simp only [zA, zB, zC, zD, zE, zF, zG, zH, zI, rowS, ret, id_eq]
  repeat (first
    | refine QV QP ?_ | refine QZ ?_ | refine qcT rfl ?_ | refine qcF rfl ?_ | refine E_blockX ?_ | refine E_blockO rfl ?_
    | refine QV (rr_loadB (i := 0) TyC.ty rfl rfl rfl) ?_ | refine QV QL ?_ | refine QV QA ?_ | refine QV QlT ?_ | refine QV QlF ?_ | refine QV QgT ?_
    | refine QV QgF ?_ | refine QV QnT ?_ | refine QV QnF ?_ | refine QV QaA ?_)
  refine TL_call (he1 EntersC.en rfl rfl) (fun w hm => hck w hm.below) rfl rfl rfl ?_
  intro _ _
  conv => arg 8; simp only [zA, zB, zC, zD, zE, zF, zG, zH, zI, rowS, ret, id_eq]
  by_cases c0 : checkG g = 0
  · rw [if_neg (by rw [c0]; simp)] at hO
    rw [c0]
    obtain ⟨hT1, hT2, hN1, hN2, hpl, hgb⟩ := checkG_ok c0
    have hwl : ∀ q ∈ g.prods, q.2.length ≤ 8 := fun q hq => (hgb q hq).1
    obtain ⟨T, hTt⟩ : ∃ T : Nat, g.terms = (T : Int) := ⟨g.terms.toNat, by omega⟩
    obtain ⟨N, hNn⟩ : ∃ N : Nat, g.nons = (N : Int) := ⟨g.nons.toNat, by omega⟩
    rw [show g.terms.toNat = T by omega, show g.nons.toNat = N by omega] at hO
    have hT : T ≤ 30 := by omega
    have hrp' : 0 < g.prods.length → ∃ b off, bp = some ⟨b, off, none⟩ ∧ ∀ i, i < g.prods.length → Rd w b (off + i * 2) [.int .i64 (prodAt g.prods (i : Int)).1, vb i] := fun h => let ⟨b, off, h1, _, h3⟩ := hrp h; ⟨b, off, h1, fun i hi => (h3 i hi).1⟩
    have hcl := fun go gm l0 vl h1 h2 w' B' ho' hs' hm' => itClosed_calls g c0 bp cp vb w hG0 hvb hrp' go gm 0 (fun _ => none) T hTt hT l0 vl h1 h2 (fun x v h => by cases h) (by omega) w' B' ho' hs' hm'
    have hst := fun go gm c f s x vl h1 h2 h3 h4 w' B' ho' hs' hm' => itStep_calls g c0 bp cp vb w hG0 hvb hrp' go gm c f T hTt hT s x vl h1 h2 h3 h4 w' B' ho' hs' hm'
    have hsy := symbols_calls T N (by omega) (by omega) (.slice bp g.prods.length cp)
    repeat (first
      | refine QV QP ?_ | refine QZ ?_ | refine qcT rfl ?_ | refine qcF rfl ?_ | refine E_blockX ?_ | refine E_blockO rfl ?_
      | refine QV (rr_loadB (i := 0) TyC.ty rfl rfl rfl) ?_ | refine QV QL ?_ | refine QV QA ?_ | refine QV QlT ?_ | refine QV QlF ?_ | refine QV QgT ?_
      | refine QV QgF ?_ | refine QV QnT ?_ | refine QV QnF ?_ | refine QV QaA ?_)
    refine TL_call (he1 EntersC.en rfl rfl) (fun w hm => hbg w) rfl rfl rfl ?_
    rintro ⟨go, gm⟩ _
    conv => arg 8; simp only [zA, zB, zC, zD, zE, zF, zG, zH, zI, rowS, ret, id_eq, begS]
    conv => arg 7; simp only [begS]
    repeat (first
      | refine QV QP ?_ | refine QZ ?_ | refine qcT rfl ?_ | refine qcF rfl ?_ | refine E_blockX ?_ | refine E_blockO rfl ?_ | refine QV QL ?_
      | refine QV QA ?_ | refine QV QlT ?_ | refine QV QlF ?_ | refine QV QgT ?_ | refine QV QgF ?_ | refine QV QnT ?_ | refine QV QnF ?_ | refine QV QaA ?_)
    refine TL_mapNew (K := strK) rfl fun gq => ?_
    conv => arg 8; simp only [zA, zB, zC, zD, zE, zF, zG, zH, zI, rowS, ret, id_eq]
    repeat (first
      | refine QV QP ?_ | refine QZ ?_ | refine qcT rfl ?_ | refine qcF rfl ?_ | refine E_blockX ?_ | refine E_blockO rfl ?_ | refine QV QL ?_
      | refine QV QA ?_ | refine QV QlT ?_ | refine QV QlF ?_ | refine QV QgT ?_ | refine QV QgF ?_ | refine QV QnT ?_ | refine QV QnF ?_ | refine QV QaA ?_)
    refine TL_new rfl fun g6 => ?_
    conv => arg 8; simp only [zA, zB, zC, zD, zE, zF, zG, zH, zI, rowS, ret, id_eq]
    refine TL_store1 (i := 5) rfl rfl rfl rfl rfl rfl ?_
    conv => arg 8; simp only [zA, zB, zC, zD, zE, zF, zG, zH, zI, rowS, ret, id_eq]
    repeat (first
      | refine QV QP ?_ | refine QZ ?_ | refine qcT rfl ?_ | refine qcF rfl ?_ | refine E_blockX ?_ | refine E_blockO rfl ?_ | refine QV QL ?_
      | refine QV QA ?_ | refine QV QlT ?_ | refine QV QlF ?_ | refine QV QgT ?_ | refine QV QgF ?_ | refine QV QnT ?_ | refine QV QnF ?_ | refine QV QaA ?_)
    refine TL_new rfl fun g7 => ?_
    conv => arg 8; simp only [zA, zB, zC, zD, zE, zF, zG, zH, zI, rowS, ret, id_eq]
    repeat (first
      | refine QV QP ?_ | refine QZ ?_ | refine qcT rfl ?_ | refine qcF rfl ?_ | refine E_blockX ?_ | refine E_blockO rfl ?_ | refine QV (rr_func rfl rfl) ?_
      | refine QV (rr_load1 (v := .slice bp g.prods.length cp) TyC.ty rfl (at_blk (i := 0) rfl rfl)) ?_
      | refine QV (rr_load1 (v := .int .i64 g.terms) TyC.ty rfl (at_blk (i := 0) rfl rfl)) ?_ | refine QV (rr_build rfl (build_it2 _ _)) ?_ | refine QV QL ?_
      | refine QV QA ?_ | refine QV QlT ?_ | refine QV QlF ?_ | refine QV QgT ?_ | refine QV QgF ?_ | refine QV QnT ?_ | refine QV QnF ?_ | refine QV QaA ?_)
    refine TL_one (cs := (itC ((g.prods.length : Int), 0, g.terms)).toArray) rfl rfl rfl rfl rfl fun g33 => ?_
    conv => arg 8; simp only [zA, zB, zC, zD, zE, zF, zG, zH, zI, rowS, ret, id_eq]
    refine TL_toRow (i := 7) (m := 1) 3 rfl rfl (by decide) ?_
    conv => arg 8; simp only [zA, zB, zC, zD, zE, zF, zG, zH, zI, rowS, ret, id_eq]
    have hsr : ∀ x ∈ [(((g.prods.length : Int), 0, g.terms) : itemL.Item)], RightI g.prods T x := by rw [hTt]; exact start_right hpl hT
    repeat (first
      | refine QV QP ?_ | refine QZ ?_ | refine qcT rfl ?_ | refine qcF rfl ?_ | refine E_blockX ?_ | refine E_blockO rfl ?_ | refine QV QL ?_
      | refine QV QA ?_ | refine QV QlT ?_ | refine QV QlF ?_ | refine QV QgT ?_ | refine QV QgF ?_ | refine QV QnT ?_ | refine QV QnF ?_ | refine QV QaA ?_)
    refine TL_callB [3, 2] [0, 1, 4, 5, 6] (by decide) rfl rfl (he2 EntersC.en rfl rfl rfl) (fun w' hm hb => hcl go gm [((g.prods.length : Int), 0, g.terms)] _ hsr (by simp) w' _ ((Old.self w).on hm fun o h => pickMem h) (SlB.row hm (i := 7) rfl [3, 2] rfl (by decide)) hb) rfl rfl rfl ?_
    rintro ⟨f2, c2, v2⟩ ⟨hf2, hc2⟩
    conv => arg 8; simp only [zA, zB, zC, zD, zE, zF, zG, zH, zI, rowS, ret, id_eq, itClS, opL]
    conv => arg 7; simp only [itClS]
    have hstart : closedI g.prods T (lkG g) [((g.prods.length : Int), 0, g.terms)] = startI g.prods T (lkG g) := by rw [hTt]; rfl
    rw [hstart]
    have hs0r : ∀ it ∈ startI g.prods T (lkG g), RightI g.prods T it := closed_right hwl hpl hT (start_right hpl hT)
    have hs0s := closed_shut (lk := lkG g) hwl hpl hT (l0 := [((g.prods.length : Int), 0, (T : Int))]) (start_right hpl hT)
    have hs0l : (startI g.prods T (lkG g)).length ≤ 11439 := closed_len hwl hpl hT (start_right hpl hT)
    dsimp only at hf2 hc2
    refine TL_nilrow 25 1 ?_
    refine TL_extra (elsO (sliceS itS) (fun _ => False) [] []) (fun k hk => hk.elim (fun h => by cases h) id) (fun w => els_nil) ?_
    conv => arg 8; simp only [zA, zB, zC, zD, zE, zF, zG, zH, zI, rowS, ret, id_eq]
    have hsm := small_right hwl hpl hT hs0r
    have hs1 : stateI [] (startI g.prods T (lkG g)) = (0, [startI g.prods T (lkG g)]) := if_neg (by simp)
    repeat (first
      | refine QV QP ?_ | refine QZ ?_ | refine qcT rfl ?_ | refine qcF rfl ?_ | refine E_blockX ?_ | refine E_blockO rfl ?_ | refine QV QL ?_
      | refine QV QA ?_ | refine QV QlT ?_ | refine QV QlF ?_ | refine QV QgT ?_ | refine QV QgF ?_ | refine QV QnT ?_ | refine QV QnF ?_ | refine QV QaA ?_)
    refine TL_callB [3, 2, 4, 8, 9, 7] [0, 1, 5, 6] (by decide) rfl rfl (he1c EntersC.en rfl rfl) (fun w' hm hb => state_calls g6 gq g7 (.slice none 0 0) (.slice none 0 0) [] (fun _ => False) [] v2 (startI g.prods T (lkG g)) (fun t h => by cases h) hsm (by simp) (by omega) w' _ hb) rfl rfl rfl ?_
    rintro ⟨vS, vss, F⟩ _
    conv => arg 8; simp only [zA, zB, zC, zD, zE, zF, zG, zH, zI, rowS, ret, id_eq, stL]
    rw [hs1]
    dsimp only
    refine TL_nilrow 49 1 ?_
    refine TL_extra (elsO (sliceS intS) (fun _ => False) [] []) (fun k hk => hk.elim (fun h => by cases h) id) (fun w => els_nil) ?_
    conv => arg 8; simp only [zA, zB, zC, zD, zE, zF, zG, zH, zI, rowS, ret, id_eq]
    repeat (first
      | refine QV QP ?_ | refine QZ ?_ | refine qcT rfl ?_ | refine qcF rfl ?_ | refine E_blockX ?_ | refine E_blockO rfl ?_ | refine QV QL ?_
      | refine QV QA ?_ | refine QV QlT ?_ | refine QV QlF ?_ | refine QV QgT ?_ | refine QV QgF ?_ | refine QV QnT ?_ | refine QV QnF ?_ | refine QV QaA ?_)
    refine T_loop (ι := Nat × List (List itemL.Item) × List (List Int) × (RK → Option Value) × Nat × Value × Value × List Value × (Nat → Prop) × List Value × (Nat → Prop))
      (fun (n, S, Nx, f, c, _, _, _, _, _, _) => n ≤ S.length ∧ Nx.length = n ∧ SsOk g.prods T (lkG g) S ∧ S.length ≤ 200 ∧ allTo g.prods T N (lkG g) (202 - n) n Nx S = allI g.prods T N (lkG g) ∧ CacheOk (lkG g) f ∧ c ≤ 12000 + 1200000 * n ∧ ∀ t ∈ S, t.length ≤ 11439)
      (fun (n, _, _, _, _, _, _, _, _, _, _) => [(1, .pointer (some ⟨g1, 0, none⟩)), (2, .pointer (some ⟨g2, 0, none⟩)), (5, .pointer (some ⟨go, 0, none⟩)), (7, .pointer (some ⟨g7, 0, none⟩)), (8, .func (.func 23) #[] #[.pointer (some ⟨g6, 0, none⟩), .pointer (some ⟨g7, 0, none⟩)]), (9, .int .i64 (n : Int))])
      (fun (_, S, Nx, f, c, vS, vN, vss, F, vns, G) => [blkO g1 (graV g.terms g.nons (.slice bp g.prods.length cp)).cells 24, blkO g2 #[.slice none 0 0, .slice none 0 0] 42, blkO go (opC g.terms g.nons (.slice bp g.prods.length cp) gm).toArray 69, mapO restK gm f c, blkO g6 #[.map (some gq)] 60, mapO strK gq (mapAt (S.map nameI)) S.length, blkO g7 #[vS, vN] 42, rowO 25 1 vS S.length vss, elsO (sliceS itS) F (vss.map fun v => [v]) S, rowO 49 1 vN Nx.length vns, elsO (sliceS intS) G (vns.map fun v => [v]) Nx]) (fun (n, _, _, _, _, _, _, _, _, _, _) => 202 - n)
      (0, [startI g.prods T (lkG g)], [], f2, c2, vS, .slice none 0 0, vss, F, [], fun _ => False) ⟨Nat.zero_le _, rfl, ⟨by simp, fun s hs => by rw [List.mem_singleton.1 hs]; exact hs0r, fun s hs => by rw [List.mem_singleton.1 hs]; exact hs0s⟩, by simp, rfl, hf2, by omega, fun t ht => by rw [List.mem_singleton.1 ht]; exact hs0l⟩ (by repeat' (first | exact True.intro | refine And.intro rfl ?_)) rfl ?_
    clear hcl hs0r hs0s hs0l hsm hs1 hf2 hc2 hsr hstart hbg hck
    rintro ⟨n, S, Nx, f, c, vS, vN, vss, F, vns, G⟩ ⟨i1, i2, i3, i4, i5, i6, i7, i8⟩
    dsimp only at i1 i2 i3 i4 i5 i6 i7 i8 ⊢
    refine T_know (i := 7) rfl row_slm fun hrow => ?_
    obtain ⟨aS, cS, rfl, -, haS⟩ := hrow
    by_cases c1 : n < S.length
    · rw [show 202 - n = (201 - n) + 1 by omega, allTo, if_pos c1] at i5
      have hgd : S.getD n [] = S[n] := by rw [List.getD_eq_getElem?_getD, List.getElem?_eq_getElem c1]; rfl
      rw [hgd] at i5
      have hsr := i3.right S[n] (List.getElem_mem c1)
      have hsn : S[n]? = some S[n] := List.getElem?_eq_getElem c1
      generalize hs0 : S[n] = s0 at *
      have hyl : (symsI T N).length = T + N := syms_len T N
      rw [← hTt, ← hNn] at hsy
      generalize symsI T N = ys at *
      repeat (first
        | refine QV QP ?_ | refine QZ ?_ | refine qcT rfl ?_ | refine qcF rfl ?_ | refine E_blockX ?_ | refine E_blockO rfl ?_
        | refine QV (rr_load1 (v := .slice aS S.length cS) TyC.ty rfl (at_blk (i := 6) rfl rfl)) ?_ | refine QV (rr_loadB (i := 0) TyC.ty rfl rfl rfl) ?_
        | refine QV QL ?_ | refine QV QA ?_ | refine QV QlT ?_ | refine QV QlF ?_ | refine QV QgT ?_ | refine QV QgF ?_ | refine QV QnT ?_ | refine QV QnF ?_
        | refine QV QaA ?_)
      refine TL_call (he1 EntersC.en rfl rfl) (fun w hm => hsy w) rfl rfl rfl ?_
      intro vy _
      conv => arg 8; simp only [zA, zB, zC, zD, zE, zF, zG, zH, zI, rowS, ret, id_eq, rowS]
      conv => arg 7; simp only [rowS]
      refine TL_know (i := 11) rfl row_slm fun hrow => ?_
      obtain ⟨ay, cy, rfl, -, hay⟩ := hrow
      repeat (first
        | refine QV QP ?_ | refine QZ ?_ | refine qcT rfl ?_ | refine qcF rfl ?_ | refine E_blockX ?_ | refine E_blockO rfl ?_ | refine QV QL ?_
        | refine QV QA ?_ | refine QV QlT ?_ | refine QV QlF ?_ | refine QV QgT ?_ | refine QV QgF ?_ | refine QV QnT ?_ | refine QV QnF ?_ | refine QV QaA ?_)
      refine T_nil 3 1 ?_
      conv => arg 7; simp only [zA, zB, zC, zD, zE, zF, zG, zH, zI, rowS, ret, id_eq]
      refine T_loop (ι := Nat × List Int × List (List itemL.Item) × (RK → Option Value) × Nat × Value × List Value × (Nat → Prop) × Value)
        (fun (k, nx, S', f', c', _, _, _, _) => k ≤ ys.length ∧ (∃ E, S' = S ++ E) ∧ SsOk g.prods T (lkG g) S' ∧ S'.length ≤ 200 ∧ rowI g.prods T (lkG g) s0 (ys.drop k) nx S' = rowI g.prods T (lkG g) s0 ys [] S ∧ CacheOk (lkG g) f' ∧ c' ≤ c + 12000 * k ∧ nx.length = k ∧ (∀ y ∈ nx, kit.okI64 y) ∧ ∀ t ∈ S', t.length ≤ 11439)
        (fun (k, _, _, _, _, _, _, _, vx) => [(1, .pointer (some ⟨g1, 0, none⟩)), (2, .pointer (some ⟨g2, 0, none⟩)), (5, .pointer (some ⟨go, 0, none⟩)), (7, .pointer (some ⟨g7, 0, none⟩)), (8, .func (.func 23) #[] #[.pointer (some ⟨g6, 0, none⟩), .pointer (some ⟨g7, 0, none⟩)]), (9, .int .i64 (n : Int)), (10, vx), (44, .slice ay ys.length cy), (45, .int .i64 (ys.length : Int)), (46, .int .i64 (k : Int))])
        (fun (_, nx, S', f', c', vS', vss', F', vx) => [blkO g1 (graV g.terms g.nons (.slice bp g.prods.length cp)).cells 24, blkO g2 #[.slice none 0 0, .slice none 0 0] 42, blkO go (opC g.terms g.nons (.slice bp g.prods.length cp) gm).toArray 69, mapO restK gm f' c', blkO g6 #[.map (some gq)] 60, mapO strK gq (mapAt (S'.map nameI)) S'.length, blkO g7 #[vS', vN] 42, rowO 25 1 vS' S'.length vss', elsO (sliceS itS) F' (vss'.map fun v => [v]) S', rowO 49 1 vN Nx.length vns, elsO (sliceS intS) G (vns.map fun v => [v]) Nx, rowO 46 2 (.slice ay ys.length cy) ys.length (ys.flatMap symC), rowO 3 1 vx nx.length (nx.map (Value.int .i64))]) (fun (k, _, _, _, _, _, _, _, _) => ys.length - k)
        (0, [], S, f, c, .slice aS S.length cS, vss, F, .slice none 0 0) ⟨Nat.zero_le _, ⟨[], (List.append_nil _).symm⟩, i3, i4, rfl, i6, by omega, rfl, (fun y hy => by cases hy), i8⟩ (by repeat' (first | exact True.intro | refine And.intro rfl ?_)) rfl ?_
      clear hsy
      rintro ⟨k, nx, S', f', c', vS', vss', F', vx⟩ ⟨j1, ⟨E, hE⟩, j3, j4, j5, j6, j7, j8, j9, j10⟩
      dsimp only at j1 hE j3 j4 j5 j6 j7 j8 j9 j10 ⊢
      by_cases c2 : k < ys.length
      · have hn' : n < S'.length := by rw [hE, List.length_append]; omega
        have hsn' : S'[n]? = some s0 := by rw [hE, List.getElem?_append_left c1]; exact hsn
        refine T_know (i := 7) rfl row_slm fun hrow => ?_
        obtain ⟨aS', cS', rfl, -, haS'⟩ := hrow
        obtain ⟨gS', rfl⟩ := haS' (by omega)
        refine T_know (i := 8) rfl (fun w h => h.1.1) fun hvl => ?_
        rw [List.length_map] at hvl
        have hvn : vss'[0 + n]? = some (vss'[n]'(by omega)) := by rw [Nat.zero_add]; exact List.getElem?_eq_getElem _
        have hvn2 : vss'[n]? = some (vss'[n]'(by omega)) := List.getElem?_eq_getElem _
        generalize vss'[n]'(by omega) = vn at hvn hvn2
        obtain ⟨gy, rfl⟩ := hay (by omega)
        have hat := fun (L : List Own) (i : Nat) (hL : L[i]? = some (rowO 46 2 (.slice (some ⟨gy, 0, none⟩) ys.length cy) ys.length (ys.flatMap symC))) => at_rowel (W := (w : Base)) SymC_len hL c2
        rw [List.drop_eq_getElem_cons c2, rowI] at j5
        generalize ys[k] = x at *
        have hsl : s0.length ≤ 11439 := j10 s0 (List.mem_of_getElem? hsn')
        repeat (first
          | refine QV QP ?_ | refine QZ ?_ | refine qcT rfl ?_ | refine qcF rfl ?_ | refine E_blockX ?_ | refine E_blockO rfl ?_
          | refine QV (rr_idxc Und.eq TyC.ty rfl rfl c2) ?_ | refine QV (rr_loadN (cs := symC x) TyC.ty rfl rfl (hat _ 11 rfl)) ?_ | refine QV QL ?_
          | refine QV QA ?_ | refine QV QlT ?_ | refine QV QlF ?_ | refine QV QgT ?_ | refine QV QgF ?_ | refine QV QnT ?_ | refine QV QnF ?_ | refine QV QaA ?_)
        refine TL_new rfl fun g12 => ?_
        conv => arg 8; simp only [zA, zB, zC, zD, zE, zF, zG, zH, zI, rowS, ret, id_eq]
        refine TL_storeB (i := 13) (cs' := (symC x).toArray) rfl rfl rfl rfl rfl rfl ?_
        conv => arg 8; simp only [zA, zB, zC, zD, zE, zF, zG, zH, zI, rowS, ret, id_eq]
        repeat (first
          | refine QV QP ?_ | refine QZ ?_ | refine qcT rfl ?_ | refine qcF rfl ?_ | refine E_blockX ?_ | refine E_blockO rfl ?_ | refine QV QL ?_
          | refine QV QA ?_ | refine QV QlT ?_ | refine QV QlF ?_ | refine QV QgT ?_ | refine QV QgF ?_ | refine QV QnT ?_ | refine QV QnF ?_ | refine QV QaA ?_)
        refine T_ord ([blkO g7 #[.slice (some ⟨gS', 0, none⟩) S'.length cS', vN] 42, rowO 25 1 (.slice (some ⟨gS', 0, none⟩) S'.length cS') S'.length vss', blkO g12 (symC x).toArray 46]) (.calm 0 (.calm 1 (.calm 2 (.calm 3 (.calm 4 (.calm 5 (.calm 6 (.one 7 (.calm 8 (.done)))))))))) (sub_pick [6, 7, 13] (by decide) rfl) (by kernel_rfl) (by kernel_rfl) (by intro c a d v w h; cases d <;> exact h) ?_
        repeat (first
          | ((first | refine TW_plain rfl rfl ?_ | refine TW_gmet rfl rfl rfl rfl ?_); first | refine QW QP ?_ | refine QW (rr_load1 (v := .slice (some ⟨gS', 0, none⟩) S'.length cS') TyC.ty rfl (at_blk (i := 0) rfl rfl)) ?_ | refine QW (rr_idx1 Und.eq TyC.ty rfl rfl hn') ?_ | refine QW (rr_load1 (v := vn) TyC.ty rfl (at_row (i := 1) rfl hvn)) ?_ | refine QW (rr_loadB (i := 2) TyC.ty rfl rfl rfl) ?_ | refine QW QL ?_ | refine QW QA ?_ | refine QW QlT ?_ | refine QW QlF ?_ | refine QW QgT ?_ | refine QW QgF ?_ | refine QW QnT ?_ | refine QW QnF ?_ | refine QW QaA ?_)
          | refine TW_done ?_)
        refine TW_one rfl ?_
        refine TL_callB [2, 3] [0, 1, 4, 5, 6, 7, 8, 9, 10, 11, 12, 13] (by decide) rfl rfl (he3 EntersC.en rfl rfl rfl rfl) (fun w' hm hb => hst go gm c' f' s0 x vn hsr (by omega) j6 (by omega) w' _ ((Old.self w).on hm fun o h => pickMem h) (SlB.els hm (i := 8) rfl [2, 3] rfl (by decide) hsn' hvn2) hb) rfl rfl rfl ?_
        rintro ⟨f2, c2', v2⟩ ⟨hf2, hc2⟩
        dsimp only at hf2 hc2
        conv => arg 8; simp only [zA, zB, zC, zD, zE, zF, zG, zH, zI, rowS, ret, id_eq, itClS, opL]
        conv => arg 7; simp only [itClS]
        rw [show closedI g.prods T (lkG g) (overI g.prods s0 x) = stepI g.prods T (lkG g) s0 x from rfl]
        refine TW_on (sub_pick [4, 5, 11] (by decide) rfl) ?_
        repeat (first
          | ((first | refine TW_plain rfl rfl ?_ | refine TW_gmet rfl rfl rfl rfl ?_); first | refine QW QP ?_ | refine QW QL ?_ | refine QW QA ?_ | refine QW QlT ?_ | refine QW QlF ?_ | refine QW QgT ?_ | refine QW QgF ?_ | refine QW QnT ?_ | refine QW QnF ?_ | refine QW QaA ?_)
          | refine TW_done ?_)
        repeat (first
          | refine QV QP ?_ | refine QZ ?_ | refine qcT rfl ?_ | refine qcF rfl ?_ | refine E_blockX ?_ | refine E_blockO rfl ?_ | refine QV QL ?_
          | refine QV QA ?_ | refine QV QlT ?_ | refine QV QlF ?_ | refine QV QgT ?_ | refine QV QgF ?_ | refine QV QnT ?_ | refine QV QnF ?_ | refine QV QaA ?_)
        refine TL_know (i := 14) rfl row_slm fun hrow => ?_
        obtain ⟨a2, cv2, rfl, -, ha2⟩ := hrow
        obtain ⟨hlE, hlC, hlS⟩ := cell_lawI (lk := lkG g) hwl hpl hT j3 hsr x
        have hcc : c2' ≤ c + 12000 * (k + 1) := step_cnt hc2 j7
        have hstr : ∀ it ∈ stepI g.prods T (lkG g) s0 x, RightI g.prods T it := closed_right hwl hpl hT (over_right hsr)
        have hstl : (stepI g.prods T (lkG g) s0 x).length ≤ 11439 := closed_len hwl hpl hT (over_right hsr)
        by_cases c3 : stepI g.prods T (lkG g) s0 x = []
        · have hcell : cellI g.prods T (lkG g) s0 x S' = (-1, S') := if_pos c3
          rw [hcell, if_neg (by show ¬ 200 < S'.length; omega)] at j5
          dsimp only at j5
          have hl0 : (stepI g.prods T (lkG g) s0 x).length = 0 := by rw [c3]; rfl
          repeat (first
            | refine QV QP ?_ | refine QZ ?_ | refine qcT rfl ?_ | refine qcF rfl ?_ | refine E_blockX ?_ | refine E_blockO rfl ?_
            | refine QV (rr_load1 (v := .slice (some ⟨gS', 0, none⟩) S'.length cS') TyC.ty rfl (at_blk (i := 4) rfl rfl)) ?_ | refine QV QL ?_ | refine QV QA ?_
            | refine QV QlT ?_ | refine QV QlF ?_ | refine QV QgT ?_ | refine QV QgF ?_ | refine QV QnT ?_ | refine QV QnF ?_ | refine QV QaA ?_)
          refine TL_push1 (i := 10) rfl rfl rfl rfl rfl rfl (fun z h => by cases h; rfl) (by omega) (by omega) rfl fun z vx' => ?_
          conv => arg 8; simp only [zA, zB, zC, zD, zE, zF, zG, zH, zI, rowS, ret, id_eq]
          repeat (first
            | refine QV QP ?_ | refine QZ ?_ | refine qcT rfl ?_ | refine qcF rfl ?_ | refine E_blockX ?_ | refine E_blockO rfl ?_ | refine QV QL ?_
            | refine QV QA ?_ | refine QV QlT ?_ | refine QV QlF ?_ | refine QV QgT ?_ | refine QV QgF ?_ | refine QV QnT ?_ | refine QV QnF ?_ | refine QV QaA ?_)
          refine E_pick [0, 1, 12, 13, 2, 3, 4, 5, 6, 7, 8, 9, 10] (by decide) rfl ?_
          exact E_round (k + 1, nx ++ [-1], S', f2, c2', .slice (some ⟨gS', 0, none⟩) S'.length cS', vss', F', vx') ⟨by show k + 1 ≤ ys.length; omega, ⟨E, hE⟩, j3, j4, j5, hf2, hcc, by show (nx ++ [-1]).length = k + 1; rw [List.length_append, j8]; rfl, fun y hy => (List.mem_append.1 hy).elim (j9 y) fun h => by rw [List.mem_singleton.1 h]; exact ⟨by omega, by omega⟩, j10⟩ (by show ys.length - (k + 1) < ys.length - k; omega) (by repeat' (first | exact True.intro | refine And.intro rfl ?_)) (by dsimp only; rw [List.length_append, List.map_append]; rfl)
        · have hcell : cellI g.prods T (lkG g) s0 x S' = (((stateI S' (stepI g.prods T (lkG g) s0 x)).1 : Int), (stateI S' (stepI g.prods T (lkG g) s0 x)).2) := if_neg c3
          have hsm := small_right hwl hpl hT hstr
          have hSm : ∀ t ∈ S', SmallIt t := fun t ht => small_right hwl hpl hT (j3.right t ht)
          have hpos : 0 < (stepI g.prods T (lkG g) s0 x).length := List.length_pos_iff.2 c3
          have hq : (stateI S' (stepI g.prods T (lkG g) s0 x)).1 ≤ S'.length := by
            unfold stateI; split
            · rename_i hm; exact Nat.le_of_lt (idx_lt hm)
            · exact Nat.le_refl _
          rw [hcell] at j5 hlE hlC hlS
          dsimp only at j5 hlE hlC hlS
          repeat (first
            | refine QV QP ?_ | refine QZ ?_ | refine qcT rfl ?_ | refine qcF rfl ?_ | refine E_blockX ?_ | refine E_blockO rfl ?_ | refine QV QL ?_
            | refine QV QA ?_ | refine QV QlT ?_ | refine QV QlF ?_ | refine QV QgT ?_ | refine QV QgF ?_ | refine QV QnT ?_ | refine QV QnF ?_ | refine QV QaA ?_)
          refine TL_callB [2, 3, 4, 5, 6, 14] [0, 1, 7, 8, 9, 10, 11, 12, 13] (by decide) rfl rfl (he1c EntersC.en rfl rfl) (fun w' hm hb => state_calls g6 gq g7 (.slice (some ⟨gS', 0, none⟩) S'.length cS') vN vss' F' S' _ (stepI g.prods T (lkG g) s0 x) hSm hsm (by omega) (by omega) w' _ hb) rfl rfl rfl ?_
          rintro ⟨vS2, vss2, F2⟩ _
          conv => arg 8; simp only [zA, zB, zC, zD, zE, zF, zG, zH, zI, rowS, ret, id_eq, stL]
          have hlen2 : ∀ t ∈ (stateI S' (stepI g.prods T (lkG g) s0 x)).2, t.length ≤ 11439 := by
            unfold stateI; split
            · exact j10
            · intro t ht
              rcases List.mem_append.1 ht with h | h
              · exact j10 t h
              · rw [List.mem_singleton.1 h]; exact hstl
          generalize stateI S' (stepI g.prods T (lkG g) s0 x) = R at *
          obtain ⟨q, S2⟩ := R
          dsimp only at j5 hlE hlC hlS hq hlen2 ⊢
          refine TL_know (i := 12) rfl row_slm fun hrow => ?_
          obtain ⟨aS2, cS2, rfl, -, haS2⟩ := hrow
          obtain ⟨E2, hE2⟩ := hlE
          by_cases c4 : 200 < S2.length
          · rw [if_pos c4] at j5
            rw [← j5] at i5
            repeat (first
              | refine QV QP ?_ | refine QZ ?_ | refine qcT rfl ?_ | refine qcF rfl ?_ | refine E_blockX ?_ | refine E_blockO rfl ?_
              | refine QV (rr_load1 (v := .slice aS2 S2.length cS2) TyC.ty rfl (at_blk (i := 11) rfl rfl)) ?_
              | refine QV (rr_gtr (b := true) rfl rfl (decide_eq_true (by omega))) ?_ | refine QV (rr_build rfl hb0) ?_ | refine QV QL ?_ | refine QV QA ?_
              | refine QV QlT ?_ | refine QV QlF ?_ | refine QV QgT ?_ | refine QV QgF ?_ | refine QV QnT ?_ | refine QV QnF ?_ | refine QV QaA ?_)
            have hOn : outA g = ([], [], 8) := by rw [hO, ← i5]
            rw [hOn]
            refine TL_storeB (i := 1) rfl rfl rfl rfl rfl rfl ?_
            conv => arg 8; simp only [zA, zB, zC, zD, zE, zF, zG, zH, zI, rowS, ret, id_eq]
            repeat (first
              | refine QV QP ?_ | refine QZ ?_ | refine qcT rfl ?_ | refine qcF rfl ?_ | refine E_blockX ?_ | refine E_blockO rfl ?_ | refine QV QL ?_
              | refine QV QA ?_ | refine QV QlT ?_ | refine QV QlF ?_ | refine QV QgT ?_ | refine QV QgF ?_ | refine QV QnT ?_ | refine QV QnF ?_ | refine QV QaA ?_)
            refine E_nilrow 25 1 (E_extra (elsO (sliceS itS) (fun _ => False) [] []) (fun k hk => hk.elim (fun h => by cases h) id) (fun w => els_nil) (E_nilrow 49 1 (E_extra (elsO (sliceS intS) (fun _ => False) [] []) (fun k hk => hk.elim (fun h => by cases h) id) (fun w => els_nil) ?_)))
            exact E_retc2 (i := 1) rfl rfl rfl rfl rfl fun w hm => hm.meets (S := ⟨fun (_ : Value × Value × List Value × (Nat → Prop) × List Value × (Nat → Prop)) => True, fun x => .tuple #[.agg #[x.1, x.2.1], .int .i64 8], fun x => [rowO 25 1 x.1 0 x.2.2.1, elsO (sliceS itS) x.2.2.2.1 (x.2.2.1.map fun v => [v]) [], rowO 49 1 x.2.1 0 x.2.2.2.2.1, elsO (sliceS intS) x.2.2.2.2.2 (x.2.2.2.2.1.map fun v => [v]) []]⟩) (.slice none 0 0, .slice none 0 0, [], fun _ => False, [], fun _ => False) trivial [14, 15, 16, 17] (by decide) rfl
          · rw [if_neg c4] at j5
            repeat (first
              | refine QV QP ?_ | refine QZ ?_ | refine qcT rfl ?_ | refine qcF rfl ?_ | refine E_blockX ?_ | refine E_blockO rfl ?_
              | refine QV (rr_load1 (v := .slice aS2 S2.length cS2) TyC.ty rfl (at_blk (i := 11) rfl rfl)) ?_
              | refine QV (rr_gtr (b := false) rfl rfl (decide_eq_false (by omega))) ?_ | refine QV QL ?_ | refine QV QA ?_ | refine QV QlT ?_ | refine QV QlF ?_
              | refine QV QgT ?_ | refine QV QgF ?_ | refine QV QnT ?_ | refine QV QnF ?_ | refine QV QaA ?_)
            refine TL_push1 (i := 5) rfl rfl rfl rfl rfl rfl (fun z h => by cases h; rfl) (by omega) (by omega) rfl fun z vx' => ?_
            conv => arg 8; simp only [zA, zB, zC, zD, zE, zF, zG, zH, zI, rowS, ret, id_eq]
            repeat (first
              | refine QV QP ?_ | refine QZ ?_ | refine qcT rfl ?_ | refine qcF rfl ?_ | refine E_blockX ?_ | refine E_blockO rfl ?_ | refine QV QL ?_
              | refine QV QA ?_ | refine QV QlT ?_ | refine QV QlF ?_ | refine QV QgT ?_ | refine QV QgF ?_ | refine QV QnT ?_ | refine QV QnF ?_ | refine QV QaA ?_)
            refine E_pick [0, 1, 7, 8, 9, 10, 11, 12, 13, 2, 3, 4, 5] (by decide) rfl ?_
            exact E_round (k + 1, nx ++ [(q : Int)], S2, f2, c2', .slice aS2 S2.length cS2, vss2, F2, vx') ⟨by show k + 1 ≤ ys.length; omega, ⟨E ++ E2, by rw [hE2, hE, List.append_assoc]⟩, hlS, by show S2.length ≤ 200; omega, j5, hf2, hcc, by show (nx ++ [(q : Int)]).length = k + 1; rw [List.length_append, j8]; rfl, fun y hy => (List.mem_append.1 hy).elim (j9 y) fun h => by rw [List.mem_singleton.1 h]; exact ⟨by omega, by omega⟩, fun t ht => hlen2 t ht⟩ (by show ys.length - (k + 1) < ys.length - k; omega) (by repeat' (first | exact True.intro | refine And.intro rfl ?_)) (by dsimp only; rw [List.length_append, List.map_append]; rfl)
      · obtain rfl : k = ys.length := by omega
        rw [List.drop_eq_nil_of_le (Nat.le_refl _), rowI] at j5
        rw [← j5] at i5
        dsimp only at i5
        repeat (first
          | refine QV QP ?_ | refine QZ ?_ | refine qcT rfl ?_ | refine qcF rfl ?_ | refine E_blockX ?_ | refine E_blockO rfl ?_
          | refine QV (rr_load1 (v := vN) TyC.ty rfl (at_blk (i := 6) rfl rfl)) ?_ | refine QV QL ?_ | refine QV QA ?_ | refine QV QlT ?_ | refine QV QlF ?_
          | refine QV QgT ?_ | refine QV QgF ?_ | refine QV QnT ?_ | refine QV QnF ?_ | refine QV QaA ?_)
        refine TL_slv (i := 12) rfl fun hl1 hl2 => ?_
        refine TL_push1 (i := 9) rfl rfl hl1 hl2 rfl rfl (fun z h => by cases h; rfl) (by omega) (by omega) rfl fun z vN' => ?_
        conv => arg 8; simp only [zA, zB, zC, zD, zE, zF, zG, zH, zI, rowS, ret, id_eq]
        refine TL_merge (elsO (sliceS intS) (fun k => G k ∨ vx.ownBlock = some k) ((vns.map fun v => [v]) ++ [[vx]]) (Nx ++ [nx])) 12 10 [0, 1, 2, 3, 4, 5, 6, 7, 8, 9] (by decide) rfl rfl rfl (fun k hk => hk.elim (fun h => by cases h) fun h => h.elim (fun h => .inr (.inr h)) fun h => .inl (.inl h)) (fun w hr he => els_snoc he (ints_of_row j9 hr) (row_foot hr)) ?_
        conv => arg 8; simp only [zA, zB, zC, zD, zE, zF, zG, zH, zI, rowS, ret, id_eq]
        repeat (first
          | refine QV QP ?_ | refine QZ ?_ | refine qcT rfl ?_ | refine qcF rfl ?_ | refine E_blockX ?_ | refine E_blockO rfl ?_ | refine QV QL ?_
          | refine QV QA ?_ | refine QV QlT ?_ | refine QV QlF ?_ | refine QV QgT ?_ | refine QV QgF ?_ | refine QV QnT ?_ | refine QV QnF ?_ | refine QV QaA ?_)
        refine TL_slv (i := 9) rfl fun hv1 hv2 => TL_store1 (i := 6) rfl rfl rfl hv1 hv2 rfl ?_
        conv => arg 8; simp only [zA, zB, zC, zD, zE, zF, zG, zH, zI, rowS, ret, id_eq]
        repeat (first
          | refine QV QP ?_ | refine QZ ?_ | refine qcT rfl ?_ | refine qcF rfl ?_ | refine E_blockX ?_ | refine E_blockO rfl ?_ | refine QV QL ?_
          | refine QV QA ?_ | refine QV QlT ?_ | refine QV QlF ?_ | refine QV QgT ?_ | refine QV QgF ?_ | refine QV QnT ?_ | refine QV QnF ?_ | refine QV QaA ?_)
        exact E_round (n + 1, S', Nx ++ [nx], f', c', vS', vN', vss', F', vns ++ [vx], fun k => G k ∨ vx.ownBlock = some k) ⟨by show n + 1 ≤ S'.length; rw [hE, List.length_append]; omega, by show (Nx ++ [nx]).length = n + 1; rw [List.length_append, i2]; rfl, j3, j4, by show allTo g.prods T N (lkG g) (202 - (n + 1)) (n + 1) (Nx ++ [nx]) S' = _; rw [show 202 - (n + 1) = 201 - n by omega]; exact i5, j6, by dsimp only; omega, j10⟩ (by show 202 - (n + 1) < 202 - n; omega) (by repeat' (first | exact True.intro | refine And.intro rfl ?_)) (by dsimp only; rw [List.length_append, List.map_append]; rfl)
    · have hA : allI g.prods T N (lkG g) = some (Nx, S) := by rw [← i5, show 202 - n = (201 - n) + 1 by omega, allTo, if_neg c1]
      rw [hA] at hO
      have hO : outA g = (Nx, S, 0) := hO
      rw [hO]
      refine T_know (i := 9) rfl row_slm fun hrow => ?_
      obtain ⟨aN, cN, rfl, -⟩ := hrow
      repeat (first
        | refine QV QP ?_ | refine QZ ?_ | refine qcT rfl ?_ | refine qcF rfl ?_ | refine E_blockX ?_ | refine E_blockO rfl ?_
        | refine QV (rr_load1 (v := .slice aS S.length cS) TyC.ty rfl (at_blk (i := 6) rfl rfl)) ?_ | refine QV (rr_loadB (i := 6) TyC.ty rfl rfl rfl) ?_
        | refine QV QL ?_ | refine QV QA ?_ | refine QV QlT ?_ | refine QV QlF ?_ | refine QV QgT ?_ | refine QV QgF ?_ | refine QV QnT ?_ | refine QV QnF ?_
        | refine QV QaA ?_)
      refine TL_storeB (i := 1) (cs' := #[.slice aS S.length cS, .slice aN Nx.length cN]) rfl rfl rfl rfl rfl rfl ?_
      conv => arg 8; simp only [zA, zB, zC, zD, zE, zF, zG, zH, zI, rowS, ret, id_eq]
      repeat (first
        | refine QV QP ?_ | refine QZ ?_ | refine qcT rfl ?_ | refine qcF rfl ?_ | refine E_blockX ?_ | refine E_blockO rfl ?_ | refine QV QL ?_
        | refine QV QA ?_ | refine QV QlT ?_ | refine QV QlF ?_ | refine QV QgT ?_ | refine QV QgF ?_ | refine QV QnT ?_ | refine QV QnF ?_ | refine QV QaA ?_)
      exact E_retc2 (i := 1) rfl rfl rfl rfl rfl fun w hm => hm.meets (S := ⟨fun (_ : Value × Value × List Value × (Nat → Prop) × List Value × (Nat → Prop)) => True, fun x => .tuple #[.agg #[x.1, x.2.1], .int .i64 0], fun x => [rowO 25 1 x.1 S.length x.2.2.1, elsO (sliceS itS) x.2.2.2.1 (x.2.2.1.map fun v => [v]) S, rowO 49 1 x.2.1 Nx.length x.2.2.2.2.1, elsO (sliceS intS) x.2.2.2.2.2 (x.2.2.2.2.1.map fun v => [v]) Nx]⟩) (.slice aS S.length cS, .slice aN Nx.length cN, vss, F, vns, G) trivial [7, 8, 9, 10] (by decide) rfl
  · rw [if_pos c0] at hO
    rw [hO]
    repeat (first
      | refine QV QP ?_ | refine QZ ?_ | refine qcT rfl ?_ | refine qcF rfl ?_ | refine E_blockX ?_ | refine E_blockO rfl ?_
      | refine QV (rr_neq (b := true) rfl rfl (decide_eq_true c0)) ?_ | refine QV (rr_build rfl hb0) ?_ | refine QV QL ?_ | refine QV QA ?_ | refine QV QlT ?_
      | refine QV QlF ?_ | refine QV QgT ?_ | refine QV QgF ?_ | refine QV QnT ?_ | refine QV QnF ?_ | refine QV QaA ?_)
    refine TL_storeB (i := 1) rfl rfl rfl rfl rfl rfl ?_
    conv => arg 8; simp only [zA, zB, zC, zD, zE, zF, zG, zH, zI, rowS, ret, id_eq]
    repeat (first
      | refine QV QP ?_ | refine QZ ?_ | refine qcT rfl ?_ | refine qcF rfl ?_ | refine E_blockX ?_ | refine E_blockO rfl ?_ | refine QV QL ?_
      | refine QV QA ?_ | refine QV QlT ?_ | refine QV QlF ?_ | refine QV QgT ?_ | refine QV QgF ?_ | refine QV QnT ?_ | refine QV QnF ?_ | refine QV QaA ?_)
    refine E_nilrow 25 1 (E_extra (elsO (sliceS itS) (fun _ => False) [] []) (fun k hk => hk.elim (fun h => by cases h) id) (fun w => els_nil) (E_nilrow 49 1 (E_extra (elsO (sliceS intS) (fun _ => False) [] []) (fun k hk => hk.elim (fun h => by cases h) id) (fun w => els_nil) ?_)))
    exact E_retc2 (i := 1) rfl rfl rfl rfl rfl fun w hm => hm.meets (S := ⟨fun (_ : Value × Value × List Value × (Nat → Prop) × List Value × (Nat → Prop)) => True, fun x => .tuple #[.agg #[x.1, x.2.1], .int .i64 (checkG g)], fun x => [rowO 25 1 x.1 0 x.2.2.1, elsO (sliceS itS) x.2.2.2.1 (x.2.2.1.map fun v => [v]) [], rowO 49 1 x.2.1 0 x.2.2.2.2.1, elsO (sliceS intS) x.2.2.2.2.2 (x.2.2.2.2.1.map fun v => [v]) []]⟩) (.slice none 0 0, .slice none 0 0, [], fun _ => False, [], fun _ => False) trivial [2, 3, 4, 5] (by decide) rfl
end Go.Proofs.Ytmcclhddjielnaa.eng

/- ItJ -/
namespace Go.Proofs.Ytmcclhddjielnaa.itemL
open gramL treeL smallL
def insI (x : Item) : List Item → List Item
  | [] => [x]
  | y :: r => if ltI x y = true then x :: y :: r else y :: insI x r
def isortI : List Item → List Item
  | [] => []
  | x :: r => insI x (isortI r)
theorem insI_mem {x y : Item} : ∀ {l : List Item}, y ∈ insI x l ↔ y = x ∨ y ∈ l
  | [] => by simp [insI]
  | z :: r => by
    rw [insI]
    split
    · simp
    · rw [List.mem_cons, insI_mem, List.mem_cons]
      constructor
      · rintro (h | h | h)
        · exact .inr (.inl h)
        · exact .inl h
        · exact .inr (.inr h)
      · rintro (h | h | h)
        · exact .inr (.inl h)
        · exact .inl h
        · exact .inr (.inr h)
theorem isort_mem {y : Item} : ∀ {l : List Item}, y ∈ isortI l ↔ y ∈ l
  | [] => Iff.rfl
  | x :: r => by rw [isortI, insI_mem, isort_mem, List.mem_cons]
theorem insI_ris {x : Item} : ∀ {l : List Item}, RisI l → x ∉ l → RisI (insI x l)
  | [], _, _ => by simp [insI, RisI]
  | y :: r, h, hn => by
    obtain ⟨h1, h2⟩ := List.pairwise_cons.1 h
    rw [insI]
    by_cases c : ltI x y = true
    · rw [if_pos c]
      refine List.pairwise_cons.2 ⟨fun z hz => ?_, h⟩
      rcases List.mem_cons.1 hz with rfl | hz
      · exact c
      · exact ltI_tr c (h1 z hz)
    · rw [if_neg c]
      refine List.pairwise_cons.2 ⟨fun z hz => ?_, insI_ris h2 fun h => hn (List.mem_cons_of_mem _ h)⟩
      rcases insI_mem.1 hz with rfl | hz
      · by_cases c2 : ltI y z = true
        · exact c2
        · exact absurd (ltI_parts z y (Bool.eq_false_iff.2 c) (Bool.eq_false_iff.2 c2)) fun e => hn (e ▸ List.mem_cons_self ..)
      · exact h1 z hz
theorem isort_ris : ∀ {l : List Item}, l.Nodup → RisI (isortI l)
  | [], _ => List.Pairwise.nil
  | x :: r, h => by
    obtain ⟨h1, h2⟩ := List.nodup_cons.1 h
    exact insI_ris (isort_ris h2) fun e => h1 (isort_mem.1 e)
theorem sort_isort {l : List Item} (h : l.Nodup) : sortI l = isortI l := ris_ext (sort_ris h) (isort_ris h) fun x => by rw [sort_mem, isort_mem]
section
variable {l : List gramL.Prod} {T : Nat} {lk : Int → Int → Nat}
theorem work_nodup : ∀ (f n : Nat) (out : List Item), out.Nodup → (workI l T lk f n out).Nodup
  | 0, _, _, h => h
  | f + 1, n, out, h => by
    rw [workI]
    split
    · exact work_nodup f _ _ (exp_nodup h)
    · exact h
def closedJ (l : List gramL.Prod) (T : Nat) (lk : Int → Int → Nat) (l0 : List Item) : List Item := isortI (workI l T lk 12000 0 (firsts [] l0))
theorem closed_eq (l0 : List Item) : closedI l T lk l0 = closedJ l T lk l0 := sort_isort (work_nodup _ _ _ (firsts_nodup _ _ List.nodup_nil))
def stepJ (l : List gramL.Prod) (T : Nat) (lk : Int → Int → Nat) (s : List Item) (x : Sym) : List Item := closedJ l T lk (overI l s x)
theorem step_eq : stepI l T lk = stepJ l T lk := by funext s x; exact closed_eq _
end
section
variable (st : List Item → Sym → List Item)
def cellG (s : List Item) (x : Sym) (S : List (List Item)) : Int × List (List Item) := if st s x = [] then (-1, S) else (((stateI S (st s x)).1 : Int), (stateI S (st s x)).2)
def rowG (s : List Item) : List Sym → List Int → List (List Item) → Option (List Int × List (List Item))
  | [], nx, S => some (nx, S)
  | x :: r, nx, S => if 200 < (cellG st s x S).2.length then none else rowG s r (nx ++ [(cellG st s x S).1]) (cellG st s x S).2
def allG (ys : List Sym) : Nat → Nat → List (List Int) → List (List Item) → Option (List (List Int) × List (List Item))
  | 0, _, _, _ => none
  | f + 1, n, Nx, S => if n < S.length then (match rowG st (S.getD n []) ys [] S with
      | none => none
      | some (nx, S') => allG ys f (n + 1) (Nx ++ [nx]) S') else some (Nx, S)
end
section
variable {l : List gramL.Prod} {T N : Nat} {lk : Int → Int → Nat}
theorem row_eq (s : List Item) : ∀ (xs : List Sym) (nx : List Int) (S : List (List Item)), rowI l T lk s xs nx S = rowG (stepI l T lk) s xs nx S
  | [], _, _ => rfl
  | x :: r, nx, S => by
    rw [rowI, rowG, row_eq s r]
    rfl
theorem allTo_eq : ∀ (f n : Nat) (Nx : List (List Int)) (S : List (List Item)), allTo l T N lk f n Nx S = allG (stepI l T lk) (symsI T N) f n Nx S
  | 0, _, _, _ => rfl
  | f + 1, n, Nx, S => by
    rw [allTo, allG, row_eq]
    split
    · cases rowG (stepI l T lk) (S.getD n []) (symsI T N) [] S with
      | none => rfl
      | some r => exact allTo_eq f _ _ _
    · rfl
theorem allI_eq : allI l T N lk = allG (stepJ l T lk) (symsI T N) 202 0 [] [closedJ l T lk [((l.length : Int), 0, (T : Int))]] := by
  unfold allI
  rw [allTo_eq, step_eq]
  unfold startI
  rw [closed_eq]
end
end Go.Proofs.Ytmcclhddjielnaa.itemL
namespace Go.Proofs.Ytmcclhddjielnaa.eng
open gramL treeL itemL smallL
def brkNx : List (List Int) := [[1, -1, 2], [3, -1, 4], [-1, -1, -1], [3, -1, 5], [-1, 6, -1], [-1, 7, -1], [1, -1, 8], [3, -1, 9], [-1, -1, -1], [-1, -1, -1]]
def brkSt : List (List itemL.Item) := [[(0, 0, 2), (1, 0, 2), (2, 0, 2)], [(0, 0, 1), (1, 0, 1), (1, 1, 2)], [(2, 1, 2)], [(0, 0, 1), (1, 0, 1), (1, 1, 1)], [(1, 2, 2)], [(1, 2, 1)], [(0, 0, 2), (1, 0, 2), (1, 3, 2)], [(0, 0, 1), (1, 0, 1), (1, 3, 1)], [(1, 4, 2)], [(1, 4, 1)]]
theorem brk_all : allI brkP 2 1 (lkG brkG) = some (brkNx, brkSt) := by
  rw [allI_eq]
  kernel_rfl
end Go.Proofs.Ytmcclhddjielnaa.eng

/- ItR -/
namespace Go.Proofs.Ytmcclhddjielnaa.eng
open Go.RowKit kit mix gramL
theorem rightSym_calls (t n : Int) (vp : Value) (x : Sym) (w : World) : Calls Try.prog 13 #[graV t n vp, .agg (symC x).toArray] w (Meets (ret (.bool (right t n x))) w) := by
  obtain ⟨xk, xn⟩ := x
  unfold right
  refine enter (args := [graV t n vp, .agg (symC (xk, xn)).toArray]) (n := 32) Try.func13 rfl rfl rfl ?_
  refine T_seq (T_region (TL_box rfl rfl rfl fun g2 => ?_))
  conv => arg 8; simp only [zA, zB, zC, zD, zE, zF, zG, zH, zI, rowS, ret, id_eq]
  refine TL_box rfl rfl rfl fun g3 => ?_
  conv => arg 8; simp only [zA, zB, zC, zD, zE, zF, zG, zH, zI, rowS, ret, id_eq]
  dsimp only
  by_cases c1 : 0 ≤ xn
  · by_cases c2 : xk = 1
    · subst c2
      by_cases c3 : xn < t
      · rw [if_pos rfl, decide_eq_true c1, decide_eq_true c3]
        repeat (first
          | refine QV QP ?_ | refine QZ ?_ | refine qs rfl rfl rfl rfl rfl rfl ?_
          | ((try refine qg rfl rfl rfl ?_); first | refine QV QP ?_ | refine QV (rr_load1 (v := .int .i64 xn) TyC.ty rfl (at_blk (i := 1) rfl rfl)) ?_ | refine QV (rr_load1 (v := .int .i64 1) TyC.ty rfl (at_blk (i := 1) rfl rfl)) ?_ | refine QV (rr_load1 (v := .int .i64 t) TyC.ty rfl (at_blk (i := 0) rfl rfl)) ?_ | refine QV QA ?_ | refine QV QhT ?_ | refine QV QhF ?_ | refine QV QlT ?_ | refine QV QlF ?_ | refine QV QeT ?_ | refine QV QeF ?_))
        exact E_ret1 rfl rfl fun w hm => hm.ret
      · rw [if_pos rfl, decide_eq_true c1, decide_eq_false c3]
        repeat (first
          | refine QV QP ?_ | refine QZ ?_ | refine qs rfl rfl rfl rfl rfl rfl ?_
          | ((try refine qg rfl rfl rfl ?_); first | refine QV QP ?_ | refine QV (rr_load1 (v := .int .i64 xn) TyC.ty rfl (at_blk (i := 1) rfl rfl)) ?_ | refine QV (rr_load1 (v := .int .i64 1) TyC.ty rfl (at_blk (i := 1) rfl rfl)) ?_ | refine QV (rr_load1 (v := .int .i64 t) TyC.ty rfl (at_blk (i := 0) rfl rfl)) ?_ | refine QV QA ?_ | refine QV QhT ?_ | refine QV QhF ?_ | refine QV QlT ?_ | refine QV QlF ?_ | refine QV QeT ?_ | refine QV QeF ?_))
        exact E_ret1 rfl rfl fun w hm => hm.ret
    · rw [if_neg c2]
      by_cases c4 : xk = 2
      · subst c4
        by_cases c3 : xn < n
        · rw [if_pos rfl, decide_eq_true c1, decide_eq_true c3]
          repeat (first
            | refine QV QP ?_ | refine QZ ?_ | refine qs rfl rfl rfl rfl rfl rfl ?_
            | ((try refine qg rfl rfl rfl ?_); first | refine QV QP ?_ | refine QV (rr_load1 (v := .int .i64 xn) TyC.ty rfl (at_blk (i := 1) rfl rfl)) ?_ | refine QV (rr_load1 (v := .int .i64 2) TyC.ty rfl (at_blk (i := 1) rfl rfl)) ?_ | refine QV (rr_load1 (v := .int .i64 n) TyC.ty rfl (at_blk (i := 0) rfl rfl)) ?_ | refine QV QA ?_ | refine QV QhT ?_ | refine QV QhF ?_ | refine QV QlT ?_ | refine QV QlF ?_ | refine QV QeT ?_ | refine QV QeF ?_))
          exact E_ret1 rfl rfl fun w hm => hm.ret
        · rw [if_pos rfl, decide_eq_true c1, decide_eq_false c3]
          repeat (first
            | refine QV QP ?_ | refine QZ ?_ | refine qs rfl rfl rfl rfl rfl rfl ?_
            | ((try refine qg rfl rfl rfl ?_); first | refine QV QP ?_ | refine QV (rr_load1 (v := .int .i64 xn) TyC.ty rfl (at_blk (i := 1) rfl rfl)) ?_ | refine QV (rr_load1 (v := .int .i64 2) TyC.ty rfl (at_blk (i := 1) rfl rfl)) ?_ | refine QV (rr_load1 (v := .int .i64 n) TyC.ty rfl (at_blk (i := 0) rfl rfl)) ?_ | refine QV QA ?_ | refine QV QhT ?_ | refine QV QhF ?_ | refine QV QlT ?_ | refine QV QlF ?_ | refine QV QeT ?_ | refine QV QeF ?_))
          exact E_ret1 rfl rfl fun w hm => hm.ret
      · rw [if_neg c4]
        repeat (first
          | refine QV QP ?_ | refine QZ ?_ | refine qs rfl rfl rfl rfl rfl rfl ?_
          | ((try refine qg rfl rfl rfl ?_); first | refine QV QP ?_ | refine QV (rr_load1 (v := .int .i64 xn) TyC.ty rfl (at_blk (i := 1) rfl rfl)) ?_ | refine QV (rr_load1 (v := .int .i64 xk) TyC.ty rfl (at_blk (i := 1) rfl rfl)) ?_ | refine QV QA ?_ | refine QV QhT ?_ | refine QV QhF ?_ | refine QV QlT ?_ | refine QV QlF ?_ | refine QV QeT ?_ | refine QV QeF ?_))
        exact E_ret1 rfl rfl fun w hm => hm.ret
  · rw [decide_eq_false c1]
    have h2 : (if xk = 1 then false && decide (xn < t) else if xk = 2 then false && decide (xn < n) else false) = false := by
      split
      · rfl
      · split <;> rfl
    rw [h2]
    repeat (first
      | refine QV QP ?_ | refine QZ ?_ | refine qs rfl rfl rfl rfl rfl rfl ?_
      | ((try refine qg rfl rfl rfl ?_); first | refine QV QP ?_ | refine QV (rr_load1 (v := .int .i64 xn) TyC.ty rfl (at_blk (i := 1) rfl rfl)) ?_ | refine QV QA ?_ | refine QV QhT ?_ | refine QV QhF ?_ | refine QV QlT ?_ | refine QV QlF ?_ | refine QV QeT ?_ | refine QV QeF ?_))
    exact E_ret1 rfl rfl fun w hm => hm.ret
end Go.Proofs.Ytmcclhddjielnaa.eng

/- Els -/
namespace Go.Proofs.Ytmcclhddjielnaa.eng
open Go.RowKit kit mix
section
variable {α : Type} {s : Shp α} {F : Nat → Prop} {vs : List Value} {S : List (List α)} {W : Base} {L : List Own} {w : World}
theorem els_count (h : (elsO (sliceS s) F (vs.map fun v => [v]) S).holds w) : vs.length = S.length := by have := h.1.1; rwa [List.length_map] at this
theorem els_is (h : (elsO (sliceS s) F (vs.map fun v => [v]) S).holds w) {q : Nat} (hq : q < S.length) {v : Value} (hv : vs[q]? = some v) : SlF s F w v S[q] := by
  have hnv : q < vs.length := (List.getElem?_eq_some_iff.1 hv).1
  obtain ⟨v', e, hs⟩ := h.1.2 q hq (by rw [List.length_map]; exact hnv)
  rw [List.getElem_map] at e
  have h2 := (List.getElem?_eq_some_iff.1 hv).2
  rw [h2] at e
  rw [(List.cons.inj e).1]
  exact hs
theorem els_form (h : (elsO (sliceS s) F (vs.map fun v => [v]) S).holds w) {q : Nat} (hq : q < S.length) {v : Value} (hv : vs[q]? = some v) : ∃ base cap, v = .slice base S[q].length cap ∧ S[q].length ≤ cap ∧ cap ≤ 9223372036854775807 ∧ (0 < S[q].length → ∃ b off, base = some ⟨b, off, none⟩) := by
  obtain ⟨base, cap, e, h1, h2, h3⟩ := els_is h hq hv
  exact ⟨base, cap, e, h1, by unfold maxLen at h2; omega, fun hn => let ⟨b, off, h4, _⟩ := h3 hn; ⟨b, off, h4⟩⟩
theorem els_sl {f : α → List Value} {c : Nat} {hc : ∀ a, (f a).length = c} {p : α → Prop} (hc0 : 0 < c) {i : Nat} (hi : L[i]? = some (elsO (sliceS (flatS f c hc p)) F (vs.map fun v => [v]) S)) {q : Nat} (hq : q < S.length) {v : Value} (hv : vs[q]? = some v) : SlL W L v S[q].length (S[q].flatMap f) := fun w hm =>
  SlF.flat hc0 (els_is (hm.get hi) hq hv)
theorem els_at {f : α → List Value} {c : Nat} {hc : ∀ a, (f a).length = c} {p : α → Prop} (hc0 : 0 < c) {i : Nat} (hi : L[i]? = some (elsO (sliceS (flatS f c hc p)) F (vs.map fun v => [v]) S)) {q : Nat} (hq : q < S.length) {b off n cap : Nat} (hv : vs[q]? = some (.slice (some ⟨b, off, none⟩) n cap)) {k : Nat} (hk : k < S[q].length) (j : Nat) (u : Value) (hu : (f S[q][k])[j]? = some u) : At W L ⟨b, off + k * c + j, none⟩ u := fun w hm => by
  obtain ⟨base, cap', e, _, _, h3⟩ := els_sl (W := W) hc0 hi hq hv w hm
  cases e
  obtain ⟨b', off', e2, hr⟩ := h3 (by omega)
  cases e2
  have hl : (f S[q][k]).length = c := hc _
  have hjc : j < c := by rw [← hl]; exact (List.getElem?_eq_some_iff.1 hu).1
  have := hr (k * c + j) u (by rw [get_el hc S[q] k j hk hjc]; exact hu)
  rwa [← Nat.add_assoc] at this
end
end Go.Proofs.Ytmcclhddjielnaa.eng

