/- Part 5 of what SpecBackUpto needs: SpecK, CfgM, CfgN, StrK, SpecS, SpecB, LawV, LawW, ClassO1, RexI, SpecI, SpecD, SpecC, SpecR, StrE, SpecE, SpecW, SpecAgainW. -/
import Derived.Test.YtakiohldgcifeaaDoorMgD
import Derived.WalkKit
import Derived.WalkSpells
import Derived.WalkLawsBesides
import Derived.Deep.RegionLaw
import Derived.Deep.AppendLies
import Derived.Deep.QuietTactic
import Derived.BigQuiet
import Derived.Deep.DeepCutAuto
import Derived.Lib.Hide
import Derived.Test.YtakiohldgcifeaaDoorRows
import Derived.ProofKit
import Derived.OpenShut
import Derived.ShutString
import Derived.SizedLaws
import Derived.JoinedCond
import Derived.Deep.CondSized
import Derived.Deep.Quiet
import Derived.StillTail
import Derived.Deep.LoopGhost
import Derived.Laws.BitsLemmas
import Derived.Laws.BytesString
import Derived.Test.YtakiohldgcifeaaDoorProg
import Derived.Laws.Entries
import Derived.Laws.BitsAllLaws
import Derived.Laws.StructEq
import Derived.ChangeKeysEq
import Derived.Lib.TrailingZeros
import Derived.Laws.MakeOwn
import Derived.Laws.AppendOwn
import Derived.Laws.Bits64b
import Derived.Shelf.Strings.Builder1
import Derived.Shelf.Small.Wraps
import Derived.Shelf.Strings.Cut
import Derived.Shelf.LaysM
import Derived.Shelf.Strings.Shaped
import Derived.Shelf.Strings.Split
import Derived.Lib.Strings
import Derived.Lib.Slices
import Derived.Lib.Walk
import Derived.Lib.Bytealg
import Derived.Maps.OwnSet
import Derived.DeepKeys4
import Derived.WideKeyEntry
import Derived.Lib.IndexMore
import Derived.Lib.Split
import Derived.Lib.IndexBytes
import Derived.StringKeys
import Derived.Handed
import Derived.Lay
import Derived.Lib.LaidTab
import Derived.MakeChecks
/- SpecK -/
namespace Go.Proofs.YtakiohldgcifeaaDoor.specL
open classL rexL
theorem split_none {s : Bs} (h : s.idxOf? 32 = none) : splitF s = [s] := by
  induction s with
  | nil => rfl
  | cons b r ih =>
    rw [List.idxOf?_cons] at h
    by_cases e : b = 32
    · subst e; simp at h
    · rw [if_neg (by simpa using e)] at h
      rw [splitF, if_neg e, ih (by cases hr : r.idxOf? 32 with | none => rfl | some i => rw [hr] at h; cases h)]
theorem split_some : ∀ {s : Bs} {i : Nat}, s.idxOf? 32 = some i → splitF s = s.take i :: splitF (s.drop (i + 1)) ∧ i < s.length
  | [], i, h => by cases h
  | b :: r, i, h => by
    rw [List.idxOf?_cons] at h
    by_cases e : b = 32
    · subst e
      rw [if_pos (by simp)] at h
      cases h
      exact ⟨by rw [splitF, if_pos rfl]; rfl, by simp⟩
    · rw [if_neg (by simpa using e)] at h
      cases hr : r.idxOf? 32 with
      | none => rw [hr] at h; cases h
      | some j =>
        rw [hr] at h
        simp only [Option.map_some, Option.some.injEq] at h
        subst h
        obtain ⟨h1, h2⟩ := split_some hr
        refine ⟨?_, by simp; omega⟩
        rw [splitF, if_neg e, h1]
        rfl
theorem split_lib : ∀ (k : Nat) (s : Bs), s.length ≤ k → Lib.splitK [32] 0 (Lib.count s [32]) s = splitF s ∧ Lib.count s [32] + 1 = (splitF s).length
  | k, s, hk => by
    cases hi : s.idxOf? 32 with
    | none =>
      have h1 : Lib.index s [32] = -1 := by rw [Lib.index_one]; exact eng.idxB_none hi
      rw [Lib.count_miss h1, split_none hi]
      exact ⟨rfl, rfl⟩
    | some i =>
      have h1 : Lib.index s [32] = (i : Int) := by rw [Lib.index_one]; exact eng.idxB_some hi
      obtain ⟨h2, h3⟩ := split_some hi
      match k, hk with
      | 0, hk => omega
      | k + 1, hk =>
        have ih := split_lib k (s.drop (i + 1)) (by rw [List.length_drop]; omega)
        have hc := Lib.count_hit (s := s) (sub := [32]) (by simp) h1
        have hne : ¬ (Lib.index s [32] == -1) = true := fun e => by have := beq_iff_eq.1 e; omega
        have hd : s.drop (i + [(32 : UInt8)].length) = s.drop (i + 1) := rfl
        rw [hd] at hc
        constructor
        · rw [hc, Nat.add_comm, Lib.splitK, if_neg hne, h1, Int.toNat_natCast, Nat.add_zero, hd, ih.1, h2]
        · rw [hc, h2, List.length_cons, ← ih.2]; omega
theorem pre_lib (p s : Bs) : preF p s = (Lib.trimPrefix s p, Lib.hasPrefix s p) := by
  unfold preF Lib.trimPrefix
  rw [← Lib.hasPrefix_of_take]
  by_cases h : s.take p.length = p
  · have hl : p.length ≤ s.length := by
      have := congrArg List.length h
      rw [List.length_take] at this; omega
    simp [h, hl]
  · simp [h]
end Go.Proofs.YtakiohldgcifeaaDoor.specL


/- CfgM -/
namespace Go.Proofs.YtakiohldgcifeaaDoor.gramL
theorem cut_some {c : UInt8} : ∀ {s : Tx} {i : Nat}, s.idxOf? c = some i → cutF c s = (s.take i, s.drop (i + 1), true) ∧ i < s.length
  | [], i, h => by cases h
  | b :: r, i, h => by
    rw [List.idxOf?_cons] at h
    rw [cutF]
    by_cases e : b = c
    · subst e
      rw [if_pos (by simp)] at h
      cases h
      rw [if_pos rfl]
      exact ⟨rfl, by simp⟩
    · rw [if_neg (by simpa using e)] at h
      cases hq : r.idxOf? c with
      | none => rw [hq] at h; cases h
      | some q =>
        rw [hq] at h
        cases h
        obtain ⟨h1, h2⟩ := cut_some hq
        rw [if_neg e, h1]
        exact ⟨rfl, by simp; omega⟩
theorem cut_none {c : UInt8} : ∀ {s : Tx}, s.idxOf? c = none → cutF c s = (s, [], false)
  | [], h => rfl
  | b :: r, h => by
    rw [List.idxOf?_cons] at h
    rw [cutF]
    by_cases e : b = c
    · subst e
      rw [if_pos (by simp)] at h
      cases h
    · rw [if_neg (by simpa using e)] at h
      cases hq : r.idxOf? c with
      | none => rw [if_neg e, cut_none hq]
      | some q => rw [hq] at h; cases h
end Go.Proofs.YtakiohldgcifeaaDoor.gramL

/- CfgN -/
namespace Go.Proofs.YtakiohldgcifeaaDoor.eng
open Go.RowKit kit mix gramL
theorem b8ne {a b : UInt8} {c : Bool} (h : decide (a ≠ b) = c) : decide ((a.toNat : Int) ≠ (b.toNat : Int)) = c := by
  rw [← h]
  apply decide_eq_decide.2
  rw [ne_eq, ne_eq, ← UInt8.toNat_inj]
  omega
theorem idx1_calls (l : List UInt8) (c : UInt8) (w : World) : Calls Tryd.prog 39 #[str l, str [c]] w (Meets (ret (.int .i64 (Lib.indexByte l c))) w) := by
  refine enter (args := [str l, str [c]]) (n := 143) Tryd.func39 rfl rfl rfl ?_
  repeat(first|refine qv rfl (qp rfl) rfl rfl ?_|refine TL_nil ?_|refine T_seq ?_|refine T_region ?_|refine qcT rfl ?_|refine qcF rfl ?_|refine T_skip ?_|refine T_exit ?_|refine T_ret ?_|refine T_block ?_|refine E_then ?_|refine E_thenX ?_|refine E_thenR ?_|refine E_blockN ?_|refine E_blockR ?_|refine E_blockX ?_|refine E_blockO rfl ?_|refine qs rfl rfl rfl rfl rfl rfl ?_|((try refine qg rfl rfl rfl ?_);first|refine qv rfl (qp rfl) rfl rfl ?_|refine qv rfl (rr_strlen Und.eq rfl) rfl rfl ?_|refine qv rfl (rr_lss rfl rfl (qT (by omega))) rfl rfl ?_|refine qv rfl (rr_lss rfl rfl (qF (by omega))) rfl rfl ?_|refine qv rfl (rr_leq rfl rfl (qT (by omega))) rfl rfl ?_|refine qv rfl (rr_leq rfl rfl (qF (by omega))) rfl rfl ?_|refine qv rfl (rr_gtr rfl rfl (qT (by omega))) rfl rfl ?_|refine qv rfl (rr_gtr rfl rfl (qF (by omega))) rfl rfl ?_|refine qv rfl (rr_geq rfl rfl (qT (by omega))) rfl rfl ?_|refine qv rfl (rr_geq rfl rfl (qF (by omega))) rfl rfl ?_|refine qv rfl (rr_eql rfl rfl (qT (by omega))) rfl rfl ?_|refine qv rfl (rr_eql rfl rfl (qF (by omega))) rfl rfl ?_|refine qv rfl (rr_neq rfl rfl (qT (by omega))) rfl rfl ?_|refine qv rfl (rr_neq rfl rfl (qF (by omega))) rfl rfl ?_|refine qv rfl (rr_add64 rfl rfl (by omega) (by omega) rfl) rfl rfl ?_|refine qv rfl (rr_sub64 rfl rfl (by omega) (by omega) rfl) rfl rfl ?_))
  by_cases h : [c] = l
  · subst h
    repeat(first|refine qv rfl (qp rfl) rfl rfl ?_|refine TL_nil ?_|refine T_seq ?_|refine T_region ?_|refine qcT rfl ?_|refine qcF rfl ?_|refine T_skip ?_|refine T_exit ?_|refine T_ret ?_|refine T_block ?_|refine E_then ?_|refine E_thenX ?_|refine E_thenR ?_|refine E_blockN ?_|refine E_blockR ?_|refine E_blockX ?_|refine E_blockO rfl ?_|refine qs rfl rfl rfl rfl rfl rfl ?_|((try refine qg rfl rfl rfl ?_);first|refine qv rfl (qp rfl) rfl rfl ?_|refine qv rfl (rr_eql (b := false) rfl rfl rfl) rfl rfl ?_|refine qv rfl (rr_strlen Und.eq rfl) rfl rfl ?_|refine qv rfl (rr_lss rfl rfl (qT (by omega))) rfl rfl ?_|refine qv rfl (rr_lss rfl rfl (qF (by omega))) rfl rfl ?_|refine qv rfl (rr_leq rfl rfl (qT (by omega))) rfl rfl ?_|refine qv rfl (rr_leq rfl rfl (qF (by omega))) rfl rfl ?_|refine qv rfl (rr_gtr rfl rfl (qT (by omega))) rfl rfl ?_|refine qv rfl (rr_gtr rfl rfl (qF (by omega))) rfl rfl ?_|refine qv rfl (rr_geq rfl rfl (qT (by omega))) rfl rfl ?_|refine qv rfl (rr_geq rfl rfl (qF (by omega))) rfl rfl ?_|refine qv rfl (rr_eql rfl rfl (qT (by omega))) rfl rfl ?_|refine qv rfl (rr_eql rfl rfl (qF (by omega))) rfl rfl ?_|refine qv rfl (rr_neq rfl rfl (qT (by omega))) rfl rfl ?_|refine qv rfl (rr_neq rfl rfl (qF (by omega))) rfl rfl ?_|refine qv rfl (rr_add64 rfl rfl (by omega) (by omega) rfl) rfl rfl ?_|refine qv rfl (rr_sub64 rfl rfl (by omega) (by omega) rfl) rfl rfl ?_|refine qv rfl (rr_streq (b := true) rfl rfl (decide_eq_true rfl)) rfl rfl ?_))
    exact E_ret1e rfl rfl (by unfold Lib.indexByte; simp)
  · repeat(first|refine qv rfl (qp rfl) rfl rfl ?_|refine TL_nil ?_|refine T_seq ?_|refine T_region ?_|refine qcT rfl ?_|refine qcF rfl ?_|refine T_skip ?_|refine T_exit ?_|refine T_ret ?_|refine T_block ?_|refine E_then ?_|refine E_thenX ?_|refine E_thenR ?_|refine E_blockN ?_|refine E_blockR ?_|refine E_blockX ?_|refine E_blockO rfl ?_|refine qs rfl rfl rfl rfl rfl rfl ?_|((try refine qg rfl rfl rfl ?_);first|refine qv rfl (qp rfl) rfl rfl ?_|refine qv rfl (rr_eql (b := false) rfl rfl rfl) rfl rfl ?_|refine qv rfl (rr_eql (b := true) rfl rfl rfl) rfl rfl ?_|refine qv rfl (rr_stridx (l := [c]) (b := c) Und.eq rfl rfl (by decide) rfl) rfl rfl ?_|refine qv rfl (rr_strlen Und.eq rfl) rfl rfl ?_|refine qv rfl (rr_lss rfl rfl (qT (by omega))) rfl rfl ?_|refine qv rfl (rr_lss rfl rfl (qF (by omega))) rfl rfl ?_|refine qv rfl (rr_leq rfl rfl (qT (by omega))) rfl rfl ?_|refine qv rfl (rr_leq rfl rfl (qF (by omega))) rfl rfl ?_|refine qv rfl (rr_gtr rfl rfl (qT (by omega))) rfl rfl ?_|refine qv rfl (rr_gtr rfl rfl (qF (by omega))) rfl rfl ?_|refine qv rfl (rr_geq rfl rfl (qT (by omega))) rfl rfl ?_|refine qv rfl (rr_geq rfl rfl (qF (by omega))) rfl rfl ?_|refine qv rfl (rr_eql rfl rfl (qT (by omega))) rfl rfl ?_|refine qv rfl (rr_eql rfl rfl (qF (by omega))) rfl rfl ?_|refine qv rfl (rr_neq rfl rfl (qT (by omega))) rfl rfl ?_|refine qv rfl (rr_neq rfl rfl (qF (by omega))) rfl rfl ?_|refine qv rfl (rr_add64 rfl rfl (by omega) (by omega) rfl) rfl rfl ?_|refine qv rfl (rr_sub64 rfl rfl (by omega) (by omega) rfl) rfl rfl ?_|refine qv rfl (rr_streq (b := false) rfl rfl (decide_eq_false h)) rfl rfl ?_))
    refine TL_call (he2 (Enters.of (by kernel_rfl)) rfl rfl rfl) (fun w' hm => idxIn2_calls l c w') rfl rfl rfl ?_
    intro _ _
    repeat(first|refine qv rfl (qp rfl) rfl rfl ?_|refine TL_nil ?_|refine T_seq ?_|refine T_region ?_|refine qcT rfl ?_|refine qcF rfl ?_|refine T_skip ?_|refine T_exit ?_|refine T_ret ?_|refine T_block ?_|refine E_then ?_|refine E_thenX ?_|refine E_thenR ?_|refine E_blockN ?_|refine E_blockR ?_|refine E_blockX ?_|refine E_blockO rfl ?_|refine qs rfl rfl rfl rfl rfl rfl ?_|((try refine qg rfl rfl rfl ?_);first|refine qv rfl (qp rfl) rfl rfl ?_|refine qv rfl (rr_strlen Und.eq rfl) rfl rfl ?_|refine qv rfl (rr_lss rfl rfl (qT (by omega))) rfl rfl ?_|refine qv rfl (rr_lss rfl rfl (qF (by omega))) rfl rfl ?_|refine qv rfl (rr_leq rfl rfl (qT (by omega))) rfl rfl ?_|refine qv rfl (rr_leq rfl rfl (qF (by omega))) rfl rfl ?_|refine qv rfl (rr_gtr rfl rfl (qT (by omega))) rfl rfl ?_|refine qv rfl (rr_gtr rfl rfl (qF (by omega))) rfl rfl ?_|refine qv rfl (rr_geq rfl rfl (qT (by omega))) rfl rfl ?_|refine qv rfl (rr_geq rfl rfl (qF (by omega))) rfl rfl ?_|refine qv rfl (rr_eql rfl rfl (qT (by omega))) rfl rfl ?_|refine qv rfl (rr_eql rfl rfl (qF (by omega))) rfl rfl ?_|refine qv rfl (rr_neq rfl rfl (qT (by omega))) rfl rfl ?_|refine qv rfl (rr_neq rfl rfl (qF (by omega))) rfl rfl ?_|refine qv rfl (rr_add64 rfl rfl (by omega) (by omega) rfl) rfl rfl ?_|refine qv rfl (rr_sub64 rfl rfl (by omega) (by omega) rfl) rfl rfl ?_))
    exact E_ret1 rfl rfl fun w hm => hm.ret
theorem cutS_calls (l : List UInt8) (c : UInt8) (w : World) (hl : l.length ≤ 1000000) : Calls Tryd.prog 32 #[str l, str [c]] w (Meets (ret (.tuple #[str (cutF c l).1, str (cutF c l).2.1, .bool (cutF c l).2.2])) w) := by
  have hcl := fun w => idx1_calls l c w
  refine enter (args := [str l, str [c]]) (n := 23) Tryd.func32 rfl rfl rfl ?_
  repeat(first|refine qv rfl (qp rfl) rfl rfl ?_|refine TL_nil ?_|refine T_seq ?_|refine T_region ?_|refine qcT rfl ?_|refine qcF rfl ?_|refine T_skip ?_|refine T_ret ?_|refine E_then ?_|refine E_thenR ?_|refine qv rfl (rr_strlen Und.eq rfl) rfl rfl ?_|refine qv rfl (rr_geq rfl rfl (qT (by omega))) rfl rfl ?_|refine qv rfl (rr_geq rfl rfl (qF (by omega))) rfl rfl ?_|refine qv rfl (rr_add64 rfl rfl (by omega) (by omega) rfl) rfl rfl ?_)
  refine TL_call (he2 (Enters.of (by kernel_rfl)) rfl rfl rfl) (fun w' hm => hcl w') rfl rfl rfl ?_
  intro _ _
  conv=>arg 8;simp only[zA,zB,zC,zD,zE,zF,zG,zH,zI,rowS,ret,id_eq]
  cases hi : l.idxOf? c with
  | some i =>
    obtain ⟨h1, h2⟩ := cut_some hi
    rw [idxB_some hi, h1]
    repeat(first|refine qv rfl (qp rfl) rfl rfl ?_|refine TL_nil ?_|refine T_seq ?_|refine T_region ?_|refine qcT rfl ?_|refine qcF rfl ?_|refine T_skip ?_|refine T_ret ?_|refine E_then ?_|refine E_thenR ?_|refine qv rfl (rr_geq (b := true) rfl rfl (decide_eq_true (by omega))) rfl rfl ?_|refine qv rfl (rr_strlen Und.eq rfl) rfl rfl ?_|refine qv rfl (rr_geq rfl rfl (qT (by omega))) rfl rfl ?_|refine qv rfl (rr_geq rfl rfl (qF (by omega))) rfl rfl ?_|refine qv rfl (rr_add64 rfl rfl (by omega) (by omega) rfl) rfl rfl ?_)
    refine T_ord ([]) (.calm 0 (.calm 1 (.calm 2 (.calm 3 (.calm 4 (.calm 5 (.calm 6 (.calm 7 (.calm 8 (.calm 9 (.calm 10 (.calm 11 (.done))))))))))))) (fun _ h => h) (by kernel_rfl) (by kernel_rfl) (by intro c a d v w h; cases d <;> exact h) ?_
    repeat(first|((first|refine TW_plain rfl rfl ?_|refine TW_gmet rfl rfl rfl rfl ?_);first|refine TN_val (qp rfl) rfl rfl ?_|refine TN_val (rr_strupto (j := i) Und.eq rfl rfl (by omega)) rfl rfl ?_|refine TN_val (rr_add64 (r := ((i + 1 : Nat) : Int)) rfl rfl (by simp only [List.length_cons, List.length_nil]; omega) (by simp only [List.length_cons, List.length_nil]; omega) (by simp only [List.length_cons, List.length_nil]; omega)) rfl rfl ?_|refine TN_val (rr_strfrom (i := i + 1) Und.eq rfl rfl (by omega)) rfl rfl ?_|refine TN_val (rr_strlen Und.eq rfl) rfl rfl ?_|refine TN_val (rr_geq rfl rfl (qT (by omega))) rfl rfl ?_|refine TN_val (rr_geq rfl rfl (qF (by omega))) rfl rfl ?_|refine TN_val (rr_add64 rfl rfl (by omega) (by omega) rfl) rfl rfl ?_)|refine TW_done ?_)
    repeat(first|refine qv rfl (qp rfl) rfl rfl ?_|refine TL_nil ?_|refine T_seq ?_|refine T_region ?_|refine qcT rfl ?_|refine qcF rfl ?_|refine T_skip ?_|refine T_ret ?_|refine E_then ?_|refine E_thenR ?_|refine qv rfl (rr_strlen Und.eq rfl) rfl rfl ?_|refine qv rfl (rr_geq rfl rfl (qT (by omega))) rfl rfl ?_|refine qv rfl (rr_geq rfl rfl (qF (by omega))) rfl rfl ?_|refine qv rfl (rr_add64 rfl rfl (by omega) (by omega) rfl) rfl rfl ?_)
    exact E_ret3 rfl rfl rfl rfl fun w hm => hm.ret
  | none =>
    rw [idxB_none hi, cut_none hi]
    repeat(first|refine qv rfl (qp rfl) rfl rfl ?_|refine TL_nil ?_|refine T_seq ?_|refine T_region ?_|refine qcT rfl ?_|refine qcF rfl ?_|refine T_skip ?_|refine T_ret ?_|refine E_then ?_|refine E_thenR ?_|refine qv rfl (rr_geq (b := false) rfl rfl rfl) rfl rfl ?_|refine qv rfl (rr_strlen Und.eq rfl) rfl rfl ?_|refine qv rfl (rr_geq rfl rfl (qT (by omega))) rfl rfl ?_|refine qv rfl (rr_geq rfl rfl (qF (by omega))) rfl rfl ?_|refine qv rfl (rr_add64 rfl rfl (by omega) (by omega) rfl) rfl rfl ?_)
    exact E_ret3 rfl rfl rfl rfl fun w hm => hm.ret
theorem cut_calls (l : List UInt8) (c : UInt8) (w : World) (hl : l.length ≤ 1000000) : Calls Tryd.prog 18 #[str l, str [c]] w (Meets (ret (.tuple #[str (cutF c l).1, str (cutF c l).2.1, .bool (cutF c l).2.2])) w) := by
  have hcl := fun w => cutS_calls l c w hl
  refine enter (args := [str l, str [c]]) (n := 13) Tryd.func18 rfl rfl rfl ?_
  repeat(first|refine qv rfl (qp rfl) rfl rfl ?_|refine TL_nil ?_|refine T_seq ?_|refine T_region ?_|refine T_ret ?_|refine E_then ?_|refine E_thenR ?_)
  refine TL_call (he2 (Enters.of (by kernel_rfl)) rfl rfl rfl) (fun w' hm => hcl w') rfl rfl rfl ?_
  intro _ _
  conv=>arg 8;simp only[zA,zB,zC,zD,zE,zF,zG,zH,zI,rowS,ret,id_eq]
  repeat(first|refine qv rfl (qp rfl) rfl rfl ?_|refine TL_nil ?_|refine T_seq ?_|refine T_region ?_|refine T_ret ?_|refine E_then ?_|refine E_thenR ?_)
  exact E_ret3 rfl rfl rfl rfl fun w hm => hm.ret
end Go.Proofs.YtakiohldgcifeaaDoor.eng


/- StrK -/
namespace Go.Proofs.YtakiohldgcifeaaDoor.eng
open Go.RowKit kit mix
theorem str_inj {x y : List UInt8} (h : str x = str y) : x = y := by
  unfold str at h
  simpa using h
def strK : KeyT Tryd.prog 9 (List UInt8) where
  kv := str
  ok l := l.length ≤ 9223372036854775807
  law := Go.WideMaps.string_law Tryd.underlying9
  key l h := ⟨_, Go.WideMaps.keyOf_string_mk Tryd.underlying9 (by unfold maxLen; simpa [ByteArray.size] using h)⟩
  inj x y h := str_inj h
end Go.Proofs.YtakiohldgcifeaaDoor.eng

/- SpecS -/
namespace Go.Proofs.YtakiohldgcifeaaDoor.eng
open Go.RowKit kit mix classL rexL specL
def wordS : Shp Wd := pairS strS rexS
def ruleS : Shp Rl := pairS strS (sliceS strS)
def bsC (s : Bs) : List Value := [str s]
theorem bsC_len (s : Bs) : (bsC s).length = 1 := rfl
/-- a specification that can be read -/
def SpR (F : Nat → Prop) (w : World) (v : Value) (s : Sp) : Prop := ∃ vw vr, v = .agg #[vw, vr] ∧ SlF wordS F w vw s.words ∧ SlF ruleS F w vr s.rules
theorem slf_gr {α : Type} {s : Shp α} {w w' : World} {v : Value} {l : List α} (h : SlF s (Low w) w v l) (hg : Gr w w') : SlF s (Low w') w' v l :=
  (h.stay fun k hk => hg.block k hk).mono fun k hk => Nat.lt_of_lt_of_le hk hg.size
theorem SpR.gr {w w' : World} {v : Value} {s : Sp} (h : SpR (Low w) w v s) (hg : Gr w w') : SpR (Low w') w' v s := by
  obtain ⟨vw, vr, h1, h2, h3⟩ := h
  exact ⟨vw, vr, h1, slf_gr h2 hg, slf_gr h3 hg⟩
def wdC (n : Bs) (k : Int) (c : C4) (v : Value) : List Value := str n :: rexC k c v
theorem wd_rex {n : Bs} {k : Int} {c : C4} {vk : Value} {j : Nat} {v : Value} (h : (rexC k c vk)[j]? = some v) : (wdC n k c vk).toArray[0 + 1 + j]? = some v := by
  rw [List.getElem?_toArray, Nat.zero_add, Nat.add_comm]; exact h
theorem word_at {F : Nat → Prop} {w : World} {b off : Nat} {l : List Wd} (h : ∀ i (h : i < l.length), ∃ cs, wordS.is F w cs l[i] ∧ Rd w b (off + i * wordS.c) cs) {k : Nat} (hk : k < l.length) :
    ∃ base cap, Rd w b (off + k * 7) (wdC l[k].1 l[k].2.kind l[k].2.cls (.slice base l[k].2.kids.length cap)) ∧ RexR F w (rexV l[k].2.kind l[k].2.cls (.slice base l[k].2.kids.length cap)) l[k].2 ∧ l[k].1.length ≤ 9223372036854775807 := by
  obtain ⟨cs, ⟨c1, c2, rfl, ⟨rfl, h1⟩, h2⟩, h3⟩ := h k hk
  have h2 : RexIs F w c2 l[k].2 := h2
  have h4 := h2.r
  obtain ⟨vk, e, -, hs⟩ := h4
  obtain ⟨base, cap, rfl, -⟩ := hs
  have e2 : c2 = rexC l[k].2.kind l[k].2.cls (.slice base l[k].2.kids.length cap) := by
    unfold rexV at e
    simp only [Value.agg.injEq] at e
    simpa using congrArg Array.toList e
  subst e2
  exact ⟨base, cap, h3, h2.r, h1⟩
theorem rule_at {F : Nat → Prop} {w : World} {b off : Nat} {l : List Rl} (h : ∀ i (h : i < l.length), ∃ cs, ruleS.is F w cs l[i] ∧ Rd w b (off + i * ruleS.c) cs) {k : Nat} (hk : k < l.length) :
    ∃ base cap, Rd w b (off + k * 2) [str l[k].1, .slice base l[k].2.length cap] ∧ SlF strS F w (.slice base l[k].2.length cap) l[k].2 ∧ l[k].1.length ≤ 9223372036854775807 := by
  obtain ⟨cs, ⟨c1, c2, rfl, ⟨rfl, h1⟩, v, rfl, hs⟩, h3⟩ := h k hk
  have hs0 := hs
  obtain ⟨base, cap, rfl, -⟩ := hs
  exact ⟨base, cap, h3, hs0, h1⟩
theorem name_step {b : UInt8} {r : Bs} : (b :: r).all nameL = (nameL b && r.all nameL) := rfl
theorem nameL_iff {b : UInt8} : nameL b = true ↔ ¬ ((b.toNat : Int) < 97) ∧ ¬ ((b.toNat : Int) > 122) := by
  unfold nameL
  simp only [Bool.and_eq_true, decide_eq_true_eq]
  omega
set_option maxHeartbeats 2000000 in
theorem named_calls (s : Bs) (w : World) : Calls Tryd.prog 17 #[str s] w (Meets (ret (.bool (namedB s))) w) := by
  refine enter (args := [str s]) (n := 27) Tryd.func17 rfl rfl rfl ?_
  repeat(first|refine QV QP ?_|refine QZ ?_|refine qcT rfl ?_|refine qcF rfl ?_|refine E_blockX ?_|refine E_blockO rfl ?_|refine qs rfl rfl rfl rfl rfl rfl ?_|((try refine qg rfl rfl rfl ?_);first|refine QV QP ?_|refine QV QS ?_|refine QV QlT ?_|refine QV QlF ?_|refine QV QaA ?_|refine QV QgT ?_|refine QV QgF ?_))
  by_cases c0 : s = []
  · subst c0
    repeat(first|refine QV QP ?_|refine QZ ?_|refine qcT rfl ?_|refine qcF rfl ?_|refine E_blockX ?_|refine E_blockO rfl ?_|refine qs rfl rfl rfl rfl rfl rfl ?_|((try refine qg rfl rfl rfl ?_);first|refine QV QP ?_|refine QV (rr_streq (b := true) rfl rfl rfl) ?_|refine QV QS ?_|refine QV QlT ?_|refine QV QlF ?_|refine QV QaA ?_|refine QV QgT ?_|refine QV QgF ?_))
    exact E_ret1e rfl rfl rfl
  by_cases c1 : 12 < s.length
  · repeat(first|refine QV QP ?_|refine QZ ?_|refine qcT rfl ?_|refine qcF rfl ?_|refine E_blockX ?_|refine E_blockO rfl ?_|refine qs rfl rfl rfl rfl rfl rfl ?_|((try refine qg rfl rfl rfl ?_);first|refine QV QP ?_|refine QV (rr_streq (b := false) rfl rfl (decide_eq_false c0)) ?_|refine QV QS ?_|refine QV QS ?_|refine QV QlT ?_|refine QV QlF ?_|refine QV QaA ?_|refine QV QgT ?_|refine QV QgF ?_))
    exact E_ret1e rfl rfl (by unfold namedB; rw [decide_eq_false (show ¬ s.length ≤ 12 by omega)]; simp)
  have hB : namedB s = s.all nameL := by unfold namedB; rw [decide_eq_true c0, decide_eq_true (show s.length ≤ 12 by omega)]; rfl
  repeat(first|refine QV QP ?_|refine QZ ?_|refine qcT rfl ?_|refine qcF rfl ?_|refine E_blockX ?_|refine E_blockO rfl ?_|refine qs rfl rfl rfl rfl rfl rfl ?_|((try refine qg rfl rfl rfl ?_);first|refine QV QP ?_|refine QV (rr_streq (b := false) rfl rfl (decide_eq_false c0)) ?_|refine QV QS ?_|refine QV QS ?_|refine QV QlT ?_|refine QV QlF ?_|refine QV QaA ?_|refine QV QgT ?_|refine QV QgF ?_))
  refine T_loop (ι := Nat) (fun k => k ≤ s.length ∧ (s.drop k).all nameL = s.all nameL) (fun k => [(0, str s), (12, .int .i64 s.length), (13, .int .i64 (k : Int))]) (fun _ => []) (fun k => s.length - k) 0 ⟨Nat.zero_le _, rfl⟩ (by repeat' (first | exact True.intro | refine And.intro rfl ?_)) rfl ?_
  rintro k ⟨i1, i2⟩
  by_cases c2 : k < s.length
  · rw [List.drop_eq_getElem_cons c2, name_step] at i2
    have hk := List.getElem?_eq_getElem c2
    rw [hB]
    generalize s[k] = b at *
    cases hb : nameL b with
    | true =>
      obtain ⟨b1, b2⟩ := nameL_iff.1 hb
      rw [hb, Bool.true_and] at i2
      repeat(first|refine QV QP ?_|refine QZ ?_|refine qcT rfl ?_|refine qcF rfl ?_|refine E_blockX ?_|refine E_blockO rfl ?_|refine qs rfl rfl rfl rfl rfl rfl ?_|((try refine qg rfl rfl rfl ?_);first|refine QV QP ?_|refine QV (rr_stridx (b := b) Und.eq rfl rfl (by omega) hk) ?_|refine QV QS ?_|refine QV QlT ?_|refine QV QlF ?_|refine QV QaA ?_|refine QV QgT ?_|refine QV QgF ?_))
      exact E_round (k + 1) ⟨by omega, i2⟩ (by show s.length - (k + 1) < s.length - k; omega) (by repeat' (first | exact True.intro | refine And.intro rfl ?_)) rfl
    | false =>
      rw [hb, Bool.false_and] at i2
      rw [← i2]
      by_cases b1 : (b.toNat : Int) < 97
      · repeat(first|refine QV QP ?_|refine QZ ?_|refine qcT rfl ?_|refine qcF rfl ?_|refine E_blockX ?_|refine E_blockO rfl ?_|refine qs rfl rfl rfl rfl rfl rfl ?_|((try refine qg rfl rfl rfl ?_);first|refine QV QP ?_|refine QV (rr_stridx (b := b) Und.eq rfl rfl (by omega) hk) ?_|refine QV QS ?_|refine QV QlT ?_|refine QV QlF ?_|refine QV QaA ?_|refine QV QgT ?_|refine QV QgF ?_))
        exact E_ret1e rfl rfl rfl
      · have b2 : (b.toNat : Int) > 122 := by
          by_cases b2 : (b.toNat : Int) > 122
          · exact b2
          · rw [nameL_iff.2 ⟨b1, b2⟩] at hb; cases hb
        repeat(first|refine QV QP ?_|refine QZ ?_|refine qcT rfl ?_|refine qcF rfl ?_|refine E_blockX ?_|refine E_blockO rfl ?_|refine qs rfl rfl rfl rfl rfl rfl ?_|((try refine qg rfl rfl rfl ?_);first|refine QV QP ?_|refine QV (rr_stridx (b := b) Und.eq rfl rfl (by omega) hk) ?_|refine QV QS ?_|refine QV QlT ?_|refine QV QlF ?_|refine QV QaA ?_|refine QV QgT ?_|refine QV QgF ?_))
        exact E_ret1e rfl rfl rfl
  · have e : k = s.length := by omega
    subst e
    rw [List.drop_length] at i2
    rw [hB, ← i2]
    repeat(first|refine QV QP ?_|refine QZ ?_|refine qcT rfl ?_|refine qcF rfl ?_|refine E_blockX ?_|refine E_blockO rfl ?_|refine qs rfl rfl rfl rfl rfl rfl ?_|((try refine qg rfl rfl rfl ?_);first|refine QV QP ?_|refine QV QS ?_|refine QV QlT ?_|refine QV QlF ?_|refine QV QaA ?_|refine QV QgT ?_|refine QV QgF ?_))
    exact E_ret1e rfl rfl rfl
/-- keys of a map: these just -/
def KeysOf (m : Bs → Option Value) (of : List Bs) : Prop := ∀ y, (m y).isSome = decide (y ∈ of)
theorem keys_some {m : Bs → Option Value} {of : List Bs} {y : Bs} {v : Value} (h : KeysOf m of) (e : m y = some v) : y ∈ of := by
  have := h y
  rw [e] at this
  exact of_decide_eq_true this.symm
theorem keys_none {m : Bs → Option Value} {of : List Bs} {y : Bs} (h : KeysOf m of) (e : m y = none) : y ∉ of := by
  have := h y
  rw [e] at this
  exact of_decide_eq_false this.symm
theorem keys_put {m : Bs → Option Value} {of : List Bs} {x : Bs} {v : Value} (h : KeysOf m of) : KeysOf (fun y => if y = x then some v else m y) (of ++ [x]) := fun y => by
  by_cases e : y = x
  · subst e; simp
  · dsimp only
    rw [if_neg e, h y]
    simp [e]
theorem zero_int1 (w : World) : (zeroValue 3).run Tryd.prog w = .ok (.int .i64 0) w := by kernel_rfl
def wordsS (gm : Nat) (r : Int × List Bs) : Spec ((Bs → Option Value) × Nat) := ⟨fun x => KeysOf x.1 r.2 ∧ x.2 ≤ 60, fun _ => .int .i64 r.1, fun x => [mapO strK gm x.1 x.2]⟩
set_option maxHeartbeats 4000000 in
theorem words_calls (vw vr : Value) (l : List Wd) (gm : Nat) (w0 : World) (hw : SlF wordS (Low w0) w0 vw l) (hl : l.length ≤ 60) (w : World) (B : Base) (ho : Old w0 B) (hm : Mem B [mapO strK gm (fun _ => none) 0] w) :
    Calls Tryd.prog 16 #[.agg #[vw, vr], .map (some gm)] w (MeetsB (wordsS gm (wordsF l [])) B) := by
  obtain ⟨bw, cw, rfl, -, -, hrd⟩ := hw
  have hnm := fun s w => named_calls s w
  refine enterB hm (args := [.agg #[.slice bw l.length cw, vr], .map (some gm)]) (n := 49) Tryd.func16 rfl rfl rfl ?_
  refine T_seq (T_region (TL_box rfl rfl rfl fun g2 => ?_))
  conv=>arg 8;simp only[zA,zB,zC,zD,zE,zF,zG,zH,zI,rowS,ret,id_eq]
  repeat(first|refine QV QP ?_|refine QZ ?_|refine qcT rfl ?_|refine qcF rfl ?_|refine E_blockX ?_|refine E_blockO rfl ?_|refine qs rfl rfl rfl rfl rfl rfl ?_|((try refine qg rfl rfl rfl ?_);first|refine QV QP ?_|refine QV (rr_load1 (v := .slice bw l.length cw) TyC.ty rfl (at_blk (i := 1) rfl rfl)) ?_|refine QV QL ?_|refine QV QA ?_|refine QV QlT ?_|refine QV QlF ?_|refine QV QnT ?_|refine QV QnF ?_|refine QV QaA ?_|refine QV (rr_not rfl rfl) ?_))
  refine T_pick [0] (by decide) rfl ?_
  generalize hfin : wordsF l [] = fin
  refine T_loop (ι := Nat × List Bs × (Bs → Option Value) × Nat) (fun (k, of, m, n) => k ≤ l.length ∧ n ≤ k ∧ KeysOf m of ∧ wordsF (l.drop k) of = fin) (fun (k, _, _, _) => [(1, .map (some gm)), (11, .slice bw l.length cw), (12, .int .i64 l.length), (13, .int .i64 (k : Int))]) (fun (_, _, m, n) => [mapO strK gm m n]) (fun (k, _) => l.length - k) (0, [], fun _ => none, 0) ⟨Nat.zero_le _, Nat.le_refl _, fun y => rfl, hfin⟩ (by repeat' (first | exact True.intro | refine And.intro rfl ?_)) rfl ?_
  clear hm hfin
  rintro ⟨k, of, m, n⟩ ⟨i1, i2, i3, i4⟩
  dsimp only at i1 i2 i3 i4 ⊢
  by_cases c1 : k < l.length
  · obtain ⟨b, off, rfl, _, hr⟩ := hrd (by omega)
    obtain ⟨bk, ck, q1, q2, q3⟩ := word_at hr c1
    rw [List.drop_eq_getElem_cons c1, wordsF] at i4
    have hat : ∀ (L : List Own) (j : Nat) (u : Value), (wdC l[k].1 l[k].2.kind l[k].2.cls (.slice bk l[k].2.kids.length ck))[j]? = some u → At B L ⟨b, off + k * 7 + j, none⟩ u := fun L j u hj => at_old0 ho (q1 j u hj)
    have hck := fun w' (hg : Gr w0 w') => rexCheck_calls _ _ w' (q2.gr hg)
    clear hr hrd q1 q2
    generalize l[k] = wd at *
    obtain ⟨nm, r⟩ := wd
    dsimp only at *
    generalize chkX r = er at *
    generalize r.kind = rk at *
    generalize r.cls = rc at *
    generalize r.kids.length = rn at *
    repeat(first|refine QV QP ?_|refine QZ ?_|refine qcT rfl ?_|refine qcF rfl ?_|refine E_blockX ?_|refine E_blockO rfl ?_|refine qs rfl rfl rfl rfl rfl rfl ?_|((try refine qg rfl rfl rfl ?_);first|refine QV QP ?_|refine QV (rr_idxc Und.eq TyC.ty rfl rfl c1) ?_|refine QV (rr_loadN (cs := wdC nm rk rc (.slice bk rn ck)) TyC.ty rfl rfl (hat _)) ?_|refine QV QL ?_|refine QV QA ?_|refine QV QlT ?_|refine QV QlF ?_|refine QV QnT ?_|refine QV QnF ?_|refine QV QaA ?_|refine QV (rr_not rfl rfl) ?_))
    clear hat
    refine TL_new rfl fun g6 => ?_
    conv=>arg 8;simp only[zA,zB,zC,zD,zE,zF,zG,zH,zI,rowS,ret,id_eq]
    repeat(first|refine QV QP ?_|refine QZ ?_|refine qcT rfl ?_|refine qcF rfl ?_|refine E_blockX ?_|refine E_blockO rfl ?_|refine qs rfl rfl rfl rfl rfl rfl ?_|((try refine qg rfl rfl rfl ?_);first|refine QV QP ?_|refine QV QL ?_|refine QV QA ?_|refine QV QlT ?_|refine QV QlF ?_|refine QV QnT ?_|refine QV QnF ?_|refine QV QaA ?_|refine QV (rr_not rfl rfl) ?_))
    refine TL_storeB (i := 1) (cs' := (wdC nm rk rc (.slice bk rn ck)).toArray) rfl rfl rfl rfl rfl rfl ?_
    conv=>arg 8;simp only[zA,zB,zC,zD,zE,zF,zG,zH,zI,rowS,ret,id_eq]
    repeat(first|refine QV QP ?_|refine QZ ?_|refine qcT rfl ?_|refine qcF rfl ?_|refine E_blockX ?_|refine E_blockO rfl ?_|refine qs rfl rfl rfl rfl rfl rfl ?_|((try refine qg rfl rfl rfl ?_);first|refine QV QP ?_|refine QV (rr_load1 (v := str nm) TyC.ty rfl (at_blk (i := 1) rfl rfl)) ?_|refine QV QL ?_|refine QV QA ?_|refine QV QlT ?_|refine QV QlF ?_|refine QV QnT ?_|refine QV QnF ?_|refine QV QaA ?_|refine QV (rr_not rfl rfl) ?_))
    by_cases e0 : nm = []
    · subst e0
      rw [if_neg (fun h => h.1 rfl)] at i4
      repeat(first|refine QV QP ?_|refine QZ ?_|refine qcT rfl ?_|refine qcF rfl ?_|refine E_blockX ?_|refine E_blockO rfl ?_|refine qs rfl rfl rfl rfl rfl rfl ?_|((try refine qg rfl rfl rfl ?_);first|refine QV QP ?_|refine QV (rr_strne (b := false) rfl rfl rfl) ?_|refine QV (rr_loadN (cs := rexC rk rc (.slice bk rn ck)) TyC.ty rfl rfl (fun j v hj => at_blk (i := 1) rfl (wd_rex hj))) ?_|refine QV QL ?_|refine QV QA ?_|refine QV QlT ?_|refine QV QlF ?_|refine QV QnT ?_|refine QV QnF ?_|refine QV QaA ?_|refine QV (rr_not rfl rfl) ?_))
      refine TL_call (he1 EntersC.en rfl rfl) (fun w hm => hck _ (ho.mem hm)) rfl rfl rfl ?_
      intro _ _
      conv=>arg 8;simp only[zA,zB,zC,zD,zE,zF,zG,zH,zI,rowS,ret,id_eq]
      by_cases e1 : er = 0
      · subst e1
        rw [if_neg (by simp)] at i4
        repeat(first|refine QV QP ?_|refine QZ ?_|refine qcT rfl ?_|refine qcF rfl ?_|refine E_blockX ?_|refine E_blockO rfl ?_|refine qs rfl rfl rfl rfl rfl rfl ?_|((try refine qg rfl rfl rfl ?_);first|refine QV QP ?_|refine QV (rr_load1 (v := str []) TyC.ty rfl (at_blk (i := 1) rfl rfl)) ?_|refine QV QL ?_|refine QV QA ?_|refine QV QlT ?_|refine QV QlF ?_|refine QV QnT ?_|refine QV QnF ?_|refine QV QaA ?_|refine QV (rr_not rfl rfl) ?_))
        cases hmn : m [] with
        | some v =>
          have hin := keys_some i3 hmn
          rw [if_pos hin] at i4
          repeat(first|refine QV QP ?_|refine QZ ?_|refine qcT rfl ?_|refine qcF rfl ?_|refine E_blockX ?_|refine E_blockO rfl ?_|refine qs rfl rfl rfl rfl rfl rfl ?_|((try refine qg rfl rfl rfl ?_);first|refine QV QP ?_|refine QV (rr_load1 (v := str []) TyC.ty rfl (at_blk (i := 1) rfl rfl)) ?_|refine QV (rr_lookOkS strK (x := ([] : Bs)) Und.eq zero_int1 (i := 0) rfl rfl rfl q3 hmn) ?_|refine QV QL ?_|refine QV QA ?_|refine QV QlT ?_|refine QV QlF ?_|refine QV QnT ?_|refine QV QnF ?_|refine QV QaA ?_|refine QV (rr_not rfl rfl) ?_))
          subst i4
          exact E_ret1 rfl rfl fun w hm => hm.meetsB (S := wordsS gm _) (m, n) ⟨i3, by show n ≤ 60; omega⟩ [0] (by decide) rfl
        | none =>
          have hin := keys_none i3 hmn
          rw [if_neg hin, if_pos rfl] at i4
          repeat(first|refine QV QP ?_|refine QZ ?_|refine qcT rfl ?_|refine qcF rfl ?_|refine E_blockX ?_|refine E_blockO rfl ?_|refine qs rfl rfl rfl rfl rfl rfl ?_|((try refine qg rfl rfl rfl ?_);first|refine QV QP ?_|refine QV (rr_load1 (v := str []) TyC.ty rfl (at_blk (i := 1) rfl rfl)) ?_|refine QV (rr_lookOkN strK (x := ([] : Bs)) Und.eq zero_int1 (i := 0) rfl rfl rfl q3 hmn) ?_|refine QV (rr_strne (b := false) rfl rfl rfl) ?_|refine QV QL ?_|refine QV QA ?_|refine QV QlT ?_|refine QV QlF ?_|refine QV QnT ?_|refine QV QnF ?_|refine QV QaA ?_|refine QV (rr_not rfl rfl) ?_))
          refine E_pick [0] (by decide) rfl ?_
          exact E_round (k + 1, of, m, n) ⟨by omega, by show n ≤ k + 1; omega, i3, i4⟩ (by show l.length - (k + 1) < l.length - k; omega) (by repeat' (first | exact True.intro | refine And.intro rfl ?_)) rfl
      · rw [if_pos e1] at i4
        repeat(first|refine QV QP ?_|refine QZ ?_|refine qcT rfl ?_|refine qcF rfl ?_|refine E_blockX ?_|refine E_blockO rfl ?_|refine qs rfl rfl rfl rfl rfl rfl ?_|((try refine qg rfl rfl rfl ?_);first|refine QV QP ?_|refine QV (rr_neq (b := true) rfl rfl (decide_eq_true e1)) ?_|refine QV QL ?_|refine QV QA ?_|refine QV QlT ?_|refine QV QlF ?_|refine QV QnT ?_|refine QV QnF ?_|refine QV QaA ?_|refine QV (rr_not rfl rfl) ?_))
        subst i4
        exact E_ret1 rfl rfl fun w hm => hm.meetsB (S := wordsS gm _) (m, n) ⟨i3, by show n ≤ 60; omega⟩ [0] (by decide) rfl
    · repeat(first|refine QV QP ?_|refine QZ ?_|refine qcT rfl ?_|refine qcF rfl ?_|refine E_blockX ?_|refine E_blockO rfl ?_|refine qs rfl rfl rfl rfl rfl rfl ?_|((try refine qg rfl rfl rfl ?_);first|refine QV QP ?_|refine QV (rr_strne (b := true) rfl rfl (decide_eq_true e0)) ?_|refine QV (rr_load1 (v := str nm) TyC.ty rfl (at_blk (i := 1) rfl rfl)) ?_|refine QV QL ?_|refine QV QA ?_|refine QV QlT ?_|refine QV QlF ?_|refine QV QnT ?_|refine QV QnF ?_|refine QV QaA ?_|refine QV (rr_not rfl rfl) ?_))
      refine TL_gcall (he1 EntersC.en rfl rfl) (fun w hm => hnm nm w) rfl rfl rfl rfl rfl ?_
      intro _ _
      conv=>arg 8;simp only[zA,zB,zC,zD,zE,zF,zG,zH,zI,rowS,ret,id_eq]
      cases hb : namedB nm with
      | false =>
        rw [if_pos ⟨e0, hb⟩] at i4
        repeat(first|refine QV QP ?_|refine QZ ?_|refine qcT rfl ?_|refine qcF rfl ?_|refine E_blockX ?_|refine E_blockO rfl ?_|refine qs rfl rfl rfl rfl rfl rfl ?_|((try refine qg rfl rfl rfl ?_);first|refine QV QP ?_|refine QV (rr_not rfl rfl) ?_|refine QV QL ?_|refine QV QA ?_|refine QV QlT ?_|refine QV QlF ?_|refine QV QnT ?_|refine QV QnF ?_|refine QV QaA ?_))
        subst i4
        exact E_ret1 rfl rfl fun w hm => hm.meetsB (S := wordsS gm _) (m, n) ⟨i3, by show n ≤ 60; omega⟩ [0] (by decide) rfl
      | true =>
        rw [if_neg (fun h => by rw [hb] at h; cases h.2)] at i4
        repeat(first|refine QV QP ?_|refine QZ ?_|refine qcT rfl ?_|refine qcF rfl ?_|refine E_blockX ?_|refine E_blockO rfl ?_|refine qs rfl rfl rfl rfl rfl rfl ?_|((try refine qg rfl rfl rfl ?_);first|refine QV QP ?_|refine QV (rr_not rfl rfl) ?_|refine QV (rr_loadN (cs := rexC rk rc (.slice bk rn ck)) TyC.ty rfl rfl (fun j v hj => at_blk (i := 1) rfl (wd_rex hj))) ?_|refine QV QL ?_|refine QV QA ?_|refine QV QlT ?_|refine QV QlF ?_|refine QV QnT ?_|refine QV QnF ?_|refine QV QaA ?_))
        refine TL_call (he1 EntersC.en rfl rfl) (fun w hm => hck _ (ho.mem hm)) rfl rfl rfl ?_
        intro _ _
        conv=>arg 8;simp only[zA,zB,zC,zD,zE,zF,zG,zH,zI,rowS,ret,id_eq]
        by_cases e1 : er = 0
        · subst e1
          rw [if_neg (by simp)] at i4
          repeat(first|refine QV QP ?_|refine QZ ?_|refine qcT rfl ?_|refine qcF rfl ?_|refine E_blockX ?_|refine E_blockO rfl ?_|refine qs rfl rfl rfl rfl rfl rfl ?_|((try refine qg rfl rfl rfl ?_);first|refine QV QP ?_|refine QV (rr_load1 (v := str nm) TyC.ty rfl (at_blk (i := 1) rfl rfl)) ?_|refine QV QL ?_|refine QV QA ?_|refine QV QlT ?_|refine QV QlF ?_|refine QV QnT ?_|refine QV QnF ?_|refine QV QaA ?_|refine QV (rr_not rfl rfl) ?_))
          cases hmn : m nm with
          | some v =>
            have hin := keys_some i3 hmn
            rw [if_pos hin] at i4
            repeat(first|refine QV QP ?_|refine QZ ?_|refine qcT rfl ?_|refine qcF rfl ?_|refine E_blockX ?_|refine E_blockO rfl ?_|refine qs rfl rfl rfl rfl rfl rfl ?_|((try refine qg rfl rfl rfl ?_);first|refine QV QP ?_|refine QV (rr_load1 (v := str nm) TyC.ty rfl (at_blk (i := 1) rfl rfl)) ?_|refine QV (rr_lookOkS strK (x := nm) Und.eq zero_int1 (i := 0) rfl rfl rfl q3 hmn) ?_|refine QV QL ?_|refine QV QA ?_|refine QV QlT ?_|refine QV QlF ?_|refine QV QnT ?_|refine QV QnF ?_|refine QV QaA ?_|refine QV (rr_not rfl rfl) ?_))
            subst i4
            exact E_ret1 rfl rfl fun w hm => hm.meetsB (S := wordsS gm _) (m, n) ⟨i3, by show n ≤ 60; omega⟩ [0] (by decide) rfl
          | none =>
            have hin := keys_none i3 hmn
            rw [if_neg hin, if_neg e0] at i4
            repeat(first|refine QV QP ?_|refine QZ ?_|refine qcT rfl ?_|refine qcF rfl ?_|refine E_blockX ?_|refine E_blockO rfl ?_|refine qs rfl rfl rfl rfl rfl rfl ?_|((try refine qg rfl rfl rfl ?_);first|refine QV QP ?_|refine QV (rr_load1 (v := str nm) TyC.ty rfl (at_blk (i := 1) rfl rfl)) ?_|refine QV (rr_lookOkN strK (x := nm) Und.eq zero_int1 (i := 0) rfl rfl rfl q3 hmn) ?_|refine QV (rr_strne (b := true) rfl rfl (decide_eq_true e0)) ?_|refine QV QL ?_|refine QV QA ?_|refine QV QlT ?_|refine QV QlF ?_|refine QV QnT ?_|refine QV QnF ?_|refine QV QaA ?_|refine QV (rr_not rfl rfl) ?_))
            refine TL_mapSet (i := 0) (x := nm) (v := .int .i64 (k : Int)) strK Und.eq rfl rfl rfl rfl q3 (by omega) ?_
            conv=>arg 8;simp only[zA,zB,zC,zD,zE,zF,zG,zH,zI,rowS,ret,id_eq]
            repeat(first|refine QV QP ?_|refine QZ ?_|refine qcT rfl ?_|refine qcF rfl ?_|refine E_blockX ?_|refine E_blockO rfl ?_|refine qs rfl rfl rfl rfl rfl rfl ?_|((try refine qg rfl rfl rfl ?_);first|refine QV QP ?_|refine QV QL ?_|refine QV QA ?_|refine QV QlT ?_|refine QV QlF ?_|refine QV QnT ?_|refine QV QnF ?_|refine QV QaA ?_|refine QV (rr_not rfl rfl) ?_))
            refine E_pick [0] (by decide) rfl ?_
            exact E_round (k + 1, of ++ [nm], _, _) ⟨by omega, by rw [hmn]; show n + 1 ≤ k + 1; omega, keys_put i3, i4⟩ (by show l.length - (k + 1) < l.length - k; omega) (by repeat' (first | exact True.intro | refine And.intro rfl ?_)) rfl
        · rw [if_pos e1] at i4
          repeat(first|refine QV QP ?_|refine QZ ?_|refine qcT rfl ?_|refine qcF rfl ?_|refine E_blockX ?_|refine E_blockO rfl ?_|refine qs rfl rfl rfl rfl rfl rfl ?_|((try refine qg rfl rfl rfl ?_);first|refine QV QP ?_|refine QV (rr_neq (b := true) rfl rfl (decide_eq_true e1)) ?_|refine QV QL ?_|refine QV QA ?_|refine QV QlT ?_|refine QV QlF ?_|refine QV QnT ?_|refine QV QnF ?_|refine QV QaA ?_|refine QV (rr_not rfl rfl) ?_))
          subst i4
          exact E_ret1 rfl rfl fun w hm => hm.meetsB (S := wordsS gm _) (m, n) ⟨i3, by show n ≤ 60; omega⟩ [0] (by decide) rfl
  · obtain rfl : k = l.length := by omega
    rw [List.drop_length] at i4
    repeat(first|refine QV QP ?_|refine QZ ?_|refine qcT rfl ?_|refine qcF rfl ?_|refine E_blockX ?_|refine E_blockO rfl ?_|refine qs rfl rfl rfl rfl rfl rfl ?_|((try refine qg rfl rfl rfl ?_);first|refine QV QP ?_|refine QV QL ?_|refine QV QA ?_|refine QV QlT ?_|refine QV QlF ?_|refine QV QnT ?_|refine QV QnF ?_|refine QV QaA ?_|refine QV (rr_not rfl rfl) ?_))
    subst i4
    exact E_ret1 rfl rfl fun w hm => hm.meetsB (S := wordsS gm _) (m, n) ⟨i3, by show n ≤ 60; omega⟩ [0] (by decide) rfl
end Go.Proofs.YtakiohldgcifeaaDoor.eng


/- SpecB -/
namespace Go.Proofs.YtakiohldgcifeaaDoor.eng
open Go.RowKit kit mix classL rexL specL
/-- some number lies where the library keeps its MaxLen -/
def MaxL (w : World) : Prop := ∃ m, w.cell? ⟨0, 0, none⟩ = some (.int .i64 m)
theorem MaxL.gr {w w' : World} (h : MaxL w) (hg : Gr w w') : MaxL w' := by
  obtain ⟨m, hm⟩ := h
  exact ⟨m, by rw [hg.cell (World.block_lt_of_cell? w _ hm)]; exact hm⟩
theorem maxL_of {w : World} (h : w.ShapedOpen Tryd.prog) : MaxL w := laysM145.s1_3 w h
theorem pre_calls (p s : Bs) (w : World) : Calls Tryd.prog 33 #[str s, str p] w (Meets (ret (.tuple #[str (preF p s).1, .bool (preF p s).2])) w) :=
  (strings_CutPrefix ⟨s.toArray⟩ ⟨p.toArray⟩ w).mono fun e w' ⟨he, hw⟩ => by
    subst hw
    refine meets_ret ?_ (Gr.refl _)
    rw [he, pre_lib]; rfl
theorem drewN_gr (w : World) (n : Nat) : Gr w (w.drewN n) := ⟨rfl, rfl, rfl, Nat.le_refl _, fun _ _ => rfl⟩
theorem cutE_calls (s : Bs) (w : World) (hs : s.length ≤ 1000000) (hM : MaxL w) : Calls Tryd.prog 18 #[str s, str [32, 61]] w (Meets (ret (.tuple #[str (cutE s).1, str (cutE s).2.1, .bool (cutE s).2.2])) w) := by
  obtain ⟨m, hm⟩ := hM
  refine (Any.strings_Cut { laysM145 with } ⟨s.toArray⟩ ⟨#[32, 61]⟩ m w (by show s.toArray.size < _; rw [List.size_toArray]; omega) hm).mono fun e w' ⟨he, n, hw⟩ => ?_
  subst hw
  exact meets_ret he (drewN_gr w n)
def splS (l : List Bs) : Spec Nat := ⟨fun _ => True, fun g => .slice (some ⟨g, 0, none⟩) l.length l.length, fun g => [rowO 9 1 (.slice (some ⟨g, 0, none⟩) l.length l.length) l.length (l.flatMap bsC)]⟩
theorem flat_bsC (l : List Bs) : l.flatMap bsC = l.map str := by
  induction l with
  | nil => rfl
  | cons a l ih => rw [List.flatMap_cons, ih]; rfl
theorem split_calls (s : Bs) (w : World) (hs : s.length ≤ 1000000) (hM : MaxL w) : Calls Tryd.prog 35 #[str s, str [32]] w (Meets (splS (splitF s)) w) := by
  obtain ⟨m, hm⟩ := hM
  obtain ⟨h1, h2⟩ := split_lib s.length s (Nat.le_refl _)
  have hlen : (splitF s).length ≤ 1000001 := by
    rw [← h2]
    have := Lib.count_le s [32]
    have h3 : Lib.countB ⟨s.toArray⟩ ⟨#[32]⟩ ≤ s.toArray.size := Lib.countB_le ⟨#[32]⟩ (by decide) _ _ (Nat.le_refl _)
    rw [List.size_toArray] at h3
    show Lib.countB ⟨s.toArray⟩ ⟨#[32]⟩ + 1 ≤ _
    omega
  refine (strings_Split ⟨s.toArray⟩ ⟨#[32]⟩ m w (by show s.toArray.size < _; rw [List.size_toArray]; omega) hm (by decide)).mono fun e w' ⟨he, hw⟩ => ?_
  have hc : (Lib.splitB ⟨#[32]⟩ 0 (Lib.countB ⟨s.toArray⟩ ⟨#[32]⟩) ⟨s.toArray⟩).map Value.string = (splitF s).flatMap bsC := by
    rw [flat_bsC, ← h1]
    have := Lib.splitB_data ⟨#[32]⟩ 0 (Lib.countB ⟨s.toArray⟩ ⟨#[32]⟩) ⟨s.toArray⟩
    rw [show Lib.splitK [32] 0 (Lib.count s [32]) s = (Lib.splitB ⟨#[32]⟩ 0 (Lib.countB ⟨s.toArray⟩ ⟨#[32]⟩) ⟨s.toArray⟩).map (·.data.toList) from this.symm, List.map_map]
    exact List.map_congr_left fun b _ => rfl
  have hn : Lib.countB ⟨s.toArray⟩ ⟨#[32]⟩ + 1 = (splitF s).length := h2
  rw [hc] at hw
  rw [hn] at he
  subst hw
  have hb : (w.alloc (.cells ((splitF s).flatMap bsC).toArray 9)).heap[w.heap.size]? = some (.cells ((splitF s).flatMap bsC).toArray 9 (0, 0)) := blk_new _ _ _ rfl
  refine ⟨w.heap.size, trivial, he, gr_alloc _ _, OwnsP.one ⟨?_, .inr ⟨w.heap.size, _, _, rfl, Nat.zero_le _, hb, Nat.le_refl _, ?_, ?_, ?_⟩⟩ fun k hk => ?_⟩
  · rw [len_el bsC_len]
  · unfold maxLen; omega
  · rw [List.size_toArray, len_el bsC_len]
  · exact List.take_of_length_le (by rw [len_el bsC_len]; exact Nat.le_refl _)
  · rcases hk with hk | hk
    · simp only [rowO, Value.ownBlock, Option.some.injEq] at hk
      rw [← hk]; exact Nat.le_refl _
    · exact hk.elim
/-! ### the builder -/
section
variable {n : Nat} {W : Base} {fr : Fr} {L : List Own} {dst : Option Tmp} {ty : TypeId} {pos : String} {after : Array Edge} {guard : Option (Nat × Bool)} {x y : Operand}
theorem info_bld : ∃ j, Tryd.prog.info? 50 = some j ∧ j.size ≠ 0 := by
  obtain ⟨j, hj, hs⟩ := Option.map_eq_some_iff.1 (show (Tryd.prog.info? 50).map (·.size) = some 2 from by kernel_rfl)
  exact ⟨j, hj, by rw [hs]; decide⟩
theorem rr_ptrnil {u : TypeId} {p : Option Addr} {b : Bool} (hx : ev fr x = some (.pointer p)) (hy : ev fr y = some (.pointer none)) (hb : p.isNone = b) : RR Tryd.prog n W ⟨dst, .binOp .eql 47 x y u, ty, pos, after, guard⟩ fr L (.bool b) := .mk fun ac w hr _ => by
  subst hb
  have e1 : (eqGuard .eql 47 x y (.pointer p) (.pointer none)).run Tryd.prog w = .ok () w := rfl
  have e2 : (binOp .eql 47 (.pointer p) (.pointer none)).run Tryd.prog w = .ok (.bool p.isNone) w := by
    have h : ∀ d : Nat, (Op.equalIn (d + 1) 47 (.pointer p) (.pointer none)).run Tryd.prog w = .ok p.isNone w := fun d => by
      cases p with
      | none => simp [Op.equalIn, run_underlying Tryd.underlying47]
      | some a => simp [Op.equalIn, run_underlying Tryd.underlying47]
    simp only [binOp]
    simp [Op.equal, Op.maxDepth, h 9999]
  simp [execOp, hr.ev hx, hr.ev hy, e1, e2]
theorem rr_ptrself {u : TypeId} {a : Addr} (hx : ev fr x = some (.pointer (some a))) (hy : ev fr y = some (.pointer (some a))) : RR Tryd.prog n W ⟨dst, .binOp .neq 47 x y u, ty, pos, after, guard⟩ fr L (.bool false) := .mk fun ac w hr _ => by
  obtain ⟨j, hj, -⟩ := info_bld
  have e1 : (eqGuard .neq 47 x y (.pointer (some a)) (.pointer (some a))).run Tryd.prog w = .ok () w := rfl
  simp [execOp, hr.ev hx, hr.ev hy, e1, Lib.run_neq_ptr_same w a Tryd.underlying47 hj]
theorem rr_tounsafe {b i : Nat} {cs : Array Value} (hi : L[i]? = some (blkO b cs 50)) (hc : cs.size = 2) (hx : ev fr x = some (.pointer (some ⟨b, 0, none⟩))) : RR Tryd.prog n W ⟨dst, .convert 47 89 x, ty, pos, after, guard⟩ fr L (.pointer (some ⟨b, 0, none⟩)) := .mk fun ac w hr hm => by
  obtain ⟨j, hj, hz⟩ := info_bld
  have hb : w.heap[b]? = some (.cells cs 50 (0, 0)) := hm.get hi
  have hsh : w.shape? b = some (50, 2) := by simp [World.shape?, hb, hc]
  simp [execOp, hr.ev hx, Lib.run_to_unsafe w ⟨b, 0, none⟩ Tryd.underlying47 Tryd.underlying89 hj hz hsh (Nat.zero_lt_succ 1)]
theorem rr_fromunsafe {b i : Nat} {cs : Array Value} (hi : L[i]? = some (blkO b cs 50)) (hc : cs.size = 2) (hx : ev fr x = some (.pointer (some ⟨b, 0, none⟩))) : RR Tryd.prog n W ⟨dst, .convert 89 47 x, ty, pos, after, guard⟩ fr L (.pointer (some ⟨b, 0, none⟩)) := .mk fun ac w hr hm => by
  obtain ⟨j, hj, hz⟩ := info_bld
  have hb : w.heap[b]? = some (.cells cs 50 (0, 0)) := hm.get hi
  have hsh : w.shape? b = some (50, 2) := by simp [World.shape?, hb, hc]
  simp [execOp, hr.ev hx, Lib.run_from_unsafe w ⟨b, 0, none⟩ Tryd.underlying89 Tryd.underlying47 hj hsh (by kernel_rfl)]
theorem rr_noesc {v : Value} {cl : Operand} {ts : Array TypeId} (hc : ev fr cl = some (.func (.func 38) #[] #[])) (hx : ev fr x = some v) : RR Tryd.prog n W ⟨dst, .call { callee := .value cl, args := #[x], argTypes := ts }, ty, pos, after, guard⟩ fr L v := .mk fun ac w hr hm => by
  have h := run_callFunc_extern Tryd.func38 (by kernel_rfl) (by kernel_rfl) (by kernel_rfl) (e := Extern.AbiNoEscape.same) (by kernel_rfl) #[v] w
  rw [Lib.run_noEscape] at h
  simp [execOp, resolve, hr.ev hc, hr.ev hx, Deferred.ofValue, invoke, h]
end
theorem bldCopy_calls (b : Nat) (p v : Value) (hp : p = .pointer none ∨ p = .pointer (some ⟨b, 0, none⟩)) (w : World) (B : Base) (hm : Mem B [blkO b #[p, v] 50] w) :
    Calls Tryd.prog 30 #[.pointer (some ⟨b, 0, none⟩)] w (MeetsB ⟨fun (_ : Unit) => True, fun _ => .tuple #[], fun _ => [blkO b #[.pointer (some ⟨b, 0, none⟩), v] 50]⟩ B) := by
  refine enterB hm (args := [.pointer (some ⟨b, 0, none⟩)]) (n := 20) Tryd.func30 rfl rfl rfl ?_
  rcases hp with rfl | rfl
  · repeat(first|refine QV QP ?_|refine QZ ?_|refine qcT rfl ?_|refine qcF rfl ?_|refine QV (rr_nilc rfl) ?_|refine QV (rr_load1 (v := .pointer none) TyC.ty rfl (at_blk (i := 0) rfl rfl)) ?_|refine QV (rr_ptrnil (b := true) rfl rfl rfl) ?_|refine QV (rr_tounsafe (i := 0) rfl rfl rfl) ?_|refine QV (rr_noesc rfl rfl) ?_|refine QV (rr_fromunsafe (i := 0) rfl rfl rfl) ?_|refine QV QA ?_|refine QV (rr_nilc rfl) ?_)
    refine TL_store1 (i := 0) rfl rfl rfl rfl rfl rfl ?_
    conv=>arg 8;simp only[zA,zB,zC,zD,zE,zF,zG,zH,zI,rowS,ret,id_eq]
    repeat(first|refine QV QP ?_|refine QZ ?_|refine qcT rfl ?_|refine qcF rfl ?_|refine QV QA ?_|refine QV (rr_nilc rfl) ?_)
    exact E_end0 rfl fun w hm => hm.meetsB (S := ⟨fun (_ : Unit) => True, fun _ => .tuple #[], fun _ => [blkO b #[.pointer (some ⟨b, 0, none⟩), v] 50]⟩) () trivial [0] (by decide) rfl
  · repeat(first|refine QV QP ?_|refine QZ ?_|refine qcT rfl ?_|refine qcF rfl ?_|refine QV (rr_nilc rfl) ?_|refine QV (rr_load1 (v := .pointer (some ⟨b, 0, none⟩)) TyC.ty rfl (at_blk (i := 0) rfl rfl)) ?_|refine QV (rr_ptrnil (b := false) rfl rfl rfl) ?_|refine QV (rr_ptrself rfl rfl) ?_|refine QV QA ?_|refine QV (rr_nilc rfl) ?_)
    exact E_end0 rfl fun w hm => hm.meetsB (S := ⟨fun (_ : Unit) => True, fun _ => .tuple #[], fun _ => [blkO b #[.pointer (some ⟨b, 0, none⟩), v] 50]⟩) () trivial [0] (by decide) rfl
/-- what a builder holds -/
def bldL (b : Nat) (p v : Value) (l : Bs) : List Own := [blkO b #[p, v] 50, rowO 5 1 v l.length (l.map u8v)]
def bldS (b : Nat) (s l : Bs) : Spec Value := ⟨fun _ => True, fun _ => .tuple #[.int .i64 (s.length : Int), .nilIface], fun v => bldL b (.pointer (some ⟨b, 0, none⟩)) v (l ++ s)⟩
theorem bldWrite_calls (b : Nat) (p v : Value) (l s : Bs) (hp : p = .pointer none ∨ p = .pointer (some ⟨b, 0, none⟩)) (hl : l.length + s.length ≤ 140737488355328) (w : World) (B : Base) (hm : Mem B (bldL b p v l) w) :
    Calls Tryd.prog 13 #[.pointer (some ⟨b, 0, none⟩), str s] w (MeetsB (bldS b s l) B) := by
  unfold bldL at hm
  refine enterB hm (args := [.pointer (some ⟨b, 0, none⟩), str s]) (n := 19) Tryd.func13 rfl rfl rfl ?_
  repeat(first|refine QV QP ?_|refine QZ ?_|refine QV QS ?_|refine QV QA ?_|refine QV (rr_nilc rfl) ?_)
  refine TL_callB [0] [1] (by decide) rfl rfl (he1 EntersC.en rfl rfl) (fun w hm hb => bldCopy_calls b p v hp w _ hb) rfl rfl rfl ?_
  intro _ _
  conv=>arg 8;simp only[zA,zB,zC,zD,zE,zF,zG,zH,zI,rowS,ret,id_eq]
  repeat(first|refine QV QP ?_|refine QZ ?_|refine QV (rr_nilc rfl) ?_|refine QV (rr_load1 (v := v) TyC.ty rfl (at_blk (i := 1) rfl rfl)) ?_|refine QV QS ?_|refine QV QA ?_|refine QV (rr_nilc rfl) ?_)
  refine TL_appstr (i := 0) rfl rfl rfl hl rfl fun v' => ?_
  conv=>arg 8;simp only[zA,zB,zC,zD,zE,zF,zG,zH,zI,rowS,ret,id_eq]
  repeat(first|refine QV QP ?_|refine QZ ?_|refine QV (rr_nilc rfl) ?_|refine QV QS ?_|refine QV QA ?_|refine QV (rr_nilc rfl) ?_)
  refine TL_slv (i := 0) rfl fun h1 h2 => TL_store1 (i := 1) rfl rfl rfl h1 h2 rfl ?_
  conv=>arg 8;simp only[zA,zB,zC,zD,zE,zF,zG,zH,zI,rowS,ret,id_eq]
  repeat(first|refine QV QP ?_|refine QZ ?_|refine QV QS ?_|refine QV QS ?_|refine QV QA ?_|refine QV (rr_nilc rfl) ?_)
  exact E_ret2 rfl rfl rfl fun w hm => hm.meetsB (S := bldS b s l) v' trivial [1, 0] (by decide) (by unfold bldS bldL; rw [List.length_append, List.map_append]; rfl)
theorem bldString_calls (b : Nat) (p v : Value) (l : Bs) (hp : p = .pointer none ∨ p = .pointer (some ⟨b, 0, none⟩)) (w0 w : World) (hm : Mem (w0 : Base) (bldL b p v l) w) :
    Calls Tryd.prog 14 #[.pointer (some ⟨b, 0, none⟩)] w fun e w' => e = .returned (str l) ∧ Mem (w0 : Base) [] w' := by
  have hB : w.heap[b]? = some (.cells #[p, v] 50 (0, 0)) := hm.get (i := 0) rfl
  have hR : w.ownsRow 0 5 1 v l.length (l.map u8v) := hm.get (i := 1) rfl
  have h0 : w0.heap.size ≤ b := ((hm.owns.all 0 _ rfl).2 b (.inl rfl)).elim id False.elim
  have hne : v.ownBlock ≠ some b := fun e => hm.owns.apart 0 1 _ _ (by decide) rfl rfl b (.inl rfl) (.inl e)
  have hR' : w.ownsRow w0.heap.size 5 1 v (l.map u8v).length (Lib.byteCells l) := by
    refine ⟨by rw [List.length_map, Lib.byteCells_length, Nat.mul_one], ?_⟩
    rcases hR.2 with ⟨h1, h2⟩ | ⟨g, cap, cs, h1, _, h3, h4, h5, h6, h7⟩
    · exact .inl ⟨h1, by rw [List.length_map]; exact h2⟩
    · refine .inr ⟨g, cap, cs, by rw [List.length_map]; exact h1, ?_, h3, by rw [List.length_map]; exact h4, h5, h6, by rw [List.length_map]; exact h7⟩
      exact ((hm.owns.all 1 _ rfl).2 g (.inl (by rw [h1]; rfl))).elim id False.elim
  have hI : Lib.IsBuilder 50 5 w0.heap.size b (Lib.byteCells l) w := by
    rcases hp with rfl | rfl
    · exact .inl ⟨h0, v, hB, hR', hne⟩
    · exact .inr ⟨h0, v, hB, hR', hne⟩
  have hlow := hm.low
  refine (Builder_String_any w0.heap.size b l w hI hlow.size).mono fun e w' ⟨he, hb⟩ => ⟨he, ⟨hb.os.trans hlow.os, hb.tape.trans hlow.tape, hb.output.trans hlow.output, Nat.le_trans hlow.size hb.size, fun k hk hx => (hb.block k hk).trans (hlow.block k hk hx)⟩, OwnsP.nil _⟩
section
variable {P : Program} {n : Nat} {W : Base} {fr : Fr} {L L' : List Own} {Q : Exit → Act → World → Prop} {ops : Array Oper} {rest : List Oper} {d : Nat} {o : Oper}
/-- a call after which L' is left -/
theorem TL_callTo {f : FuncId} {args : Array Value} {v : Value} (he : ∀ a w, Rep n a fr → (execOp a.eval o).run P w = .ok (.enter f args) w) (hc : ∀ w, Mem W L w → Calls P f args w fun e w' => e = .returned v ∧ Mem W L' w') (hg : o.guard = none) (hd : o.dst = some d) (hn : Nat.blt d n = true)
    (h : TL P n W ops Q rest ((d, v) :: fr) L') : TL P n W ops Q (o :: rest) fr L := .mk fun a w hrep hm =>
  wpList_plain hg fun K hK => by
    unfold Oper.wp; rw [he a w hrep, Oper.upon_enter]
    refine (hc w hm).mono fun e w' ⟨h2, h3⟩ => ?_
    subst h2
    simp only [hd]
    exact hK _ _ (h.go _ w' (hrep.put hn _) h3)
end
end Go.Proofs.YtakiohldgcifeaaDoor.eng


/- LawV -/
namespace Go.Proofs.YtakiohldgcifeaaDoor.law
open Go.ChangeShapes Go.WideShapes Go.ChangeAt Go.RowKit
def tabs : List (String × DataW Unit) := [("math/bits.deBruijn64tab", Rows.laid_math_bits_deBruijn64tab), ("unicode/utf8.acceptRanges", Rows.laid_unicode_utf8_acceptRanges), ("unicode/utf8.first", Rows.laid_unicode_utf8_first)]
def zs : List Int := Lib.deBruijn64tab.map fun (n : Nat) => (n : Int)
theorem tab_of {W : World} (h : laidMetH Tryd.prog tabs W) : eng.TabW W := by
  rw [MakeChecks.laidMetH_plain _ _ _ (by kernel_rfl)] at h
  have h' : laidMet Tryd.prog (("math/bits.deBruijn64tab", Lib.tabData .u8 zs) :: [("unicode/utf8.acceptRanges", Rows.laid_unicode_utf8_acceptRanges), ("unicode/utf8.first", Rows.laid_unicode_utf8_first)]) W := h
  have hT := Lib.tabIs_of_head (g := 1) (t := 117) (e := 5) (n := 64) (by kernel_rfl) (by kernel_rfl) Tryd.underlying117 Tryd.underlying5 (by kernel_rfl) (by kernel_rfl) h'
  intro j u hj
  have hjl : j < 64 := by
    have := (List.getElem?_eq_some_iff.1 hj).1
    have e : eng.tabC.length = 64 := by unfold eng.tabC; rw [List.length_map]; decide
    omega
  have hz : zs.length = 64 := by unfold zs; rw [List.length_map]; decide
  have hc := hT.cell (g := 1) (by kernel_rfl) j (by omega)
  rw [Nat.zero_add]
  rw [hc]
  have : eng.tabC = zs.map fun z => Value.int .u8 z := by unfold eng.tabC zs; rw [List.map_map]; rfl
  rw [this, List.getElem?_map, List.getElem?_eq_getElem (by omega : j < zs.length)] at hj
  simp only [Option.map_some, Option.some.injEq] at hj
  rw [← hj, List.getD_eq_getElem?_getD, List.getElem?_eq_getElem (by omega : j < zs.length)]
  rfl
theorem laid_fits (os : Os) : (World.holding Tryd.prog os ⟨#[], #[], []⟩).layFits Tryd.prog tabs [] = true := by kernel_rfl
theorem laid_ifaces (os : Os) : (World.holding Tryd.prog os ⟨#[], #[], []⟩).layIfaces Tryd.prog tabs (World.laidAll Tryd.prog os tabs) = true := by kernel_rfl
theorem laid_met (os : Os) (args : Array Value) : laidMetH Tryd.prog tabs ((World.laidAll Tryd.prog os tabs).forCall (fun _ _ => 0) ⟨#[], args, []⟩).memory := by
  rw [MakeChecks.laidMetH_plain _ _ _ (by kernel_rfl)]
  exact laidMet_laidAll args (laid_fits os) (laid_ifaces os)
end Go.Proofs.YtakiohldgcifeaaDoor.law


/- LawW -/
namespace Go.Proofs.YtakiohldgcifeaaDoor.law
open Go.ChangeShapes Go.WideShapes Go.ChangeAt Go.RowKit
set_option maxRecDepth 100000 in
theorem uptoT {os : Os} {f : FuncId} {fn : Func} {s : ChangeSpec} {F : Stop.Interp} (started : os.Started) (noInit : Tryd.prog.inits.idxOf? f = none) (hf : Tryd.prog.funcs[f]? = some fn) (hs : SaysTrue fn s) (hread : readB fn = true) (hres : fn.resultTypes = #[4])
    {H : Type} {enc : TypeId × Value → H}
    (witness : ∃ (w : World) (tape : Tape) (i : Input), w.os = os ∧ (w.forCall tape i).Shaped Tryd.checked.prog ∧ i.vars = [] ∧ Input.okWide Tryd.checked.prog (w.forCall tape i) .any w.heap.size f i ∧
      (((Rows.OpenSpec.upto s).pre enc Tryd.checked.prog fn [] false (w.forCall tape i).memory i.args ∧ laidMetH Tryd.prog tabs (w.forCall tape i).memory) ∧ sizedMet enc Tryd.checked.prog fn (Rows.OpenSpec.upto s) false (w.forCall tape i).memory i.args) ∧ ({} : Assume).holds Tryd.checked.prog (lone (Frame.enter Tryd.checked.prog f i.args .normal) [] (w.forCall tape i)))
    (walk : ∀ (W : World) (base : Nat) (args : Array Value) (ds : List (DataW H)) (p : List MemPlace), Given enc fn W base args ds p → Rows.uptoSmall H ds = true → eng.TabW W ∧ eng.MaxL W → Calls Tryd.prog f args W fun e W' => e = .returned (.bool true) ∧ Below W.heap.size W W') :
    ReturnsInHanded {} Tryd.checked os f .any (fun w args => ((Rows.OpenSpec.upto s).pre enc Tryd.prog fn [] false w args ∧ laidMetH Tryd.prog tabs w) ∧ sizedMet enc Tryd.prog fn (Rows.OpenSpec.upto s) false w args) (((Rows.OpenSpec.upto s).at F).post enc Tryd.prog fn false true false false) := by
  refine returnsInHanded_of_calls own started noInit witness ?_
  intro w tape i _ hsh _ hok hpre hholds
  obtain ⟨_, _, _, fn', hfn', _, _, _, _, hval⟩ := hok
  have e : fn' = fn := Option.some.inj (hfn'.symm.trans hf)
  subst e
  obtain ⟨⟨hp, hx⟩, hz⟩ := hpre
  obtain ⟨ds, gs, before, hw, hc, hk⟩ := (OpenSpec.pre_some (s := Rows.OpenSpec.upto s) (k := Rows.uptoSmall) rfl [] false _ _).1 hp
  have hW : DataW.Whole enc Tryd.prog fn'.params.toList s.vars false (w.forCall tape i) i.args.toList ds gs before := DataW.Whole.of_heap (w' := w.forCall tape i) (by rfl) hw
  have hL : laidMetH Tryd.prog tabs (w.forCall tape i) := hx.of_heap (by rfl)
  have hsz : (DataW.weightsEach Tryd.prog (fn'.params.toList ++ s.plain.varTypes Tryd.checked.prog) (ds ++ gs)).all (· ≤ reachBytes) = true := hz.weights hw
  have hW' := hW
  obtain ⟨p, q, hA, hV, rfl, hfz, hnd⟩ := hW
  rw [hs.1] at hV
  obtain ⟨rfl, rfl⟩ := trodVars_none hV
  have hsz' : (DataW.weightsEach Tryd.prog fn'.params.toList ds).all (· ≤ reachBytes) = true := by
    have e : s.plain.varTypes Tryd.prog = [] := by simp [ChangeSpec.plain, DataSpec.varTypes, hs.1]
    have := hsz
    rw [show s.plain.varTypes Tryd.checked.prog = [] from e] at this
    rw [List.append_nil, List.append_nil] at this
    exact this
  refine (walk (w.forCall tape i) w.heap.size i.args ds p ⟨hval, hA, hsz', fun b off h => hfz b off (by simp [h])⟩ (by simpa using hk) ⟨tab_of hL, eng.maxL_of hsh⟩).mono fun e W' ⟨he, hb⟩ => ?_
  subst he
  exact ChangeSpec.post_blind (post_of (s := (Rows.OpenSpec.upto s).at F) hs hread hres hW' hb)
theorem uptoT_wit {os : Os} {f : FuncId} {fn : Func} {s : ChangeSpec} {H : Type} {enc : TypeId × Value → H} (args : Array Value) (fuel : Nat)
    (hv : ((World.laidAll Tryd.prog os tabs).forCall (fun _ _ => 0) ⟨#[], args, []⟩).variablesB Tryd.checked.prog = true)
    (hr : (((World.laidAll Tryd.prog os tabs).forCall (fun _ _ => 0) ⟨#[], args, []⟩).heap.toList.drop Tryd.checked.prog.globals.size).take ((begin Tryd.checked.prog (fun _ _ => 0) default).world.heap.size - Tryd.checked.prog.globals.size) = (begin Tryd.checked.prog (fun _ _ => 0) default).world.heap.toList.drop Tryd.checked.prog.globals.size)
    (hok : Input.okWideB Tryd.checked.prog ((World.laidAll Tryd.prog os tabs).forCall (fun _ _ => 0) ⟨#[], args, []⟩) f ⟨#[], args, []⟩ = true)
    {x : List (DataW H) × List (DataW H) × List MemPlace} (hx : DataW.whole enc Tryd.checked.prog ((World.laidAll Tryd.prog os tabs).forCall (fun _ _ => 0) ⟨#[], args, []⟩).memory fn.params.toList (Rows.OpenSpec.upto s).vars false args.toList fuel = some x)
    (hkk : Rows.uptoSmall H (x.1 ++ x.2.1) = true)
    (hsz : (Rows.OpenSpec.upto s).bare.sizedB enc Tryd.checked.prog fn false ((World.laidAll Tryd.prog os tabs).forCall (fun _ _ => 0) ⟨#[], args, []⟩).memory args fuel = true) :
    ∃ (w : World) (tape : Tape) (i : Input), w.os = os ∧ (w.forCall tape i).Shaped Tryd.checked.prog ∧ i.vars = [] ∧ Input.okWide Tryd.checked.prog (w.forCall tape i) .any w.heap.size f i ∧
      (((Rows.OpenSpec.upto s).pre enc Tryd.checked.prog fn [] false (w.forCall tape i).memory i.args ∧ laidMetH Tryd.prog tabs (w.forCall tape i).memory) ∧ sizedMet enc Tryd.checked.prog fn (Rows.OpenSpec.upto s) false (w.forCall tape i).memory i.args) ∧ ({} : Assume).holds Tryd.checked.prog (lone (Frame.enter Tryd.checked.prog f i.args .normal) [] (w.forCall tape i)) :=
  ⟨World.laidAll Tryd.prog os tabs, fun _ _ => 0, ⟨#[], args, []⟩, World.laidAll_os _ _ _, World.shaped_of_B hv hr, (Input.okWide_of_okWideB (base := 0) hok).1, (Input.okWide_of_okWideB hok).2,
    ⟨⟨(OpenSpec.pre_some (s := Rows.OpenSpec.upto s) (k := Rows.uptoSmall) rfl [] false _ _).2 ⟨x.1, x.2.1, x.2.2, DataW.Whole_of_whole hx, rfl, hkk⟩, laid_met os args⟩, sizedMet_of_sizedB hsz⟩, by
    simp only [Assume.holds]
    exact ⟨by simp, by simp, fun _ => Modest.zero, by simp, by simp⟩⟩
end Go.Proofs.YtakiohldgcifeaaDoor.law


/- ClassO1 -/
namespace Go.Proofs.YtakiohldgcifeaaDoor.eng
open Go.RowKit kit mix classL
theorem v64_ofN {n : Int} (h0 : 0 ≤ n) (h1 : n ≤ 18446744073709551615) : v64 (BitVec.ofNat 64 n.toNat) = .int .u64 n := by
  simp only [v64, n64, BitVec.toNat_ofNat]
  congr 1
  omega
set_option maxRecDepth 100000 in
theorem opens_cls {H : Type} {enc0 : TypeId × Value → H} {W : World} : Opens enc0 Tryd.prog W 36 (fun cs x => cs = clsL x ∧ True) := fun fuel cs x hf => by
  have ho : Opens enc0 Tryd.prog W 36 (isInts .u64 0 18446744073709551615 4) := (opens_array (is := isInt .u64 0 18446744073709551615) (c := 1) Tryd.underlying36 (by kernel_rfl) (opens_u64 Tryd.underlying34)).mono fun cs l h => by
    have e : Tryd.prog.cellsOf 36 = 4 := by kernel_rfl
    exact ints_of_arr (by rw [h.1, e]) h.2
  obtain ⟨l, h1, h2, h3⟩ := ho fuel cs _ hf
  match l, h1 with
  | [p, q, r, s], _ =>
    have b0 := h3 p (by simp)
    have b1 := h3 q (by simp)
    have b2 := h3 r (by simp)
    have b3 := h3 s (by simp)
    refine ⟨⟨BitVec.ofNat 64 p.toNat, BitVec.ofNat 64 q.toNat, BitVec.ofNat 64 r.toNat, BitVec.ofNat 64 s.toNat⟩, ?_, trivial⟩
    show cs = [v64 (BitVec.ofNat 64 p.toNat), v64 (BitVec.ofNat 64 q.toNat), v64 (BitVec.ofNat 64 r.toNat), v64 (BitVec.ofNat 64 s.toNat)]
    rw [v64_ofN b0.1 b0.2, v64_ofN b1.1 b1.2, v64_ofN b2.1 b2.2, v64_ofN b3.1 b3.2, h2]
    rfl
end Go.Proofs.YtakiohldgcifeaaDoor.eng

/- RexI -/
namespace Go.Proofs.YtakiohldgcifeaaDoor.eng
open Go.RowKit kit mix classL rexL Go.ChangeShapes Go.WideShapes Go.ChangeAt
set_option maxRecDepth 100000
section
variable {H : Type} {enc0 : TypeId × Value → H} {P : Program} {W : World} {M : Msr P H}
/-- what a datum of so much depth reads as -/
def OpensF (M : Msr P H) (enc0 : TypeId × Value → H) (W : World) (fuel : Nat) (t : TypeId) {α : Type} (is : List Value → α → Prop) : Prop :=
  ∀ cs x, DataW.trod enc0 P W 0 (fun _ => true) true fuel t cs = some x → M.ok t x.1 → ∃ a, is cs a
theorem OpensM.at {fuel : Nat} {t : TypeId} {α : Type} {is : List Value → α → Prop} (h : OpensM M enc0 W t is) : OpensF M enc0 W fuel t is := fun cs x => h fuel cs x
theorem opensF_slice {fuel : Nat} {t e : TypeId} {c : Nat} (ht : P.underlying t = some (.slice e)) (hc : P.cellsOf e = c) (hc0 : 0 < c) {α : Type} {is : List Value → α → Prop} (hd : ∀ n, fuel = n + 1 → OpensF M enc0 W n e is) (hl : ∀ cs a, is cs a → cs.length = c) : OpensF M enc0 W fuel t (fun cs l => isSl W is c cs l ∧ M.lim e l.length) := fun cs x h hm => by
  rcases DataW.trod_slice ht h with ⟨rfl, _⟩ | ⟨a, len, cap, elems, rest, n, hf, rfl, hx, _, hlc, hmx, hel, hread, _⟩
  · exact ⟨[], ⟨_, rfl, none, 0, rfl, Nat.le_refl _, by decide, fun h => by simp at h⟩, M.zero e⟩
  · rw [hx] at hm
    obtain ⟨hlim, hall⟩ := M.slice ht hm
    have each : ∀ i, i < len → ∃ y : α, ∃ cs, W.cells? 0 (a.add (i * c)) c = some cs ∧ is cs y := fun i hi => by
      have h1 := hread i hi
      rw [hc, List.getElem?_eq_getElem (by omega)] at h1
      cases hcell : W.cells? 0 (a.add (i * c)) c with
      | none => rw [hcell] at h1; simp at h1
      | some cs =>
        rw [hcell] at h1
        obtain ⟨y, hy⟩ := hd n hf cs _ h1 (hall _ (List.mem_map.2 ⟨_, List.getElem_mem (by omega), rfl⟩))
        exact ⟨y, cs, rfl, hy⟩
    obtain ⟨l, hll, hp⟩ := list_of len each
    subst hll
    refine ⟨l, ⟨_, rfl, some a, cap, rfl, hlc, hmx, fun h0 => ?_⟩, by rw [List.length_map, hel] at hlim; exact hlim⟩
    obtain ⟨cs0, h1, h2⟩ := hp 0 l[0] (List.getElem?_eq_getElem h0)
    have h3 := (cells_some h1).2 0 hc0
    have hlen := (cells_some h1).1
    rw [List.getElem?_eq_getElem (by omega)] at h3
    have hsp := spot_none h3
    have e0 : a.spot = none := by
      rw [Nat.zero_mul] at hsp
      unfold Addr.add at hsp
      simpa using hsp
    obtain ⟨b, off, spot⟩ := a
    obtain rfl : spot = none := e0
    refine ⟨b, off, rfl, fun i hi => ?_⟩
    obtain ⟨cs, h4, h5⟩ := hp i l[i] (List.getElem?_eq_getElem hi)
    refine ⟨cs, h5, fun j u hj => ?_⟩
    have hj2 : j < c := by
      have := (List.getElem?_eq_some_iff.1 hj).1
      rw [(cells_some h4).1] at this; exact this
    have h6 := (cells_some h4).2 j hj2
    rw [hj] at h6
    have e1 : ∀ (o k : Nat), (⟨b, o, none⟩ : Addr).add k = ⟨b, o + k, none⟩ := fun o k => by unfold Addr.add; simp
    rw [e1, e1] at h6
    rw [← h6]
theorem fieldF_of {t : TypeId} {fs : Array Field} (ht : P.underlying t = some (.struct fs)) {fuel : Nat} {cs : List Value} {x : DataW H × List MemPlace} (h : DataW.trod enc0 P W 0 (fun _ => true) true fuel t cs = some x) (hm : M.ok t x.1) :
    cs.length = P.cellsOf t ∧ ∃ n, fuel = n + 1 ∧ ∀ (i : Nat) (f : Field), fs[i]? = some f → ∀ {α : Type} {is : List Value → α → Prop}, OpensF M enc0 W n f.type is → ∃ a, is ((cs.drop f.offset).take (P.cellsOf f.type)) a := by
  obtain ⟨xs, n, hn, hx, hl, hlen, hf⟩ := DataW.trod_struct ht h
  refine ⟨hl, n, hn, fun i f hi α is ho => ?_⟩
  have h1 := hf i f hi
  have hlt : i < xs.length := by rw [hlen]; exact (Array.getElem?_eq_some_iff.1 hi).1
  rw [List.getElem?_eq_getElem hlt] at h1
  rw [hx] at hm
  exact ho _ _ h1 (M.strct ht hm i f _ hi (by rw [List.getElem?_map, List.getElem?_eq_getElem hlt]; rfl))
end

theorem slf_anyR {W : World} {v : Value} {l : List Rx} (h : SlX W (fun cs t => RexIs (Low W) W cs t) 6 v l) : SlF rexS (Low W) W v l := by
  obtain ⟨base, cap, h1, h2, h3, h4⟩ := h
  refine ⟨base, cap, h1, h2, h3, fun h0 => ?_⟩
  obtain ⟨b, off, h5, h6⟩ := h4 h0
  refine ⟨b, off, h5, ?_, fun i hi => ?_⟩
  · obtain ⟨cs, h7, h8⟩ := h6 0 h0
    have h7' : cs.length = 6 := RexIs.len6 h7
    have := h8 0 _ (List.getElem?_eq_getElem (by omega))
    exact World.block_lt_of_cell? W _ this
  · obtain ⟨cs, h7, h8⟩ := h6 i hi
    exact ⟨cs, h7, h8⟩
theorem opensF_rex {H : Type} {M : Msr Tryd.prog H} {enc0 : TypeId × Value → H} {W : World} : ∀ (F fuel : Nat), fuel ≤ F → OpensF M enc0 W fuel 39 (fun cs t => RexIs (Low W) W cs t)
  | 0, fuel, hF, cs, x, h, hm => by
    obtain ⟨_, n, hn, _⟩ := fieldF_of Tryd.underlying39 h hm
    omega
  | F + 1, fuel, hF, cs, x, h, hm => by
    obtain ⟨hl, n, hn, hfs⟩ := fieldF_of Tryd.underlying39 h hm
    have hl6 : cs.length = 6 := hl
    obtain ⟨p, e0, k1⟩ := hfs 0 _ rfl (OpensM.at (opensM_i64 Tryd.underlying3))
    obtain ⟨c, e1⟩ := hfs 1 _ rfl (OpensM.at (opensM_of opens_cls))
    obtain ⟨l, ⟨v, e2, hs⟩, _⟩ := hfs 2 _ rfl (opensF_slice (c := 6) Tryd.underlying37 (by kernel_rfl) (by decide) (fun m hm => opensF_rex F m (by omega)) fun cs a h => h.len6)
    replace e0 : (cs.drop 0).take 1 = [.int .i64 p] := e0
    replace e1 : (cs.drop 1).take 4 = clsL c := e1.1
    replace e2 : (cs.drop 5).take 1 = [v] := e2
    refine ⟨.mk p c l, rex_iff.2 ⟨v, ?_, k1, slf_anyR hs⟩⟩
    unfold rexC
    rw [← e1]
    match cs, hl6 with
    | [x0, x1, x2, x3, x4, x5], _ =>
      simp only [List.drop_succ_cons, List.drop_zero, List.take_succ_cons, List.take_zero, List.cons.injEq, and_true] at e0 e2
      subst e0 e2
      rfl
end Go.Proofs.YtakiohldgcifeaaDoor.eng

/- SpecI -/
namespace Go.Proofs.YtakiohldgcifeaaDoor.eng
open Go.RowKit kit mix classL rexL specL Go.ChangeShapes Go.WideShapes Go.ChangeAt
set_option maxRecDepth 100000
theorem slf_anyS {α : Type} {s : Shp α} {is : List Value → α → Prop} {w : World} {v : Value} {l : List α} (h : SlX w is s.c v l) (hi : ∀ cs a, is cs a → s.is (Low w) w cs a) (h0 : 0 < s.c) : SlF s (Low w) w v l := by
  obtain ⟨base, cap, h1, h2, h3, h4⟩ := h
  refine ⟨base, cap, h1, h2, h3, fun hl => ?_⟩
  obtain ⟨b, off, h5, h6⟩ := h4 hl
  refine ⟨b, off, h5, ?_, fun i hi' => let ⟨cs, h7, h8⟩ := h6 i hi'; ⟨cs, hi _ _ h7, h8⟩⟩
  obtain ⟨cs, h7, h8⟩ := h6 0 hl
  have hlen := s.len (hi _ _ h7)
  have hc := h8 0 (cs[0]'(by omega)) (List.getElem?_eq_getElem (by omega))
  exact World.block_lt_of_cell? w _ hc
theorem opensM_word {H : Type} {M : Msr Tryd.prog H} {enc0 : TypeId × Value → H} {W : World} : OpensM M enc0 W 41 (fun cs x => wordS.is (Low W) W cs x) := fun fuel cs x h hm => by
  obtain ⟨hl, hfs⟩ := fieldM_of Tryd.underlying41 h hm
  have hl7 : cs.length = 7 := hl
  obtain ⟨n, ⟨e0, n1⟩, -⟩ := hfs 0 _ rfl (opensM_str Tryd.underlying9)
  obtain ⟨r, h1⟩ := hfs 1 _ rfl (fun fuel => opensF_rex (M := M) (enc0 := enc0) (W := W) fuel fuel (Nat.le_refl _))
  replace e0 : (cs.drop 0).take 1 = [str n] := e0
  replace h1 : RexIs (Low W) W ((cs.drop 1).take 6) r := h1
  refine ⟨(n, r), [str n], (cs.drop 1).take 6, ?_, ⟨rfl, n1⟩, h1⟩
  rw [← e0]
  have e : (cs.drop 1).take 6 = cs.drop 1 := List.take_of_length_le (by rw [List.length_drop]; omega)
  rw [e, List.drop_zero, List.take_append_drop]
theorem opensM_rule {H : Type} {M : Msr Tryd.prog H} {enc0 : TypeId × Value → H} {W : World} : OpensM M enc0 W 57 (fun cs x => ruleS.is (Low W) W cs x ∧ M.lim 9 x.2.length) := fun fuel cs x h hm => by
  obtain ⟨hl, hfs⟩ := fieldM_of Tryd.underlying57 h hm
  have hl2 : cs.length = 2 := hl
  obtain ⟨n, ⟨e0, n1⟩, -⟩ := hfs 0 _ rfl (opensM_str Tryd.underlying9)
  obtain ⟨l, ⟨v, e1, hs⟩, hlim⟩ := hfs 1 _ rfl (opensM_slice (c := 1) Tryd.underlying55 (by kernel_rfl) (by decide) (opensM_str Tryd.underlying9) fun cs a h => by rw [h.1.1]; rfl)
  replace e0 : (cs.drop 0).take 1 = [str n] := e0
  replace e1 : (cs.drop 1).take 1 = [v] := e1
  refine ⟨(n, l), ⟨[str n], [v], ?_, ⟨rfl, n1⟩, v, rfl, slf_anyS (s := strS) hs (fun cs a h => ⟨h.1.1, h.1.2⟩) (by decide)⟩, hlim⟩
  match cs, hl2 with
  | [x, y], _ =>
    simp only [List.drop_succ_cons, List.drop_zero, List.take_succ_cons, List.take_zero, List.cons.injEq, and_true] at e0 e1
    subst e0 e1
    rfl
theorem opensM_spec {H : Type} {M : Msr Tryd.prog H} {enc0 : TypeId × Value → H} {W : World} : OpensM M enc0 W 25 (fun cs s => SpR (Low W) W (.agg cs.toArray) s ∧ ∀ r ∈ s.rules, M.lim 9 r.2.length) := fun fuel cs x h hm => by
  obtain ⟨hl, hfs⟩ := fieldM_of Tryd.underlying25 h hm
  have hl2 : cs.length = 2 := hl
  obtain ⟨ws, ⟨vw, e0, h0⟩, -⟩ := hfs 0 _ rfl (opensM_slice (c := 7) Tryd.underlying22 (by kernel_rfl) (by decide) opensM_word fun cs a h => wordS.len h)
  obtain ⟨rs, ⟨vr, e1, h1⟩, -⟩ := hfs 1 _ rfl (opensM_slice (c := 2) Tryd.underlying23 (by kernel_rfl) (by decide) opensM_rule fun cs a h => ruleS.len h.1)
  replace e0 : (cs.drop 0).take 1 = [vw] := e0
  replace e1 : (cs.drop 1).take 1 = [vr] := e1
  refine ⟨⟨ws, rs⟩, ⟨vw, vr, ?_, slf_anyS (s := wordS) h0 (fun cs a h => h) (by decide), slf_anyS (s := ruleS) h1 (fun cs a h => h.1) (by decide)⟩, fun r hr => ?_⟩
  · match cs, hl2 with
    | [x, y], _ =>
      simp only [List.drop_succ_cons, List.drop_zero, List.take_succ_cons, List.take_zero, List.cons.injEq, and_true] at e0 e1
      subst e0 e1
      rfl
  · obtain ⟨i, hi, rfl⟩ := List.mem_iff_getElem.1 hr
    have hi : i < rs.length := hi
    obtain ⟨base, cap, _, _, _, h4⟩ := h1
    obtain ⟨b, off, _, h6⟩ := h4 (by omega)
    obtain ⟨cs, h7, _⟩ := h6 i hi
    exact h7.2
/-- of bounded bulk -/
theorem open_specU {H : Type} {enc0 : TypeId × Value → H} {W : World} {base : Nat} {v : Value} {d : DataW H} {ps : List MemPlace} (hv : Value.okWide Tryd.prog W .any base 25 v) (h : DataW.Trod enc0 Tryd.prog W 0 (fun _ => true) true 25 v d ps) {ds : List (DataW H)} (hk : Rows.uptoSmall H ds = true) (j : Nat) (hd : ds[j]? = some d) :
    ∃ s : Sp, SpR (Low W) W v s ∧ ∀ r ∈ s.rules, r.2.length ≤ 1048576 := by
  obtain ⟨cs, s, rfl, h1, h2⟩ := topM_agg (M := bulkM Tryd.prog H) Tryd.underlying25 hv h opensM_spec (bulkM_top hk j hd)
  rw [Array.toArray_toList] at h1
  exact ⟨s, h1, h2⟩
end Go.Proofs.YtakiohldgcifeaaDoor.eng


/- SpecD -/
namespace Go.Proofs.YtakiohldgcifeaaDoor.eng
open Go.RowKit kit mix classL rexL specL
open gramL (cutF)
theorem build_word0 (w : World) : (Instr.build 41 (#[] : Array (Nat × Value))).run Tryd.prog w = .ok (.agg (wdC [] 0 C4.zero (.slice none 0 0)).toArray) w := by kernel_rfl
theorem build_word (n : Bs) (k : Int) (c : C4) (b : Option Addr) (m cp : Nat) (w : World) : (Instr.build 41 #[(0, str n), (1, .agg (rexC k c (.slice b m cp)).toArray)]).run Tryd.prog w = .ok (.agg (wdC n k c (.slice b m cp)).toArray) w := by kernel_rfl
theorem build_rule0 (w : World) : (Instr.build 57 (#[] : Array (Nat × Value))).run Tryd.prog w = .ok (.agg #[str [], .slice none 0 0]) w := by kernel_rfl
theorem build_rule1 (n : Bs) (w : World) : (Instr.build 57 #[(0, str n)]).run Tryd.prog w = .ok (.agg #[str n, .slice none 0 0]) w := by kernel_rfl
def wordSp (R : Wd × Bool × Int) : Spec (Value × (Nat → Prop)) := ⟨fun x => kit.okI64 R.1.2.kind ∧ ∃ b n c, x.1 = .slice b n c, fun x => .tuple #[.agg (wdC R.1.1 R.1.2.kind R.1.2.cls x.1).toArray, .bool R.2.1, .int .i64 R.2.2], fun x => [rkO x.2 x.1 R.1.2.kids]⟩
def ruleSp (R : Rl × Bool) : Spec Value := ⟨fun _ => True, fun v => .tuple #[.agg #[str R.1.1, v], .bool R.2], fun v => [rowO 9 1 v R.1.2.length (R.1.2.flatMap bsC)]⟩
theorem pre_len (p s : Bs) : (preF p s).1.length ≤ s.length := by
  unfold preF
  split
  · rw [List.length_drop]; omega
  · exact Nat.le_refl _
set_option maxHeartbeats 4000000 in
theorem spWord_calls (line : Bs) (w : World) (hl : line.length ≤ 1000000) : Calls Tryd.prog 19 #[str line] w (Meets (wordSp (spWord line)) w) := by
  have hp1 := fun w => pre_calls skT line w
  have hp2 := fun w => pre_calls tkT line w
  have hpl := pre_len tkT line
  have hW : spWord line = if (preF skT line).2 = true then (([], (parseT (preF skT line).1).1), true, (parseT (preF skT line).1).2.2) else if (preF tkT line).2 = true then (if (cutF 32 (preF tkT line).1).2.2 = true ∧ namedB (cutF 32 (preF tkT line).1).1 = true then (((cutF 32 (preF tkT line).1).1, (parseT (cutF 32 (preF tkT line).1).2.1).1), true, (parseT (cutF 32 (preF tkT line).1).2.1).2.2) else (([], zX), true, 6)) else (([], zX), false, 0) := rfl
  have hz : ∀ w, (rkO (fun _ => False) (.slice none 0 0) []).holds w := fun w => rk_nil w
  have hz2 : ∀ k, ¬ (rkO (fun _ => False) (.slice none 0 0) []).foot k := fun k hk => rk_foot hk
  have hps := fun t => parse_some t
  have hpT : ∀ t R, parseF t = some R → parseT t = R := fun t R h => by unfold parseT; rw [h]; rfl
  have hcut := fun s h w => cut_calls s 32 w h
  generalize spWord line = R at *
  generalize preF skT line = P1 at *
  generalize preF tkT line = P2 at *
  obtain ⟨t1, b1⟩ := P1
  obtain ⟨t2, b2⟩ := P2
  dsimp only at *
  have hcut := hcut t2 (by omega)
  generalize cutF 32 t2 = C at *
  obtain ⟨nm, t3, ok⟩ := C
  dsimp only at *
  refine enter (args := [str line]) (n := 53) Tryd.func19 rfl rfl rfl ?_
  refine T_seq (T_region (TL_new rfl fun g2 => ?_))
  conv=>arg 8;simp only[zA,zB,zC,zD,zE,zF,zG,zH,zI,rowS,ret,id_eq]
  repeat(first|refine QV QP ?_|refine QZ ?_|refine qcT rfl ?_|refine qcF rfl ?_|refine qs rfl rfl rfl rfl rfl rfl ?_|((try refine qg rfl rfl rfl ?_);first|refine QV QP ?_|refine QV (rr_not rfl rfl) ?_))
  refine TL_call (he2 EntersC.en rfl rfl rfl) (fun w hm => hp1 w) rfl rfl rfl ?_
  intro _ _
  conv=>arg 8;simp only[zA,zB,zC,zD,zE,zF,zG,zH,zI,rowS,ret,id_eq]
  cases b1 with
  | true =>
    rw [if_pos rfl] at hW
    subst hW
    obtain ⟨X, hX⟩ := hps t1
    rw [hpT _ _ hX]
    obtain ⟨r, a, e⟩ := X
    dsimp only
    repeat(first|refine QV QP ?_|refine QZ ?_|refine qcT rfl ?_|refine qcF rfl ?_|refine qs rfl rfl rfl rfl rfl rfl ?_|((try refine qg rfl rfl rfl ?_);first|refine QV QP ?_|refine QV (rr_not rfl rfl) ?_|refine QV (rr_not rfl rfl) ?_))
    refine TL_call (he1 EntersC.en rfl rfl) (fun w hm => rexParse_calls t1 _ hX w) rfl rfl rfl ?_
    rintro ⟨v2, F2⟩ hok2
    conv=>arg 8;simp only[zA,zB,zC,zD,zE,zF,zG,zH,zI,rowS,ret,id_eq, parSp]
    conv => arg 7; simp only [parSp]
    refine TL_know (i := 1) rfl (fun w h => rkO_form h) fun hv2 => ?_
    obtain ⟨b2, n2, c2', rfl⟩ := hv2
    have hok2 : kit.okI64 r.kind := hok2
    repeat(first|refine QV QP ?_|refine QZ ?_|refine qcT rfl ?_|refine qcF rfl ?_|refine qs rfl rfl rfl rfl rfl rfl ?_|((try refine qg rfl rfl rfl ?_);first|refine QV QP ?_|refine QV (rr_not rfl rfl) ?_))
    refine TL_new rfl fun g11 => ?_
    conv=>arg 8;simp only[zA,zB,zC,zD,zE,zF,zG,zH,zI,rowS,ret,id_eq]
    refine TL_storeB (i := 2) (cs' := (rexC r.kind r.cls (.slice b2 n2 c2')).toArray) rfl rfl rfl rfl rfl rfl ?_
    conv=>arg 8;simp only[zA,zB,zC,zD,zE,zF,zG,zH,zI,rowS,ret,id_eq]
    repeat(first|refine QV QP ?_|refine QZ ?_|refine qcT rfl ?_|refine qcF rfl ?_|refine qs rfl rfl rfl rfl rfl rfl ?_|((try refine qg rfl rfl rfl ?_);first|refine QV QP ?_|refine QV (rr_loadB (i := 2) TyC.ty rfl rfl rfl) ?_|refine QV (rr_build rfl (build_word _ _ _ _ _ _)) ?_|refine QV (rr_not rfl rfl) ?_))
    refine TL_storeB (i := 0) (cs' := (wdC [] r.kind r.cls (.slice b2 n2 c2')).toArray) rfl rfl rfl rfl rfl rfl ?_
    conv=>arg 8;simp only[zA,zB,zC,zD,zE,zF,zG,zH,zI,rowS,ret,id_eq]
    repeat(first|refine QV QP ?_|refine QZ ?_|refine qcT rfl ?_|refine qcF rfl ?_|refine qs rfl rfl rfl rfl rfl rfl ?_|((try refine qg rfl rfl rfl ?_);first|refine QV QP ?_|refine QV (rr_not rfl rfl) ?_))
    exact E_retc3 (i := 0) rfl rfl rfl rfl rfl rfl fun w hm => hm.meets (S := wordSp (([], r), true, e)) (.slice b2 n2 c2', F2) ⟨hok2, _, _, _, rfl⟩ [1] (by decide) rfl
  | false =>
    rw [if_neg (by decide)] at hW
    repeat(first|refine QV QP ?_|refine QZ ?_|refine qcT rfl ?_|refine qcF rfl ?_|refine qs rfl rfl rfl rfl rfl rfl ?_|((try refine qg rfl rfl rfl ?_);first|refine QV QP ?_|refine QV (rr_not rfl rfl) ?_|refine QV (rr_not rfl rfl) ?_))
    refine TL_call (he2 EntersC.en rfl rfl rfl) (fun w hm => hp2 w) rfl rfl rfl ?_
    intro _ _
    conv=>arg 8;simp only[zA,zB,zC,zD,zE,zF,zG,zH,zI,rowS,ret,id_eq]
    cases b2 with
    | false =>
      rw [if_neg (by decide)] at hW
      subst hW
      repeat(first|refine QV QP ?_|refine QZ ?_|refine qcT rfl ?_|refine qcF rfl ?_|refine qs rfl rfl rfl rfl rfl rfl ?_|((try refine qg rfl rfl rfl ?_);first|refine QV QP ?_|refine QV (rr_not rfl rfl) ?_|refine QV (rr_build rfl build_word0) ?_|refine QV (rr_not rfl rfl) ?_))
      refine TL_storeB (i := 0) (cs' := (wdC [] 0 C4.zero (.slice none 0 0)).toArray) rfl rfl rfl rfl rfl rfl ?_
      conv=>arg 8;simp only[zA,zB,zC,zD,zE,zF,zG,zH,zI,rowS,ret,id_eq]
      repeat(first|refine QV QP ?_|refine QZ ?_|refine qcT rfl ?_|refine qcF rfl ?_|refine qs rfl rfl rfl rfl rfl rfl ?_|((try refine qg rfl rfl rfl ?_);first|refine QV QP ?_|refine QV (rr_not rfl rfl) ?_))
      refine E_extra (rkO (fun _ => False) (.slice none 0 0) []) hz2 hz ?_
      exact E_retc3 (i := 0) rfl rfl rfl rfl rfl rfl fun w hm => hm.meets (S := wordSp (([], zX), false, 0)) (.slice none 0 0, fun _ => False) ⟨⟨by decide, by decide⟩, _, _, _, rfl⟩ [1] (by decide) rfl
    | true =>
      rw [if_pos rfl] at hW
      repeat(first|refine QV QP ?_|refine QZ ?_|refine qcT rfl ?_|refine qcF rfl ?_|refine qs rfl rfl rfl rfl rfl rfl ?_|((try refine qg rfl rfl rfl ?_);first|refine QV QP ?_|refine QV (rr_not rfl rfl) ?_|refine QV (rr_not rfl rfl) ?_))
      refine TL_call (he2 EntersC.en rfl rfl rfl) (fun w hm => hcut w) rfl rfl rfl ?_
      intro _ _
      conv=>arg 8;simp only[zA,zB,zC,zD,zE,zF,zG,zH,zI,rowS,ret,id_eq]
      cases ok with
      | false =>
        rw [if_neg (fun h => by cases h.1)] at hW
        subst hW
        repeat(first|refine QV QP ?_|refine QZ ?_|refine qcT rfl ?_|refine qcF rfl ?_|refine qs rfl rfl rfl rfl rfl rfl ?_|((try refine qg rfl rfl rfl ?_);first|refine QV QP ?_|refine QV (rr_not rfl rfl) ?_|refine QV (rr_build rfl build_word0) ?_|refine QV (rr_not rfl rfl) ?_))
        refine TL_storeB (i := 0) (cs' := (wdC [] 0 C4.zero (.slice none 0 0)).toArray) rfl rfl rfl rfl rfl rfl ?_
        conv=>arg 8;simp only[zA,zB,zC,zD,zE,zF,zG,zH,zI,rowS,ret,id_eq]
        repeat(first|refine QV QP ?_|refine QZ ?_|refine qcT rfl ?_|refine qcF rfl ?_|refine qs rfl rfl rfl rfl rfl rfl ?_|((try refine qg rfl rfl rfl ?_);first|refine QV QP ?_|refine QV (rr_not rfl rfl) ?_))
        refine E_extra (rkO (fun _ => False) (.slice none 0 0) []) hz2 hz ?_
        exact E_retc3 (i := 0) rfl rfl rfl rfl rfl rfl fun w hm => hm.meets (S := wordSp (([], zX), true, 6)) (.slice none 0 0, fun _ => False) ⟨⟨by decide, by decide⟩, _, _, _, rfl⟩ [1] (by decide) rfl
      | true =>
        repeat(first|refine QV QP ?_|refine QZ ?_|refine qcT rfl ?_|refine qcF rfl ?_|refine qs rfl rfl rfl rfl rfl rfl ?_|((try refine qg rfl rfl rfl ?_);first|refine QV QP ?_|refine QV (rr_not rfl rfl) ?_|refine QV (rr_not rfl rfl) ?_))
        refine TL_gcall (he1 EntersC.en rfl rfl) (fun w hm => named_calls nm w) rfl rfl rfl rfl rfl ?_
        intro _ _
        conv=>arg 8;simp only[zA,zB,zC,zD,zE,zF,zG,zH,zI,rowS,ret,id_eq]
        cases hb : namedB nm with
        | false =>
          rw [if_neg (fun h => by rw [hb] at h; cases h.2)] at hW
          subst hW
          repeat(first|refine QV QP ?_|refine QZ ?_|refine qcT rfl ?_|refine qcF rfl ?_|refine qs rfl rfl rfl rfl rfl rfl ?_|((try refine qg rfl rfl rfl ?_);first|refine QV QP ?_|refine QV (rr_not rfl rfl) ?_|refine QV (rr_build rfl build_word0) ?_|refine QV (rr_not rfl rfl) ?_))
          refine TL_storeB (i := 0) (cs' := (wdC [] 0 C4.zero (.slice none 0 0)).toArray) rfl rfl rfl rfl rfl rfl ?_
          conv=>arg 8;simp only[zA,zB,zC,zD,zE,zF,zG,zH,zI,rowS,ret,id_eq]
          repeat(first|refine QV QP ?_|refine QZ ?_|refine qcT rfl ?_|refine qcF rfl ?_|refine qs rfl rfl rfl rfl rfl rfl ?_|((try refine qg rfl rfl rfl ?_);first|refine QV QP ?_|refine QV (rr_not rfl rfl) ?_))
          refine E_extra (rkO (fun _ => False) (.slice none 0 0) []) hz2 hz ?_
          exact E_retc3 (i := 0) rfl rfl rfl rfl rfl rfl fun w hm => hm.meets (S := wordSp (([], zX), true, 6)) (.slice none 0 0, fun _ => False) ⟨⟨by decide, by decide⟩, _, _, _, rfl⟩ [1] (by decide) rfl
        | true =>
          rw [if_pos ⟨rfl, hb⟩] at hW
          subst hW
          obtain ⟨X, hX⟩ := hps t3
          rw [hpT _ _ hX]
          obtain ⟨r, a, e⟩ := X
          dsimp only
          repeat(first|refine QV QP ?_|refine QZ ?_|refine qcT rfl ?_|refine qcF rfl ?_|refine qs rfl rfl rfl rfl rfl rfl ?_|((try refine qg rfl rfl rfl ?_);first|refine QV QP ?_|refine QV (rr_not rfl rfl) ?_|refine QV (rr_not rfl rfl) ?_))
          refine TL_call (he1 EntersC.en rfl rfl) (fun w hm => rexParse_calls t3 _ hX w) rfl rfl rfl ?_
          rintro ⟨v2, F2⟩ hok2
          conv=>arg 8;simp only[zA,zB,zC,zD,zE,zF,zG,zH,zI,rowS,ret,id_eq, parSp]
          conv => arg 7; simp only [parSp]
          refine TL_know (i := 1) rfl (fun w h => rkO_form h) fun hv2 => ?_
          obtain ⟨b2, n2, c2', rfl⟩ := hv2
          have hok2 : kit.okI64 r.kind := hok2
          repeat(first|refine QV QP ?_|refine QZ ?_|refine qcT rfl ?_|refine qcF rfl ?_|refine qs rfl rfl rfl rfl rfl rfl ?_|((try refine qg rfl rfl rfl ?_);first|refine QV QP ?_|refine QV (rr_not rfl rfl) ?_))
          refine TL_new rfl fun g11 => ?_
          conv=>arg 8;simp only[zA,zB,zC,zD,zE,zF,zG,zH,zI,rowS,ret,id_eq]
          refine TL_storeB (i := 2) (cs' := (rexC r.kind r.cls (.slice b2 n2 c2')).toArray) rfl rfl rfl rfl rfl rfl ?_
          conv=>arg 8;simp only[zA,zB,zC,zD,zE,zF,zG,zH,zI,rowS,ret,id_eq]
          repeat(first|refine QV QP ?_|refine QZ ?_|refine qcT rfl ?_|refine qcF rfl ?_|refine qs rfl rfl rfl rfl rfl rfl ?_|((try refine qg rfl rfl rfl ?_);first|refine QV QP ?_|refine QV (rr_loadB (i := 2) TyC.ty rfl rfl rfl) ?_|refine QV (rr_build rfl (build_word _ _ _ _ _ _)) ?_|refine QV (rr_not rfl rfl) ?_))
          refine TL_storeB (i := 0) (cs' := (wdC nm r.kind r.cls (.slice b2 n2 c2')).toArray) rfl rfl rfl rfl rfl rfl ?_
          conv=>arg 8;simp only[zA,zB,zC,zD,zE,zF,zG,zH,zI,rowS,ret,id_eq]
          repeat(first|refine QV QP ?_|refine QZ ?_|refine qcT rfl ?_|refine qcF rfl ?_|refine qs rfl rfl rfl rfl rfl rfl ?_|((try refine qg rfl rfl rfl ?_);first|refine QV QP ?_|refine QV (rr_not rfl rfl) ?_))
          exact E_retc3 (i := 0) rfl rfl rfl rfl rfl rfl fun w hm => hm.meets (S := wordSp ((nm, r), true, e)) (.slice b2 n2 c2', F2) ⟨hok2, _, _, _, rfl⟩ [1] (by decide) rfl
theorem split_le : ∀ s : Bs, (splitF s).length ≤ s.length + 1
  | [] => Nat.le_refl _
  | b :: r => by
    have ih := split_le r
    rw [splitF]
    split
    · simp only [List.length_cons]; omega
    · split
      · rename_i h; simp
      · rename_i h t e
        rw [e] at ih
        simp only [List.length_cons] at ih ⊢; omega
theorem cutE_le (s : Bs) : (cutE s).2.1.length ≤ s.length := by
  unfold cutE Lib.cut
  split
  · rw [List.length_drop]; omega
  · exact Nat.zero_le _
theorem all_take {l : List Bs} {k : Nat} (h : k < l.length) (ht : (l.take k).all namedB = true) (hb : namedB l[k] = true) : (l.take (k + 1)).all namedB = true := by
  rw [List.take_succ_eq_append_getElem h, List.all_append, ht]
  simp [hb]
theorem all_no {l : List Bs} {k : Nat} (h : k < l.length) (hb : namedB l[k] = false) : l.all namedB = false := by
  rw [List.all_eq_false]
  exact ⟨l[k], List.getElem_mem h, by rw [hb]; decide⟩
set_option maxHeartbeats 4000000 in
theorem spRule_calls (line : Bs) (w : World) (hl : line.length ≤ 1000000) (hM : MaxL w) : Calls Tryd.prog 20 #[str line] w (Meets (ruleSp (spRule line)) w) := by
  have hp1 := fun w => pre_calls ruT line w
  have hpl := pre_len ruT line
  have hW : spRule line = if (preF ruT line).2 = true ∧ (cutE (preF ruT line).1).2.2 = true ∧ namedB (cutE (preF ruT line).1).1 = true then (match spBody (cutE (preF ruT line).1).2.1 with
    | some l => (((cutE (preF ruT line).1).1, l), true)
    | none => (([], []), false)) else (([], []), false) := rfl
  generalize spRule line = R at *
  generalize preF ruT line = P1 at *
  obtain ⟨t1, b1⟩ := P1
  dsimp only at *
  have hcut := fun w' (hg : Gr w w') => cutE_calls t1 w' (by omega) (hM.gr hg)
  have hcl := cutE_le t1
  generalize cutE t1 = C at *
  obtain ⟨nm, t3, ok⟩ := C
  dsimp only at *
  refine enter (args := [str line]) (n := 64) Tryd.func20 rfl rfl rfl ?_
  refine T_seq (T_region (TL_new rfl fun g2 => ?_))
  conv=>arg 8;simp only[zA,zB,zC,zD,zE,zF,zG,zH,zI,rowS,ret,id_eq]
  repeat(first|refine QV QP ?_|refine QZ ?_|refine qcT rfl ?_|refine qcF rfl ?_|refine E_blockX ?_|refine E_blockO rfl ?_|refine qs rfl rfl rfl rfl rfl rfl ?_|((try refine qg rfl rfl rfl ?_);first|refine QV QP ?_|refine QV QL ?_|refine QV QA ?_|refine QV (rr_not rfl rfl) ?_|refine QV QlT ?_|refine QV QlF ?_|refine QV QnT ?_|refine QV QnF ?_|refine QV QaA ?_))
  refine TL_call (he2 EntersC.en rfl rfl rfl) (fun w hm => hp1 w) rfl rfl rfl ?_
  intro _ _
  conv=>arg 8;simp only[zA,zB,zC,zD,zE,zF,zG,zH,zI,rowS,ret,id_eq]
  repeat(first|refine QV QP ?_|refine QZ ?_|refine qcT rfl ?_|refine qcF rfl ?_|refine E_blockX ?_|refine E_blockO rfl ?_|refine qs rfl rfl rfl rfl rfl rfl ?_|((try refine qg rfl rfl rfl ?_);first|refine QV QP ?_|refine QV QL ?_|refine QV QA ?_|refine QV (rr_not rfl rfl) ?_|refine QV QlT ?_|refine QV QlF ?_|refine QV QnT ?_|refine QV QnF ?_|refine QV QaA ?_))
  refine TL_call (he2 EntersC.en rfl rfl rfl) (fun w hm => hcut _ hm.below) rfl rfl rfl ?_
  intro _ _
  conv=>arg 8;simp only[zA,zB,zC,zD,zE,zF,zG,zH,zI,rowS,ret,id_eq]
  by_cases c0 : b1 = true ∧ ok = true ∧ namedB nm = true
  · rw [if_pos c0] at hW
    obtain ⟨rfl, rfl, hb⟩ := c0
    repeat(first|refine QV QP ?_|refine QZ ?_|refine qcT rfl ?_|refine qcF rfl ?_|refine E_blockX ?_|refine E_blockO rfl ?_|refine qs rfl rfl rfl rfl rfl rfl ?_|((try refine qg rfl rfl rfl ?_);first|refine QV QP ?_|refine QV (rr_not rfl rfl) ?_|refine QV QL ?_|refine QV QA ?_|refine QV (rr_not rfl rfl) ?_|refine QV QlT ?_|refine QV QlF ?_|refine QV QnT ?_|refine QV QnF ?_|refine QV QaA ?_))
    refine TL_gcall (he1 EntersC.en rfl rfl) (fun w hm => named_calls nm w) rfl rfl rfl rfl rfl ?_
    intro _ _
    rw [hb]
    conv=>arg 8;simp only[zA,zB,zC,zD,zE,zF,zG,zH,zI,rowS,ret,id_eq]
    repeat(first|refine QV QP ?_|refine QZ ?_|refine qcT rfl ?_|refine qcF rfl ?_|refine E_blockX ?_|refine E_blockO rfl ?_|refine qs rfl rfl rfl rfl rfl rfl ?_|((try refine qg rfl rfl rfl ?_);first|refine QV QP ?_|refine QV (rr_not rfl rfl) ?_|refine QV (rr_build rfl (build_rule1 _)) ?_|refine QV QL ?_|refine QV QA ?_|refine QV (rr_not rfl rfl) ?_|refine QV QlT ?_|refine QV QlF ?_|refine QV QnT ?_|refine QV QnF ?_|refine QV QaA ?_))
    refine TL_new rfl fun g9 => ?_
    conv=>arg 8;simp only[zA,zB,zC,zD,zE,zF,zG,zH,zI,rowS,ret,id_eq]
    refine TL_storeB (i := 1) (cs' := #[str nm, .slice none 0 0]) rfl rfl rfl rfl rfl rfl ?_
    conv=>arg 8;simp only[zA,zB,zC,zD,zE,zF,zG,zH,zI,rowS,ret,id_eq]
    cases t3 with
    | nil =>
      have hW : R = ((nm, []), true) := hW
      subst hW
      repeat(first|refine QV QP ?_|refine QZ ?_|refine qcT rfl ?_|refine qcF rfl ?_|refine E_blockX ?_|refine E_blockO rfl ?_|refine qs rfl rfl rfl rfl rfl rfl ?_|((try refine qg rfl rfl rfl ?_);first|refine QV QP ?_|refine QV (rr_streq (b := true) rfl rfl rfl) ?_|refine QV (rr_loadB (i := 1) TyC.ty rfl rfl rfl) ?_|refine QV QL ?_|refine QV QA ?_|refine QV (rr_not rfl rfl) ?_|refine QV QlT ?_|refine QV QlF ?_|refine QV QnT ?_|refine QV QnF ?_|refine QV QaA ?_))
      refine TL_storeB (i := 0) (cs' := #[str nm, .slice none 0 0]) rfl rfl rfl rfl rfl rfl ?_
      conv=>arg 8;simp only[zA,zB,zC,zD,zE,zF,zG,zH,zI,rowS,ret,id_eq]
      repeat(first|refine QV QP ?_|refine QZ ?_|refine qcT rfl ?_|refine qcF rfl ?_|refine E_blockX ?_|refine E_blockO rfl ?_|refine qs rfl rfl rfl rfl rfl rfl ?_|((try refine qg rfl rfl rfl ?_);first|refine QV QP ?_|refine QV QL ?_|refine QV QA ?_|refine QV (rr_not rfl rfl) ?_|refine QV QlT ?_|refine QV QlF ?_|refine QV QnT ?_|refine QV QnF ?_|refine QV QaA ?_))
      refine E_nilrow 9 1 ?_
      exact E_retc2 (i := 0) rfl rfl rfl rfl rfl fun w hm => hm.meets (S := ruleSp ((nm, []), true)) (.slice none 0 0) trivial [2] (by decide) rfl
    | cons x r =>
      by_cases c1 : x = 32
      · subst c1
        have hW : R = (match (if (splitF r).all namedB = true then some (splitF r) else none) with
          | some l => ((nm, l), true)
          | none => (([], []), false)) := hW
        have hsl := split_le r
        have hrl : r.length ≤ 1000000 := by simp only [List.length_cons] at hcl; omega
        have hsp := fun w' (hg : Gr w w') => split_calls r w' hrl (hM.gr hg)
        generalize splitF r = l at *
        have hl2 : l.length ≤ 1000001 := by omega
        repeat(first|refine QV QP ?_|refine QZ ?_|refine qcT rfl ?_|refine qcF rfl ?_|refine E_blockX ?_|refine E_blockO rfl ?_|refine qs rfl rfl rfl rfl rfl rfl ?_|((try refine qg rfl rfl rfl ?_);first|refine QV QP ?_|refine QV (rr_streq (b := false) rfl rfl rfl) ?_|refine QV (rr_stridx (b := 32) Und.eq rfl rfl (by decide) rfl) ?_|refine QV (rr_neq (b := false) rfl rfl rfl) ?_|refine QV (rr_strfrom (i := 1) Und.eq rfl rfl (by simp)) ?_|refine QV QL ?_|refine QV QA ?_|refine QV (rr_not rfl rfl) ?_|refine QV QlT ?_|refine QV QlF ?_|refine QV QnT ?_|refine QV QnF ?_|refine QV QaA ?_))
        refine TL_call (he2 EntersC.en rfl rfl rfl) (fun w hm => hsp _ hm.below) rfl rfl rfl ?_
        intro gs _
        conv=>arg 8;simp only[zA,zB,zC,zD,zE,zF,zG,zH,zI,rowS,ret,id_eq, splS]
        conv => arg 7; simp only [splS]
        repeat(first|refine QV QP ?_|refine QZ ?_|refine qcT rfl ?_|refine qcF rfl ?_|refine E_blockX ?_|refine E_blockO rfl ?_|refine qs rfl rfl rfl rfl rfl rfl ?_|((try refine qg rfl rfl rfl ?_);first|refine QV QP ?_|refine QV QL ?_|refine QV QA ?_|refine QV (rr_not rfl rfl) ?_|refine QV QlT ?_|refine QV QlF ?_|refine QV QnT ?_|refine QV QnF ?_|refine QV QaA ?_))
        refine T_nil 9 1 ?_
        conv => arg 7; simp only [zA, zB, zC, zD, zE, zF, zG, zH, zI, rowS, ret, id_eq]
        refine T_loop (ι := Nat × Value) (fun (k, _) => k ≤ l.length ∧ (l.take k).all namedB = true) (fun (k, _) => [(2, .pointer (some ⟨g2, 0, none⟩)), (9, .pointer (some ⟨g9, 0, none⟩)), (46, .slice (some ⟨gs, 0, none⟩) l.length l.length), (47, .int .i64 l.length), (48, .int .i64 (k : Int))])
          (fun (k, v) => [blkO g2 #[str [], .slice none 0 0] 57, blkO g9 #[str nm, v] 57, rowO 9 1 (.slice (some ⟨gs, 0, none⟩) l.length l.length) l.length (l.flatMap bsC), rowO 9 1 v k ((l.take k).flatMap bsC)]) (fun (k, _) => l.length - k) (0, .slice none 0 0) ⟨Nat.zero_le _, rfl⟩ (by repeat' (first | exact True.intro | refine And.intro rfl ?_)) rfl ?_
        rintro ⟨k, v⟩ ⟨i1, i2⟩
        dsimp only at i1 i2 ⊢
        by_cases c2 : k < l.length
        · have hat := fun (L : List Own) (hL : L[2]? = some (rowO 9 1 (.slice (some ⟨gs, 0, none⟩) l.length l.length) l.length (l.flatMap bsC))) => at_rowel (W := (w : Base)) bsC_len hL c2 0 _ rfl
          have hno := all_no c2
          have htk := all_take c2 i2
          have hfl : (l.take (k + 1)).flatMap bsC = (l.take k).flatMap bsC ++ [str l[k]] := by rw [List.take_succ_eq_append_getElem c2, List.flatMap_append, List.flatMap_singleton]; rfl
          generalize l[k] = y at *
          repeat(first|refine QV QP ?_|refine QZ ?_|refine qcT rfl ?_|refine qcF rfl ?_|refine E_blockX ?_|refine E_blockO rfl ?_|refine qs rfl rfl rfl rfl rfl rfl ?_|((try refine qg rfl rfl rfl ?_);first|refine QV QP ?_|refine QV (rr_idxc Und.eq TyC.ty rfl rfl c2) ?_|refine QV (rr_load1 (v := str y) TyC.ty rfl (hat _ rfl)) ?_|refine QV QL ?_|refine QV QA ?_|refine QV (rr_not rfl rfl) ?_|refine QV QlT ?_|refine QV QlF ?_|refine QV QnT ?_|refine QV QnF ?_|refine QV QaA ?_))
          refine TL_call (he1 EntersC.en rfl rfl) (fun w hm => named_calls y w) rfl rfl rfl ?_
          intro _ _
          conv=>arg 8;simp only[zA,zB,zC,zD,zE,zF,zG,zH,zI,rowS,ret,id_eq]
          cases hy : namedB y with
          | false =>
            rw [hno hy] at hW
            have hW : R = (([], []), false) := hW
            subst hW
            repeat(first|refine QV QP ?_|refine QZ ?_|refine qcT rfl ?_|refine qcF rfl ?_|refine E_blockX ?_|refine E_blockO rfl ?_|refine qs rfl rfl rfl rfl rfl rfl ?_|((try refine qg rfl rfl rfl ?_);first|refine QV QP ?_|refine QV (rr_not rfl rfl) ?_|refine QV (rr_build rfl build_rule0) ?_|refine QV QL ?_|refine QV QA ?_|refine QV (rr_not rfl rfl) ?_|refine QV QlT ?_|refine QV QlF ?_|refine QV QnT ?_|refine QV QnF ?_|refine QV QaA ?_))
            refine TL_storeB (i := 0) (cs' := #[str [], .slice none 0 0]) rfl rfl rfl rfl rfl rfl ?_
            conv=>arg 8;simp only[zA,zB,zC,zD,zE,zF,zG,zH,zI,rowS,ret,id_eq]
            repeat(first|refine QV QP ?_|refine QZ ?_|refine qcT rfl ?_|refine qcF rfl ?_|refine E_blockX ?_|refine E_blockO rfl ?_|refine qs rfl rfl rfl rfl rfl rfl ?_|((try refine qg rfl rfl rfl ?_);first|refine QV QP ?_|refine QV QL ?_|refine QV QA ?_|refine QV (rr_not rfl rfl) ?_|refine QV QlT ?_|refine QV QlF ?_|refine QV QnT ?_|refine QV QnF ?_|refine QV QaA ?_))
            refine E_nilrow 9 1 ?_
            exact E_retc2 (i := 0) rfl rfl rfl rfl rfl fun w hm => hm.meets (S := ruleSp (([], []), false)) (.slice none 0 0) trivial [4] (by decide) rfl
          | true =>
            repeat(first|refine QV QP ?_|refine QZ ?_|refine qcT rfl ?_|refine qcF rfl ?_|refine E_blockX ?_|refine E_blockO rfl ?_|refine qs rfl rfl rfl rfl rfl rfl ?_|((try refine qg rfl rfl rfl ?_);first|refine QV QP ?_|refine QV (rr_not rfl rfl) ?_|refine QV (rr_load1 (v := v) TyC.ty rfl (at_blk (i := 1) rfl rfl)) ?_|refine QV QL ?_|refine QV QA ?_|refine QV (rr_not rfl rfl) ?_|refine QV QlT ?_|refine QV QlF ?_|refine QV QnT ?_|refine QV QnF ?_|refine QV QaA ?_))
            refine TL_push1 (i := 3) rfl rfl rfl rfl rfl rfl (fun z h => by cases h; rfl) (by omega) (by omega) rfl fun z v2 => ?_
            conv=>arg 8;simp only[zA,zB,zC,zD,zE,zF,zG,zH,zI,rowS,ret,id_eq]
            repeat(first|refine QV QP ?_|refine QZ ?_|refine qcT rfl ?_|refine qcF rfl ?_|refine E_blockX ?_|refine E_blockO rfl ?_|refine qs rfl rfl rfl rfl rfl rfl ?_|((try refine qg rfl rfl rfl ?_);first|refine QV QP ?_|refine QV QL ?_|refine QV QA ?_|refine QV (rr_not rfl rfl) ?_|refine QV QlT ?_|refine QV QlF ?_|refine QV QnT ?_|refine QV QnF ?_|refine QV QaA ?_))
            refine TL_slv (i := 3) rfl fun h1 h2 => TL_store1 (i := 1) rfl rfl rfl h1 h2 rfl ?_
            conv=>arg 8;simp only[zA,zB,zC,zD,zE,zF,zG,zH,zI,rowS,ret,id_eq]
            repeat(first|refine QV QP ?_|refine QZ ?_|refine qcT rfl ?_|refine qcF rfl ?_|refine E_blockX ?_|refine E_blockO rfl ?_|refine qs rfl rfl rfl rfl rfl rfl ?_|((try refine qg rfl rfl rfl ?_);first|refine QV QP ?_|refine QV QL ?_|refine QV QA ?_|refine QV (rr_not rfl rfl) ?_|refine QV QlT ?_|refine QV QlF ?_|refine QV QnT ?_|refine QV QnF ?_|refine QV QaA ?_))
            exact E_round (k + 1, v2) ⟨by omega, htk hy⟩ (by show l.length - (k + 1) < l.length - k; omega) (by repeat' (first | exact True.intro | refine And.intro rfl ?_)) (by dsimp only; rw [hfl]; rfl)
        · obtain rfl : k = l.length := by omega
          rw [List.take_length] at i2 ⊢
          rw [i2] at hW
          have hW : R = ((nm, l), true) := hW
          subst hW
          refine T_slv (i := 3) rfl fun h1 h2 => ?_
          repeat(first|refine QV QP ?_|refine QZ ?_|refine qcT rfl ?_|refine qcF rfl ?_|refine E_blockX ?_|refine E_blockO rfl ?_|refine qs rfl rfl rfl rfl rfl rfl ?_|((try refine qg rfl rfl rfl ?_);first|refine QV QP ?_|refine QV (rr_loadB (i := 1) TyC.ty rfl rfl rfl) ?_|refine QV QL ?_|refine QV QA ?_|refine QV (rr_not rfl rfl) ?_|refine QV QlT ?_|refine QV QlF ?_|refine QV QnT ?_|refine QV QnF ?_|refine QV QaA ?_))
          refine TL_storeB (i := 0) (cs' := #[str nm, v]) rfl rfl rfl rfl (by simp only [List.all_cons, List.all_nil, h2]; rfl) rfl ?_
          conv=>arg 8;simp only[zA,zB,zC,zD,zE,zF,zG,zH,zI,rowS,ret,id_eq]
          repeat(first|refine QV QP ?_|refine QZ ?_|refine qcT rfl ?_|refine qcF rfl ?_|refine E_blockX ?_|refine E_blockO rfl ?_|refine qs rfl rfl rfl rfl rfl rfl ?_|((try refine qg rfl rfl rfl ?_);first|refine QV QP ?_|refine QV QL ?_|refine QV QA ?_|refine QV (rr_not rfl rfl) ?_|refine QV QlT ?_|refine QV QlF ?_|refine QV QnT ?_|refine QV QnF ?_|refine QV QaA ?_))
          exact E_retc2 (i := 0) rfl rfl rfl rfl rfl fun w hm => hm.meets (S := ruleSp ((nm, l), true)) v trivial [3] (by decide) rfl
      · have hW : R = (([], []), false) := by
          have hb2 : spBody (x :: r) = none := by
            show (if x ≠ 32 then none else if (splitF r).all namedB = true then some (splitF r) else none) = none
            rw [if_pos c1]
          rw [hW, hb2]
        subst hW
        repeat(first|refine QV QP ?_|refine QZ ?_|refine qcT rfl ?_|refine qcF rfl ?_|refine E_blockX ?_|refine E_blockO rfl ?_|refine qs rfl rfl rfl rfl rfl rfl ?_|((try refine qg rfl rfl rfl ?_);first|refine QV QP ?_|refine QV (rr_streq (b := false) rfl rfl rfl) ?_|refine QV (rr_stridx (b := x) Und.eq rfl rfl (by decide) rfl) ?_|refine QV (rr_neq (b := true) rfl rfl (b8ne (decide_eq_true c1))) ?_|refine QV (rr_build rfl build_rule0) ?_|refine QV QL ?_|refine QV QA ?_|refine QV (rr_not rfl rfl) ?_|refine QV QlT ?_|refine QV QlF ?_|refine QV QnT ?_|refine QV QnF ?_|refine QV QaA ?_))
        refine TL_storeB (i := 0) (cs' := #[str [], .slice none 0 0]) rfl rfl rfl rfl rfl rfl ?_
        conv=>arg 8;simp only[zA,zB,zC,zD,zE,zF,zG,zH,zI,rowS,ret,id_eq]
        repeat(first|refine QV QP ?_|refine QZ ?_|refine qcT rfl ?_|refine qcF rfl ?_|refine E_blockX ?_|refine E_blockO rfl ?_|refine qs rfl rfl rfl rfl rfl rfl ?_|((try refine qg rfl rfl rfl ?_);first|refine QV QP ?_|refine QV QL ?_|refine QV QA ?_|refine QV (rr_not rfl rfl) ?_|refine QV QlT ?_|refine QV QlF ?_|refine QV QnT ?_|refine QV QnF ?_|refine QV QaA ?_))
        refine E_nilrow 9 1 ?_
        exact E_retc2 (i := 0) rfl rfl rfl rfl rfl fun w hm => hm.meets (S := ruleSp (([], []), false)) (.slice none 0 0) trivial [2] (by decide) rfl
  · rw [if_neg c0] at hW
    subst hW
    cases b1 with
    | false =>
      repeat(first|refine QV QP ?_|refine QZ ?_|refine qcT rfl ?_|refine qcF rfl ?_|refine E_blockX ?_|refine E_blockO rfl ?_|refine qs rfl rfl rfl rfl rfl rfl ?_|((try refine qg rfl rfl rfl ?_);first|refine QV QP ?_|refine QV (rr_not rfl rfl) ?_|refine QV (rr_build rfl build_rule0) ?_|refine QV QL ?_|refine QV QA ?_|refine QV (rr_not rfl rfl) ?_|refine QV QlT ?_|refine QV QlF ?_|refine QV QnT ?_|refine QV QnF ?_|refine QV QaA ?_))
      refine TL_storeB (i := 0) (cs' := #[str [], .slice none 0 0]) rfl rfl rfl rfl rfl rfl ?_
      conv=>arg 8;simp only[zA,zB,zC,zD,zE,zF,zG,zH,zI,rowS,ret,id_eq]
      repeat(first|refine QV QP ?_|refine QZ ?_|refine qcT rfl ?_|refine qcF rfl ?_|refine E_blockX ?_|refine E_blockO rfl ?_|refine qs rfl rfl rfl rfl rfl rfl ?_|((try refine qg rfl rfl rfl ?_);first|refine QV QP ?_|refine QV QL ?_|refine QV QA ?_|refine QV (rr_not rfl rfl) ?_|refine QV QlT ?_|refine QV QlF ?_|refine QV QnT ?_|refine QV QnF ?_|refine QV QaA ?_))
      refine E_nilrow 9 1 ?_
      exact E_retc2 (i := 0) rfl rfl rfl rfl rfl fun w hm => hm.meets (S := ruleSp (([], []), false)) (.slice none 0 0) trivial [1] (by decide) rfl
    | true =>
      cases ok with
      | false =>
        repeat(first|refine QV QP ?_|refine QZ ?_|refine qcT rfl ?_|refine qcF rfl ?_|refine E_blockX ?_|refine E_blockO rfl ?_|refine qs rfl rfl rfl rfl rfl rfl ?_|((try refine qg rfl rfl rfl ?_);first|refine QV QP ?_|refine QV (rr_not rfl rfl) ?_|refine QV (rr_build rfl build_rule0) ?_|refine QV QL ?_|refine QV QA ?_|refine QV (rr_not rfl rfl) ?_|refine QV QlT ?_|refine QV QlF ?_|refine QV QnT ?_|refine QV QnF ?_|refine QV QaA ?_))
        refine TL_storeB (i := 0) (cs' := #[str [], .slice none 0 0]) rfl rfl rfl rfl rfl rfl ?_
        conv=>arg 8;simp only[zA,zB,zC,zD,zE,zF,zG,zH,zI,rowS,ret,id_eq]
        repeat(first|refine QV QP ?_|refine QZ ?_|refine qcT rfl ?_|refine qcF rfl ?_|refine E_blockX ?_|refine E_blockO rfl ?_|refine qs rfl rfl rfl rfl rfl rfl ?_|((try refine qg rfl rfl rfl ?_);first|refine QV QP ?_|refine QV QL ?_|refine QV QA ?_|refine QV (rr_not rfl rfl) ?_|refine QV QlT ?_|refine QV QlF ?_|refine QV QnT ?_|refine QV QnF ?_|refine QV QaA ?_))
        refine E_nilrow 9 1 ?_
        exact E_retc2 (i := 0) rfl rfl rfl rfl rfl fun w hm => hm.meets (S := ruleSp (([], []), false)) (.slice none 0 0) trivial [1] (by decide) rfl
      | true =>
        have hb : namedB nm = false := by cases hb : namedB nm with
          | false => rfl
          | true => exact absurd ⟨rfl, rfl, hb⟩ c0
        repeat(first|refine QV QP ?_|refine QZ ?_|refine qcT rfl ?_|refine qcF rfl ?_|refine E_blockX ?_|refine E_blockO rfl ?_|refine qs rfl rfl rfl rfl rfl rfl ?_|((try refine qg rfl rfl rfl ?_);first|refine QV QP ?_|refine QV (rr_not rfl rfl) ?_|refine QV QL ?_|refine QV QA ?_|refine QV (rr_not rfl rfl) ?_|refine QV QlT ?_|refine QV QlF ?_|refine QV QnT ?_|refine QV QnF ?_|refine QV QaA ?_))
        refine TL_gcall (he1 EntersC.en rfl rfl) (fun w hm => named_calls nm w) rfl rfl rfl rfl rfl ?_
        intro _ _
        rw [hb]
        conv=>arg 8;simp only[zA,zB,zC,zD,zE,zF,zG,zH,zI,rowS,ret,id_eq]
        repeat(first|refine QV QP ?_|refine QZ ?_|refine qcT rfl ?_|refine qcF rfl ?_|refine E_blockX ?_|refine E_blockO rfl ?_|refine qs rfl rfl rfl rfl rfl rfl ?_|((try refine qg rfl rfl rfl ?_);first|refine QV QP ?_|refine QV (rr_not rfl rfl) ?_|refine QV (rr_build rfl build_rule0) ?_|refine QV QL ?_|refine QV QA ?_|refine QV (rr_not rfl rfl) ?_|refine QV QlT ?_|refine QV QlF ?_|refine QV QnT ?_|refine QV QnF ?_|refine QV QaA ?_))
        refine TL_storeB (i := 0) (cs' := #[str [], .slice none 0 0]) rfl rfl rfl rfl rfl rfl ?_
        conv=>arg 8;simp only[zA,zB,zC,zD,zE,zF,zG,zH,zI,rowS,ret,id_eq]
        repeat(first|refine QV QP ?_|refine QZ ?_|refine qcT rfl ?_|refine qcF rfl ?_|refine E_blockX ?_|refine E_blockO rfl ?_|refine qs rfl rfl rfl rfl rfl rfl ?_|((try refine qg rfl rfl rfl ?_);first|refine QV QP ?_|refine QV QL ?_|refine QV QA ?_|refine QV (rr_not rfl rfl) ?_|refine QV QlT ?_|refine QV QlF ?_|refine QV QnT ?_|refine QV QnF ?_|refine QV QaA ?_))
        refine E_nilrow 9 1 ?_
        exact E_retc2 (i := 0) rfl rfl rfl rfl rfl fun w hm => hm.meets (S := ruleSp (([], []), false)) (.slice none 0 0) trivial [1] (by decide) rfl
end Go.Proofs.YtakiohldgcifeaaDoor.eng


/- SpecC -/
namespace Go.Proofs.YtakiohldgcifeaaDoor.eng
open Go.RowKit kit mix classL rexL specL
theorem heads_cons (r : Rl) (l : List Rl) (of : List Bs) : headsF (r :: l) of = if namedB r.1 = false then 1 else if r.1 ∈ of then 11 else headsF l of := rfl
theorem body_cons (of hd : List Bs) (x : Bs) (l : List Bs) : bodyOk of hd (x :: l) = ((decide (x ∈ of) || decide (x ∈ hd)) && bodyOk of hd l) := rfl
theorem bodies_cons (of hd : List Bs) (r : Rl) (l : List Rl) : bodiesOk of hd (r :: l) = (bodyOk of hd r.2 && bodiesOk of hd l) := rfl
set_option maxHeartbeats 4000000 in
theorem spCheck_calls (v : Value) (s : Sp) (w : World) (h : SpR (Low w) w v s) : Calls Tryd.prog 7 #[v] w (Meets (ret (.int .i64 (checkS s))) w) := by
  obtain ⟨vw, vr, rfl, hw, hr⟩ := h
  have hnm := fun s w => named_calls s w
  have hwd := fun gm w' B ho hl hm => words_calls vw vr s.words gm w hw hl w' B ho hm
  obtain ⟨bw, cw, rfl, -⟩ := hw
  obtain ⟨br, cr, rfl, hcr, hmr, hrr⟩ := hr
  unfold maxLen at hmr
  have hC : checkS s = if 60 < s.words.length ∨ 60 < s.words.length + s.rules.length then 2 else if (wordsF s.words []).1 ≠ 0 then (wordsF s.words []).1 else if headsF s.rules (wordsF s.words []).2 ≠ 0 then headsF s.rules (wordsF s.words []).2 else if bodiesOk (wordsF s.words []).2 (s.rules.map (·.1)) s.rules = true then 0 else 11 := rfl
  obtain ⟨words, rules⟩ := s
  dsimp only at *
  refine enter (args := [.agg #[.slice bw words.length cw, .slice br rules.length cr]]) (n := 99) Tryd.func7 rfl rfl rfl ?_
  refine T_seq (T_region (TL_box rfl rfl rfl fun g1 => ?_))
  conv=>arg 8;simp only[zA,zB,zC,zD,zE,zF,zG,zH,zI,rowS,ret,id_eq]
  by_cases c0 : 60 < words.length
  · rw [if_pos (.inl c0)] at hC
    rw [hC]
    repeat(first|refine QV QP ?_|refine QZ ?_|refine qcT rfl ?_|refine qcF rfl ?_|refine E_blockX ?_|refine E_blockO rfl ?_|refine qs rfl rfl rfl rfl rfl rfl ?_|((try refine qg rfl rfl rfl ?_);first|refine QV QP ?_|refine QV (rr_load1 (v := .slice bw words.length cw) TyC.ty rfl (at_blk (i := 0) rfl rfl)) ?_|refine QV QL ?_|refine QV QA ?_|refine QV (rr_not rfl rfl) ?_|refine QV QlT ?_|refine QV QlF ?_|refine QV QgT ?_|refine QV QgF ?_|refine QV QnT ?_|refine QV QnF ?_|refine QV QaA ?_|refine QV QaS ?_))
    exact E_ret1e rfl rfl rfl
  by_cases c1 : 60 < words.length + rules.length
  · rw [if_pos (.inr c1)] at hC
    rw [hC]
    repeat(first|refine QV QP ?_|refine QZ ?_|refine qcT rfl ?_|refine qcF rfl ?_|refine E_blockX ?_|refine E_blockO rfl ?_|refine qs rfl rfl rfl rfl rfl rfl ?_|((try refine qg rfl rfl rfl ?_);first|refine QV QP ?_|refine QV (rr_load1 (v := .slice bw words.length cw) TyC.ty rfl (at_blk (i := 0) rfl rfl)) ?_|refine QV (rr_load1 (v := .slice br rules.length cr) TyC.ty rfl (at_blk (i := 0) rfl rfl)) ?_|refine QV QL ?_|refine QV QA ?_|refine QV (rr_not rfl rfl) ?_|refine QV QlT ?_|refine QV QlF ?_|refine QV QgT ?_|refine QV QgF ?_|refine QV QnT ?_|refine QV QnF ?_|refine QV QaA ?_|refine QV QaS ?_))
    exact E_ret1e rfl rfl rfl
  rw [if_neg (by omega)] at hC
  rw [hC]
  repeat(first|refine QV QP ?_|refine QZ ?_|refine qcT rfl ?_|refine qcF rfl ?_|refine E_blockX ?_|refine E_blockO rfl ?_|refine qs rfl rfl rfl rfl rfl rfl ?_|((try refine qg rfl rfl rfl ?_);first|refine QV QP ?_|refine QV (rr_load1 (v := .slice bw words.length cw) TyC.ty rfl (at_blk (i := 0) rfl rfl)) ?_|refine QV (rr_load1 (v := .slice br rules.length cr) TyC.ty rfl (at_blk (i := 0) rfl rfl)) ?_|refine QV QL ?_|refine QV QA ?_|refine QV (rr_not rfl rfl) ?_|refine QV QlT ?_|refine QV QlF ?_|refine QV QgT ?_|refine QV QgF ?_|refine QV QnT ?_|refine QV QnF ?_|refine QV QaA ?_|refine QV QaS ?_))
  refine TL_map strK rfl fun g3 => ?_
  conv=>arg 8;simp only[zA,zB,zC,zD,zE,zF,zG,zH,zI,rowS,ret,id_eq]
  refine TL_map strK rfl fun g4 => ?_
  conv=>arg 8;simp only[zA,zB,zC,zD,zE,zF,zG,zH,zI,rowS,ret,id_eq]
  repeat(first|refine QV QP ?_|refine QZ ?_|refine qcT rfl ?_|refine qcF rfl ?_|refine E_blockX ?_|refine E_blockO rfl ?_|refine qs rfl rfl rfl rfl rfl rfl ?_|((try refine qg rfl rfl rfl ?_);first|refine QV QP ?_|refine QV (rr_loadB (i := 0) TyC.ty rfl rfl rfl) ?_|refine QV QL ?_|refine QV QA ?_|refine QV (rr_not rfl rfl) ?_|refine QV QlT ?_|refine QV QlF ?_|refine QV QgT ?_|refine QV QgF ?_|refine QV QnT ?_|refine QV QnF ?_|refine QV QaA ?_|refine QV QaS ?_))
  refine TL_callB [1] [0, 2] (by decide) rfl rfl (he2 EntersC.en rfl rfl rfl) (fun w' hm' hb => hwd g3 w' _ (Old.on (Old.self w) hm' (fun o ho => by simp at ho; subst ho; simp)) (by omega) hb) rfl rfl rfl ?_
  rintro ⟨m, n⟩ ⟨k1, k2⟩
  conv=>arg 8;simp only[zA,zB,zC,zD,zE,zF,zG,zH,zI,rowS,ret,id_eq, wordsS]
  conv => arg 7; simp only [wordsS]
  generalize wordsF words [] = W at *
  obtain ⟨e, of⟩ := W
  dsimp only at k1 k2 ⊢
  by_cases e0 : e = 0
  · subst e0
    rw [if_neg (by simp)]
    repeat(first|refine QV QP ?_|refine QZ ?_|refine qcT rfl ?_|refine qcF rfl ?_|refine E_blockX ?_|refine E_blockO rfl ?_|refine qs rfl rfl rfl rfl rfl rfl ?_|((try refine qg rfl rfl rfl ?_);first|refine QV QP ?_|refine QV (rr_load1 (v := .slice br rules.length cr) TyC.ty rfl (at_blk (i := 0) rfl rfl)) ?_|refine QV QL ?_|refine QV QA ?_|refine QV (rr_not rfl rfl) ?_|refine QV QlT ?_|refine QV QlF ?_|refine QV QgT ?_|refine QV QgF ?_|refine QV QnT ?_|refine QV QnF ?_|refine QV QaA ?_|refine QV QaS ?_))
    generalize hfin : headsF rules of = fin
    refine T_loop (ι := Nat × (Bs → Option Value) × Nat) (fun (k, m2, n2) => k ≤ rules.length ∧ n2 ≤ k ∧ KeysOf m2 ((rules.take k).map (·.1)) ∧ headsF (rules.drop k) of = fin) (fun (k, _, _) => [(1, .pointer (some ⟨g1, 0, none⟩)), (3, .map (some g3)), (4, .map (some g4)), (41, .slice br rules.length cr), (42, .int .i64 rules.length), (43, .int .i64 (k : Int))])
      (fun (_, m2, n2) => [blkO g1 #[.slice bw words.length cw, .slice br rules.length cr] 25, mapO strK g4 m2 n2, mapO strK g3 m n]) (fun (k, _) => rules.length - k) (0, fun _ => none, 0) ⟨Nat.zero_le _, Nat.le_refl _, fun y => rfl, hfin⟩ (by repeat' (first | exact True.intro | refine And.intro rfl ?_)) rfl ?_
    rintro ⟨k, m2, n2⟩ ⟨i1, i2, i3, i4⟩
    dsimp only at i1 i2 i3 i4 ⊢
    by_cases c2 : k < rules.length
    · obtain ⟨b, off, rfl, _, hrd⟩ := hrr (by omega)
      obtain ⟨bk, ck, q1, -, q3⟩ := rule_at hrd c2
      rw [List.drop_eq_getElem_cons c2, heads_cons] at i4
      have htk : (rules.take (k + 1)).map (·.1) = (rules.take k).map (·.1) ++ [rules[k].1] := by rw [List.take_succ_eq_append_getElem c2, List.map_append]; rfl
      have hat : ∀ (L : List Own) (j : Nat) (u : Value), ([str rules[k].1, .slice bk rules[k].2.length ck] : List Value)[j]? = some u → At w L ⟨b, off + k * 2 + j, none⟩ u := fun L j u hj => at_old (q1 j u hj)
      clear hrd q1
      generalize rules[k] = r at *
      obtain ⟨nm, bd⟩ := r
      dsimp only at *
      generalize bd.length = bn at *
      repeat(first|refine QV QP ?_|refine QZ ?_|refine qcT rfl ?_|refine qcF rfl ?_|refine E_blockX ?_|refine E_blockO rfl ?_|refine qs rfl rfl rfl rfl rfl rfl ?_|((try refine qg rfl rfl rfl ?_);first|refine QV QP ?_|refine QV (rr_idxc Und.eq TyC.ty rfl rfl c2) ?_|refine QV (rr_loadN (cs := [str nm, .slice bk bn ck]) TyC.ty rfl rfl (hat _)) ?_|refine QV QL ?_|refine QV QA ?_|refine QV (rr_not rfl rfl) ?_|refine QV QlT ?_|refine QV QlF ?_|refine QV QgT ?_|refine QV QgF ?_|refine QV QnT ?_|refine QV QnF ?_|refine QV QaA ?_|refine QV QaS ?_))
      clear hat
      refine TL_new rfl fun g7 => ?_
      conv=>arg 8;simp only[zA,zB,zC,zD,zE,zF,zG,zH,zI,rowS,ret,id_eq]
      repeat(first|refine QV QP ?_|refine QZ ?_|refine qcT rfl ?_|refine qcF rfl ?_|refine E_blockX ?_|refine E_blockO rfl ?_|refine qs rfl rfl rfl rfl rfl rfl ?_|((try refine qg rfl rfl rfl ?_);first|refine QV QP ?_|refine QV QL ?_|refine QV QA ?_|refine QV (rr_not rfl rfl) ?_|refine QV QlT ?_|refine QV QlF ?_|refine QV QgT ?_|refine QV QgF ?_|refine QV QnT ?_|refine QV QnF ?_|refine QV QaA ?_|refine QV QaS ?_))
      refine TL_storeB (i := 3) (cs' := #[str nm, .slice bk bn ck]) rfl rfl rfl rfl rfl rfl ?_
      conv=>arg 8;simp only[zA,zB,zC,zD,zE,zF,zG,zH,zI,rowS,ret,id_eq]
      repeat(first|refine QV QP ?_|refine QZ ?_|refine qcT rfl ?_|refine qcF rfl ?_|refine E_blockX ?_|refine E_blockO rfl ?_|refine qs rfl rfl rfl rfl rfl rfl ?_|((try refine qg rfl rfl rfl ?_);first|refine QV QP ?_|refine QV (rr_load1 (v := str nm) TyC.ty rfl (at_blk (i := 3) rfl rfl)) ?_|refine QV QL ?_|refine QV QA ?_|refine QV (rr_not rfl rfl) ?_|refine QV QlT ?_|refine QV QlF ?_|refine QV QgT ?_|refine QV QgF ?_|refine QV QnT ?_|refine QV QnF ?_|refine QV QaA ?_|refine QV QaS ?_))
      refine TL_call (he1 EntersC.en rfl rfl) (fun w hm => hnm nm w) rfl rfl rfl ?_
      intro _ _
      conv=>arg 8;simp only[zA,zB,zC,zD,zE,zF,zG,zH,zI,rowS,ret,id_eq]
      cases hb : namedB nm with
      | false =>
        rw [if_pos hb] at i4
        subst i4
        rw [if_pos (by decide)]
        repeat(first|refine QV QP ?_|refine QZ ?_|refine qcT rfl ?_|refine qcF rfl ?_|refine E_blockX ?_|refine E_blockO rfl ?_|refine qs rfl rfl rfl rfl rfl rfl ?_|((try refine qg rfl rfl rfl ?_);first|refine QV QP ?_|refine QV (rr_not rfl rfl) ?_|refine QV QL ?_|refine QV QA ?_|refine QV (rr_not rfl rfl) ?_|refine QV QlT ?_|refine QV QlF ?_|refine QV QgT ?_|refine QV QgF ?_|refine QV QnT ?_|refine QV QnF ?_|refine QV QaA ?_|refine QV QaS ?_))
        exact E_ret1e rfl rfl rfl
      | true =>
        rw [if_neg (by rw [hb]; decide)] at i4
        cases hmn : m nm with
        | some u =>
          rw [if_pos (keys_some k1 hmn)] at i4
          subst i4
          rw [if_pos (by decide)]
          repeat(first|refine QV QP ?_|refine QZ ?_|refine qcT rfl ?_|refine qcF rfl ?_|refine E_blockX ?_|refine E_blockO rfl ?_|refine qs rfl rfl rfl rfl rfl rfl ?_|((try refine qg rfl rfl rfl ?_);first|refine QV QP ?_|refine QV (rr_not rfl rfl) ?_|refine QV (rr_load1 (v := str nm) TyC.ty rfl (at_blk (i := 3) rfl rfl)) ?_|refine QV (rr_lookOkS strK (x := nm) Und.eq zero_int1 (i := 2) rfl rfl rfl q3 hmn) ?_|refine QV QL ?_|refine QV QA ?_|refine QV (rr_not rfl rfl) ?_|refine QV QlT ?_|refine QV QlF ?_|refine QV QgT ?_|refine QV QgF ?_|refine QV QnT ?_|refine QV QnF ?_|refine QV QaA ?_|refine QV QaS ?_))
          exact E_ret1e rfl rfl rfl
        | none =>
          rw [if_neg (keys_none k1 hmn)] at i4
          repeat(first|refine QV QP ?_|refine QZ ?_|refine qcT rfl ?_|refine qcF rfl ?_|refine E_blockX ?_|refine E_blockO rfl ?_|refine qs rfl rfl rfl rfl rfl rfl ?_|((try refine qg rfl rfl rfl ?_);first|refine QV QP ?_|refine QV (rr_not rfl rfl) ?_|refine QV (rr_load1 (v := str nm) TyC.ty rfl (at_blk (i := 3) rfl rfl)) ?_|refine QV (rr_lookOkN strK (x := nm) Und.eq zero_int1 (i := 2) rfl rfl rfl q3 hmn) ?_|refine QV QL ?_|refine QV QA ?_|refine QV (rr_not rfl rfl) ?_|refine QV QlT ?_|refine QV QlF ?_|refine QV QgT ?_|refine QV QgF ?_|refine QV QnT ?_|refine QV QnF ?_|refine QV QaA ?_|refine QV QaS ?_))
          refine TL_mapSet (i := 1) (x := nm) (v := .int .i64 (k : Int)) strK Und.eq rfl rfl rfl rfl q3 (by omega) ?_
          conv=>arg 8;simp only[zA,zB,zC,zD,zE,zF,zG,zH,zI,rowS,ret,id_eq]
          repeat(first|refine QV QP ?_|refine QZ ?_|refine qcT rfl ?_|refine qcF rfl ?_|refine E_blockX ?_|refine E_blockO rfl ?_|refine qs rfl rfl rfl rfl rfl rfl ?_|((try refine qg rfl rfl rfl ?_);first|refine QV QP ?_|refine QV QL ?_|refine QV QA ?_|refine QV (rr_not rfl rfl) ?_|refine QV QlT ?_|refine QV QlF ?_|refine QV QgT ?_|refine QV QgF ?_|refine QV QnT ?_|refine QV QnF ?_|refine QV QaA ?_|refine QV QaS ?_))
          refine E_pick [0, 1, 2] (by decide) rfl ?_
          exact E_round (k + 1, _, _) ⟨by omega, by show (if (m2 nm).isSome then n2 else n2 + 1) ≤ k + 1; split <;> omega, by show KeysOf _ ((rules.take (k + 1)).map (·.1)); rw [htk]; exact keys_put i3, i4⟩ (by show rules.length - (k + 1) < rules.length - k; omega) (by repeat' (first | exact True.intro | refine And.intro rfl ?_)) rfl
    · obtain rfl : k = rules.length := by omega
      rw [List.drop_length] at i4
      subst i4
      rw [List.take_length] at i3
      rw [if_neg (by simp [headsF])]
      generalize rules.map (·.1) = hd at *
      repeat(first|refine QV QP ?_|refine QZ ?_|refine qcT rfl ?_|refine qcF rfl ?_|refine E_blockX ?_|refine E_blockO rfl ?_|refine qs rfl rfl rfl rfl rfl rfl ?_|((try refine qg rfl rfl rfl ?_);first|refine QV QP ?_|refine QV (rr_load1 (v := .slice br rules.length cr) TyC.ty rfl (at_blk (i := 0) rfl rfl)) ?_|refine QV QL ?_|refine QV QA ?_|refine QV (rr_not rfl rfl) ?_|refine QV QlT ?_|refine QV QlF ?_|refine QV QgT ?_|refine QV QgF ?_|refine QV QnT ?_|refine QV QnF ?_|refine QV QaA ?_|refine QV QaS ?_))
      refine T_pick [1, 2] (by decide) rfl ?_
      generalize hfin : bodiesOk of hd rules = fin
      refine T_loop (ι := Nat) (fun k => k ≤ rules.length ∧ bodiesOk of hd (rules.drop k) = fin) (fun k => [(3, .map (some g3)), (4, .map (some g4)), (66, .slice br rules.length cr), (67, .int .i64 rules.length), (68, .int .i64 (k : Int))])
        (fun _ => [mapO strK g4 m2 n2, mapO strK g3 m n]) (fun k => rules.length - k) 0 ⟨Nat.zero_le _, hfin⟩ (by repeat' (first | exact True.intro | refine And.intro rfl ?_)) rfl ?_
      rintro k ⟨i5, i6⟩
      by_cases c2 : k < rules.length
      · obtain ⟨b, off, rfl, _, hrd⟩ := hrr (by omega)
        obtain ⟨bk, ck, q1, q2, q3⟩ := rule_at hrd c2
        rw [List.drop_eq_getElem_cons c2, bodies_cons] at i6
        have hat : ∀ (L : List Own) (j : Nat) (u : Value), ([str rules[k].1, .slice bk rules[k].2.length ck] : List Value)[j]? = some u → At w L ⟨b, off + k * 2 + j, none⟩ u := fun L j u hj => at_old (q1 j u hj)
        have hsl := q2.flat (by decide)
        have hok := q2.okp
        clear hrd q1 q2
        generalize rules[k] = r at *
        obtain ⟨nm, bd⟩ := r
        dsimp only at *
        obtain ⟨b2, c2', hv2, hc2, hm2, hrd2⟩ := hsl
        cases hv2
        unfold maxLen at hm2
        repeat(first|refine QV QP ?_|refine QZ ?_|refine qcT rfl ?_|refine qcF rfl ?_|refine E_blockX ?_|refine E_blockO rfl ?_|refine qs rfl rfl rfl rfl rfl rfl ?_|((try refine qg rfl rfl rfl ?_);first|refine QV QP ?_|refine QV (rr_idxc Und.eq TyC.ty rfl rfl c2) ?_|refine QV (rr_loadN (cs := [str nm, .slice bk bd.length ck]) TyC.ty rfl rfl (hat _)) ?_|refine QV QL ?_|refine QV QA ?_|refine QV (rr_not rfl rfl) ?_|refine QV QlT ?_|refine QV QlF ?_|refine QV QgT ?_|refine QV QgF ?_|refine QV QnT ?_|refine QV QnF ?_|refine QV QaA ?_|refine QV QaS ?_))
        clear hat
        refine TL_new rfl fun g11 => ?_
        conv=>arg 8;simp only[zA,zB,zC,zD,zE,zF,zG,zH,zI,rowS,ret,id_eq]
        refine TL_storeB (i := 2) (cs' := #[str nm, .slice bk bd.length ck]) rfl rfl rfl rfl rfl rfl ?_
        conv=>arg 8;simp only[zA,zB,zC,zD,zE,zF,zG,zH,zI,rowS,ret,id_eq]
        repeat(first|refine QV QP ?_|refine QZ ?_|refine qcT rfl ?_|refine qcF rfl ?_|refine E_blockX ?_|refine E_blockO rfl ?_|refine qs rfl rfl rfl rfl rfl rfl ?_|((try refine qg rfl rfl rfl ?_);first|refine QV QP ?_|refine QV (rr_load1 (v := .slice bk bd.length ck) TyC.ty rfl (at_blk (i := 2) rfl rfl)) ?_|refine QV QL ?_|refine QV QA ?_|refine QV (rr_not rfl rfl) ?_|refine QV QlT ?_|refine QV QlF ?_|refine QV QgT ?_|refine QV QgF ?_|refine QV QnT ?_|refine QV QnF ?_|refine QV QaA ?_|refine QV QaS ?_))
        refine T_pick [0, 1] (by decide) rfl ?_
        generalize hfin2 : bodyOk of hd bd = fin2 at i6
        refine T_loop (ι := Nat) (fun i => i ≤ bd.length ∧ bodyOk of hd (bd.drop i) = fin2) (fun i => [(3, .map (some g3)), (4, .map (some g4)), (66, .slice (some ⟨b, off, none⟩) rules.length cr), (67, .int .i64 rules.length), (68, .int .i64 (k : Int)), (73, .slice bk bd.length ck), (74, .int .i64 bd.length), (75, .int .i64 (i : Int))])
          (fun _ => [mapO strK g4 m2 n2, mapO strK g3 m n]) (fun i => bd.length - i) 0 ⟨Nat.zero_le _, hfin2⟩ (by repeat' (first | exact True.intro | refine And.intro rfl ?_)) rfl ?_
        rintro i ⟨i7, i8⟩
        by_cases c3 : i < bd.length
        · obtain ⟨b3, off3, rfl, hr3⟩ := hrd2 (by omega)
          have hat := at_el (L := ([mapO strK g4 m2 n2, mapO strK g3 m n] : List Own)) bsC_len hr3 c3 0 _ rfl
          rw [List.drop_eq_getElem_cons c3, body_cons] at i8
          have hlen := hok bd[i] (List.getElem_mem c3)
          clear hr3 hok hrd2
          generalize bd[i] = x at *
          repeat(first|refine QV QP ?_|refine QZ ?_|refine qcT rfl ?_|refine qcF rfl ?_|refine E_blockX ?_|refine E_blockO rfl ?_|refine qs rfl rfl rfl rfl rfl rfl ?_|((try refine qg rfl rfl rfl ?_);first|refine QV QP ?_|refine QV (rr_idxc Und.eq TyC.ty rfl rfl c3) ?_|refine QV (rr_load1 (v := str x) TyC.ty rfl hat) ?_|refine QV QL ?_|refine QV QA ?_|refine QV (rr_not rfl rfl) ?_|refine QV QlT ?_|refine QV QlF ?_|refine QV QgT ?_|refine QV QgF ?_|refine QV QnT ?_|refine QV QnF ?_|refine QV QaA ?_|refine QV QaS ?_))
          cases hmn : m x with
          | some u =>
            rw [decide_eq_true (keys_some k1 hmn), Bool.true_or, Bool.true_and] at i8
            cases hmn2 : m2 x with
            | some u2 =>
              repeat(first|refine QV QP ?_|refine QZ ?_|refine qcT rfl ?_|refine qcF rfl ?_|refine E_blockX ?_|refine E_blockO rfl ?_|refine qs rfl rfl rfl rfl rfl rfl ?_|((try refine qg rfl rfl rfl ?_);first|refine QV QP ?_|refine QV (rr_not rfl rfl) ?_|refine QV (rr_lookOkS strK (x := x) Und.eq zero_int1 (i := 1) rfl rfl rfl hlen hmn) ?_|refine QV (rr_lookOkS strK (x := x) Und.eq zero_int1 (i := 0) rfl rfl rfl hlen hmn2) ?_|refine QV QL ?_|refine QV QA ?_|refine QV (rr_not rfl rfl) ?_|refine QV QlT ?_|refine QV QlF ?_|refine QV QgT ?_|refine QV QgF ?_|refine QV QnT ?_|refine QV QnF ?_|refine QV QaA ?_|refine QV QaS ?_))
              exact E_round (i + 1) ⟨by omega, i8⟩ (by show bd.length - (i + 1) < bd.length - i; omega) (by repeat' (first | exact True.intro | refine And.intro rfl ?_)) rfl
            | none =>
              repeat(first|refine QV QP ?_|refine QZ ?_|refine qcT rfl ?_|refine qcF rfl ?_|refine E_blockX ?_|refine E_blockO rfl ?_|refine qs rfl rfl rfl rfl rfl rfl ?_|((try refine qg rfl rfl rfl ?_);first|refine QV QP ?_|refine QV (rr_not rfl rfl) ?_|refine QV (rr_lookOkS strK (x := x) Und.eq zero_int1 (i := 1) rfl rfl rfl hlen hmn) ?_|refine QV (rr_lookOkN strK (x := x) Und.eq zero_int1 (i := 0) rfl rfl rfl hlen hmn2) ?_|refine QV QL ?_|refine QV QA ?_|refine QV (rr_not rfl rfl) ?_|refine QV QlT ?_|refine QV QlF ?_|refine QV QgT ?_|refine QV QgF ?_|refine QV QnT ?_|refine QV QnF ?_|refine QV QaA ?_|refine QV QaS ?_))
              exact E_round (i + 1) ⟨by omega, i8⟩ (by show bd.length - (i + 1) < bd.length - i; omega) (by repeat' (first | exact True.intro | refine And.intro rfl ?_)) rfl
          | none =>
            cases hmn2 : m2 x with
            | some u2 =>
              rw [decide_eq_true (keys_some i3 hmn2), Bool.or_true, Bool.true_and] at i8
              repeat(first|refine QV QP ?_|refine QZ ?_|refine qcT rfl ?_|refine qcF rfl ?_|refine E_blockX ?_|refine E_blockO rfl ?_|refine qs rfl rfl rfl rfl rfl rfl ?_|((try refine qg rfl rfl rfl ?_);first|refine QV QP ?_|refine QV (rr_not rfl rfl) ?_|refine QV (rr_lookOkN strK (x := x) Und.eq zero_int1 (i := 1) rfl rfl rfl hlen hmn) ?_|refine QV (rr_lookOkS strK (x := x) Und.eq zero_int1 (i := 0) rfl rfl rfl hlen hmn2) ?_|refine QV QL ?_|refine QV QA ?_|refine QV (rr_not rfl rfl) ?_|refine QV QlT ?_|refine QV QlF ?_|refine QV QgT ?_|refine QV QgF ?_|refine QV QnT ?_|refine QV QnF ?_|refine QV QaA ?_|refine QV QaS ?_))
              exact E_round (i + 1) ⟨by omega, i8⟩ (by show bd.length - (i + 1) < bd.length - i; omega) (by repeat' (first | exact True.intro | refine And.intro rfl ?_)) rfl
            | none =>
              rw [decide_eq_false (keys_none k1 hmn), decide_eq_false (keys_none i3 hmn2), Bool.or_false, Bool.false_and] at i8
              subst i8
              rw [Bool.false_and] at i6
              rw [← i6, if_neg (by decide)]
              repeat(first|refine QV QP ?_|refine QZ ?_|refine qcT rfl ?_|refine qcF rfl ?_|refine E_blockX ?_|refine E_blockO rfl ?_|refine qs rfl rfl rfl rfl rfl rfl ?_|((try refine qg rfl rfl rfl ?_);first|refine QV QP ?_|refine QV (rr_not rfl rfl) ?_|refine QV (rr_lookOkN strK (x := x) Und.eq zero_int1 (i := 1) rfl rfl rfl hlen hmn) ?_|refine QV (rr_lookOkN strK (x := x) Und.eq zero_int1 (i := 0) rfl rfl rfl hlen hmn2) ?_|refine QV QL ?_|refine QV QA ?_|refine QV (rr_not rfl rfl) ?_|refine QV QlT ?_|refine QV QlF ?_|refine QV QgT ?_|refine QV QgF ?_|refine QV QnT ?_|refine QV QnF ?_|refine QV QaA ?_|refine QV QaS ?_))
              exact E_ret1e rfl rfl rfl
        · obtain rfl : i = bd.length := by omega
          rw [List.drop_length] at i8
          have i8 : true = fin2 := i8
          rw [← i8, Bool.true_and] at i6
          repeat(first|refine QV QP ?_|refine QZ ?_|refine qcT rfl ?_|refine qcF rfl ?_|refine E_blockX ?_|refine E_blockO rfl ?_|refine qs rfl rfl rfl rfl rfl rfl ?_|((try refine qg rfl rfl rfl ?_);first|refine QV QP ?_|refine QV QL ?_|refine QV QA ?_|refine QV (rr_not rfl rfl) ?_|refine QV QlT ?_|refine QV QlF ?_|refine QV QgT ?_|refine QV QgF ?_|refine QV QnT ?_|refine QV QnF ?_|refine QV QaA ?_|refine QV QaS ?_))
          exact E_round (k + 1) ⟨by omega, i6⟩ (by show rules.length - (k + 1) < rules.length - k; omega) (by repeat' (first | exact True.intro | refine And.intro rfl ?_)) rfl
      · obtain rfl : k = rules.length := by omega
        rw [List.drop_length] at i6
        have i6 : true = fin := i6
        rw [← i6, if_pos rfl]
        repeat(first|refine QV QP ?_|refine QZ ?_|refine qcT rfl ?_|refine qcF rfl ?_|refine E_blockX ?_|refine E_blockO rfl ?_|refine qs rfl rfl rfl rfl rfl rfl ?_|((try refine qg rfl rfl rfl ?_);first|refine QV QP ?_|refine QV QL ?_|refine QV QA ?_|refine QV (rr_not rfl rfl) ?_|refine QV QlT ?_|refine QV QlF ?_|refine QV QgT ?_|refine QV QgF ?_|refine QV QnT ?_|refine QV QnF ?_|refine QV QaA ?_|refine QV QaS ?_))
        exact E_ret1e rfl rfl rfl
  · rw [if_pos e0]
    repeat(first|refine QV QP ?_|refine QZ ?_|refine qcT rfl ?_|refine qcF rfl ?_|refine E_blockX ?_|refine E_blockO rfl ?_|refine qs rfl rfl rfl rfl rfl rfl ?_|((try refine qg rfl rfl rfl ?_);first|refine QV QP ?_|refine QV (rr_neq (b := true) rfl rfl (decide_eq_true e0)) ?_|refine QV QL ?_|refine QV QA ?_|refine QV (rr_not rfl rfl) ?_|refine QV QlT ?_|refine QV QlF ?_|refine QV QgT ?_|refine QV QgF ?_|refine QV QnT ?_|refine QV QnF ?_|refine QV QaA ?_|refine QV QaS ?_))
    exact E_ret1e rfl rfl rfl
end Go.Proofs.YtakiohldgcifeaaDoor.eng


/- SpecR -/
namespace Go.Proofs.YtakiohldgcifeaaDoor.eng
open Go.RowKit kit mix classL rexL specL
open gramL (cutF)
def wdsO (F : Nat → Prop) (v : Value) (l : List Wd) : Own := shpO (sliceS wordS) F [v] l
def rlsO (F : Nat → Prop) (v : Value) (l : List Rl) : Own := shpO (sliceS ruleS) F [v] l
structure SpX where
  vw : Value
  FW : Nat → Prop
  vr : Value
  FR : Nat → Prop
def redSp (R : Sp × Int × Int) : Spec SpX := ⟨fun x => (∃ b n c, x.vw = .slice b n c) ∧ ∃ b n c, x.vr = .slice b n c, fun x => .tuple #[.agg #[x.vw, x.vr], .int .i64 R.2.1, .int .i64 R.2.2], fun x => [wdsO x.FW x.vw R.1.words, rlsO x.FR x.vr R.1.rules]⟩
theorem shp_slf {α : Type} {s : Shp α} {F : Nat → Prop} {v : Value} {l : List α} {w : World} (h : (shpO (sliceS s) F [v] l).holds w) : SlF s (Low w) w v l := by
  obtain ⟨⟨v', e, h1⟩, h2⟩ := h
  cases e
  exact h1.mono h2
theorem shp_nil {α : Type} (s : Shp α) (w : World) : (shpO (sliceS s) (fun _ => False) [.slice none 0 0] []).holds w := ⟨⟨_, rfl, SlF.nil⟩, fun k h => h.elim⟩
/-- rows and what they lead to, seen as one -/
theorem shp_of {α : Type} {s : Shp α} {F : Nat → Prop} {v : Value} {e : TypeId} {l : List α} {css : List (List Value)} {n : Nat} {w : World} (hn : n = l.length) (hr : (rowO e s.c v n css.flatten).holds w) (he : (elsO s F css l).holds w) (h0 : 0 < s.c) : (shpO (sliceS s) (Or1 F v) [v] l).holds w := by
  subst hn
  exact ⟨⟨v, rfl, slf_of hr he h0⟩, slO_lt hr he⟩
theorem shp_foot {α : Type} {s : Shp α} {F : Nat → Prop} {v : Value} {e : TypeId} {c n : Nat} {xs : List Value} {l : List α} {css : List (List Value)} (k : Nat) (h : (shpO (sliceS s) (Or1 F v) [v] l).foot k) : (rowO e c v n xs).foot k ∨ (elsO s F css l).foot k :=
  h.elim (fun h => by cases h) fun h => h.elim (fun h => .inr (.inr h)) fun h => .inl (.inl h)
theorem word_is {F : Nat → Prop} {w : World} {n : Bs} {r : Rx} {v : Value} (hn : n.length ≤ 9223372036854775807) (hk : kit.okI64 r.kind) (h : (rkO F v r.kids).holds w) : wordS.is F w (wdC n r.kind r.cls v) (n, r) := by
  obtain ⟨⟨v', e, h1⟩, h2⟩ := h
  cases e
  refine ⟨[str n], rexC r.kind r.cls v, rfl, ⟨rfl, hn⟩, ?_⟩
  obtain ⟨k, c, kids⟩ := r
  exact rex_iff.2 ⟨v, rfl, hk, h1⟩
theorem rule_is {w : World} {n : Bs} {l : List Bs} {v : Value} (hn : n.length ≤ 9223372036854775807) (hl : ∀ x ∈ l, x.length ≤ 9223372036854775807) (h : (rowO 9 1 v l.length (l.flatMap bsC)).holds w) : ruleS.is (fun k => v.ownBlock = some k) w [str n, v] (n, l) :=
  ⟨[str n], [v], rfl, ⟨rfl, hn⟩, v, rfl, SlF.of_flat (Sl.of_own h) hl (fun _ h => h) fun a n cp hv => by rw [hv]; rfl⟩
theorem row_frm {e : TypeId} {size n : Nat} {v : Value} {xs : List Value} (w : World) (h : (rowO e size v n xs).holds w) : ∃ b c, v = .slice b n c := by
  rcases h.2 with ⟨hv, h0⟩ | ⟨g, cap, cs, hv, _⟩
  · exact ⟨none, 0, by rw [hv, h0]⟩
  · exact ⟨_, _, hv⟩
theorem build_spec0 (w : World) : (Instr.build 25 (#[] : Array (Nat × Value))).run Tryd.prog w = .ok (.agg #[.slice none 0 0, .slice none 0 0]) w := by kernel_rfl
/-- what Read says, the lines being read -/
def rdF (X : (List Wd × List Rl) × Int × Int) : Sp × Int × Int := if X.2.2 ≠ 0 then (⟨[], []⟩, X.2) else if checkS ⟨X.1.1, X.1.2⟩ ≠ 0 then (⟨[], []⟩, 0, checkS ⟨X.1.1, X.1.2⟩) else (⟨X.1.1, X.1.2⟩, 0, 0)
theorem rd_err {X : (List Wd × List Rl) × Int × Int} (h : X.2.2 ≠ 0) : rdF X = (⟨[], []⟩, X.2) := if_pos h
theorem lines_cons (f : Nat) (b : UInt8) (r : Bs) (a : Int) (ws : List Wd) (rs : List Rl) : spLines (f + 1) (b :: r) a ws rs = if (cutF 10 (b :: r)).2.2 = false then ((ws, rs), a, 6)
    else if errW (cutF 10 (b :: r)).1 rs.length ≠ 0 then ((ws, rs), a, errW (cutF 10 (b :: r)).1 rs.length)
    else if (spWord (cutF 10 (b :: r)).1).2.1 = true then spLines f (cutF 10 (b :: r)).2.1 (a + 1) (ws ++ [(spWord (cutF 10 (b :: r)).1).1]) rs
    else if (spRule (cutF 10 (b :: r)).1).2 = true then spLines f (cutF 10 (b :: r)).2.1 (a + 1) ws (rs ++ [(spRule (cutF 10 (b :: r)).1).1])
    else ((ws, rs), a, 6) := rfl
theorem spWord_name {line : Bs} : (spWord line).1.1.length ≤ 12 := by
  unfold spWord
  split
  · exact Nat.zero_le _
  · split
    · split
      · rename_i h
        have := h.2
        unfold namedB at this
        simp only [Bool.and_eq_true, decide_eq_true_eq] at this
        exact this.1.2
      · exact Nat.zero_le _
    · exact Nat.zero_le _
theorem named_le {s : Bs} (h : namedB s = true) : s.length ≤ 9223372036854775807 := by
  unfold namedB at h
  simp only [Bool.and_eq_true, decide_eq_true_eq] at h
  have := h.1.2
  omega
theorem spRule_ok {line : Bs} (h : (spRule line).2 = true) : (spRule line).1.1.length ≤ 9223372036854775807 ∧ ∀ x ∈ (spRule line).1.2, x.length ≤ 9223372036854775807 := by
  unfold spRule at h ⊢
  split at h
  · rename_i c
    rw [if_pos c]
    cases hb : spBody (cutE (preF ruT line).1).2.1 with
    | none => rw [hb] at h; cases h
    | some l =>
      refine ⟨named_le c.2.2, fun x hx => ?_⟩
      have hx : x ∈ l := hx
      unfold spBody at hb
      split at hb
      · cases hb; cases hx
      · split at hb
        · cases hb
        · split at hb
          · rename_i ha
            cases hb
            exact named_le (List.all_eq_true.1 ha x hx)
          · cases hb
  · cases h
set_option maxHeartbeats 8000000 in
theorem spRead_calls (text : Bs) (w : World) (hM : MaxL w) : Calls Tryd.prog 8 #[str text] w (Meets (redSp (readS text)) w) := by
  have hR : readS text = if 4096 < text.length then (⟨[], []⟩, 0, 2) else rdF (spLines text.length text 1 [] []) := rfl
  have hnW : ∀ k, ¬ (wdsO (fun _ => False) (.slice none 0 0) []).foot k := fun k h => h.elim (fun h => by cases h) id
  have hnR : ∀ k, ¬ (rlsO (fun _ => False) (.slice none 0 0) []).foot k := fun k h => h.elim (fun h => by cases h) id
  have hzW : ∀ w, (wdsO (fun _ => False) (.slice none 0 0) []).holds w := fun w => shp_nil wordS w
  have hzR : ∀ w, (rlsO (fun _ => False) (.slice none 0 0) []).holds w := fun w => shp_nil ruleS w
  have hE : ∀ (a e : Int) (w' : World) (L : List Own) (i j : Nat) (hm : Mem (w : Base) L w') (hi : L[i]? = some (wdsO (fun _ => False) (.slice none 0 0) [])) (hj : L[j]? = some (rlsO (fun _ => False) (.slice none 0 0) [])) (hij : [i, j].Nodup), Meets (redSp (⟨[], []⟩, a, e)) w (.returned (.tuple #[.agg #[.slice none 0 0, .slice none 0 0], .int .i64 a, .int .i64 e])) w' := fun a e w' L i j hm hi hj hij =>
    hm.meets (S := redSp (⟨[], []⟩, a, e)) ⟨.slice none 0 0, fun _ => False, .slice none 0 0, fun _ => False⟩ ⟨⟨_, _, _, rfl⟩, _, _, _, rfl⟩ [i, j] hij (by simp only [List.filterMap_cons, hi, hj, List.filterMap_nil]; rfl)
  generalize readS text = R at *
  refine enter (args := [str text]) (n := 81) Tryd.func8 rfl rfl rfl ?_
  refine T_seq (T_region (TL_new rfl fun g2 => ?_))
  conv=>arg 8;simp only[zA,zB,zC,zD,zE,zF,zG,zH,zI,rowS,ret,id_eq]
  by_cases c0 : 4096 < text.length
  · rw [if_pos c0] at hR
    subst hR
    repeat(first|refine QV QP ?_|refine QZ ?_|refine qcT rfl ?_|refine qcF rfl ?_|refine E_blockX ?_|refine E_blockO rfl ?_|refine qs rfl rfl rfl rfl rfl rfl ?_|((try refine qg rfl rfl rfl ?_);first|refine QV QP ?_|refine QV QS ?_|refine QV (rr_build rfl build_spec0) ?_|refine QV QS ?_|refine QV QA ?_|refine QV (rr_not rfl rfl) ?_|refine QV QgT ?_|refine QV QgF ?_|refine QV QnT ?_|refine QV QnF ?_|refine QV QaA ?_|refine QV QL ?_))
    refine TL_storeB (i := 0) (cs' := #[.slice none 0 0, .slice none 0 0]) rfl rfl rfl rfl rfl rfl ?_
    conv=>arg 8;simp only[zA,zB,zC,zD,zE,zF,zG,zH,zI,rowS,ret,id_eq]
    repeat(first|refine QV QP ?_|refine QZ ?_|refine qcT rfl ?_|refine qcF rfl ?_|refine E_blockX ?_|refine E_blockO rfl ?_|refine qs rfl rfl rfl rfl rfl rfl ?_|((try refine qg rfl rfl rfl ?_);first|refine QV QP ?_|refine QV QS ?_|refine QV QA ?_|refine QV (rr_not rfl rfl) ?_|refine QV QgT ?_|refine QV QgF ?_|refine QV QnT ?_|refine QV QnF ?_|refine QV QaA ?_|refine QV QL ?_))
    refine E_extra (wdsO (fun _ => False) (.slice none 0 0) []) hnW hzW (E_extra (rlsO (fun _ => False) (.slice none 0 0) []) hnR hzR ?_)
    exact E_retc3 (i := 0) rfl rfl rfl rfl rfl rfl fun w' hm => hE _ _ w' _ 1 2 hm rfl rfl (by decide)
  rw [if_neg c0] at hR
  repeat(first|refine QV QP ?_|refine QZ ?_|refine qcT rfl ?_|refine qcF rfl ?_|refine E_blockX ?_|refine E_blockO rfl ?_|refine qs rfl rfl rfl rfl rfl rfl ?_|((try refine qg rfl rfl rfl ?_);first|refine QV QP ?_|refine QV QS ?_|refine QV QS ?_|refine QV QA ?_|refine QV (rr_not rfl rfl) ?_|refine QV QgT ?_|refine QV QgF ?_|refine QV QnT ?_|refine QV QnF ?_|refine QV QaA ?_|refine QV QL ?_))
  refine TL_new rfl fun g5 => ?_
  conv=>arg 8;simp only[zA,zB,zC,zD,zE,zF,zG,zH,zI,rowS,ret,id_eq]
  repeat(first|refine QV QP ?_|refine QZ ?_|refine qcT rfl ?_|refine qcF rfl ?_|refine E_blockX ?_|refine E_blockO rfl ?_|refine qs rfl rfl rfl rfl rfl rfl ?_|((try refine qg rfl rfl rfl ?_);first|refine QV QP ?_|refine QV QS ?_|refine QV QA ?_|refine QV (rr_not rfl rfl) ?_|refine QV QgT ?_|refine QV QgF ?_|refine QV QnT ?_|refine QV QnF ?_|refine QV QaA ?_|refine QV QL ?_))
  refine T_nil 41 7 (T_extra (elsO wordS (fun _ => False) [] []) (fun k hk => hk.elim (fun h => by cases h) id) (fun w => els_nil) (T_nil 57 2 (T_extra (elsO ruleS (fun _ => False) [] []) (fun k hk => hk.elim (fun h => by cases h) id) (fun w => els_nil) ?_)))
  conv => arg 7; simp only [zA, zB, zC, zD, zE, zF, zG, zH, zI, rowS, ret, id_eq]
  generalize hfin : spLines text.length text 1 [] [] = fin at *
  refine T_loop (ι := (Nat × Bs × Nat × List Wd × List Rl) × SpX × List (List Value) × List (List Value)) (fun ((f, s, a, ws, rs), x, cw, cr) => s.length ≤ f ∧ a + s.length ≤ 5000 ∧ ws.length + rs.length ≤ a ∧ x.vw.oneCell' = true ∧ x.vr.oneCell' = true ∧ spLines f s (a : Int) ws rs = fin) (fun ((_, s, a, _, _), _, _, _) => [(0, str s), (2, .pointer (some ⟨g2, 0, none⟩)), (5, .pointer (some ⟨g5, 0, none⟩)), (6, .int .i64 (a : Int))])
    (fun ((_, _, _, ws, rs), x, cw, cr) => [blkO g2 #[.slice none 0 0, .slice none 0 0] 25, blkO g5 #[x.vw, x.vr] 25, rowO 41 7 x.vw ws.length cw.flatten, elsO wordS x.FW cw ws, rowO 57 2 x.vr rs.length cr.flatten, elsO ruleS x.FR cr rs]) (fun ((_, s, _, _, _), _, _, _) => s.length)
    ((text.length, text, 1, [], []), ⟨.slice none 0 0, fun _ => False, .slice none 0 0, fun _ => False⟩, [], []) ⟨Nat.le_refl _, by show 1 + text.length ≤ 5000; omega, Nat.zero_le _, rfl, rfl, hfin⟩ (by repeat' (first | exact True.intro | refine And.intro rfl ?_)) rfl ?_
  clear hfin
  rintro ⟨⟨f, s, a, ws, rs⟩, ⟨vw, FW, vr, FR⟩, cw, cr⟩ ⟨i1, i2, i3, i4, i5, i6⟩
  dsimp only at i1 i2 i3 i4 i5 i6 ⊢
  cases s with
  | nil =>
    have i6 : ((ws, rs), (a : Int), 0) = fin := by cases f <;> exact i6
    subst i6
    have hR : R = if checkS ⟨ws, rs⟩ ≠ 0 then (⟨[], []⟩, 0, checkS ⟨ws, rs⟩) else (⟨ws, rs⟩, 0, 0) := hR
    refine T_know (i := 2) (φ := ∃ b c, vw = .slice b ws.length c) rfl row_frm fun hvw => ?_
    obtain ⟨bw, kw, rfl⟩ := hvw
    refine T_know (i := 4) (φ := ∃ b c, vr = .slice b rs.length c) rfl row_frm fun hvr => ?_
    obtain ⟨br, kr, rfl⟩ := hvr
    have hck := fun w' (L : List Own) (hm : Mem (w : Base) L w') (h2 : L[2]? = some (rowO 41 7 (.slice bw ws.length kw) ws.length cw.flatten)) (h3 : L[3]? = some (elsO wordS FW cw ws)) (h4 : L[4]? = some (rowO 57 2 (.slice br rs.length kr) rs.length cr.flatten)) (h5 : L[5]? = some (elsO ruleS FR cr rs)) =>
      spCheck_calls (.agg #[.slice bw ws.length kw, .slice br rs.length kr]) ⟨ws, rs⟩ w' ⟨_, _, rfl, (slf_of (s := wordS) (hm.get h2) (hm.get h3) (by decide)).mono (slO_lt (hm.get h2) (hm.get h3)), (slf_of (s := ruleS) (hm.get h4) (hm.get h5) (by decide)).mono (slO_lt (hm.get h4) (hm.get h5))⟩
    generalize checkS ⟨ws, rs⟩ = ec at *
    repeat(first|refine QV QP ?_|refine QZ ?_|refine qcT rfl ?_|refine qcF rfl ?_|refine E_blockX ?_|refine E_blockO rfl ?_|refine qs rfl rfl rfl rfl rfl rfl ?_|((try refine qg rfl rfl rfl ?_);first|refine QV QP ?_|refine QV (rr_strne (b := false) rfl rfl rfl) ?_|refine QV (rr_loadB (i := 1) TyC.ty rfl rfl rfl) ?_|refine QV QS ?_|refine QV QA ?_|refine QV (rr_not rfl rfl) ?_|refine QV QgT ?_|refine QV QgF ?_|refine QV QnT ?_|refine QV QnF ?_|refine QV QaA ?_|refine QV QL ?_))
    refine TL_call (he1 EntersC.en rfl rfl) (fun w hm => hck w _ hm rfl rfl rfl rfl) rfl rfl rfl ?_
    intro _ _
    conv=>arg 8;simp only[zA,zB,zC,zD,zE,zF,zG,zH,zI,rowS,ret,id_eq]
    by_cases c1 : ec = 0
    · subst c1
      rw [if_neg (by simp)] at hR
      subst hR
      repeat(first|refine QV QP ?_|refine QZ ?_|refine qcT rfl ?_|refine qcF rfl ?_|refine E_blockX ?_|refine E_blockO rfl ?_|refine qs rfl rfl rfl rfl rfl rfl ?_|((try refine qg rfl rfl rfl ?_);first|refine QV QP ?_|refine QV (rr_loadB (i := 1) TyC.ty rfl rfl rfl) ?_|refine QV QS ?_|refine QV QA ?_|refine QV (rr_not rfl rfl) ?_|refine QV QgT ?_|refine QV QgF ?_|refine QV QnT ?_|refine QV QnF ?_|refine QV QaA ?_|refine QV QL ?_))
      refine TL_storeB (i := 0) (cs' := #[.slice bw ws.length kw, .slice br rs.length kr]) rfl rfl rfl rfl rfl rfl ?_
      conv=>arg 8;simp only[zA,zB,zC,zD,zE,zF,zG,zH,zI,rowS,ret,id_eq]
      repeat(first|refine QV QP ?_|refine QZ ?_|refine qcT rfl ?_|refine qcF rfl ?_|refine E_blockX ?_|refine E_blockO rfl ?_|refine qs rfl rfl rfl rfl rfl rfl ?_|((try refine qg rfl rfl rfl ?_);first|refine QV QP ?_|refine QV QS ?_|refine QV QA ?_|refine QV (rr_not rfl rfl) ?_|refine QV QgT ?_|refine QV QgF ?_|refine QV QnT ?_|refine QV QnF ?_|refine QV QaA ?_|refine QV QL ?_))
      refine E_merge (wdsO (Or1 FW (.slice bw ws.length kw)) (.slice bw ws.length kw) ws) 2 3 [0, 1, 4, 5] (by decide) rfl rfl rfl shp_foot (fun w h1 h2 => shp_of rfl h1 h2 (by decide)) ?_
      refine E_merge (rlsO (Or1 FR (.slice br rs.length kr)) (.slice br rs.length kr) rs) 2 3 [0, 1, 4] (by decide) rfl rfl rfl shp_foot (fun w h1 h2 => shp_of rfl h1 h2 (by decide)) ?_
      exact E_retc3 (i := 0) rfl rfl rfl rfl rfl rfl fun w hm => hm.meets (S := redSp (⟨ws, rs⟩, 0, 0)) ⟨.slice bw ws.length kw, _, .slice br rs.length kr, _⟩ ⟨⟨_, _, _, rfl⟩, _, _, _, rfl⟩ [2, 3] (by decide) rfl
    · rw [if_pos c1] at hR
      subst hR
      repeat(first|refine QV QP ?_|refine QZ ?_|refine qcT rfl ?_|refine qcF rfl ?_|refine E_blockX ?_|refine E_blockO rfl ?_|refine qs rfl rfl rfl rfl rfl rfl ?_|((try refine qg rfl rfl rfl ?_);first|refine QV QP ?_|refine QV (rr_neq (b := true) rfl rfl (decide_eq_true c1)) ?_|refine QV (rr_build rfl build_spec0) ?_|refine QV QS ?_|refine QV QA ?_|refine QV (rr_not rfl rfl) ?_|refine QV QgT ?_|refine QV QgF ?_|refine QV QnT ?_|refine QV QnF ?_|refine QV QaA ?_|refine QV QL ?_))
      refine TL_storeB (i := 0) (cs' := #[.slice none 0 0, .slice none 0 0]) rfl rfl rfl rfl rfl rfl ?_
      conv=>arg 8;simp only[zA,zB,zC,zD,zE,zF,zG,zH,zI,rowS,ret,id_eq]
      repeat(first|refine QV QP ?_|refine QZ ?_|refine qcT rfl ?_|refine qcF rfl ?_|refine E_blockX ?_|refine E_blockO rfl ?_|refine qs rfl rfl rfl rfl rfl rfl ?_|((try refine qg rfl rfl rfl ?_);first|refine QV QP ?_|refine QV QS ?_|refine QV QA ?_|refine QV (rr_not rfl rfl) ?_|refine QV QgT ?_|refine QV QgF ?_|refine QV QnT ?_|refine QV QnF ?_|refine QV QaA ?_|refine QV QL ?_))
      refine E_extra (wdsO (fun _ => False) (.slice none 0 0) []) hnW hzW (E_extra (rlsO (fun _ => False) (.slice none 0 0) []) hnR hzR ?_)
      exact E_retc3 (i := 0) rfl rfl rfl rfl rfl rfl fun w' hm => hE _ _ w' _ 6 7 hm rfl rfl (by decide)
  | cons b0 r0 =>
    obtain ⟨f, rfl⟩ : ∃ k, f = k + 1 := ⟨f - 1, by simp only [List.length_cons] at i1; omega⟩
    rw [lines_cons] at i6
    have hcut := fun w => cut_calls (b0 :: r0) 10 w (by omega)
    have hcl : (cutF 10 (b0 :: r0)).2.2 = true → (cutF 10 (b0 :: r0)).1.length + (cutF 10 (b0 :: r0)).2.1.length + 1 = (b0 :: r0).length := fun h => gramL.cut_len h
    have hne : (b0 :: r0 : Bs) ≠ [] := by simp
    generalize (b0 :: r0 : Bs) = s at *
    generalize cutF 10 s = C at *
    obtain ⟨line, rest, ok⟩ := C
    dsimp only at i6 hcut hcl
    repeat(first|refine QV QP ?_|refine QZ ?_|refine qcT rfl ?_|refine qcF rfl ?_|refine E_blockX ?_|refine E_blockO rfl ?_|refine qs rfl rfl rfl rfl rfl rfl ?_|((try refine qg rfl rfl rfl ?_);first|refine QV QP ?_|refine QV (rr_strne (b := true) rfl rfl (decide_eq_true hne)) ?_|refine QV QS ?_|refine QV QA ?_|refine QV (rr_not rfl rfl) ?_|refine QV QgT ?_|refine QV QgF ?_|refine QV QnT ?_|refine QV QnF ?_|refine QV QaA ?_|refine QV QL ?_))
    refine TL_call (he2 EntersC.en rfl rfl rfl) (fun w hm => hcut w) rfl rfl rfl ?_
    intro _ _
    conv=>arg 8;simp only[zA,zB,zC,zD,zE,zF,zG,zH,zI,rowS,ret,id_eq]
    cases ok with
    | false =>
      rw [if_pos rfl] at i6
      subst i6
      rw [rd_err (show (6 : Int) ≠ 0 by decide)] at hR
      subst hR
      repeat(first|refine QV QP ?_|refine QZ ?_|refine qcT rfl ?_|refine qcF rfl ?_|refine E_blockX ?_|refine E_blockO rfl ?_|refine qs rfl rfl rfl rfl rfl rfl ?_|((try refine qg rfl rfl rfl ?_);first|refine QV QP ?_|refine QV (rr_not rfl rfl) ?_|refine QV (rr_build rfl build_spec0) ?_|refine QV QS ?_|refine QV QA ?_|refine QV (rr_not rfl rfl) ?_|refine QV QgT ?_|refine QV QgF ?_|refine QV QnT ?_|refine QV QnF ?_|refine QV QaA ?_|refine QV QL ?_))
      refine TL_storeB (i := 0) (cs' := #[.slice none 0 0, .slice none 0 0]) rfl rfl rfl rfl rfl rfl ?_
      conv=>arg 8;simp only[zA,zB,zC,zD,zE,zF,zG,zH,zI,rowS,ret,id_eq]
      repeat(first|refine QV QP ?_|refine QZ ?_|refine qcT rfl ?_|refine qcF rfl ?_|refine E_blockX ?_|refine E_blockO rfl ?_|refine qs rfl rfl rfl rfl rfl rfl ?_|((try refine qg rfl rfl rfl ?_);first|refine QV QP ?_|refine QV QS ?_|refine QV QA ?_|refine QV (rr_not rfl rfl) ?_|refine QV QgT ?_|refine QV QgF ?_|refine QV QnT ?_|refine QV QnF ?_|refine QV QaA ?_|refine QV QL ?_))
      refine E_extra (wdsO (fun _ => False) (.slice none 0 0) []) hnW hzW (E_extra (rlsO (fun _ => False) (.slice none 0 0) []) hnR hzR ?_)
      exact E_retc3 (i := 0) rfl rfl rfl rfl rfl rfl fun w' hm => hE _ _ w' _ 6 7 hm rfl rfl (by decide)
    | true =>
      rw [if_neg (by decide)] at i6
      have hcl := hcl rfl
      have hwd := fun w => spWord_calls line w (by omega)
      have hrl := fun w' (hg : Gr w w') => spRule_calls line w' (by omega) (hM.gr hg)
      have hwn := spWord_name (line := line)
      have hro := spRule_ok (line := line)
      have hEW : errW line rs.length = if (spWord line).2.1 = true ∧ 0 < rs.length then 6 else (spWord line).2.2 := rfl
      generalize errW line rs.length = ew at *
      generalize spWord line = WD at *
      generalize spRule line = RL at *
      obtain ⟨⟨wn, wx⟩, wis, we⟩ := WD
      obtain ⟨⟨rn, rb⟩, ris⟩ := RL
      dsimp only at i6 hwn hro hEW
      refine TL_know (i := 4) (φ := ∃ b c, vr = .slice b rs.length c) rfl row_frm fun hvr => ?_
      obtain ⟨br, kr, rfl⟩ := hvr
      repeat(first|refine QV QP ?_|refine QZ ?_|refine qcT rfl ?_|refine qcF rfl ?_|refine E_blockX ?_|refine E_blockO rfl ?_|refine qs rfl rfl rfl rfl rfl rfl ?_|((try refine qg rfl rfl rfl ?_);first|refine QV QP ?_|refine QV (rr_not rfl rfl) ?_|refine QV QS ?_|refine QV QA ?_|refine QV (rr_not rfl rfl) ?_|refine QV QgT ?_|refine QV QgF ?_|refine QV QnT ?_|refine QV QnF ?_|refine QV QaA ?_|refine QV QL ?_))
      refine TL_call (he1 EntersC.en rfl rfl) (fun w hm => hwd w) rfl rfl rfl ?_
      rintro ⟨v1, F1⟩ ⟨hok1, b1, n1, c1, hv1⟩
      dsimp only at hv1
      subst hv1
      have hok1 : kit.okI64 wx.kind := hok1
      conv=>arg 8;simp only[zA,zB,zC,zD,zE,zF,zG,zH,zI,rowS,ret,id_eq, wordSp]
      conv => arg 7; simp only [wordSp]
      repeat(first|refine QV QP ?_|refine QZ ?_|refine qcT rfl ?_|refine qcF rfl ?_|refine E_blockX ?_|refine E_blockO rfl ?_|refine qs rfl rfl rfl rfl rfl rfl ?_|((try refine qg rfl rfl rfl ?_);first|refine QV QP ?_|refine QV QS ?_|refine QV QA ?_|refine QV (rr_not rfl rfl) ?_|refine QV QgT ?_|refine QV QgF ?_|refine QV QnT ?_|refine QV QnF ?_|refine QV QaA ?_|refine QV QL ?_))
      refine TL_new rfl fun g10 => ?_
      conv=>arg 8;simp only[zA,zB,zC,zD,zE,zF,zG,zH,zI,rowS,ret,id_eq]
      repeat(first|refine QV QP ?_|refine QZ ?_|refine qcT rfl ?_|refine qcF rfl ?_|refine E_blockX ?_|refine E_blockO rfl ?_|refine qs rfl rfl rfl rfl rfl rfl ?_|((try refine qg rfl rfl rfl ?_);first|refine QV QP ?_|refine QV QS ?_|refine QV QA ?_|refine QV (rr_not rfl rfl) ?_|refine QV QgT ?_|refine QV QgF ?_|refine QV QnT ?_|refine QV QnF ?_|refine QV QaA ?_|refine QV QL ?_))
      refine TL_storeB (i := 7) (cs' := (wdC wn wx.kind wx.cls (.slice b1 n1 c1)).toArray) rfl rfl rfl rfl rfl rfl ?_
      conv=>arg 8;simp only[zA,zB,zC,zD,zE,zF,zG,zH,zI,rowS,ret,id_eq]
      by_cases e0 : ew = 0
      · subst e0
        rw [if_neg (by simp)] at i6
        cases wis with
        | true =>
          rw [if_pos rfl] at i6
          have hrs : ¬ 0 < rs.length := fun h => by rw [if_pos ⟨rfl, h⟩] at hEW; cases hEW
          rw [if_neg (fun h => hrs h.2)] at hEW
          subst hEW
          repeat(first|refine QV QP ?_|refine QZ ?_|refine qcT rfl ?_|refine qcF rfl ?_|refine E_blockX ?_|refine E_blockO rfl ?_|refine qs rfl rfl rfl rfl rfl rfl ?_|((try refine qg rfl rfl rfl ?_);first|refine QV QP ?_|refine QV (rr_load1 (v := .slice br rs.length kr) TyC.ty rfl (at_blk (i := 1) rfl rfl)) ?_|refine QV (rr_load1 (v := vw) TyC.ty rfl (at_blk (i := 1) rfl rfl)) ?_|refine QV (rr_loadB (i := 7) TyC.ty rfl rfl rfl) ?_|refine QV QS ?_|refine QV QA ?_|refine QV (rr_not rfl rfl) ?_|refine QV QgT ?_|refine QV QgF ?_|refine QV QnT ?_|refine QV QnF ?_|refine QV QaA ?_|refine QV QL ?_))
          refine TL_pushN (i := 2) rfl rfl rfl rfl rfl rfl rfl (fun z h => by cases h; rfl) (by omega) (by omega) rfl fun z vw' => ?_
          conv=>arg 8;simp only[zA,zB,zC,zD,zE,zF,zG,zH,zI,rowS,ret,id_eq]
          repeat(first|refine QV QP ?_|refine QZ ?_|refine qcT rfl ?_|refine qcF rfl ?_|refine E_blockX ?_|refine E_blockO rfl ?_|refine qs rfl rfl rfl rfl rfl rfl ?_|((try refine qg rfl rfl rfl ?_);first|refine QV QP ?_|refine QV QS ?_|refine QV QA ?_|refine QV (rr_not rfl rfl) ?_|refine QV QgT ?_|refine QV QgF ?_|refine QV QnT ?_|refine QV QnF ?_|refine QV QaA ?_|refine QV QL ?_))
          refine TL_slv (i := 2) rfl fun h1 h2 => TL_store1 (i := 1) rfl rfl rfl h1 h2 rfl ?_
          conv=>arg 8;simp only[zA,zB,zC,zD,zE,zF,zG,zH,zI,rowS,ret,id_eq]
          refine TL_merge (elsO wordS (fun k => FW k ∨ F1 k) (cw ++ [wdC wn wx.kind wx.cls (.slice b1 n1 c1)]) (ws ++ [(wn, wx)])) 3 6 [0, 1, 2, 4, 5] (by decide) rfl rfl rfl (fun k hk => hk.elim (fun h => by cases h) fun h => h.elim (fun h => .inl (.inr h)) fun h => .inr (.inr h)) (fun w h1 h3 => els_snoc h1 (word_is (by omega) hok1 h3) h3.2) ?_
          repeat(first|refine QV QP ?_|refine QZ ?_|refine qcT rfl ?_|refine qcF rfl ?_|refine E_blockX ?_|refine E_blockO rfl ?_|refine qs rfl rfl rfl rfl rfl rfl ?_|((try refine qg rfl rfl rfl ?_);first|refine QV QP ?_|refine QV QS ?_|refine QV QA ?_|refine QV (rr_not rfl rfl) ?_|refine QV QgT ?_|refine QV QgF ?_|refine QV QnT ?_|refine QV QnF ?_|refine QV QaA ?_|refine QV QL ?_))
          refine E_pick [0, 1, 2, 5, 3, 4] (by decide) rfl ?_
          exact E_round ((f, rest, a + 1, ws ++ [(wn, wx)], rs), ⟨vw', _, .slice br rs.length kr, FR⟩, cw ++ [wdC wn wx.kind wx.cls (.slice b1 n1 c1)], cr) ⟨by show rest.length ≤ f; omega, by show a + 1 + rest.length ≤ 5000; omega, by show (ws ++ [(wn, wx)]).length + rs.length ≤ a + 1; rw [List.length_append, List.length_singleton]; omega, h2, rfl, i6⟩ (by show rest.length < s.length; omega) (by repeat' (first | exact True.intro | refine And.intro rfl ?_)) (by dsimp only; rw [List.length_append, List.flatten_append]; rfl)
        | false =>
          rw [if_neg (by decide)] at i6
          rw [if_neg (fun h => by cases h.1)] at hEW
          subst hEW
          repeat(first|refine QV QP ?_|refine QZ ?_|refine qcT rfl ?_|refine qcF rfl ?_|refine E_blockX ?_|refine E_blockO rfl ?_|refine qs rfl rfl rfl rfl rfl rfl ?_|((try refine qg rfl rfl rfl ?_);first|refine QV QP ?_|refine QV QS ?_|refine QV QA ?_|refine QV (rr_not rfl rfl) ?_|refine QV QgT ?_|refine QV QgF ?_|refine QV QnT ?_|refine QV QnF ?_|refine QV QaA ?_|refine QV QL ?_))
          refine TL_call (he1 EntersC.en rfl rfl) (fun w hm => hrl _ hm.below) rfl rfl rfl ?_
          intro v3 _
          conv=>arg 8;simp only[zA,zB,zC,zD,zE,zF,zG,zH,zI,rowS,ret,id_eq, ruleSp]
          conv => arg 7; simp only [ruleSp]
          refine TL_know (i := 8) (φ := ∃ b c, v3 = .slice b rb.length c) rfl row_frm fun hv3 => ?_
          obtain ⟨b3, k3, rfl⟩ := hv3
          repeat(first|refine QV QP ?_|refine QZ ?_|refine qcT rfl ?_|refine qcF rfl ?_|refine E_blockX ?_|refine E_blockO rfl ?_|refine qs rfl rfl rfl rfl rfl rfl ?_|((try refine qg rfl rfl rfl ?_);first|refine QV QP ?_|refine QV QS ?_|refine QV QA ?_|refine QV (rr_not rfl rfl) ?_|refine QV QgT ?_|refine QV QgF ?_|refine QV QnT ?_|refine QV QnF ?_|refine QV QaA ?_|refine QV QL ?_))
          refine TL_new rfl fun g13 => ?_
          conv=>arg 8;simp only[zA,zB,zC,zD,zE,zF,zG,zH,zI,rowS,ret,id_eq]
          repeat(first|refine QV QP ?_|refine QZ ?_|refine qcT rfl ?_|refine qcF rfl ?_|refine E_blockX ?_|refine E_blockO rfl ?_|refine qs rfl rfl rfl rfl rfl rfl ?_|((try refine qg rfl rfl rfl ?_);first|refine QV QP ?_|refine QV QS ?_|refine QV QA ?_|refine QV (rr_not rfl rfl) ?_|refine QV QgT ?_|refine QV QgF ?_|refine QV QnT ?_|refine QV QnF ?_|refine QV QaA ?_|refine QV QL ?_))
          refine TL_storeB (i := 9) (cs' := #[str rn, .slice b3 rb.length k3]) rfl rfl rfl rfl rfl rfl ?_
          conv=>arg 8;simp only[zA,zB,zC,zD,zE,zF,zG,zH,zI,rowS,ret,id_eq]
          cases ris with
          | true =>
            rw [if_pos rfl] at i6
            obtain ⟨hr1, hr2⟩ := hro rfl
            repeat(first|refine QV QP ?_|refine QZ ?_|refine qcT rfl ?_|refine qcF rfl ?_|refine E_blockX ?_|refine E_blockO rfl ?_|refine qs rfl rfl rfl rfl rfl rfl ?_|((try refine qg rfl rfl rfl ?_);first|refine QV QP ?_|refine QV (rr_load1 (v := .slice br rs.length kr) TyC.ty rfl (at_blk (i := 1) rfl rfl)) ?_|refine QV (rr_loadB (i := 9) TyC.ty rfl rfl rfl) ?_|refine QV QS ?_|refine QV QA ?_|refine QV (rr_not rfl rfl) ?_|refine QV QgT ?_|refine QV QgF ?_|refine QV QnT ?_|refine QV QnF ?_|refine QV QaA ?_|refine QV QL ?_))
            refine TL_pushN (i := 4) rfl rfl rfl rfl rfl rfl rfl (fun z h => by cases h; rfl) (by omega) (by omega) rfl fun z vr' => ?_
            conv=>arg 8;simp only[zA,zB,zC,zD,zE,zF,zG,zH,zI,rowS,ret,id_eq]
            repeat(first|refine QV QP ?_|refine QZ ?_|refine qcT rfl ?_|refine qcF rfl ?_|refine E_blockX ?_|refine E_blockO rfl ?_|refine qs rfl rfl rfl rfl rfl rfl ?_|((try refine qg rfl rfl rfl ?_);first|refine QV QP ?_|refine QV QS ?_|refine QV QA ?_|refine QV (rr_not rfl rfl) ?_|refine QV QgT ?_|refine QV QgF ?_|refine QV QnT ?_|refine QV QnF ?_|refine QV QaA ?_|refine QV QL ?_))
            refine TL_slv (i := 4) rfl fun h1 h2 => TL_store1 (i := 1) rfl rfl rfl h1 h2 rfl ?_
            conv=>arg 8;simp only[zA,zB,zC,zD,zE,zF,zG,zH,zI,rowS,ret,id_eq]
            refine TL_merge (elsO ruleS (fun k => FR k ∨ (Value.slice b3 rb.length k3).ownBlock = some k) (cr ++ [[str rn, .slice b3 rb.length k3]]) (rs ++ [(rn, rb)])) 5 8 [0, 1, 2, 3, 4] (by decide) rfl rfl rfl (fun k hk => hk.elim (fun h => by cases h) fun h => h.elim (fun h => .inl (.inr h)) fun h => .inr (.inl h)) (fun w h1 h3 => els_snoc h1 (rule_is hr1 hr2 h3) (fun k hk => (rowO 9 1 (.slice b3 rb.length k3) rb.length (rb.flatMap bsC)).lt _ h3 k (.inl hk))) ?_
            repeat(first|refine QV QP ?_|refine QZ ?_|refine qcT rfl ?_|refine qcF rfl ?_|refine E_blockX ?_|refine E_blockO rfl ?_|refine qs rfl rfl rfl rfl rfl rfl ?_|((try refine qg rfl rfl rfl ?_);first|refine QV QP ?_|refine QV QS ?_|refine QV QA ?_|refine QV (rr_not rfl rfl) ?_|refine QV QgT ?_|refine QV QgF ?_|refine QV QnT ?_|refine QV QnF ?_|refine QV QaA ?_|refine QV QL ?_))
            exact E_round ((f, rest, a + 1, ws, rs ++ [(rn, rb)]), ⟨vw, FW, vr', _⟩, cw, cr ++ [[str rn, .slice b3 rb.length k3]]) ⟨by show rest.length ≤ f; omega, by show a + 1 + rest.length ≤ 5000; omega, by show ws.length + (rs ++ [(rn, rb)]).length ≤ a + 1; rw [List.length_append, List.length_singleton]; omega, i4, h2, i6⟩ (by show rest.length < s.length; omega) (by repeat' (first | exact True.intro | refine And.intro rfl ?_)) (by dsimp only; rw [List.length_append, List.flatten_append]; rfl)
          | false =>
            rw [if_neg (by decide)] at i6
            subst i6
            rw [rd_err (show (6 : Int) ≠ 0 by decide)] at hR
            subst hR
            repeat(first|refine QV QP ?_|refine QZ ?_|refine qcT rfl ?_|refine qcF rfl ?_|refine E_blockX ?_|refine E_blockO rfl ?_|refine qs rfl rfl rfl rfl rfl rfl ?_|((try refine qg rfl rfl rfl ?_);first|refine QV QP ?_|refine QV (rr_build rfl build_spec0) ?_|refine QV QS ?_|refine QV QA ?_|refine QV (rr_not rfl rfl) ?_|refine QV QgT ?_|refine QV QgF ?_|refine QV QnT ?_|refine QV QnF ?_|refine QV QaA ?_|refine QV QL ?_))
            refine TL_storeB (i := 0) (cs' := #[.slice none 0 0, .slice none 0 0]) rfl rfl rfl rfl rfl rfl ?_
            conv=>arg 8;simp only[zA,zB,zC,zD,zE,zF,zG,zH,zI,rowS,ret,id_eq]
            repeat(first|refine QV QP ?_|refine QZ ?_|refine qcT rfl ?_|refine qcF rfl ?_|refine E_blockX ?_|refine E_blockO rfl ?_|refine qs rfl rfl rfl rfl rfl rfl ?_|((try refine qg rfl rfl rfl ?_);first|refine QV QP ?_|refine QV QS ?_|refine QV QA ?_|refine QV (rr_not rfl rfl) ?_|refine QV QgT ?_|refine QV QgF ?_|refine QV QnT ?_|refine QV QnF ?_|refine QV QaA ?_|refine QV QL ?_))
            refine E_extra (wdsO (fun _ => False) (.slice none 0 0) []) hnW hzW (E_extra (rlsO (fun _ => False) (.slice none 0 0) []) hnR hzR ?_)
            exact E_retc3 (i := 0) rfl rfl rfl rfl rfl rfl fun w' hm => hE _ _ w' _ 10 11 hm rfl rfl (by decide)
      · rw [if_pos e0] at i6
        subst i6
        rw [rd_err e0] at hR
        subst hR
        by_cases hc : wis = true ∧ 0 < rs.length
        · rw [if_pos hc] at hEW
          obtain ⟨rfl, hc2⟩ := hc
          subst hEW
          repeat(first|refine QV QP ?_|refine QZ ?_|refine qcT rfl ?_|refine qcF rfl ?_|refine E_blockX ?_|refine E_blockO rfl ?_|refine qs rfl rfl rfl rfl rfl rfl ?_|((try refine qg rfl rfl rfl ?_);first|refine QV QP ?_|refine QV (rr_load1 (v := .slice br rs.length kr) TyC.ty rfl (at_blk (i := 1) rfl rfl)) ?_|refine QV (rr_build rfl build_spec0) ?_|refine QV QS ?_|refine QV QA ?_|refine QV (rr_not rfl rfl) ?_|refine QV QgT ?_|refine QV QgF ?_|refine QV QnT ?_|refine QV QnF ?_|refine QV QaA ?_|refine QV QL ?_))
          refine TL_storeB (i := 0) (cs' := #[.slice none 0 0, .slice none 0 0]) rfl rfl rfl rfl rfl rfl ?_
          conv=>arg 8;simp only[zA,zB,zC,zD,zE,zF,zG,zH,zI,rowS,ret,id_eq]
          repeat(first|refine QV QP ?_|refine QZ ?_|refine qcT rfl ?_|refine qcF rfl ?_|refine E_blockX ?_|refine E_blockO rfl ?_|refine qs rfl rfl rfl rfl rfl rfl ?_|((try refine qg rfl rfl rfl ?_);first|refine QV QP ?_|refine QV QS ?_|refine QV QA ?_|refine QV (rr_not rfl rfl) ?_|refine QV QgT ?_|refine QV QgF ?_|refine QV QnT ?_|refine QV QnF ?_|refine QV QaA ?_|refine QV QL ?_))
          refine E_extra (wdsO (fun _ => False) (.slice none 0 0) []) hnW hzW (E_extra (rlsO (fun _ => False) (.slice none 0 0) []) hnR hzR ?_)
          exact E_retc3 (i := 0) rfl rfl rfl rfl rfl rfl fun w' hm => hE _ _ w' _ 8 9 hm rfl rfl (by decide)
        · rw [if_neg hc] at hEW
          subst hEW
          cases wis with
          | true =>
            have hrs : ¬ 0 < rs.length := fun h => hc ⟨rfl, h⟩
            repeat(first|refine QV QP ?_|refine QZ ?_|refine qcT rfl ?_|refine qcF rfl ?_|refine E_blockX ?_|refine E_blockO rfl ?_|refine qs rfl rfl rfl rfl rfl rfl ?_|((try refine qg rfl rfl rfl ?_);first|refine QV QP ?_|refine QV (rr_load1 (v := .slice br rs.length kr) TyC.ty rfl (at_blk (i := 1) rfl rfl)) ?_|refine QV (rr_neq (b := true) rfl rfl (decide_eq_true e0)) ?_|refine QV (rr_build rfl build_spec0) ?_|refine QV QS ?_|refine QV QA ?_|refine QV (rr_not rfl rfl) ?_|refine QV QgT ?_|refine QV QgF ?_|refine QV QnT ?_|refine QV QnF ?_|refine QV QaA ?_|refine QV QL ?_))
            refine TL_storeB (i := 0) (cs' := #[.slice none 0 0, .slice none 0 0]) rfl rfl rfl rfl rfl rfl ?_
            conv=>arg 8;simp only[zA,zB,zC,zD,zE,zF,zG,zH,zI,rowS,ret,id_eq]
            repeat(first|refine QV QP ?_|refine QZ ?_|refine qcT rfl ?_|refine qcF rfl ?_|refine E_blockX ?_|refine E_blockO rfl ?_|refine qs rfl rfl rfl rfl rfl rfl ?_|((try refine qg rfl rfl rfl ?_);first|refine QV QP ?_|refine QV QS ?_|refine QV QA ?_|refine QV (rr_not rfl rfl) ?_|refine QV QgT ?_|refine QV QgF ?_|refine QV QnT ?_|refine QV QnF ?_|refine QV QaA ?_|refine QV QL ?_))
            refine E_extra (wdsO (fun _ => False) (.slice none 0 0) []) hnW hzW (E_extra (rlsO (fun _ => False) (.slice none 0 0) []) hnR hzR ?_)
            exact E_retc3 (i := 0) rfl rfl rfl rfl rfl rfl fun w' hm => hE _ _ w' _ 8 9 hm rfl rfl (by decide)
          | false =>
            repeat(first|refine QV QP ?_|refine QZ ?_|refine qcT rfl ?_|refine qcF rfl ?_|refine E_blockX ?_|refine E_blockO rfl ?_|refine qs rfl rfl rfl rfl rfl rfl ?_|((try refine qg rfl rfl rfl ?_);first|refine QV QP ?_|refine QV (rr_neq (b := true) rfl rfl (decide_eq_true e0)) ?_|refine QV (rr_build rfl build_spec0) ?_|refine QV QS ?_|refine QV QA ?_|refine QV (rr_not rfl rfl) ?_|refine QV QgT ?_|refine QV QgF ?_|refine QV QnT ?_|refine QV QnF ?_|refine QV QaA ?_|refine QV QL ?_))
            refine TL_storeB (i := 0) (cs' := #[.slice none 0 0, .slice none 0 0]) rfl rfl rfl rfl rfl rfl ?_
            conv=>arg 8;simp only[zA,zB,zC,zD,zE,zF,zG,zH,zI,rowS,ret,id_eq]
            repeat(first|refine QV QP ?_|refine QZ ?_|refine qcT rfl ?_|refine qcF rfl ?_|refine E_blockX ?_|refine E_blockO rfl ?_|refine qs rfl rfl rfl rfl rfl rfl ?_|((try refine qg rfl rfl rfl ?_);first|refine QV QP ?_|refine QV QS ?_|refine QV QA ?_|refine QV (rr_not rfl rfl) ?_|refine QV QgT ?_|refine QV QgF ?_|refine QV QnT ?_|refine QV QnF ?_|refine QV QaA ?_|refine QV QL ?_))
            refine E_extra (wdsO (fun _ => False) (.slice none 0 0) []) hnW hzW (E_extra (rlsO (fun _ => False) (.slice none 0 0) []) hnR hzR ?_)
            exact E_retc3 (i := 0) rfl rfl rfl rfl rfl rfl fun w' hm => hE _ _ w' _ 8 9 hm rfl rfl (by decide)
end Go.Proofs.YtakiohldgcifeaaDoor.eng


/- StrE -/
namespace Go.Proofs.YtakiohldgcifeaaDoor.eng
open Go.RowKit kit mix
set_option maxHeartbeats 1000000 in
theorem equalStrE_calls (v v' : Value) (l l' : List (List UInt8)) (w : World) (hs : Sl w v l.length (l.map str)) (hs' : Sl w v' l'.length (l'.map str)) :
    Calls Tryd.prog 29 #[v, v'] w (Meets (ret (.bool (decide (l = l')))) w) := by
  obtain ⟨base, cap, rfl, hcap, hmax, hrd⟩ := hs
  obtain ⟨base', cap', rfl, hcap', hmax', hrd'⟩ := hs'
  unfold maxLen at hmax hmax'
  refine enter (args := [.slice base l.length cap, .slice base' l'.length cap']) (n := 26) Tryd.func29 rfl rfl rfl ?_
  by_cases c1 : l.length = l'.length
  · repeat(first|refine QV QP ?_|refine QZ ?_|refine qcT rfl ?_|refine qcF rfl ?_|refine E_blockX ?_|refine E_blockO rfl ?_|refine QV QL ?_|refine QV QlT ?_|refine QV QlF ?_|refine QV QnT ?_|refine QV QnF ?_|refine QV QaA ?_)
    refine T_loop (ι := Nat) (fun k => k ≤ l.length ∧ l.take k = l'.take k) (fun k => [(0, .slice base l.length cap), (1, .slice base' l'.length cap'), (12, .int .i64 l.length), (13, .int .i64 (k : Int))]) (fun _ => []) (fun k => l.length - k) 0 ⟨by omega, rfl⟩ ⟨rfl, rfl, rfl, rfl, trivial⟩ rfl ?_
    rintro k ⟨h1, h2⟩
    by_cases c2 : k < l.length
    · obtain ⟨b, off, rfl, hr⟩ := hrd (by omega)
      obtain ⟨b', off', rfl, hr'⟩ := hrd' (by omega)
      have c2' : k < l'.length := by omega
      have hat := at_rdm (L := ([] : List Own)) hr c2
      have hat' := at_rdm (L := ([] : List Own)) hr' c2'
      by_cases c3 : l[k] = l'[k]
      · repeat(first|refine QV QP ?_|refine QZ ?_|refine qcT rfl ?_|refine qcF rfl ?_|refine E_blockX ?_|refine E_blockO rfl ?_|refine QV QL ?_|refine QV QlT ?_|refine QV QlF ?_|refine QV QnT ?_|refine QV QnF ?_|refine QV QaA ?_)
        refine T_draw 8 (List.replicate 8 true) rfl (by kernel_rfl) (by kernel_rfl) (by intro c a d v w h; cases d <;> exact h) ?_
        repeat(first|refine TM_valg rfl (qp rfl) rfl rfl ?_|refine TM_valg rfl (rr_idx1 Und.eq TyC.ty rfl rfl c2) rfl rfl ?_|refine TM_valg rfl (rr_idx1 Und.eq TyC.ty rfl rfl c2') rfl rfl ?_|refine TM_valg rfl (rr_load1 TyC.ty rfl hat) rfl rfl ?_|refine TM_valg rfl (rr_load1 TyC.ty rfl hat') rfl rfl ?_|refine TM_valg rfl (qlen Und.eq rfl) rfl rfl ?_|refine TM_valg rfl (rr_lss rfl rfl (qT (by omega))) rfl rfl ?_|refine TM_valg rfl (rr_lss rfl rfl (qF (by omega))) rfl rfl ?_|refine TM_valg rfl (rr_neq rfl rfl (qT (by omega))) rfl rfl ?_|refine TM_valg rfl (rr_neq rfl rfl (qF (by omega))) rfl rfl ?_|refine TM_valg rfl (rr_add64 rfl rfl (by omega) (by omega) rfl) rfl rfl ?_|refine TM_end ?_)
        repeat(first|refine QV QP ?_|refine QZ ?_|refine qcT rfl ?_|refine qcF rfl ?_|refine E_blockX ?_|refine E_blockO rfl ?_|refine QV (rr_strne rfl rfl (decide_eq_false (by simp [c3]))) ?_|refine QV QL ?_|refine QV QlT ?_|refine QV QlF ?_|refine QV QnT ?_|refine QV QnF ?_|refine QV QaA ?_)
        exact E_round (k + 1) ⟨by omega, by rw [List.take_succ_eq_append_getElem c2, List.take_succ_eq_append_getElem c2', h2, c3]⟩ (by show l.length - (k + 1) < l.length - k; omega) ⟨rfl, rfl, rfl, rfl, trivial⟩ rfl
      · rw [decide_eq_false (fun h => c3 (by subst h; rfl))]
        repeat(first|refine QV QP ?_|refine QZ ?_|refine qcT rfl ?_|refine qcF rfl ?_|refine E_blockX ?_|refine E_blockO rfl ?_|refine QV QL ?_|refine QV QlT ?_|refine QV QlF ?_|refine QV QnT ?_|refine QV QnF ?_|refine QV QaA ?_)
        refine T_draw 8 (List.replicate 8 true) rfl (by kernel_rfl) (by kernel_rfl) (by intro c a d v w h; cases d <;> exact h) ?_
        repeat(first|refine TM_valg rfl (qp rfl) rfl rfl ?_|refine TM_valg rfl (rr_idx1 Und.eq TyC.ty rfl rfl c2) rfl rfl ?_|refine TM_valg rfl (rr_idx1 Und.eq TyC.ty rfl rfl c2') rfl rfl ?_|refine TM_valg rfl (rr_load1 TyC.ty rfl hat) rfl rfl ?_|refine TM_valg rfl (rr_load1 TyC.ty rfl hat') rfl rfl ?_|refine TM_valg rfl (qlen Und.eq rfl) rfl rfl ?_|refine TM_valg rfl (rr_lss rfl rfl (qT (by omega))) rfl rfl ?_|refine TM_valg rfl (rr_lss rfl rfl (qF (by omega))) rfl rfl ?_|refine TM_valg rfl (rr_neq rfl rfl (qT (by omega))) rfl rfl ?_|refine TM_valg rfl (rr_neq rfl rfl (qF (by omega))) rfl rfl ?_|refine TM_valg rfl (rr_add64 rfl rfl (by omega) (by omega) rfl) rfl rfl ?_|refine TM_end ?_)
        repeat(first|refine QV QP ?_|refine QZ ?_|refine qcT rfl ?_|refine qcF rfl ?_|refine E_blockX ?_|refine E_blockO rfl ?_|refine QV (rr_strne rfl rfl (decide_eq_true (by simpa using c3))) ?_|refine QV QL ?_|refine QV QlT ?_|refine QV QlF ?_|refine QV QnT ?_|refine QV QnF ?_|refine QV QaA ?_)
        exact E_ret1 rfl rfl fun w hm => hm.ret
    · have e : l = l' := by
        rw [List.take_of_length_le (by omega), List.take_of_length_le (by omega)] at h2; exact h2
      rw [decide_eq_true e]
      repeat(first|refine QV QP ?_|refine QZ ?_|refine qcT rfl ?_|refine qcF rfl ?_|refine E_blockX ?_|refine E_blockO rfl ?_|refine QV QL ?_|refine QV QlT ?_|refine QV QlF ?_|refine QV QnT ?_|refine QV QnF ?_|refine QV QaA ?_)
      exact E_ret1 rfl rfl fun w hm => hm.ret
  · rw [decide_eq_false (fun h => c1 (by rw [h]))]
    repeat(first|refine QV QP ?_|refine QZ ?_|refine qcT rfl ?_|refine qcF rfl ?_|refine E_blockX ?_|refine E_blockO rfl ?_|refine QV QL ?_|refine QV QlT ?_|refine QV QlF ?_|refine QV QnT ?_|refine QV QnF ?_|refine QV QaA ?_)
    exact E_ret1 rfl rfl fun w hm => hm.ret
end Go.Proofs.YtakiohldgcifeaaDoor.eng

/- SpecE -/
namespace Go.Proofs.YtakiohldgcifeaaDoor.eng
open Go.RowKit kit mix classL rexL specL
theorem same1_calls (n : Bs) (r : Rx) (b b' : Option Addr) (c c' : Nat) (w : World) (h : RexR (Low w) w (rexV r.kind r.cls (.slice b r.kids.length c)) r) (h' : RexR (Low w) w (rexV r.kind r.cls (.slice b' r.kids.length c')) r) :
    Calls Tryd.prog 25 #[.agg (wdC n r.kind r.cls (.slice b r.kids.length c)).toArray, .agg (wdC n r.kind r.cls (.slice b' r.kids.length c')).toArray] w (Meets (ret (.bool true)) w) := by
  have hs := fun w' (hg : Gr w w') => sameRex_calls (sizeX r) r (Nat.le_refl _) _ _ w' (h.gr hg) (h'.gr hg)
  clear h h'
  generalize r.kind = k at *
  generalize r.cls = cl at *
  generalize r.kids.length = m at *
  refine enter (args := [.agg (wdC n k cl (.slice b m c)).toArray, .agg (wdC n k cl (.slice b' m c')).toArray]) (n := 17) Tryd.func25 rfl rfl rfl ?_
  refine T_seq (T_region (TL_box rfl rfl rfl fun g2 => TL_box rfl rfl rfl fun g3 => ?_))
  conv=>arg 8;simp only[zA,zB,zC,zD,zE,zF,zG,zH,zI,rowS,ret,id_eq]
  repeat(first|refine QV QP ?_|refine QZ ?_|refine qs rfl rfl rfl rfl rfl rfl ?_|((try refine qg rfl rfl rfl ?_);first|refine QV QP ?_|refine QV (rr_load1 (v := str n) TyC.ty rfl (at_blk (i := 0) rfl rfl)) ?_|refine QV (rr_load1 (v := str n) TyC.ty rfl (at_blk (i := 1) rfl rfl)) ?_|refine QV (rr_streq (b := true) rfl rfl (decide_eq_true rfl)) ?_|refine QV (rr_loadN (cs := rexC k cl (.slice b m c)) TyC.ty rfl rfl (fun j v hj => at_blk (i := 0) rfl (wd_rex hj))) ?_|refine QV (rr_loadN (cs := rexC k cl (.slice b' m c')) TyC.ty rfl rfl (fun j v hj => at_blk (i := 1) rfl (wd_rex hj))) ?_|refine QV QA ?_))
  refine TL_gcall (he2 EntersC.en rfl rfl rfl) (fun w hm => hs _ hm.below) rfl rfl rfl rfl rfl ?_
  intro _ _
  conv=>arg 8;simp only[zA,zB,zC,zD,zE,zF,zG,zH,zI,rowS,ret,id_eq]
  repeat(first|refine QV QP ?_|refine QZ ?_|refine qs rfl rfl rfl rfl rfl rfl ?_|((try refine qg rfl rfl rfl ?_);first|refine QV QP ?_|refine QV QA ?_))
  exact E_ret1e rfl rfl rfl
theorem same2_calls (n : Bs) (l : List Bs) (v v' : Value) (w : World) (h : Sl w v l.length (l.map str)) (h' : Sl w v' l.length (l.map str)) :
    Calls Tryd.prog 28 #[.agg #[str n, v], .agg #[str n, v']] w (Meets (ret (.bool true)) w) := by
  have hs := fun w' (hg : Gr w w') => equalStrE_calls v v' l l w' (h.gr hg) (h'.gr hg)
  simp only [decide_true] at hs
  obtain ⟨b, c, rfl, -⟩ := h
  obtain ⟨b', c', rfl, -⟩ := h'
  refine enter (args := [.agg #[str n, .slice b l.length c], .agg #[str n, .slice b' l.length c']]) (n := 17) Tryd.func28 rfl rfl rfl ?_
  refine T_seq (T_region (TL_box rfl rfl rfl fun g2 => TL_box rfl rfl rfl fun g3 => ?_))
  conv=>arg 8;simp only[zA,zB,zC,zD,zE,zF,zG,zH,zI,rowS,ret,id_eq]
  repeat(first|refine QV QP ?_|refine QZ ?_|refine qs rfl rfl rfl rfl rfl rfl ?_|((try refine qg rfl rfl rfl ?_);first|refine QV QP ?_|refine QV (rr_load1 (v := str n) TyC.ty rfl (at_blk (i := 0) rfl rfl)) ?_|refine QV (rr_load1 (v := str n) TyC.ty rfl (at_blk (i := 1) rfl rfl)) ?_|refine QV (rr_streq (b := true) rfl rfl (decide_eq_true rfl)) ?_|refine QV (rr_load1 (v := .slice b l.length c) TyC.ty rfl (at_blk (i := 0) rfl rfl)) ?_|refine QV (rr_load1 (v := .slice b' l.length c') TyC.ty rfl (at_blk (i := 1) rfl rfl)) ?_|refine QV QA ?_))
  refine TL_gcall (he2 EntersC.en rfl rfl rfl) (fun w hm => hs _ hm.below) rfl rfl rfl rfl rfl ?_
  intro _ _
  conv=>arg 8;simp only[zA,zB,zC,zD,zE,zF,zG,zH,zI,rowS,ret,id_eq]
  repeat(first|refine QV QP ?_|refine QZ ?_|refine qs rfl rfl rfl rfl rfl rfl ?_|((try refine qg rfl rfl rfl ?_);first|refine QV QP ?_|refine QV QA ?_))
  exact E_ret1e rfl rfl rfl
set_option maxHeartbeats 2000000 in
theorem sameWords_calls (v v' : Value) (l : List Wd) (w : World) (h : SlF wordS (Low w) w v l) (h' : SlF wordS (Low w) w v' l) :
    Calls Tryd.prog 24 #[v, v', .func (.func 25) #[] #[]] w (Meets (ret (.bool true)) w) := by
  obtain ⟨base, cap, rfl, hcap, hmax, hrd⟩ := h
  obtain ⟨base', cap', rfl, hcap', hmax', hrd'⟩ := h'
  unfold maxLen at hmax hmax'
  refine enter (args := [.slice base l.length cap, .slice base' l.length cap', .func (.func 25) #[] #[]]) (n := 32) Tryd.func24 rfl rfl rfl ?_
  repeat(first|refine QV QP ?_|refine QZ ?_|refine qcT rfl ?_|refine qcF rfl ?_|refine E_blockX ?_|refine E_blockO rfl ?_|refine QV (rr_neq (b := false) rfl rfl (decide_eq_false (by omega))) ?_|refine QV QL ?_|refine QV (rr_not rfl rfl) ?_|refine QV QlT ?_|refine QV QlF ?_|refine QV QnT ?_|refine QV QnF ?_|refine QV QaA ?_)
  refine T_loop (ι := Nat) (fun k => k ≤ l.length) (fun k => [(1, .slice base' l.length cap'), (2, .func (.func 25) #[] #[]), (15, .slice base l.length cap), (16, .int .i64 l.length), (17, .int .i64 (k : Int))]) (fun _ => []) (fun k => l.length - k) 0 (Nat.zero_le _) (by repeat' (first | exact True.intro | refine And.intro rfl ?_)) rfl ?_
  intro k h1
  by_cases c2 : k < l.length
  · obtain ⟨b, off, rfl, _, hr⟩ := hrd (by omega)
    obtain ⟨b', off', rfl, _, hr'⟩ := hrd' (by omega)
    obtain ⟨bk, ck, q1, q2, q3⟩ := word_at hr c2
    obtain ⟨bk', ck', q1', q2', q3'⟩ := word_at hr' c2
    have hs := fun w' (hg : Gr w w') => same1_calls l[k].1 l[k].2 bk bk' ck ck' w' (q2.gr hg) (q2'.gr hg)
    have hat := fun (L : List Own) (j : Nat) (u : Value) (hj : (wdC l[k].1 l[k].2.kind l[k].2.cls (.slice bk l[k].2.kids.length ck))[j]? = some u) => (at_old (L := L) (q1 j u hj) : At (w : Base) L ⟨b, off + k * 7 + j, none⟩ u)
    have hat' := fun (L : List Own) (j : Nat) (u : Value) (hj : (wdC l[k].1 l[k].2.kind l[k].2.cls (.slice bk' l[k].2.kids.length ck'))[j]? = some u) => (at_old (L := L) (q1' j u hj) : At (w : Base) L ⟨b', off' + k * 7 + j, none⟩ u)
    clear hr hr' hrd hrd' q1 q1' q2 q2'
    generalize l[k] = x at *
    obtain ⟨n, r⟩ := x
    dsimp only at *
    generalize r.kind = rk at *
    generalize r.cls = rc at *
    generalize r.kids.length = m at *
    repeat(first|refine QV QP ?_|refine QZ ?_|refine qcT rfl ?_|refine qcF rfl ?_|refine E_blockX ?_|refine E_blockO rfl ?_|refine QV (rr_idxc Und.eq TyC.ty rfl rfl c2) ?_|refine QV (rr_loadN (cs := wdC n rk rc (.slice bk m ck)) TyC.ty rfl rfl (hat _)) ?_|refine QV QL ?_|refine QV (rr_not rfl rfl) ?_|refine QV QlT ?_|refine QV QlF ?_|refine QV QnT ?_|refine QV QnF ?_|refine QV QaA ?_)
    refine TL_new rfl fun g8 => ?_
    conv=>arg 8;simp only[zA,zB,zC,zD,zE,zF,zG,zH,zI,rowS,ret,id_eq]
    repeat(first|refine QV QP ?_|refine QZ ?_|refine qcT rfl ?_|refine qcF rfl ?_|refine E_blockX ?_|refine E_blockO rfl ?_|refine QV QL ?_|refine QV (rr_not rfl rfl) ?_|refine QV QlT ?_|refine QV QlF ?_|refine QV QnT ?_|refine QV QnF ?_|refine QV QaA ?_)
    refine TL_storeB (i := 0) (cs' := (wdC n rk rc (.slice bk m ck)).toArray) rfl rfl rfl rfl rfl rfl ?_
    conv=>arg 8;simp only[zA,zB,zC,zD,zE,zF,zG,zH,zI,rowS,ret,id_eq]
    repeat(first|refine QV QP ?_|refine QZ ?_|refine qcT rfl ?_|refine qcF rfl ?_|refine E_blockX ?_|refine E_blockO rfl ?_|refine QV (rr_idxc Und.eq TyC.ty rfl rfl c2) ?_|refine QV (rr_loadN (cs := wdC n rk rc (.slice bk' m ck')) TyC.ty rfl rfl (hat' _)) ?_|refine QV QL ?_|refine QV (rr_not rfl rfl) ?_|refine QV QlT ?_|refine QV QlF ?_|refine QV QnT ?_|refine QV QnF ?_|refine QV QaA ?_)
    refine TL_new rfl fun g9 => ?_
    conv=>arg 8;simp only[zA,zB,zC,zD,zE,zF,zG,zH,zI,rowS,ret,id_eq]
    refine TL_storeB (i := 1) (cs' := (wdC n rk rc (.slice bk' m ck')).toArray) rfl rfl rfl rfl rfl rfl ?_
    conv=>arg 8;simp only[zA,zB,zC,zD,zE,zF,zG,zH,zI,rowS,ret,id_eq]
    repeat(first|refine QV QP ?_|refine QZ ?_|refine qcT rfl ?_|refine qcF rfl ?_|refine E_blockX ?_|refine E_blockO rfl ?_|refine QV (rr_loadB (i := 0) TyC.ty rfl rfl rfl) ?_|refine QV (rr_loadB (i := 1) TyC.ty rfl rfl rfl) ?_|refine QV QL ?_|refine QV (rr_not rfl rfl) ?_|refine QV QlT ?_|refine QV QlF ?_|refine QV QnT ?_|refine QV QnF ?_|refine QV QaA ?_)
    refine TL_call (he2 EntersC.en rfl rfl rfl) (fun w hm => hs _ hm.below) rfl rfl rfl ?_
    intro _ _
    conv=>arg 8;simp only[zA,zB,zC,zD,zE,zF,zG,zH,zI,rowS,ret,id_eq]
    repeat(first|refine QV QP ?_|refine QZ ?_|refine qcT rfl ?_|refine qcF rfl ?_|refine E_blockX ?_|refine E_blockO rfl ?_|refine QV (rr_not rfl rfl) ?_|refine QV QL ?_|refine QV (rr_not rfl rfl) ?_|refine QV QlT ?_|refine QV QlF ?_|refine QV QnT ?_|refine QV QnF ?_|refine QV QaA ?_)
    refine E_pick [] (by decide) rfl ?_
    exact E_round (k + 1) (by omega) (by show l.length - (k + 1) < l.length - k; omega) (by repeat' (first | exact True.intro | refine And.intro rfl ?_)) rfl
  · repeat(first|refine QV QP ?_|refine QZ ?_|refine qcT rfl ?_|refine qcF rfl ?_|refine E_blockX ?_|refine E_blockO rfl ?_|refine QV QL ?_|refine QV (rr_not rfl rfl) ?_|refine QV QlT ?_|refine QV QlF ?_|refine QV QnT ?_|refine QV QnF ?_|refine QV QaA ?_)
    exact E_ret1e rfl rfl rfl
set_option maxHeartbeats 2000000 in
theorem sameRules_calls (v v' : Value) (l : List Rl) (w : World) (h : SlF ruleS (Low w) w v l) (h' : SlF ruleS (Low w) w v' l) :
    Calls Tryd.prog 27 #[v, v', .func (.func 28) #[] #[]] w (Meets (ret (.bool true)) w) := by
  obtain ⟨base, cap, rfl, hcap, hmax, hrd⟩ := h
  obtain ⟨base', cap', rfl, hcap', hmax', hrd'⟩ := h'
  unfold maxLen at hmax hmax'
  refine enter (args := [.slice base l.length cap, .slice base' l.length cap', .func (.func 28) #[] #[]]) (n := 32) Tryd.func27 rfl rfl rfl ?_
  repeat(first|refine QV QP ?_|refine QZ ?_|refine qcT rfl ?_|refine qcF rfl ?_|refine E_blockX ?_|refine E_blockO rfl ?_|refine QV (rr_neq (b := false) rfl rfl (decide_eq_false (by omega))) ?_|refine QV QL ?_|refine QV (rr_not rfl rfl) ?_|refine QV QlT ?_|refine QV QlF ?_|refine QV QnT ?_|refine QV QnF ?_|refine QV QaA ?_)
  refine T_loop (ι := Nat) (fun k => k ≤ l.length) (fun k => [(1, .slice base' l.length cap'), (2, .func (.func 28) #[] #[]), (15, .slice base l.length cap), (16, .int .i64 l.length), (17, .int .i64 (k : Int))]) (fun _ => []) (fun k => l.length - k) 0 (Nat.zero_le _) (by repeat' (first | exact True.intro | refine And.intro rfl ?_)) rfl ?_
  intro k h1
  by_cases c2 : k < l.length
  · obtain ⟨b, off, rfl, _, hr⟩ := hrd (by omega)
    obtain ⟨b', off', rfl, _, hr'⟩ := hrd' (by omega)
    obtain ⟨bk, ck, q1, q2, q3⟩ := rule_at hr c2
    obtain ⟨bk', ck', q1', q2', q3'⟩ := rule_at hr' c2
    have f1 := q2.flat (by decide)
    have f2 := q2'.flat (by decide)
    rw [show (fun s => [str s] : Bs → List Value) = bsC from rfl, flat_bsC] at f1 f2
    have hs := fun w' (hg : Gr w w') => same2_calls l[k].1 l[k].2 (.slice bk l[k].2.length ck) (.slice bk' l[k].2.length ck') w' (f1.gr hg) (f2.gr hg)
    have hat := fun (L : List Own) (j : Nat) (u : Value) (hj : ([str l[k].1, .slice bk l[k].2.length ck] : List Value)[j]? = some u) => (at_old (L := L) (q1 j u hj) : At (w : Base) L ⟨b, off + k * 2 + j, none⟩ u)
    have hat' := fun (L : List Own) (j : Nat) (u : Value) (hj : ([str l[k].1, .slice bk' l[k].2.length ck'] : List Value)[j]? = some u) => (at_old (L := L) (q1' j u hj) : At (w : Base) L ⟨b', off' + k * 2 + j, none⟩ u)
    clear hr hr' hrd hrd' q1 q1' q2 q2' f1 f2
    generalize l[k] = x at *
    obtain ⟨n, r⟩ := x
    dsimp only at *
    generalize r.length = m at *
    repeat(first|refine QV QP ?_|refine QZ ?_|refine qcT rfl ?_|refine qcF rfl ?_|refine E_blockX ?_|refine E_blockO rfl ?_|refine QV (rr_idxc Und.eq TyC.ty rfl rfl c2) ?_|refine QV (rr_loadN (cs := [str n, .slice bk m ck]) TyC.ty rfl rfl (hat _)) ?_|refine QV QL ?_|refine QV (rr_not rfl rfl) ?_|refine QV QlT ?_|refine QV QlF ?_|refine QV QnT ?_|refine QV QnF ?_|refine QV QaA ?_)
    refine TL_new rfl fun g8 => ?_
    conv=>arg 8;simp only[zA,zB,zC,zD,zE,zF,zG,zH,zI,rowS,ret,id_eq]
    repeat(first|refine QV QP ?_|refine QZ ?_|refine qcT rfl ?_|refine qcF rfl ?_|refine E_blockX ?_|refine E_blockO rfl ?_|refine QV QL ?_|refine QV (rr_not rfl rfl) ?_|refine QV QlT ?_|refine QV QlF ?_|refine QV QnT ?_|refine QV QnF ?_|refine QV QaA ?_)
    refine TL_storeB (i := 0) (cs' := #[str n, .slice bk m ck]) rfl rfl rfl rfl rfl rfl ?_
    conv=>arg 8;simp only[zA,zB,zC,zD,zE,zF,zG,zH,zI,rowS,ret,id_eq]
    repeat(first|refine QV QP ?_|refine QZ ?_|refine qcT rfl ?_|refine qcF rfl ?_|refine E_blockX ?_|refine E_blockO rfl ?_|refine QV (rr_idxc Und.eq TyC.ty rfl rfl c2) ?_|refine QV (rr_loadN (cs := [str n, .slice bk' m ck']) TyC.ty rfl rfl (hat' _)) ?_|refine QV QL ?_|refine QV (rr_not rfl rfl) ?_|refine QV QlT ?_|refine QV QlF ?_|refine QV QnT ?_|refine QV QnF ?_|refine QV QaA ?_)
    refine TL_new rfl fun g9 => ?_
    conv=>arg 8;simp only[zA,zB,zC,zD,zE,zF,zG,zH,zI,rowS,ret,id_eq]
    refine TL_storeB (i := 1) (cs' := #[str n, .slice bk' m ck']) rfl rfl rfl rfl rfl rfl ?_
    conv=>arg 8;simp only[zA,zB,zC,zD,zE,zF,zG,zH,zI,rowS,ret,id_eq]
    repeat(first|refine QV QP ?_|refine QZ ?_|refine qcT rfl ?_|refine qcF rfl ?_|refine E_blockX ?_|refine E_blockO rfl ?_|refine QV (rr_loadB (i := 0) TyC.ty rfl rfl rfl) ?_|refine QV (rr_loadB (i := 1) TyC.ty rfl rfl rfl) ?_|refine QV QL ?_|refine QV (rr_not rfl rfl) ?_|refine QV QlT ?_|refine QV QlF ?_|refine QV QnT ?_|refine QV QnF ?_|refine QV QaA ?_)
    refine TL_call (he2 EntersC.en rfl rfl rfl) (fun w hm => hs _ hm.below) rfl rfl rfl ?_
    intro _ _
    conv=>arg 8;simp only[zA,zB,zC,zD,zE,zF,zG,zH,zI,rowS,ret,id_eq]
    repeat(first|refine QV QP ?_|refine QZ ?_|refine qcT rfl ?_|refine qcF rfl ?_|refine E_blockX ?_|refine E_blockO rfl ?_|refine QV (rr_not rfl rfl) ?_|refine QV QL ?_|refine QV (rr_not rfl rfl) ?_|refine QV QlT ?_|refine QV QlF ?_|refine QV QnT ?_|refine QV QnF ?_|refine QV QaA ?_)
    refine E_pick [] (by decide) rfl ?_
    exact E_round (k + 1) (by omega) (by show l.length - (k + 1) < l.length - k; omega) (by repeat' (first | exact True.intro | refine And.intro rfl ?_)) rfl
  · repeat(first|refine QV QP ?_|refine QZ ?_|refine qcT rfl ?_|refine qcF rfl ?_|refine E_blockX ?_|refine E_blockO rfl ?_|refine QV QL ?_|refine QV (rr_not rfl rfl) ?_|refine QV QlT ?_|refine QV QlF ?_|refine QV QnT ?_|refine QV QnF ?_|refine QV QaA ?_)
    exact E_ret1e rfl rfl rfl
theorem sameSpec_calls (v v' : Value) (s : Sp) (w : World) (h : SpR (Low w) w v s) (h' : SpR (Low w) w v' s) : Calls Tryd.prog 12 #[v, v'] w (Meets (ret (.bool true)) w) := by
  obtain ⟨vw, vr, rfl, h1, h2⟩ := h
  obtain ⟨vw', vr', rfl, h1', h2'⟩ := h'
  have q1 := fun w' (hg : Gr w w') => sameWords_calls vw vw' s.words w' (slf_gr h1 hg) (slf_gr h1' hg)
  have q2 := fun w' (hg : Gr w w') => sameRules_calls vr vr' s.rules w' (slf_gr h2 hg) (slf_gr h2' hg)
  obtain ⟨b1, c1, rfl, -⟩ := h1
  obtain ⟨b2, c2, rfl, -⟩ := h2
  obtain ⟨b1', c1', rfl, -⟩ := h1'
  obtain ⟨b2', c2', rfl, -⟩ := h2'
  refine enter (args := [.agg #[.slice b1 s.words.length c1, .slice b2 s.rules.length c2], .agg #[.slice b1' s.words.length c1', .slice b2' s.rules.length c2']]) (n := 17) Tryd.func12 rfl rfl rfl ?_
  refine T_seq (T_region (TL_box rfl rfl rfl fun g2 => TL_box rfl rfl rfl fun g3 => ?_))
  conv=>arg 8;simp only[zA,zB,zC,zD,zE,zF,zG,zH,zI,rowS,ret,id_eq]
  repeat(first|refine QV QP ?_|refine QZ ?_|refine qs rfl rfl rfl rfl rfl rfl ?_|((try refine qg rfl rfl rfl ?_);first|refine QV QP ?_|refine QV (rr_load1 (v := .slice b1 s.words.length c1) TyC.ty rfl (at_blk (i := 0) rfl rfl)) ?_|refine QV (rr_load1 (v := .slice b1' s.words.length c1') TyC.ty rfl (at_blk (i := 1) rfl rfl)) ?_|refine QV QA ?_))
  refine TL_call (he3 EntersC.en rfl rfl rfl rfl) (fun w hm => q1 _ hm.below) rfl rfl rfl ?_
  intro _ _
  conv=>arg 8;simp only[zA,zB,zC,zD,zE,zF,zG,zH,zI,rowS,ret,id_eq]
  repeat(first|refine QV QP ?_|refine QZ ?_|refine qs rfl rfl rfl rfl rfl rfl ?_|((try refine qg rfl rfl rfl ?_);first|refine QV QP ?_|refine QV (rr_load1 (v := .slice b2 s.rules.length c2) TyC.ty rfl (at_blk (i := 0) rfl rfl)) ?_|refine QV (rr_load1 (v := .slice b2' s.rules.length c2') TyC.ty rfl (at_blk (i := 1) rfl rfl)) ?_|refine QV QA ?_))
  refine TL_gcall (he3 EntersC.en rfl rfl rfl rfl) (fun w hm => q2 _ hm.below) rfl rfl rfl rfl rfl ?_
  intro _ _
  conv=>arg 8;simp only[zA,zB,zC,zD,zE,zF,zG,zH,zI,rowS,ret,id_eq]
  repeat(first|refine QV QP ?_|refine QZ ?_|refine qs rfl rfl rfl rfl rfl rfl ?_|((try refine qg rfl rfl rfl ?_);first|refine QV QP ?_|refine QV QA ?_))
  exact E_ret1e rfl rfl rfl
end Go.Proofs.YtakiohldgcifeaaDoor.eng


/- SpecW -/
namespace Go.Proofs.YtakiohldgcifeaaDoor.eng
open Go.RowKit kit mix classL rexL specL
noncomputable def wrW (w : Wd) : Bs := lineW w ++ [10]
def wrR (r : Rl) : Bs := lineR r ++ [10]
theorem txt_len {r : Rx} (h : chkX r = 0) : (txtX r).length ≤ 250000 := by
  obtain ⟨e, rfl, hf⟩ := chkX_re h
  rw [txt_emb]
  have h1 := body_len e
  have h2 := hf.sz
  have h3 : 2500 * e.size ≤ 2500 * 100 := Nat.mul_le_mul_left _ (by omega)
  omega
theorem named_len {s : Bs} (h : namedB s = true) : s.length ≤ 12 := by
  unfold namedB at h
  simp only [Bool.and_eq_true, decide_eq_true_eq] at h
  exact h.1.2
theorem wrW_len {w : Wd} (h : okW w) : (wrW w).length ≤ 250100 := by
  have h1 := txt_len h.2
  unfold wrW lineW skT tkT
  split
  · simp only [List.length_append, List.length_cons, List.length_nil]; omega
  · rename_i hn
    have h2 := named_len (h.1.resolve_left hn)
    simp only [List.length_append, List.length_cons, List.length_nil]; omega
theorem body_flat_len : ∀ {l : List Bs}, (∀ x ∈ l, namedB x = true) → (l.flatMap (32 :: ·)).length ≤ 13 * l.length
  | [], _ => Nat.le_refl _
  | x :: l, h => by
    have h1 := named_len (h x (List.mem_cons_self ..))
    have h2 := body_flat_len (l := l) fun y hy => h y (List.mem_cons_of_mem _ hy)
    rw [List.flatMap_cons, List.length_append, List.length_cons, List.length_cons]; omega
theorem flat_len {α : Type} {f : α → Bs} {M : Nat} : ∀ {l : List α}, (∀ x ∈ l, (f x).length ≤ M) → (l.flatMap f).length ≤ l.length * M
  | [], _ => Nat.zero_le _
  | x :: l, h => by
    have h1 := h x (List.mem_cons_self ..)
    have h2 := flat_len (l := l) fun y hy => h y (List.mem_cons_of_mem _ hy)
    rw [List.flatMap_cons, List.length_append, List.length_cons, Nat.succ_mul]; omega
theorem flat_take {α : Type} {f : α → Bs} {l : List α} {k : Nat} (h : k < l.length) : (l.take (k + 1)).flatMap f = (l.take k).flatMap f ++ f l[k] := by
  rw [List.take_succ_eq_append_getElem h, List.flatMap_append, List.flatMap_singleton]
theorem wrR_len {r : Rl} (h : okR r) (hb : r.2.length ≤ 1048576) : (wrR r).length ≤ 14000000 := by
  have h1 := named_len h.1
  have h2 := body_flat_len h.2
  unfold wrR lineR ruT
  simp only [List.length_append, List.length_cons, List.length_nil]; omega
set_option maxHeartbeats 8000000 in
theorem spWrite_calls (v : Value) (s : Sp) (w : World) (hT : TabW w) (h : SpR (Low w) w v s) (hb8 : ∀ r ∈ s.rules, r.2.length ≤ 1048576) :
    Calls Tryd.prog 5 #[v] w (Meets (ret (.tuple #[str (if checkS s = 0 then writeS s else []), .int .i64 (checkS s)])) w) := by
  have hck := fun w' (hg : Gr w w') => spCheck_calls v s w' (h.gr hg)
  obtain ⟨vw, vr, rfl, hw, hr⟩ := h
  obtain ⟨bw, cw, rfl, hcw, hmw, hrw⟩ := hw
  obtain ⟨br, cr, rfl, hcr, hmr, hrr⟩ := hr
  unfold maxLen at hmw hmr
  have hok := check_ok (s := s)
  have hW : writeS s = s.words.flatMap wrW ++ s.rules.flatMap wrR := rfl
  generalize checkS s = ec at *
  refine enter (args := [.agg #[.slice bw s.words.length cw, .slice br s.rules.length cr]]) (n := 74) Tryd.func5 rfl rfl rfl ?_
  refine T_seq (T_region (TL_box rfl rfl rfl fun g1 => ?_))
  conv=>arg 8;simp only[zA,zB,zC,zD,zE,zF,zG,zH,zI,rowS,ret,id_eq]
  repeat(first|refine QV QP ?_|refine QZ ?_|refine qcT rfl ?_|refine qcF rfl ?_|refine E_blockX ?_|refine E_blockO rfl ?_|refine QV (rr_loadB (i := 0) TyC.ty rfl rfl rfl) ?_|refine QV QL ?_|refine QV QA ?_|refine QV QlT ?_|refine QV QlF ?_|refine QV QnT ?_|refine QV QnF ?_|refine QV QaA ?_)
  refine TL_call (he1 EntersC.en rfl rfl) (fun w hm => hck _ hm.below) rfl rfl rfl ?_
  intro _ _
  conv=>arg 8;simp only[zA,zB,zC,zD,zE,zF,zG,zH,zI,rowS,ret,id_eq]
  clear hck
  by_cases c0 : ec = 0
  · subst c0
    obtain ⟨hl1, hl2, hw, hr⟩ := hok rfl
    rw [if_pos rfl, hW]
    obtain ⟨words, rules⟩ := s
    dsimp only at *
    repeat(first|refine QV QP ?_|refine QZ ?_|refine qcT rfl ?_|refine qcF rfl ?_|refine E_blockX ?_|refine E_blockO rfl ?_|refine QV QL ?_|refine QV QA ?_|refine QV QlT ?_|refine QV QlF ?_|refine QV QnT ?_|refine QV QnF ?_|refine QV QaA ?_)
    refine TL_new rfl fun g5 => ?_
    conv=>arg 8;simp only[zA,zB,zC,zD,zE,zF,zG,zH,zI,rowS,ret,id_eq]
    repeat(first|refine QV QP ?_|refine QZ ?_|refine qcT rfl ?_|refine qcF rfl ?_|refine E_blockX ?_|refine E_blockO rfl ?_|refine QV (rr_load1 (v := .slice bw words.length cw) TyC.ty rfl (at_blk (i := 0) rfl rfl)) ?_|refine QV QL ?_|refine QV QA ?_|refine QV QlT ?_|refine QV QlF ?_|refine QV QnT ?_|refine QV QnF ?_|refine QV QaA ?_)
    refine T_nil 5 1 ?_
    conv => arg 7; simp only [zA, zB, zC, zD, zE, zF, zG, zH, zI, rowS, ret, id_eq]
    refine T_loop (ι := Nat × Value × Value) (fun (k, p, v) => k ≤ words.length ∧ (p = .pointer none ∨ p = .pointer (some ⟨g5, 0, none⟩))) (fun (k, p, v) => [(1, .pointer (some ⟨g1, 0, none⟩)), (5, .pointer (some ⟨g5, 0, none⟩)), (20, .slice bw words.length cw), (21, .int .i64 words.length), (22, .int .i64 (k : Int))])
      (fun (k, p, v) => [blkO g1 #[.slice bw words.length cw, .slice br rules.length cr] 25, blkO g5 #[p, v] 50, rowO 5 1 v ((words.take k).flatMap wrW).length (((words.take k).flatMap wrW).map u8v)]) (fun (k, _, _) => words.length - k) (0, .pointer none, .slice none 0 0) ⟨Nat.zero_le _, .inl rfl⟩ (by repeat' (first | exact True.intro | refine And.intro rfl ?_)) rfl ?_
    rintro ⟨k, p, v⟩ ⟨i1, i2⟩
    dsimp only at i1 i2 ⊢
    by_cases c1 : k < words.length
    · obtain ⟨b, off, rfl, _, hrd⟩ := hrw (by omega)
      obtain ⟨bk, ck, q1, q2, q3⟩ := word_at hrd c1
      have hwk := hw words[k] (List.getElem_mem c1)
      have htk := flat_take (f := wrW) c1
      have hl0 := flat_len (f := wrW) (M := 250100) (l := words.take k) fun x hx => wrW_len (hw x (List.mem_of_mem_take hx))
      rw [List.length_take] at hl0
      have hl3 : ((words.take k).flatMap wrW).length ≤ 60 * 250100 := Nat.le_trans hl0 (Nat.mul_le_mul_right _ (by omega))
      have hl4 := wrW_len hwk
      have hat : ∀ (L : List Own) (j : Nat) (u : Value), (wdC words[k].1 words[k].2.kind words[k].2.cls (.slice bk words[k].2.kids.length ck))[j]? = some u → At w L ⟨b, off + k * 7 + j, none⟩ u := fun L j u hj => at_old (q1 j u hj)
      obtain ⟨e, he, hf⟩ := chkX_re hwk.2
      have q2' : RexR (Low w) w (rexV words[k].2.kind words[k].2.cls (.slice bk words[k].2.kids.length ck)) (emb e) := by rw [← he]; exact q2
      have hpr := fun w' (hT' : TabW w') (hg : Gr w w') => print_calls (rexV words[k].2.kind words[k].2.cls (.slice bk words[k].2.kids.length ck)) e w' hT' (q2'.gr hg) hf
      have htx : txtX words[k].2 = body e := by rw [he, txt_emb]
      clear hrd q1 q2 q2' he
      generalize words[k] = wd at *
      obtain ⟨nm, r⟩ := wd
      dsimp only at *
      generalize hll : (words.take k).flatMap wrW = ll at *
      have hlw : wrW (nm, r) = (if nm = [] then skT ++ txtX r else tkT ++ (nm ++ (32 :: txtX r))) ++ [10] := rfl
      rw [htx] at hlw
      generalize body e = tx at *
      generalize r.kind = rk at *
      generalize r.cls = rc at *
      generalize r.kids.length = rn at *
      repeat(first|refine QV QP ?_|refine QZ ?_|refine qcT rfl ?_|refine qcF rfl ?_|refine E_blockX ?_|refine E_blockO rfl ?_|refine QV (rr_idxc Und.eq TyC.ty rfl rfl c1) ?_|refine QV (rr_loadN (cs := wdC nm rk rc (.slice bk rn ck)) TyC.ty rfl rfl (hat _)) ?_|refine QV QL ?_|refine QV QA ?_|refine QV QlT ?_|refine QV QlF ?_|refine QV QnT ?_|refine QV QnF ?_|refine QV QaA ?_)
      clear hat
      refine TL_new rfl fun g7 => ?_
      conv=>arg 8;simp only[zA,zB,zC,zD,zE,zF,zG,zH,zI,rowS,ret,id_eq]
      refine TL_storeB (i := 3) (cs' := (wdC nm rk rc (.slice bk rn ck)).toArray) rfl rfl rfl rfl rfl rfl ?_
      conv=>arg 8;simp only[zA,zB,zC,zD,zE,zF,zG,zH,zI,rowS,ret,id_eq]
      repeat(first|refine QV QP ?_|refine QZ ?_|refine qcT rfl ?_|refine qcF rfl ?_|refine E_blockX ?_|refine E_blockO rfl ?_|refine QV (rr_loadN (cs := rexC rk rc (.slice bk rn ck)) TyC.ty rfl rfl (fun j v hj => at_blk (i := 3) rfl (wd_rex hj))) ?_|refine QV QL ?_|refine QV QA ?_|refine QV QlT ?_|refine QV QlF ?_|refine QV QnT ?_|refine QV QnF ?_|refine QV QaA ?_)
      refine TL_call (he1 EntersC.en rfl rfl) (fun w hm => hpr w (hT.up hm) hm.below) rfl rfl rfl ?_
      intro _ _
      conv=>arg 8;simp only[zA,zB,zC,zD,zE,zF,zG,zH,zI,rowS,ret,id_eq]
      repeat(first|refine QV QP ?_|refine QZ ?_|refine qcT rfl ?_|refine qcF rfl ?_|refine E_blockX ?_|refine E_blockO rfl ?_|refine QV (rr_load1 (v := str nm) TyC.ty rfl (at_blk (i := 3) rfl rfl)) ?_|refine QV QL ?_|refine QV QA ?_|refine QV QlT ?_|refine QV QlF ?_|refine QV QnT ?_|refine QV QnF ?_|refine QV QaA ?_)
      by_cases e0 : nm = []
      · subst e0
        rw [if_pos rfl] at hlw
        have hlen := congrArg List.length hlw
        simp only [List.length_append, List.length_cons, List.length_nil, skT] at hlen
        repeat(first|refine QV QP ?_|refine QZ ?_|refine qcT rfl ?_|refine qcF rfl ?_|refine E_blockX ?_|refine E_blockO rfl ?_|refine QV (rr_streq (b := true) rfl rfl rfl) ?_|refine QV (rr_stradd (l := [115, 107, 105, 112, 32]) (l' := tx) rfl rfl (by simp only [List.length_cons, List.length_nil]; omega)) ?_|refine QV (rr_stradd (l := [115, 107, 105, 112, 32] ++ tx) (l' := [10]) rfl rfl (by simp only [List.length_append, List.length_cons, List.length_nil]; omega)) ?_|refine QV QL ?_|refine QV QA ?_|refine QV QlT ?_|refine QV QlF ?_|refine QV QnT ?_|refine QV QnF ?_|refine QV QaA ?_)
        refine TL_callB [1, 2] [0] (by decide) rfl rfl (he2 EntersC.en rfl rfl rfl) (fun w hm hb => bldWrite_calls g5 p v ll ([115, 107, 105, 112, 32] ++ tx ++ [10]) i2 (by simp only [List.length_append, List.length_cons, List.length_nil]; omega) w _ hb) rfl rfl rfl ?_
        intro v' _
        rw [show ([115, 107, 105, 112, 32] ++ tx ++ [10] : Bs) = wrW ([], r) from hlw.symm]
        conv=>arg 8;simp only[zA,zB,zC,zD,zE,zF,zG,zH,zI,rowS,ret,id_eq, bldS, bldL]
        repeat(first|refine QV QP ?_|refine QZ ?_|refine qcT rfl ?_|refine qcF rfl ?_|refine E_blockX ?_|refine E_blockO rfl ?_|refine QV QL ?_|refine QV QA ?_|refine QV QlT ?_|refine QV QlF ?_|refine QV QnT ?_|refine QV QnF ?_|refine QV QaA ?_)
        refine E_pick [0, 1, 2] (by decide) rfl ?_
        exact E_round (k + 1, .pointer (some ⟨g5, 0, none⟩), v') ⟨by omega, .inr rfl⟩ (by show words.length - (k + 1) < words.length - k; omega) (by repeat' (first | exact True.intro | refine And.intro rfl ?_)) (by rw [htk]; rfl)
      · rw [if_neg e0] at hlw
        have hlen := congrArg List.length hlw
        simp only [List.length_append, List.length_cons, List.length_nil, tkT] at hlen
        have hlw2 : wrW (nm, r) = [116, 111, 107, 101, 110, 32] ++ nm ++ [32] ++ tx ++ [10] := by rw [hlw]; simp [tkT]
        repeat(first|refine QV QP ?_|refine QZ ?_|refine qcT rfl ?_|refine qcF rfl ?_|refine E_blockX ?_|refine E_blockO rfl ?_|refine QV (rr_streq (b := false) rfl rfl (decide_eq_false e0)) ?_|refine QV (rr_load1 (v := str nm) TyC.ty rfl (at_blk (i := 3) rfl rfl)) ?_|refine QV (rr_stradd (l := [116, 111, 107, 101, 110, 32]) (l' := nm) rfl rfl (by simp only [List.length_cons, List.length_nil]; omega)) ?_|refine QV (rr_stradd (l := [116, 111, 107, 101, 110, 32] ++ nm) (l' := [32]) rfl rfl (by simp only [List.length_append, List.length_cons, List.length_nil]; omega)) ?_|refine QV (rr_stradd (l := [116, 111, 107, 101, 110, 32] ++ nm ++ [32]) (l' := tx) rfl rfl (by simp only [List.length_append, List.length_cons, List.length_nil]; omega)) ?_|refine QV (rr_stradd (l := [116, 111, 107, 101, 110, 32] ++ nm ++ [32] ++ tx) (l' := [10]) rfl rfl (by simp only [List.length_append, List.length_cons, List.length_nil]; omega)) ?_|refine QV QL ?_|refine QV QA ?_|refine QV QlT ?_|refine QV QlF ?_|refine QV QnT ?_|refine QV QnF ?_|refine QV QaA ?_)
        refine TL_callB [1, 2] [0] (by decide) rfl rfl (he2 EntersC.en rfl rfl rfl) (fun w hm hb => bldWrite_calls g5 p v ll ([116, 111, 107, 101, 110, 32] ++ nm ++ [32] ++ tx ++ [10]) i2 (by simp only [List.length_append, List.length_cons, List.length_nil]; omega) w _ hb) rfl rfl rfl ?_
        intro v' _
        rw [← hlw2]
        conv=>arg 8;simp only[zA,zB,zC,zD,zE,zF,zG,zH,zI,rowS,ret,id_eq, bldS, bldL]
        repeat(first|refine QV QP ?_|refine QZ ?_|refine qcT rfl ?_|refine qcF rfl ?_|refine E_blockX ?_|refine E_blockO rfl ?_|refine QV QL ?_|refine QV QA ?_|refine QV QlT ?_|refine QV QlF ?_|refine QV QnT ?_|refine QV QnF ?_|refine QV QaA ?_)
        refine E_pick [0, 1, 2] (by decide) rfl ?_
        exact E_round (k + 1, .pointer (some ⟨g5, 0, none⟩), v') ⟨by omega, .inr rfl⟩ (by show words.length - (k + 1) < words.length - k; omega) (by repeat' (first | exact True.intro | refine And.intro rfl ?_)) (by rw [htk]; rfl)
    · obtain rfl : k = words.length := by omega
      rw [List.take_length]
      have hl0 := flat_len (f := wrW) (M := 250100) (l := words) fun x hx => wrW_len (hw x hx)
      have hl3 : (words.flatMap wrW).length ≤ 60 * 250100 := Nat.le_trans hl0 (Nat.mul_le_mul_right _ (by omega))
      generalize words.flatMap wrW = ll at *
      repeat(first|refine QV QP ?_|refine QZ ?_|refine qcT rfl ?_|refine qcF rfl ?_|refine E_blockX ?_|refine E_blockO rfl ?_|refine QV (rr_load1 (v := .slice br rules.length cr) TyC.ty rfl (at_blk (i := 0) rfl rfl)) ?_|refine QV QL ?_|refine QV QA ?_|refine QV QlT ?_|refine QV QlF ?_|refine QV QnT ?_|refine QV QnF ?_|refine QV QaA ?_)
      refine T_pick [1, 2] (by decide) rfl ?_
      refine T_loop (ι := Nat × Value × Value) (fun (k, p, v) => k ≤ rules.length ∧ (p = .pointer none ∨ p = .pointer (some ⟨g5, 0, none⟩))) (fun (k, p, v) => [(5, .pointer (some ⟨g5, 0, none⟩)), (49, .slice br rules.length cr), (50, .int .i64 rules.length), (51, .int .i64 (k : Int))])
        (fun (k, p, v) => [blkO g5 #[p, v] 50, rowO 5 1 v (ll ++ (rules.take k).flatMap wrR).length ((ll ++ (rules.take k).flatMap wrR).map u8v)]) (fun (k, _, _) => rules.length - k) (0, p, v) ⟨Nat.zero_le _, i2⟩ (by repeat' (first | exact True.intro | refine And.intro rfl ?_)) (by simp only [List.take_zero, List.flatMap_nil, List.append_nil]; rfl) ?_
      rintro ⟨k, p, v⟩ ⟨i3, i4⟩
      dsimp only at i3 i4 ⊢
      by_cases c2 : k < rules.length
      · obtain ⟨b, off, rfl, _, hrd⟩ := hrr (by omega)
        obtain ⟨bk, ck, q1, q2, q3⟩ := rule_at hrd c2
        have hrk := hr rules[k] (List.getElem_mem c2)
        have hbk := hb8 rules[k] (List.getElem_mem c2)
        have htk := flat_take (f := wrR) c2
        have hl5 := flat_len (f := wrR) (M := 14000000) (l := rules.take k) fun x hx => wrR_len (hr x (List.mem_of_mem_take hx)) (hb8 x (List.mem_of_mem_take hx))
        rw [List.length_take] at hl5
        have hl6 : ((rules.take k).flatMap wrR).length ≤ 60 * 14000000 := Nat.le_trans hl5 (Nat.mul_le_mul_right _ (by omega))
        have hat : ∀ (L : List Own) (j : Nat) (u : Value), ([str rules[k].1, .slice bk rules[k].2.length ck] : List Value)[j]? = some u → At w L ⟨b, off + k * 2 + j, none⟩ u := fun L j u hj => at_old (q1 j u hj)
        have hsl := q2.flat (by decide)
        clear hrd q1 q2
        have hll : (ll ++ (rules.take k).flatMap wrR).length ≤ 900000000 := by rw [List.length_append]; omega
        generalize hlk : ll ++ (rules.take k).flatMap wrR = lk at *
        generalize rules[k] = r at *
        obtain ⟨nm, bd⟩ := r
        dsimp only at *
        have hlr : wrR (nm, bd) = ([114, 117, 108, 101, 32] ++ nm ++ [32, 61]) ++ bd.flatMap (32 :: ·) ++ [10] := by unfold wrR lineR ruT; simp
        obtain ⟨b2, c2', hv2, hc2, hm2, hrd2⟩ := hsl
        cases hv2
        unfold maxLen at hm2
        have hnl : nm.length ≤ 12 := named_len hrk.1
        have hrk2 : ∀ x ∈ bd, namedB x = true := hrk.2
        repeat(first|refine QV QP ?_|refine QZ ?_|refine qcT rfl ?_|refine qcF rfl ?_|refine E_blockX ?_|refine E_blockO rfl ?_|refine QV (rr_idxc Und.eq TyC.ty rfl rfl c2) ?_|refine QV (rr_loadN (cs := [str nm, .slice bk bd.length ck]) TyC.ty rfl rfl (hat _)) ?_|refine QV QL ?_|refine QV QA ?_|refine QV QlT ?_|refine QV QlF ?_|refine QV QnT ?_|refine QV QnF ?_|refine QV QaA ?_)
        clear hat
        refine TL_new rfl fun g11 => ?_
        conv=>arg 8;simp only[zA,zB,zC,zD,zE,zF,zG,zH,zI,rowS,ret,id_eq]
        refine TL_storeB (i := 2) (cs' := #[str nm, .slice bk bd.length ck]) rfl rfl rfl rfl rfl rfl ?_
        conv=>arg 8;simp only[zA,zB,zC,zD,zE,zF,zG,zH,zI,rowS,ret,id_eq]
        repeat(first|refine QV QP ?_|refine QZ ?_|refine qcT rfl ?_|refine qcF rfl ?_|refine E_blockX ?_|refine E_blockO rfl ?_|refine QV (rr_load1 (v := str nm) TyC.ty rfl (at_blk (i := 2) rfl rfl)) ?_|refine QV (rr_stradd (l := [114, 117, 108, 101, 32]) (l' := nm) rfl rfl (by simp only [List.length_cons, List.length_nil]; omega)) ?_|refine QV (rr_stradd (l := [114, 117, 108, 101, 32] ++ nm) (l' := [32, 61]) rfl rfl (by simp only [List.length_append, List.length_cons, List.length_nil]; omega)) ?_|refine QV QL ?_|refine QV QA ?_|refine QV QlT ?_|refine QV QlF ?_|refine QV QnT ?_|refine QV QnF ?_|refine QV QaA ?_)
        have hhl : ([114, 117, 108, 101, 32] ++ nm ++ [32, 61] : Bs).length ≤ 20 := by simp only [List.length_append, List.length_cons, List.length_nil]; omega
        generalize hh : ([114, 117, 108, 101, 32] ++ nm ++ [32, 61] : Bs) = hdT at *
        refine TL_callB [0, 1] [2] (by decide) rfl rfl (he2 EntersC.en rfl rfl rfl) (fun w hm hb => bldWrite_calls g5 p v lk hdT i4 (by omega) w _ hb) rfl rfl rfl ?_
        intro v' _
        conv=>arg 8;simp only[zA,zB,zC,zD,zE,zF,zG,zH,zI,rowS,ret,id_eq, bldS, bldL]
        repeat(first|refine QV QP ?_|refine QZ ?_|refine qcT rfl ?_|refine qcF rfl ?_|refine E_blockX ?_|refine E_blockO rfl ?_|refine QV (rr_load1 (v := .slice bk bd.length ck) TyC.ty rfl (at_blk (i := 0) rfl rfl)) ?_|refine QV QL ?_|refine QV QA ?_|refine QV QlT ?_|refine QV QlF ?_|refine QV QnT ?_|refine QV QnF ?_|refine QV QaA ?_)
        have hlk2 : (lk ++ hdT).length ≤ 900000100 := by rw [List.length_append]; omega
        generalize hlh : lk ++ hdT = lh at *
        refine T_pick [1, 2] (by decide) rfl ?_
        refine T_loop (ι := Nat × Value) (fun (i, v) => i ≤ bd.length) (fun (i, v) => [(5, .pointer (some ⟨g5, 0, none⟩)), (49, .slice (some ⟨b, off, none⟩) rules.length cr), (50, .int .i64 rules.length), (51, .int .i64 (k : Int)), (61, .slice bk bd.length ck), (62, .int .i64 bd.length), (63, .int .i64 (i : Int))])
          (fun (i, v) => [blkO g5 #[.pointer (some ⟨g5, 0, none⟩), v] 50, rowO 5 1 v (lh ++ (bd.take i).flatMap (32 :: ·)).length ((lh ++ (bd.take i).flatMap (32 :: ·)).map u8v)]) (fun (i, _) => bd.length - i) (0, v') (Nat.zero_le _) (by repeat' (first | exact True.intro | refine And.intro rfl ?_)) (by simp only [List.take_zero, List.flatMap_nil, List.append_nil]; rfl) ?_
        rintro ⟨i, v⟩ i5
        dsimp only at i5 ⊢
        by_cases c3 : i < bd.length
        · obtain ⟨b3, off3, rfl, hr3⟩ := hrd2 (by omega)
          have hat := fun (L : List Own) => at_el (L := L) bsC_len hr3 c3 0 _ rfl
          have hx := hrk2 bd[i] (List.getElem_mem c3)
          have hti := flat_take (f := (32 :: · : Bs → Bs)) c3
          have hl7 := body_flat_len (l := bd.take i) fun x hx => hrk2 x (List.mem_of_mem_take hx)
          rw [List.length_take] at hl7
          have hl8 : (lh ++ (bd.take i).flatMap (32 :: ·)).length ≤ 1000000000 := by rw [List.length_append]; omega
          have hxl := named_len hx
          clear hr3
          generalize hlx : lh ++ (bd.take i).flatMap (32 :: ·) = li at *
          generalize bd[i] = x at *
          repeat(first|refine QV QP ?_|refine QZ ?_|refine qcT rfl ?_|refine qcF rfl ?_|refine E_blockX ?_|refine E_blockO rfl ?_|refine QV (rr_idxc Und.eq TyC.ty rfl rfl c3) ?_|refine QV (rr_load1 (v := str x) TyC.ty rfl (hat _)) ?_|refine QV (rr_stradd (l := [32]) (l' := x) rfl rfl (by simp only [List.length_cons, List.length_nil]; omega)) ?_|refine QV QL ?_|refine QV QA ?_|refine QV QlT ?_|refine QV QlF ?_|refine QV QnT ?_|refine QV QnF ?_|refine QV QaA ?_)
          refine TL_callB [0, 1] [] (by decide) rfl rfl (he2 EntersC.en rfl rfl rfl) (fun w hm hb => bldWrite_calls g5 (.pointer (some ⟨g5, 0, none⟩)) v li ([32] ++ x) (.inr rfl) (by simp only [List.length_append, List.length_cons, List.length_nil]; omega) w _ hb) rfl rfl rfl ?_
          intro v2 _
          conv=>arg 8;simp only[zA,zB,zC,zD,zE,zF,zG,zH,zI,rowS,ret,id_eq, bldS, bldL]
          repeat(first|refine QV QP ?_|refine QZ ?_|refine qcT rfl ?_|refine qcF rfl ?_|refine E_blockX ?_|refine E_blockO rfl ?_|refine QV QL ?_|refine QV QA ?_|refine QV QlT ?_|refine QV QlF ?_|refine QV QnT ?_|refine QV QnF ?_|refine QV QaA ?_)
          exact E_round (i + 1, v2) (by show i + 1 ≤ bd.length; omega) (by show bd.length - (i + 1) < bd.length - i; omega) (by repeat' (first | exact True.intro | refine And.intro rfl ?_)) (by dsimp only; rw [hti, ← List.append_assoc, hlx])
        · obtain rfl : i = bd.length := by omega
          have hl7 := body_flat_len (l := bd) hrk2
          rw [List.take_length]
          repeat(first|refine QV QP ?_|refine QZ ?_|refine qcT rfl ?_|refine qcF rfl ?_|refine E_blockX ?_|refine E_blockO rfl ?_|refine QV QL ?_|refine QV QA ?_|refine QV QlT ?_|refine QV QlF ?_|refine QV QnT ?_|refine QV QnF ?_|refine QV QaA ?_)
          refine TL_callB [0, 1] [] (by decide) rfl rfl (he2 EntersC.en rfl rfl rfl) (fun w hm hb => bldWrite_calls g5 (.pointer (some ⟨g5, 0, none⟩)) v (lh ++ bd.flatMap (32 :: ·)) [10] (.inr rfl) (by simp only [List.length_append, List.length_cons, List.length_nil]; omega) w _ hb) rfl rfl rfl ?_
          intro v2 _
          conv=>arg 8;simp only[zA,zB,zC,zD,zE,zF,zG,zH,zI,rowS,ret,id_eq, bldS, bldL]
          have hfin : lh ++ bd.flatMap (32 :: ·) ++ [10] = lk ++ wrR (nm, bd) := by rw [← hlh, hlr]; simp
          rw [hfin]
          repeat(first|refine QV QP ?_|refine QZ ?_|refine qcT rfl ?_|refine qcF rfl ?_|refine E_blockX ?_|refine E_blockO rfl ?_|refine QV QL ?_|refine QV QA ?_|refine QV QlT ?_|refine QV QlF ?_|refine QV QnT ?_|refine QV QnF ?_|refine QV QaA ?_)
          exact E_round (k + 1, .pointer (some ⟨g5, 0, none⟩), v2) ⟨by omega, .inr rfl⟩ (by show rules.length - (k + 1) < rules.length - k; omega) (by repeat' (first | exact True.intro | refine And.intro rfl ?_)) (by dsimp only; rw [htk, ← List.append_assoc, hlk])
      · obtain rfl : k = rules.length := by omega
        rw [List.take_length]
        repeat(first|refine QV QP ?_|refine QZ ?_|refine qcT rfl ?_|refine qcF rfl ?_|refine E_blockX ?_|refine E_blockO rfl ?_|refine QV QL ?_|refine QV QA ?_|refine QV QlT ?_|refine QV QlF ?_|refine QV QnT ?_|refine QV QnF ?_|refine QV QaA ?_)
        refine TL_callTo (L' := []) (he1 EntersC.en rfl rfl) (fun w' hm => bldString_calls g5 p v _ i4 w w' hm) rfl rfl rfl ?_
        conv=>arg 8;simp only[zA,zB,zC,zD,zE,zF,zG,zH,zI,rowS,ret,id_eq]
        repeat(first|refine QV QP ?_|refine QZ ?_|refine qcT rfl ?_|refine qcF rfl ?_|refine E_blockX ?_|refine E_blockO rfl ?_|refine QV QL ?_|refine QV QA ?_|refine QV QlT ?_|refine QV QlF ?_|refine QV QnT ?_|refine QV QnF ?_|refine QV QaA ?_)
        exact E_ret2e rfl rfl rfl rfl
  · rw [if_neg c0]
    repeat(first|refine QV QP ?_|refine QZ ?_|refine qcT rfl ?_|refine qcF rfl ?_|refine E_blockX ?_|refine E_blockO rfl ?_|refine QV (rr_neq (b := true) rfl rfl (decide_eq_true c0)) ?_|refine QV QL ?_|refine QV QA ?_|refine QV QlT ?_|refine QV QlF ?_|refine QV QnT ?_|refine QV QnF ?_|refine QV QaA ?_)
    exact E_ret2e rfl rfl rfl rfl
end Go.Proofs.YtakiohldgcifeaaDoor.eng


/- SpecAgainW -/
namespace Go.Proofs.YtakiohldgcifeaaDoor.specAgain
open Go.RowKit kit mix classL rexL specL eng
open gramL (cutF)
theorem const_read : readS [114, 117, 108, 101, 32, 97, 32, 61, 32, 98, 10] = (⟨[], []⟩, 0, 11) := by kernel_rfl
theorem rule_body {line : Bs} : (spRule line).1.2.length ≤ line.length + 1 := by
  have h1 := pre_len ruT line
  have h2 := cutE_le (preF ruT line).1
  unfold spRule
  split
  · cases hb : spBody (cutE (preF ruT line).1).2.1 with
    | none => exact Nat.zero_le _
    | some l =>
      show l.length ≤ _
      generalize (cutE (preF ruT line).1).2.1 = b at *
      cases b with
      | nil => cases hb; exact Nat.zero_le _
      | cons x r =>
        have hb : (if x ≠ 32 then none else if (splitF r).all namedB = true then some (splitF r) else none) = some l := hb
        split at hb
        · cases hb
        · split at hb
          · cases hb
            have := split_le r
            simp only [List.length_cons] at h2; omega
          · cases hb
  · exact Nat.zero_le _
theorem lines_bound : ∀ (f : Nat) (s : Bs) (a : Int) (ws : List Wd) (rs : List Rl), s.length ≤ 4096 → (∀ r ∈ rs, r.2.length ≤ 4097) → ∀ r ∈ (spLines f s a ws rs).1.2, r.2.length ≤ 4097
  | 0, [], _, _, _, _, h => h
  | 0, _ :: _, _, _, _, _, h => h
  | _ + 1, [], _, _, _, _, h => h
  | f + 1, b :: r, a, ws, rs, hs, h => by
    rw [lines_cons]
    split
    · exact h
    · rename_i hc
      have hcl := gramL.cut_len (c := 10) (s := b :: r) (by simpa using hc)
      split
      · exact h
      · split
        · exact lines_bound f _ _ _ _ (by omega) h
        · split
          · refine lines_bound f _ _ _ _ (by omega) fun q hq => ?_
            rcases List.mem_append.1 hq with hq | hq
            · exact h q hq
            · have := rule_body (line := (cutF 10 (b :: r)).1)
              rw [List.mem_singleton.1 hq]; omega
          · exact h
theorem read_bodies {t : Bs} : ∀ r ∈ (readS t).1.rules, r.2.length ≤ 1048576 := fun r hr => by
  unfold readS at hr
  split at hr
  · cases hr
  · rename_i hl
    split at hr
    · cases hr
    · split at hr
      · cases hr
      · have := lines_bound t.length t 1 [] [] (by omega) (fun _ h => by cases h) r hr
        omega
theorem wds_form {F : Nat → Prop} {v : Value} {l : List Wd} (w : World) (h : (wdsO F v l).holds w) : ∃ b c, v = .slice b l.length c := let ⟨b, c, h, _⟩ := shp_slf h; ⟨b, c, h⟩
theorem rls_form {F : Nat → Prop} {v : Value} {l : List Rl} (w : World) (h : (rlsO F v l).holds w) : ∃ b c, v = .slice b l.length c := let ⟨b, c, h, _⟩ := shp_slf h; ⟨b, c, h⟩
theorem sp_of {F F2 : Nat → Prop} {vw vr : Value} {s : Sp} {w : World} (h1 : (wdsO F vw s.words).holds w) (h2 : (rlsO F2 vr s.rules).holds w) : SpR (Low w) w (.agg #[vw, vr]) s := ⟨vw, vr, rfl, shp_slf h1, shp_slf h2⟩
set_option maxHeartbeats 4000000 in
theorem walkM (w : World) (hT : TabW w) (hM : MaxL w) (text : List UInt8) :
    Calls Tryd.prog 4 #[str text] w (Meets (ret (.bool true)) w) := by
  have hr0 := fun w' (hg : Gr w w') => spRead_calls [114, 117, 108, 101, 32, 97, 32, 61, 32, 98, 10] w' (hM.gr hg)
  rw [const_read] at hr0
  have hr1 := fun t w' (hg : Gr w w') => spRead_calls t w' (hM.gr hg)
  have hbd := read_bodies (t := text)
  have hno := fun s a e => read_no (t := text) (s := s) (a := a) (e := e)
  have hyes := fun s a => read_ok (t := text) (s := s) (a := a)
  refine enter (args := [str text]) (n := 91) Tryd.func4 rfl rfl rfl ?_
  repeat(first|refine QV QP ?_|refine QZ ?_|refine qcT rfl ?_|refine qcF rfl ?_|refine qs rfl rfl rfl rfl rfl rfl ?_|((try refine qg rfl rfl rfl ?_);first|refine QV QP ?_|refine QV QL ?_|refine QV QA ?_|refine QV QeT ?_|refine QV QeF ?_|refine QV QnT ?_|refine QV QnF ?_))
  refine TL_call (he1 EntersC.en rfl rfl) (fun w hm => hr0 _ hm.below) rfl rfl rfl ?_
  rintro ⟨vw0, FW0, vr0, FR0⟩ _
  conv=>arg 8;simp only[zA,zB,zC,zD,zE,zF,zG,zH,zI,rowS,ret,id_eq, redSp]
  conv => arg 7; simp only [redSp]
  refine TL_know (i := 0) rfl (fun w h => wds_form w h) fun hf => ?_
  obtain ⟨b0, c0, rfl⟩ := hf
  refine TL_know (i := 1) rfl (fun w h => rls_form w h) fun hf => ?_
  obtain ⟨b1, c1, rfl⟩ := hf
  repeat(first|refine QV QP ?_|refine QZ ?_|refine qcT rfl ?_|refine qcF rfl ?_|refine qs rfl rfl rfl rfl rfl rfl ?_|((try refine qg rfl rfl rfl ?_);first|refine QV QP ?_|refine QV QL ?_|refine QV QA ?_|refine QV QeT ?_|refine QV QeF ?_|refine QV QnT ?_|refine QV QnF ?_))
  refine TL_new rfl fun g3 => ?_
  conv=>arg 8;simp only[zA,zB,zC,zD,zE,zF,zG,zH,zI,rowS,ret,id_eq]
  repeat(first|refine QV QP ?_|refine QZ ?_|refine qcT rfl ?_|refine qcF rfl ?_|refine qs rfl rfl rfl rfl rfl rfl ?_|((try refine qg rfl rfl rfl ?_);first|refine QV QP ?_|refine QV QL ?_|refine QV QA ?_|refine QV QeT ?_|refine QV QeF ?_|refine QV QnT ?_|refine QV QnF ?_))
  refine TL_storeB (i := 2) (cs' := #[.slice b0 ([] : List Wd).length c0, .slice b1 ([] : List Rl).length c1]) rfl rfl rfl rfl rfl rfl ?_
  conv=>arg 8;simp only[zA,zB,zC,zD,zE,zF,zG,zH,zI,rowS,ret,id_eq]
  repeat(first|refine QV QP ?_|refine QZ ?_|refine qcT rfl ?_|refine qcF rfl ?_|refine qs rfl rfl rfl rfl rfl rfl ?_|((try refine qg rfl rfl rfl ?_);first|refine QV QP ?_|refine QV (rr_load1 (v := .slice b1 ([] : List Rl).length c1) TyC.ty rfl (at_blk (i := 2) rfl rfl)) ?_|refine QV (rr_neq (b := false) rfl rfl rfl) ?_|refine QV QL ?_|refine QV QA ?_|refine QV QeT ?_|refine QV QeF ?_|refine QV QnT ?_|refine QV QnF ?_))
  refine TL_pick [] (by decide) rfl ?_
  have hr1t := hr1 text
  generalize readS text = R at *
  obtain ⟨s, a, e⟩ := R
  dsimp only at hbd
  refine TL_call (he1 EntersC.en rfl rfl) (fun w hm => hr1t _ hm.below) rfl rfl rfl ?_
  rintro ⟨vw, FW, vr, FR⟩ _
  conv=>arg 8;simp only[zA,zB,zC,zD,zE,zF,zG,zH,zI,rowS,ret,id_eq, redSp]
  conv => arg 7; simp only [redSp]
  refine TL_know (i := 0) rfl (fun w h => wds_form w h) fun hf => ?_
  obtain ⟨b2, c2, rfl⟩ := hf
  refine TL_know (i := 1) rfl (fun w h => rls_form w h) fun hf => ?_
  obtain ⟨b3, c3, rfl⟩ := hf
  repeat(first|refine QV QP ?_|refine QZ ?_|refine qcT rfl ?_|refine qcF rfl ?_|refine qs rfl rfl rfl rfl rfl rfl ?_|((try refine qg rfl rfl rfl ?_);first|refine QV QP ?_|refine QV QL ?_|refine QV QA ?_|refine QV QeT ?_|refine QV QeF ?_|refine QV QnT ?_|refine QV QnF ?_))
  refine TL_new rfl fun g6 => ?_
  conv=>arg 8;simp only[zA,zB,zC,zD,zE,zF,zG,zH,zI,rowS,ret,id_eq]
  repeat(first|refine QV QP ?_|refine QZ ?_|refine qcT rfl ?_|refine qcF rfl ?_|refine qs rfl rfl rfl rfl rfl rfl ?_|((try refine qg rfl rfl rfl ?_);first|refine QV QP ?_|refine QV QL ?_|refine QV QA ?_|refine QV QeT ?_|refine QV QeF ?_|refine QV QnT ?_|refine QV QnF ?_))
  refine TL_storeB (i := 2) (cs' := #[.slice b2 s.words.length c2, .slice b3 s.rules.length c3]) rfl rfl rfl rfl rfl rfl ?_
  conv=>arg 8;simp only[zA,zB,zC,zD,zE,zF,zG,zH,zI,rowS,ret,id_eq]
  by_cases e0 : e = 0
  · subst e0
    obtain ⟨hcs, -⟩ := hyes s a rfl
    clear hno hyes hr1t
    have hback := spec_back hcs
    have hwr := fun (w' : World) (L : List Own) (hm : Mem (w : Base) L w') (h0 : L[0]? = some (wdsO FW (.slice b2 s.words.length c2) s.words)) (h1 : L[1]? = some (rlsO FR (.slice b3 s.rules.length c3) s.rules)) => spWrite_calls _ s w' (hT.up hm) (sp_of (hm.get h0) (hm.get h1)) hbd
    have hck := fun (w' : World) (L : List Own) (hm : Mem (w : Base) L w') (h0 : L[0]? = some (wdsO FW (.slice b2 s.words.length c2) s.words)) (h1 : L[1]? = some (rlsO FR (.slice b3 s.rules.length c3) s.rules)) => spCheck_calls _ s w' (sp_of (hm.get h0) (hm.get h1))
    rw [hcs, if_pos rfl] at hwr
    rw [hcs] at hck
    have hr2 := hr1 (writeS s)
    clear hr1
    repeat(first|refine QV QP ?_|refine QZ ?_|refine qcT rfl ?_|refine qcF rfl ?_|refine qs rfl rfl rfl rfl rfl rfl ?_|((try refine qg rfl rfl rfl ?_);first|refine QV QP ?_|refine QV (rr_loadB (i := 2) TyC.ty rfl rfl rfl) ?_|refine QV QL ?_|refine QV QA ?_|refine QV QeT ?_|refine QV QeF ?_|refine QV QnT ?_|refine QV QnF ?_))
    refine TL_call (he1 EntersC.en rfl rfl) (fun w hm => hwr w _ hm rfl rfl) rfl rfl rfl ?_
    intro _ _
    conv=>arg 8;simp only[zA,zB,zC,zD,zE,zF,zG,zH,zI,rowS,ret,id_eq]
    generalize readS (writeS s) = R2 at *
    generalize hwt : writeS s = t at *
    repeat(first|refine QV QP ?_|refine QZ ?_|refine qcT rfl ?_|refine qcF rfl ?_|refine qs rfl rfl rfl rfl rfl rfl ?_|((try refine qg rfl rfl rfl ?_);first|refine QV QP ?_|refine QV QL ?_|refine QV QA ?_|refine QV QeT ?_|refine QV QeF ?_|refine QV QnT ?_|refine QV QnF ?_))
    refine TL_call (he1 EntersC.en rfl rfl) (fun w hm => hr2 _ hm.below) rfl rfl rfl ?_
    rintro ⟨vw4, FW4, vr4, FR4⟩ _
    rcases hback with rfl | ⟨a2, rfl, -⟩
    · conv=>arg 8;simp only[zA,zB,zC,zD,zE,zF,zG,zH,zI,rowS,ret,id_eq, redSp]
      conv => arg 7; simp only [redSp]
      refine TL_know (i := 3) rfl (fun w h => wds_form w h) fun hf => ?_
      obtain ⟨b4, c4, rfl⟩ := hf
      refine TL_know (i := 4) rfl (fun w h => rls_form w h) fun hf => ?_
      obtain ⟨b5, c5, rfl⟩ := hf
      have hw2 := fun (w' : World) (L : List Own) (hm : Mem (w : Base) L w') (h0 : L[3]? = some (wdsO FW4 (.slice b4 s.words.length c4) s.words)) (h1 : L[4]? = some (rlsO FR4 (.slice b5 s.rules.length c5) s.rules)) => spWrite_calls _ s w' (hT.up hm) (sp_of (hm.get h0) (hm.get h1)) hbd
      rw [hcs, if_pos rfl, hwt] at hw2
      repeat(first|refine QV QP ?_|refine QZ ?_|refine qcT rfl ?_|refine qcF rfl ?_|refine qs rfl rfl rfl rfl rfl rfl ?_|((try refine qg rfl rfl rfl ?_);first|refine QV QP ?_|refine QV QL ?_|refine QV QA ?_|refine QV QeT ?_|refine QV QeF ?_|refine QV QnT ?_|refine QV QnF ?_))
      refine TL_new rfl fun g10 => ?_
      conv=>arg 8;simp only[zA,zB,zC,zD,zE,zF,zG,zH,zI,rowS,ret,id_eq]
      repeat(first|refine QV QP ?_|refine QZ ?_|refine qcT rfl ?_|refine qcF rfl ?_|refine qs rfl rfl rfl rfl rfl rfl ?_|((try refine qg rfl rfl rfl ?_);first|refine QV QP ?_|refine QV QL ?_|refine QV QA ?_|refine QV QeT ?_|refine QV QeF ?_|refine QV QnT ?_|refine QV QnF ?_))
      refine TL_storeB (i := 5) (cs' := #[.slice b4 s.words.length c4, .slice b5 s.rules.length c5]) rfl rfl rfl rfl rfl rfl ?_
      conv=>arg 8;simp only[zA,zB,zC,zD,zE,zF,zG,zH,zI,rowS,ret,id_eq]
      repeat(first|refine QV QP ?_|refine QZ ?_|refine qcT rfl ?_|refine qcF rfl ?_|refine qs rfl rfl rfl rfl rfl rfl ?_|((try refine qg rfl rfl rfl ?_);first|refine QV QP ?_|refine QV (rr_loadB (i := 5) TyC.ty rfl rfl rfl) ?_|refine QV QL ?_|refine QV QA ?_|refine QV QeT ?_|refine QV QeF ?_|refine QV QnT ?_|refine QV QnF ?_))
      refine TL_call (he1 EntersC.en rfl rfl) (fun w hm => hw2 w _ hm rfl rfl) rfl rfl rfl ?_
      intro _ _
      conv=>arg 8;simp only[zA,zB,zC,zD,zE,zF,zG,zH,zI,rowS,ret,id_eq]
      repeat(first|refine QV QP ?_|refine QZ ?_|refine qcT rfl ?_|refine qcF rfl ?_|refine qs rfl rfl rfl rfl rfl rfl ?_|((try refine qg rfl rfl rfl ?_);first|refine QV QP ?_|refine QV (rr_loadB (i := 2) TyC.ty rfl rfl rfl) ?_|refine QV (rr_eql (b := true) rfl rfl (decide_eq_true rfl)) ?_|refine QV QL ?_|refine QV QA ?_|refine QV QeT ?_|refine QV QeF ?_|refine QV QnT ?_|refine QV QnF ?_))
      refine TL_gcall (he1 EntersC.en rfl rfl) (fun w hm => hck w _ hm rfl rfl) rfl rfl rfl rfl rfl ?_
      intro _ _
      conv=>arg 8;simp only[zA,zB,zC,zD,zE,zF,zG,zH,zI,rowS,ret,id_eq]
      repeat(first|refine QV QP ?_|refine QZ ?_|refine qcT rfl ?_|refine qcF rfl ?_|refine qs rfl rfl rfl rfl rfl rfl ?_|((try refine qg rfl rfl rfl ?_);first|refine QV QP ?_|refine QV (rr_loadB (i := 2) TyC.ty rfl rfl rfl) ?_|refine QV (rr_loadB (i := 5) TyC.ty rfl rfl rfl) ?_|refine QV (rr_eql (b := true) rfl rfl (decide_eq_true rfl)) ?_|refine QV (rr_eql (b := false) rfl rfl (decide_eq_false (by decide))) ?_|refine QV QL ?_|refine QV QA ?_|refine QV QeT ?_|refine QV QeF ?_|refine QV QnT ?_|refine QV QnF ?_))
      refine TL_gcall (he2 EntersC.en rfl rfl rfl) (fun w hm => sameSpec_calls _ _ s w (sp_of (hm.get (i := 0) rfl) (hm.get (i := 1) rfl)) (sp_of (hm.get (i := 3) rfl) (hm.get (i := 4) rfl))) rfl rfl rfl rfl rfl ?_
      intro _ _
      conv=>arg 8;simp only[zA,zB,zC,zD,zE,zF,zG,zH,zI,rowS,ret,id_eq]
      repeat(first|refine QV QP ?_|refine QZ ?_|refine qcT rfl ?_|refine qcF rfl ?_|refine qs rfl rfl rfl rfl rfl rfl ?_|((try refine qg rfl rfl rfl ?_);first|refine QV QP ?_|refine QV QL ?_|refine QV QA ?_|refine QV QeT ?_|refine QV QeF ?_|refine QV QnT ?_|refine QV QnF ?_|refine QV (rr_streq (b := true) rfl rfl (decide_eq_true rfl)) ?_))
      exact E_ret1e rfl rfl rfl
    · conv=>arg 8;simp only[zA,zB,zC,zD,zE,zF,zG,zH,zI,rowS,ret,id_eq, redSp]
      conv => arg 7; simp only [redSp]
      refine TL_know (i := 3) rfl (fun w h => wds_form w h) fun hf => ?_
      obtain ⟨b4, c4, rfl⟩ := hf
      refine TL_know (i := 4) rfl (fun w h => rls_form w h) fun hf => ?_
      obtain ⟨b5, c5, rfl⟩ := hf
      have hw2 := fun (w' : World) (L : List Own) (hm : Mem (w : Base) L w') (h0 : L[3]? = some (wdsO FW4 (.slice b4 ([] : List Wd).length c4) [])) (h1 : L[4]? = some (rlsO FR4 (.slice b5 ([] : List Rl).length c5) [])) => spWrite_calls _ ⟨[], []⟩ w' (hT.up hm) (sp_of (hm.get h0) (hm.get h1)) (fun _ h => by cases h)
      repeat(first|refine QV QP ?_|refine QZ ?_|refine qcT rfl ?_|refine qcF rfl ?_|refine qs rfl rfl rfl rfl rfl rfl ?_|((try refine qg rfl rfl rfl ?_);first|refine QV QP ?_|refine QV QL ?_|refine QV QA ?_|refine QV QeT ?_|refine QV QeF ?_|refine QV QnT ?_|refine QV QnF ?_))
      refine TL_new rfl fun g10 => ?_
      conv=>arg 8;simp only[zA,zB,zC,zD,zE,zF,zG,zH,zI,rowS,ret,id_eq]
      repeat(first|refine QV QP ?_|refine QZ ?_|refine qcT rfl ?_|refine qcF rfl ?_|refine qs rfl rfl rfl rfl rfl rfl ?_|((try refine qg rfl rfl rfl ?_);first|refine QV QP ?_|refine QV QL ?_|refine QV QA ?_|refine QV QeT ?_|refine QV QeF ?_|refine QV QnT ?_|refine QV QnF ?_))
      refine TL_storeB (i := 5) (cs' := #[.slice b4 ([] : List Wd).length c4, .slice b5 ([] : List Rl).length c5]) rfl rfl rfl rfl rfl rfl ?_
      conv=>arg 8;simp only[zA,zB,zC,zD,zE,zF,zG,zH,zI,rowS,ret,id_eq]
      repeat(first|refine QV QP ?_|refine QZ ?_|refine qcT rfl ?_|refine qcF rfl ?_|refine qs rfl rfl rfl rfl rfl rfl ?_|((try refine qg rfl rfl rfl ?_);first|refine QV QP ?_|refine QV (rr_loadB (i := 5) TyC.ty rfl rfl rfl) ?_|refine QV QL ?_|refine QV QA ?_|refine QV QeT ?_|refine QV QeF ?_|refine QV QnT ?_|refine QV QnF ?_))
      refine TL_call (he1 EntersC.en rfl rfl) (fun w hm => hw2 w _ hm rfl rfl) rfl rfl rfl ?_
      intro _ _
      conv=>arg 8;simp only[zA,zB,zC,zD,zE,zF,zG,zH,zI,rowS,ret,id_eq]
      repeat(first|refine QV QP ?_|refine QZ ?_|refine qcT rfl ?_|refine qcF rfl ?_|refine qs rfl rfl rfl rfl rfl rfl ?_|((try refine qg rfl rfl rfl ?_);first|refine QV QP ?_|refine QV (rr_loadB (i := 2) TyC.ty rfl rfl rfl) ?_|refine QV (rr_eql (b := true) rfl rfl (decide_eq_true rfl)) ?_|refine QV QL ?_|refine QV QA ?_|refine QV QeT ?_|refine QV QeF ?_|refine QV QnT ?_|refine QV QnF ?_))
      refine TL_gcall (he1 EntersC.en rfl rfl) (fun w hm => hck w _ hm rfl rfl) rfl rfl rfl rfl rfl ?_
      intro _ _
      conv=>arg 8;simp only[zA,zB,zC,zD,zE,zF,zG,zH,zI,rowS,ret,id_eq]
      repeat(first|refine QV QP ?_|refine QZ ?_|refine qcT rfl ?_|refine qcF rfl ?_|refine qs rfl rfl rfl rfl rfl rfl ?_|((try refine qg rfl rfl rfl ?_);first|refine QV QP ?_|refine QV (rr_eql (b := true) rfl rfl (decide_eq_true rfl)) ?_|refine QV QL ?_|refine QV QA ?_|refine QV QeT ?_|refine QV QeF ?_|refine QV QnT ?_|refine QV QnF ?_))
      exact E_ret1e rfl rfl rfl
  · obtain rfl := hno s a e rfl e0
    repeat(first|refine QV QP ?_|refine QZ ?_|refine qcT rfl ?_|refine qcF rfl ?_|refine qs rfl rfl rfl rfl rfl rfl ?_|((try refine qg rfl rfl rfl ?_);first|refine QV QP ?_|refine QV (rr_neq (b := true) rfl rfl (decide_eq_true e0)) ?_|refine QV (rr_load1 (v := .slice b2 ([] : List Wd).length c2) TyC.ty rfl (at_blk (i := 2) rfl rfl)) ?_|refine QV (rr_load1 (v := .slice b3 ([] : List Rl).length c3) TyC.ty rfl (at_blk (i := 2) rfl rfl)) ?_|refine QV (rr_eql (b := true) rfl rfl (decide_eq_true rfl)) ?_|refine QV QL ?_|refine QV QA ?_|refine QV QeT ?_|refine QV QeF ?_|refine QV QnT ?_|refine QV QnF ?_))
    exact E_ret1e rfl rfl rfl
end Go.Proofs.YtakiohldgcifeaaDoor.specAgain


