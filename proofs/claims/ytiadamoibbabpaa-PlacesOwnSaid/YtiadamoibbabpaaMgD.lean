/- Part 4 of what PlacesOwn needs: BoE, PlE, SpIn, SpCl, SpBo, Fam, PlO, ClassB, ClsRg, RexPl, PlR, PlP, PlacesOwnW. -/
import Derived.Test.YtiadamoibbabpaaMgC
import Derived.WalkKit
import Derived.WalkSpells
import Derived.WalkLawsBesides
import Derived.Deep.RegionLaw
import Derived.Deep.AppendLies
import Derived.Deep.QuietTactic
import Derived.BigQuiet
import Derived.Deep.DeepCutAuto
import Derived.Lib.Hide
import Derived.Test.YtiadamoibbabpaaRows
import Derived.ProofKit
import Derived.OpenShut
import Derived.ShutString
import Derived.SizedLaws
import Derived.JoinedCond
import Derived.Deep.CondSized
import Derived.Deep.Quiet
import Derived.StillTail
import Derived.Deep.LoopGhost
import Derived.Laws.BitsLemmas
import Derived.Laws.BytesString
import Derived.Test.YtiadamoibbabpaaProg
import Derived.Laws.Entries
import Derived.Laws.BitsAllLaws
import Derived.Lib.TrailingZeros
import Derived.Laws.StructEq
import Derived.Laws.MakeOwn
import Derived.Laws.AppendOwn
import Derived.Maps.OwnSet
import Derived.DeepKeys4
import Derived.WideKeyEntry
import Derived.Shelf.Sort.Plain
import Derived.Ground.Names2Prog
import Derived.Shelf.Slices.CompactI
import Derived.Shelf.Slices.In.SortNone
import Derived.Lib.RowBridge
import Derived.Lib.SlicesCompact
import Derived.ChangeKeysEq
/- BoE -/
namespace Go.Proofs.Ytiadamoibbabpaa.eng
open Go.RowKit kit mix
def boC (b : Bool) : List Value := [.bool b]
theorem BoE_len (a : Bool) : (boC a).length = 1 := rfl
theorem ne_bool {a b : Bool} (h : ¬ a = b) : (!(a == b)) = true := by cases a <;> cases b <;> first | rfl | exact absurd rfl h
set_option maxHeartbeats 2000000 in
theorem equalBoE_calls (v v' : Value) (l l' : List Bool) (w : World) (hs : Sl w v l.length (l.flatMap boC)) (hs' : Sl w v' l'.length (l'.flatMap boC)) :
    Calls Try.prog 18 #[v, v'] w (Meets (ret (.bool (decide (l = l')))) w) := by
  obtain ⟨base, cap, rfl, hcap, hmax, hrd⟩ := hs
  obtain ⟨base', cap', rfl, hcap', hmax', hrd'⟩ := hs'
  unfold maxLen at hmax hmax'
  refine enter (args := [.slice base l.length cap, .slice base' l'.length cap']) (n := 26) Try.func18 rfl rfl rfl ?_
  by_cases c1 : l.length = l'.length
  · repeat (first
      | refine qv rfl (qp rfl) rfl rfl ?_ | refine TL_nil ?_ | refine T_seq ?_ | refine T_region ?_ | refine qcT rfl ?_ | refine qcF rfl ?_ | refine T_skip ?_
      | refine T_exit ?_ | refine T_ret ?_ | refine T_block ?_ | refine E_then ?_ | refine E_thenX ?_ | refine E_thenR ?_ | refine E_blockN ?_
      | refine E_blockR ?_ | refine E_blockX ?_ | refine E_blockO rfl ?_ | refine qv rfl (qlen Und.eq rfl) rfl rfl ?_
      | refine qv rfl (rr_lss rfl rfl (qT (by omega))) rfl rfl ?_ | refine qv rfl (rr_lss rfl rfl (qF (by omega))) rfl rfl ?_
      | refine qv rfl (rr_neq rfl rfl (qT (by omega))) rfl rfl ?_ | refine qv rfl (rr_neq rfl rfl (qF (by omega))) rfl rfl ?_
      | refine qv rfl (rr_add64 rfl rfl (by omega) (by omega) rfl) rfl rfl ?_)
    refine T_loop (ι := Nat) (fun k => k ≤ l.length ∧ l.take k = l'.take k) (fun k => [(0, .slice base l.length cap), (1, .slice base' l'.length cap'), (12, .int .i64 l.length), (13, .int .i64 (k : Int))]) (fun _ => []) (fun k => l.length - k) 0 ⟨by omega, rfl⟩ ⟨rfl, rfl, rfl, rfl, trivial⟩ rfl ?_
    rintro k ⟨h1, h2⟩
    by_cases c2 : k < l.length
    · obtain ⟨b, off, rfl, hr⟩ := hrd (by omega)
      obtain ⟨b', off', rfl, hr'⟩ := hrd' (by omega)
      have c2' : k < l'.length := by omega
      have hat := at_el (L := ([] : List Own)) BoE_len hr c2
      have hat' := at_el (L := ([] : List Own)) BoE_len hr' c2'
      have hv := hat 0 _ rfl
      have hv' := hat' 0 _ rfl
      clear hat hat'
      by_cases c3 : l[k] = l'[k]
      · repeat (first
          | refine qv rfl (qp rfl) rfl rfl ?_ | refine TL_nil ?_ | refine T_seq ?_ | refine T_region ?_ | refine qcT rfl ?_ | refine qcF rfl ?_ | refine T_skip ?_
          | refine T_exit ?_ | refine T_ret ?_ | refine T_block ?_ | refine E_then ?_ | refine E_thenX ?_ | refine E_thenR ?_ | refine E_blockN ?_
          | refine E_blockR ?_ | refine E_blockX ?_ | refine E_blockO rfl ?_ | refine qv rfl (qlen Und.eq rfl) rfl rfl ?_
          | refine qv rfl (rr_lss rfl rfl (qT (by omega))) rfl rfl ?_ | refine qv rfl (rr_lss rfl rfl (qF (by omega))) rfl rfl ?_
          | refine qv rfl (rr_neq rfl rfl (qT (by omega))) rfl rfl ?_ | refine qv rfl (rr_neq rfl rfl (qF (by omega))) rfl rfl ?_
          | refine qv rfl (rr_add64 rfl rfl (by omega) (by omega) rfl) rfl rfl ?_)
        refine T_draw 8 (List.replicate 8 true) rfl (by kernel_rfl) (by kernel_rfl) (by intro c a d v w h; cases d <;> exact h) ?_
        repeat (first
          | refine TM_valg rfl (qp rfl) rfl rfl ?_ | refine TM_valg rfl (rr_idxc Und.eq TyC.ty rfl rfl c2) rfl rfl ?_
          | refine TM_valg rfl (rr_idxc Und.eq TyC.ty rfl rfl c2') rfl rfl ?_ | refine TM_valg rfl (rr_load1 TyC.ty rfl hv) rfl rfl ?_
          | refine TM_valg rfl (rr_load1 TyC.ty rfl hv') rfl rfl ?_ | refine TM_valg rfl (qlen Und.eq rfl) rfl rfl ?_
          | refine TM_valg rfl (rr_lss rfl rfl (qT (by omega))) rfl rfl ?_ | refine TM_valg rfl (rr_lss rfl rfl (qF (by omega))) rfl rfl ?_
          | refine TM_valg rfl (rr_neq rfl rfl (qT (by omega))) rfl rfl ?_ | refine TM_valg rfl (rr_neq rfl rfl (qF (by omega))) rfl rfl ?_
          | refine TM_valg rfl (rr_add64 rfl rfl (by omega) (by omega) rfl) rfl rfl ?_ | refine TM_end ?_)
        repeat (first
          | refine qv rfl (qp rfl) rfl rfl ?_ | refine TL_nil ?_ | refine T_seq ?_ | refine T_region ?_ | refine qcT rfl ?_ | refine qcF rfl ?_ | refine T_skip ?_
          | refine T_exit ?_ | refine T_ret ?_ | refine T_block ?_ | refine E_then ?_ | refine E_thenX ?_ | refine E_thenR ?_ | refine E_blockN ?_
          | refine E_blockR ?_ | refine E_blockX ?_ | refine E_blockO rfl ?_
          | refine qv rfl (rr_boolne (c := false) Und.eq rfl rfl (by rw [c3]; cases l'[k] <;> rfl)) rfl rfl ?_ | refine qv rfl (qlen Und.eq rfl) rfl rfl ?_
          | refine qv rfl (rr_lss rfl rfl (qT (by omega))) rfl rfl ?_ | refine qv rfl (rr_lss rfl rfl (qF (by omega))) rfl rfl ?_
          | refine qv rfl (rr_neq rfl rfl (qT (by omega))) rfl rfl ?_ | refine qv rfl (rr_neq rfl rfl (qF (by omega))) rfl rfl ?_
          | refine qv rfl (rr_add64 rfl rfl (by omega) (by omega) rfl) rfl rfl ?_)
        exact E_round (k + 1) ⟨by omega, by rw [List.take_succ_eq_append_getElem c2, List.take_succ_eq_append_getElem c2', h2, c3]⟩ (by show l.length - (k + 1) < l.length - k; omega) ⟨rfl, rfl, rfl, rfl, trivial⟩ rfl
      · rw [decide_eq_false (fun h => c3 (by subst h; rfl))]
        repeat (first
          | refine qv rfl (qp rfl) rfl rfl ?_ | refine TL_nil ?_ | refine T_seq ?_ | refine T_region ?_ | refine qcT rfl ?_ | refine qcF rfl ?_ | refine T_skip ?_
          | refine T_exit ?_ | refine T_ret ?_ | refine T_block ?_ | refine E_then ?_ | refine E_thenX ?_ | refine E_thenR ?_ | refine E_blockN ?_
          | refine E_blockR ?_ | refine E_blockX ?_ | refine E_blockO rfl ?_ | refine qv rfl (qlen Und.eq rfl) rfl rfl ?_
          | refine qv rfl (rr_lss rfl rfl (qT (by omega))) rfl rfl ?_ | refine qv rfl (rr_lss rfl rfl (qF (by omega))) rfl rfl ?_
          | refine qv rfl (rr_neq rfl rfl (qT (by omega))) rfl rfl ?_ | refine qv rfl (rr_neq rfl rfl (qF (by omega))) rfl rfl ?_
          | refine qv rfl (rr_add64 rfl rfl (by omega) (by omega) rfl) rfl rfl ?_)
        refine T_draw 8 (List.replicate 8 true) rfl (by kernel_rfl) (by kernel_rfl) (by intro c a d v w h; cases d <;> exact h) ?_
        repeat (first
          | refine TM_valg rfl (qp rfl) rfl rfl ?_ | refine TM_valg rfl (rr_idxc Und.eq TyC.ty rfl rfl c2) rfl rfl ?_
          | refine TM_valg rfl (rr_idxc Und.eq TyC.ty rfl rfl c2') rfl rfl ?_ | refine TM_valg rfl (rr_load1 TyC.ty rfl hv) rfl rfl ?_
          | refine TM_valg rfl (rr_load1 TyC.ty rfl hv') rfl rfl ?_ | refine TM_valg rfl (qlen Und.eq rfl) rfl rfl ?_
          | refine TM_valg rfl (rr_lss rfl rfl (qT (by omega))) rfl rfl ?_ | refine TM_valg rfl (rr_lss rfl rfl (qF (by omega))) rfl rfl ?_
          | refine TM_valg rfl (rr_neq rfl rfl (qT (by omega))) rfl rfl ?_ | refine TM_valg rfl (rr_neq rfl rfl (qF (by omega))) rfl rfl ?_
          | refine TM_valg rfl (rr_add64 rfl rfl (by omega) (by omega) rfl) rfl rfl ?_ | refine TM_end ?_)
        repeat (first
          | refine qv rfl (qp rfl) rfl rfl ?_ | refine TL_nil ?_ | refine T_seq ?_ | refine T_region ?_ | refine qcT rfl ?_ | refine qcF rfl ?_ | refine T_skip ?_
          | refine T_exit ?_ | refine T_ret ?_ | refine T_block ?_ | refine E_then ?_ | refine E_thenX ?_ | refine E_thenR ?_ | refine E_blockN ?_
          | refine E_blockR ?_ | refine E_blockX ?_ | refine E_blockO rfl ?_ | refine qv rfl (rr_boolne (c := true) Und.eq rfl rfl (ne_bool c3)) rfl rfl ?_
          | refine qv rfl (qlen Und.eq rfl) rfl rfl ?_ | refine qv rfl (rr_lss rfl rfl (qT (by omega))) rfl rfl ?_
          | refine qv rfl (rr_lss rfl rfl (qF (by omega))) rfl rfl ?_ | refine qv rfl (rr_neq rfl rfl (qT (by omega))) rfl rfl ?_
          | refine qv rfl (rr_neq rfl rfl (qF (by omega))) rfl rfl ?_ | refine qv rfl (rr_add64 rfl rfl (by omega) (by omega) rfl) rfl rfl ?_)
        exact E_ret1 rfl rfl fun w hm => hm.ret
    · have e : l = l' := by
        rw [List.take_of_length_le (by omega), List.take_of_length_le (by omega)] at h2; exact h2
      rw [decide_eq_true e]
      repeat (first
        | refine qv rfl (qp rfl) rfl rfl ?_ | refine TL_nil ?_ | refine T_seq ?_ | refine T_region ?_ | refine qcT rfl ?_ | refine qcF rfl ?_ | refine T_skip ?_
        | refine T_exit ?_ | refine T_ret ?_ | refine T_block ?_ | refine E_then ?_ | refine E_thenX ?_ | refine E_thenR ?_ | refine E_blockN ?_
        | refine E_blockR ?_ | refine E_blockX ?_ | refine E_blockO rfl ?_ | refine qv rfl (qlen Und.eq rfl) rfl rfl ?_
        | refine qv rfl (rr_lss rfl rfl (qT (by omega))) rfl rfl ?_ | refine qv rfl (rr_lss rfl rfl (qF (by omega))) rfl rfl ?_
        | refine qv rfl (rr_neq rfl rfl (qT (by omega))) rfl rfl ?_ | refine qv rfl (rr_neq rfl rfl (qF (by omega))) rfl rfl ?_
        | refine qv rfl (rr_add64 rfl rfl (by omega) (by omega) rfl) rfl rfl ?_)
      exact E_ret1 rfl rfl fun w hm => hm.ret
  · rw [decide_eq_false (fun h => c1 (by rw [h]))]
    repeat (first
      | refine qv rfl (qp rfl) rfl rfl ?_ | refine TL_nil ?_ | refine T_seq ?_ | refine T_region ?_ | refine qcT rfl ?_ | refine qcF rfl ?_ | refine T_skip ?_
      | refine T_exit ?_ | refine T_ret ?_ | refine T_block ?_ | refine E_then ?_ | refine E_thenX ?_ | refine E_thenR ?_ | refine E_blockN ?_
      | refine E_blockR ?_ | refine E_blockX ?_ | refine E_blockO rfl ?_ | refine qv rfl (qlen Und.eq rfl) rfl rfl ?_
      | refine qv rfl (rr_lss rfl rfl (qT (by omega))) rfl rfl ?_ | refine qv rfl (rr_lss rfl rfl (qF (by omega))) rfl rfl ?_
      | refine qv rfl (rr_neq rfl rfl (qT (by omega))) rfl rfl ?_ | refine qv rfl (rr_neq rfl rfl (qF (by omega))) rfl rfl ?_
      | refine qv rfl (rr_add64 rfl rfl (by omega) (by omega) rfl) rfl rfl ?_)
    exact E_ret1 rfl rfl fun w hm => hm.ret
end Go.Proofs.Ytiadamoibbabpaa.eng

/- PlE -/
namespace Go.Proofs.Ytiadamoibbabpaa.eng
open Go.RowKit kit mix classL placesL
theorem folS_sl {F : Nat → Prop} {w : World} {cs : List Value} {l : List Int} (h : (sliceS intS).is F w cs l) : ∃ v, cs = [v] ∧ Sl w v l.length (l.flatMap kit.intC) := by
  obtain ⟨v, h1, h2⟩ := h
  exact ⟨v, h1, h2.flat (by decide)⟩
theorem slii_gr {w w' : World} {v : Value} {l : List (List Int)} (h : SlF (sliceS intS) (Low w) w v l) (hg : Gr w w') : SlF (sliceS intS) (Low w') w' v l :=
  (h.stay fun k hk => hg.block k hk).mono fun k hk => Nat.lt_of_lt_of_le hk hg.size
set_option maxHeartbeats 2000000 in
theorem equalFol_calls (v v' : Value) (l : List (List Int)) (w : World) (hs : SlF (sliceS intS) (Low w) w v l) (hs' : SlF (sliceS intS) (Low w) w v' l) :
    Calls Try.prog 17 #[v, v', .func (.func 16) #[] #[]] w (Meets (ret (.bool true)) w) := by
  have heq := fun (u u' : Value) (k : List Int) w' h h' => equalSmIn_calls u u' k k w' h h'
  simp only [decide_true] at heq
  obtain ⟨base, cap, rfl, hcap, hmax, hrd⟩ := hs
  obtain ⟨base', cap', rfl, hcap', hmax', hrd'⟩ := hs'
  unfold maxLen at hmax hmax'
  refine enter (args := [.slice base l.length cap, .slice base' l.length cap', .func (.func 16) #[] #[]]) (n := 32) Try.func17 rfl rfl rfl ?_
  repeat (first
    | refine qv rfl (qp rfl) rfl rfl ?_ | refine TL_nil ?_ | refine T_seq ?_ | refine T_region ?_ | refine qcT rfl ?_ | refine qcF rfl ?_ | refine T_skip ?_
    | refine T_exit ?_ | refine T_ret ?_ | refine T_block ?_ | refine E_then ?_ | refine E_thenX ?_ | refine E_thenR ?_ | refine E_blockN ?_
    | refine E_blockR ?_ | refine E_blockX ?_ | refine E_blockO rfl ?_ | refine qv rfl (rr_neq (b := false) rfl rfl (decide_eq_false (by omega))) rfl rfl ?_
    | refine qv rfl (qlen Und.eq rfl) rfl rfl ?_ | refine qv rfl (rr_not rfl rfl) rfl rfl ?_ | refine qv rfl (rr_lss rfl rfl (qT (by omega))) rfl rfl ?_
    | refine qv rfl (rr_lss rfl rfl (qF (by omega))) rfl rfl ?_ | refine qv rfl (rr_neq rfl rfl (qT (by omega))) rfl rfl ?_
    | refine qv rfl (rr_neq rfl rfl (qF (by omega))) rfl rfl ?_ | refine qv rfl (rr_add64 rfl rfl (by omega) (by omega) rfl) rfl rfl ?_)
  refine T_loop (ι := Nat) (fun k => k ≤ l.length) (fun k => [(1, .slice base' l.length cap'), (2, .func (.func 16) #[] #[]), (15, .slice base l.length cap), (16, .int .i64 l.length), (17, .int .i64 (k : Int))]) (fun _ => []) (fun k => l.length - k) 0 (Nat.zero_le _) (by repeat' (first | exact True.intro | refine And.intro rfl ?_)) rfl ?_
  intro k h1
  by_cases c2 : k < l.length
  · obtain ⟨b, off, rfl, _, hr⟩ := hrd (by omega)
    obtain ⟨b', off', rfl, _, hr'⟩ := hrd' (by omega)
    obtain ⟨cs, hc, hd⟩ := hr k c2
    obtain ⟨cs', hc', hd'⟩ := hr' k c2
    obtain ⟨u, rfl, hu⟩ := folS_sl hc
    obtain ⟨u', rfl, hu'⟩ := folS_sl hc'
    have hat := fun (L : List Own) => at_rd (L := L) hd (j := 0) (v := u) rfl
    have hat' := fun (L : List Own) => at_rd (L := L) hd' (j := 0) (v := u') rfl
    generalize l[k] = x at *
    repeat (first
      | refine qv rfl (qp rfl) rfl rfl ?_ | refine TL_nil ?_ | refine T_seq ?_ | refine T_region ?_ | refine qcT rfl ?_ | refine qcF rfl ?_ | refine T_skip ?_
      | refine T_exit ?_ | refine T_ret ?_ | refine T_block ?_ | refine E_then ?_ | refine E_thenX ?_ | refine E_thenR ?_ | refine E_blockN ?_
      | refine E_blockR ?_ | refine E_blockX ?_ | refine E_blockO rfl ?_ | refine qv rfl (rr_idxc Und.eq TyC.ty rfl rfl c2) rfl rfl ?_
      | refine qv rfl (rr_load1 TyC.ty rfl (hat _)) rfl rfl ?_ | refine qv rfl (rr_load1 TyC.ty rfl (hat' _)) rfl rfl ?_
      | refine qv rfl (qlen Und.eq rfl) rfl rfl ?_ | refine qv rfl (rr_not rfl rfl) rfl rfl ?_ | refine qv rfl (rr_lss rfl rfl (qT (by omega))) rfl rfl ?_
      | refine qv rfl (rr_lss rfl rfl (qF (by omega))) rfl rfl ?_ | refine qv rfl (rr_neq rfl rfl (qT (by omega))) rfl rfl ?_
      | refine qv rfl (rr_neq rfl rfl (qF (by omega))) rfl rfl ?_ | refine qv rfl (rr_add64 rfl rfl (by omega) (by omega) rfl) rfl rfl ?_)
    refine TL_call (he2 EntersC.en rfl rfl rfl) (fun w hm => heq u u' x w (hu.gr hm.below) (hu'.gr hm.below)) rfl rfl rfl ?_
    intro _ _
    repeat (first
      | refine qv rfl (qp rfl) rfl rfl ?_ | refine TL_nil ?_ | refine T_seq ?_ | refine T_region ?_ | refine qcT rfl ?_ | refine qcF rfl ?_ | refine T_skip ?_
      | refine T_exit ?_ | refine T_ret ?_ | refine T_block ?_ | refine E_then ?_ | refine E_thenX ?_ | refine E_thenR ?_ | refine E_blockN ?_
      | refine E_blockR ?_ | refine E_blockX ?_ | refine E_blockO rfl ?_ | refine qv rfl (qlen Und.eq rfl) rfl rfl ?_
      | refine qv rfl (rr_not rfl rfl) rfl rfl ?_ | refine qv rfl (rr_lss rfl rfl (qT (by omega))) rfl rfl ?_
      | refine qv rfl (rr_lss rfl rfl (qF (by omega))) rfl rfl ?_ | refine qv rfl (rr_neq rfl rfl (qT (by omega))) rfl rfl ?_
      | refine qv rfl (rr_neq rfl rfl (qF (by omega))) rfl rfl ?_ | refine qv rfl (rr_add64 rfl rfl (by omega) (by omega) rfl) rfl rfl ?_)
    exact E_round (k + 1) (by omega) (by show l.length - (k + 1) < l.length - k; omega) (by repeat' (first | exact True.intro | refine And.intro rfl ?_)) rfl
  · repeat (first
      | refine qv rfl (qp rfl) rfl rfl ?_ | refine TL_nil ?_ | refine T_seq ?_ | refine T_region ?_ | refine qcT rfl ?_ | refine qcF rfl ?_ | refine T_skip ?_
      | refine T_exit ?_ | refine T_ret ?_ | refine T_block ?_ | refine E_then ?_ | refine E_thenX ?_ | refine E_thenR ?_ | refine E_blockN ?_
      | refine E_blockR ?_ | refine E_blockX ?_ | refine E_blockO rfl ?_ | refine qv rfl (qlen Und.eq rfl) rfl rfl ?_
      | refine qv rfl (rr_not rfl rfl) rfl rfl ?_ | refine qv rfl (rr_lss rfl rfl (qT (by omega))) rfl rfl ?_
      | refine qv rfl (rr_lss rfl rfl (qF (by omega))) rfl rfl ?_ | refine qv rfl (rr_neq rfl rfl (qT (by omega))) rfl rfl ?_
      | refine qv rfl (rr_neq rfl rfl (qF (by omega))) rfl rfl ?_ | refine qv rfl (rr_add64 rfl rfl (by omega) (by omega) rfl) rfl rfl ?_)
    exact E_ret1 rfl rfl fun w hm => hm.ret
/-- a Posn that can be read -/
def PosR (w : World) (v : Value) (m : MS) : Prop :=
  ∃ vc vr vf vfol vl ve, v = .agg #[vc, vr, vf, vfol, vl, ve] ∧ Sl w vc m.ps.classes.length (m.ps.classes.flatMap clsL) ∧ Sl w vr m.ps.rules.length (m.ps.rules.flatMap kit.intC) ∧ Sl w vf m.first.length (m.first.flatMap kit.intC) ∧
    SlF (sliceS intS) (Low w) w vfol m.ps.follow ∧ Sl w vl m.ps.last.length (m.ps.last.flatMap boC) ∧ Sl w ve m.empty.length (m.empty.flatMap boC)
theorem PosR.gr {w w' : World} {v : Value} {m : MS} (h : PosR w v m) (hg : Gr w w') : PosR w' v m := by
  obtain ⟨vc, vr, vf, vfol, vl, ve, h0, h1, h2, h3, h4, h5, h6⟩ := h
  exact ⟨vc, vr, vf, vfol, vl, ve, h0, h1.gr hg, h2.gr hg, h3.gr hg, slii_gr h4 hg, h5.gr hg, h6.gr hg⟩
set_option maxHeartbeats 2000000 in
theorem samePosn_calls (v v' : Value) (m : MS) (w : World) (h : PosR w v m) (h' : PosR w v' m) :
    Calls Try.prog 10 #[v, v'] w (Meets (ret (.bool true)) w) := by
  obtain ⟨vc, vr, vf, vfol, vl, ve, rfl, h1, h2, h3, h4, h5, h6⟩ := h
  obtain ⟨vc', vr', vf', vfol', vl', ve', rfl, h1', h2', h3', h4', h5', h6'⟩ := h'
  have q1 := fun w' (hg : Gr w w') => equalClE_calls vc vc' m.ps.classes m.ps.classes w' (h1.gr hg) (h1'.gr hg)
  have q2 := fun w' (hg : Gr w w') => equalSmIn_calls vr vr' m.ps.rules m.ps.rules w' (h2.gr hg) (h2'.gr hg)
  have q3 := fun w' (hg : Gr w w') => equalSmIn_calls vf vf' m.first m.first w' (h3.gr hg) (h3'.gr hg)
  have q4 := fun w' (hg : Gr w w') => equalFol_calls vfol vfol' m.ps.follow w' (slii_gr h4 hg) (slii_gr h4' hg)
  have q5 := fun w' (hg : Gr w w') => equalBoE_calls vl vl' m.ps.last m.ps.last w' (h5.gr hg) (h5'.gr hg)
  have q6 := fun w' (hg : Gr w w') => equalBoE_calls ve ve' m.empty m.empty w' (h6.gr hg) (h6'.gr hg)
  simp only [decide_true] at q1 q2 q3 q5 q6
  clear h1 h2 h3 h4 h5 h6 h1' h2' h3' h4' h5' h6'
  refine enter (args := [.agg #[vc, vr, vf, vfol, vl, ve], .agg #[vc', vr', vf', vfol', vl', ve']]) (n := 45) Try.func10 rfl rfl rfl ?_
  refine T_seq (T_region (TL_box rfl rfl rfl fun g2 => TL_box rfl rfl rfl fun g3 => ?_))
  conv => arg 8; simp only [zA, zB, zC, zD, zE, zF, zG, zH, zI, rowS, ret, id_eq]
  repeat (first
    | refine qv rfl (qp rfl) rfl rfl ?_ | refine TL_nil ?_ | refine T_seq ?_ | refine T_region ?_ | refine T_ret ?_ | refine E_then ?_ | refine E_thenR ?_
    | refine qs rfl rfl rfl rfl rfl rfl ?_
    | ((try refine qg rfl rfl rfl ?_); first | refine qv rfl (qp rfl) rfl rfl ?_ | refine qv rfl (rr_load1 (v := vc) TyC.ty rfl (at_blk (i := 0) rfl rfl)) rfl rfl ?_ | refine qv rfl (rr_load1 (v := vc') TyC.ty rfl (at_blk (i := 1) rfl rfl)) rfl rfl ?_ | refine qv rfl (qfld FldC.fld rfl rfl) rfl rfl ?_))
  refine TL_call (he2 EntersC.en rfl rfl rfl) (fun w hm => q1 _ hm.below) rfl rfl rfl ?_
  intro _ _
  conv => arg 8; simp only [zA, zB, zC, zD, zE, zF, zG, zH, zI, rowS, ret, id_eq]
  repeat (first
    | refine qv rfl (qp rfl) rfl rfl ?_ | refine TL_nil ?_ | refine T_seq ?_ | refine T_region ?_ | refine T_ret ?_ | refine E_then ?_ | refine E_thenR ?_
    | refine qs rfl rfl rfl rfl rfl rfl ?_
    | ((try refine qg rfl rfl rfl ?_); first | refine qv rfl (qp rfl) rfl rfl ?_ | refine qv rfl (rr_load1 (v := vr) TyC.ty rfl (at_blk (i := 0) rfl rfl)) rfl rfl ?_ | refine qv rfl (rr_load1 (v := vr') TyC.ty rfl (at_blk (i := 1) rfl rfl)) rfl rfl ?_ | refine qv rfl (qfld FldC.fld rfl rfl) rfl rfl ?_))
  refine TL_gcall (he2 EntersC.en rfl rfl rfl) (fun w hm => q2 _ hm.below) rfl rfl rfl rfl rfl ?_
  intro _ _
  conv => arg 8; simp only [zA, zB, zC, zD, zE, zF, zG, zH, zI, rowS, ret, id_eq]
  repeat (first
    | refine qv rfl (qp rfl) rfl rfl ?_ | refine TL_nil ?_ | refine T_seq ?_ | refine T_region ?_ | refine T_ret ?_ | refine E_then ?_ | refine E_thenR ?_
    | refine qs rfl rfl rfl rfl rfl rfl ?_
    | ((try refine qg rfl rfl rfl ?_); first | refine qv rfl (qp rfl) rfl rfl ?_ | refine qv rfl (rr_load1 (v := vf) TyC.ty rfl (at_blk (i := 0) rfl rfl)) rfl rfl ?_ | refine qv rfl (rr_load1 (v := vf') TyC.ty rfl (at_blk (i := 1) rfl rfl)) rfl rfl ?_ | refine qv rfl (qfld FldC.fld rfl rfl) rfl rfl ?_))
  refine TL_gcall (he2 EntersC.en rfl rfl rfl) (fun w hm => q3 _ hm.below) rfl rfl rfl rfl rfl ?_
  intro _ _
  conv => arg 8; simp only [zA, zB, zC, zD, zE, zF, zG, zH, zI, rowS, ret, id_eq]
  repeat (first
    | refine qv rfl (qp rfl) rfl rfl ?_ | refine TL_nil ?_ | refine T_seq ?_ | refine T_region ?_ | refine T_ret ?_ | refine E_then ?_ | refine E_thenR ?_
    | refine qs rfl rfl rfl rfl rfl rfl ?_
    | ((try refine qg rfl rfl rfl ?_); first | refine qv rfl (qp rfl) rfl rfl ?_ | refine qv rfl (rr_load1 (v := vfol) TyC.ty rfl (at_blk (i := 0) rfl rfl)) rfl rfl ?_ | refine qv rfl (rr_load1 (v := vfol') TyC.ty rfl (at_blk (i := 1) rfl rfl)) rfl rfl ?_ | refine qv rfl (qfld FldC.fld rfl rfl) rfl rfl ?_))
  refine TL_gcall (he3 EntersC.en rfl rfl rfl rfl) (fun w hm => q4 _ hm.below) rfl rfl rfl rfl rfl ?_
  intro _ _
  conv => arg 8; simp only [zA, zB, zC, zD, zE, zF, zG, zH, zI, rowS, ret, id_eq]
  repeat (first
    | refine qv rfl (qp rfl) rfl rfl ?_ | refine TL_nil ?_ | refine T_seq ?_ | refine T_region ?_ | refine T_ret ?_ | refine E_then ?_ | refine E_thenR ?_
    | refine qs rfl rfl rfl rfl rfl rfl ?_
    | ((try refine qg rfl rfl rfl ?_); first | refine qv rfl (qp rfl) rfl rfl ?_ | refine qv rfl (rr_load1 (v := vl) TyC.ty rfl (at_blk (i := 0) rfl rfl)) rfl rfl ?_ | refine qv rfl (rr_load1 (v := vl') TyC.ty rfl (at_blk (i := 1) rfl rfl)) rfl rfl ?_ | refine qv rfl (qfld FldC.fld rfl rfl) rfl rfl ?_))
  refine TL_gcall (he2 EntersC.en rfl rfl rfl) (fun w hm => q5 _ hm.below) rfl rfl rfl rfl rfl ?_
  intro _ _
  conv => arg 8; simp only [zA, zB, zC, zD, zE, zF, zG, zH, zI, rowS, ret, id_eq]
  repeat (first
    | refine qv rfl (qp rfl) rfl rfl ?_ | refine TL_nil ?_ | refine T_seq ?_ | refine T_region ?_ | refine T_ret ?_ | refine E_then ?_ | refine E_thenR ?_
    | refine qs rfl rfl rfl rfl rfl rfl ?_
    | ((try refine qg rfl rfl rfl ?_); first | refine qv rfl (qp rfl) rfl rfl ?_ | refine qv rfl (rr_load1 (v := ve) TyC.ty rfl (at_blk (i := 0) rfl rfl)) rfl rfl ?_ | refine qv rfl (rr_load1 (v := ve') TyC.ty rfl (at_blk (i := 1) rfl rfl)) rfl rfl ?_ | refine qv rfl (qfld FldC.fld rfl rfl) rfl rfl ?_))
  refine TL_gcall (he2 EntersC.en rfl rfl rfl) (fun w hm => q6 _ hm.below) rfl rfl rfl rfl rfl ?_
  intro _ _
  conv => arg 8; simp only [zA, zB, zC, zD, zE, zF, zG, zH, zI, rowS, ret, id_eq]
  repeat (first
    | refine qv rfl (qp rfl) rfl rfl ?_ | refine TL_nil ?_ | refine T_seq ?_ | refine T_region ?_ | refine T_ret ?_ | refine E_then ?_ | refine E_thenR ?_
    | refine qs rfl rfl rfl rfl rfl rfl ?_
    | ((try refine qg rfl rfl rfl ?_); first | refine qv rfl (qp rfl) rfl rfl ?_ | refine qv rfl (qfld FldC.fld rfl rfl) rfl rfl ?_))
  exact E_ret1 rfl rfl fun w hm => hm.ret
end Go.Proofs.Ytiadamoibbabpaa.eng

/- SpIn -/
namespace Go.Proofs.Ytiadamoibbabpaa.eng
open Go.RowKit kit mix
theorem spoilASpIn (k cap : Nat) (a : Int) (cs : Array Value) (hc : cs.size = cap * 1) (hk : k < cap) : (((List.replicate k (kit.intC a)).flatten ++ cs.toList.drop (k * 1)).toArray.toList.take (k * 1) ++ (kit.intC a).toArray.toList ++ ((List.replicate k (kit.intC a)).flatten ++ cs.toList.drop (k * 1)).toArray.toList.drop (k * 1 + 1)).toArray = ((List.replicate (k + 1) (kit.intC a)).flatten ++ cs.toList.drop ((k + 1) * 1)).toArray := by
  congr 1
  have h : ((List.replicate k (kit.intC a)).flatten).length = k * 1 := by simp [kit.intC]
  simp only []
  rw [List.take_left' h, ← List.drop_drop, List.drop_left' h, List.replicate_succ', List.flatten_append, List.drop_drop]
  simp [Nat.add_mul]
set_option maxHeartbeats 2000000 in
theorem spoilSpIn_calls (g n cap : Nat) (cs : Array Value) (a : Int) (w : World) (B : Base) (hn : n ≤ cap) (hmax : cap ≤ 9223372036854775807) (hc : cs.size = cap * 1) (h1 : (kit.intC a).all Value.oneCell' = true) (hm : Mem B [blkO g cs 3] w) :
    Calls Try.prog 7 #[.slice (some ⟨g, 0, none⟩) n cap, .int .i64 a] w (MeetsB ⟨fun (_ : Unit) => True, fun _ => .tuple #[], fun _ => [blkO g ((List.replicate cap (kit.intC a)).flatten).toArray 3]⟩ B) := by
  refine enterB hm (args := [.slice (some ⟨g, 0, none⟩) n cap, .int .i64 a]) (n := 19) Try.func7 rfl rfl rfl ?_
  repeat (first
    | refine qv rfl (qp rfl) rfl rfl ?_ | refine TL_nil ?_ | refine T_seq ?_ | refine T_region ?_ | refine qcT rfl ?_ | refine qcF rfl ?_ | refine T_skip ?_
    | refine T_exit ?_ | refine T_block ?_ | refine E_then ?_ | refine E_thenX ?_ | refine E_thenR ?_ | refine E_blockN ?_ | refine E_blockR ?_
    | refine E_blockX ?_ | refine E_blockO rfl ?_ | refine qv rfl (rr_cap Und.eq rfl) rfl rfl ?_
    | refine qv rfl (rr_slpre Und.eq TyC.ty rfl rfl (Nat.le_refl cap)) rfl rfl ?_ | refine qv rfl (qlen Und.eq rfl) rfl rfl ?_
    | refine qv rfl (rr_lss rfl rfl (qT (by omega))) rfl rfl ?_ | refine qv rfl (rr_lss rfl rfl (qF (by omega))) rfl rfl ?_
    | refine qv rfl (rr_add64 rfl rfl (by omega) (by omega) rfl) rfl rfl ?_)
  refine T_loop (ι := Nat) (fun k => k ≤ cap) (fun k => [(0, .slice (some ⟨g, 0, none⟩) cap cap), (1, .int .i64 a), (10, .int .i64 cap), (11, .int .i64 (k : Int))]) (fun k => [blkO g ((List.replicate k (kit.intC a)).flatten ++ cs.toList.drop (k * 1)).toArray 3]) (fun k => cap - k) 0 (Nat.zero_le _) (by repeat' (first | exact True.intro | refine And.intro rfl ?_)) (by simp) ?_
  intro k hk
  by_cases c1 : k < cap
  · have hsz : ((List.replicate k (kit.intC a)).flatten ++ cs.toList.drop (k * 1)).toArray.size = cap * 1 := by simp [hc, kit.intC]; omega
    repeat (first
      | refine qv rfl (qp rfl) rfl rfl ?_ | refine TL_nil ?_ | refine T_seq ?_ | refine T_region ?_ | refine qcT rfl ?_ | refine qcF rfl ?_ | refine T_skip ?_
      | refine T_exit ?_ | refine T_block ?_ | refine E_then ?_ | refine E_thenX ?_ | refine E_thenR ?_ | refine E_blockN ?_ | refine E_blockR ?_
      | refine E_blockX ?_ | refine E_blockO rfl ?_ | refine qv rfl (rr_idxc Und.eq TyC.ty rfl rfl c1) rfl rfl ?_ | refine qv rfl (qlen Und.eq rfl) rfl rfl ?_
      | refine qv rfl (rr_lss rfl rfl (qT (by omega))) rfl rfl ?_ | refine qv rfl (rr_lss rfl rfl (qF (by omega))) rfl rfl ?_
      | refine qv rfl (rr_add64 rfl rfl (by omega) (by omega) rfl) rfl rfl ?_)
    refine TL_store (i := 0) (cs' := ((List.replicate (k + 1) (kit.intC a)).flatten ++ cs.toList.drop ((k + 1) * 1)).toArray) TyC.ty rfl rfl rfl rfl (show ((kit.intC a).toArray.toList.all Value.oneCell') = true by simpa using h1) (by rw [hsz]; omega) (by rw [Nat.zero_add]; exact (spoilASpIn k cap a cs hc c1).symm) ?_
    repeat (first
      | refine qv rfl (qp rfl) rfl rfl ?_ | refine TL_nil ?_ | refine T_seq ?_ | refine T_region ?_ | refine qcT rfl ?_ | refine qcF rfl ?_ | refine T_skip ?_
      | refine T_exit ?_ | refine T_block ?_ | refine E_then ?_ | refine E_thenX ?_ | refine E_thenR ?_ | refine E_blockN ?_ | refine E_blockR ?_
      | refine E_blockX ?_ | refine E_blockO rfl ?_ | refine qv rfl (qlen Und.eq rfl) rfl rfl ?_ | refine qv rfl (rr_lss rfl rfl (qT (by omega))) rfl rfl ?_
      | refine qv rfl (rr_lss rfl rfl (qF (by omega))) rfl rfl ?_ | refine qv rfl (rr_add64 rfl rfl (by omega) (by omega) rfl) rfl rfl ?_)
    exact E_round (k + 1) (by omega) (by show cap - (k + 1) < cap - k; omega) (by repeat' (first | exact True.intro | refine And.intro rfl ?_)) rfl
  · obtain rfl : k = cap := by omega
    repeat (first
      | refine qv rfl (qp rfl) rfl rfl ?_ | refine TL_nil ?_ | refine T_seq ?_ | refine T_region ?_ | refine qcT rfl ?_ | refine qcF rfl ?_ | refine T_skip ?_
      | refine T_exit ?_ | refine T_block ?_ | refine E_then ?_ | refine E_thenX ?_ | refine E_thenR ?_ | refine E_blockN ?_ | refine E_blockR ?_
      | refine E_blockX ?_ | refine E_blockO rfl ?_ | refine qv rfl (qlen Und.eq rfl) rfl rfl ?_ | refine qv rfl (rr_lss rfl rfl (qT (by omega))) rfl rfl ?_
      | refine qv rfl (rr_lss rfl rfl (qF (by omega))) rfl rfl ?_ | refine qv rfl (rr_add64 rfl rfl (by omega) (by omega) rfl) rfl rfl ?_)
    refine E_end0 rfl fun w hm => hm.meetsB (S := ⟨fun (_ : Unit) => True, fun _ => .tuple #[], fun _ => [blkO g ((List.replicate k (kit.intC a)).flatten).toArray 3]⟩) () trivial [0] (by decide) (by simp only [List.drop_of_length_le (show cs.toList.length ≤ k * 1 by simp [hc]), List.append_nil]; rfl)
theorem spoilNilSpIn_calls (a : Int) (w : World) : Calls Try.prog 7 #[.slice none 0 0, .int .i64 a] w (Meets (ret (.tuple #[])) w) := by
  refine enter (args := [.slice none 0 0, .int .i64 a]) (n := 19) Try.func7 rfl rfl rfl ?_
  repeat (first
    | refine qv rfl (qp rfl) rfl rfl ?_ | refine TL_nil ?_ | refine T_seq ?_ | refine T_region ?_ | refine qcT rfl ?_ | refine qcF rfl ?_ | refine T_skip ?_
    | refine T_exit ?_ | refine T_block ?_ | refine E_then ?_ | refine E_thenX ?_ | refine E_thenR ?_ | refine E_blockN ?_ | refine E_blockR ?_
    | refine E_blockX ?_ | refine E_blockO rfl ?_ | refine qv rfl (rr_cap Und.eq rfl) rfl rfl ?_
    | refine qv rfl (rr_slpre (j := 0) Und.eq TyC.ty rfl rfl (Nat.le_refl 0)) rfl rfl ?_ | refine qv rfl (qlen Und.eq rfl) rfl rfl ?_
    | refine qv rfl (rr_lss rfl rfl (qT (by omega))) rfl rfl ?_ | refine qv rfl (rr_lss rfl rfl (qF (by omega))) rfl rfl ?_
    | refine qv rfl (rr_add64 rfl rfl (by omega) (by omega) rfl) rfl rfl ?_)
  refine T_loop (ι := Unit) (fun _ => True) (fun _ => [(10, .int .i64 0), (11, .int .i64 0)]) (fun _ => []) (fun _ => 0) () trivial (by repeat' (first | exact True.intro | refine And.intro rfl ?_)) rfl ?_
  intro _ _
  repeat (first
    | refine qv rfl (qp rfl) rfl rfl ?_ | refine TL_nil ?_ | refine T_seq ?_ | refine T_region ?_ | refine qcT rfl ?_ | refine qcF rfl ?_ | refine T_skip ?_
    | refine T_exit ?_ | refine T_block ?_ | refine E_then ?_ | refine E_thenX ?_ | refine E_thenR ?_ | refine E_blockN ?_ | refine E_blockR ?_
    | refine E_blockX ?_ | refine E_blockO rfl ?_ | refine qv rfl (qlen Und.eq rfl) rfl rfl ?_ | refine qv rfl (rr_lss rfl rfl (qT (by omega))) rfl rfl ?_
    | refine qv rfl (rr_lss rfl rfl (qF (by omega))) rfl rfl ?_ | refine qv rfl (rr_add64 rfl rfl (by omega) (by omega) rfl) rfl rfl ?_)
  exact E_end0 rfl fun w hm => hm.ret
end Go.Proofs.Ytiadamoibbabpaa.eng

/- SpCl -/
namespace Go.Proofs.Ytiadamoibbabpaa.eng
open Go.RowKit kit mix
theorem spoilASpCl (k cap : Nat) (a : classL.C4) (cs : Array Value) (hc : cs.size = cap * 4) (hk : k < cap) : (((List.replicate k (classL.clsL a)).flatten ++ cs.toList.drop (k * 4)).toArray.toList.take (k * 4) ++ (classL.clsL a).toArray.toList ++ ((List.replicate k (classL.clsL a)).flatten ++ cs.toList.drop (k * 4)).toArray.toList.drop (k * 4 + 4)).toArray = ((List.replicate (k + 1) (classL.clsL a)).flatten ++ cs.toList.drop ((k + 1) * 4)).toArray := by
  congr 1
  have h : ((List.replicate k (classL.clsL a)).flatten).length = k * 4 := by simp [classL.clsL]
  simp only []
  rw [List.take_left' h, ← List.drop_drop, List.drop_left' h, List.replicate_succ', List.flatten_append, List.drop_drop]
  simp [Nat.add_mul]
set_option maxHeartbeats 2000000 in
theorem spoilSpCl_calls (g n cap : Nat) (cs : Array Value) (a : classL.C4) (w : World) (B : Base) (hn : n ≤ cap) (hmax : cap ≤ 9223372036854775807) (hc : cs.size = cap * 4) (h1 : (classL.clsL a).all Value.oneCell' = true) (hm : Mem B [blkO g cs 34] w) :
    Calls Try.prog 8 #[.slice (some ⟨g, 0, none⟩) n cap, (.agg (classL.clsL a).toArray)] w (MeetsB ⟨fun (_ : Unit) => True, fun _ => .tuple #[], fun _ => [blkO g ((List.replicate cap (classL.clsL a)).flatten).toArray 34]⟩ B) := by
  refine enterB hm (args := [.slice (some ⟨g, 0, none⟩) n cap, (.agg (classL.clsL a).toArray)]) (n := 19) Try.func8 rfl rfl rfl ?_
  refine T_seq (T_region (TL_box rfl rfl rfl fun g0 => ?_))
  repeat (first
    | refine qv rfl (qp rfl) rfl rfl ?_ | refine TL_nil ?_ | refine T_seq ?_ | refine T_region ?_ | refine qcT rfl ?_ | refine qcF rfl ?_ | refine T_skip ?_
    | refine T_exit ?_ | refine T_block ?_ | refine E_then ?_ | refine E_thenX ?_ | refine E_thenR ?_ | refine E_blockN ?_ | refine E_blockR ?_
    | refine E_blockX ?_ | refine E_blockO rfl ?_ | refine qv rfl (rr_cap Und.eq rfl) rfl rfl ?_
    | refine qv rfl (rr_slpre Und.eq TyC.ty rfl rfl (Nat.le_refl cap)) rfl rfl ?_ | refine qv rfl (qlen Und.eq rfl) rfl rfl ?_
    | refine qv rfl (rr_lss rfl rfl (qT (by omega))) rfl rfl ?_ | refine qv rfl (rr_lss rfl rfl (qF (by omega))) rfl rfl ?_
    | refine qv rfl (rr_add64 rfl rfl (by omega) (by omega) rfl) rfl rfl ?_)
  refine T_loop (ι := Nat) (fun k => k ≤ cap) (fun k => [(0, .slice (some ⟨g, 0, none⟩) cap cap), (3, .pointer (some ⟨g0, 0, none⟩)), (10, .int .i64 cap), (11, .int .i64 (k : Int))]) (fun k => [blkO g ((List.replicate k (classL.clsL a)).flatten ++ cs.toList.drop (k * 4)).toArray 34, blkO g0 (classL.clsL a).toArray 34]) (fun k => cap - k) 0 (Nat.zero_le _) (by repeat' (first | exact True.intro | refine And.intro rfl ?_)) (by simp; rfl) ?_
  intro k hk
  by_cases c1 : k < cap
  · have hsz : ((List.replicate k (classL.clsL a)).flatten ++ cs.toList.drop (k * 4)).toArray.size = cap * 4 := by simp [hc, classL.clsL]; omega
    repeat (first
      | refine qv rfl (qp rfl) rfl rfl ?_ | refine TL_nil ?_ | refine T_seq ?_ | refine T_region ?_ | refine qcT rfl ?_ | refine qcF rfl ?_ | refine T_skip ?_
      | refine T_exit ?_ | refine T_block ?_ | refine E_then ?_ | refine E_thenX ?_ | refine E_thenR ?_ | refine E_blockN ?_ | refine E_blockR ?_
      | refine E_blockX ?_ | refine E_blockO rfl ?_ | refine qv rfl (rr_loadB (i := 1) TyC.ty rfl rfl rfl) rfl rfl ?_
      | refine qv rfl (rr_idxc Und.eq TyC.ty rfl rfl c1) rfl rfl ?_ | refine qv rfl (qlen Und.eq rfl) rfl rfl ?_
      | refine qv rfl (rr_lss rfl rfl (qT (by omega))) rfl rfl ?_ | refine qv rfl (rr_lss rfl rfl (qF (by omega))) rfl rfl ?_
      | refine qv rfl (rr_add64 rfl rfl (by omega) (by omega) rfl) rfl rfl ?_)
    refine TL_store (i := 0) (cs' := ((List.replicate (k + 1) (classL.clsL a)).flatten ++ cs.toList.drop ((k + 1) * 4)).toArray) TyC.ty rfl rfl rfl rfl (show ((classL.clsL a).toArray.toList.all Value.oneCell') = true by simpa using h1) (by rw [hsz]; omega) (by rw [Nat.zero_add]; exact (spoilASpCl k cap a cs hc c1).symm) ?_
    repeat (first
      | refine qv rfl (qp rfl) rfl rfl ?_ | refine TL_nil ?_ | refine T_seq ?_ | refine T_region ?_ | refine qcT rfl ?_ | refine qcF rfl ?_ | refine T_skip ?_
      | refine T_exit ?_ | refine T_block ?_ | refine E_then ?_ | refine E_thenX ?_ | refine E_thenR ?_ | refine E_blockN ?_ | refine E_blockR ?_
      | refine E_blockX ?_ | refine E_blockO rfl ?_ | refine qv rfl (qlen Und.eq rfl) rfl rfl ?_ | refine qv rfl (rr_lss rfl rfl (qT (by omega))) rfl rfl ?_
      | refine qv rfl (rr_lss rfl rfl (qF (by omega))) rfl rfl ?_ | refine qv rfl (rr_add64 rfl rfl (by omega) (by omega) rfl) rfl rfl ?_)
    exact E_round (k + 1) (by omega) (by show cap - (k + 1) < cap - k; omega) (by repeat' (first | exact True.intro | refine And.intro rfl ?_)) rfl
  · obtain rfl : k = cap := by omega
    repeat (first
      | refine qv rfl (qp rfl) rfl rfl ?_ | refine TL_nil ?_ | refine T_seq ?_ | refine T_region ?_ | refine qcT rfl ?_ | refine qcF rfl ?_ | refine T_skip ?_
      | refine T_exit ?_ | refine T_block ?_ | refine E_then ?_ | refine E_thenX ?_ | refine E_thenR ?_ | refine E_blockN ?_ | refine E_blockR ?_
      | refine E_blockX ?_ | refine E_blockO rfl ?_ | refine qv rfl (qlen Und.eq rfl) rfl rfl ?_ | refine qv rfl (rr_lss rfl rfl (qT (by omega))) rfl rfl ?_
      | refine qv rfl (rr_lss rfl rfl (qF (by omega))) rfl rfl ?_ | refine qv rfl (rr_add64 rfl rfl (by omega) (by omega) rfl) rfl rfl ?_)
    refine E_end0 rfl fun w hm => hm.meetsB (S := ⟨fun (_ : Unit) => True, fun _ => .tuple #[], fun _ => [blkO g ((List.replicate k (classL.clsL a)).flatten).toArray 34]⟩) () trivial [0] (by decide) (by simp only [List.drop_of_length_le (show cs.toList.length ≤ k * 4 by simp [hc]), List.append_nil]; rfl)
end Go.Proofs.Ytiadamoibbabpaa.eng

/- SpBo -/
namespace Go.Proofs.Ytiadamoibbabpaa.eng
open Go.RowKit kit mix
theorem spoilASpBo (k cap : Nat) (a : Bool) (cs : Array Value) (hc : cs.size = cap * 1) (hk : k < cap) : (((List.replicate k (boC a)).flatten ++ cs.toList.drop (k * 1)).toArray.toList.take (k * 1) ++ (boC a).toArray.toList ++ ((List.replicate k (boC a)).flatten ++ cs.toList.drop (k * 1)).toArray.toList.drop (k * 1 + 1)).toArray = ((List.replicate (k + 1) (boC a)).flatten ++ cs.toList.drop ((k + 1) * 1)).toArray := by
  congr 1
  have h : ((List.replicate k (boC a)).flatten).length = k * 1 := by simp [boC]
  simp only []
  rw [List.take_left' h, ← List.drop_drop, List.drop_left' h, List.replicate_succ', List.flatten_append, List.drop_drop]
  simp [Nat.add_mul]
set_option maxHeartbeats 2000000 in
theorem spoilSpBo_calls (g n cap : Nat) (cs : Array Value) (a : Bool) (w : World) (B : Base) (hn : n ≤ cap) (hmax : cap ≤ 9223372036854775807) (hc : cs.size = cap * 1) (h1 : (boC a).all Value.oneCell' = true) (hm : Mem B [blkO g cs 4] w) :
    Calls Try.prog 9 #[.slice (some ⟨g, 0, none⟩) n cap, .bool a] w (MeetsB ⟨fun (_ : Unit) => True, fun _ => .tuple #[], fun _ => [blkO g ((List.replicate cap (boC a)).flatten).toArray 4]⟩ B) := by
  refine enterB hm (args := [.slice (some ⟨g, 0, none⟩) n cap, .bool a]) (n := 19) Try.func9 rfl rfl rfl ?_
  repeat (first
    | refine qv rfl (qp rfl) rfl rfl ?_ | refine TL_nil ?_ | refine T_seq ?_ | refine T_region ?_ | refine qcT rfl ?_ | refine qcF rfl ?_ | refine T_skip ?_
    | refine T_exit ?_ | refine T_block ?_ | refine E_then ?_ | refine E_thenX ?_ | refine E_thenR ?_ | refine E_blockN ?_ | refine E_blockR ?_
    | refine E_blockX ?_ | refine E_blockO rfl ?_ | refine qv rfl (rr_cap Und.eq rfl) rfl rfl ?_
    | refine qv rfl (rr_slpre Und.eq TyC.ty rfl rfl (Nat.le_refl cap)) rfl rfl ?_ | refine qv rfl (qlen Und.eq rfl) rfl rfl ?_
    | refine qv rfl (rr_lss rfl rfl (qT (by omega))) rfl rfl ?_ | refine qv rfl (rr_lss rfl rfl (qF (by omega))) rfl rfl ?_
    | refine qv rfl (rr_add64 rfl rfl (by omega) (by omega) rfl) rfl rfl ?_)
  refine T_loop (ι := Nat) (fun k => k ≤ cap) (fun k => [(0, .slice (some ⟨g, 0, none⟩) cap cap), (1, .bool a), (10, .int .i64 cap), (11, .int .i64 (k : Int))]) (fun k => [blkO g ((List.replicate k (boC a)).flatten ++ cs.toList.drop (k * 1)).toArray 4]) (fun k => cap - k) 0 (Nat.zero_le _) (by repeat' (first | exact True.intro | refine And.intro rfl ?_)) (by simp) ?_
  intro k hk
  by_cases c1 : k < cap
  · have hsz : ((List.replicate k (boC a)).flatten ++ cs.toList.drop (k * 1)).toArray.size = cap * 1 := by simp [hc, boC]; omega
    repeat (first
      | refine qv rfl (qp rfl) rfl rfl ?_ | refine TL_nil ?_ | refine T_seq ?_ | refine T_region ?_ | refine qcT rfl ?_ | refine qcF rfl ?_ | refine T_skip ?_
      | refine T_exit ?_ | refine T_block ?_ | refine E_then ?_ | refine E_thenX ?_ | refine E_thenR ?_ | refine E_blockN ?_ | refine E_blockR ?_
      | refine E_blockX ?_ | refine E_blockO rfl ?_ | refine qv rfl (rr_idxc Und.eq TyC.ty rfl rfl c1) rfl rfl ?_ | refine qv rfl (qlen Und.eq rfl) rfl rfl ?_
      | refine qv rfl (rr_lss rfl rfl (qT (by omega))) rfl rfl ?_ | refine qv rfl (rr_lss rfl rfl (qF (by omega))) rfl rfl ?_
      | refine qv rfl (rr_add64 rfl rfl (by omega) (by omega) rfl) rfl rfl ?_)
    refine TL_store (i := 0) (cs' := ((List.replicate (k + 1) (boC a)).flatten ++ cs.toList.drop ((k + 1) * 1)).toArray) TyC.ty rfl rfl rfl rfl (show ((boC a).toArray.toList.all Value.oneCell') = true by simpa using h1) (by rw [hsz]; omega) (by rw [Nat.zero_add]; exact (spoilASpBo k cap a cs hc c1).symm) ?_
    repeat (first
      | refine qv rfl (qp rfl) rfl rfl ?_ | refine TL_nil ?_ | refine T_seq ?_ | refine T_region ?_ | refine qcT rfl ?_ | refine qcF rfl ?_ | refine T_skip ?_
      | refine T_exit ?_ | refine T_block ?_ | refine E_then ?_ | refine E_thenX ?_ | refine E_thenR ?_ | refine E_blockN ?_ | refine E_blockR ?_
      | refine E_blockX ?_ | refine E_blockO rfl ?_ | refine qv rfl (qlen Und.eq rfl) rfl rfl ?_ | refine qv rfl (rr_lss rfl rfl (qT (by omega))) rfl rfl ?_
      | refine qv rfl (rr_lss rfl rfl (qF (by omega))) rfl rfl ?_ | refine qv rfl (rr_add64 rfl rfl (by omega) (by omega) rfl) rfl rfl ?_)
    exact E_round (k + 1) (by omega) (by show cap - (k + 1) < cap - k; omega) (by repeat' (first | exact True.intro | refine And.intro rfl ?_)) rfl
  · obtain rfl : k = cap := by omega
    repeat (first
      | refine qv rfl (qp rfl) rfl rfl ?_ | refine TL_nil ?_ | refine T_seq ?_ | refine T_region ?_ | refine qcT rfl ?_ | refine qcF rfl ?_ | refine T_skip ?_
      | refine T_exit ?_ | refine T_block ?_ | refine E_then ?_ | refine E_thenX ?_ | refine E_thenR ?_ | refine E_blockN ?_ | refine E_blockR ?_
      | refine E_blockX ?_ | refine E_blockO rfl ?_ | refine qv rfl (qlen Und.eq rfl) rfl rfl ?_ | refine qv rfl (rr_lss rfl rfl (qT (by omega))) rfl rfl ?_
      | refine qv rfl (rr_lss rfl rfl (qF (by omega))) rfl rfl ?_ | refine qv rfl (rr_add64 rfl rfl (by omega) (by omega) rfl) rfl rfl ?_)
    refine E_end0 rfl fun w hm => hm.meetsB (S := ⟨fun (_ : Unit) => True, fun _ => .tuple #[], fun _ => [blkO g ((List.replicate k (boC a)).flatten).toArray 4]⟩) () trivial [0] (by decide) (by simp only [List.drop_of_length_le (show cs.toList.length ≤ k * 1 by simp [hc]), List.append_nil]; rfl)
end Go.Proofs.Ytiadamoibbabpaa.eng

/- Fam -/
namespace Go.Proofs.Ytiadamoibbabpaa.eng
open Go.RowKit kit mix
def famP (D : Nat → Prop) (f : Nat → Own) : Own where
  blk := none
  more := fun k => ∃ i, D i ∧ (f i).foot k
  holds := fun w => (∀ i, D i → (f i).holds w) ∧ ∀ i j, D i → D j → i ≠ j → ∀ k, (f i).foot k → ¬ (f j).foot k
  lt := fun w h k hk => by
    rcases hk with hk | ⟨i, hi, hk⟩
    · cases hk
    · exact (f i).lt w (h.1 i hi) k hk
  stay := fun w w' h hs hb => ⟨fun i hi => (f i).stay w w' (h.1 i hi) hs fun k hk => hb k (.inr ⟨i, hi, hk⟩), h.2⟩
theorem fam_congr {D D' : Nat → Prop} {f f' : Nat → Own} (h1 : ∀ k, D' k → D k) (h2 : ∀ k, D' k → f' k = f k) (w : World) (h : (famP D f).holds w) : (famP D' f').holds w :=
  ⟨fun i hi => by rw [h2 i hi]; exact h.1 i (h1 i hi), fun i j hi hj hij => by rw [h2 i hi, h2 j hj]; exact h.2 i j (h1 i hi) (h1 j hj) hij⟩
theorem fam_foot {D D' : Nat → Prop} {f f' : Nat → Own} (h1 : ∀ k, D' k → D k) (h2 : ∀ k, D' k → f' k = f k) (k : Nat) (h : (famP D' f').foot k) : (famP D f).foot k := by
  rcases h with h | ⟨i, hi, hk⟩
  · cases h
  · exact .inr ⟨i, h1 i hi, by rw [← h2 i hi]; exact hk⟩
/-- one more -/
def upd (f : Nat → Own) (i : Nat) (o : Own) : Nat → Own := fun k => if k = i then o else f k
theorem upd_ne {f : Nat → Own} {i j : Nat} {o : Own} (h : j ≠ i) : upd f i o j = f j := by unfold upd; rw [if_neg h]
theorem upd_eq {f : Nat → Own} {i : Nat} {o : Own} : upd f i o i = o := by unfold upd; rw [if_pos rfl]
theorem fam_put {D : Nat → Prop} {f : Nat → Own} {i : Nat} {o : Own} {w : World} (hi : ¬ D i) (h : (famP D f).holds w) (ho : o.holds w) (ha : ∀ k, (famP D f).foot k → ¬ o.foot k) : (famP (fun k => D k ∨ k = i) (upd f i o)).holds w := by
  have hf : ∀ j, D j → upd f i o j = f j := fun j hj => upd_ne fun e => hi (by subst e; exact hj)
  have hg : upd f i o i = o := upd_eq
  refine ⟨fun j hj => ?_, fun j k hj hk hjk q hq hq' => ?_⟩
  · rcases hj with hj | rfl
    · rw [hf j hj]; exact h.1 j hj
    · rw [hg]; exact ho
  · rcases hj with hj | rfl <;> rcases hk with hk | rfl
    · rw [hf j hj] at hq; rw [hf k hk] at hq'; exact h.2 j k hj hk hjk q hq hq'
    · rw [hf j hj] at hq; rw [hg] at hq'; exact ha q (.inr ⟨j, hj, hq⟩) hq'
    · rw [hg] at hq; rw [hf k hk] at hq'; exact ha q (.inr ⟨k, hk, hq'⟩) hq
    · exact hjk rfl
theorem fam_putF {D : Nat → Prop} {f : Nat → Own} {i : Nat} {o : Own} (hi : ¬ D i) (k : Nat) (h : (famP (fun k => D k ∨ k = i) (upd f i o)).foot k) : (famP D f).foot k ∨ o.foot k := by
  rcases h with h | ⟨j, hj, hk⟩
  · cases h
  · rcases hj with hj | rfl
    · exact .inl (.inr ⟨j, hj, by rw [upd_ne fun e => hi (by subst e; exact hj)] at hk; exact hk⟩)
    · exact .inr (by rw [upd_eq] at hk; exact hk)
section
variable {P : Program} {n : Nat} {W : Base} {fr : Fr} {L : List Own} {Q : Exit → Act → World → Prop} {ops : Array Oper} {rest : List Oper} {d : Nat}
theorem Mem.split {w : World} {q : Nat} {o : Own} (o1 o2 : Own) (h : Mem W L w) (hq : L[q]? = some o) (h1 : ∀ w, o.holds w → o1.holds w) (h2 : ∀ w, o.holds w → o2.holds w) (f1 : ∀ k, o1.foot k → o.foot k) (f2 : ∀ k, o2.foot k → o.foot k) (ha : ∀ w, o.holds w → ∀ k, o1.foot k → ¬ o2.foot k) : Mem W (L.set q o1 ++ [o2]) w := by
  have hr := h.reown o1 hq h1 f1
  have hoq := h.owns.all q o hq
  have hlen : q < L.length := (List.getElem?_eq_some_iff.1 hq).1
  refine ⟨h.low, OwnsP.both hr.owns (OwnsP.one (h2 w hoq.1) fun k hk => hoq.2 k (f2 k hk)) fun i j a b hi hj k hk hk' => ?_⟩
  match j, hj with
  | 0, hj =>
    simp only [List.getElem?_cons_zero, Option.some.injEq] at hj; subst hj
    by_cases e : q = i
    · subst e
      rw [List.getElem?_set_self hlen] at hi
      simp only [Option.some.injEq] at hi; subst hi
      exact ha w hoq.1 k hk hk'
    · rw [List.getElem?_set_ne e] at hi
      exact h.owns.apart i q a o (Ne.symm e) hi hq k hk (f2 k hk')
  | j + 1, hj => simp at hj
theorem Mem.merge2A {w : World} (o : Own) (i j : Nat) (js : List Nat) {o1 o2 : Own} {R : List Own} (h : Mem W L w) (hn : ([i, j] ++ js).Nodup) (h1 : L[i]? = some o1) (h2 : L[j]? = some o2) (hR : R = js.filterMap fun i => L[i]?) (hf : ∀ k, o.foot k → o1.foot k ∨ o2.foot k) (hh : ∀ w, o1.holds w → o2.holds w → (∀ k, o1.foot k → ¬ o2.foot k) → o.holds w) : Mem W (R ++ [o]) w := by
  have hij : i ≠ j := fun e => by subst e; simp at hn
  have ha := h.owns.apart i j o1 o2 hij h1 h2
  refine Mem.merge o (h.pick ([i, j] ++ js) hn ?_) hf (fun a b => hh w a b ha)
  rw [List.filterMap_append, ← hR]
  congr 1
  rw [List.filterMap_cons_some (by exact h1), List.filterMap_cons_some (by exact h2)]; rfl
theorem Mem.take {w : World} {q : Nat} {D : Nat → Prop} {f : Nat → Own} (i : Nat) (h : Mem W L w) (hq : L[q]? = some (famP D f)) (hi : D i) : Mem W (L.set q (famP (fun k => D k ∧ k ≠ i) f) ++ [f i]) w :=
  h.split _ _ hq (fun w h => fam_congr (fun k h => h.1) (fun _ _ => rfl) w h) (fun w h => h.1 i hi) (fun k h => fam_foot (fun k h => h.1) (fun _ _ => rfl) k h) (fun k h => .inr ⟨i, hi, h⟩) fun w h k hk hk' => by
    rcases hk with hk | ⟨j, ⟨hj, hne⟩, hk⟩
    · cases hk
    · exact h.2 j i hj hi hne k hk hk'
theorem Mem.put {w : World} {D D' : Nat → Prop} {f f' : Nat → Own} {o : Own} {R : List Own} (x q j : Nat) (js : List Nat) (h : Mem W L w) (hn : ([q, j] ++ js).Nodup) (hq : L[q]? = some (famP D f)) (hj : L[j]? = some o) (hR : R = js.filterMap fun i => L[i]?) (hx : ¬ D x) (hD : ∀ k, D' k → D k ∨ k = x) (hf : ∀ k, D' k → f' k = upd f x o k) : Mem W (R ++ [famP D' f']) w :=
  h.merge2A _ q j js hn hq hj hR (fun k hk => fam_putF hx k (fam_foot hD hf k hk)) fun w h1 h2 h3 => fam_congr hD hf w (fam_put hx h1 h2 h3)
section
variable {α : Type}
end
end
end Go.Proofs.Ytiadamoibbabpaa.eng

/- PlO -/
namespace Go.Proofs.Ytiadamoibbabpaa.eng
open Go.RowKit kit mix classL placesL
/-- none, or a slice of a block of its own -/
def StrI (p : Nat → Nat → Prop) (v : Value) : Prop := v = .slice none 0 0 ∨ ∃ g n cap, v = .slice (some ⟨g, 0, none⟩) n cap ∧ n ≤ cap ∧ cap ≤ 9223372036854775807 ∧ p g cap
theorem StrI.imp {p q : Nat → Nat → Prop} {v : Value} (h : StrI p v) (hpq : ∀ g cap, p g cap → q g cap) : StrI q v :=
  h.elim .inl fun ⟨g, n, cap, h1, h2, h3, h4⟩ => .inr ⟨g, n, cap, h1, h2, h3, hpq _ _ h4⟩
def strP (F : Nat → Prop) (w : World) (g cap : Nat) : Prop := F g ∧ ∃ cs : Array Value, w.heap[g]? = some (.cells cs 3 (0, 0)) ∧ cs.size = cap
theorem strP.stay {F : Nat → Prop} {w w' : World} {g cap : Nat} (h : strP F w g cap) (hk : w'.heap[g]? = w.heap[g]?) : strP F w' g cap :=
  let ⟨h1, cs, h2, h3⟩ := h; ⟨h1, cs, by rw [hk]; exact h2, h3⟩
def strO (F : Nat → Prop) (vs : List Value) : Own where
  blk := none
  more := F
  holds := fun w => (∀ v ∈ vs, StrI (strP F w) v) ∧ ∀ k, F k → k < w.heap.size
  lt := fun w h k hk => h.2 k (hk.elim (fun h => by cases h) id)
  stay := fun w w' h hs hb => ⟨fun v hv => (h.1 v hv).imp fun g cap hp => hp.stay (hb g (.inr hp.1)), fun k hk => Nat.lt_of_lt_of_le (h.2 k hk) hs⟩
/-- all but one block -/
def strX (F : Nat → Prop) (vs : List Value) (g sz : Nat) : Own where
  blk := none
  more := fun k => F k ∧ k ≠ g
  holds := fun w => (F g ∧ ∀ v ∈ vs, StrI (fun g' cap => (g' = g ∧ cap = sz) ∨ (g' ≠ g ∧ strP F w g' cap)) v) ∧ ∀ k, F k → k ≠ g → k < w.heap.size
  lt := fun w h k hk => by
    rcases hk with hk | hk
    · cases hk
    · exact h.2 k hk.1 hk.2
  stay := fun w w' h hs hb => ⟨⟨h.1.1, fun v hv => (h.1.2 v hv).imp fun g' cap hp => hp.imp id fun ⟨a, b⟩ => ⟨a, b.stay (hb g' (.inr ⟨b.1, a⟩))⟩⟩, fun k hk hk' => Nat.lt_of_lt_of_le (h.2 k hk hk') hs⟩
theorem fol_str {F : Nat → Prop} {vs : List Value} {fol : List (List Int)} {w : World} (h : (folE F vs fol).holds w) : (strO F vs).holds w := by
  obtain ⟨⟨h1, h2⟩, h3⟩ := h
  refine ⟨fun v hv => ?_, h3⟩
  obtain ⟨i, hi, rfl⟩ := List.mem_iff_getElem.1 hv
  rw [List.length_map] at h1
  obtain ⟨v, hv, _, hs, hF⟩ := h2 i (by omega) (by simpa using hi)
  rw [List.getElem_map] at hv
  simp only [one1, List.cons.injEq, and_true] at hv
  rw [hv]
  rcases hs.2 with ⟨e, _⟩ | ⟨g, cap, cs, e, hb, hg, hmc, hcm, hcs, htk⟩
  · exact .inl e
  · exact .inr ⟨g, _, cap, e, hmc, by unfold maxLen at hcm; omega, hF g (by rw [e]; rfl), cs, hg, by omega⟩
section
variable {P : Program} {n : Nat} {W : Base} {fr : Fr} {L : List Own} {Q : Exit → Act → World → Prop} {ops : Array Oper} {rest : List Oper} {d : Nat}
theorem Mem.openStr {w : World} {i : Nat} {F : Nat → Prop} {vs : List Value} {v : Value} (h : Mem W L w) (hi : L[i]? = some (strO F vs)) (hv : v ∈ vs) : v = .slice none 0 0 ∨ ∃ g m cap cs, v = .slice (some ⟨g, 0, none⟩) m cap ∧ m ≤ cap ∧ cap ≤ 9223372036854775807 ∧ cs.size = cap * 1 ∧ Mem W (L.set i (strX F vs g cap) ++ [blkO g cs 3]) w := by
  have h1 : (strO F vs).holds w := h.get hi
  rcases h1.1 v hv with hv0 | ⟨g, m, cap, hv0, hm, hc, hF, cs, hg, hsz⟩
  · exact .inl hv0
  · refine .inr ⟨g, m, cap, cs, hv0, hm, hc, by omega, ?_⟩
    have hr : Mem W (L.set i (strX F vs g cap)) w := by
      refine h.reown (strX F vs g cap) hi (fun w' hw => ?_) fun k hk => hk.elim (fun h => by cases h) fun h => .inr h.1
      subst hv0
      have hv' := hw.1 _ hv
      rcases hv' with hv' | ⟨g0, m0, cap0, hv', _, _, _, cs0, hg0, hsz0⟩
      · cases hv'
      · cases hv'
        refine ⟨⟨hF, fun u hu => (hw.1 u hu).imp fun g' cap' hp => ?_⟩, fun k hk _ => hw.2 k hk⟩
        by_cases e : g' = g
        · subst e
          obtain ⟨_, cs', hg', hs'⟩ := hp
          rw [hg0] at hg'
          cases hg'
          exact .inl ⟨rfl, by omega⟩
        · exact .inr ⟨e, hp⟩
    have hoq := h.owns.all i _ hi
    have hlen : i < L.length := (List.getElem?_eq_some_iff.1 hi).1
    refine ⟨h.low, OwnsP.both hr.owns (OwnsP.one hg fun k hk => hoq.2 k (.inr (by
      rcases hk with hk | hk
      · simp only [blkO, Option.some.injEq] at hk; subst hk; exact hF
      · exact hk.elim))) fun a b oa ob ha hb k hk hk' => ?_⟩
    match b, hb with
    | 0, hb =>
      simp only [List.getElem?_cons_zero, Option.some.injEq] at hb; subst hb
      have hkg : k = g := by
        rcases hk' with hk' | hk'
        · simp only [blkO, Option.some.injEq] at hk'; exact hk'.symm
        · exact hk'.elim
      by_cases e : i = a
      · subst e
        rw [List.getElem?_set_self hlen] at ha
        simp only [Option.some.injEq] at ha; subst ha
        rcases hk with hk | hk
        · cases hk
        · exact hk.2 hkg
      · rw [List.getElem?_set_ne e] at ha
        exact h.owns.apart a i oa _ (Ne.symm e) ha hi k hk (.inr (by subst hkg; exact hF))
    | b + 1, hb => simp at hb
theorem TL_openStr {i : Nat} {F : Nat → Prop} {vs : List Value} {v : Value} (hi : L[i]? = some (strO F vs)) (hv : v ∈ vs) (h0 : v = .slice none 0 0 → TL P n W ops Q rest fr L)
    (h : ∀ g m cap cs, v = .slice (some ⟨g, 0, none⟩) m cap → m ≤ cap → cap ≤ 9223372036854775807 → cs.size = cap * 1 → TL P n W ops Q rest fr (L.set i (strX F vs g cap) ++ [blkO g cs 3])) : TL P n W ops Q rest fr L := ⟨fun a w hr hm => by
  rcases hm.openStr hi hv with a1 | ⟨g, m, cap, cs, a1, a2, a3, a4, a5⟩
  · exact (h0 a1).go a w hr hm
  · exact (h g m cap cs a1 a2 a3 a4).go a w hr a5⟩
end
theorem str_close {F : Nat → Prop} {vs : List Value} {g sz : Nat} {cs : Array Value} {w : World} (h : (strX F vs g sz).holds w) (hb : (blkO g cs 3).holds w) (hs : cs.size = sz) : (strO F vs).holds w := by
  refine ⟨fun v hv => (h.1.2 v hv).imp fun g' cap hp => ?_, fun k hk => ?_⟩
  · rcases hp with ⟨rfl, rfl⟩ | ⟨_, hp⟩
    · exact ⟨h.1.1, cs, hb, hs⟩
    · exact hp
  · by_cases e : k = g
    · subst e; exact (Array.getElem?_eq_some_iff.1 (show w.heap[k]? = some (.cells cs 3 (0, 0)) from hb)).1
    · exact h.2 k hk e
theorem str_foot {F : Nat → Prop} {vs : List Value} {g sz : Nat} {cs : Array Value} (k : Nat) (h : (strO F vs).foot k) : (strX F vs g sz).foot k ∨ (blkO g cs 3).foot k := by
  rcases h with h | h
  · cases h
  · by_cases e : k = g
    · subst e; exact .inr (.inl rfl)
    · exact .inl (.inr ⟨h, e⟩)
/-- nothing is left -/
def spoilt : Spec Unit := ⟨fun _ => True, fun _ => .tuple #[], fun _ => []⟩
theorem meets_spoilt {B : Base} {S : Spec Unit} (hv : S.val () = .tuple #[]) {e : Ending} {w : World} (h : MeetsB S B e w) : MeetsB spoilt B e w := by
  obtain ⟨⟨⟩, _, h2, h3⟩ := h
  exact ⟨(), trivial, by rw [h2, hv]; rfl, h3.pick [] List.nodup_nil rfl⟩
theorem spoilRowIn_calls (v : Value) (n : Nat) (xs : List Value) (a : Int) (w : World) (B : Base) (hm : Mem B [rowO 3 1 v n xs] w) :
    Calls Try.prog 7 #[v, .int .i64 a] w (MeetsB spoilt B) := by
  rcases hm.openRow (i := 0) rfl with ⟨rfl, rfl⟩ | ⟨g, cap, cs, rfl, h1, h2, h3, _, h5⟩
  · refine enterB hm (args := [.slice none 0 0, .int .i64 a]) (n := 19) Try.func7 rfl rfl rfl ?_
    repeat (first
      | refine qv rfl (qp rfl) rfl rfl ?_ | refine TL_nil ?_ | refine T_seq ?_ | refine T_region ?_ | refine qcT rfl ?_ | refine qcF rfl ?_ | refine T_skip ?_
      | refine T_exit ?_ | refine T_block ?_ | refine E_then ?_ | refine E_thenX ?_ | refine E_thenR ?_ | refine E_blockN ?_ | refine E_blockR ?_
      | refine E_blockX ?_ | refine E_blockO rfl ?_ | refine qv rfl (rr_cap Und.eq rfl) rfl rfl ?_
      | refine qv rfl (rr_slpre (j := 0) Und.eq TyC.ty rfl rfl (Nat.le_refl 0)) rfl rfl ?_ | refine qv rfl (qlen Und.eq rfl) rfl rfl ?_
      | refine qv rfl (rr_lss rfl rfl (qT (by omega))) rfl rfl ?_ | refine qv rfl (rr_lss rfl rfl (qF (by omega))) rfl rfl ?_
      | refine qv rfl (rr_add64 rfl rfl (by omega) (by omega) rfl) rfl rfl ?_)
    refine T_loop (ι := Unit) (fun _ => True) (fun _ => [(10, .int .i64 0), (11, .int .i64 0)]) (fun _ => [rowO 3 1 (.slice none 0 0) 0 xs]) (fun _ => 0) () trivial (by repeat' (first | exact True.intro | refine And.intro rfl ?_)) rfl ?_
    intro _ _
    repeat (first
      | refine qv rfl (qp rfl) rfl rfl ?_ | refine TL_nil ?_ | refine T_seq ?_ | refine T_region ?_ | refine qcT rfl ?_ | refine qcF rfl ?_ | refine T_skip ?_
      | refine T_exit ?_ | refine T_block ?_ | refine E_then ?_ | refine E_thenX ?_ | refine E_thenR ?_ | refine E_blockN ?_ | refine E_blockR ?_
      | refine E_blockX ?_ | refine E_blockO rfl ?_ | refine qv rfl (qlen Und.eq rfl) rfl rfl ?_ | refine qv rfl (rr_lss rfl rfl (qT (by omega))) rfl rfl ?_
      | refine qv rfl (rr_lss rfl rfl (qF (by omega))) rfl rfl ?_ | refine qv rfl (rr_add64 rfl rfl (by omega) (by omega) rfl) rfl rfl ?_)
    exact E_end0 rfl fun w hm => hm.meetsB (S := spoilt) () trivial [] (by decide) rfl
  · exact (spoilSpIn_calls g n cap cs a w B h1 h2 h3 rfl h5).mono fun e w' h => meets_spoilt rfl h
theorem spoilRowBo_calls (v : Value) (n : Nat) (xs : List Value) (a : Bool) (w : World) (B : Base) (hm : Mem B [rowO 4 1 v n xs] w) :
    Calls Try.prog 9 #[v, .bool a] w (MeetsB spoilt B) := by
  rcases hm.openRow (i := 0) rfl with ⟨rfl, rfl⟩ | ⟨g, cap, cs, rfl, h1, h2, h3, _, h5⟩
  · refine enterB hm (args := [.slice none 0 0, .bool a]) (n := 19) Try.func9 rfl rfl rfl ?_
    repeat (first
      | refine qv rfl (qp rfl) rfl rfl ?_ | refine TL_nil ?_ | refine T_seq ?_ | refine T_region ?_ | refine qcT rfl ?_ | refine qcF rfl ?_ | refine T_skip ?_
      | refine T_exit ?_ | refine T_block ?_ | refine E_then ?_ | refine E_thenX ?_ | refine E_thenR ?_ | refine E_blockN ?_ | refine E_blockR ?_
      | refine E_blockX ?_ | refine E_blockO rfl ?_ | refine qv rfl (rr_cap Und.eq rfl) rfl rfl ?_
      | refine qv rfl (rr_slpre (j := 0) Und.eq TyC.ty rfl rfl (Nat.le_refl 0)) rfl rfl ?_ | refine qv rfl (qlen Und.eq rfl) rfl rfl ?_
      | refine qv rfl (rr_lss rfl rfl (qT (by omega))) rfl rfl ?_ | refine qv rfl (rr_lss rfl rfl (qF (by omega))) rfl rfl ?_
      | refine qv rfl (rr_add64 rfl rfl (by omega) (by omega) rfl) rfl rfl ?_)
    refine T_loop (ι := Unit) (fun _ => True) (fun _ => [(10, .int .i64 0), (11, .int .i64 0)]) (fun _ => [rowO 4 1 (.slice none 0 0) 0 xs]) (fun _ => 0) () trivial (by repeat' (first | exact True.intro | refine And.intro rfl ?_)) rfl ?_
    intro _ _
    repeat (first
      | refine qv rfl (qp rfl) rfl rfl ?_ | refine TL_nil ?_ | refine T_seq ?_ | refine T_region ?_ | refine qcT rfl ?_ | refine qcF rfl ?_ | refine T_skip ?_
      | refine T_exit ?_ | refine T_block ?_ | refine E_then ?_ | refine E_thenX ?_ | refine E_thenR ?_ | refine E_blockN ?_ | refine E_blockR ?_
      | refine E_blockX ?_ | refine E_blockO rfl ?_ | refine qv rfl (qlen Und.eq rfl) rfl rfl ?_ | refine qv rfl (rr_lss rfl rfl (qT (by omega))) rfl rfl ?_
      | refine qv rfl (rr_lss rfl rfl (qF (by omega))) rfl rfl ?_ | refine qv rfl (rr_add64 rfl rfl (by omega) (by omega) rfl) rfl rfl ?_)
    exact E_end0 rfl fun w hm => hm.meetsB (S := spoilt) () trivial [] (by decide) rfl
  · exact (spoilSpBo_calls g n cap cs a w B h1 h2 h3 rfl h5).mono fun e w' h => meets_spoilt rfl h
theorem spoilRowCl_calls (v : Value) (n : Nat) (xs : List Value) (a : C4) (w : World) (B : Base) (hm : Mem B [rowO 34 4 v n xs] w) :
    Calls Try.prog 8 #[v, .agg (clsL a).toArray] w (MeetsB spoilt B) := by
  rcases hm.openRow (i := 0) rfl with ⟨rfl, rfl⟩ | ⟨g, cap, cs, rfl, h1, h2, h3, _, h5⟩
  · refine enterB hm (args := [.slice none 0 0, .agg (clsL a).toArray]) (n := 19) Try.func8 rfl rfl rfl ?_
    refine T_seq (T_region (TL_box rfl rfl rfl fun g0 => ?_))
    repeat (first
      | refine qv rfl (qp rfl) rfl rfl ?_ | refine TL_nil ?_ | refine T_seq ?_ | refine T_region ?_ | refine qcT rfl ?_ | refine qcF rfl ?_ | refine T_skip ?_
      | refine T_exit ?_ | refine T_block ?_ | refine E_then ?_ | refine E_thenX ?_ | refine E_thenR ?_ | refine E_blockN ?_ | refine E_blockR ?_
      | refine E_blockX ?_ | refine E_blockO rfl ?_ | refine qv rfl (rr_cap Und.eq rfl) rfl rfl ?_
      | refine qv rfl (rr_slpre (j := 0) Und.eq TyC.ty rfl rfl (Nat.le_refl 0)) rfl rfl ?_ | refine qv rfl (qlen Und.eq rfl) rfl rfl ?_
      | refine qv rfl (rr_lss rfl rfl (qT (by omega))) rfl rfl ?_ | refine qv rfl (rr_lss rfl rfl (qF (by omega))) rfl rfl ?_
      | refine qv rfl (rr_add64 rfl rfl (by omega) (by omega) rfl) rfl rfl ?_)
    refine T_loop (ι := Unit) (fun _ => True) (fun _ => [(10, .int .i64 0), (11, .int .i64 0)]) (fun _ => [rowO 34 4 (.slice none 0 0) 0 xs, blkO g0 (clsL a).toArray 34]) (fun _ => 0) () trivial (by repeat' (first | exact True.intro | refine And.intro rfl ?_)) rfl ?_
    intro _ _
    repeat (first
      | refine qv rfl (qp rfl) rfl rfl ?_ | refine TL_nil ?_ | refine T_seq ?_ | refine T_region ?_ | refine qcT rfl ?_ | refine qcF rfl ?_ | refine T_skip ?_
      | refine T_exit ?_ | refine T_block ?_ | refine E_then ?_ | refine E_thenX ?_ | refine E_thenR ?_ | refine E_blockN ?_ | refine E_blockR ?_
      | refine E_blockX ?_ | refine E_blockO rfl ?_ | refine qv rfl (qlen Und.eq rfl) rfl rfl ?_ | refine qv rfl (rr_lss rfl rfl (qT (by omega))) rfl rfl ?_
      | refine qv rfl (rr_lss rfl rfl (qF (by omega))) rfl rfl ?_ | refine qv rfl (rr_add64 rfl rfl (by omega) (by omega) rfl) rfl rfl ?_)
    exact E_end0 rfl fun w hm => hm.meetsB (S := spoilt) () trivial [] (by decide) rfl
  · exact (spoilSpCl_calls g n cap cs a w B h1 h2 h3 rfl h5).mono fun e w' h => meets_spoilt rfl h
end Go.Proofs.Ytiadamoibbabpaa.eng

/- ClassB -/
namespace Go.Proofs.Ytiadamoibbabpaa
open Go.RowKit kit mix classL
attribute [local go_sem] and64 or64 xor64 not64
theorem cls_cells {w : World} {g : Nat} {x : C4} (h : Wr w g 0 (clsL x)) : w.cell? ⟨g, 0, none⟩ = some (v64 x.a) ∧ w.cell? ⟨g, 1, none⟩ = some (v64 x.b) ∧ w.cell? ⟨g, 2, none⟩ = some (v64 x.c) ∧ w.cell? ⟨g, 3, none⟩ = some (v64 x.d) :=
  ⟨(h 0 _ rfl).1, (h 1 _ rfl).1, (h 2 _ rfl).1, (h 3 _ rfl).1⟩
theorem cls_block {w : World} {g : Nat} {x : C4} {T : TypeId} (h : w.heap[g]? = some (.cells #[.int .u64 (n64 x.a), .int .u64 (n64 x.b), .int .u64 (n64 x.c), .int .u64 (n64 x.d)] T (0, 0))) : Wr w g 0 (clsL x) := fun j u hj => by
  rw [Nat.zero_add, cell_of_row w g j _ T (0, 0) h]
  exact ⟨by simpa [clsL] using hj, frozen_of_row w g j _ T h⟩
/-- three classes laid one behind the other -/
theorem box_cls {w : World} {B : Nat} (hB : w.heap.size = B) (x : C4) (T : TypeId) : Wr (w.alloc (.cells #[.int .u64 (n64 x.a), .int .u64 (n64 x.b), .int .u64 (n64 x.c), .int .u64 (n64 x.d)] T)) B 0 (clsL x) :=
  cls_block (blk_new w _ B hB)
theorem gr_alloc (w : World) (o : Obj) : Below w.heap.size w (w.alloc o) := (Below.refl _ _).alloc (Nat.le_refl _) _
theorem cls_at {w : World} {g : Nat} {x : C4} (h : Wr w g 0 (clsL x)) (i : Nat) (hi : i < 4) : w.cell? ⟨g, i, none⟩ = some (.int .u64 (n64 (x.get i))) ∧ w.frozen? ⟨g, i, none⟩ = false := by
  have := h i _ (clsL_get x i hi)
  rw [Nat.zero_add] at this
  exact this
theorem cls_store {w : World} {g : Nat} {x : C4} (h : Wr w g 0 (clsL x)) (i : Nat) (hi : i < 4) (v : BitVec 64) : Wr (w.setCell ⟨g, i, none⟩ (.int .u64 (n64 v))) g 0 (clsL (x.set i v)) := by
  have := h.set i (by simp [clsL]; omega) (v64 v)
  rw [Nat.zero_add, clsL_set x i hi v] at this
  exact this
set_option maxHeartbeats 2000000 in
theorem range_calls (lo hi : Int) (w : World) (h1 : okI64 lo) (h2 : okI64 hi) :
    Calls Try.prog 14 #[.int .i64 lo, .int .i64 hi] w fun e w' => e = .returned (clsV (rangeF lo hi)) ∧ Below w.heap.size w w' := by
  obtain ⟨l1, l2⟩ := h1
  obtain ⟨m1, m2⟩ := h2
  unfold clsV
  have hstart : Below w.heap.size w ((w.alloc (.cells #[.int .u64 0, .int .u64 0, .int .u64 0, .int .u64 0] 34)).alloc (.cells #[.int .u64 0, .int .u64 0, .int .u64 0, .int .u64 0] 34)) ∧ Wr ((w.alloc (.cells #[.int .u64 0, .int .u64 0, .int .u64 0, .int .u64 0] 34)).alloc (.cells #[.int .u64 0, .int .u64 0, .int .u64 0, .int .u64 0] 34)) w.heap.size 0 (clsL C4.zero) ∧ Wr ((w.alloc (.cells #[.int .u64 0, .int .u64 0, .int .u64 0, .int .u64 0] 34)).alloc (.cells #[.int .u64 0, .int .u64 0, .int .u64 0, .int .u64 0] 34)) (w.heap.size + 1) 0 (clsL C4.zero) :=
    ⟨(((Below.refl _ _).alloc (Nat.le_refl _) _).alloc (by simp) _), ((box_cls rfl C4.zero _).gr (gr_alloc _ _)), (box_cls (by simp) C4.zero _)⟩
  obtain ⟨B, hB⟩ : ∃ B, B = w.heap.size := ⟨_, rfl⟩
  rw [← hB] at hstart
  go_enter Try.func14, Try.ntmps14
  go_upto_region 2 with (fail)
  rw [← hB]
  have hBle : w.heap.size ≤ B := by omega
  have hBge : B ≤ w.heap.size := by omega
  clear hB
  go_cut [6] (fun s6 w' => w' = ((w.alloc (.cells #[.int .u64 0, .int .u64 0, .int .u64 0, .int .u64 0] 34)).alloc (.cells #[.int .u64 0, .int .u64 0, .int .u64 0, .int .u64 0] 34)) ∧ s6 = .int .i64 (max lo 0))
  case first =>
    go_wp2
    all_goals
      go_meet
      case rel => exact ⟨rfl, by congr 1 <;> omega⟩
  case rest =>
    obtain ⟨rfl, rfl⟩ := hcut
    obtain ⟨b0, hb0⟩ : ∃ b0 : Nat, (b0 : Int) = max lo 0 := ⟨(max lo 0).toNat, by omega⟩
    have hF : rangeF lo hi = C4.bitsFrom C4.zero b0 (min hi 255 + 1 - b0).toNat := by unfold rangeF; rw [← hb0]; rfl
    have HF := Lib.hid hF
    rw [← hb0]
    clear hF hb0
    obtain ⟨hs1, hs2, hs3⟩ := hstart
    obtain ⟨N, hN⟩ : ∃ N, N = (min hi 255 + 1 - b0).toNat := ⟨_, rfl⟩
    have HN := Lib.hid hN
    have hN1 : 0 < N → (b0 : Int) + N = min hi 255 + 1 := fun h => by omega
    have hN0 : N = 0 → min hi 255 < (b0 : Int) := fun h => by omega
    have hN2 : N = 0 ∨ b0 + N ≤ 256 := by omega
    clear hN
    rcases (show 255 < hi ∨ hi ≤ 255 by omega) with hh | hh
    all_goals
      go_wp2_with fail
      go_loopg [6] N (fun g c wr => ∃ i : Nat, i + g = N ∧ c = .int .i64 ((b0 + i : Nat) : Int) ∧ Below B w wr ∧ Wr wr B 0 (clsL C4.zero) ∧ Wr wr (B + 1) 0 (clsL (C4.bitsFrom C4.zero b0 i)))
      case atStart => exact ⟨0, by omega, rfl, hs1, hs2, hs3⟩
      case round =>
        obtain ⟨i, hi', rfl, hb, hr, hx⟩ := hrel
        clear hs1 hs2 hs3
        by_cases hlt : i < N
        · have hbb : ((b0 + i : Nat) : Int) ≤ hi := by have := hN1 (by omega); omega
          have hb255 : b0 + i ≤ 255 := by omega
          have hstep := bit_step C4.zero b0 i
          generalize hbn : b0 + i = b at hbb hb255 hstep ⊢
          have h4 : b / 64 < 4 := by omega
          have cx : ∀ w', Up wr.drew w' → w'.cell? ⟨B + 1, b / 64, none⟩ = some (.int .u64 (n64 ((C4.bitsFrom C4.zero b0 i).get (b / 64)))) := fun w' hw => (cls_at ((hx.gr (Gr.drew _)).gr hw) (b / 64) h4).1
          have hand := i64_and63 b (by omega)
          have hsh := one_shl (b % 64) (Nat.mod_lt _ (by decide))
          have HS0 := Lib.hid hstep
          have HI := Lib.hid hi'
          clear hN1 hN0 hN2 hstep hi'
          go_wp2_with fail
          refine mix 9 (List.replicate 9 true) rfl (by kernel_rfl) (by kernel_rfl) (by intro c a d v w h; cases d <;> exact h) (Up wr.drew) (closed_up _) (Gr.refl _) ?_
          simp only [List.take_succ_cons, List.take_zero, List.drop_succ_cons, List.drop_zero, List.replicate]
          repeat (first
            | (refine wpM_val (by rfl) (fun w hSw => by go_simp; (try (simp only [↓IntWalk.iteOmega]; try go_simp)); (try go_bits); first | done | with_reducible rfl) ?_; simp only [Act.put, List.setIfInBounds_toArray, List.set_cons_zero, List.set_cons_succ])
            | (refine wpM_skip (by rfl) ?_; simp only [Act.put, List.setIfInBounds_toArray, List.set_cons_zero, List.set_cons_succ]))
          refine wpM_end fun w5 hw5 => ?_
          have hx5 := (hx.gr (Gr.drew _)).gr hw5
          have hr5 := (hr.gr (Gr.drew _)).gr hw5
          have hb5 : Below B w w5 := below_gr hb.drew (by have := hb.size; simp; omega) hw5
          obtain ⟨c1, c2⟩ := cls_at hx5 (b / 64) h4
          have hs := cls_store hx5 (b / 64) h4 ((C4.bitsFrom C4.zero b0 i).get (b / 64) ||| BitVec.ofNat 64 (2 ^ (b % 64)))
          have hf1 := hr5.far (a := ⟨B + 1, b / 64, none⟩) (by simp) (.int .u64 (n64 ((C4.bitsFrom C4.zero b0 i).get (b / 64) ||| BitVec.ofNat 64 (2 ^ (b % 64)))))
          have hbs := hb5.setCell (p := ⟨B + 1, b / 64, none⟩) (by simp) (.int .u64 (n64 ((C4.bitsFrom C4.zero b0 i).get (b / 64) ||| BitVec.ofNat 64 (2 ^ (b % 64)))))
          rw [HS0.out] at hs
          have HS := Lib.hid (And.intro hs (And.intro hf1 hbs))
          clear hs hf1 hbs hx5 hr5 hb5 cx hx hr hb hw5 hand hsh
          go_wp2_with fail
          have hi' := HI.out
          go_roundg (gk - 1)
          case measure => omega
          case rel => exact ⟨i + 1, by omega, by go_num, HS.out.2.2, HS.out.2.1, HS.out.1⟩
        · obtain rfl : i = N := by omega
          have hbig : min hi 255 < ((b0 + i : Nat) : Int) := by
            by_cases h0 : i = 0
            · have := hN0 h0; omega
            · have := hN1 (by omega); omega
          have hE : C4.bitsFrom C4.zero b0 i = rangeF lo hi := by rw [HF.out, ← HN.out]
          rw [hE] at hx
          obtain ⟨c0, c1, c2, c3⟩ := cls_cells hx
          obtain ⟨⟨r0, f0⟩, ⟨r1, f1⟩, ⟨r2, f2⟩, ⟨r3, f3⟩⟩ : _ ∧ _ ∧ _ ∧ _ := ⟨cls_at hr 0 (by decide), cls_at hr 1 (by decide), cls_at hr 2 (by decide), cls_at hr 3 (by decide)⟩
          clear hN1 hN0 hN2 hE
          generalize b0 + i = b at *
          have hbig' : ¬ (b : Int) ≤ min hi 255 := by omega
          go_wp2_with fail
          refine bodyPost_ret (v := .agg #[.int .u64 (n64 (rangeF lo hi).a), .int .u64 (n64 (rangeF lo hi).b), .int .u64 (n64 (rangeF lo hi).c), .int .u64 (n64 (rangeF lo hi).d)]) (by simp [results, Try.results14, go_sem, r0, r1, r2, r3]) rfl ⟨rfl, ?_⟩
          exact ((((hb.setCell (by simp) _).setCell (by simp) _).setCell (by simp) _).setCell (by simp) _).mono hBle
end Go.Proofs.Ytiadamoibbabpaa

/- ClsRg -/
namespace Go.Proofs.Ytiadamoibbabpaa.classSets
open Go.RowKit kit mix classL eng
theorem rangeE (lo hi : Int) (h1 : okI64 lo) (h2 : okI64 hi) (w : World) : Calls Try.prog 14 #[.int .i64 lo, .int .i64 hi] w (Meets (ret (clsV (rangeF lo hi))) w) := (range_calls lo hi w h1 h2).mono fun e w' ⟨he, hb⟩ => meets_ret he hb
end Go.Proofs.Ytiadamoibbabpaa.classSets

/- RexPl -/
namespace Go.Proofs.Ytiadamoibbabpaa.eng
open Go.RowKit kit mix classL rexL classSets
theorem build_rexL (c : C4) (w : World) : (Instr.build 36 #[(0, .int .i64 3), (1, clsV c)]).run Try.prog w = .ok (rexV 3 c (.slice none 0 0)) w := by kernel_rfl
theorem build_rexN (k : Int) (g n : Nat) (w : World) : (Instr.build 36 #[(0, .int .i64 k), (2, .slice (some ⟨g, 0, none⟩) n n)]).run Try.prog w = .ok (rexV k C4.zero (.slice (some ⟨g, 0, none⟩) n n)) w := by kernel_rfl
theorem letter_calls (b : Int) (w : World) (hb : kit.okI64 b) : Calls Try.prog 6 #[.int .i64 b] w (Meets (ret (rexV 3 (rangeF b b) (.slice none 0 0))) w) := by
  have hr := fun w => rangeE b b hb hb w
  have hbl := build_rexL (rangeF b b)
  generalize rangeF b b = c at *
  refine enter (args := [.int .i64 b]) (n := 7) Try.func6 rfl rfl rfl ?_
  refine T_seq (T_region (TL_new rfl fun g2 => ?_))
  conv => arg 8; simp only [zA, zB, zC, zD, zE, zF, zG, zH, zI, rowS, ret, id_eq]
  repeat (first
    | refine qv rfl (qp rfl) rfl rfl ?_ | refine TL_nil ?_ | refine T_seq ?_ | refine T_region ?_ | refine T_ret ?_ | refine E_then ?_ | refine E_thenR ?_)
  refine TL_call (he2 EntersC.en rfl rfl rfl) (fun w hm => hr _) rfl rfl rfl ?_
  intro _ _
  conv => arg 8; simp only [zA, zB, zC, zD, zE, zF, zG, zH, zI, rowS, ret, id_eq]
  repeat (first
    | refine qv rfl (qp rfl) rfl rfl ?_ | refine TL_nil ?_ | refine T_seq ?_ | refine T_region ?_ | refine T_ret ?_ | refine E_then ?_ | refine E_thenR ?_
    | refine qv rfl (rr_build rfl hbl) rfl rfl ?_)
  refine TL_storeB (i := 0) (cs' := (rexC 3 c (.slice none 0 0)).toArray) rfl rfl rfl rfl rfl rfl ?_
  conv => arg 8; simp only [zA, zB, zC, zD, zE, zF, zG, zH, zI, rowS, ret, id_eq]
  repeat (first
    | refine qv rfl (qp rfl) rfl rfl ?_ | refine TL_nil ?_ | refine T_seq ?_ | refine T_region ?_ | refine T_ret ?_ | refine E_then ?_ | refine E_thenR ?_)
  exact E_retc1 (i := 0) rfl rfl rfl rfl fun w hm => hm.ret
/-- kids that were put into a list -/
def kidO (g : Nat) (l : List (List Value)) : Own := blkO g l.flatten.toArray 36
def starS (cs : List Value) : Spec Nat := ⟨fun _ => True, fun g => rexV 6 C4.zero (.slice (some ⟨g, 0, none⟩) 1 1), fun g => [kidO g [cs]]⟩
theorem star_calls (k : Int) (c : C4) (b : Option Addr) (l cap : Nat) (w : World) : Calls Try.prog 5 #[rexV k c (.slice b l cap)] w (Meets (starS (rexC k c (.slice b l cap))) w) := by
  refine enter (args := [rexV k c (.slice b l cap)]) (n := 6) Try.func5 rfl rfl rfl ?_
  refine T_seq (T_region (TL_box rfl rfl rfl fun g1 => TL_new rfl fun g2 => ?_))
  conv => arg 8; simp only [zA, zB, zC, zD, zE, zF, zG, zH, zI, rowS, ret, id_eq]
  repeat (first
    | refine TL_nil ?_ | refine T_seq ?_ | refine T_region ?_ | refine T_ret ?_ | refine E_then ?_ | refine E_thenR ?_
    | refine qv rfl (rr_loadB (i := 0) TyC.ty rfl rfl rfl) rfl rfl ?_)
  refine TL_one (cs := [rexC k c (.slice b l cap)].flatten.toArray) rfl rfl rfl rfl rfl fun g4 => ?_
  conv => arg 8; simp only [zA, zB, zC, zD, zE, zF, zG, zH, zI, rowS, ret, id_eq]
  repeat (first
    | refine TL_nil ?_ | refine T_seq ?_ | refine T_region ?_ | refine T_ret ?_ | refine E_then ?_ | refine E_thenR ?_
    | refine qv rfl (rr_build rfl (build_rexN 6 g4 1)) rfl rfl ?_)
  refine TL_storeB (i := 1) (cs' := (rexC 6 C4.zero (.slice (some ⟨g4, 0, none⟩) 1 1)).toArray) rfl rfl rfl rfl rfl rfl ?_
  conv => arg 8; simp only [zA, zB, zC, zD, zE, zF, zG, zH, zI, rowS, ret, id_eq]
  repeat (first
    | refine TL_nil ?_ | refine T_seq ?_ | refine T_region ?_ | refine T_ret ?_ | refine E_then ?_ | refine E_thenR ?_)
  refine E_retc1 (i := 1) rfl rfl rfl rfl fun w hm => ?_
  exact hm.meets (S := starS (rexC k c (.slice b l cap))) g4 trivial [2] (by decide) rfl
/-- what was put together can be read -/
theorem kids_rex {w : World} {g : Nat} {k : Int} {l : List (Int × C4 × Value × Rx)} (hk : kit.okI64 k) (h : (kidO g (l.map fun x => rexC x.1 x.2.1 x.2.2.1)).holds w) (hl : l.length ≤ 2) (hr : ∀ x ∈ l, RexIs (Low w) w (rexC x.1 x.2.1 x.2.2.1) x.2.2.2) :
    RexR (Low w) w (rexV k C4.zero (.slice (some ⟨g, 0, none⟩) l.length l.length)) (.mk k C4.zero (l.map fun x => x.2.2.2)) := by
  have hb : w.heap[g]? = some (.cells (l.map fun x => rexC x.1 x.2.1 x.2.2.1).flatten.toArray 36 (0, 0)) := h
  refine ⟨_, rfl, hk, some ⟨g, 0, none⟩, l.length, by show Value.slice _ l.length _ = _; rw [show (Rx.mk k C4.zero (l.map fun x => x.2.2.2)).kids.length = l.length from List.length_map ..], by rw [show (Rx.mk k C4.zero (l.map fun x => x.2.2.2)).kids.length = l.length from List.length_map ..]; exact Nat.le_refl _, by unfold maxLen; omega, fun _ => ⟨g, 0, rfl, (Array.getElem?_eq_some_iff.1 hb).1, fun i hi => ?_⟩⟩
  have hi' : i < l.length := by have : i < (l.map fun x => x.2.2.2).length := hi; simpa using this
  refine ⟨rexC l[i].1 l[i].2.1 l[i].2.2.1, ?_, fun j u hj => ?_⟩
  · have e : (Rx.mk k C4.zero (l.map fun x => x.2.2.2)).kids[i] = l[i].2.2.2 := by exact List.getElem_map (h := by simpa using hi') ..
    rw [e]
    exact hr l[i] (List.getElem_mem hi')
  · rw [cell_of_row w g _ _ _ _ hb, List.getElem?_toArray, Nat.zero_add]
    have hj6 : j < 6 := by have := (List.getElem?_eq_some_iff.1 hj).1; simpa [rexC, clsL] using this
    have := flatten_get (c := 6) (l.map fun x => rexC x.1 x.2.1 x.2.2.1) (fun x hx => by obtain ⟨y, _, rfl⟩ := List.mem_map.1 hx; rfl) i j (by simpa using hi') hj6
    show (l.map fun x => rexC x.1 x.2.1 x.2.2.1).flatten[i * 6 + j]? = some u
    rw [this, List.getElem_map]; exact hj
theorem rex_cs {F : Nat → Prop} {w : World} {vk : Value} {r : Rx} (h : RexR F w (rexV r.kind r.cls vk) r) : RexIs F w (rexC r.kind r.cls vk) r := by
  obtain ⟨k, c, kids⟩ := r
  obtain ⟨vk', e, h1, h2⟩ := h
  dsimp only [Rx.kind, Rx.cls, Rx.kids] at e h1 h2 ⊢
  have : vk = vk' := by simpa [rexV, rexC, clsL] using e
  subst this
  exact rex_iff.2 ⟨_, rfl, h1, h2⟩
theorem star_rex {w : World} {g : Nat} {r : Rx} {vk : Value} (h : (kidO g [rexC r.kind r.cls vk]).holds w) (hr : RexR (Low w) w (rexV r.kind r.cls vk) r) :
    RexR (Low w) w (rexV 6 C4.zero (.slice (some ⟨g, 0, none⟩) 1 1)) (.mk 6 C4.zero [r]) :=
  kids_rex (l := [(r.kind, r.cls, vk, r)]) ⟨by decide, by decide⟩ h (by show 1 ≤ 2; omega) fun x hx => by
    simp only [List.mem_cons, List.not_mem_nil, or_false] at hx
    subst hx
    exact rex_cs hr
theorem star_rexK {w : World} {g : Nat} {k : Int} {c : C4} {kids : List Rx} {vk : Value} (h : (kidO g [rexC k c vk]).holds w) (hr : RexR (Low w) w (rexV k c vk) (.mk k c kids)) :
    RexR (Low w) w (rexV 6 C4.zero (.slice (some ⟨g, 0, none⟩) 1 1)) (.mk 6 C4.zero [.mk k c kids]) := star_rex (r := .mk k c kids) h hr
theorem leaf_rex {F : Nat → Prop} {w : World} {k : Int} {c : C4} (hk : kit.okI64 k) : RexR F w (rexV k c (.slice none 0 0)) (.mk k c []) := ⟨_, rfl, hk, SlF.nil⟩
end Go.Proofs.Ytiadamoibbabpaa.eng

/- PlR -/
namespace Go.Proofs.Ytiadamoibbabpaa.eng
open Go.RowKit kit mix classL rexL placesL classSets
theorem slr_gr {w w' : World} {v : Value} {l : List Rx} (h : SlF rexS (Low w) w v l) (hg : Gr w w') : SlF rexS (Low w') w' v l :=
  (h.stay fun k hk => hg.block k hk).mono fun k hk => Nat.lt_of_lt_of_le hk hg.size
theorem one_rexs {w : World} {g : Nat} {k : Int} {c : C4} {kids : List Rx} {vk : Value} (h : (blkO g (rexC k c vk).toArray 36).holds w) (hr : RexR (Low w) w (rexV k c vk) (.mk k c kids)) : SlF rexS (Low w) w (.slice (some ⟨g, 0, none⟩) 1 1) [.mk k c kids] := by
  obtain ⟨vk', e, _, hs⟩ := star_rexK (w := w) (g := g) (by show w.heap[g]? = _; rw [List.flatten_cons, List.flatten_nil, List.append_nil]; exact h) hr
  have : vk' = .slice (some ⟨g, 0, none⟩) 1 1 := by simp [rexV, rexC, clsL, Rx.kind, Rx.cls] at e; exact e.symm
  subst this
  exact hs
theorem embs_of : ∀ {rs : List Rx}, checkM rs = 0 → ∃ es : List Re, rs = es.map emb ∧ ∀ e ∈ es, Fit e 1 0
  | [], _ => ⟨[], rfl, fun _ h => by cases h⟩
  | r :: l, h => by
    have hr := check_all h r (List.mem_cons_self ..)
    have hl : checkM l = 0 := by rw [checkM, if_neg (by simpa using hr)] at h; exact h
    obtain ⟨es, rfl, h2⟩ := embs_of hl
    obtain ⟨e, rfl, hf, _⟩ := chk_fit (sizeX r) r 1 0 (chk r 1 0).2 (Nat.le_refl _) (by rw [← hr])
    refine ⟨e :: es, rfl, fun x hx => ?_⟩
    rcases List.mem_cons.1 hx with rfl | hx
    · exact hf
    · exact h2 x hx
theorem fit_size {e : Re} (h : Fit e 1 0) : e.size ≤ 100 := by have := h.sz; omega
theorem checkM_fit : ∀ {es : List Re}, (∀ e ∈ es, Fit e 1 0) → checkM (es.map emb) = 0
  | [], _ => rfl
  | e :: es, h => by
    have h1 : chkR (emb e) = 0 := by show (chk (emb e) 1 0).1 = 0; rw [fit_chk e 1 0 (h e (List.mem_cons_self ..))]
    rw [List.map_cons, checkM, if_neg (by simpa using h1)]
    exact checkM_fit fun x hx => h x (List.mem_cons_of_mem _ hx)
theorem loop_zero : ∀ (es : List Re) (i : Nat) (m : MS), (loopM i m es).1 ≠ 0 → (loopM i m es).2 = .zero
  | [], _, _, h => absurd rfl h
  | e :: r, i, m, h => by
    rw [loopM] at h ⊢
    split at h
    · rename_i c; rw [if_pos c]
    · rename_i c; rw [if_neg c]; exact loop_zero r _ _ h
/-- what Make answers -/
theorem makeR_of (rs : List Rx) : ∃ R, MakeR rs R ∧ (R.1 ≠ 0 → R.2 = .zero) := by
  by_cases c : rs.length = 0 ∨ 20 < rs.length
  · exact ⟨_, .inl ⟨c, rfl⟩, fun _ => rfl⟩
  · by_cases h : checkM rs = 0
    · obtain ⟨es, h1, h2⟩ := embs_of h
      exact ⟨_, .inr (.inr ⟨c, h, es, h1, fun e he => fit_size (h2 e he), rfl⟩), loop_zero _ _ _⟩
    · exact ⟨_, .inr (.inl ⟨c, h, rfl⟩), fun _ => rfl⟩
theorem uni_one (x : Int) : uni [] [x] = [x] :=
  rising_ext (uni_law _ _).1 (List.pairwise_singleton _ _) fun y => by rw [(uni_law _ _).2]; simp
theorem star_loop (c : C4) : loopM 0 .zero [.star (.byte c)] = (0, ⟨⟨[c], [0], [[0]], [true]⟩, [0], [true]⟩) := by
  have e : stepM 0 .zero (.star (.byte c)) = ⟨⟨[c], [0], [[0]], [true]⟩, [0], [true]⟩ := by
    simp [stepM, nodeF, MS.zero, behindF, markF, uni_one]
  rw [loopM, e]
  rfl
theorem letter_nz {b : Nat} (hb : b < 256) : rangeF b b ≠ C4.zero := fun h => by
  have h1 : (rangeF b b).mem b = true := by rw [range_mem _ _ _ hb, decide_eq_true_eq]; omega
  rw [h, zero_mem] at h1; cases h1
theorem make_fit {es : List Re} (h0 : es ≠ []) (h20 : es.length ≤ 20) (h : ∀ e ∈ es, Fit e 1 0) : MakeR (es.map emb) (loopM 0 .zero es) :=
  .inr (.inr ⟨by rw [List.length_map]; have := List.length_pos_iff.2 h0; omega, checkM_fit h, es, rfl, fun e he => fit_size (h e he), rfl⟩)
theorem make_star {c : C4} (hc : c ≠ C4.zero) : MakeR [.mk 6 C4.zero [.mk 3 c []]] (0, ⟨⟨[c], [0], [[0]], [true]⟩, [0], [true]⟩) := by
  rw [← star_loop c]
  exact make_fit (es := [.star (.byte c)]) (by simp) (by simp) fun e he => by rw [List.mem_singleton.1 he]; exact ⟨hc, by simp [Re.size], by simp [Re.hgt]⟩
/-- an own row is a slice -/
theorem row_sl {e : TypeId} {size n : Nat} {v : Value} {xs : List Value} (w : World) (h : (rowO e size v n xs).holds w) : ∃ a c, v = .slice a n c ∧ (0 < n → ∃ g, a = some ⟨g, 0, none⟩) := by
  rcases (show w.ownsRow 0 e size v n xs from h).2 with ⟨rfl, rfl⟩ | ⟨g, cap, cur, rfl, _⟩
  · exact ⟨_, _, rfl, fun h => by omega⟩
  · exact ⟨_, _, rfl, fun _ => ⟨g, rfl⟩⟩
theorem row_slm {e : TypeId} {size n : Nat} {v : Value} {xs : List Value} (w : World) (h : (rowO e size v n xs).holds w) : ∃ a c, v = .slice a n c ∧ n ≤ 9223372036854775807 ∧ (0 < n → ∃ g, a = some ⟨g, 0, none⟩) := by
  rcases (show w.ownsRow 0 e size v n xs from h).2 with ⟨rfl, rfl⟩ | ⟨g, cap, cur, rfl, _, _, hn, hm, _⟩
  · exact ⟨_, _, rfl, by omega, fun h => by omega⟩
  · exact ⟨_, _, rfl, by unfold maxLen at hm; omega, fun _ => ⟨g, rfl⟩⟩
/-- the lists of Follow -/
theorem fol_v {F : Nat → Prop} {vs : List Value} {fol : List (List Int)} (w : World) (h : (folE F vs fol).holds w) {k : Nat} (hk : k < vs.length) (hk' : k < fol.length) : ∃ a c, vs[k] = .slice a fol[k].length c := by
  obtain ⟨a, c, h, _⟩ := fol_sl h hk' hk
  exact ⟨a, c, h⟩
/-- what Make made, as it can be read -/
theorem pos_slf {F : Nat → Prop} {v : Value} {vs : List Value} {fol : List (List Int)} {w : World} (hr : (folR v vs).holds w) (he : (folE F vs fol).holds w) (hl : vs.length = fol.length) : SlF (sliceS intS) (Low w) w v fol := by
  have hr' : w.ownsRow 0 24 1 v vs.length (vs.flatMap one1) := hr
  obtain ⟨base, cap, h1, h2, h3, h4⟩ := Sl.of_own hr'
  rw [hl] at h1 h2
  refine ⟨base, cap, h1, h2, h3, fun h0 => ?_⟩
  obtain ⟨b, off, h5, h6⟩ := h4 (by omega)
  rw [one1_flat] at h6
  refine ⟨b, off, h5, ?_, fun i hi => ⟨[vs[i]'(by omega)], ⟨vs[i]'(by omega), rfl, ?_⟩, fun j u hj => ?_⟩⟩
  · have := h6 0 _ (List.getElem?_eq_getElem (by omega))
    exact World.block_lt_of_cell? w _ this
  · have hs := fol_sl he hi (by omega)
    obtain ⟨⟨q1, q2⟩, q3⟩ := he
    obtain ⟨v', hv', hok, _, hF⟩ := q2 i hi (by rw [List.length_map]; omega)
    rw [List.getElem_map] at hv'
    simp only [one1, List.cons.injEq, and_true] at hv'
    rw [← int_flat] at hs
    refine SlF.of_flat hs hok (fun b hb => q3 b (hF b (by rw [← hv']; exact hb))) fun a n cp hv => q3 a.block (hF _ (by rw [← hv', hv]; rfl))
  · have hj0 : j = 0 := by have := (List.getElem?_eq_some_iff.1 hj).1; simp at this; exact this
    subst hj0
    have := h6 i u (by rw [List.getElem?_eq_getElem (by omega)]; exact hj)
    show w.cell? ⟨b, off + i * 1 + 0, none⟩ = some u
    rw [Nat.mul_one, Nat.add_zero]
    exact this
end Go.Proofs.Ytiadamoibbabpaa.eng

/- PlP -/
namespace Go.Proofs.Ytiadamoibbabpaa.eng
open Go.RowKit kit mix classL rexL placesL
theorem boC_flat (l : List Bool) : l.flatMap boC = l.map Value.bool := bool_flat l
theorem posR_of {w : World} {x : PIx} {m : MS} (hl : x.vs.length = m.ps.follow.length) (h0 : (rowO 34 4 x.vc m.ps.classes.length (m.ps.classes.flatMap clsL)).holds w) (h1 : (intR x.vr m.ps.rules).holds w) (h2 : (intR x.vf m.first).holds w) (h3 : (folR x.vfol x.vs).holds w) (h4 : (folE x.F x.vs m.ps.follow).holds w)
    (h5 : (rowO 4 1 x.vl m.ps.last.length (m.ps.last.map Value.bool)).holds w) (h6 : (rowO 4 1 x.ve m.empty.length (m.empty.map Value.bool)).holds w) : PosR w (.agg (posC x)) m := by
  refine ⟨_, _, _, _, _, _, rfl, Sl.of_own h0, ?_, ?_, pos_slf h3 h4 hl, ?_, ?_⟩
  · rw [int_flat]; exact Sl.of_own h1
  · rw [int_flat]; exact Sl.of_own h2
  · rw [boC_flat]; exact Sl.of_own h5
  · rw [boC_flat]; exact Sl.of_own h6
theorem Mem.posR {w : World} {B : Base} {L : List Own} {x : PIx} {m : MS} (i : Nat) (hm : Mem B L w) (hl : x.vs.length = m.ps.follow.length) (h : posL x m = [i, i + 1, i + 2, i + 3, i + 4, i + 5, i + 6].filterMap fun j => L[j]?) (hlen : i + 6 < L.length) : PosR w (.agg (posC x)) m := by
  have g : ∀ j, j < 7 → ∃ o, L[i + j]? = some o ∧ (posL x m)[j]? = some o := by
    intro j hj
    have e : ∀ k, k < 7 → ∃ o, L[i + k]? = some o := fun k hk => ⟨_, List.getElem?_eq_getElem (by omega)⟩
    rw [h]
    obtain ⟨o0, e0⟩ : ∃ o, L[i]? = some o := e 0 (by omega)
    obtain ⟨o1, e1⟩ := e 1 (by omega)
    obtain ⟨o2, e2⟩ := e 2 (by omega)
    obtain ⟨o3, e3⟩ := e 3 (by omega)
    obtain ⟨o4, e4⟩ := e 4 (by omega)
    obtain ⟨o5, e5⟩ := e 5 (by omega)
    obtain ⟨o6, e6⟩ := e 6 (by omega)
    simp only [List.filterMap_cons, e0, e1, e2, e3, e4, e5, e6, List.filterMap_nil]
    match j, hj with
    | 0, _ => exact ⟨_, e0, rfl⟩
    | 1, _ => exact ⟨_, e1, rfl⟩
    | 2, _ => exact ⟨_, e2, rfl⟩
    | 3, _ => exact ⟨_, e3, rfl⟩
    | 4, _ => exact ⟨_, e4, rfl⟩
    | 5, _ => exact ⟨_, e5, rfl⟩
    | 6, _ => exact ⟨_, e6, rfl⟩
  have k : ∀ j o, j < 7 → (posL x m)[j]? = some o → o.holds w := fun j o hj ho => by
    obtain ⟨o', h1, h2⟩ := g j hj
    rw [h2] at ho
    cases ho
    exact hm.get h1
  exact posR_of hl (k 0 _ (by omega) rfl) (k 1 _ (by omega) rfl) (k 2 _ (by omega) rfl) (k 3 _ (by omega) rfl) (k 4 _ (by omega) rfl) (k 5 _ (by omega) rfl) (k 6 _ (by omega) rfl)
end Go.Proofs.Ytiadamoibbabpaa.eng

/- PlacesOwnW -/
namespace Go.Proofs.Ytiadamoibbabpaa.placesOwn
open Go.RowKit kit mix eng classL rexL placesL
theorem build_clsz (w : World) : (Instr.build 34 (#[] : Array (Nat × Value))).run Try.prog w = .ok (.agg (clsL C4.zero).toArray) w := by
  kernel_rfl
set_option maxRecDepth 100000 in
set_option maxHeartbeats 8000000 in
theorem walk (w : World) (v : Value) (rs : List Rx) (hv : SlF rexS (Low w) w v rs) :
    Calls Try.prog 3 #[v] w (Meets (ret (.bool true)) w) := by
  obtain ⟨R, hR, hz⟩ := makeR_of rs
  have hmk := fun w' (hg : Gr w w') => make_calls v rs R w' (slr_gr hv hg) hR
  obtain ⟨bk, ck, rfl, -⟩ := hv
  have hl := fun w => letter_calls 97 w ⟨by decide, by decide⟩
  have h0 := fun g w' h => make_calls (.slice (some ⟨g, 0, none⟩) 1 1) _ _ w' h (make_star (letter_nz (b := 97) (by decide)))
  have ok3 : kit.okI64 3 := ⟨by decide, by decide⟩
  have hsp := fun m w' v v' h h' => samePosn_calls v v' m w' h h'
  have hcz := build_clsz
  rw [show ((97 : Nat) : Int) = 97 from rfl] at h0
  generalize classL.rangeF 97 97 = c at *
  generalize rs.length = nr at *
  obtain ⟨e, m⟩ := R
  refine enter (args := [.slice bk nr ck]) (n := 93) Try.func3 rfl rfl rfl ?_
  repeat (first
    | refine qv rfl (qp rfl) rfl rfl ?_ | refine TL_nil ?_ | refine T_seq ?_ | refine T_region ?_ | refine qcT rfl ?_ | refine qcF rfl ?_ | refine T_skip ?_
    | refine T_exit ?_ | refine T_ret ?_ | refine T_block ?_ | refine E_then ?_ | refine E_thenX ?_ | refine E_thenR ?_ | refine E_blockN ?_
    | refine E_blockR ?_ | refine E_blockX ?_ | refine E_blockO rfl ?_ | refine qs rfl rfl rfl rfl rfl rfl ?_
    | ((try refine qg rfl rfl rfl ?_); first | refine qv rfl (qp rfl) rfl rfl ?_ | refine qv rfl (qlen Und.eq rfl) rfl rfl ?_ | refine qv rfl (qfld FldC.fld rfl rfl) rfl rfl ?_ | refine qv rfl (rr_lss rfl rfl (qT (by omega))) rfl rfl ?_ | refine qv rfl (rr_lss rfl rfl (qF (by omega))) rfl rfl ?_ | refine qv rfl (rr_eql rfl rfl (qT (by omega))) rfl rfl ?_ | refine qv rfl (rr_eql rfl rfl (qF (by omega))) rfl rfl ?_ | refine qv rfl (rr_neq rfl rfl (qT (by omega))) rfl rfl ?_ | refine qv rfl (rr_neq rfl rfl (qF (by omega))) rfl rfl ?_ | refine qv rfl (rr_add64 rfl rfl (by omega) (by omega) rfl) rfl rfl ?_))
  refine TL_call (he1 EntersC.en rfl rfl) (fun w hm => hl _) rfl rfl rfl ?_
  intro _ _
  conv => arg 8; simp only [zA, zB, zC, zD, zE, zF, zG, zH, zI, rowS, ret, id_eq]
  repeat (first
    | refine qv rfl (qp rfl) rfl rfl ?_ | refine TL_nil ?_ | refine T_seq ?_ | refine T_region ?_ | refine qcT rfl ?_ | refine qcF rfl ?_ | refine T_skip ?_
    | refine T_exit ?_ | refine T_ret ?_ | refine T_block ?_ | refine E_then ?_ | refine E_thenX ?_ | refine E_thenR ?_ | refine E_blockN ?_
    | refine E_blockR ?_ | refine E_blockX ?_ | refine E_blockO rfl ?_ | refine qs rfl rfl rfl rfl rfl rfl ?_
    | ((try refine qg rfl rfl rfl ?_); first | refine qv rfl (qp rfl) rfl rfl ?_ | refine qv rfl (qlen Und.eq rfl) rfl rfl ?_ | refine qv rfl (qfld FldC.fld rfl rfl) rfl rfl ?_ | refine qv rfl (rr_lss rfl rfl (qT (by omega))) rfl rfl ?_ | refine qv rfl (rr_lss rfl rfl (qF (by omega))) rfl rfl ?_ | refine qv rfl (rr_eql rfl rfl (qT (by omega))) rfl rfl ?_ | refine qv rfl (rr_eql rfl rfl (qF (by omega))) rfl rfl ?_ | refine qv rfl (rr_neq rfl rfl (qT (by omega))) rfl rfl ?_ | refine qv rfl (rr_neq rfl rfl (qF (by omega))) rfl rfl ?_ | refine qv rfl (rr_add64 rfl rfl (by omega) (by omega) rfl) rfl rfl ?_))
  refine TL_call (he1 EntersC.en rfl rfl) (fun w hm => star_calls _ _ _ _ _ w) rfl rfl rfl ?_
  intro g _
  conv => arg 8; simp only [zA, zB, zC, zD, zE, zF, zG, zH, zI, rowS, ret, id_eq, starS]
  repeat (first
    | refine qv rfl (qp rfl) rfl rfl ?_ | refine TL_nil ?_ | refine T_seq ?_ | refine T_region ?_ | refine qcT rfl ?_ | refine qcF rfl ?_ | refine T_skip ?_
    | refine T_exit ?_ | refine T_ret ?_ | refine T_block ?_ | refine E_then ?_ | refine E_thenX ?_ | refine E_thenR ?_ | refine E_blockN ?_
    | refine E_blockR ?_ | refine E_blockX ?_ | refine E_blockO rfl ?_ | refine qs rfl rfl rfl rfl rfl rfl ?_
    | ((try refine qg rfl rfl rfl ?_); first | refine qv rfl (qp rfl) rfl rfl ?_ | refine qv rfl (qlen Und.eq rfl) rfl rfl ?_ | refine qv rfl (qfld FldC.fld rfl rfl) rfl rfl ?_ | refine qv rfl (rr_lss rfl rfl (qT (by omega))) rfl rfl ?_ | refine qv rfl (rr_lss rfl rfl (qF (by omega))) rfl rfl ?_ | refine qv rfl (rr_eql rfl rfl (qT (by omega))) rfl rfl ?_ | refine qv rfl (rr_eql rfl rfl (qF (by omega))) rfl rfl ?_ | refine qv rfl (rr_neq rfl rfl (qT (by omega))) rfl rfl ?_ | refine qv rfl (rr_neq rfl rfl (qF (by omega))) rfl rfl ?_ | refine qv rfl (rr_add64 rfl rfl (by omega) (by omega) rfl) rfl rfl ?_))
  refine TL_one (cs := (rexC 6 C4.zero (.slice (some ⟨g, 0, none⟩) 1 1)).toArray) rfl rfl rfl rfl rfl fun g16 => ?_
  conv => arg 8; simp only [zA, zB, zC, zD, zE, zF, zG, zH, zI, rowS, ret, id_eq]
  refine TL_call (he1 EntersC.en rfl rfl) (fun w hm => h0 g16 w (one_rexs (hm.get (i := 1) rfl) (star_rexK (hm.get (i := 0) rfl) (leaf_rex ok3)))) rfl rfl rfl ?_
  rintro ⟨vc, vr, vf, vfol, vl, ve, vs, F⟩ hx
  have hx : vs.length = 1 := hx
  obtain ⟨u, rfl⟩ : ∃ u, vs = [u] := by match vs, hx with | [u], _ => exact ⟨u, rfl⟩
  conv => arg 8; simp only [zA, zB, zC, zD, zE, zF, zG, zH, zI, rowS, ret, id_eq, makeSp, posL, posC]
  conv => arg 7; simp only [makeSp, posC]
  refine TL_slv (i := 2) rfl fun _ a1 => TL_slv (i := 3) rfl fun _ a2 => TL_slv (i := 4) rfl fun _ a3 => TL_slv (i := 5) rfl fun _ a4 => TL_slv (i := 7) rfl fun _ a5 => TL_slv (i := 8) rfl fun _ a6 => ?_
  refine TL_know (i := 5) rfl row_sl fun hrow => ?_
  obtain ⟨af, cf, rfl, haf⟩ := hrow
  obtain ⟨gf, rfl⟩ := haf (by simp)
  refine TL_know (i := 6) rfl (fun w h => fol_v w h (k := 0) (by simp) (by simp)) fun hrow => ?_
  obtain ⟨au, cu, hu⟩ := hrow
  have hu : u = .slice au 1 cu := hu
  subst hu
  repeat (first
    | refine qv rfl (qp rfl) rfl rfl ?_ | refine TL_nil ?_ | refine T_seq ?_ | refine T_region ?_ | refine qcT rfl ?_ | refine qcF rfl ?_ | refine T_skip ?_
    | refine T_exit ?_ | refine T_ret ?_ | refine T_block ?_ | refine E_then ?_ | refine E_thenX ?_ | refine E_thenR ?_ | refine E_blockN ?_
    | refine E_blockR ?_ | refine E_blockX ?_ | refine E_blockO rfl ?_ | refine qs rfl rfl rfl rfl rfl rfl ?_
    | ((try refine qg rfl rfl rfl ?_); first | refine qv rfl (qp rfl) rfl rfl ?_ | refine qv rfl (qlen Und.eq rfl) rfl rfl ?_ | refine qv rfl (qfld FldC.fld rfl rfl) rfl rfl ?_ | refine qv rfl (rr_lss rfl rfl (qT (by omega))) rfl rfl ?_ | refine qv rfl (rr_lss rfl rfl (qF (by omega))) rfl rfl ?_ | refine qv rfl (rr_eql rfl rfl (qT (by omega))) rfl rfl ?_ | refine qv rfl (rr_eql rfl rfl (qF (by omega))) rfl rfl ?_ | refine qv rfl (rr_neq rfl rfl (qT (by omega))) rfl rfl ?_ | refine qv rfl (rr_neq rfl rfl (qF (by omega))) rfl rfl ?_ | refine qv rfl (rr_add64 rfl rfl (by omega) (by omega) rfl) rfl rfl ?_))
  refine TL_new rfl fun g3 => ?_
  conv => arg 8; simp only [zA, zB, zC, zD, zE, zF, zG, zH, zI, rowS, ret, id_eq]
  refine TL_storeB (i := 9) (cs' := #[vc, vr, vf, .slice (some ⟨gf, 0, none⟩) 1 cf, vl, ve]) rfl rfl rfl rfl (by simp only [List.all_cons, List.all_nil, a1, a2, a3, a5, a6]; rfl) rfl ?_
  conv => arg 8; simp only [zA, zB, zC, zD, zE, zF, zG, zH, zI, rowS, ret, id_eq]
  repeat (first
    | refine qv rfl (qp rfl) rfl rfl ?_ | refine TL_nil ?_ | refine T_seq ?_ | refine T_region ?_ | refine qcT rfl ?_ | refine qcF rfl ?_ | refine T_skip ?_
    | refine T_exit ?_ | refine T_ret ?_ | refine T_block ?_ | refine E_then ?_ | refine E_thenX ?_ | refine E_thenR ?_ | refine E_blockN ?_
    | refine E_blockR ?_ | refine E_blockX ?_ | refine E_blockO rfl ?_ | refine qs rfl rfl rfl rfl rfl rfl ?_
    | ((try refine qg rfl rfl rfl ?_); first | refine qv rfl (qp rfl) rfl rfl ?_ | refine qv rfl (rr_neq (b := false) rfl rfl (decide_eq_false (by simp))) rfl rfl ?_ | refine qv rfl (rr_load1 (v := .slice (some ⟨gf, 0, none⟩) 1 cf) TyC.ty rfl (at_blk (i := 9) rfl rfl)) rfl rfl ?_ | refine qv rfl (rr_idxc (j := 0) Und.eq TyC.ty rfl rfl (by decide)) rfl rfl ?_ | refine qv rfl (rr_load1 (v := .slice au 1 cu) TyC.ty rfl (at_row (i := 5) rfl rfl)) rfl rfl ?_ | refine qv rfl (qlen Und.eq rfl) rfl rfl ?_ | refine qv rfl (qfld FldC.fld rfl rfl) rfl rfl ?_ | refine qv rfl (rr_lss rfl rfl (qT (by omega))) rfl rfl ?_ | refine qv rfl (rr_lss rfl rfl (qF (by omega))) rfl rfl ?_ | refine qv rfl (rr_eql rfl rfl (qT (by omega))) rfl rfl ?_ | refine qv rfl (rr_eql rfl rfl (qF (by omega))) rfl rfl ?_ | refine qv rfl (rr_neq rfl rfl (qT (by omega))) rfl rfl ?_ | refine qv rfl (rr_neq rfl rfl (qF (by omega))) rfl rfl ?_ | refine qv rfl (rr_add64 rfl rfl (by omega) (by omega) rfl) rfl rfl ?_))
  refine TL_pick [] (by decide) rfl ?_
  clear hx a1 a2 a3 a4 a5 a6 haf hu h0 hl
  refine TL_call (he1 EntersC.en rfl rfl) (fun w hm => hmk _ hm.below) rfl rfl rfl ?_
  rintro ⟨vc1, vr1, vf1, vfol1, vl1, ve1, vs1, F1⟩ hx1
  have hx1 : vs1.length = m.ps.follow.length := hx1
  conv => arg 8; simp only [zA, zB, zC, zD, zE, zF, zG, zH, zI, rowS, ret, id_eq, makeSp, posL, posC]
  conv => arg 7; simp only [makeSp, posC]
  refine TL_slv (i := 0) rfl fun _ a1 => TL_slv (i := 1) rfl fun _ a2 => TL_slv (i := 2) rfl fun _ a3 => TL_slv (i := 3) rfl fun _ a4 => TL_slv (i := 5) rfl fun _ a5 => TL_slv (i := 6) rfl fun _ a6 => ?_
  repeat (first
    | refine qv rfl (qp rfl) rfl rfl ?_ | refine TL_nil ?_ | refine T_seq ?_ | refine T_region ?_ | refine qcT rfl ?_ | refine qcF rfl ?_ | refine T_skip ?_
    | refine T_exit ?_ | refine T_ret ?_ | refine T_block ?_ | refine E_then ?_ | refine E_thenX ?_ | refine E_thenR ?_ | refine E_blockN ?_
    | refine E_blockR ?_ | refine E_blockX ?_ | refine E_blockO rfl ?_ | refine qs rfl rfl rfl rfl rfl rfl ?_
    | ((try refine qg rfl rfl rfl ?_); first | refine qv rfl (qp rfl) rfl rfl ?_ | refine qv rfl (qlen Und.eq rfl) rfl rfl ?_ | refine qv rfl (qfld FldC.fld rfl rfl) rfl rfl ?_ | refine qv rfl (rr_lss rfl rfl (qT (by omega))) rfl rfl ?_ | refine qv rfl (rr_lss rfl rfl (qF (by omega))) rfl rfl ?_ | refine qv rfl (rr_eql rfl rfl (qT (by omega))) rfl rfl ?_ | refine qv rfl (rr_eql rfl rfl (qF (by omega))) rfl rfl ?_ | refine qv rfl (rr_neq rfl rfl (qT (by omega))) rfl rfl ?_ | refine qv rfl (rr_neq rfl rfl (qF (by omega))) rfl rfl ?_ | refine qv rfl (rr_add64 rfl rfl (by omega) (by omega) rfl) rfl rfl ?_))
  refine TL_new rfl fun g5 => ?_
  conv => arg 8; simp only [zA, zB, zC, zD, zE, zF, zG, zH, zI, rowS, ret, id_eq]
  refine TL_storeB (i := 7) (cs' := #[vc1, vr1, vf1, vfol1, vl1, ve1]) rfl rfl rfl rfl (by simp only [List.all_cons, List.all_nil, a1, a2, a3, a4, a5, a6]; rfl) rfl ?_
  conv => arg 8; simp only [zA, zB, zC, zD, zE, zF, zG, zH, zI, rowS, ret, id_eq]
  clear a1 a2 a3 a4 a5 a6
  repeat (first
    | refine qv rfl (qp rfl) rfl rfl ?_ | refine TL_nil ?_ | refine T_seq ?_ | refine T_region ?_ | refine qcT rfl ?_ | refine qcF rfl ?_ | refine T_skip ?_
    | refine T_exit ?_ | refine T_ret ?_ | refine T_block ?_ | refine E_then ?_ | refine E_thenX ?_ | refine E_thenR ?_ | refine E_blockN ?_
    | refine E_blockR ?_ | refine E_blockX ?_ | refine E_blockO rfl ?_ | refine qs rfl rfl rfl rfl rfl rfl ?_
    | ((try refine qg rfl rfl rfl ?_); first | refine qv rfl (qp rfl) rfl rfl ?_ | refine qv rfl (qlen Und.eq rfl) rfl rfl ?_ | refine qv rfl (qfld FldC.fld rfl rfl) rfl rfl ?_ | refine qv rfl (rr_lss rfl rfl (qT (by omega))) rfl rfl ?_ | refine qv rfl (rr_lss rfl rfl (qF (by omega))) rfl rfl ?_ | refine qv rfl (rr_eql rfl rfl (qT (by omega))) rfl rfl ?_ | refine qv rfl (rr_eql rfl rfl (qF (by omega))) rfl rfl ?_ | refine qv rfl (rr_neq rfl rfl (qT (by omega))) rfl rfl ?_ | refine qv rfl (rr_neq rfl rfl (qF (by omega))) rfl rfl ?_ | refine qv rfl (rr_add64 rfl rfl (by omega) (by omega) rfl) rfl rfl ?_))
  refine TL_call (he1 EntersC.en rfl rfl) (fun w hm => hmk _ hm.below) rfl rfl rfl ?_
  rintro ⟨vc2, vr2, vf2, vfol2, vl2, ve2, vs2, F2⟩ hx2
  have hx2 : vs2.length = m.ps.follow.length := hx2
  conv => arg 8; simp only [zA, zB, zC, zD, zE, zF, zG, zH, zI, rowS, ret, id_eq, makeSp, posL, posC]
  conv => arg 7; simp only [makeSp, posC]
  refine TL_slv (i := 8) rfl fun _ a1 => TL_slv (i := 9) rfl fun _ a2 => TL_slv (i := 10) rfl fun _ a3 => TL_slv (i := 11) rfl fun _ a4 => TL_slv (i := 13) rfl fun _ a5 => TL_slv (i := 14) rfl fun _ a6 => ?_
  repeat (first
    | refine qv rfl (qp rfl) rfl rfl ?_ | refine TL_nil ?_ | refine T_seq ?_ | refine T_region ?_ | refine qcT rfl ?_ | refine qcF rfl ?_ | refine T_skip ?_
    | refine T_exit ?_ | refine T_ret ?_ | refine T_block ?_ | refine E_then ?_ | refine E_thenX ?_ | refine E_thenR ?_ | refine E_blockN ?_
    | refine E_blockR ?_ | refine E_blockX ?_ | refine E_blockO rfl ?_ | refine qs rfl rfl rfl rfl rfl rfl ?_
    | ((try refine qg rfl rfl rfl ?_); first | refine qv rfl (qp rfl) rfl rfl ?_ | refine qv rfl (qlen Und.eq rfl) rfl rfl ?_ | refine qv rfl (qfld FldC.fld rfl rfl) rfl rfl ?_ | refine qv rfl (rr_lss rfl rfl (qT (by omega))) rfl rfl ?_ | refine qv rfl (rr_lss rfl rfl (qF (by omega))) rfl rfl ?_ | refine qv rfl (rr_eql rfl rfl (qT (by omega))) rfl rfl ?_ | refine qv rfl (rr_eql rfl rfl (qF (by omega))) rfl rfl ?_ | refine qv rfl (rr_neq rfl rfl (qT (by omega))) rfl rfl ?_ | refine qv rfl (rr_neq rfl rfl (qF (by omega))) rfl rfl ?_ | refine qv rfl (rr_add64 rfl rfl (by omega) (by omega) rfl) rfl rfl ?_))
  refine TL_new rfl fun g7 => ?_
  conv => arg 8; simp only [zA, zB, zC, zD, zE, zF, zG, zH, zI, rowS, ret, id_eq]
  refine TL_storeB (i := 15) (cs' := #[vc2, vr2, vf2, vfol2, vl2, ve2]) rfl rfl rfl rfl (by simp only [List.all_cons, List.all_nil, a1, a2, a3, a4, a5, a6]; rfl) rfl ?_
  conv => arg 8; simp only [zA, zB, zC, zD, zE, zF, zG, zH, zI, rowS, ret, id_eq]
  clear a1 a2 a3 a4 a5 a6
  repeat (first
    | refine qv rfl (qp rfl) rfl rfl ?_ | refine TL_nil ?_ | refine T_seq ?_ | refine T_region ?_ | refine qcT rfl ?_ | refine qcF rfl ?_ | refine T_skip ?_
    | refine T_exit ?_ | refine T_ret ?_ | refine T_block ?_ | refine E_then ?_ | refine E_thenX ?_ | refine E_thenR ?_ | refine E_blockN ?_
    | refine E_blockR ?_ | refine E_blockX ?_ | refine E_blockO rfl ?_ | refine qs rfl rfl rfl rfl rfl rfl ?_
    | ((try refine qg rfl rfl rfl ?_); first | refine qv rfl (qp rfl) rfl rfl ?_ | refine qv rfl (qlen Und.eq rfl) rfl rfl ?_ | refine qv rfl (qfld FldC.fld rfl rfl) rfl rfl ?_ | refine qv rfl (rr_lss rfl rfl (qT (by omega))) rfl rfl ?_ | refine qv rfl (rr_lss rfl rfl (qF (by omega))) rfl rfl ?_ | refine qv rfl (rr_eql rfl rfl (qT (by omega))) rfl rfl ?_ | refine qv rfl (rr_eql rfl rfl (qF (by omega))) rfl rfl ?_ | refine qv rfl (rr_neq rfl rfl (qT (by omega))) rfl rfl ?_ | refine qv rfl (rr_neq rfl rfl (qF (by omega))) rfl rfl ?_ | refine qv rfl (rr_add64 rfl rfl (by omega) (by omega) rfl) rfl rfl ?_))
  by_cases he : e = 0
  · subst he
    refine TL_know (i := 3) rfl row_slm fun hrow => ?_
    obtain ⟨af, cf, rfl, hmx, haf⟩ := hrow
    refine TL_reown (i := 4) (strO F1 vs1) rfl (fun w h => fol_str h) (fun k hk => hk.elim (fun h => by cases h) .inr) ?_
    conv => arg 8; simp only [zA, zB, zC, zD, zE, zF, zG, zH, zI, rowS, ret, id_eq]
    repeat (first
      | refine qv rfl (qp rfl) rfl rfl ?_ | refine TL_nil ?_ | refine T_seq ?_ | refine T_region ?_ | refine qcT rfl ?_ | refine qcF rfl ?_ | refine T_skip ?_
      | refine T_exit ?_ | refine T_ret ?_ | refine T_block ?_ | refine E_then ?_ | refine E_thenX ?_ | refine E_thenR ?_ | refine E_blockN ?_
      | refine E_blockR ?_ | refine E_blockX ?_ | refine E_blockO rfl ?_ | refine qs rfl rfl rfl rfl rfl rfl ?_
      | ((try refine qg rfl rfl rfl ?_); first | refine qv rfl (qp rfl) rfl rfl ?_ | refine qv rfl (rr_neq (b := false) rfl rfl (decide_eq_false (by simp))) rfl rfl ?_ | refine qv rfl (rr_load1 (v := vf1) TyC.ty rfl (at_blk (i := 7) rfl rfl)) rfl rfl ?_ | refine qv rfl (qlen Und.eq rfl) rfl rfl ?_ | refine qv rfl (qfld FldC.fld rfl rfl) rfl rfl ?_ | refine qv rfl (rr_lss rfl rfl (qT (by omega))) rfl rfl ?_ | refine qv rfl (rr_lss rfl rfl (qF (by omega))) rfl rfl ?_ | refine qv rfl (rr_eql rfl rfl (qT (by omega))) rfl rfl ?_ | refine qv rfl (rr_eql rfl rfl (qF (by omega))) rfl rfl ?_ | refine qv rfl (rr_neq rfl rfl (qT (by omega))) rfl rfl ?_ | refine qv rfl (rr_neq rfl rfl (qF (by omega))) rfl rfl ?_ | refine qv rfl (rr_add64 rfl rfl (by omega) (by omega) rfl) rfl rfl ?_))
    refine TL_callB [2] [0, 3, 4, 5, 7, 8, 9, 10, 11, 12, 13, 14, 15] (by decide) rfl rfl (he2 EntersC.en rfl rfl rfl) (fun w hm hb => spoilRowIn_calls vf1 _ _ 199 w _ hb) rfl rfl rfl ?_
    intro _ _
    conv => arg 8; simp only [zA, zB, zC, zD, zE, zF, zG, zH, zI, rowS, ret, id_eq, spoilt]
    repeat (first
      | refine qv rfl (qp rfl) rfl rfl ?_ | refine TL_nil ?_ | refine T_seq ?_ | refine T_region ?_ | refine qcT rfl ?_ | refine qcF rfl ?_ | refine T_skip ?_
      | refine T_exit ?_ | refine T_ret ?_ | refine T_block ?_ | refine E_then ?_ | refine E_thenX ?_ | refine E_thenR ?_ | refine E_blockN ?_
      | refine E_blockR ?_ | refine E_blockX ?_ | refine E_blockO rfl ?_ | refine qs rfl rfl rfl rfl rfl rfl ?_
      | ((try refine qg rfl rfl rfl ?_); first | refine qv rfl (qp rfl) rfl rfl ?_ | refine qv rfl (rr_load1 (v := .slice af vs1.length cf) TyC.ty rfl (at_blk (i := 4) rfl rfl)) rfl rfl ?_ | refine qv rfl (qlen Und.eq rfl) rfl rfl ?_ | refine qv rfl (qfld FldC.fld rfl rfl) rfl rfl ?_ | refine qv rfl (rr_lss rfl rfl (qT (by omega))) rfl rfl ?_ | refine qv rfl (rr_lss rfl rfl (qF (by omega))) rfl rfl ?_ | refine qv rfl (rr_eql rfl rfl (qT (by omega))) rfl rfl ?_ | refine qv rfl (rr_eql rfl rfl (qF (by omega))) rfl rfl ?_ | refine qv rfl (rr_neq rfl rfl (qT (by omega))) rfl rfl ?_ | refine qv rfl (rr_neq rfl rfl (qF (by omega))) rfl rfl ?_ | refine qv rfl (rr_add64 rfl rfl (by omega) (by omega) rfl) rfl rfl ?_))
    conv => arg 7; simp only [zA, zB, zC, zD, zE, zF, zG, zH, zI, rowS, ret, id_eq]
    refine T_loop (ι := Nat) (fun j => j ≤ vs1.length) (fun j => [(0, .slice bk nr ck), (5, .pointer (some ⟨g5, 0, none⟩)), (7, .pointer (some ⟨g7, 0, none⟩)), (8, .int .i64 0), (61, .slice af vs1.length cf), (62, .int .i64 vs1.length), (63, .int .i64 (j : Int))])
      (fun j => [rowO 34 4 vc1 m.ps.classes.length (m.ps.classes.flatMap clsL), folR (.slice af vs1.length cf) vs1, strO F1 vs1, rowO 4 1 vl1 m.ps.last.length (m.ps.last.map Value.bool), blkO g5 #[vc1, vr1, vf1, .slice af vs1.length cf, vl1, ve1] 28, rowO 34 4 vc2 m.ps.classes.length (m.ps.classes.flatMap clsL), intR vr2 m.ps.rules, intR vf2 m.first, folR vfol2 vs2, folE F2 vs2 m.ps.follow, rowO 4 1 vl2 m.ps.last.length (m.ps.last.map Value.bool), rowO 4 1 ve2 m.empty.length (m.empty.map Value.bool), blkO g7 #[vc2, vr2, vf2, vfol2, vl2, ve2] 28])
      (fun j => vs1.length - j) 0 (Nat.zero_le _) (by repeat' (first | exact True.intro | refine And.intro rfl ?_)) rfl ?_
    intro j j1
    by_cases c1 : j < vs1.length
    · obtain ⟨gf1, rfl⟩ := haf (by omega)
      have hrow : ∀ (L : List Own) (hi : L[1]? = some (folR (.slice (some ⟨gf1, 0, none⟩) vs1.length cf) vs1)), At (w : Base) L ⟨gf1, 0 + j * 1 + 0, none⟩ vs1[j] := fun L hi => at_rowel one1_len hi c1 0 _ rfl
      have hmem := List.getElem_mem c1
      generalize vs1[j] = u1 at *
      repeat (first
        | refine qv rfl (qp rfl) rfl rfl ?_ | refine TL_nil ?_ | refine T_seq ?_ | refine T_region ?_ | refine qcT rfl ?_ | refine qcF rfl ?_ | refine T_skip ?_
        | refine T_exit ?_ | refine T_ret ?_ | refine T_block ?_ | refine E_then ?_ | refine E_thenX ?_ | refine E_thenR ?_ | refine E_blockN ?_
        | refine E_blockR ?_ | refine E_blockX ?_ | refine E_blockO rfl ?_ | refine qs rfl rfl rfl rfl rfl rfl ?_
        | ((try refine qg rfl rfl rfl ?_); first | refine qv rfl (qp rfl) rfl rfl ?_ | refine qv rfl (rr_idxc Und.eq TyC.ty rfl rfl c1) rfl rfl ?_ | refine qv rfl (rr_load1 (v := u1) TyC.ty rfl (hrow _ rfl)) rfl rfl ?_ | refine qv rfl (qlen Und.eq rfl) rfl rfl ?_ | refine qv rfl (qfld FldC.fld rfl rfl) rfl rfl ?_ | refine qv rfl (rr_lss rfl rfl (qT (by omega))) rfl rfl ?_ | refine qv rfl (rr_lss rfl rfl (qF (by omega))) rfl rfl ?_ | refine qv rfl (rr_eql rfl rfl (qT (by omega))) rfl rfl ?_ | refine qv rfl (rr_eql rfl rfl (qF (by omega))) rfl rfl ?_ | refine qv rfl (rr_neq rfl rfl (qT (by omega))) rfl rfl ?_ | refine qv rfl (rr_neq rfl rfl (qF (by omega))) rfl rfl ?_ | refine qv rfl (rr_add64 rfl rfl (by omega) (by omega) rfl) rfl rfl ?_))
      refine TL_openStr (i := 2) rfl hmem (fun hu => ?_) fun gu mu cu2 csu hu q1 q2 q3 => ?_
      · subst hu
        refine TL_call (he2 EntersC.en rfl rfl rfl) (fun w hm => spoilNilSpIn_calls 199 w) rfl rfl rfl ?_
        intro _ _
        conv => arg 8; simp only [zA, zB, zC, zD, zE, zF, zG, zH, zI, rowS, ret, id_eq]
        repeat (first
          | refine qv rfl (qp rfl) rfl rfl ?_ | refine TL_nil ?_ | refine T_seq ?_ | refine T_region ?_ | refine qcT rfl ?_ | refine qcF rfl ?_ | refine T_skip ?_
          | refine T_exit ?_ | refine T_ret ?_ | refine T_block ?_ | refine E_then ?_ | refine E_thenX ?_ | refine E_thenR ?_ | refine E_blockN ?_
          | refine E_blockR ?_ | refine E_blockX ?_ | refine E_blockO rfl ?_ | refine qs rfl rfl rfl rfl rfl rfl ?_
          | ((try refine qg rfl rfl rfl ?_); first | refine qv rfl (qp rfl) rfl rfl ?_ | refine qv rfl (qlen Und.eq rfl) rfl rfl ?_ | refine qv rfl (qfld FldC.fld rfl rfl) rfl rfl ?_ | refine qv rfl (rr_lss rfl rfl (qT (by omega))) rfl rfl ?_ | refine qv rfl (rr_lss rfl rfl (qF (by omega))) rfl rfl ?_ | refine qv rfl (rr_eql rfl rfl (qT (by omega))) rfl rfl ?_ | refine qv rfl (rr_eql rfl rfl (qF (by omega))) rfl rfl ?_ | refine qv rfl (rr_neq rfl rfl (qT (by omega))) rfl rfl ?_ | refine qv rfl (rr_neq rfl rfl (qF (by omega))) rfl rfl ?_ | refine qv rfl (rr_add64 rfl rfl (by omega) (by omega) rfl) rfl rfl ?_))
        exact E_round (j + 1) (by omega) (by show vs1.length - (j + 1) < vs1.length - j; omega) (by repeat' (first | exact True.intro | refine And.intro rfl ?_)) rfl
      · subst hu
        conv => arg 8; simp only [zA, zB, zC, zD, zE, zF, zG, zH, zI, rowS, ret, id_eq]
        refine TL_callB [13] [0, 1, 2, 3, 4, 5, 6, 7, 8, 9, 10, 11, 12] (by decide) rfl rfl (he2 EntersC.en rfl rfl rfl) (fun w hm hb => spoilSpIn_calls gu mu cu2 csu 199 w _ q1 q2 q3 rfl hb) rfl rfl rfl ?_
        intro _ _
        conv => arg 8; simp only [zA, zB, zC, zD, zE, zF, zG, zH, zI, rowS, ret, id_eq]
        repeat (first
          | refine qv rfl (qp rfl) rfl rfl ?_ | refine TL_nil ?_ | refine T_seq ?_ | refine T_region ?_ | refine qcT rfl ?_ | refine qcF rfl ?_ | refine T_skip ?_
          | refine T_exit ?_ | refine T_ret ?_ | refine T_block ?_ | refine E_then ?_ | refine E_thenX ?_ | refine E_thenR ?_ | refine E_blockN ?_
          | refine E_blockR ?_ | refine E_blockX ?_ | refine E_blockO rfl ?_ | refine qs rfl rfl rfl rfl rfl rfl ?_
          | ((try refine qg rfl rfl rfl ?_); first | refine qv rfl (qp rfl) rfl rfl ?_ | refine qv rfl (qlen Und.eq rfl) rfl rfl ?_ | refine qv rfl (qfld FldC.fld rfl rfl) rfl rfl ?_ | refine qv rfl (rr_lss rfl rfl (qT (by omega))) rfl rfl ?_ | refine qv rfl (rr_lss rfl rfl (qF (by omega))) rfl rfl ?_ | refine qv rfl (rr_eql rfl rfl (qT (by omega))) rfl rfl ?_ | refine qv rfl (rr_eql rfl rfl (qF (by omega))) rfl rfl ?_ | refine qv rfl (rr_neq rfl rfl (qT (by omega))) rfl rfl ?_ | refine qv rfl (rr_neq rfl rfl (qF (by omega))) rfl rfl ?_ | refine qv rfl (rr_add64 rfl rfl (by omega) (by omega) rfl) rfl rfl ?_))
        refine E_merge (strO F1 vs1) 2 13 [0, 1, 3, 4, 5, 6, 7, 8, 9, 10, 11, 12] (by decide) rfl rfl rfl str_foot (fun w h1 h2 => str_close h1 h2 (by simp [kit.intC])) ?_
        refine E_pick [0, 1, 12, 2, 3, 4, 5, 6, 7, 8, 9, 10, 11] (by decide) rfl ?_
        exact E_round (j + 1) (by omega) (by show vs1.length - (j + 1) < vs1.length - j; omega) (by repeat' (first | exact True.intro | refine And.intro rfl ?_)) rfl
    · obtain rfl : j = vs1.length := by omega
      repeat (first
        | refine qv rfl (qp rfl) rfl rfl ?_ | refine TL_nil ?_ | refine T_seq ?_ | refine T_region ?_ | refine qcT rfl ?_ | refine qcF rfl ?_ | refine T_skip ?_
        | refine T_exit ?_ | refine T_ret ?_ | refine T_block ?_ | refine E_then ?_ | refine E_thenX ?_ | refine E_thenR ?_ | refine E_blockN ?_
        | refine E_blockR ?_ | refine E_blockX ?_ | refine E_blockO rfl ?_ | refine qs rfl rfl rfl rfl rfl rfl ?_
        | ((try refine qg rfl rfl rfl ?_); first | refine qv rfl (qp rfl) rfl rfl ?_ | refine qv rfl (rr_load1 (v := vc1) TyC.ty rfl (at_blk (i := 4) rfl rfl)) rfl rfl ?_ | refine qv rfl (rr_build rfl hcz) rfl rfl ?_ | refine qv rfl (qlen Und.eq rfl) rfl rfl ?_ | refine qv rfl (qfld FldC.fld rfl rfl) rfl rfl ?_ | refine qv rfl (rr_lss rfl rfl (qT (by omega))) rfl rfl ?_ | refine qv rfl (rr_lss rfl rfl (qF (by omega))) rfl rfl ?_ | refine qv rfl (rr_eql rfl rfl (qT (by omega))) rfl rfl ?_ | refine qv rfl (rr_eql rfl rfl (qF (by omega))) rfl rfl ?_ | refine qv rfl (rr_neq rfl rfl (qT (by omega))) rfl rfl ?_ | refine qv rfl (rr_neq rfl rfl (qF (by omega))) rfl rfl ?_ | refine qv rfl (rr_add64 rfl rfl (by omega) (by omega) rfl) rfl rfl ?_))
      refine TL_callB [0] [3, 4, 5, 6, 7, 8, 9, 10, 11, 12] (by decide) rfl rfl (he2 EntersC.en rfl rfl rfl) (fun w hm hb => spoilRowCl_calls vc1 _ _ C4.zero w _ hb) rfl rfl rfl ?_
      intro _ _
      conv => arg 8; simp only [zA, zB, zC, zD, zE, zF, zG, zH, zI, rowS, ret, id_eq, spoilt]
      repeat (first
        | refine qv rfl (qp rfl) rfl rfl ?_ | refine TL_nil ?_ | refine T_seq ?_ | refine T_region ?_ | refine qcT rfl ?_ | refine qcF rfl ?_ | refine T_skip ?_
        | refine T_exit ?_ | refine T_ret ?_ | refine T_block ?_ | refine E_then ?_ | refine E_thenX ?_ | refine E_thenR ?_ | refine E_blockN ?_
        | refine E_blockR ?_ | refine E_blockX ?_ | refine E_blockO rfl ?_ | refine qs rfl rfl rfl rfl rfl rfl ?_
        | ((try refine qg rfl rfl rfl ?_); first | refine qv rfl (qp rfl) rfl rfl ?_ | refine qv rfl (rr_load1 (v := vl1) TyC.ty rfl (at_blk (i := 1) rfl rfl)) rfl rfl ?_ | refine qv rfl (qlen Und.eq rfl) rfl rfl ?_ | refine qv rfl (qfld FldC.fld rfl rfl) rfl rfl ?_ | refine qv rfl (rr_lss rfl rfl (qT (by omega))) rfl rfl ?_ | refine qv rfl (rr_lss rfl rfl (qF (by omega))) rfl rfl ?_ | refine qv rfl (rr_eql rfl rfl (qT (by omega))) rfl rfl ?_ | refine qv rfl (rr_eql rfl rfl (qF (by omega))) rfl rfl ?_ | refine qv rfl (rr_neq rfl rfl (qT (by omega))) rfl rfl ?_ | refine qv rfl (rr_neq rfl rfl (qF (by omega))) rfl rfl ?_ | refine qv rfl (rr_add64 rfl rfl (by omega) (by omega) rfl) rfl rfl ?_))
      refine TL_callB [0] [2, 3, 4, 5, 6, 7, 8, 9] (by decide) rfl rfl (he2 EntersC.en rfl rfl rfl) (fun w hm hb => spoilRowBo_calls vl1 _ _ true w _ hb) rfl rfl rfl ?_
      intro _ _
      conv => arg 8; simp only [zA, zB, zC, zD, zE, zF, zG, zH, zI, rowS, ret, id_eq, spoilt]
      repeat (first
        | refine qv rfl (qp rfl) rfl rfl ?_ | refine TL_nil ?_ | refine T_seq ?_ | refine T_region ?_ | refine qcT rfl ?_ | refine qcF rfl ?_ | refine T_skip ?_
        | refine T_exit ?_ | refine T_ret ?_ | refine T_block ?_ | refine E_then ?_ | refine E_thenX ?_ | refine E_thenR ?_ | refine E_blockN ?_
        | refine E_blockR ?_ | refine E_blockX ?_ | refine E_blockO rfl ?_ | refine qs rfl rfl rfl rfl rfl rfl ?_
        | ((try refine qg rfl rfl rfl ?_); first | refine qv rfl (qp rfl) rfl rfl ?_ | refine qv rfl (qlen Und.eq rfl) rfl rfl ?_ | refine qv rfl (qfld FldC.fld rfl rfl) rfl rfl ?_ | refine qv rfl (rr_lss rfl rfl (qT (by omega))) rfl rfl ?_ | refine qv rfl (rr_lss rfl rfl (qF (by omega))) rfl rfl ?_ | refine qv rfl (rr_eql rfl rfl (qT (by omega))) rfl rfl ?_ | refine qv rfl (rr_eql rfl rfl (qF (by omega))) rfl rfl ?_ | refine qv rfl (rr_neq rfl rfl (qT (by omega))) rfl rfl ?_ | refine qv rfl (rr_neq rfl rfl (qF (by omega))) rfl rfl ?_ | refine qv rfl (rr_add64 rfl rfl (by omega) (by omega) rfl) rfl rfl ?_))
      refine TL_call (he1 EntersC.en rfl rfl) (fun w hm => hmk _ hm.below) rfl rfl rfl ?_
      rintro ⟨vc3, vr3, vf3, vfol3, vl3, ve3, vs3, F3⟩ hx3
      have hx3 : vs3.length = m.ps.follow.length := hx3
      conv => arg 8; simp only [zA, zB, zC, zD, zE, zF, zG, zH, zI, rowS, ret, id_eq, makeSp, posL, posC]
      conv => arg 7; simp only [makeSp, posC]
      refine TL_slv (i := 8) rfl fun _ a1 => TL_slv (i := 9) rfl fun _ a2 => TL_slv (i := 10) rfl fun _ a3 => TL_slv (i := 11) rfl fun _ a4 => TL_slv (i := 13) rfl fun _ a5 => TL_slv (i := 14) rfl fun _ a6 => ?_
      repeat (first
        | refine qv rfl (qp rfl) rfl rfl ?_ | refine TL_nil ?_ | refine T_seq ?_ | refine T_region ?_ | refine qcT rfl ?_ | refine qcF rfl ?_ | refine T_skip ?_
        | refine T_exit ?_ | refine T_ret ?_ | refine T_block ?_ | refine E_then ?_ | refine E_thenX ?_ | refine E_thenR ?_ | refine E_blockN ?_
        | refine E_blockR ?_ | refine E_blockX ?_ | refine E_blockO rfl ?_ | refine qs rfl rfl rfl rfl rfl rfl ?_
        | ((try refine qg rfl rfl rfl ?_); first | refine qv rfl (qp rfl) rfl rfl ?_ | refine qv rfl (qlen Und.eq rfl) rfl rfl ?_ | refine qv rfl (qfld FldC.fld rfl rfl) rfl rfl ?_ | refine qv rfl (rr_lss rfl rfl (qT (by omega))) rfl rfl ?_ | refine qv rfl (rr_lss rfl rfl (qF (by omega))) rfl rfl ?_ | refine qv rfl (rr_eql rfl rfl (qT (by omega))) rfl rfl ?_ | refine qv rfl (rr_eql rfl rfl (qF (by omega))) rfl rfl ?_ | refine qv rfl (rr_neq rfl rfl (qT (by omega))) rfl rfl ?_ | refine qv rfl (rr_neq rfl rfl (qF (by omega))) rfl rfl ?_ | refine qv rfl (rr_add64 rfl rfl (by omega) (by omega) rfl) rfl rfl ?_))
      refine TL_new rfl fun g11 => ?_
      conv => arg 8; simp only [zA, zB, zC, zD, zE, zF, zG, zH, zI, rowS, ret, id_eq]
      refine TL_storeB (i := 15) (cs' := #[vc3, vr3, vf3, vfol3, vl3, ve3]) rfl rfl rfl rfl (by simp only [List.all_cons, List.all_nil, a1, a2, a3, a4, a5, a6]; rfl) rfl ?_
      conv => arg 8; simp only [zA, zB, zC, zD, zE, zF, zG, zH, zI, rowS, ret, id_eq]
      clear a1 a2 a3 a4 a5 a6
      repeat (first
        | refine qv rfl (qp rfl) rfl rfl ?_ | refine TL_nil ?_ | refine T_seq ?_ | refine T_region ?_ | refine qcT rfl ?_ | refine qcF rfl ?_ | refine T_skip ?_
        | refine T_exit ?_ | refine T_ret ?_ | refine T_block ?_ | refine E_then ?_ | refine E_thenX ?_ | refine E_thenR ?_ | refine E_blockN ?_
        | refine E_blockR ?_ | refine E_blockX ?_ | refine E_blockO rfl ?_ | refine qs rfl rfl rfl rfl rfl rfl ?_
        | ((try refine qg rfl rfl rfl ?_); first | refine qv rfl (qp rfl) rfl rfl ?_ | refine qv rfl (rr_eql (b := true) rfl rfl (decide_eq_true rfl)) rfl rfl ?_ | refine qv rfl (rr_loadB (i := 7) TyC.ty rfl rfl rfl) rfl rfl ?_ | refine qv rfl (rr_loadB (i := 15) TyC.ty rfl rfl rfl) rfl rfl ?_ | refine qv rfl (qlen Und.eq rfl) rfl rfl ?_ | refine qv rfl (qfld FldC.fld rfl rfl) rfl rfl ?_ | refine qv rfl (rr_lss rfl rfl (qT (by omega))) rfl rfl ?_ | refine qv rfl (rr_lss rfl rfl (qF (by omega))) rfl rfl ?_ | refine qv rfl (rr_eql rfl rfl (qT (by omega))) rfl rfl ?_ | refine qv rfl (rr_eql rfl rfl (qF (by omega))) rfl rfl ?_ | refine qv rfl (rr_neq rfl rfl (qT (by omega))) rfl rfl ?_ | refine qv rfl (rr_neq rfl rfl (qF (by omega))) rfl rfl ?_ | refine qv rfl (rr_add64 rfl rfl (by omega) (by omega) rfl) rfl rfl ?_))
      refine TL_gcall (he2 EntersC.en rfl rfl rfl) (fun w hm => hsp m w _ _ (hm.posR (x := ⟨vc2, vr2, vf2, vfol2, vl2, ve2, vs2, F2⟩) 0 hx2 rfl (by simp)) (hm.posR (x := ⟨vc3, vr3, vf3, vfol3, vl3, ve3, vs3, F3⟩) 8 hx3 rfl (by simp))) rfl rfl rfl rfl rfl ?_
      intro _ _
      conv => arg 8; simp only [zA, zB, zC, zD, zE, zF, zG, zH, zI, rowS, ret, id_eq]
      repeat (first
        | refine qv rfl (qp rfl) rfl rfl ?_ | refine TL_nil ?_ | refine T_seq ?_ | refine T_region ?_ | refine qcT rfl ?_ | refine qcF rfl ?_ | refine T_skip ?_
        | refine T_exit ?_ | refine T_ret ?_ | refine T_block ?_ | refine E_then ?_ | refine E_thenX ?_ | refine E_thenR ?_ | refine E_blockN ?_
        | refine E_blockR ?_ | refine E_blockX ?_ | refine E_blockO rfl ?_ | refine qs rfl rfl rfl rfl rfl rfl ?_
        | ((try refine qg rfl rfl rfl ?_); first | refine qv rfl (qp rfl) rfl rfl ?_ | refine qv rfl (qlen Und.eq rfl) rfl rfl ?_ | refine qv rfl (qfld FldC.fld rfl rfl) rfl rfl ?_ | refine qv rfl (rr_lss rfl rfl (qT (by omega))) rfl rfl ?_ | refine qv rfl (rr_lss rfl rfl (qF (by omega))) rfl rfl ?_ | refine qv rfl (rr_eql rfl rfl (qT (by omega))) rfl rfl ?_ | refine qv rfl (rr_eql rfl rfl (qF (by omega))) rfl rfl ?_ | refine qv rfl (rr_neq rfl rfl (qT (by omega))) rfl rfl ?_ | refine qv rfl (rr_neq rfl rfl (qF (by omega))) rfl rfl ?_ | refine qv rfl (rr_add64 rfl rfl (by omega) (by omega) rfl) rfl rfl ?_))
      exact E_ret1e rfl rfl rfl
  · obtain rfl : m = .zero := hz he
    refine TL_know (i := 6) rfl row_sl fun hrow => ?_
    obtain ⟨ae, ce, rfl, -⟩ := hrow
    repeat (first
      | refine qv rfl (qp rfl) rfl rfl ?_ | refine TL_nil ?_ | refine T_seq ?_ | refine T_region ?_ | refine qcT rfl ?_ | refine qcF rfl ?_ | refine T_skip ?_
      | refine T_exit ?_ | refine T_ret ?_ | refine T_block ?_ | refine E_then ?_ | refine E_thenX ?_ | refine E_thenR ?_ | refine E_blockN ?_
      | refine E_blockR ?_ | refine E_blockX ?_ | refine E_blockO rfl ?_ | refine qs rfl rfl rfl rfl rfl rfl ?_
      | ((try refine qg rfl rfl rfl ?_); first | refine qv rfl (qp rfl) rfl rfl ?_ | refine qv rfl (rr_neq (b := true) rfl rfl (decide_eq_true he)) rfl rfl ?_ | refine qv rfl (rr_eql (b := true) rfl rfl (decide_eq_true rfl)) rfl rfl ?_ | refine qv rfl (rr_load1 (v := .slice ae 0 ce) TyC.ty rfl (at_blk (i := 7) rfl rfl)) rfl rfl ?_ | refine qv rfl (qlen Und.eq rfl) rfl rfl ?_ | refine qv rfl (qfld FldC.fld rfl rfl) rfl rfl ?_ | refine qv rfl (rr_lss rfl rfl (qT (by omega))) rfl rfl ?_ | refine qv rfl (rr_lss rfl rfl (qF (by omega))) rfl rfl ?_ | refine qv rfl (rr_eql rfl rfl (qT (by omega))) rfl rfl ?_ | refine qv rfl (rr_eql rfl rfl (qF (by omega))) rfl rfl ?_ | refine qv rfl (rr_neq rfl rfl (qT (by omega))) rfl rfl ?_ | refine qv rfl (rr_neq rfl rfl (qF (by omega))) rfl rfl ?_ | refine qv rfl (rr_add64 rfl rfl (by omega) (by omega) rfl) rfl rfl ?_))
    exact E_ret1e rfl rfl rfl
end Go.Proofs.Ytiadamoibbabpaa.placesOwn

