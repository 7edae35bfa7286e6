/- Part 4 of what LexerOwn needs: PlE, PlP, PlacesS, PlK, ClsHas, PlT, DfS, DfaP, DfN, LookOk, DfT, SmO, SmT, SmK, SmD, SmY, SmA, DfX, SmPL, SmPk, SmUp, SmCk, PkO, LexL, LexA, LexB, SmBk. -/
import Derived.Test.YtkmemlnkijinlaaMgC
import Derived.WalkKit
import Derived.WalkSpells
import Derived.WalkLawsBesides
import Derived.Deep.RegionLaw
import Derived.Deep.AppendLies
import Derived.Deep.QuietTactic
import Derived.BigQuiet
import Derived.Deep.DeepCutAuto
import Derived.Lib.Hide
import Derived.Test.YtkmemlnkijinlaaRows
import Derived.ProofKit
import Derived.OpenShut
import Derived.ShutString
import Derived.SizedLaws
import Derived.JoinedCond
import Derived.Deep.CondSized
import Derived.Deep.Quiet
import Derived.StillTail
import Derived.Deep.LoopGhost
import Derived.Laws.BitsLemmas
import Derived.Laws.BytesString
import Derived.Test.YtkmemlnkijinlaaProg
import Derived.Laws.StructEq
import Derived.Laws.MakeOwn
import Derived.Laws.AppendOwn
import Derived.Maps.OwnSet
import Derived.DeepKeys4
import Derived.WideKeyEntry
import Derived.Laws.Entries
import Derived.Shelf.Sort.Plain
import Derived.Ground.Names2Prog
import Derived.Shelf.Slices.CompactI
import Derived.Shelf.Slices.In.SortNone
import Derived.Lib.RowBridge
import Derived.Laws.BitsAllLaws
import Derived.Lib.TrailingZeros
import Derived.Lib.SlicesCompact
import Derived.ChangeKeysEq
import Derived.Laws.Bits64b
/- PlE -/
namespace Go.Proofs.Ytkmemlnkijinlaa.eng
open Go.RowKit kit mix classL placesL
theorem folS_sl {F : Nat → Prop} {w : World} {cs : List Value} {l : List Int} (h : (sliceS intS).is F w cs l) : ∃ v, cs = [v] ∧ Sl w v l.length (l.flatMap kit.intC) := by
  obtain ⟨v, h1, h2⟩ := h
  exact ⟨v, h1, h2.flat (by decide)⟩
theorem slii_gr {w w' : World} {v : Value} {l : List (List Int)} (h : SlF (sliceS intS) (Low w) w v l) (hg : Gr w w') : SlF (sliceS intS) (Low w') w' v l :=
  (h.stay fun k hk => hg.block k hk).mono fun k hk => Nat.lt_of_lt_of_le hk hg.size
set_option maxHeartbeats 2000000 in
theorem equalFol_calls (v v' : Value) (l : List (List Int)) (w : World) (hs : SlF (sliceS intS) (Low w) w v l) (hs' : SlF (sliceS intS) (Low w) w v' l) :
    Calls Try.prog 30 #[v, v', .func (.func 31) #[] #[]] w (Meets (ret (.bool true)) w) := by
  have heq := fun (u u' : Value) (k : List Int) w' h h' => equalSmIn_calls u u' k k w' h h'
  simp only [decide_true] at heq
  obtain ⟨base, cap, rfl, hcap, hmax, hrd⟩ := hs
  obtain ⟨base', cap', rfl, hcap', hmax', hrd'⟩ := hs'
  unfold maxLen at hmax hmax'
  refine enter (args := [.slice base l.length cap, .slice base' l.length cap', .func (.func 31) #[] #[]]) (n := 32) Try.func30 rfl rfl rfl ?_
  repeat (first
    | refine QV QP ?_ | refine QZ ?_ | refine qcT rfl ?_ | refine qcF rfl ?_ | refine E_blockX ?_ | refine E_blockO rfl ?_
    | refine QV (rr_neq (b := false) rfl rfl (decide_eq_false (by omega))) ?_ | refine QV QL ?_ | refine QV (rr_not rfl rfl) ?_ | refine QV QlT ?_
    | refine QV QlF ?_ | refine QV QnT ?_ | refine QV QnF ?_ | refine QV QaA ?_)
  refine T_loop (ι := Nat) (fun k => k ≤ l.length) (fun k => [(1, .slice base' l.length cap'), (2, .func (.func 31) #[] #[]), (15, .slice base l.length cap), (16, .int .i64 l.length), (17, .int .i64 (k : Int))]) (fun _ => []) (fun k => l.length - k) 0 (Nat.zero_le _) (by repeat' (first | exact True.intro | refine And.intro rfl ?_)) rfl ?_
  intro k h1
  by_cases c2 : k < l.length
  · obtain ⟨b, off, rfl, _, hr⟩ := hrd (by omega)
    obtain ⟨b', off', rfl, _, hr'⟩ := hrd' (by omega)
    obtain ⟨cs, hc, hd⟩ := hr k c2
    obtain ⟨cs', hc', hd'⟩ := hr' k c2
    obtain ⟨u, rfl, hu⟩ := folS_sl hc
    obtain ⟨u', rfl, hu'⟩ := folS_sl hc'
    have hat := fun (L : List Own) => at_rd (L := L) hd (j := 0) (v := u) rfl
    have hat' := fun (L : List Own) => at_rd (L := L) hd' (j := 0) (v := u') rfl
    generalize l[k] = x at *
    repeat (first
      | refine QV QP ?_ | refine QZ ?_ | refine qcT rfl ?_ | refine qcF rfl ?_ | refine E_blockX ?_ | refine E_blockO rfl ?_
      | refine QV (rr_idxc Und.eq TyC.ty rfl rfl c2) ?_ | refine QV (rr_load1 TyC.ty rfl (hat _)) ?_ | refine QV (rr_load1 TyC.ty rfl (hat' _)) ?_
      | refine QV QL ?_ | refine QV (rr_not rfl rfl) ?_ | refine QV QlT ?_ | refine QV QlF ?_ | refine QV QnT ?_ | refine QV QnF ?_ | refine QV QaA ?_)
    refine TL_call (he2 EntersC.en rfl rfl rfl) (fun w hm => heq u u' x w (hu.gr hm.below) (hu'.gr hm.below)) rfl rfl rfl ?_
    intro _ _
    repeat (first
      | refine QV QP ?_ | refine QZ ?_ | refine qcT rfl ?_ | refine qcF rfl ?_ | refine E_blockX ?_ | refine E_blockO rfl ?_ | refine QV QL ?_
      | refine QV (rr_not rfl rfl) ?_ | refine QV QlT ?_ | refine QV QlF ?_ | refine QV QnT ?_ | refine QV QnF ?_ | refine QV QaA ?_)
    exact E_round (k + 1) (by omega) (by show l.length - (k + 1) < l.length - k; omega) (by repeat' (first | exact True.intro | refine And.intro rfl ?_)) rfl
  · repeat (first
      | refine QV QP ?_ | refine QZ ?_ | refine qcT rfl ?_ | refine qcF rfl ?_ | refine E_blockX ?_ | refine E_blockO rfl ?_ | refine QV QL ?_
      | refine QV (rr_not rfl rfl) ?_ | refine QV QlT ?_ | refine QV QlF ?_ | refine QV QnT ?_ | refine QV QnF ?_ | refine QV QaA ?_)
    exact E_ret1 rfl rfl fun w hm => hm.ret
/-- a Posn that can be read -/
def PosR (w : World) (v : Value) (m : MS) : Prop :=
  ∃ vc vr vf vfol vl ve, v = .agg #[vc, vr, vf, vfol, vl, ve] ∧ Sl w vc m.ps.classes.length (m.ps.classes.flatMap clsL) ∧ Sl w vr m.ps.rules.length (m.ps.rules.flatMap kit.intC) ∧ Sl w vf m.first.length (m.first.flatMap kit.intC) ∧
    SlF (sliceS intS) (Low w) w vfol m.ps.follow ∧ Sl w vl m.ps.last.length (m.ps.last.flatMap boC) ∧ Sl w ve m.empty.length (m.empty.flatMap boC)
theorem PosR.gr {w w' : World} {v : Value} {m : MS} (h : PosR w v m) (hg : Gr w w') : PosR w' v m := by
  obtain ⟨vc, vr, vf, vfol, vl, ve, h0, h1, h2, h3, h4, h5, h6⟩ := h
  exact ⟨vc, vr, vf, vfol, vl, ve, h0, h1.gr hg, h2.gr hg, h3.gr hg, slii_gr h4 hg, h5.gr hg, h6.gr hg⟩
end Go.Proofs.Ytkmemlnkijinlaa.eng

/- PlP -/
namespace Go.Proofs.Ytkmemlnkijinlaa.eng
open Go.RowKit kit mix classL rexL placesL
theorem boC_flat (l : List Bool) : l.flatMap boC = l.map Value.bool := bool_flat l
theorem posR_of {w : World} {x : PIx} {m : MS} (hl : x.vs.length = m.ps.follow.length) (h0 : (rowO 60 4 x.vc m.ps.classes.length (m.ps.classes.flatMap clsL)).holds w) (h1 : (intR x.vr m.ps.rules).holds w) (h2 : (intR x.vf m.first).holds w) (h3 : (folR x.vfol x.vs).holds w) (h4 : (folE x.F x.vs m.ps.follow).holds w)
    (h5 : (rowO 4 1 x.vl m.ps.last.length (m.ps.last.map Value.bool)).holds w) (h6 : (rowO 4 1 x.ve m.empty.length (m.empty.map Value.bool)).holds w) : PosR w (.agg (posC x)) m := by
  refine ⟨_, _, _, _, _, _, rfl, Sl.of_own h0, ?_, ?_, pos_slf h3 h4 hl, ?_, ?_⟩
  · rw [int_flat]; exact Sl.of_own h1
  · rw [int_flat]; exact Sl.of_own h2
  · rw [boC_flat]; exact Sl.of_own h5
  · rw [boC_flat]; exact Sl.of_own h6
theorem Mem.posR {w : World} {B : Base} {L : List Own} {x : PIx} {m : MS} (i : Nat) (hm : Mem B L w) (hl : x.vs.length = m.ps.follow.length) (h : posL x m = [i, i + 1, i + 2, i + 3, i + 4, i + 5, i + 6].filterMap fun j => L[j]?) (hlen : i + 6 < L.length) : PosR w (.agg (posC x)) m := by
  have g : ∀ j, j < 7 → ∃ o, L[i + j]? = some o ∧ (posL x m)[j]? = some o := by
    intro j hj
    have e : ∀ k, k < 7 → ∃ o, L[i + k]? = some o := fun k hk => ⟨_, List.getElem?_eq_getElem (by omega)⟩
    rw [h]
    obtain ⟨o0, e0⟩ : ∃ o, L[i]? = some o := e 0 (by omega)
    obtain ⟨o1, e1⟩ := e 1 (by omega)
    obtain ⟨o2, e2⟩ := e 2 (by omega)
    obtain ⟨o3, e3⟩ := e 3 (by omega)
    obtain ⟨o4, e4⟩ := e 4 (by omega)
    obtain ⟨o5, e5⟩ := e 5 (by omega)
    obtain ⟨o6, e6⟩ := e 6 (by omega)
    simp only [List.filterMap_cons, e0, e1, e2, e3, e4, e5, e6, List.filterMap_nil]
    match j, hj with
    | 0, _ => exact ⟨_, e0, rfl⟩
    | 1, _ => exact ⟨_, e1, rfl⟩
    | 2, _ => exact ⟨_, e2, rfl⟩
    | 3, _ => exact ⟨_, e3, rfl⟩
    | 4, _ => exact ⟨_, e4, rfl⟩
    | 5, _ => exact ⟨_, e5, rfl⟩
    | 6, _ => exact ⟨_, e6, rfl⟩
  have k : ∀ j o, j < 7 → (posL x m)[j]? = some o → o.holds w := fun j o hj ho => by
    obtain ⟨o', h1, h2⟩ := g j hj
    rw [h2] at ho
    cases ho
    exact hm.get h1
  exact posR_of hl (k 0 _ (by omega) rfl) (k 1 _ (by omega) rfl) (k 2 _ (by omega) rfl) (k 3 _ (by omega) rfl) (k 4 _ (by omega) rfl) (k 5 _ (by omega) rfl) (k 6 _ (by omega) rfl)
end Go.Proofs.Ytkmemlnkijinlaa.eng

/- PlacesS -/
namespace Go.Proofs.Ytkmemlnkijinlaa.placesL
open classL rexL
/-- what a Posn is when Make made it -/
structure MOkP (m : MS) : Prop where
  ok : MSOk m
  rules : ∀ r ∈ m.ps.rules, 0 ≤ r ∧ r < m.empty.length
  few : m.ps.classes.length ≤ 200
  some : 0 < m.empty.length
  most : m.empty.length ≤ 20
/-! ### Make's own -/
theorem node_rules (rule : Int) : ∀ (e : Re) (p : PS), (∀ r ∈ p.rules, 0 ≤ r ∧ r ≤ rule) → 0 ≤ rule → ∀ r ∈ (nodeF rule e p).2.rules, 0 ≤ r ∧ r ≤ rule
  | .empty, p, h, _ => h
  | .none, p, h, _ => h
  | .byte c, p, h, h0 => fun r hr => by
    have hr : r ∈ p.rules ++ [rule] := hr
    rcases List.mem_append.1 hr with hr | hr
    · exact h r hr
    · rw [List.mem_singleton.1 hr]; omega
  | .star a, p, h, h0 => node_rules rule a p h h0
  | .alt a b, p, h, h0 => node_rules rule b _ (node_rules rule a p h h0) h0
  | .cat a b, p, h, h0 => node_rules rule b _ (node_rules rule a p h h0) h0
theorem loop_ok : ∀ (es : List Re) (i : Nat) (m m' : MS), MSOk m → m.empty.length = i → (∀ r ∈ m.ps.rules, 0 ≤ r ∧ r < i) → m.ps.classes.length ≤ 200 → loopM i m es = (0, m') → MSOk m' ∧ m'.empty.length = i + es.length ∧ (∀ r ∈ m'.ps.rules, 0 ≤ r ∧ r < (i + es.length : Nat)) ∧ m'.ps.classes.length ≤ 200
  | [], i, m, m', h1, h2, h3, h4, h => by
    cases h
    exact ⟨h1, h2, fun r hr => by have := h3 r hr; simpa using this, h4⟩
  | e :: r, i, m, m', h1, h2, h3, h4, h => by
    rw [loopM] at h
    split at h
    · cases h
    · rename_i c
      have := loop_ok r (i + 1) (stepM i m e) m' (step_ok i h1 e).1 (by show (m.empty ++ [_]).length = _; simp [h2]) (fun x hx => by
        have := node_rules i e m.ps (fun r hr => by have := h3 r hr; omega) (by omega) x hx; omega) (by omega) h
      rw [List.length_cons]
      rw [show i + (r.length + 1) = i + 1 + r.length by omega]
      exact this
theorem make_ok {es : List Re} {m : MS} (h0 : 0 < es.length) (h20 : es.length ≤ 20) (h : loopM 0 .zero es = (0, m)) : MOkP m := by
  obtain ⟨h1, h2, h3, h4⟩ := loop_ok es 0 .zero m zero_ok rfl (fun r hr => by cases hr) (Nat.zero_le _) h
  rw [Nat.zero_add] at h2 h3
  exact ⟨h1, fun r hr => by have := h3 r hr; omega, h4, by omega, by omega⟩
end Go.Proofs.Ytkmemlnkijinlaa.placesL

/- PlK -/
namespace Go.Proofs.Ytkmemlnkijinlaa.eng
open Go.RowKit kit mix classL rexL placesL
set_option maxHeartbeats 2000000 in
theorem rises_calls (v : Value) (l : List Int) (n : Nat) (w : World) (hv : Sl w v l.length (l.flatMap kit.intC)) (h : Ris n l) :
    Calls Try.prog 48 #[v, .int .i64 (n : Int)] w (Meets (ret (.bool true)) w) := by
  obtain ⟨base, cap, rfl, hcap, hmax, hrd⟩ := hv
  unfold maxLen at hmax
  refine enter (args := [.slice base l.length cap, .int .i64 (n : Int)]) (n := 35) Try.func48 rfl rfl rfl ?_
  repeat (first
    | refine QV QP ?_ | refine QZ ?_ | refine qcT rfl ?_ | refine qcF rfl ?_ | refine E_blockX ?_ | refine E_blockO rfl ?_
    | refine qs rfl rfl rfl rfl rfl rfl ?_
    | ((try refine qg rfl rfl rfl ?_); first | refine QV QP ?_ | refine QV QL ?_ | refine QV QlT ?_ | refine QV QlF ?_ | refine QV QaA ?_ | refine QV QmT ?_ | refine QV QmF ?_ | refine QV QgT ?_ | refine QV QgF ?_ | refine QV QhT ?_ | refine QV QhF ?_ | refine QV QaS ?_))
  refine T_loop (ι := Nat) (fun k => k ≤ l.length) (fun k => [(0, .slice base l.length cap), (1, .int .i64 (n : Int)), (7, .slice base l.length cap), (8, .int .i64 l.length), (9, .int .i64 (k : Int))]) (fun _ => []) (fun k => l.length - k) 0 (Nat.zero_le _) (by repeat' (first | exact True.intro | refine And.intro rfl ?_)) rfl ?_
  intro k h1
  by_cases c2 : k < l.length
  · obtain ⟨b, off, rfl, hr⟩ := hrd (by omega)
    have hat := at_el (L := ([] : List Own)) SmIn_len hr c2 0 _ rfl
    have hx := h.2 _ (List.getElem_mem c2)
    by_cases c3 : 0 < k
    · have hp := List.pairwise_iff_getElem.1 h.1 (k - 1) k (by omega) c2 (by omega)
      have hat2 := at_el (L := ([] : List Own)) SmIn_len hr (k := k - 1) (by omega) 0 _ rfl
      generalize l[k] = x at *
      generalize l[k - 1]'(by omega) = y at *
      repeat (first
        | refine QV QP ?_ | refine QZ ?_ | refine qcT rfl ?_ | refine qcF rfl ?_ | refine E_blockX ?_ | refine E_blockO rfl ?_
        | refine qs rfl rfl rfl rfl rfl rfl ?_
        | ((try refine qg rfl rfl rfl ?_); first | refine QV QP ?_ | refine QV (rr_idxc Und.eq TyC.ty rfl rfl c2) ?_ | refine QV (rr_load1 (v := .int .i64 x) TyC.ty rfl hat) ?_ | refine QV (rr_lss (b := false) rfl rfl (decide_eq_false (by omega))) ?_ | refine QV (rr_idxc (j := k - 1) Und.eq TyC.ty rfl rfl (by omega)) ?_ | refine QV (rr_load1 (v := .int .i64 y) TyC.ty rfl hat2) ?_ | refine QV QL ?_ | refine QV QlT ?_ | refine QV QlF ?_ | refine QV QaA ?_ | refine QV (rr_geq (b := false) rfl rfl (decide_eq_false (by omega))) ?_ | refine QV (rr_gtr (b := true) rfl rfl (decide_eq_true (by omega))) ?_ | refine QV (rr_sub64 (r := ((k - 1 : Nat) : Int)) rfl rfl (by omega) (by omega) (by omega)) ?_ | refine QV (rr_leq (b := false) rfl rfl (decide_eq_false (by omega))) ?_ | refine QV QmT ?_ | refine QV QmF ?_ | refine QV QgT ?_ | refine QV QgF ?_ | refine QV QhT ?_ | refine QV QhF ?_ | refine QV QaS ?_))
      exact E_round (k + 1) (by omega) (by show l.length - (k + 1) < l.length - k; omega) (by repeat' (first | exact True.intro | refine And.intro rfl ?_)) rfl
    · generalize l[k] = x at *
      repeat (first
        | refine QV QP ?_ | refine QZ ?_ | refine qcT rfl ?_ | refine qcF rfl ?_ | refine E_blockX ?_ | refine E_blockO rfl ?_
        | refine qs rfl rfl rfl rfl rfl rfl ?_
        | ((try refine qg rfl rfl rfl ?_); first | refine QV QP ?_ | refine QV (rr_idxc Und.eq TyC.ty rfl rfl c2) ?_ | refine QV (rr_load1 (v := .int .i64 x) TyC.ty rfl hat) ?_ | refine QV (rr_lss (b := false) rfl rfl (decide_eq_false (by omega))) ?_ | refine QV QL ?_ | refine QV QlT ?_ | refine QV QlF ?_ | refine QV QaA ?_ | refine QV (rr_geq (b := false) rfl rfl (decide_eq_false (by omega))) ?_ | refine QV (rr_gtr (b := false) rfl rfl (decide_eq_false (by omega))) ?_ | refine QV QmT ?_ | refine QV QmF ?_ | refine QV QgT ?_ | refine QV QgF ?_ | refine QV QhT ?_ | refine QV QhF ?_ | refine QV QaS ?_))
      exact E_round (k + 1) (by omega) (by show l.length - (k + 1) < l.length - k; omega) (by repeat' (first | exact True.intro | refine And.intro rfl ?_)) rfl
  · repeat (first
      | refine QV QP ?_ | refine QZ ?_ | refine qcT rfl ?_ | refine qcF rfl ?_ | refine E_blockX ?_ | refine E_blockO rfl ?_
      | refine qs rfl rfl rfl rfl rfl rfl ?_
      | ((try refine qg rfl rfl rfl ?_); first | refine QV QP ?_ | refine QV QL ?_ | refine QV QlT ?_ | refine QV QlF ?_ | refine QV QaA ?_ | refine QV QmT ?_ | refine QV QmF ?_ | refine QV QgT ?_ | refine QV QgF ?_ | refine QV QhT ?_ | refine QV QhF ?_ | refine QV QaS ?_))
    exact E_ret1 rfl rfl fun w hm => hm.ret
/-- a list of Follow -/
theorem fol_at {w : World} {b off : Nat} {l : List (List Int)} {F : Nat → Prop} (hr : ∀ i (h : i < l.length), ∃ cs, (sliceS intS).is F w cs l[i] ∧ Rd w b (off + i * (sliceS intS).c) cs) {k : Nat} (hk : k < l.length) : ∃ u, Sl w u l[k].length (l[k].flatMap kit.intC) ∧ Rd w b (off + k * 1) [u] := by
  obtain ⟨cs, h1, h2⟩ := hr k hk
  obtain ⟨u, rfl, h3⟩ := folS_sl h1
  exact ⟨u, h3, h2⟩
set_option maxHeartbeats 4000000 in
theorem posCheck_calls (v : Value) (m : MS) (w : World) (hp : PosR w v m) (h : MOkP m) :
    Calls Try.prog 42 #[v] w (Meets (ret (.int .i64 0)) w) := by
  obtain ⟨vc, vr, vf, vfol, vl, ve, rfl, h1, h2, h3, h4, h5, h6⟩ := hp
  have hmR := h.rules
  have hmf := h.few
  have hms := h.some
  have hmm := h.most
  have l1 := h.ok.ps.rules
  have l2 := h.ok.ps.follow
  have l3 := h.ok.ps.last
  have q1 := fun w' (hg : Gr w w') => rises_calls vf m.first m.ps.classes.length w' (h3.gr hg) h.ok.first
  have hri := h.ok.ps.ris
  clear h h3
  obtain ⟨⟨cl, rul, fol, la⟩, fi, em⟩ := m
  dsimp only at *
  rw [l1] at h2
  obtain ⟨ac, cc, rfl, _⟩ := h1
  obtain ⟨ar, cr, rfl, hcr, hmr, hrr⟩ := h2
  obtain ⟨afo, cfo, rfl, hcf, hmfo, hrf⟩ := h4
  obtain ⟨al, cl2, rfl, _⟩ := h5
  obtain ⟨ae, ce, rfl, _⟩ := h6
  rw [l2] at hcf
  unfold maxLen at *
  have q1' := q1
  clear q1
  generalize hn : cl.length = n at *
  refine enter (args := [.agg #[.slice ac n cc, .slice ar n cr, vf, .slice afo fol.length cfo, .slice al la.length cl2, .slice ae em.length ce]]) (n := 80) Try.func42 rfl rfl rfl ?_
  refine T_seq (T_region (TL_box rfl rfl rfl fun g1 => ?_))
  conv => arg 8; simp only [zA, zB, zC, zD, zE, zF, zG, zH, zI, rowS, ret, id_eq]
  repeat (first
    | refine QV QP ?_ | refine QZ ?_ | refine qcT rfl ?_ | refine qcF rfl ?_ | refine E_blockX ?_ | refine E_blockO rfl ?_
    | refine qs rfl rfl rfl rfl rfl rfl ?_
    | ((try refine qg rfl rfl rfl ?_); first | refine QV QP ?_ | refine QV (rr_load1 (v := .slice ac n cc) TyC.ty rfl (at_blk (i := 0) rfl rfl)) ?_ | refine QV (rr_load1 (v := .slice ar n cr) TyC.ty rfl (at_blk (i := 0) rfl rfl)) ?_ | refine QV (rr_load1 (v := .slice afo fol.length cfo) TyC.ty rfl (at_blk (i := 0) rfl rfl)) ?_ | refine QV (rr_load1 (v := .slice al la.length cl2) TyC.ty rfl (at_blk (i := 0) rfl rfl)) ?_ | refine QV (rr_load1 (v := .slice ae em.length ce) TyC.ty rfl (at_blk (i := 0) rfl rfl)) ?_ | refine QV (rr_load1 (v := vf) TyC.ty rfl (at_blk (i := 0) rfl rfl)) ?_ | refine QV (rr_neq (b := false) rfl rfl (decide_eq_false (by omega))) ?_ | refine QV (rr_gtr (b := false) rfl rfl (decide_eq_false (by omega))) ?_ | refine QV QL ?_ | refine QV QA ?_ | refine QV QlT ?_ | refine QV QlF ?_ | refine QV QgT ?_ | refine QV QgF ?_ | refine QV QnT ?_ | refine QV QnF ?_ | refine QV QaA ?_ | refine QV (rr_eql (b := false) rfl rfl (decide_eq_false (by omega))) ?_ | refine QV (rr_not rfl rfl) ?_ | refine QV QhT ?_ | refine QV QhF ?_ | refine QV QeT ?_ | refine QV QeF ?_))
  refine TL_gcall (he2 EntersC.en rfl rfl rfl) (fun w hm => q1' _ hm.below) rfl rfl rfl rfl rfl ?_
  intro _ _
  conv => arg 8; simp only [zA, zB, zC, zD, zE, zF, zG, zH, zI, rowS, ret, id_eq]
  clear q1'
  repeat (first
    | refine QV QP ?_ | refine QZ ?_ | refine qcT rfl ?_ | refine qcF rfl ?_ | refine E_blockX ?_ | refine E_blockO rfl ?_
    | refine qs rfl rfl rfl rfl rfl rfl ?_
    | ((try refine qg rfl rfl rfl ?_); first | refine QV QP ?_ | refine QV QL ?_ | refine QV QA ?_ | refine QV QlT ?_ | refine QV QlF ?_ | refine QV QgT ?_ | refine QV QgF ?_ | refine QV QnT ?_ | refine QV QnF ?_ | refine QV QaA ?_ | refine QV (rr_not rfl rfl) ?_ | refine QV QhT ?_ | refine QV QhF ?_ | refine QV QeT ?_ | refine QV QeF ?_))
  refine T_loop (ι := Nat) (fun k => k ≤ n) (fun k => [(1, .pointer (some ⟨g1, 0, none⟩)), (3, .int .i64 (n : Int)), (46, .int .i64 (n : Int)), (47, .int .i64 (k : Int))]) (fun _ => [blkO g1 #[.slice ac n cc, .slice ar n cr, vf, .slice afo fol.length cfo, .slice al la.length cl2, .slice ae em.length ce] 84]) (fun k => n - k) 0 (Nat.zero_le _) (by repeat' (first | exact True.intro | refine And.intro rfl ?_)) rfl ?_
  intro k hk
  by_cases c1 : k < n
  · obtain ⟨br, offr, rfl, hrd⟩ := hrr (by omega)
    obtain ⟨bf, offf, rfl, _, hrfd⟩ := hrf (by omega)
    obtain ⟨u, hu, hd⟩ := fol_at hrfd (show k < fol.length by omega)
    have hatr := fun (L : List Own) => at_el (L := L) SmIn_len hrd (show k < rul.length by omega) 0 _ rfl
    have hatf := fun (L : List Own) => at_rd (L := L) hd (j := 0) (v := u) rfl
    have hx := hmR _ (List.getElem_mem (show k < rul.length by omega))
    have q := fun w' (hg : Gr w w') => rises_calls u fol[k] n w' (hu.gr hg) (hri _ (List.getElem_mem _))
    clear hrr hrf hrd hrfd hd hu
    generalize rul[k] = x at *
    repeat (first
      | refine QV QP ?_ | refine QZ ?_ | refine qcT rfl ?_ | refine qcF rfl ?_ | refine E_blockX ?_ | refine E_blockO rfl ?_
      | refine qs rfl rfl rfl rfl rfl rfl ?_
      | ((try refine qg rfl rfl rfl ?_); first | refine QV QP ?_ | refine QV QL ?_ | refine QV QA ?_ | refine QV QlT ?_ | refine QV QlF ?_ | refine QV QgT ?_ | refine QV QgF ?_ | refine QV QnT ?_ | refine QV QnF ?_ | refine QV QaA ?_ | refine QV (rr_not rfl rfl) ?_ | refine QV QhT ?_ | refine QV QhF ?_ | refine QV QeT ?_ | refine QV QeF ?_))
    refine T_ord ([blkO g1 #[.slice ac n cc, .slice (some ⟨br, offr, none⟩) n cr, vf, .slice (some ⟨bf, offf, none⟩) fol.length cfo, .slice al la.length cl2, .slice ae em.length ce] 84]) (.calm 0 (.calm 1 (.calm 2 (.calm 3 (.calm 4 (.calm 5 (.calm 6 (.calm 7 (.calm 8 (.calm 9 (.calm 10 (.calm 11 (.calm 12 (.calm 13 (.calm 14 (.calm 15 (.calm 16 (.calm 17 (.calm 18 (.calm 19 (.calm 20 (.calm 21 (.calm 22 (.calm 23 (.one 24 (.calm 25 (.calm 26 (.done)))))))))))))))))))))))))))) (sub_pick [0] (by decide) rfl) (by kernel_rfl) (by kernel_rfl) (by intro c a d v w h; cases d <;> exact h) ?_
    repeat (first
      | ((first | refine TW_plain rfl rfl ?_ | refine TW_gmet rfl rfl rfl rfl ?_); first | refine QW QP ?_ | refine QW (rr_load1 (v := .slice (some ⟨br, offr, none⟩) n cr) TyC.ty rfl (at_blk (i := 0) rfl rfl)) ?_ | refine QW (rr_idxc Und.eq TyC.ty rfl rfl c1) ?_ | refine QW (rr_load1 (v := .int .i64 x) TyC.ty rfl (hatr _)) ?_ | refine QW (rr_lss (b := false) rfl rfl (decide_eq_false (by omega))) ?_ | refine QW (rr_load1 (v := .slice ae em.length ce) TyC.ty rfl (at_blk (i := 0) rfl rfl)) ?_ | refine QW (rr_load1 (v := .slice (some ⟨bf, offf, none⟩) fol.length cfo) TyC.ty rfl (at_blk (i := 0) rfl rfl)) ?_ | refine QW (rr_idxc (j := k) Und.eq TyC.ty rfl rfl (by omega)) ?_ | refine QW (rr_load1 (v := u) TyC.ty rfl (hatf _)) ?_ | refine QW QL ?_ | refine QW QA ?_ | refine QW QlT ?_ | refine QW QlF ?_ | refine QW QgT ?_ | refine QW QgF ?_ | refine QW QnT ?_ | refine QW QnF ?_ | refine QW QaA ?_ | refine QW (rr_geq (b := false) rfl rfl (decide_eq_false (by omega))) ?_ | refine QW (rr_not rfl rfl) ?_ | refine QW QhT ?_ | refine QW QhF ?_ | refine QW QeT ?_ | refine QW QeF ?_)
      | refine TW_skip rfl rfl rfl rfl rfl rfl rfl ?_ | refine TW_done ?_)
    refine TW_one rfl (TL_metg rfl rfl rfl (TL_call (he2 EntersC.en rfl rfl rfl) (fun w hm => q w hm.below) rfl rfl rfl fun _ _ => (TW_on (sub_pick [0] (by decide) rfl) ?_)))
    repeat (first
      | ((first | refine TW_plain rfl rfl ?_ | refine TW_gmet rfl rfl rfl rfl ?_); first | refine QW QP ?_ | refine QW QL ?_ | refine QW QA ?_ | refine QW QlT ?_ | refine QW QlF ?_ | refine QW QgT ?_ | refine QW QgF ?_ | refine QW QnT ?_ | refine QW QnF ?_ | refine QW QaA ?_ | refine QW (rr_not rfl rfl) ?_ | refine QW QhT ?_ | refine QW QhF ?_ | refine QW QeT ?_ | refine QW QeF ?_)
      | refine TW_skip rfl rfl rfl rfl rfl rfl rfl ?_ | refine TW_done ?_)
    repeat (first
      | refine QV QP ?_ | refine QZ ?_ | refine qcT rfl ?_ | refine qcF rfl ?_ | refine E_blockX ?_ | refine E_blockO rfl ?_
      | refine qs rfl rfl rfl rfl rfl rfl ?_
      | ((try refine qg rfl rfl rfl ?_); first | refine QV QP ?_ | refine QV QL ?_ | refine QV QA ?_ | refine QV QlT ?_ | refine QV QlF ?_ | refine QV QgT ?_ | refine QV QgF ?_ | refine QV QnT ?_ | refine QV QnF ?_ | refine QV QaA ?_ | refine QV (rr_not rfl rfl) ?_ | refine QV QhT ?_ | refine QV QhF ?_ | refine QV QeT ?_ | refine QV QeF ?_))
    refine E_pick [0] (by decide) rfl ?_
    exact E_round (k + 1) (by omega) (by show n - (k + 1) < n - k; omega) (by repeat' (first | exact True.intro | refine And.intro rfl ?_)) rfl
  · repeat (first
      | refine QV QP ?_ | refine QZ ?_ | refine qcT rfl ?_ | refine qcF rfl ?_ | refine E_blockX ?_ | refine E_blockO rfl ?_
      | refine qs rfl rfl rfl rfl rfl rfl ?_
      | ((try refine qg rfl rfl rfl ?_); first | refine QV QP ?_ | refine QV (rr_gtr (b := false) rfl rfl (decide_eq_false (by omega))) ?_ | refine QV QL ?_ | refine QV QA ?_ | refine QV QlT ?_ | refine QV QlF ?_ | refine QV QgT ?_ | refine QV QgF ?_ | refine QV QnT ?_ | refine QV QnF ?_ | refine QV QaA ?_ | refine QV (rr_not rfl rfl) ?_ | refine QV QhT ?_ | refine QV QhF ?_ | refine QV QeT ?_ | refine QV QeF ?_))
    exact E_ret1 rfl rfl fun w hm => hm.ret
end Go.Proofs.Ytkmemlnkijinlaa.eng

/- ClsHas -/
namespace Go.Proofs.Ytkmemlnkijinlaa.eng
open Go.RowKit kit mix classL
theorem shrU {P : Program} (x j b : Nat) (k k' : IntKind) (hb : k.bits = b) (hj : j ≤ b) (w : World) : (Op.shift .shr k (x : Int) k' (j : Int)).run P w = .ok (.int k ((x / 2 ^ j : Nat) : Int)) w := by
  have e : min j b = j := by omega
  have h0 : ¬ ((j : Int) < 0) := by omega
  have e2 : (x : Int).fdiv (2 ^ j) = ((x / 2 ^ j : Nat) : Int) := by
    rw [Int.fdiv_eq_ediv_of_nonneg _ (by have : (0 : Int) < 2 ^ j := Int.pow_pos (by decide); omega)]
    simp
  simp only [Op.shift, if_neg h0, hb, Int.toNat_natCast, e, e2, Sem.run_pure]
theorem cls_cell (c : C4) (i : Nat) (h : i < 4) : (#[v64 c.a, v64 c.b, v64 c.c, v64 c.d] : Array Value)[i]? = some (.int .u64 ((c.get i).toNat : Int)) := by
  match i, h with
  | 0, _ => rfl
  | 1, _ => rfl
  | 2, _ => rfl
  | 3, _ => rfl
theorem u8and63 : ∀ b : Nat, b < 256 → bits .and .u8 (b : Int) 63 = ((b % 64 : Nat) : Int) := by decide +kernel
theorem has_calls (c : C4) (b : Nat) (hb : b < 256) (w : World) : Calls Try.prog 51 #[clsV c, .int .u8 (b : Int)] w (Meets (ret (.bool (c.mem b))) w) := by
  refine enter (args := [.agg #[v64 c.a, v64 c.b, v64 c.c, v64 c.d], .int .u8 (b : Int)]) (n := 14) Try.func51 rfl rfl rfl ?_
  refine T_seq (T_region (TL_box rfl rfl rfl fun g => ?_))
  have h1 : b / 64 < 4 := by omega
  have hc : (#[v64 c.a, v64 c.b, v64 c.c, v64 c.d] : Array Value)[0 + b / 64]? = some (.int .u64 ((c.get (b / 64)).toNat : Int)) := by rw [Nat.zero_add]; exact cls_cell c _ h1
  have hx := (c.get (b / 64)).isLt
  have hs1 : ∀ w, (Op.shift .shr .u8 (b : Int) .u64 6).run Try.prog w = .ok (.int .u8 ((b / 64 : Nat) : Int)) w := fun w => shrU b 6 8 .u8 .u64 rfl (by decide) w
  have hs2 : ∀ w, (Op.shift .shr .u64 ((c.get (b / 64)).toNat : Int) .u8 ((b % 64 : Nat) : Int)).run Try.prog w = .ok (.int .u64 (((c.get (b / 64)).toNat / 2 ^ (b % 64) : Nat) : Int)) w := fun w => shrU _ (b % 64) 64 .u64 .u8 rfl (by omega) w
  have hm : c.mem b = decide ((c.get (b / 64)).toNat / 2 ^ (b % 64) % 2 = 1) := by unfold C4.mem; rw [Nat.testBit_eq_decide_div_mod_eq]
  rw [hm]
  have hd : (c.get (b / 64)).toNat / 2 ^ (b % 64) ≤ (c.get (b / 64)).toNat := Nat.div_le_self _ _
  have h63 := u8and63 b hb
  generalize (c.get (b / 64)).toNat = x at *
  generalize b % 64 = k at *
  generalize b / 64 = i at *
  generalize x / 2 ^ k = y at *
  have ha : bits .and .u64 (y : Int) 1 = ((y % 2 : Nat) : Int) := by
    have := bits_and_u64_nat y 1 (by omega) (by decide)
    rw [Nat.and_one_is_mod] at this
    exact this
  repeat (first
    | refine QV QP ?_ | refine QZ ?_ | refine QV (rr_shr rfl rfl hs1) ?_ | refine QV (rr_aidx1 Und.eq TyC.ty rfl rfl h1) ?_
    | refine QV (rr_load1 TyC.ty rfl (at_blk (i := 0) rfl hc)) ?_ | refine QV (rr_and rfl rfl h63) ?_ | refine QV (rr_shr rfl rfl hs2) ?_
    | refine QV (rr_and rfl rfl ha) ?_ | refine QV (rr_eql rfl rfl rfl) ?_ | refine QV QeT ?_ | refine QV QeF ?_)
  exact E_ret1e rfl rfl (by congr 1; rw [decide_eq_decide]; omega)
end Go.Proofs.Ytkmemlnkijinlaa.eng

/- PlT -/
namespace Go.Proofs.Ytkmemlnkijinlaa.eng
open Go.RowKit kit mix classL rexL placesL
theorem at_elO {α : Type} {f : α → List Value} {c : Nat} {W0 : World} {W : Base} {L : List Own} {b off : Nat} {l : List α} (hc : ∀ a, (f a).length = c) (ho : Old W0 W) (h : Rd W0 b off (l.flatMap f)) {k : Nat} (hk : k < l.length) (j : Nat) (u : Value) (hj : (f l[k])[j]? = some u) : At W L ⟨b, off + k * c + j, none⟩ u := by
  have hjc : j < c := by rw [← hc l[k]]; exact (List.getElem?_eq_some_iff.1 hj).1
  rw [Nat.add_assoc]
  exact at_oldR ho h _ u (by rw [get_el hc l k j hk hjc]; exact hj)
end Go.Proofs.Ytkmemlnkijinlaa.eng

/- DfS -/
namespace Go.Proofs.Ytkmemlnkijinlaa.eng
open Go.RowKit kit mix classL
theorem pow_64 {j : Nat} (hj : j < 64) : 2 ^ j < 18446744073709551616 := by
  have := Nat.pow_lt_pow_right (a := 2) (by decide) hj
  rwa [show (2 : Nat) ^ 64 = 18446744073709551616 from rfl] at this
theorem shl1 {P : Program} (j : Nat) (hj : j < 64) (w : World) : (Op.shift .shl .u64 1 .i64 (j : Int)).run P w = .ok (.int .u64 ((2 ^ j : Nat) : Int)) w := by
  have e : min j 64 = j := by omega
  have e2 : (2 : Int) ^ j = ((2 ^ j : Nat) : Int) := by rw [Int.natCast_pow]; rfl
  have e3 : IntKind.u64.wrap ((1 : Int) * 2 ^ j) = ((2 ^ j : Nat) : Int) := by
    have := pow_64 hj
    rw [e2, IntKind.wrap_u64, Int.one_mul]
    generalize 2 ^ j = y at *
    omega
  have h0 : ¬ ((j : Int) < 0) := by omega
  simp only [Op.shift, if_neg h0, IntKind.bits, Int.toNat_natCast, e, e3, Sem.run_pure]
theorem i64and63 : ∀ b : Nat, b < 256 → bits .and .i64 (b : Int) 63 = ((b % 64 : Nat) : Int) := by decide +kernel
theorem clsA_get (c : C4) (i : Nat) (h : i < 4) : (clsL c).toArray[i]? = some (.int .u64 ((c.get i).toNat : Int)) := cls_cell c i h
theorem clsA_set (c : C4) (i : Nat) (h : i < 4) (v : BitVec 64) : (clsL c).toArray.setIfInBounds i (.int .u64 (v.toNat : Int)) = (clsL (c.set i v)).toArray := by
  match i, h with
  | 0, _ => rfl
  | 1, _ => rfl
  | 2, _ => rfl
  | 3, _ => rfl
attribute [local irreducible] Op.shift Go.bits in
theorem setHas_calls (c : C4) (b : Nat) (hb : b < 256) (w : World) : Calls Try.prog 50 #[clsV c, .int .i64 (b : Int)] w (Meets (ret (.bool (c.mem b))) w) := by
  refine enter (args := [.agg #[v64 c.a, v64 c.b, v64 c.c, v64 c.d], .int .i64 (b : Int)]) (n := 14) Try.func50 rfl rfl rfl ?_
  refine T_seq (T_region (TL_box rfl rfl rfl fun g => ?_))
  have h1 : b / 64 < 4 := by omega
  have hc : (#[v64 c.a, v64 c.b, v64 c.c, v64 c.d] : Array Value)[0 + b / 64]? = some (.int .u64 ((c.get (b / 64)).toNat : Int)) := by rw [Nat.zero_add]; exact cls_cell c _ h1
  have hx := (c.get (b / 64)).isLt
  have hs1 : ∀ w, (Op.shift .shr .i64 (b : Int) .u64 6).run Try.prog w = .ok (.int .i64 ((b / 64 : Nat) : Int)) w := fun w => shrU b 6 64 .i64 .u64 rfl (by decide) w
  have hs2 : ∀ w, (Op.shift .shr .u64 ((c.get (b / 64)).toNat : Int) .i64 ((b % 64 : Nat) : Int)).run Try.prog w = .ok (.int .u64 (((c.get (b / 64)).toNat / 2 ^ (b % 64) : Nat) : Int)) w := fun w => shrU _ (b % 64) 64 .u64 .i64 rfl (by omega) w
  have hm : c.mem b = decide ((c.get (b / 64)).toNat / 2 ^ (b % 64) % 2 = 1) := by unfold C4.mem; rw [Nat.testBit_eq_decide_div_mod_eq]
  rw [hm]
  have hd : (c.get (b / 64)).toNat / 2 ^ (b % 64) ≤ (c.get (b / 64)).toNat := Nat.div_le_self _ _
  have h63 := i64and63 b hb
  generalize (c.get (b / 64)).toNat = x at *
  generalize b % 64 = k at *
  generalize b / 64 = i at *
  generalize x / 2 ^ k = y at *
  have ha : bits .and .u64 (y : Int) 1 = ((y % 2 : Nat) : Int) := by
    have := bits_and_u64_nat y 1 (by omega) (by decide)
    rw [Nat.and_one_is_mod] at this
    exact this
  repeat (first
    | refine QV QP ?_ | refine QZ ?_ | refine QV (rr_shr rfl rfl hs1) ?_ | refine QV (rr_aidx1 Und.eq TyC.ty rfl rfl h1) ?_
    | refine QV (rr_load1 TyC.ty rfl (at_blk (i := 0) rfl hc)) ?_ | refine QV (rr_and rfl rfl h63) ?_ | refine QV (rr_shr rfl rfl hs2) ?_
    | refine QV (rr_and rfl rfl ha) ?_ | refine QV (rr_eql rfl rfl rfl) ?_ | refine QV QeT ?_ | refine QV QeF ?_)
  exact E_ret1e rfl rfl (by congr 1; rw [decide_eq_decide]; omega)
attribute [local irreducible] Op.shift Go.bits in
theorem setPut_calls (c : C4) (b : Nat) (hb : b < 256) (g : Nat) (w : World) (B : Base) (hm : Mem B [blkO g (clsL c).toArray 119] w) :
    Calls Try.prog 52 #[.pointer (some ⟨g, 0, none⟩), .int .i64 (b : Int)] w (MeetsB ⟨fun (_ : Unit) => True, fun _ => .tuple #[], fun _ => [blkO g (clsL (c.bit b)).toArray 119]⟩ B) := by
  refine enterB hm (args := [.pointer (some ⟨g, 0, none⟩), .int .i64 (b : Int)]) (n := 16) Try.func52 rfl rfl rfl ?_
  clear hm
  have h1 : b / 64 < 4 := by omega
  have hc : (clsL c).toArray[0 + b / 64]? = some (.int .u64 ((c.get (b / 64)).toNat : Int)) := by rw [Nat.zero_add]; exact clsA_get c _ h1
  have hs1 : ∀ w, (Op.shift .shr .i64 (b : Int) .u64 6).run Try.prog w = .ok (.int .i64 ((b / 64 : Nat) : Int)) w := fun w => shrU b 6 64 .i64 .u64 rfl (by decide) w
  have h63 := i64and63 b hb
  have hsh := shl1 (P := Try.prog) (b % 64) (by omega)
  have hset := clsA_set c (b / 64) h1 (c.get (b / 64) ||| BitVec.ofNat 64 (2 ^ (b % 64)))
  have hbit : c.bit b = c.set (b / 64) (c.get (b / 64) ||| BitVec.ofNat 64 (2 ^ (b % 64))) := rfl
  rw [← hbit] at hset
  have hor : bits .or .u64 ((c.get (b / 64)).toNat : Int) ((2 ^ (b % 64) : Nat) : Int) = (((c.get (b / 64)) ||| BitVec.ofNat 64 (2 ^ (b % 64))).toNat : Int) := by
    have hp := pow_64 (j := b % 64) (by omega)
    rw [bits_or_u64_nat _ _ (c.get (b / 64)).isLt hp, BitVec.toNat_or, BitVec.toNat_ofNat, Nat.mod_eq_of_lt hp]
  have hm0 : b % 64 < 64 := by omega
  generalize c.get (b / 64) ||| BitVec.ofNat 64 (2 ^ (b % 64)) = z at *
  generalize (c.get (b / 64)).toNat = x at *
  generalize 2 ^ (b % 64) = y at *
  generalize b % 64 = k at *
  generalize b / 64 = i at *
  generalize c.bit b = c' at *
  have hsz : Nat.blt (0 + i) (clsL c).toArray.size = true := by rw [Nat.blt_eq]; show 0 + i < 4; omega
  rw [← Nat.zero_add i] at hset
  refine T_ord ([]) (.calm 0 (.calm 1 (.calm 2 (.calm 3 (.calm 4 (.calm 6 (.calm 7 (.calm 8 (.calm 10 (.one 5 (.calm 9 (.calm 11 (.one 12 (.done)))))))))))))) (sub_pick [] (by decide) rfl) (by kernel_rfl) (by kernel_rfl) (by intro c a d v w h; cases d <;> exact h) ?_
  repeat (first
    | ((first | refine TW_plain rfl rfl ?_ | refine TW_gmet rfl rfl rfl rfl ?_); first | refine QW QP ?_ | refine QW (rr_shr rfl rfl hs1) ?_ | refine QW (rr_nilc rfl) ?_ | refine QW (rr_aidx1 Und.eq TyC.ty rfl rfl h1) ?_ | refine QW (rr_and rfl rfl h63) ?_ | refine QW (rr_shl rfl rfl hsh) ?_ | refine QW (rr_nilc rfl) ?_)
    | refine TW_done ?_)
  refine TW_one rfl (TL_val (rr_load1 TyC.ty rfl (at_blk (i := 0) rfl hc)) rfl rfl rfl (TW_on (sub_pick [] (by decide) rfl) ?_))
  repeat (first
    | ((first | refine TW_plain rfl rfl ?_ | refine TW_gmet rfl rfl rfl rfl ?_); first | refine QW QP ?_ | refine QW (rr_or rfl rfl hor) ?_ | refine QW (rr_nilc rfl) ?_ | refine QW (rr_aidx1 Und.eq TyC.ty rfl rfl h1) ?_ | refine QW (rr_nilc rfl) ?_)
    | refine TW_done ?_)
  refine TW_one rfl (TL_store1 (i := 0) rfl rfl rfl rfl rfl hsz (TW_on (sub_pick [] (by decide) rfl) ?_))
  repeat (first
    | ((first | refine TW_plain rfl rfl ?_ | refine TW_gmet rfl rfl rfl rfl ?_); first | refine QW QP ?_ | refine QW (rr_nilc rfl) ?_) | refine TW_done ?_)
  repeat (first
    | refine QV QP ?_ | refine QZ ?_ | refine QV (rr_nilc rfl) ?_)
  exact E_end0 rfl fun w hm => hm.meetsB (S := ⟨fun (_ : Unit) => True, fun _ => .tuple #[], fun _ => [blkO g (clsL c').toArray 119]⟩) () trivial [0] (by decide) (by rw [← hset]; rfl)
end Go.Proofs.Ytkmemlnkijinlaa.eng

/- DfaP -/
namespace Go.Proofs.Ytkmemlnkijinlaa.dfaP
open classL rexL placesL smallL
def putAll (c : C4) (l : List Int) : C4 := l.foldl (fun c x => c.bit x.toNat) c
/-- what may come behind those of s, of the first k -/
def nextTo (p : PS) (s : C4) : Nat → C4
  | 0 => C4.zero
  | i + 1 => if s.mem i = true then putAll (nextTo p s i) (p.follow.getD i []) else nextTo p s i
/-- what may come next in a state -/
def nextF (m : MS) (S : List C4) : Nat → C4
  | 0 => putAll C4.zero m.first
  | n + 1 => nextTo m.ps (S.getD n C4.zero) m.ps.follow.length
/-- of those, the ones of the first k whose class has b -/
def toTo (p : PS) (all : C4) (b : Nat) : Nat → C4
  | 0 => C4.zero
  | i + 1 => if all.mem i = true ∧ (p.classes.getD i C4.zero).mem b = true then (toTo p all b i).bit i else toTo p all b i
def toF (p : PS) (all : C4) (b : Nat) : C4 := toTo p all b p.classes.length
/-- the least rule that is done, of the first k places -/
def tagTo (p : PS) (s : C4) : Nat → Int
  | 0 => -1
  | i + 1 => if s.mem i = true ∧ p.last.getD i false = true ∧ (tagTo p s i < 0 ∨ p.rules.getD i 0 < tagTo p s i) then p.rules.getD i 0 else tagTo p s i
def tagF (p : PS) (s : C4) : Int := tagTo p s p.classes.length
/-- the sets behind the first one, and all tags -/
structure DM where
  S : List C4
  tags : List Int
def stateF (p : PS) (m : DM) (s : C4) : Nat × DM := if s ∈ m.S then (idx m.S s + 1, m) else (m.S.length + 1, ⟨m.S ++ [s], m.tags ++ [tagF p s]⟩)
def cellF (p : PS) (all : C4) (b : Nat) (r : Row) (m : DM) : Row × DM :=
  if toF p all b = C4.zero then (if h : b < 256 then r.set b (-1) else r, m) else (if h : b < 256 then (r.set b (-1)).set b ((stateF p m (toF p all b)).1 : Int) else r, (stateF p m (toF p all b)).2)
def rowTo (p : PS) (all : C4) : Nat → Nat → Row → DM → Row × DM
  | 0, _, r, m => (r, m)
  | f + 1, b, r, m => if 200 < (cellF p all b r m).2.S.length + 1 then cellF p all b r m else rowTo p all f (b + 1) (cellF p all b r m).1 (cellF p all b r m).2
def rowP (m : MS) (n : Nat) (d : DM) : Row × DM := rowTo m.ps (nextF m d.S n) 256 0 (Vector.replicate 256 0) d
def makeTo (m : MS) : Nat → Nat → List Row → DM → Option (List Row × DM)
  | 0, _, _, _ => none
  | f + 1, n, R, d => if n < d.S.length + 1 then (if 200 < (rowP m n d).2.S.length + 1 then none else makeTo m f (n + 1) (R ++ [(rowP m n d).1]) (rowP m n d).2) else some (R, d)
/-- the first that is set -/
def firstT : List Bool → Int → Int
  | [], _ => -1
  | b :: l, k => if b = true then k else firstT l (k + 1)
def makeD (m : MS) : Option (List Row × DM) := makeTo m 201 0 [] ⟨[], [firstT m.empty 0]⟩
/-! ### bounds -/
structure DOk (p : PS) (d : DM) : Prop where
  nd : d.S.Nodup
  tags : d.tags.length = d.S.length + 1
theorem state_ok {p : PS} {d : DM} (h : DOk p d) (s : C4) : DOk p (stateF p d s).2 ∧ d.S.length ≤ (stateF p d s).2.S.length ∧ (stateF p d s).2.S.length ≤ d.S.length + 1 ∧ 0 < (stateF p d s).1 ∧ (stateF p d s).1 < (stateF p d s).2.S.length + 1 := by
  unfold stateF
  by_cases c : s ∈ d.S
  · rw [if_pos c]
    have := idx_lt c
    exact ⟨h, Nat.le_refl _, Nat.le_succ _, Nat.succ_pos _, by show idx d.S s + 1 < d.S.length + 1; omega⟩
  · rw [if_neg c]
    refine ⟨⟨?_, ?_⟩, ?_, ?_, Nat.succ_pos _, ?_⟩
    · show (d.S ++ [s]).Nodup
      rw [List.nodup_append]
      exact ⟨h.nd, by simp, fun a ha b hb => by rw [List.mem_singleton.1 hb]; exact fun e => c (e ▸ ha)⟩
    · show (d.tags ++ [_]).length = (d.S ++ [s]).length + 1
      rw [List.length_append, List.length_append, h.tags]; rfl
    · show _ ≤ (d.S ++ [s]).length; simp
    · show (d.S ++ [s]).length ≤ _; simp
    · show d.S.length + 1 < (d.S ++ [s]).length + 1; simp
theorem cell_ok {p : PS} {d : DM} (h : DOk p d) (all : C4) (b : Nat) (r : Row) : DOk p (cellF p all b r d).2 ∧ d.S.length ≤ (cellF p all b r d).2.S.length ∧ (cellF p all b r d).2.S.length ≤ d.S.length + 1 := by
  unfold cellF
  split
  · exact ⟨h, Nat.le_refl _, Nat.le_succ _⟩
  · obtain ⟨h1, h2, h3, _⟩ := state_ok h (toF p all b)
    exact ⟨h1, h2, h3⟩
theorem rowTo_ok {p : PS} (all : C4) : ∀ (f b : Nat) (r : Row) (d : DM), DOk p d → d.S.length + 1 ≤ 200 → DOk p (rowTo p all f b r d).2 ∧ (rowTo p all f b r d).2.S.length + 1 ≤ 201 ∧ d.S.length ≤ (rowTo p all f b r d).2.S.length
  | 0, _, _, d, h, hl => ⟨h, (by show d.S.length + 1 ≤ 201; omega), Nat.le_refl _⟩
  | f + 1, b, r, d, h, hl => by
    obtain ⟨h1, h2, h3⟩ := cell_ok h all b r
    rw [rowTo]
    split
    · exact ⟨h1, by omega, h2⟩
    · obtain ⟨q1, q2, q3⟩ := rowTo_ok all f (b + 1) (cellF p all b r d).1 _ h1 (by omega)
      exact ⟨q1, q2, by omega⟩
theorem put_step (c : C4) (l : List Int) {k : Nat} (hk : k < l.length) : putAll c (l.take (k + 1)) = (putAll c (l.take k)).bit l[k].toNat := by
  unfold putAll
  rw [List.take_succ_eq_append_getElem hk, List.foldl_append]; rfl
end Go.Proofs.Ytkmemlnkijinlaa.dfaP

/- DfN -/
namespace Go.Proofs.Ytkmemlnkijinlaa.eng
open Go.RowKit kit mix classL rexL placesL dfaP
/-- the maker's cells -/
def dmC (vc vr vf vfol vl ve vs num rows tags : Value) : Array Value := #[vc, vr, vf, vfol, vl, ve, vs, num, rows, tags]
def setL (S : List C4) : List Value := (C4.zero :: S).flatMap clsL
/-- memory of the world at hand -/
theorem at_here {w : World} {g : Nat} {cs : Array Value} {T : TypeId} (hg : w.heap[g]? = some (.cells cs T (0, 0))) (L : List Own) {k : Nat} {v : Value} (hv : cs[k]? = some v) : At (w : Base) L ⟨g, k, none⟩ v :=
  at_old (by rw [cell_of_row w g k cs T (0, 0) hg]; exact hv)
set_option maxHeartbeats 4000000 in
theorem dfaNext_calls (m : MS) (vc vr vf vfol vl ve vs num rows tags : Value) (S : List C4) (g n : Nat) (w : World) (hp : PosR w (.agg #[vc, vr, vf, vfol, vl, ve]) m) (h : MOkP m) (hg : w.heap[g]? = some (.cells (dmC vc vr vf vfol vl ve vs num rows tags) 112 (0, 0)))
    (hs : Sl w vs (S.length + 1) (setL S)) (hn : n ≤ S.length) :
    Calls Try.prog 49 #[.pointer (some ⟨g, 0, none⟩), .int .i64 (n : Int)] w (Meets (ret (clsV (nextF m S n))) w) := by
  obtain ⟨_, _, _, _, _, _, he, h1, h2, h3, h4, h5, h6⟩ := hp
  simp only [Value.agg.injEq, Array.mk.injEq, List.cons.injEq, and_true] at he
  obtain ⟨rfl, rfl, rfl, rfl, rfl, rfl⟩ := he
  have hmf := h.few
  have hfi := h.ok.first.2
  have hri := h.ok.ps.ris
  have hfl := h.ok.ps.follow
  clear h h1 h2 h5 h6
  obtain ⟨af, cf, rfl, _, hmaf, hrf⟩ := h3
  obtain ⟨ao, co, rfl, _, hmo, hro⟩ := h4
  obtain ⟨ab, cs, rfl, hcs, hms, hrs⟩ := hs
  unfold maxLen at *
  have hm := fun L k v hv => at_here (k := k) (v := v) hg L hv
  refine enter (args := [.pointer (some ⟨g, 0, none⟩), .int .i64 (n : Int)]) (n := 59) Try.func49 rfl rfl rfl ?_
  refine T_seq (T_region (TL_new rfl fun g4 => ?_))
  conv => arg 8; simp only [zA, zB, zC, zD, zE, zF, zG, zH, zI, rowS, ret, id_eq]
  repeat (first
    | refine QV QP ?_ | refine QZ ?_ | refine qcT rfl ?_ | refine qcF rfl ?_ | refine E_blockX ?_ | refine E_blockO rfl ?_ | refine QV QL ?_
    | refine QV QA ?_ | refine QV (rr_nilc rfl) ?_ | refine QV QlT ?_ | refine QV QlF ?_ | refine QV QeT ?_ | refine QV QeF ?_ | refine QV QaA ?_)
  refine TL_new rfl fun g5 => ?_
  conv => arg 8; simp only [zA, zB, zC, zD, zE, zF, zG, zH, zI, rowS, ret, id_eq]
  by_cases c0 : n = 0
  · subst c0
    repeat (first
      | refine QV QP ?_ | refine QZ ?_ | refine qcT rfl ?_ | refine qcF rfl ?_ | refine E_blockX ?_ | refine E_blockO rfl ?_
      | refine QV (rr_eql (b := true) rfl rfl (decide_eq_true (by simp))) ?_ | refine QV (rr_nilc rfl) ?_
      | refine QV (rr_load1 (v := .slice af m.first.length cf) TyC.ty rfl (hm _ 2 _ rfl)) ?_ | refine QV QL ?_ | refine QV QA ?_ | refine QV (rr_nilc rfl) ?_
      | refine QV QlT ?_ | refine QV QlF ?_ | refine QV QeT ?_ | refine QV QeF ?_ | refine QV QaA ?_)
    refine T_loop (ι := Nat) (fun k => k ≤ m.first.length) (fun k => [(4, .pointer (some ⟨g4, 0, none⟩)), (5, .pointer (some ⟨g5, 0, none⟩)), (18, .slice af m.first.length cf), (19, .int .i64 m.first.length), (20, .int .i64 (k : Int))])
      (fun k => [blkO g4 (clsL C4.zero).toArray 119, blkO g5 (clsL (putAll C4.zero (m.first.take k))).toArray 119]) (fun k => m.first.length - k) 0 (Nat.zero_le _) (by repeat' (first | exact True.intro | refine And.intro rfl ?_)) rfl ?_
    intro k hk
    by_cases c1 : k < m.first.length
    · have hx := hfi _ (List.getElem_mem c1)
      have hst := put_step C4.zero m.first c1
      obtain ⟨bf, offf, rfl, hrfd⟩ := hrf (by omega)
      have hat := fun (L : List Own) => at_el (L := L) SmIn_len hrfd c1 0 _ rfl
      generalize m.first[k] = x at *
      generalize putAll C4.zero (m.first.take k) = c at *
      obtain ⟨xn, rfl⟩ := Int.eq_ofNat_of_zero_le hx.1
      rw [Int.toNat_natCast] at hst
      repeat (first
        | refine QV QP ?_ | refine QZ ?_ | refine qcT rfl ?_ | refine qcF rfl ?_ | refine E_blockX ?_ | refine E_blockO rfl ?_
        | refine QV (rr_idxc Und.eq TyC.ty rfl rfl c1) ?_ | refine QV (rr_load1 (v := .int .i64 (xn : Int)) TyC.ty rfl (hat _)) ?_ | refine QV QL ?_
        | refine QV QA ?_ | refine QV (rr_nilc rfl) ?_ | refine QV QlT ?_ | refine QV QlF ?_ | refine QV QeT ?_ | refine QV QeF ?_ | refine QV QaA ?_)
      refine TL_callB [1] [0] (by decide) rfl rfl (he2 EntersC.en rfl rfl rfl) (fun w hm hb => setPut_calls c xn (by omega) g5 w _ hb) rfl rfl rfl ?_
      intro _ _
      conv => arg 8; simp only [zA, zB, zC, zD, zE, zF, zG, zH, zI, rowS, ret, id_eq]
      repeat (first
        | refine QV QP ?_ | refine QZ ?_ | refine qcT rfl ?_ | refine qcF rfl ?_ | refine E_blockX ?_ | refine E_blockO rfl ?_ | refine QV QL ?_
        | refine QV QA ?_ | refine QV (rr_nilc rfl) ?_ | refine QV QlT ?_ | refine QV QlF ?_ | refine QV QeT ?_ | refine QV QeF ?_ | refine QV QaA ?_)
      exact E_round (k + 1) (by omega) (by show m.first.length - (k + 1) < m.first.length - k; omega) (by repeat' (first | exact True.intro | refine And.intro rfl ?_)) (by rw [hst])
    · obtain rfl : k = m.first.length := by omega
      rw [List.take_of_length_le (Nat.le_refl _)]
      unfold nextF
      generalize putAll C4.zero m.first = c at *
      repeat (first
        | refine QV QP ?_ | refine QZ ?_ | refine qcT rfl ?_ | refine qcF rfl ?_ | refine E_blockX ?_ | refine E_blockO rfl ?_
        | refine QV (rr_loadB (i := 1) TyC.ty rfl rfl rfl) ?_ | refine QV QL ?_ | refine QV QA ?_ | refine QV (rr_nilc rfl) ?_ | refine QV QlT ?_
        | refine QV QlF ?_ | refine QV QeT ?_ | refine QV QeF ?_ | refine QV QaA ?_)
      refine TL_storeB (i := 0) (cs' := (clsL c).toArray) rfl rfl rfl rfl rfl rfl ?_
      conv => arg 8; simp only [zA, zB, zC, zD, zE, zF, zG, zH, zI, rowS, ret, id_eq]
      repeat (first
        | refine QV QP ?_ | refine QZ ?_ | refine qcT rfl ?_ | refine qcF rfl ?_ | refine E_blockX ?_ | refine E_blockO rfl ?_ | refine QV QL ?_
        | refine QV QA ?_ | refine QV (rr_nilc rfl) ?_ | refine QV QlT ?_ | refine QV QlF ?_ | refine QV QeT ?_ | refine QV QeF ?_ | refine QV QaA ?_)
      exact E_retc1 (i := 0) rfl rfl rfl rfl fun w hm => hm.ret
  · obtain ⟨q, rfl⟩ : ∃ q, n = q + 1 := ⟨n - 1, by omega⟩
    obtain ⟨bs, offs, rfl, hrsd⟩ := hrs (by omega)
    have hats := fun (L : List Own) => at_el (L := L) (f := clsL) (c := 4) (fun _ => rfl) (show Rd w bs offs ((C4.zero :: S).flatMap clsL) from hrsd) (k := q + 1) (by simp; omega)
    have hgd : S.getD q C4.zero = S[q]'(by omega) := by rw [List.getD_eq_getElem?_getD, List.getElem?_eq_getElem (by omega)]; rfl
    rw [show nextF m S (q + 1) = nextTo m.ps (S.getD q C4.zero) m.ps.follow.length from rfl, hgd]
    have hats : ∀ (L : List Own) (j : Nat) (u : Value), (clsL (S[q]'(by omega)))[j]? = some u → At (w : Base) L ⟨bs, offs + (q + 1) * 4 + j, none⟩ u := fun L j u hj => hats L j u hj
    clear hgd hrsd hrs hrf hfi
    generalize S[q]'(by omega) = s at *
    repeat (first
      | refine QV QP ?_ | refine QZ ?_ | refine qcT rfl ?_ | refine qcF rfl ?_ | refine E_blockX ?_ | refine E_blockO rfl ?_
      | refine QV (rr_eql (b := false) rfl rfl (decide_eq_false (by omega))) ?_ | refine QV (rr_nilc rfl) ?_
      | refine QV (rr_load1 (v := .slice ao m.ps.follow.length co) TyC.ty rfl (hm _ 3 _ rfl)) ?_ | refine QV QL ?_ | refine QV QA ?_
      | refine QV (rr_nilc rfl) ?_ | refine QV QlT ?_ | refine QV QlF ?_ | refine QV QeT ?_ | refine QV QeF ?_ | refine QV QaA ?_)
    refine T_loop (ι := Nat) (fun k => k ≤ m.ps.follow.length) (fun k => [(0, .pointer (some ⟨g, 0, none⟩)), (1, .int .i64 ((q + 1 : Nat) : Int)), (4, .pointer (some ⟨g4, 0, none⟩)), (5, .pointer (some ⟨g5, 0, none⟩)), (32, .slice ao m.ps.follow.length co), (33, .int .i64 m.ps.follow.length), (34, .int .i64 (k : Int))])
      (fun k => [blkO g4 (clsL C4.zero).toArray 119, blkO g5 (clsL (nextTo m.ps s k)).toArray 119]) (fun k => m.ps.follow.length - k) 0 (Nat.zero_le _) (by repeat' (first | exact True.intro | refine And.intro rfl ?_)) rfl ?_
    intro k hk
    by_cases c1 : k < m.ps.follow.length
    · obtain ⟨bo, offo, rfl, _, hrod⟩ := hro (by omega)
      obtain ⟨u, hu, hd⟩ := fol_at hrod c1
      have hatf := fun (L : List Own) => at_rd (L := L) hd (j := 0) (v := u) rfl
      have hrx := (hri _ (List.getElem_mem c1)).2
      have hgd : m.ps.follow.getD k [] = m.ps.follow[k] := by rw [List.getD_eq_getElem?_getD, List.getElem?_eq_getElem c1]; rfl
      have hst : nextTo m.ps s (k + 1) = if s.mem k = true then putAll (nextTo m.ps s k) m.ps.follow[k] else nextTo m.ps s k := by rw [nextTo, hgd]
      clear hgd
      obtain ⟨au, cu, rfl, _, hmu, hru⟩ := hu
      unfold maxLen at hmu
      generalize m.ps.follow[k] = l at *
      generalize nextTo m.ps s k = c at *
      repeat (first
        | refine QV QP ?_ | refine QZ ?_ | refine qcT rfl ?_ | refine qcF rfl ?_ | refine E_blockX ?_ | refine E_blockO rfl ?_
        | refine QV (rr_idxc Und.eq TyC.ty rfl rfl c1) ?_ | refine QV (rr_load1 (v := .slice au l.length cu) TyC.ty rfl (hatf _)) ?_ | refine QV (rr_nilc rfl) ?_
        | refine QV (rr_load1 (v := .slice (some ⟨bs, offs, none⟩) (S.length + 1) cs) TyC.ty rfl (hm _ 6 _ rfl)) ?_
        | refine QV (rr_idxc (j := q + 1) Und.eq TyC.ty rfl rfl (by omega)) ?_ | refine QV (rr_loadN (cs := clsL s) TyC.ty rfl rfl (hats _)) ?_ | refine QV QL ?_
        | refine QV QA ?_ | refine QV (rr_nilc rfl) ?_ | refine QV QlT ?_ | refine QV QlF ?_ | refine QV QeT ?_ | refine QV QeF ?_ | refine QV QaA ?_)
      have hhas := fun w => setHas_calls s k (by omega) w
      generalize hb : s.mem k = b at *
      refine TL_call (he2 EntersC.en rfl rfl rfl) (fun w hm => hhas w) rfl rfl rfl ?_
      intro _ _
      conv => arg 8; simp only [zA, zB, zC, zD, zE, zF, zG, zH, zI, rowS, ret, id_eq]
      by_cases c2 : b = true
      · subst c2
        rw [if_pos rfl] at hst
        repeat (first
          | refine QV QP ?_ | refine QZ ?_ | refine qcT rfl ?_ | refine qcF rfl ?_ | refine E_blockX ?_ | refine E_blockO rfl ?_ | refine QV QL ?_
          | refine QV QA ?_ | refine QV (rr_nilc rfl) ?_ | refine QV QlT ?_ | refine QV QlF ?_ | refine QV QeT ?_ | refine QV QeF ?_ | refine QV QaA ?_)
        refine T_loop (ι := Nat) (fun j => j ≤ l.length) (fun j => [(0, .pointer (some ⟨g, 0, none⟩)), (1, .int .i64 ((q + 1 : Nat) : Int)), (4, .pointer (some ⟨g4, 0, none⟩)), (5, .pointer (some ⟨g5, 0, none⟩)), (32, .slice (some ⟨bo, offo, none⟩) m.ps.follow.length co), (33, .int .i64 m.ps.follow.length), (34, .int .i64 (k : Int)), (48, .slice au l.length cu), (49, .int .i64 l.length), (50, .int .i64 (j : Int))])
          (fun j => [blkO g4 (clsL C4.zero).toArray 119, blkO g5 (clsL (putAll c (l.take j))).toArray 119]) (fun j => l.length - j) 0 (Nat.zero_le _) (by repeat' (first | exact True.intro | refine And.intro rfl ?_)) rfl ?_
        intro j hj
        by_cases c3 : j < l.length
        · have hx := hrx _ (List.getElem_mem c3)
          have hst2 := put_step c l c3
          obtain ⟨bf, offf, rfl, hrfd⟩ := hru (by omega)
          have hat := fun (L : List Own) => at_el (L := L) SmIn_len hrfd c3 0 _ rfl
          generalize l[j] = x at *
          generalize putAll c (l.take j) = c' at *
          obtain ⟨xn, rfl⟩ := Int.eq_ofNat_of_zero_le hx.1
          rw [Int.toNat_natCast] at hst2
          repeat (first
            | refine QV QP ?_ | refine QZ ?_ | refine qcT rfl ?_ | refine qcF rfl ?_ | refine E_blockX ?_ | refine E_blockO rfl ?_
            | refine QV (rr_idxc Und.eq TyC.ty rfl rfl c3) ?_ | refine QV (rr_load1 (v := .int .i64 (xn : Int)) TyC.ty rfl (hat _)) ?_ | refine QV QL ?_
            | refine QV QA ?_ | refine QV (rr_nilc rfl) ?_ | refine QV QlT ?_ | refine QV QlF ?_ | refine QV QeT ?_ | refine QV QeF ?_ | refine QV QaA ?_)
          refine TL_callB [1] [0] (by decide) rfl rfl (he2 EntersC.en rfl rfl rfl) (fun w hm hb => setPut_calls c' xn (by omega) g5 w _ hb) rfl rfl rfl ?_
          intro _ _
          conv => arg 8; simp only [zA, zB, zC, zD, zE, zF, zG, zH, zI, rowS, ret, id_eq]
          repeat (first
            | refine QV QP ?_ | refine QZ ?_ | refine qcT rfl ?_ | refine qcF rfl ?_ | refine E_blockX ?_ | refine E_blockO rfl ?_ | refine QV QL ?_
            | refine QV QA ?_ | refine QV (rr_nilc rfl) ?_ | refine QV QlT ?_ | refine QV QlF ?_ | refine QV QeT ?_ | refine QV QeF ?_ | refine QV QaA ?_)
          exact E_round (j + 1) (by omega) (by show l.length - (j + 1) < l.length - j; omega) (by repeat' (first | exact True.intro | refine And.intro rfl ?_)) (by rw [hst2])
        · obtain rfl : j = l.length := by omega
          rw [List.take_of_length_le (Nat.le_refl _)]
          repeat (first
            | refine QV QP ?_ | refine QZ ?_ | refine qcT rfl ?_ | refine qcF rfl ?_ | refine E_blockX ?_ | refine E_blockO rfl ?_ | refine QV QL ?_
            | refine QV QA ?_ | refine QV (rr_nilc rfl) ?_ | refine QV QlT ?_ | refine QV QlF ?_ | refine QV QeT ?_ | refine QV QeF ?_ | refine QV QaA ?_)
          exact E_round (k + 1) (by omega) (by show m.ps.follow.length - (k + 1) < m.ps.follow.length - k; omega) (by repeat' (first | exact True.intro | refine And.intro rfl ?_)) (by rw [hst])
      · rw [if_neg c2] at hst
        obtain rfl := Bool.eq_false_iff.2 c2
        repeat (first
          | refine QV QP ?_ | refine QZ ?_ | refine qcT rfl ?_ | refine qcF rfl ?_ | refine E_blockX ?_ | refine E_blockO rfl ?_ | refine QV QL ?_
          | refine QV QA ?_ | refine QV (rr_nilc rfl) ?_ | refine QV QlT ?_ | refine QV QlF ?_ | refine QV QeT ?_ | refine QV QeF ?_ | refine QV QaA ?_)
        exact E_round (k + 1) (by omega) (by show m.ps.follow.length - (k + 1) < m.ps.follow.length - k; omega) (by repeat' (first | exact True.intro | refine And.intro rfl ?_)) (by rw [hst])
    · obtain rfl : k = m.ps.follow.length := by omega
      generalize nextTo m.ps s m.ps.follow.length = c at *
      repeat (first
        | refine QV QP ?_ | refine QZ ?_ | refine qcT rfl ?_ | refine qcF rfl ?_ | refine E_blockX ?_ | refine E_blockO rfl ?_
        | refine QV (rr_loadB (i := 1) TyC.ty rfl rfl rfl) ?_ | refine QV QL ?_ | refine QV QA ?_ | refine QV (rr_nilc rfl) ?_ | refine QV QlT ?_
        | refine QV QlF ?_ | refine QV QeT ?_ | refine QV QeF ?_ | refine QV QaA ?_)
      refine TL_storeB (i := 0) (cs' := (clsL c).toArray) rfl rfl rfl rfl rfl rfl ?_
      conv => arg 8; simp only [zA, zB, zC, zD, zE, zF, zG, zH, zI, rowS, ret, id_eq]
      repeat (first
        | refine QV QP ?_ | refine QZ ?_ | refine qcT rfl ?_ | refine qcF rfl ?_ | refine E_blockX ?_ | refine E_blockO rfl ?_ | refine QV QL ?_
        | refine QV QA ?_ | refine QV (rr_nilc rfl) ?_ | refine QV QlT ?_ | refine QV QlF ?_ | refine QV QeT ?_ | refine QV QeF ?_ | refine QV QaA ?_)
      exact E_retc1 (i := 0) rfl rfl rfl rfl fun w hm => hm.ret
end Go.Proofs.Ytkmemlnkijinlaa.eng

/- LookOk -/
namespace Go.Proofs.Ytkmemlnkijinlaa.eng
open Go.RowKit kit mix
section
variable {P : Program} {k : TypeId} {κ : Type} (K : KeyT P k κ)
variable {n : Nat} {W : Base} {fr : Fr} {L : List Own} {dst : Option Tmp} {ty : TypeId} {pos : String} {after : Array Edge} {guard : Option (Nat × Bool)} {i g c : Nat} {t e : TypeId} {m : κ → Option Value} {x : κ} {z v : Value} {xm xk : Operand}
theorem rr_lookOkS (ht : P.underlying t = some (.map k e)) (hz : ∀ w, (zeroValue e).run P w = .ok z w) (hi : L[i]? = some (mapO K g m c)) (hm : ev fr xm = some (.map (some g))) (hk : ev fr xk = some (K.kv x)) (hx : K.ok x) (hv : m x = some v) : RR P n W ⟨dst, .lookup t xm xk true, ty, pos, after, guard⟩ fr L (.tuple #[v, .bool true]) := by
  have := rr_lookOk K (n := n) (W := W) (dst := dst) (ty := ty) (pos := pos) (after := after) (guard := guard) ht hz hi hm hk hx
  rw [hv] at this; exact this
theorem rr_lookOkN (ht : P.underlying t = some (.map k e)) (hz : ∀ w, (zeroValue e).run P w = .ok z w) (hi : L[i]? = some (mapO K g m c)) (hm : ev fr xm = some (.map (some g))) (hk : ev fr xk = some (K.kv x)) (hx : K.ok x) (hv : m x = none) : RR P n W ⟨dst, .lookup t xm xk true, ty, pos, after, guard⟩ fr L (.tuple #[z, .bool false]) := by
  have := rr_lookOk K (n := n) (W := W) (dst := dst) (ty := ty) (pos := pos) (after := after) (guard := guard) ht hz hi hm hk hx
  rw [hv] at this; exact this
end
end Go.Proofs.Ytkmemlnkijinlaa.eng

/- DfT -/
namespace Go.Proofs.Ytkmemlnkijinlaa.eng
open Go.RowKit kit mix classL rexL placesL dfaP smallL
theorem setLaid : laidOutB Try.prog = true := by kernel_rfl
theorem setRow : (119 : TypeId) < Try.prog.types.size := of_decide_eq_true (by kernel_rfl)
theorem setWide : (match Try.prog.underlying 119 with | some (.array _ _) | some (.struct _) => true | _ => false) = true := by kernel_rfl
theorem set_key (x : C4) : ∃ l, keyOf Try.prog 119 (clsV x) = some l := by
  obtain ⟨a, b, c, d⟩ := x
  have e1 : Try.prog.keyType 119 = true := by kernel_rfl
  have e2 : Try.prog.cellsOf 119 = 4 := by kernel_rfl
  have e3 : Try.prog.cellsOf 58 = 1 := by kernel_rfl
  have e4 : ∃ d, Try.prog.types.size + 1 = d + 2 := ⟨Try.prog.types.size - 1, by have : 0 < Try.prog.types.size := Nat.lt_of_le_of_lt (Nat.zero_le 119) setRow; omega⟩
  obtain ⟨dd, e4⟩ := e4
  have key : ∀ v : BitVec 64, Try.prog.keyLits (dd + 1) 58 [.int .u64 (n64 v)] = some [.int .u64 (n64 v)] := fun v => by
    have hw : (Lit.int .u64 (n64 v)).wf = true := by
      have h0 := n64_lo v
      have h1 := n64_hi v
      simp [Lit.wf, IntKind.min, IntKind.max, IntKind.signed, IntKind.bits, h0, h1]
    simp [Program.keyLits, Try.underlying58, hw]
  have hl : Try.prog.keyLits (dd + 2) 119 [.int .u64 (n64 a), .int .u64 (n64 b), .int .u64 (n64 c), .int .u64 (n64 d)] = some [.int .u64 (n64 a), .int .u64 (n64 b), .int .u64 (n64 c), .int .u64 (n64 d)] := by
    unfold Program.keyLits
    simp [Try.underlying119, e2, e3, List.range_succ_eq_map, key]
  have hf : (clsV ⟨a, b, c, d⟩).formed Try.prog 119 = true := by simp [clsV, Value.formed, Try.underlying119, e2]
  unfold keyOf
  rw [Try.underlying119]
  refine ⟨.string (keyBytes ([.int .u64 (n64 a), .int .u64 (n64 b), .int .u64 (n64 c), .int .u64 (n64 d)])), ?_⟩
  show (if (Try.prog.keyType 119 && (clsV ⟨a, b, c, d⟩).formed Try.prog 119) = true then (Try.prog.keyLits (Try.prog.types.size + 1) 119 [.int .u64 (n64 a), .int .u64 (n64 b), .int .u64 (n64 c), .int .u64 (n64 d)]).map (fun ls => Lit.string (keyBytes ls)) else none) = _
  rw [e1, hf, e4, hl]
  rfl
set_option maxRecDepth 100000 in
/-- sets as keys -/
def setK : KeyT Try.prog 119 C4 where
  kv := clsV
  ok _ := True
  law := deep_law_laid setLaid (m := 2) (by omega) setRow (by kernel_rfl) setWide
  key x _ := set_key x
  inj x y h := by
    simp only [clsV, Value.agg.injEq, Array.mk.injEq, List.cons.injEq, Value.int.injEq, true_and, and_true] at h
    exact C4.ext' (n64_inj h.1) (n64_inj h.2.1) (n64_inj h.2.2.1) (n64_inj h.2.2.2)
theorem zeroIntD (w : World) : (zeroValue 3).run Try.prog w = .ok (.int .i64 0) w := by kernel_rfl
/-- numbered from 1 on -/
def mapAt1 (D : List C4) (x : C4) : Option Value := if x ∈ D then some (.int .i64 ((idx D x + 1 : Nat) : Int)) else none
theorem mapAt1_add {D : List C4} {x : C4} (hn : x ∉ D) : (fun y => if y = x then some (.int .i64 ((D.length + 1 : Nat) : Int)) else mapAt1 D y) = mapAt1 (D ++ [x]) := by
  funext y
  unfold mapAt1
  by_cases c : y = x
  · subst c
    rw [if_pos rfl, if_pos (by simp)]
    have := idx_more (D := D) (k := y)
    unfold more at this
    rw [if_neg hn, if_neg hn] at this
    rw [this]
  · rw [if_neg c]
    by_cases c2 : y ∈ D
    · rw [if_pos c2, if_pos (List.mem_append_left _ c2), idx_pre c2]
    · rw [if_neg c2, if_neg (by simp [c, c2])]
theorem mapAt1_nil : (fun (_ : C4) => (none : Option Value)) = mapAt1 [] := by funext y; unfold mapAt1; rw [if_neg (by simp)]
abbrev setsO (vs : Value) (S : List C4) : Own := rowO 119 4 vs (S.length + 1) (setL S)
abbrev numO (gm : Nat) (S : List C4) : Own := mapO setK gm (mapAt1 S) S.length
/-- the maker and what it has -/
def dmL (vc vr vf vfol vl ve rows : Value) (g gm : Nat) (vs vt : Value) (d : DM) : List Own :=
  [blkO g (dmC vc vr vf vfol vl ve vs (.map (some gm)) rows vt) 112, setsO vs d.S, numO gm d.S, intR vt d.tags]
def stSp (p : PS) (vc vr vf vfol vl ve rows : Value) (g gm : Nat) (d : DM) (s : C4) : Spec (Value × Value) :=
  ⟨fun _ => True, fun _ => .int .i64 ((stateF p d s).1 : Int), fun x => dmL vc vr vf vfol vl ve rows g gm x.1 x.2 (stateF p d s).2⟩
theorem int_snoc (v : Value) (l : List Int) (x : Int) : intR v (l ++ [x]) = rowO 3 1 v (l.length + 1) (l.map (Value.int .i64) ++ [.int .i64 x]) := by
  unfold intR; rw [List.length_append, List.map_append]; rfl
theorem setL_snoc (S : List C4) (s : C4) : setL (S ++ [s]) = setL S ++ clsL s := by
  unfold setL
  rw [← List.cons_append, List.flatMap_append]; simp
theorem set_one (s : C4) : ∀ u ∈ clsL s, u.oneCell' = true := by
  intro u h
  simp only [clsL, List.mem_cons, List.not_mem_nil, or_false] at h
  rcases h with rfl | rfl | rfl | rfl <;> rfl
theorem tag_step (p : PS) (s : C4) (i : Nat) : tagTo p s (i + 1) = if s.mem i = true ∧ p.last.getD i false = true ∧ (tagTo p s i < 0 ∨ p.rules.getD i 0 < tagTo p s i) then p.rules.getD i 0 else tagTo p s i := rfl
theorem numO_add {S : List C4} {s : C4} {gm : Nat} (hn : s ∉ S) : mapO setK gm (fun y => if y = s then some (.int .i64 ((S.length + 1 : Nat) : Int)) else mapAt1 S y) (if (mapAt1 S s).isSome then S.length else S.length + 1) = numO gm (S ++ [s]) := by
  rw [mapAt1_add hn, show mapAt1 S s = none from if_neg hn]
  unfold numO
  rw [List.length_append]; rfl
attribute [local irreducible] Op.shift Go.bits in
set_option maxHeartbeats 8000000 in
theorem dfaState_calls (m : MS) (vc vr vf vfol vl ve rows : Value) (d : DM) (s : C4) (g gm : Nat) (vs vt : Value) (w0 : World) (hp : PosR w0 (.agg #[vc, vr, vf, vfol, vl, ve]) m) (h : MOkP m) (hd : d.S.length ≤ 100000) (hdt : d.tags.length ≤ 100001) (w : World) (B : Base) (ho : Old w0 B)
    (hm : Mem B (dmL vc vr vf vfol vl ve rows g gm vs vt d) w) :
    Calls Try.prog 53 #[.pointer (some ⟨g, 0, none⟩), clsV s] w (MeetsB (stSp m.ps vc vr vf vfol vl ve rows g gm d s) B) := by
  obtain ⟨_, _, _, _, _, _, he, h1, h2, h3, h4, h5, h6⟩ := hp
  simp only [Value.agg.injEq, Array.mk.injEq, List.cons.injEq, and_true] at he
  obtain ⟨rfl, rfl, rfl, rfl, rfl, rfl⟩ := he
  have hmf := h.few
  have hlr := h.ok.ps.rules
  have hll := h.ok.ps.last
  have hmr := h.rules
  clear h h3 h4 h6
  obtain ⟨ac, cc, rfl, -⟩ := h1
  obtain ⟨ar, cr, rfl, -, hmar, hrr⟩ := h2
  obtain ⟨al, cl, rfl, -, hmal, hrl⟩ := h5
  unfold dmL at hm
  unfold stSp
  obtain ⟨S, tags⟩ := d
  obtain ⟨p, fi, em⟩ := m
  dsimp only at *
  refine enterB hm (args := [.pointer (some ⟨g, 0, none⟩), clsV s]) (n := 105) Try.func53 rfl rfl rfl ?_
  clear hm
  refine T_seq (T_region (TL_box rfl rfl rfl fun g3 => ?_))
  conv => arg 8; simp only [zA, zB, zC, zD, zE, zF, zG, zH, zI, rowS, ret, id_eq]
  by_cases c1 : s ∈ S
  · have hst : stateF p ⟨S, tags⟩ s = (idx S s + 1, ⟨S, tags⟩) := if_pos c1
    have hlk : mapAt1 S s = some (.int .i64 ((idx S s + 1 : Nat) : Int)) := if_pos c1
    rw [hst]
    repeat (first
      | refine QV QP ?_ | refine QZ ?_ | refine qcT rfl ?_ | refine qcF rfl ?_ | refine E_blockX ?_ | refine E_blockO rfl ?_
      | refine qs rfl rfl rfl rfl rfl rfl ?_
      | ((try refine qg rfl rfl rfl ?_); first | refine QV QP ?_ | refine QV QL ?_ | refine QV QA ?_ | refine QV (rr_nilc rfl) ?_ | refine QV QlT ?_ | refine QV QlF ?_ | refine QV QaA ?_ | refine QV QaS ?_))
    refine T_ord ([blkO g (dmC (.slice ac p.classes.length cc) (.slice ar p.rules.length cr) vf vfol (.slice al p.last.length cl) ve vs (.map (some gm)) rows vt) 112, numO gm S, blkO g3 (clsL s).toArray 119]) (.calm 0 (.calm 1 (.calm 2 (.calm 3 (.calm 4 (.calm 5 (.calm 6 (.calm 7 (.calm 8 (.calm 9 (.calm 10 (.done)))))))))))) (sub_pick [0, 2, 4] (by decide) rfl) (by kernel_rfl) (by kernel_rfl) (by intro c a d v w h; cases d <;> exact h) ?_
    repeat (first
      | ((first | refine TW_plain rfl rfl ?_ | refine TW_gmet rfl rfl rfl rfl ?_); first | refine QW QP ?_ | refine QW (rr_nilc rfl) ?_ | refine QW (rr_load1 (v := .map (some gm)) TyC.ty rfl (at_blk (i := 0) rfl rfl)) ?_ | refine QW (rr_loadB (i := 2) TyC.ty rfl rfl rfl) ?_ | refine QW (rr_lookOkS setK (x := s) Und.eq zeroIntD (i := 1) rfl rfl rfl trivial hlk) ?_ | refine QW QL ?_ | refine QW QA ?_ | refine QW (rr_nilc rfl) ?_ | refine QW QlT ?_ | refine QW QlF ?_ | refine QW QaA ?_ | refine QW QaS ?_)
      | refine TW_skip rfl rfl rfl rfl rfl rfl rfl ?_ | refine TW_done ?_)
    repeat (first
      | refine QV QP ?_ | refine QZ ?_ | refine qcT rfl ?_ | refine qcF rfl ?_ | refine E_blockX ?_ | refine E_blockO rfl ?_
      | refine qs rfl rfl rfl rfl rfl rfl ?_
      | ((try refine qg rfl rfl rfl ?_); first | refine QV QP ?_ | refine QV QL ?_ | refine QV QA ?_ | refine QV (rr_nilc rfl) ?_ | refine QV QlT ?_ | refine QV QlF ?_ | refine QV QaA ?_ | refine QV QaS ?_))
    refine E_pick [0, 1, 2, 3] (by decide) rfl ?_
    exact E_ret1 rfl rfl fun w hm => hm.meetsB (S := ⟨fun (_ : Value × Value) => True, fun _ => .int .i64 ((idx S s + 1 : Nat) : Int), fun x => dmL (.slice ac p.classes.length cc) (.slice ar p.rules.length cr) vf vfol (.slice al p.last.length cl) ve rows g gm x.1 x.2 ⟨S, tags⟩⟩) (vs, vt) trivial [0, 1, 2, 3] (by decide) rfl
  · have hst : stateF p ⟨S, tags⟩ s = (S.length + 1, ⟨S ++ [s], tags ++ [tagF p s]⟩) := if_neg c1
    have hlk : mapAt1 S s = none := if_neg c1
    rw [hst]
    refine TL_know (i := 1) rfl row_slm fun hrow => ?_
    obtain ⟨ab, cs, rfl, hmS, -⟩ := hrow
    repeat (first
      | refine QV QP ?_ | refine QZ ?_ | refine qcT rfl ?_ | refine qcF rfl ?_ | refine E_blockX ?_ | refine E_blockO rfl ?_
      | refine qs rfl rfl rfl rfl rfl rfl ?_
      | ((try refine qg rfl rfl rfl ?_); first | refine QV QP ?_ | refine QV QL ?_ | refine QV QA ?_ | refine QV (rr_nilc rfl) ?_ | refine QV QlT ?_ | refine QV QlF ?_ | refine QV QaA ?_ | refine QV QaS ?_))
    refine T_ord ([blkO g (dmC (.slice ac p.classes.length cc) (.slice ar p.rules.length cr) vf vfol (.slice al p.last.length cl) ve (.slice ab (S.length + 1) cs) (.map (some gm)) rows vt) 112, numO gm S, blkO g3 (clsL s).toArray 119]) (.calm 0 (.calm 1 (.calm 2 (.calm 3 (.calm 4 (.calm 5 (.calm 6 (.calm 7 (.calm 8 (.calm 9 (.calm 10 (.done)))))))))))) (sub_pick [0, 2, 4] (by decide) rfl) (by kernel_rfl) (by kernel_rfl) (by intro c a d v w h; cases d <;> exact h) ?_
    repeat (first
      | ((first | refine TW_plain rfl rfl ?_ | refine TW_gmet rfl rfl rfl rfl ?_); first | refine QW QP ?_ | refine QW (rr_nilc rfl) ?_ | refine QW (rr_load1 (v := .map (some gm)) TyC.ty rfl (at_blk (i := 0) rfl rfl)) ?_ | refine QW (rr_loadB (i := 2) TyC.ty rfl rfl rfl) ?_ | refine QW (rr_lookOkN setK (x := s) Und.eq zeroIntD (i := 1) rfl rfl rfl trivial hlk) ?_ | refine QW QL ?_ | refine QW QA ?_ | refine QW (rr_nilc rfl) ?_ | refine QW QlT ?_ | refine QW QlF ?_ | refine QW QaA ?_ | refine QW QaS ?_)
      | refine TW_skip rfl rfl rfl rfl rfl rfl rfl ?_ | refine TW_done ?_)
    repeat (first
      | refine QV QP ?_ | refine QZ ?_ | refine qcT rfl ?_ | refine qcF rfl ?_ | refine E_blockX ?_ | refine E_blockO rfl ?_
      | refine qs rfl rfl rfl rfl rfl rfl ?_
      | ((try refine qg rfl rfl rfl ?_); first | refine QV QP ?_ | refine QV QL ?_ | refine QV QA ?_ | refine QV (rr_nilc rfl) ?_ | refine QV QlT ?_ | refine QV QlF ?_ | refine QV QaA ?_ | refine QV QaS ?_))
    (repeat refine T_seq ?_)
    refine T_midq (ι := Unit) (fun _ => True) (fun _ => [(0, .pointer (some ⟨g, 0, none⟩)), (3, .pointer (some ⟨g3, 0, none⟩))]) (fun _ => [blkO g (dmC (.slice ac p.classes.length cc) (.slice ar p.rules.length cr) vf vfol (.slice al p.last.length cl) ve (.slice ab (S.length + 1) cs) (.map (some gm)) rows vt) 112, setsO (.slice ab (S.length + 1) cs) S, numO gm (S ++ [s]), intR vt tags, blkO g3 (clsL s).toArray 119]) ?_ ?_
    · refine T_ord ([blkO g (dmC (.slice ac p.classes.length cc) (.slice ar p.rules.length cr) vf vfol (.slice al p.last.length cl) ve (.slice ab (S.length + 1) cs) (.map (some gm)) rows vt) 112, blkO g3 (clsL s).toArray 119]) (.calm 0 (.calm 1 (.calm 2 (.calm 3 (.calm 4 (.calm 5 (.calm 6 (.calm 7 (.calm 8 (.calm 9 (.one 10 (.done)))))))))))) (sub_pick [0, 4] (by decide) rfl) (by kernel_rfl) (by kernel_rfl) (by intro c a d v w h; cases d <;> exact h) ?_
      repeat (first
        | ((first | refine TW_plain rfl rfl ?_ | refine TW_gmet rfl rfl rfl rfl ?_); first | refine QW QP ?_ | refine QW (rr_nilc rfl) ?_ | refine QW (rr_load1 (v := .map (some gm)) TyC.ty rfl (at_blk (i := 0) rfl rfl)) ?_ | refine QW (rr_loadB (i := 1) TyC.ty rfl rfl rfl) ?_ | refine QW (rr_load1 (v := .slice ab (S.length + 1) cs) TyC.ty rfl (at_blk (i := 0) rfl rfl)) ?_ | refine QW QL ?_ | refine QW QA ?_ | refine QW (rr_nilc rfl) ?_ | refine QW QlT ?_ | refine QW QlF ?_ | refine QW QaA ?_ | refine QW QaS ?_)
        | refine TW_skip rfl rfl rfl rfl rfl rfl rfl ?_ | refine TW_done ?_)
      refine TW_one rfl (TL_mapSet setK (i := 2) (x := s) Und.eq rfl rfl rfl rfl trivial (by omega) (TW_on (sub_pick [0, 4] (by decide) rfl) ?_))
      repeat (first
        | ((first | refine TW_plain rfl rfl ?_ | refine TW_gmet rfl rfl rfl rfl ?_); first | refine QW QP ?_ | refine QW QL ?_ | refine QW QA ?_ | refine QW (rr_nilc rfl) ?_ | refine QW QlT ?_ | refine QW QlF ?_ | refine QW QaA ?_ | refine QW QaS ?_)
        | refine TW_skip rfl rfl rfl rfl rfl rfl rfl ?_ | refine TW_done ?_)
      exact E_mid () trivial (by repeat' (first | exact True.intro | refine And.intro rfl ?_)) (by rw [← numO_add c1]; rfl)
    intro _ _
    (repeat refine T_seq ?_)
    refine T_midq (ι := Value) (fun _ => True) (fun _ => [(0, .pointer (some ⟨g, 0, none⟩)), (3, .pointer (some ⟨g3, 0, none⟩))]) (fun vs' => [blkO g (dmC (.slice ac p.classes.length cc) (.slice ar p.rules.length cr) vf vfol (.slice al p.last.length cl) ve vs' (.map (some gm)) rows vt) 112, setsO vs' (S ++ [s]), numO gm (S ++ [s]), intR vt tags, blkO g3 (clsL s).toArray 119]) ?_ ?_
    · refine T_ord ([blkO g3 (clsL s).toArray 119]) (.calm 0 (.calm 1 (.calm 2 (.calm 3 (.calm 5 (.two 4 (.one 6 (.one 7 (.calm 8 (.calm 9 (.one 10 (.done)))))) 6 (.one 4 (.one 7 (.calm 8 (.calm 9 (.one 10 (.done)))))))))))) (sub_pick [4] (by decide) rfl) (by kernel_rfl) (by kernel_rfl) (by intro c a d v w h; cases d <;> exact h) ?_
      repeat (first
        | ((first | refine TW_plain rfl rfl ?_ | refine TW_gmet rfl rfl rfl rfl ?_); first | refine QW QP ?_ | refine QW (rr_nilc rfl) ?_ | refine QW (rr_loadB (i := 0) TyC.ty rfl rfl rfl) ?_ | refine QW QL ?_ | refine QW QA ?_ | refine QW (rr_nilc rfl) ?_ | refine QW QlT ?_ | refine QW QlF ?_ | refine QW QaA ?_ | refine QW QaS ?_)
        | refine TW_skip rfl rfl rfl rfl rfl rfl rfl ?_ | refine TW_done ?_)
      refine TW_two rfl rfl ?_ ?_
      · refine TL_val (rr_load1 (v := .slice ab (S.length + 1) cs) TyC.ty rfl (at_blk (i := 0) rfl rfl)) rfl rfl rfl (TW_on (sub_pick [4] (by decide) rfl) ?_)
        refine TW_one rfl (TL_litN (cs := (clsL s).toArray) [clsV s] rfl rfl rfl (by intro v hv; simp at hv; subst hv; rfl) rfl rfl rfl fun g36 => (TW_on (sub_pick [4] (by decide) rfl) ?_))
        refine TW_one rfl (TL_appSl (i := 1) (e := 119) (size := 4) (bytes := 32) (m := S.length + 1) (xs := setL S) (k := 1) (ys := clsL s) rfl (sl_blk (i := 5) rfl (fun j u h => by simpa using h) (Nat.le_refl 1) (by decide)) rfl rfl rfl (fun u hu => set_one s u hu) (by omega) (by omega) rfl fun vs' => (TW_on (sub_pick [4] (by decide) rfl) ?_))
        repeat (first
          | ((first | refine TW_plain rfl rfl ?_ | refine TW_gmet rfl rfl rfl rfl ?_); first | refine QW QP ?_ | refine QW (rr_nilc rfl) ?_ | refine QW QL ?_ | refine QW QA ?_ | refine QW (rr_nilc rfl) ?_ | refine QW QlT ?_ | refine QW QlF ?_ | refine QW QaA ?_ | refine QW QaS ?_)
          | refine TW_skip rfl rfl rfl rfl rfl rfl rfl ?_ | refine TW_done ?_)
        refine TW_one rfl (TL_slv (i := 1) rfl fun hv1 hv2 => TL_store1 (i := 0) rfl rfl rfl hv1 hv2 rfl (TW_on (sub_pick [4] (by decide) rfl) ?_))
        repeat (first
          | ((first | refine TW_plain rfl rfl ?_ | refine TW_gmet rfl rfl rfl rfl ?_); first | refine QW QP ?_ | refine QW QL ?_ | refine QW QA ?_ | refine QW (rr_nilc rfl) ?_ | refine QW QlT ?_ | refine QW QlF ?_ | refine QW QaA ?_ | refine QW QaS ?_)
          | refine TW_skip rfl rfl rfl rfl rfl rfl rfl ?_ | refine TW_done ?_)
        refine E_pick [0, 1, 2, 3, 4] (by decide) rfl ?_
        exact E_mid vs' trivial (by repeat' (first | exact True.intro | refine And.intro rfl ?_)) (by unfold setsO; rw [setL_snoc, List.length_append]; rfl)
      · refine TL_litN (cs := (clsL s).toArray) [clsV s] rfl rfl rfl (by intro v hv; simp at hv; subst hv; rfl) rfl rfl rfl fun g36 => (TW_on (sub_pick [4] (by decide) rfl) ?_)
        refine TW_one rfl (TL_val (rr_load1 (v := .slice ab (S.length + 1) cs) TyC.ty rfl (at_blk (i := 0) rfl rfl)) rfl rfl rfl (TW_on (sub_pick [4] (by decide) rfl) ?_))
        refine TW_one rfl (TL_appSl (i := 1) (e := 119) (size := 4) (bytes := 32) (m := S.length + 1) (xs := setL S) (k := 1) (ys := clsL s) rfl (sl_blk (i := 5) rfl (fun j u h => by simpa using h) (Nat.le_refl 1) (by decide)) rfl rfl rfl (fun u hu => set_one s u hu) (by omega) (by omega) rfl fun vs' => (TW_on (sub_pick [4] (by decide) rfl) ?_))
        repeat (first
          | ((first | refine TW_plain rfl rfl ?_ | refine TW_gmet rfl rfl rfl rfl ?_); first | refine QW QP ?_ | refine QW (rr_nilc rfl) ?_ | refine QW QL ?_ | refine QW QA ?_ | refine QW (rr_nilc rfl) ?_ | refine QW QlT ?_ | refine QW QlF ?_ | refine QW QaA ?_ | refine QW QaS ?_)
          | refine TW_skip rfl rfl rfl rfl rfl rfl rfl ?_ | refine TW_done ?_)
        refine TW_one rfl (TL_slv (i := 1) rfl fun hv1 hv2 => TL_store1 (i := 0) rfl rfl rfl hv1 hv2 rfl (TW_on (sub_pick [4] (by decide) rfl) ?_))
        repeat (first
          | ((first | refine TW_plain rfl rfl ?_ | refine TW_gmet rfl rfl rfl rfl ?_); first | refine QW QP ?_ | refine QW QL ?_ | refine QW QA ?_ | refine QW (rr_nilc rfl) ?_ | refine QW QlT ?_ | refine QW QlF ?_ | refine QW QaA ?_ | refine QW QaS ?_)
          | refine TW_skip rfl rfl rfl rfl rfl rfl rfl ?_ | refine TW_done ?_)
        refine E_pick [0, 1, 2, 3, 4] (by decide) rfl ?_
        exact E_mid vs' trivial (by repeat' (first | exact True.intro | refine And.intro rfl ?_)) (by unfold setsO; rw [setL_snoc, List.length_append]; rfl)
    clear hmS
    intro vs' _
    refine T_know (i := 1) rfl row_slm fun hrow => ?_
    obtain ⟨ab', cs', rfl, hmS, -⟩ := hrow
    repeat (first
      | refine QV QP ?_ | refine QZ ?_ | refine qcT rfl ?_ | refine qcF rfl ?_ | refine E_blockX ?_ | refine E_blockO rfl ?_
      | refine qs rfl rfl rfl rfl rfl rfl ?_
      | ((try refine qg rfl rfl rfl ?_); first | refine QV QP ?_ | refine QV (rr_nilc rfl) ?_ | refine QV (rr_load1 (v := .slice ac p.classes.length cc) TyC.ty rfl (at_blk (i := 0) rfl rfl)) ?_ | refine QV QL ?_ | refine QV QA ?_ | refine QV (rr_nilc rfl) ?_ | refine QV QlT ?_ | refine QV QlF ?_ | refine QV QaA ?_ | refine QV QaS ?_))
    refine T_loop (ι := Nat × Int) (fun (k, t) => k ≤ p.classes.length ∧ t = tagTo p s k) (fun (k, t) => [(0, .pointer (some ⟨g, 0, none⟩)), (3, .pointer (some ⟨g3, 0, none⟩)), (7, .int .i64 t), (45, .int .i64 p.classes.length), (46, .int .i64 (k : Int))])
      (fun _ => [blkO g (dmC (.slice ac p.classes.length cc) (.slice ar p.rules.length cr) vf vfol (.slice al p.last.length cl) ve (.slice ab' ((S ++ [s]).length + 1) cs') (.map (some gm)) rows vt) 112, setsO (.slice ab' ((S ++ [s]).length + 1) cs') (S ++ [s]), numO gm (S ++ [s]), intR vt tags, blkO g3 (clsL s).toArray 119]) (fun (k, _) => p.classes.length - k) (0, -1) ⟨Nat.zero_le _, rfl⟩ (by repeat' (first | exact True.intro | refine And.intro rfl ?_)) rfl ?_
    rintro ⟨k, t⟩ ⟨hk, ht⟩
    dsimp only at hk ht ⊢
    by_cases q1 : k < p.classes.length
    · have hst := tag_step p s k
      have hkr : k < p.rules.length := by omega
      have hkl : k < p.last.length := by omega
      rw [List.getD_eq_getElem?_getD (l := p.rules), List.getElem?_eq_getElem hkr, Option.getD_some, List.getD_eq_getElem?_getD (l := p.last), List.getElem?_eq_getElem hkl, Option.getD_some] at hst
      obtain ⟨br, offr, rfl, hrrd⟩ := hrr (by omega)
      obtain ⟨bl, offl, rfl, hrld⟩ := hrl (by omega)
      have hatr := fun (L : List Own) => at_elO (L := L) SmIn_len ho hrrd hkr 0 _ rfl
      have hatl := fun (L : List Own) => at_elO (L := L) BoE_len ho hrld hkl 0 _ rfl
      have hr0 := (hmr _ (List.getElem_mem hkr)).1
      have hhas := fun w => setHas_calls s k (by omega) w
      clear hrrd hrld hrr hrl hmr
      generalize p.rules[k] = r at *
      generalize p.last[k] = lb at *
      generalize s.mem k = b at *
      rw [← ht] at hst
      clear ht
      have hatr' : ∀ (L : List Own), At B L ⟨br, offr + k * 1 + 0, none⟩ (.int .i64 r) := hatr
      have hatl' : ∀ (L : List Own), At B L ⟨bl, offl + k * 1 + 0, none⟩ (.bool lb) := hatl
      repeat (first
        | refine QV QP ?_ | refine QZ ?_ | refine qcT rfl ?_ | refine qcF rfl ?_ | refine E_blockX ?_ | refine E_blockO rfl ?_
        | refine qs rfl rfl rfl rfl rfl rfl ?_
        | ((try refine qg rfl rfl rfl ?_); first | refine QV QP ?_ | refine QV (rr_loadB (i := 4) TyC.ty rfl rfl rfl) ?_ | refine QV QL ?_ | refine QV QA ?_ | refine QV (rr_nilc rfl) ?_ | refine QV QlT ?_ | refine QV QlF ?_ | refine QV QaA ?_ | refine QV QaS ?_))
      refine TL_call (he2 EntersC.en rfl rfl rfl) (fun w hm => hhas w) rfl rfl rfl ?_
      intro _ _
      conv => arg 8; simp only [zA, zB, zC, zD, zE, zF, zG, zH, zI, rowS, ret, id_eq]
      have skip : ∀ (_ : ¬(b = true ∧ lb = true ∧ (t < 0 ∨ r < t))), tagTo p s (k + 1) = t := fun h => by rw [hst, if_neg h]
      have take : b = true ∧ lb = true ∧ (t < 0 ∨ r < t) → tagTo p s (k + 1) = r := fun h => by rw [hst, if_pos h]
      clear hst
      by_cases q2 : b = true
      · subst q2
        by_cases q3 : lb = true
        · subst q3
          by_cases q4 : t < 0
          · have e := (take ⟨rfl, rfl, .inl q4⟩).symm
            repeat (first
              | refine QV QP ?_ | refine QZ ?_ | refine qcT rfl ?_ | refine qcF rfl ?_ | refine E_blockX ?_ | refine E_blockO rfl ?_
              | refine qs rfl rfl rfl rfl rfl rfl ?_
              | ((try refine qg rfl rfl rfl ?_); first | refine QV QP ?_ | refine QV (rr_nilc rfl) ?_ | refine QV (rr_load1 (v := .slice (some ⟨bl, offl, none⟩) p.last.length cl) TyC.ty rfl (at_blk (i := 0) rfl rfl)) ?_ | refine QV (rr_idxc Und.eq TyC.ty rfl rfl hkl) ?_ | refine QV (rr_load1 (v := .bool true) TyC.ty rfl (hatl' _)) ?_ | refine QV (rr_lss (b := true) rfl rfl (decide_eq_true q4)) ?_ | refine QV (rr_load1 (v := .slice (some ⟨br, offr, none⟩) p.rules.length cr) TyC.ty rfl (at_blk (i := 0) rfl rfl)) ?_ | refine QV (rr_idxc Und.eq TyC.ty rfl rfl hkr) ?_ | refine QV (rr_load1 (v := .int .i64 r) TyC.ty rfl (hatr' _)) ?_ | refine QV QL ?_ | refine QV QA ?_ | refine QV (rr_nilc rfl) ?_ | refine QV QlT ?_ | refine QV QlF ?_ | refine QV QaA ?_ | refine QV QaS ?_))
            exact E_round (k + 1, r) ⟨by omega, e⟩ (by show p.classes.length - (k + 1) < p.classes.length - k; omega) (by repeat' (first | exact True.intro | refine And.intro rfl ?_)) rfl
          · by_cases q5 : r < t
            · have e := (take ⟨rfl, rfl, .inr q5⟩).symm
              repeat (first
                | refine QV QP ?_ | refine QZ ?_ | refine qcT rfl ?_ | refine qcF rfl ?_ | refine E_blockX ?_ | refine E_blockO rfl ?_
                | refine qs rfl rfl rfl rfl rfl rfl ?_
                | ((try refine qg rfl rfl rfl ?_); first | refine QV QP ?_ | refine QV (rr_nilc rfl) ?_ | refine QV (rr_load1 (v := .slice (some ⟨bl, offl, none⟩) p.last.length cl) TyC.ty rfl (at_blk (i := 0) rfl rfl)) ?_ | refine QV (rr_idxc Und.eq TyC.ty rfl rfl hkl) ?_ | refine QV (rr_load1 (v := .bool true) TyC.ty rfl (hatl' _)) ?_ | refine QV (rr_lss (b := false) rfl rfl (decide_eq_false q4)) ?_ | refine QV (rr_load1 (v := .slice (some ⟨br, offr, none⟩) p.rules.length cr) TyC.ty rfl (at_blk (i := 0) rfl rfl)) ?_ | refine QV (rr_idxc Und.eq TyC.ty rfl rfl hkr) ?_ | refine QV (rr_load1 (v := .int .i64 r) TyC.ty rfl (hatr' _)) ?_ | refine QV (rr_lss (b := true) rfl rfl (decide_eq_true q5)) ?_ | refine QV QL ?_ | refine QV QA ?_ | refine QV (rr_nilc rfl) ?_ | refine QV QlT ?_ | refine QV QlF ?_ | refine QV QaA ?_ | refine QV QaS ?_))
              exact E_round (k + 1, r) ⟨by omega, e⟩ (by show p.classes.length - (k + 1) < p.classes.length - k; omega) (by repeat' (first | exact True.intro | refine And.intro rfl ?_)) rfl
            · have e := (skip (fun h => h.2.2.elim q4 q5)).symm
              repeat (first
                | refine QV QP ?_ | refine QZ ?_ | refine qcT rfl ?_ | refine qcF rfl ?_ | refine E_blockX ?_ | refine E_blockO rfl ?_
                | refine qs rfl rfl rfl rfl rfl rfl ?_
                | ((try refine qg rfl rfl rfl ?_); first | refine QV QP ?_ | refine QV (rr_nilc rfl) ?_ | refine QV (rr_load1 (v := .slice (some ⟨bl, offl, none⟩) p.last.length cl) TyC.ty rfl (at_blk (i := 0) rfl rfl)) ?_ | refine QV (rr_idxc Und.eq TyC.ty rfl rfl hkl) ?_ | refine QV (rr_load1 (v := .bool true) TyC.ty rfl (hatl' _)) ?_ | refine QV (rr_lss (b := false) rfl rfl (decide_eq_false q4)) ?_ | refine QV (rr_load1 (v := .slice (some ⟨br, offr, none⟩) p.rules.length cr) TyC.ty rfl (at_blk (i := 0) rfl rfl)) ?_ | refine QV (rr_idxc Und.eq TyC.ty rfl rfl hkr) ?_ | refine QV (rr_load1 (v := .int .i64 r) TyC.ty rfl (hatr' _)) ?_ | refine QV (rr_lss (b := false) rfl rfl (decide_eq_false q5)) ?_ | refine QV QL ?_ | refine QV QA ?_ | refine QV (rr_nilc rfl) ?_ | refine QV QlT ?_ | refine QV QlF ?_ | refine QV QaA ?_ | refine QV QaS ?_))
              exact E_round (k + 1, t) ⟨by omega, e⟩ (by show p.classes.length - (k + 1) < p.classes.length - k; omega) (by repeat' (first | exact True.intro | refine And.intro rfl ?_)) rfl
        · have e := (skip (fun h => q3 h.2.1)).symm
          obtain rfl := Bool.eq_false_iff.2 q3
          repeat (first
            | refine QV QP ?_ | refine QZ ?_ | refine qcT rfl ?_ | refine qcF rfl ?_ | refine E_blockX ?_ | refine E_blockO rfl ?_
            | refine qs rfl rfl rfl rfl rfl rfl ?_
            | ((try refine qg rfl rfl rfl ?_); first | refine QV QP ?_ | refine QV (rr_nilc rfl) ?_ | refine QV (rr_load1 (v := .slice (some ⟨bl, offl, none⟩) p.last.length cl) TyC.ty rfl (at_blk (i := 0) rfl rfl)) ?_ | refine QV (rr_idxc Und.eq TyC.ty rfl rfl hkl) ?_ | refine QV (rr_load1 (v := .bool false) TyC.ty rfl (hatl' _)) ?_ | refine QV QL ?_ | refine QV QA ?_ | refine QV (rr_nilc rfl) ?_ | refine QV QlT ?_ | refine QV QlF ?_ | refine QV QaA ?_ | refine QV QaS ?_))
          exact E_round (k + 1, t) ⟨by omega, e⟩ (by show p.classes.length - (k + 1) < p.classes.length - k; omega) (by repeat' (first | exact True.intro | refine And.intro rfl ?_)) rfl
      · have e := (skip (fun h => q2 h.1)).symm
        obtain rfl := Bool.eq_false_iff.2 q2
        repeat (first
          | refine QV QP ?_ | refine QZ ?_ | refine qcT rfl ?_ | refine qcF rfl ?_ | refine E_blockX ?_ | refine E_blockO rfl ?_
          | refine qs rfl rfl rfl rfl rfl rfl ?_
          | ((try refine qg rfl rfl rfl ?_); first | refine QV QP ?_ | refine QV QL ?_ | refine QV QA ?_ | refine QV (rr_nilc rfl) ?_ | refine QV QlT ?_ | refine QV QlF ?_ | refine QV QaA ?_ | refine QV QaS ?_))
        exact E_round (k + 1, t) ⟨by omega, e⟩ (by show p.classes.length - (k + 1) < p.classes.length - k; omega) (by repeat' (first | exact True.intro | refine And.intro rfl ?_)) rfl
    · obtain rfl : k = p.classes.length := by omega
      rw [show tagF p s = t from ht.symm] at *
      repeat (first
        | refine QV QP ?_ | refine QZ ?_ | refine qcT rfl ?_ | refine qcF rfl ?_ | refine E_blockX ?_ | refine E_blockO rfl ?_
        | refine qs rfl rfl rfl rfl rfl rfl ?_
        | ((try refine qg rfl rfl rfl ?_); first | refine QV QP ?_ | refine QV (rr_nilc rfl) ?_ | refine QV (rr_load1 (v := vt) TyC.ty rfl (at_blk (i := 0) rfl rfl)) ?_ | refine QV QL ?_ | refine QV QA ?_ | refine QV (rr_nilc rfl) ?_ | refine QV QlT ?_ | refine QV QlF ?_ | refine QV QaA ?_ | refine QV QaS ?_))
      refine TL_push1 (i := 3) rfl rfl rfl rfl rfl rfl (fun z h => by cases h; rfl) (by omega) (by omega) rfl fun z' vt' => ?_
      conv => arg 8; simp only [zA, zB, zC, zD, zE, zF, zG, zH, zI, rowS, ret, id_eq]
      repeat (first
        | refine QV QP ?_ | refine QZ ?_ | refine qcT rfl ?_ | refine qcF rfl ?_ | refine E_blockX ?_ | refine E_blockO rfl ?_
        | refine qs rfl rfl rfl rfl rfl rfl ?_
        | ((try refine qg rfl rfl rfl ?_); first | refine QV QP ?_ | refine QV (rr_nilc rfl) ?_ | refine QV QL ?_ | refine QV QA ?_ | refine QV (rr_nilc rfl) ?_ | refine QV QlT ?_ | refine QV QlF ?_ | refine QV QaA ?_ | refine QV QaS ?_))
      refine TL_slv (i := 3) rfl fun hv1 hv2 => TL_store1 (i := 0) rfl rfl rfl hv1 hv2 rfl ?_
      conv => arg 8; simp only [zA, zB, zC, zD, zE, zF, zG, zH, zI, rowS, ret, id_eq]
      repeat (first
        | refine QV QP ?_ | refine QZ ?_ | refine qcT rfl ?_ | refine qcF rfl ?_ | refine E_blockX ?_ | refine E_blockO rfl ?_
        | refine qs rfl rfl rfl rfl rfl rfl ?_
        | ((try refine qg rfl rfl rfl ?_); first | refine QV QP ?_ | refine QV (rr_nilc rfl) ?_ | refine QV (rr_load1 (v := .slice ab' ((S ++ [s]).length + 1) cs') TyC.ty rfl (at_blk (i := 0) rfl rfl)) ?_ | refine QV (rr_sub64 (r := ((S.length + 1 : Nat) : Int)) rfl rfl (by simp; omega) (by simp; omega) (by simp)) ?_ | refine QV QL ?_ | refine QV QA ?_ | refine QV (rr_nilc rfl) ?_ | refine QV QlT ?_ | refine QV QlF ?_ | refine QV QaA ?_ | refine QV QaS ?_))
      refine E_pick [0, 1, 2, 3] (by decide) rfl ?_
      exact E_ret1 rfl rfl fun w hm => hm.meetsB (S := ⟨fun (_ : Value × Value) => True, fun _ => .int .i64 ((S.length + 1 : Nat) : Int), fun x => dmL (.slice ac p.classes.length cc) (.slice ar p.rules.length cr) vf vfol (.slice al p.last.length cl) ve rows g gm x.1 x.2 ⟨S ++ [s], tags ++ [t]⟩⟩) (.slice ab' ((S ++ [s]).length + 1) cs', vt') trivial [0, 1, 2, 3] (by decide) (by unfold dmL; rw [← int_snoc]; rfl)
    done
end Go.Proofs.Ytkmemlnkijinlaa.eng

/- SmO -/
namespace Go.Proofs.Ytkmemlnkijinlaa.eng
open Go.RowKit kit mix dfaL smallL
def rowC (r : Row) : List Value := r.toList.map (.int .i16)
theorem rowC_len (r : Row) : (rowC r).length = 256 := by simp [rowC]
theorem rowC_get (r : Row) {b : Nat} (hb : b < 256) : (rowC r)[b]? = some (.int .i16 r[b]) := by
  unfold rowC
  rw [List.getElem?_map, List.getElem?_eq_getElem (by simpa using hb), Vector.getElem_toList]; rfl
theorem row_one (l : List Row) : ∀ u ∈ l.flatMap rowC, u.oneCell' = true := by
  intro u hu
  obtain ⟨x, _, h⟩ := List.mem_flatMap.1 hu
  obtain ⟨n, _, rfl⟩ := List.mem_map.1 h
  rfl
theorem row_one1 (r : Row) : (rowC r).all Value.oneCell' = true := List.all_eq_true.2 fun u hu => row_one [r] u (by simpa using hu)
def dfaV (vr vt : Value) : Value := .agg #[vr, vt]
def row0 : Row := Vector.replicate 256 0
/-- an automaton that can be read -/
structure DfaM (w : World) (vr vt : Value) (R : List Row) (tags : List Int) : Prop where
  hR : Sl w vr R.length (R.flatMap rowC)
  hT : Sl w vt tags.length (tags.flatMap kit.intC)
  rng : ∀ r ∈ R, ∀ x ∈ r.toList, -32768 ≤ x ∧ x ≤ 32767
  okT : ∀ x ∈ tags, kit.okI64 x
theorem DfaM.gr {w w' : World} {vr vt : Value} {R : List Row} {tags : List Int} (h : DfaM w vr vt R tags) (hg : Gr w w') : DfaM w' vr vt R tags := ⟨h.hR.gr hg, h.hT.gr hg, h.rng, h.okT⟩
theorem DfaM.isDfa {w : World} {vr vt : Value} {R : List Row} {tags : List Int} (h : DfaM w vr vt R tags) : IsDfa w (dfaV vr vt) (R.map Vector.toList) tags := by
  refine ⟨vr, vt, rfl, ?_, ?_, fun r hr => by obtain ⟨x, _, rfl⟩ := List.mem_map.1 hr; simp⟩
  · obtain ⟨base, cap, h1, h2, h3, h4⟩ := h.hR
    refine ⟨base, cap, by rw [List.length_map]; exact h1, by rw [List.length_map]; exact h2, h3, fun h0 => ?_⟩
    rw [List.length_map] at h0
    obtain ⟨b, off, h5, h6⟩ := h4 h0
    refine ⟨b, off, h5, fun i hi => ?_⟩
    have hi' : i < R.length := by simpa using hi
    refine ⟨rowC R[i], ⟨by simp, by simp [rowC], fun x hx => h.rng R[i] (List.getElem_mem hi') x (by simpa using hx)⟩, fun j u hj => ?_⟩
    have hjl : j < 256 := by have := (List.getElem?_eq_some_iff.1 hj).1; rwa [rowC_len] at this
    have := h6 (i * 256 + j) u (by rw [get_el rowC_len R i j hi' hjl]; exact hj)
    rw [Nat.add_assoc]; exact this
  · obtain ⟨base, cap, h1, h2, h3, h4⟩ := h.hT
    refine ⟨base, cap, h1, h2, h3, fun h0 => ?_⟩
    obtain ⟨b, off, h5, h6⟩ := h4 h0
    refine ⟨b, off, h5, fun i hi => ⟨[.int .i64 tags[i]], ⟨rfl, h.okT _ (List.getElem_mem hi)⟩, fun j u hj => ?_⟩⟩
    have hj0 : j = 0 := by have := (List.getElem?_eq_some_iff.1 hj).1; simpa using this
    subst hj0
    rw [Nat.mul_one, Nat.add_zero]
    refine h6 i u ?_
    rw [show tags.flatMap kit.intC = tags.map (.int .i64) from kit.flat1 tags, List.getElem?_map, List.getElem?_eq_getElem hi]
    exact hj
/-- the automaton that is meant -/
def aut (R : List Row) (tags : List Int) : Aut := ⟨R.length, fun i b => (R.getD i row0).toList.getD b 0, fun i => tags.getD i 0⟩
def chk (R : List Row) (tags : List Int) : Int := checkF (R.map Vector.toList) tags
theorem rows_getD (R : List Row) {i : Nat} (hi : i < R.length) : (R.map Vector.toList).getD i [] = (R.getD i row0).toList := by
  rw [List.getD_eq_getElem?_getD, List.getElem?_map, List.getD_eq_getElem?_getD, List.getElem?_eq_getElem hi]; rfl
theorem chk_ok {R : List Row} {tags : List Int} (h : chk R tags = 0) : (aut R tags).Ok ∧ tags.length = R.length := by
  obtain ⟨h1, h2, h3, h4⟩ := check_ok h
  rw [List.length_map] at h1 h2 h3 h4
  refine ⟨⟨h2, h1, fun i hi b hb => ?_, fun i hi => ?_⟩, h3⟩
  · have := (h4 i hi).2.2
    rw [rows_getD R hi] at this
    refine this _ ?_
    show (R.getD i row0).toList.getD b 0 ∈ _
    rw [List.getD_eq_getElem?_getD (l := (R.getD i row0).toList), List.getElem?_eq_getElem (by simpa using hb)]
    exact List.getElem_mem _
  · have := h4 i hi
    exact ⟨this.1, this.2.1⟩
/-- what dfa.Tag says -/
def tagF (R : List Row) (tags : List Int) (s : List UInt8) : Int × Int := if chk R tags = 0 then (tg (aut R tags) (go (aut R tags) 0 s), 0) else (0, chk R tags)
end Go.Proofs.Ytkmemlnkijinlaa.eng

/- SmT -/
namespace Go.Proofs.Ytkmemlnkijinlaa.eng
open Go.RowKit kit mix dfaL smallL
theorem aut_tag {R : List Row} {tags : List Int} {i : Nat} (h : i < tags.length) : (aut R tags).tag i = tags[i] := by
  show tags.getD i 0 = _
  rw [List.getD_eq_getElem?_getD, List.getElem?_eq_getElem h]; rfl
theorem aut_d {R : List Row} {tags : List Int} {i b : Nat} (h : i < R.length) (hb : b < 256) : (aut R tags).d i b = (R[i])[b] := by
  show (R.getD i row0).toList.getD b 0 = _
  rw [List.getD_eq_getElem?_getD (l := R), List.getElem?_eq_getElem h, Option.getD_some, List.getD_eq_getElem?_getD, List.getElem?_eq_getElem (by simpa using hb), Option.getD_some, Vector.getElem_toList]
/-- a row's block, one cell being written over -/
theorem row_set (r : Row) {b : Nat} (hb : b < 256) (x : Int) : (rowC r).toArray.setIfInBounds b (.int .i16 x) = (rowC (r.set b x)).toArray := by
  unfold rowC
  rw [Vector.toList_set, List.map_set]; simp
theorem TL_storeV {P : Program} {n : Nat} {W : Base} {fr : Fr} {L : List Own} {Q : Exit → Act → World → Prop} {ops : Array Oper} {rest : List Oper} {ty : TypeId} {pos : String} {after : Array Edge} {t : TypeId} {p x : Operand} {i g b : Nat} {r : Row} {T : TypeId} {agg : Bool} {z : Int} [hT : TyC P t agg 1] (hi : L[i]? = some (blkO g (rowC r).toArray T)) (hp : ev fr p = some (.pointer (some ⟨g, 0 + b, none⟩))) (hx : ev fr x = some (.int .i16 z)) (hb : b < 256)
    (h : TL P n W ops Q rest fr (L.set i (blkO g (rowC (r.set b z)).toArray T))) : TL P n W ops Q (⟨none, .store t p x, ty, pos, after, none⟩ :: rest) fr L := by
  rw [Nat.zero_add] at hp
  refine TL_store1 hi hp hx rfl rfl ?_ ?_
  · rw [List.size_toArray, rowC_len]; exact Nat.blt_eq ▸ hb
  · rw [row_set r hb]; exact h
theorem zero_row : (List.replicate 256 (Value.int .i16 0)).toArray = (rowC (Vector.replicate 256 0)).toArray := by
  unfold rowC
  rw [Vector.toList_replicate, List.map_replicate]
def rowV (r : Row) : Value := .agg (rowC r).toArray
end Go.Proofs.Ytkmemlnkijinlaa.eng

/- SmK -/
namespace Go.Proofs.Ytkmemlnkijinlaa.eng
open Go.RowKit kit mix smallL
/-! ### columns -/
abbrev Col := Vector Int 200
def colC (c : Col) : List Value := c.toList.map (.int .i16)
def colV (c : Col) : Value := .agg (colC c).toArray
theorem colC_len (c : Col) : (colC c).length = 200 := by simp [colC]
theorem colC_get (c : Col) {b : Nat} (hb : b < 200) : (colC c)[b]? = some (.int .i16 c[b]) := by
  unfold colC
  rw [List.getElem?_map, List.getElem?_eq_getElem (by simpa using hb), Vector.getElem_toList]; rfl
def colOk (c : Col) : Prop := ∀ (b : Nat) (h : b < 200), (-32768 : Int) ≤ c[b] ∧ c[b] ≤ 32767
set_option maxRecDepth 100000 in
theorem col_key (c : Col) (h : colOk c) : ∃ l, keyOf Try.prog 94 (colV c) = some l := by
  have e2 : Try.prog.cellsOf 94 = 200 := by kernel_rfl
  have e3 : Try.prog.cellsOf 93 = 1 := by kernel_rfl
  refine key_ex (m := 2) (by kernel_rfl) (by kernel_rfl) (by rw [colC_len, e2]) (trySize 2 (by kernel_rfl)) fun d => ?_
  refine kl_arr (d := d + 1) Try.underlying94 (by rw [colC_len, e2]) fun i hi => ?_
  have hc : ((colC c).drop (i * Try.prog.cellsOf 93)).take (Try.prog.cellsOf 93) = [.int .i16 c[i]] := by
    rw [e3, Nat.mul_one]
    have hl : i < (colC c).length := by rw [colC_len]; exact hi
    rw [List.drop_eq_getElem_cons hl]
    have := colC_get c hi
    rw [List.getElem?_eq_getElem hl] at this
    rw [Option.some.inj this]; rfl
  rw [hc]
  exact kl_int Try.underlying93 (h i hi).1 (h i hi).2
theorem colRow : (94 : TypeId) < Try.prog.types.size := of_decide_eq_true (by kernel_rfl)
set_option maxRecDepth 100000 in
def colK : KeyT Try.prog 94 Col where
  kv := colV
  ok := colOk
  law := deep_law_laid tryLaid (m := 2) (by omega) colRow (by kernel_rfl) (by kernel_rfl)
  key x h := col_key x h
  inj x y h := by
    simp only [colV, Value.agg.injEq, Array.mk.injEq] at h
    refine Vector.ext fun b hb => ?_
    have h1 := colC_get x hb
    rw [h, colC_get y hb] at h1
    simp at h1; exact h1.symm
theorem zeroI (w : World) : (zeroValue 3).run Try.prog w = .ok (.int .i64 0) w := by kernel_rfl
end Go.Proofs.Ytkmemlnkijinlaa.eng

/- SmD -/
namespace Go.Proofs.Ytkmemlnkijinlaa.eng
open Go.RowKit kit mix dfaL smallL
theorem chkM_calls (vr vt : Value) (R : List Row) (tags : List Int) (w : World) (h : DfaM w vr vt R tags) : Calls Try.prog 36 #[dfaV vr vt] w (Meets (ret (.int .i64 (chk R tags))) w) := dfaCheck_calls _ _ _ w h.isDfa
end Go.Proofs.Ytkmemlnkijinlaa.eng

/- SmY -/
namespace Go.Proofs.Ytkmemlnkijinlaa.eng
open Go.RowKit kit mix dfaL smallL
theorem chk_rng {R : List Row} {tags : List Int} (h : chk R tags = 0) : (∀ r ∈ R, ∀ x ∈ r.toList, -32768 ≤ x ∧ x ≤ 32767) ∧ ∀ x ∈ tags, kit.okI64 x := by
  obtain ⟨hA, hl⟩ := chk_ok h
  have hle : R.length ≤ 200 := hA.le
  refine ⟨fun r hr x hx => ?_, fun x hx => ?_⟩
  · obtain ⟨i, hi, rfl⟩ := List.mem_iff_getElem.1 hr
    obtain ⟨b, hb, rfl⟩ := List.mem_iff_getElem.1 hx
    have hb' : b < 256 := by simpa using hb
    have := hA.step i hi b hb'
    rw [aut_d hi hb'] at this
    have e : (aut R tags).n = R.length := rfl
    rw [Vector.getElem_toList]
    omega
  · obtain ⟨i, hi, rfl⟩ := List.mem_iff_getElem.1 hx
    have := hA.tags i (by show i < R.length; omega)
    rw [aut_tag hi] at this
    exact ⟨by omega, by omega⟩
theorem Mem.dfaM {B : Base} {w : World} {L : List Own} {i j : Nat} {vr vt : Value} {R : List Row} {tags : List Int} (hm : Mem B L w) (hi : L[i]? = some (rowO 96 256 vr R.length (R.flatMap rowC))) (hj : L[j]? = some (rowO 3 1 vt tags.length (tags.flatMap kit.intC))) (hc : chk R tags = 0) : DfaM w vr vt R tags :=
  ⟨sl_row hi _ hm, sl_row hj _ hm, (chk_rng hc).1, (chk_rng hc).2⟩
end Go.Proofs.Ytkmemlnkijinlaa.eng

/- SmA -/
namespace Go.Proofs.Ytkmemlnkijinlaa.eng
open Go.RowKit kit mix dfaL smallL
section
variable {P : Program} {k : TypeId} {κ : Type} (K : KeyT P k κ) [DecidableEq κ]
variable {W : Base} {fr : Fr} {L : List Own} {Q : Exit → Act → World → Prop} {ops : Array Oper} {rest : List Oper} {n d : Nat} {ty : TypeId} {pos : String} {after : Array Edge} {i g b : Nat} {t e : TypeId} {f : κ → Value} {x : κ} {z v : Value} {xm xk xv : Operand}
end
theorem wrapU8 {k : Nat} (h : k < 256) : IntKind.u8.wrap (k : Int) = (k : Int) := by
  rw [IntKind.wrap_u8]; omega
end Go.Proofs.Ytkmemlnkijinlaa.eng

/- DfX -/
namespace Go.Proofs.Ytkmemlnkijinlaa.eng
open Go.RowKit kit mix classL rexL placesL dfaP smallL
set_option maxRecDepth 100000 in
theorem eq_set (x y : C4) (w : World) : (Op.equalIn 10000 119 (.agg (clsL x).toArray) (.agg (clsL y).toArray)).run Try.prog w = .ok (decide (x = y)) w := by
  show (Op.equalIn 10000 119 (.agg #[v64 x.a, v64 x.b, v64 x.c, v64 x.d]) (.agg #[v64 y.a, v64 y.b, v64 y.c, v64 y.d])).run Try.prog w = _
  have e : (Op.equalIn 10000 119 (.agg #[v64 x.a, v64 x.b, v64 x.c, v64 x.d]) (.agg #[v64 y.a, v64 y.b, v64 y.c, v64 y.d])).run Try.prog w = .ok ((n64 x.a == n64 y.a) && ((n64 x.b == n64 y.b) && ((n64 x.c == n64 y.c) && (n64 x.d == n64 y.d)))) w := by
    unfold v64
    rw [run_equalIn_array (P := Try.prog) w 9999 (n := 4) (e := 58) _ _ rfl rfl]
    have h1 : Try.prog.cellsOf 58 = 1 := rfl
    simp [Op.eqItems, go_sem, List.range_succ_eq_map, h1]
    by_cases e1 : n64 x.a = n64 y.a <;> by_cases e2 : n64 x.b = n64 y.b <;> by_cases e3 : n64 x.c = n64 y.c <;> by_cases e4 : n64 x.d = n64 y.d <;> simp [e1, e2, e3, e4]
  rw [e]
  congr 1
  by_cases h : x = y
  · subst h; simp
  · rw [decide_eq_false h]
    by_cases e1 : n64 x.a = n64 y.a <;> by_cases e2 : n64 x.b = n64 y.b <;> by_cases e3 : n64 x.c = n64 y.c <;> by_cases e4 : n64 x.d = n64 y.d <;> simp [e1, e2, e3, e4]
    exact h (C4.ext' (n64_inj e1) (n64_inj e2) (n64_inj e3) (n64_inj e4))
theorem build_set0 (w : World) : (Instr.build 119 (#[] : Array (Nat × Value))).run Try.prog w = .ok (.agg (clsL C4.zero).toArray) w := by kernel_rfl
theorem wrap16d {x : Int} (h0 : -32768 ≤ x) (h1 : x ≤ 32767) : IntKind.i16.wrap x = x := by
  simp only [IntKind.wrap, IntKind.bits, IntKind.signed]
  simp
  omega
theorem row_oneA (r : Row) : (rowC r).toArray.toList.all Value.oneCell' = true := List.all_eq_true.2 fun u hu => row_one [r] u (by simpa using hu)
def rowSp (m : MS) (vc vr vf vfol vl ve rows : Value) (g gm n : Nat) (d : DM) : Spec (Value × Value) :=
  ⟨fun _ => True, fun _ => rowV (rowP m n d).1, fun x => dmL vc vr vf vfol vl ve rows g gm x.1 x.2 (rowP m n d).2⟩
theorem to_step (p : PS) (all : C4) (b i : Nat) : toTo p all b (i + 1) = if all.mem i = true ∧ (p.classes.getD i C4.zero).mem b = true then (toTo p all b i).bit i else toTo p all b i := rfl
theorem rowTo_step (p : PS) (all : C4) (f b : Nat) (r : Row) (d : DM) : rowTo p all (f + 1) b r d = if 200 < (cellF p all b r d).2.S.length + 1 then cellF p all b r d else rowTo p all f (b + 1) (cellF p all b r d).1 (cellF p all b r d).2 := rfl
theorem cellF_0 {p : PS} {all : C4} {b : Nat} {r : Row} {d : DM} (hb : b < 256) (h : toF p all b = C4.zero) : cellF p all b r d = (r.set b (-1), d) := by unfold cellF; rw [if_pos h, dif_pos hb]
theorem cellF_1 {p : PS} {all : C4} {b : Nat} {r : Row} {d : DM} (hb : b < 256) (h : toF p all b ≠ C4.zero) : cellF p all b r d = ((r.set b (-1)).set b ((stateF p d (toF p all b)).1 : Int), (stateF p d (toF p all b)).2) := by unfold cellF; rw [if_neg h, dif_pos hb]
set_option maxRecDepth 100000 in
set_option maxHeartbeats 8000000 in
theorem dfaRow_calls (m : MS) (vc vr vf vfol vl ve rows : Value) (d : DM) (g gm n : Nat) (vs vt : Value) (w0 : World) (hp : PosR w0 (.agg #[vc, vr, vf, vfol, vl, ve]) m) (h : MOkP m) (hd : DOk m.ps d) (hd2 : d.S.length + 1 ≤ 200) (hn : n ≤ d.S.length) (w : World) (B : Base) (ho : Old w0 B)
    (hm : Mem B (dmL vc vr vf vfol vl ve rows g gm vs vt d) w) :
    Calls Try.prog 43 #[.pointer (some ⟨g, 0, none⟩), .int .i64 (n : Int)] w (MeetsB (rowSp m vc vr vf vfol vl ve rows g gm n d) B) := by
  have hnx := fun w' (hg : Gr w0 w') h1 h2 => dfaNext_calls m vc vr vf vfol vl ve vs (.map (some gm)) rows vt d.S g n w' (hp.gr hg) h h1 h2 hn
  have hst := fun d' s vs' vt' h1 h2 w' B' ho' hm' => dfaState_calls m vc vr vf vfol vl ve rows d' s g gm vs' vt' w0 hp h h1 h2 w' B' ho' hm'
  obtain ⟨_, _, _, _, _, _, he, h1, -⟩ := hp
  simp only [Value.agg.injEq, Array.mk.injEq, List.cons.injEq, and_true] at he
  obtain ⟨rfl, rfl, rfl, rfl, rfl, rfl⟩ := he
  have hmf := h.few
  clear h
  obtain ⟨ac, cc, rfl, -, -, hrc⟩ := h1
  unfold rowSp rowP
  generalize nextF m d.S n = all at *
  obtain ⟨p, fi, em⟩ := m
  dsimp only at *
  unfold dmL at hm
  have hB0 := build_set0
  refine enterB hm (args := [.pointer (some ⟨g, 0, none⟩), .int .i64 (n : Int)]) (n := 60) Try.func43 rfl rfl rfl ?_
  clear hm
  refine T_seq (T_region (TL_new rfl fun g4 => ?_))
  conv => arg 8; simp only [zA, zB, zC, zD, zE, zF, zG, zH, zI, rowS, ret, id_eq]
  rw [zero_row]
  repeat (first
    | refine QV QP ?_ | refine QZ ?_ | refine qcT rfl ?_ | refine qcF rfl ?_ | refine E_blockX ?_ | refine E_blockO rfl ?_
    | refine qs rfl rfl rfl rfl rfl rfl ?_
    | ((try refine qg rfl rfl rfl ?_); first | refine QV QP ?_ | refine QV QL ?_ | refine QV QA ?_ | refine QV (rr_nilc rfl) ?_ | refine QV QlT ?_ | refine QV QlF ?_ | refine QV QgT ?_ | refine QV QgF ?_ | refine QV QaA ?_))
  refine TL_call (he2 EntersC.en rfl rfl rfl) (fun w hm => hnx w (ho.mem hm) (hm.get (i := 0) rfl) (Sl.of_own (hm.get (i := 1) rfl))) rfl rfl rfl ?_
  intro _ _
  conv => arg 8; simp only [zA, zB, zC, zD, zE, zF, zG, zH, zI, rowS, ret, id_eq]
  clear hnx
  repeat (first
    | refine QV QP ?_ | refine QZ ?_ | refine qcT rfl ?_ | refine qcF rfl ?_ | refine E_blockX ?_ | refine E_blockO rfl ?_
    | refine qs rfl rfl rfl rfl rfl rfl ?_
    | ((try refine qg rfl rfl rfl ?_); first | refine QV QP ?_ | refine QV QL ?_ | refine QV QA ?_ | refine QV (rr_nilc rfl) ?_ | refine QV QlT ?_ | refine QV QlF ?_ | refine QV QgT ?_ | refine QV QgF ?_ | refine QV QaA ?_))
  refine TL_new rfl fun g5 => ?_
  conv => arg 8; simp only [zA, zB, zC, zD, zE, zF, zG, zH, zI, rowS, ret, id_eq]
  refine TL_storeB (i := 5) (cs' := (clsL all).toArray) rfl rfl rfl rfl rfl rfl ?_
  conv => arg 8; simp only [zA, zB, zC, zD, zE, zF, zG, zH, zI, rowS, ret, id_eq]
  repeat (first
    | refine QV QP ?_ | refine QZ ?_ | refine qcT rfl ?_ | refine qcF rfl ?_ | refine E_blockX ?_ | refine E_blockO rfl ?_
    | refine qs rfl rfl rfl rfl rfl rfl ?_
    | ((try refine qg rfl rfl rfl ?_); first | refine QV QP ?_ | refine QV QL ?_ | refine QV QA ?_ | refine QV (rr_nilc rfl) ?_ | refine QV QlT ?_ | refine QV QlF ?_ | refine QV QgT ?_ | refine QV QgF ?_ | refine QV QaA ?_))
  refine TL_new rfl fun g6 => ?_
  conv => arg 8; simp only [zA, zB, zC, zD, zE, zF, zG, zH, zI, rowS, ret, id_eq]
  rw [zero_row]
  repeat (first
    | refine QV QP ?_ | refine QZ ?_ | refine qcT rfl ?_ | refine qcF rfl ?_ | refine E_blockX ?_ | refine E_blockO rfl ?_
    | refine qs rfl rfl rfl rfl rfl rfl ?_
    | ((try refine qg rfl rfl rfl ?_); first | refine QV QP ?_ | refine QV QL ?_ | refine QV QA ?_ | refine QV (rr_nilc rfl) ?_ | refine QV QlT ?_ | refine QV QlF ?_ | refine QV QgT ?_ | refine QV QgF ?_ | refine QV QaA ?_))
  clear hn
  generalize hfin : rowTo p all 256 0 (Vector.replicate 256 0) d = fin
  refine T_loop (ι := Nat × Row × DM × Value × Value) (fun (b, r, d, _, _) => b ≤ 256 ∧ DOk p d ∧ d.S.length + 1 ≤ 200 ∧ rowTo p all (256 - b) b r d = fin) (fun (b, _, _, _, _) => [(0, .pointer (some ⟨g, 0, none⟩)), (4, .pointer (some ⟨g4, 0, none⟩)), (5, .pointer (some ⟨g5, 0, none⟩)), (6, .pointer (some ⟨g6, 0, none⟩)), (14, .int .i64 (b : Int))])
    (fun (_, r, d, vs, vt) => [blkO g (dmC (.slice ac p.classes.length cc) vr vf vfol vl ve vs (.map (some gm)) rows vt) 112, setsO vs d.S, numO gm d.S, intR vt d.tags, blkO g4 (rowC (Vector.replicate 256 0)).toArray 96, blkO g5 (clsL all).toArray 119, blkO g6 (rowC r).toArray 96]) (fun (b, _, _, _, _) => 256 - b) (0, Vector.replicate 256 0, d, vs, vt) ⟨Nat.zero_le _, hd, hd2, hfin⟩ (by repeat' (first | exact True.intro | refine And.intro rfl ?_)) rfl ?_
  clear hd hd2 hfin d vs vt
  rintro ⟨b, r, d, vs, vt⟩ ⟨i1, i2, i3, i4⟩
  dsimp only at i1 i2 i3 i4 ⊢
  by_cases c1 : b < 256
  · rw [show 256 - b = (256 - (b + 1)) + 1 by omega, rowTo_step] at i4
    repeat (first
      | refine QV QP ?_ | refine QZ ?_ | refine qcT rfl ?_ | refine qcF rfl ?_ | refine E_blockX ?_ | refine E_blockO rfl ?_
      | refine qs rfl rfl rfl rfl rfl rfl ?_
      | ((try refine qg rfl rfl rfl ?_); first | refine QV QP ?_ | refine QV QL ?_ | refine QV QA ?_ | refine QV (rr_nilc rfl) ?_ | refine QV QlT ?_ | refine QV QlF ?_ | refine QV QgT ?_ | refine QV QgF ?_ | refine QV QaA ?_))
    refine TL_new rfl fun g8 => ?_
    conv => arg 8; simp only [zA, zB, zC, zD, zE, zF, zG, zH, zI, rowS, ret, id_eq]
    repeat (first
      | refine QV QP ?_ | refine QZ ?_ | refine qcT rfl ?_ | refine qcF rfl ?_ | refine E_blockX ?_ | refine E_blockO rfl ?_
      | refine qs rfl rfl rfl rfl rfl rfl ?_
      | ((try refine qg rfl rfl rfl ?_); first | refine QV QP ?_ | refine QV (rr_nilc rfl) ?_ | refine QV (rr_load1 (v := .slice ac p.classes.length cc) TyC.ty rfl (at_blk (i := 0) rfl rfl)) ?_ | refine QV QL ?_ | refine QV QA ?_ | refine QV (rr_nilc rfl) ?_ | refine QV QlT ?_ | refine QV QlF ?_ | refine QV QgT ?_ | refine QV QgF ?_ | refine QV QaA ?_))
    refine T_loop (ι := Nat) (fun k => k ≤ p.classes.length) (fun k => [(0, .pointer (some ⟨g, 0, none⟩)), (4, .pointer (some ⟨g4, 0, none⟩)), (5, .pointer (some ⟨g5, 0, none⟩)), (6, .pointer (some ⟨g6, 0, none⟩)), (7, .int .i64 (b : Int)), (8, .pointer (some ⟨g8, 0, none⟩)), (14, .int .i64 (b : Int)), (21, .slice ac p.classes.length cc), (22, .int .i64 p.classes.length), (23, .int .i64 (k : Int))])
      (fun k => [blkO g (dmC (.slice ac p.classes.length cc) vr vf vfol vl ve vs (.map (some gm)) rows vt) 112, setsO vs d.S, numO gm d.S, intR vt d.tags, blkO g4 (rowC (Vector.replicate 256 0)).toArray 96, blkO g5 (clsL all).toArray 119, blkO g6 (rowC r).toArray 96, blkO g8 (clsL (toTo p all b k)).toArray 119]) (fun k => p.classes.length - k) 0 (Nat.zero_le _) (by repeat' (first | exact True.intro | refine And.intro rfl ?_)) rfl ?_
    intro k hk
    by_cases c2 : k < p.classes.length
    · have hts := to_step p all b k
      have hgd : p.classes.getD k C4.zero = p.classes[k] := by rw [List.getD_eq_getElem?_getD, List.getElem?_eq_getElem c2]; rfl
      rw [hgd] at hts
      obtain ⟨bc, offc, rfl, hrcd⟩ := hrc (by omega)
      have hatc := fun (L : List Own) => at_elO (L := L) (f := clsL) (c := 4) (fun _ => rfl) ho hrcd c2
      clear hrcd hrc hgd
      generalize p.classes[k] = c at *
      have hatc' : ∀ (L : List Own) (j : Nat) (u : Value), (clsL c)[j]? = some u → At B L ⟨bc, offc + k * 4 + j, none⟩ u := hatc
      clear hatc
      have hhas := fun w => setHas_calls all k (by omega) w
      have hchs := fun w => has_calls c b c1 w
      generalize toTo p all b k = tz at *
      generalize all.mem k = b1 at *
      generalize c.mem b = b2 at *
      have hu8 : IntKind.u8.wrap (b : Int) = (b : Int) := by rw [IntKind.wrap_u8]; omega
      repeat (first
        | refine QV QP ?_ | refine QZ ?_ | refine qcT rfl ?_ | refine qcF rfl ?_ | refine E_blockX ?_ | refine E_blockO rfl ?_
        | refine qs rfl rfl rfl rfl rfl rfl ?_
        | ((try refine qg rfl rfl rfl ?_); first | refine QV QP ?_ | refine QV (rr_idxc Und.eq TyC.ty rfl rfl c2) ?_ | refine QV (rr_loadN (cs := clsL c) TyC.ty rfl rfl (hatc' _)) ?_ | refine QV QL ?_ | refine QV QA ?_ | refine QV (rr_nilc rfl) ?_ | refine QV QlT ?_ | refine QV QlF ?_ | refine QV QgT ?_ | refine QV QgF ?_ | refine QV QaA ?_))
      refine TL_new rfl fun g10 => ?_
      conv => arg 8; simp only [zA, zB, zC, zD, zE, zF, zG, zH, zI, rowS, ret, id_eq]
      repeat (first
        | refine QV QP ?_ | refine QZ ?_ | refine qcT rfl ?_ | refine qcF rfl ?_ | refine E_blockX ?_ | refine E_blockO rfl ?_
        | refine qs rfl rfl rfl rfl rfl rfl ?_
        | ((try refine qg rfl rfl rfl ?_); first | refine QV QP ?_ | refine QV QL ?_ | refine QV QA ?_ | refine QV (rr_nilc rfl) ?_ | refine QV QlT ?_ | refine QV QlF ?_ | refine QV QgT ?_ | refine QV QgF ?_ | refine QV QaA ?_))
      refine TL_storeB (i := 8) (cs' := (clsL c).toArray) rfl rfl rfl rfl rfl rfl ?_
      conv => arg 8; simp only [zA, zB, zC, zD, zE, zF, zG, zH, zI, rowS, ret, id_eq]
      repeat (first
        | refine QV QP ?_ | refine QZ ?_ | refine qcT rfl ?_ | refine qcF rfl ?_ | refine E_blockX ?_ | refine E_blockO rfl ?_
        | refine qs rfl rfl rfl rfl rfl rfl ?_
        | ((try refine qg rfl rfl rfl ?_); first | refine QV QP ?_ | refine QV (rr_loadB (i := 5) TyC.ty rfl rfl rfl) ?_ | refine QV QL ?_ | refine QV QA ?_ | refine QV (rr_nilc rfl) ?_ | refine QV QlT ?_ | refine QV QlF ?_ | refine QV QgT ?_ | refine QV QgF ?_ | refine QV QaA ?_))
      refine TL_call (he2 EntersC.en rfl rfl rfl) (fun w hm => hhas w) rfl rfl rfl ?_
      intro _ _
      conv => arg 8; simp only [zA, zB, zC, zD, zE, zF, zG, zH, zI, rowS, ret, id_eq]
      by_cases q1 : b1 = true
      · subst q1
        repeat (first
          | refine QV QP ?_ | refine QZ ?_ | refine qcT rfl ?_ | refine qcF rfl ?_ | refine E_blockX ?_ | refine E_blockO rfl ?_
          | refine qs rfl rfl rfl rfl rfl rfl ?_
          | ((try refine qg rfl rfl rfl ?_); first | refine QV QP ?_ | refine QV (rr_loadB (i := 8) TyC.ty rfl rfl rfl) ?_ | refine QV (rr_conv Und.eq Und.eq rfl hu8) ?_ | refine QV QL ?_ | refine QV QA ?_ | refine QV (rr_nilc rfl) ?_ | refine QV QlT ?_ | refine QV QlF ?_ | refine QV QgT ?_ | refine QV QgF ?_ | refine QV QaA ?_))
        refine TL_gcall (he2 EntersC.en rfl rfl rfl) (fun w hm => hchs w) rfl rfl rfl rfl rfl ?_
        intro _ _
        conv => arg 8; simp only [zA, zB, zC, zD, zE, zF, zG, zH, zI, rowS, ret, id_eq]
        by_cases q2 : b2 = true
        · subst q2
          rw [if_pos ⟨rfl, rfl⟩] at hts
          repeat (first
            | refine QV QP ?_ | refine QZ ?_ | refine qcT rfl ?_ | refine qcF rfl ?_ | refine E_blockX ?_ | refine E_blockO rfl ?_
            | refine qs rfl rfl rfl rfl rfl rfl ?_
            | ((try refine qg rfl rfl rfl ?_); first | refine QV QP ?_ | refine QV QL ?_ | refine QV QA ?_ | refine QV (rr_nilc rfl) ?_ | refine QV QlT ?_ | refine QV QlF ?_ | refine QV QgT ?_ | refine QV QgF ?_ | refine QV QaA ?_))
          refine TL_callB [7] [0, 1, 2, 3, 4, 5, 6] (by decide) rfl rfl (he2 EntersC.en rfl rfl rfl) (fun w hm hb => setPut_calls tz k (by omega) g8 w _ hb) rfl rfl rfl ?_
          intro _ _
          conv => arg 8; simp only [zA, zB, zC, zD, zE, zF, zG, zH, zI, rowS, ret, id_eq]
          repeat (first
            | refine QV QP ?_ | refine QZ ?_ | refine qcT rfl ?_ | refine qcF rfl ?_ | refine E_blockX ?_ | refine E_blockO rfl ?_
            | refine qs rfl rfl rfl rfl rfl rfl ?_
            | ((try refine qg rfl rfl rfl ?_); first | refine QV QP ?_ | refine QV QL ?_ | refine QV QA ?_ | refine QV (rr_nilc rfl) ?_ | refine QV QlT ?_ | refine QV QlF ?_ | refine QV QgT ?_ | refine QV QgF ?_ | refine QV QaA ?_))
          exact E_round (k + 1) (by omega) (by show p.classes.length - (k + 1) < p.classes.length - k; omega) (by repeat' (first | exact True.intro | refine And.intro rfl ?_)) (by rw [hts])
        · rw [if_neg (fun h => q2 h.2)] at hts
          obtain rfl := Bool.eq_false_iff.2 q2
          repeat (first
            | refine QV QP ?_ | refine QZ ?_ | refine qcT rfl ?_ | refine qcF rfl ?_ | refine E_blockX ?_ | refine E_blockO rfl ?_
            | refine qs rfl rfl rfl rfl rfl rfl ?_
            | ((try refine qg rfl rfl rfl ?_); first | refine QV QP ?_ | refine QV QL ?_ | refine QV QA ?_ | refine QV (rr_nilc rfl) ?_ | refine QV QlT ?_ | refine QV QlF ?_ | refine QV QgT ?_ | refine QV QgF ?_ | refine QV QaA ?_))
          refine E_pick [0, 1, 2, 3, 4, 5, 6, 7] (by decide) rfl ?_
          exact E_round (k + 1) (by omega) (by show p.classes.length - (k + 1) < p.classes.length - k; omega) (by repeat' (first | exact True.intro | refine And.intro rfl ?_)) (by rw [hts]; rfl)
      · rw [if_neg (fun h => q1 h.1)] at hts
        obtain rfl := Bool.eq_false_iff.2 q1
        repeat (first
          | refine QV QP ?_ | refine QZ ?_ | refine qcT rfl ?_ | refine qcF rfl ?_ | refine E_blockX ?_ | refine E_blockO rfl ?_
          | refine qs rfl rfl rfl rfl rfl rfl ?_
          | ((try refine qg rfl rfl rfl ?_); first | refine QV QP ?_ | refine QV QL ?_ | refine QV QA ?_ | refine QV (rr_nilc rfl) ?_ | refine QV QlT ?_ | refine QV QlF ?_ | refine QV QgT ?_ | refine QV QgF ?_ | refine QV QaA ?_))
        refine E_pick [0, 1, 2, 3, 4, 5, 6, 7] (by decide) rfl ?_
        exact E_round (k + 1) (by omega) (by show p.classes.length - (k + 1) < p.classes.length - k; omega) (by repeat' (first | exact True.intro | refine And.intro rfl ?_)) (by rw [hts]; rfl)
    · obtain rfl : k = p.classes.length := by omega
      have hF : toTo p all b p.classes.length = toF p all b := rfl
      rw [hF]
      have hc0 := cellF_0 (p := p) (all := all) (r := r) (d := d) c1
      have hc1 := cellF_1 (p := p) (all := all) (r := r) (d := d) c1
      have heq := eq_set (toF p all b) C4.zero
      clear hF hrc
      generalize toF p all b = tz at *
      repeat (first
        | refine QV QP ?_ | refine QZ ?_ | refine qcT rfl ?_ | refine qcF rfl ?_ | refine E_blockX ?_ | refine E_blockO rfl ?_
        | refine qs rfl rfl rfl rfl rfl rfl ?_
        | ((try refine qg rfl rfl rfl ?_); first | refine QV QP ?_ | refine QV (rr_aidx1 Und.eq TyC.ty rfl rfl c1) ?_ | refine QV QL ?_ | refine QV QA ?_ | refine QV (rr_nilc rfl) ?_ | refine QV QlT ?_ | refine QV QlF ?_ | refine QV QgT ?_ | refine QV QgF ?_ | refine QV QaA ?_))
      refine TL_storeV (i := 6) rfl rfl rfl c1 ?_
      conv => arg 8; simp only [zA, zB, zC, zD, zE, zF, zG, zH, zI, rowS, ret, id_eq]
      by_cases q1 : tz = C4.zero
      · rw [decide_eq_true q1] at heq
        rw [hc0 q1, if_neg (by show ¬ 200 < d.S.length + 1; omega)] at i4
        refine TL_know (i := 1) rfl row_slm fun hrow => ?_
        obtain ⟨ab, cs, rfl, hmS, -⟩ := hrow
        repeat (first
          | refine QV QP ?_ | refine QZ ?_ | refine qcT rfl ?_ | refine qcF rfl ?_ | refine E_blockX ?_ | refine E_blockO rfl ?_
          | refine qs rfl rfl rfl rfl rfl rfl ?_
          | ((try refine qg rfl rfl rfl ?_); first | refine QV QP ?_ | refine QV (rr_loadB (i := 7) TyC.ty rfl rfl rfl) ?_ | refine QV (rr_build rfl hB0) ?_ | refine QV (rr_aggne rfl rfl (by kernel_rfl) heq rfl) ?_ | refine QV (rr_nilc rfl) ?_ | refine QV (rr_load1 (v := .slice ab (d.S.length + 1) cs) TyC.ty rfl (at_blk (i := 0) rfl rfl)) ?_ | refine QV (rr_gtr (b := false) rfl rfl (decide_eq_false (by omega))) ?_ | refine QV QL ?_ | refine QV QA ?_ | refine QV (rr_nilc rfl) ?_ | refine QV QlT ?_ | refine QV QlF ?_ | refine QV QgT ?_ | refine QV QgF ?_ | refine QV QaA ?_))
        refine E_pick [0, 1, 2, 3, 4, 5, 6] (by decide) rfl ?_
        exact E_round (b + 1, r.set b (-1), d, .slice ab (d.S.length + 1) cs, vt) ⟨by omega, i2, i3, i4⟩ (by show 256 - (b + 1) < 256 - b; omega) (by repeat' (first | exact True.intro | refine And.intro rfl ?_)) rfl
      · rw [decide_eq_false q1] at heq
        rw [hc1 q1] at i4
        obtain ⟨s1, s2, s3, s4, s5⟩ := state_ok i2 tz
        repeat (first
          | refine QV QP ?_ | refine QZ ?_ | refine qcT rfl ?_ | refine qcF rfl ?_ | refine E_blockX ?_ | refine E_blockO rfl ?_
          | refine qs rfl rfl rfl rfl rfl rfl ?_
          | ((try refine qg rfl rfl rfl ?_); first | refine QV QP ?_ | refine QV (rr_loadB (i := 7) TyC.ty rfl rfl rfl) ?_ | refine QV (rr_build rfl hB0) ?_ | refine QV (rr_aggne rfl rfl (by kernel_rfl) heq rfl) ?_ | refine QV QL ?_ | refine QV QA ?_ | refine QV (rr_nilc rfl) ?_ | refine QV QlT ?_ | refine QV QlF ?_ | refine QV QgT ?_ | refine QV QgF ?_ | refine QV QaA ?_))
        refine TL_callB [0, 1, 2, 3] [4, 5, 6, 7] (by decide) rfl rfl (he2 EntersC.en rfl rfl rfl) (fun w hm hb => hst d tz vs vt (by omega) (by have := i2.tags; omega) w _ (ho.on hm (by simp [dmL])) hb) rfl rfl rfl ?_
        rintro ⟨vs', vt'⟩ _
        conv => arg 8; simp only [zA, zB, zC, zD, zE, zF, zG, zH, zI, rowS, ret, id_eq, stSp, dmL]
        conv => arg 7; simp only [stSp]
        generalize stateF p d tz = R at *
        obtain ⟨q, d'⟩ := R
        dsimp only at i4 s1 s2 s3 s4 s5 ⊢
        have hq : q ≤ 200 := by omega
        refine TL_know (i := 5) rfl row_slm fun hrow => ?_
        obtain ⟨ab, cs, rfl, hmS, -⟩ := hrow
        repeat (first
          | refine QV QP ?_ | refine QZ ?_ | refine qcT rfl ?_ | refine qcF rfl ?_ | refine E_blockX ?_ | refine E_blockO rfl ?_
          | refine qs rfl rfl rfl rfl rfl rfl ?_
          | ((try refine qg rfl rfl rfl ?_); first | refine QV QP ?_ | refine QV (rr_conv Und.eq Und.eq rfl (wrap16d (by omega) (by omega))) ?_ | refine QV (rr_aidx1 Und.eq TyC.ty rfl rfl c1) ?_ | refine QV QL ?_ | refine QV QA ?_ | refine QV (rr_nilc rfl) ?_ | refine QV QlT ?_ | refine QV QlF ?_ | refine QV QgT ?_ | refine QV QgF ?_ | refine QV QaA ?_))
        refine TL_storeV (i := 2) rfl rfl rfl c1 ?_
        conv => arg 8; simp only [zA, zB, zC, zD, zE, zF, zG, zH, zI, rowS, ret, id_eq]
        generalize (r.set b (-1)).set b (q : Int) = r' at *
        by_cases q2 : 200 < d'.S.length + 1
        · rw [if_pos q2] at i4
          subst i4
          repeat (first
            | refine QV QP ?_ | refine QZ ?_ | refine qcT rfl ?_ | refine qcF rfl ?_ | refine E_blockX ?_ | refine E_blockO rfl ?_
            | refine qs rfl rfl rfl rfl rfl rfl ?_
            | ((try refine qg rfl rfl rfl ?_); first | refine QV QP ?_ | refine QV (rr_nilc rfl) ?_ | refine QV (rr_load1 (v := .slice ab (d'.S.length + 1) cs) TyC.ty rfl (at_blk (i := 4) rfl rfl)) ?_ | refine QV (rr_gtr (b := true) rfl rfl (decide_eq_true (by omega))) ?_ | refine QV (rr_loadB (i := 2) TyC.ty rfl rfl (by rw [List.size_toArray, rowC_len])) ?_ | refine QV QL ?_ | refine QV QA ?_ | refine QV (rr_nilc rfl) ?_ | refine QV QlT ?_ | refine QV QlF ?_ | refine QV QgT ?_ | refine QV QgF ?_ | refine QV QaA ?_))
          refine TL_storeB (i := 0) (cs' := (rowC r').toArray) rfl rfl rfl (by rw [List.size_toArray, rowC_len]) (row_oneA r') (by rw [List.size_toArray, rowC_len]) ?_
          conv => arg 8; simp only [zA, zB, zC, zD, zE, zF, zG, zH, zI, rowS, ret, id_eq]
          repeat (first
            | refine QV QP ?_ | refine QZ ?_ | refine qcT rfl ?_ | refine qcF rfl ?_ | refine E_blockX ?_ | refine E_blockO rfl ?_
            | refine qs rfl rfl rfl rfl rfl rfl ?_
            | ((try refine qg rfl rfl rfl ?_); first | refine QV QP ?_ | refine QV QL ?_ | refine QV QA ?_ | refine QV (rr_nilc rfl) ?_ | refine QV QlT ?_ | refine QV QlF ?_ | refine QV QgT ?_ | refine QV QgF ?_ | refine QV QaA ?_))
          exact E_retc1 (i := 0) rfl rfl rfl (by rw [List.size_toArray, rowC_len]) fun w hm => hm.meetsB (S := ⟨fun (_ : Value × Value) => True, fun _ => rowV r', fun x => dmL (.slice ac p.classes.length cc) vr vf vfol vl ve rows g gm x.1 x.2 d'⟩) (.slice ab (d'.S.length + 1) cs, vt') trivial [4, 5, 6, 7] (by decide) rfl
        · rw [if_neg q2] at i4
          repeat (first
            | refine QV QP ?_ | refine QZ ?_ | refine qcT rfl ?_ | refine qcF rfl ?_ | refine E_blockX ?_ | refine E_blockO rfl ?_
            | refine qs rfl rfl rfl rfl rfl rfl ?_
            | ((try refine qg rfl rfl rfl ?_); first | refine QV QP ?_ | refine QV (rr_nilc rfl) ?_ | refine QV (rr_load1 (v := .slice ab (d'.S.length + 1) cs) TyC.ty rfl (at_blk (i := 4) rfl rfl)) ?_ | refine QV (rr_gtr (b := false) rfl rfl (decide_eq_false (by omega))) ?_ | refine QV QL ?_ | refine QV QA ?_ | refine QV (rr_nilc rfl) ?_ | refine QV QlT ?_ | refine QV QlF ?_ | refine QV QgT ?_ | refine QV QgF ?_ | refine QV QaA ?_))
          refine E_pick [4, 5, 6, 7, 0, 1, 2] (by decide) rfl ?_
          exact E_round (b + 1, r', d', .slice ab (d'.S.length + 1) cs, vt') ⟨by omega, s1, by show d'.S.length + 1 ≤ 200; omega, i4⟩ (by show 256 - (b + 1) < 256 - b; omega) (by repeat' (first | exact True.intro | refine And.intro rfl ?_)) rfl
  · obtain rfl : b = 256 := by omega
    have i4 : (r, d) = fin := i4
    subst i4
    repeat (first
      | refine QV QP ?_ | refine QZ ?_ | refine qcT rfl ?_ | refine qcF rfl ?_ | refine E_blockX ?_ | refine E_blockO rfl ?_
      | refine qs rfl rfl rfl rfl rfl rfl ?_
      | ((try refine qg rfl rfl rfl ?_); first | refine QV QP ?_ | refine QV (rr_loadB (i := 6) TyC.ty rfl rfl (by rw [List.size_toArray, rowC_len])) ?_ | refine QV QL ?_ | refine QV QA ?_ | refine QV (rr_nilc rfl) ?_ | refine QV QlT ?_ | refine QV QlF ?_ | refine QV QgT ?_ | refine QV QgF ?_ | refine QV QaA ?_))
    refine TL_storeB (i := 4) (cs' := (rowC r).toArray) rfl rfl rfl (by rw [List.size_toArray, rowC_len]) (row_oneA r) (by rw [List.size_toArray, rowC_len]) ?_
    conv => arg 8; simp only [zA, zB, zC, zD, zE, zF, zG, zH, zI, rowS, ret, id_eq]
    repeat (first
      | refine QV QP ?_ | refine QZ ?_ | refine qcT rfl ?_ | refine qcF rfl ?_ | refine E_blockX ?_ | refine E_blockO rfl ?_
      | refine qs rfl rfl rfl rfl rfl rfl ?_
      | ((try refine qg rfl rfl rfl ?_); first | refine QV QP ?_ | refine QV QL ?_ | refine QV QA ?_ | refine QV (rr_nilc rfl) ?_ | refine QV QlT ?_ | refine QV QlF ?_ | refine QV QgT ?_ | refine QV QgF ?_ | refine QV QaA ?_))
    exact E_retc1 (i := 4) rfl rfl rfl (by rw [List.size_toArray, rowC_len]) fun w hm => hm.meetsB (S := ⟨fun (_ : Value × Value) => True, fun _ => rowV r, fun x => dmL (.slice ac p.classes.length cc) vr vf vfol vl ve rows g gm x.1 x.2 d⟩) (vs, vt) trivial [0, 1, 2, 3] (by decide) rfl
end Go.Proofs.Ytkmemlnkijinlaa.eng

/- SmPL -/
namespace Go.Proofs.Ytkmemlnkijinlaa.eng
open Go.RowKit kit mix dfaL smallL
def cellF (R : List Row) (i b : Nat) : Int := (R.getD i row0).toList.getD b 0
theorem cell_get {R : List Row} {i b : Nat} (h : i < R.length) (hb : b < 256) : cellF R i b = (R[i])[b] := aut_d (tags := []) h hb
/-- a column, its first k cells being there -/
def colS (R : List Row) (b k : Nat) : Col := Vector.ofFn fun i : Fin 200 => if i < k then cellF R i b else 0
def colF (R : List Row) (b : Nat) : Col := colS R b R.length
theorem colS_0 (R : List Row) (b : Nat) : colS R b 0 = Vector.replicate 200 0 := by
  refine Vector.ext fun i hi => ?_
  unfold colS; simp
theorem colS_set (R : List Row) (b k : Nat) (h : k < 200) : (colS R b k).set k (cellF R k b) = colS R b (k + 1) := by
  refine Vector.ext fun i hi => ?_
  unfold colS
  rw [Vector.getElem_set, Vector.getElem_ofFn, Vector.getElem_ofFn]
  split
  · rename_i e; subst e; simp
  · have : i < k ↔ i < k + 1 := by omega
    simp only [this]
theorem col_set (c : Col) {i : Nat} (h : i < 200) (x : Int) : (colC c).toArray.setIfInBounds i (.int .i16 x) = (colC (c.set i x)).toArray := by
  unfold colC
  rw [Vector.toList_set, List.map_set]; simp
theorem zero_col : (List.replicate 200 (Value.int .i16 0)).toArray = (colC (Vector.replicate 200 0)).toArray := by
  unfold colC
  rw [Vector.toList_replicate, List.map_replicate]
theorem colF_get (R : List Row) (b i : Nat) (h : i < R.length) (h2 : R.length ≤ 200) : (colF R b).toList.getD i 0 = cellF R i b := by
  unfold colF colS
  rw [List.getD_eq_getElem?_getD, List.getElem?_eq_getElem (by simp; omega), Option.getD_some, Vector.getElem_toList, Vector.getElem_ofFn]
  simp [h]
theorem colF_ok {R : List Row} (hr : ∀ r ∈ R, ∀ x ∈ r.toList, -32768 ≤ x ∧ x ≤ 32767) {b : Nat} (hb : b < 256) : colOk (colF R b) := by
  intro i hi
  unfold colF colS
  rw [Vector.getElem_ofFn]
  dsimp only
  split
  · rename_i h
    rw [cell_get h hb]
    exact hr R[i] (List.getElem_mem h) _ (by rw [← Vector.getElem_toList (h := by simpa using hb)]; exact List.getElem_mem _)
  · omega
/-- the columns, as they come -/
def pkD (R : List Row) (k : Nat) : List Col := firsts [] ((List.range k).map (colF R))
theorem pkD_next (R : List Row) (k : Nat) : pkD R (k + 1) = more (pkD R k) (colF R k) := by
  unfold pkD
  rw [List.range_succ, List.map_append, List.map_singleton, firsts_snoc]
theorem pkD_old {R : List Row} {k : Nat} (h : colF R k ∈ pkD R k) : pkD R (k + 1) = pkD R k := by
  rw [pkD_next]; exact if_pos h
theorem pkD_new {R : List Row} {k : Nat} (h : colF R k ∉ pkD R k) : pkD R (k + 1) = pkD R k ++ [colF R k] := by
  rw [pkD_next]; exact if_neg h
theorem pkD_len (R : List Row) : ∀ k, (pkD R k).length ≤ k
  | 0 => Nat.le_refl _
  | k + 1 => by
    have := pkD_len R k
    by_cases c : colF R k ∈ pkD R k
    · rw [pkD_old c]; omega
    · rw [pkD_new c, List.length_append, List.length_singleton]; omega
theorem pkD_pre (R : List Row) (k : Nat) : ∀ j, k ≤ j → ∃ E, pkD R j = pkD R k ++ E
  | 0, h => ⟨[], by obtain rfl : k = 0 := (by omega); rw [List.append_nil]⟩
  | j + 1, h => by
    by_cases c : k = j + 1
    · subst c; exact ⟨[], by rw [List.append_nil]⟩
    · obtain ⟨E, hE⟩ := pkD_pre R k j (by omega)
      obtain ⟨E', hE'⟩ := more_pre (pkD R j) (colF R j)
      exact ⟨E ++ E', by rw [pkD_next, hE', hE, List.append_assoc]⟩
theorem pkD_mem (R : List Row) {b k : Nat} (h : b < k) : colF R b ∈ pkD R k := mem_firsts.2 (.inr (List.mem_map.2 ⟨b, by simpa using h, rfl⟩))
/-- the number of a byte's column -/
def pkN (R : List Row) (b : Nat) : Nat := idx (pkD R 256) (colF R b)
theorem pkN_at {R : List Row} {k : Nat} (h : k < 256) : pkN R k = if colF R k ∈ pkD R k then idx (pkD R k) (colF R k) else (pkD R k).length := by
  obtain ⟨E, hE⟩ := pkD_pre R (k + 1) 256 (by omega)
  unfold pkN
  rw [hE, idx_pre (pkD_mem R (Nat.lt_succ_self k)), pkD_next, idx_more]
  by_cases c : colF R k ∈ pkD R k
  · rw [if_pos c, if_pos c]
  · rw [if_neg c, if_neg c]
theorem pkN_lt (R : List Row) {b : Nat} (h : b < 256) : pkN R b < (pkD R 256).length := idx_lt (pkD_mem R h)
theorem pkN_256 (R : List Row) {b : Nat} (h : b < 256) : pkN R b < 256 := Nat.lt_of_lt_of_le (pkN_lt R h) (pkD_len R 256)
abbrev Of := Vector Nat 256
def ofS (R : List Row) (k : Nat) : Of := Vector.ofFn fun b : Fin 256 => if b < k then pkN R b else 0
theorem ofS_0 (R : List Row) : ofS R 0 = Vector.replicate 256 0 := by
  refine Vector.ext fun i hi => ?_
  unfold ofS; simp
theorem ofS_set (R : List Row) (k : Nat) (h : k < 256) : (ofS R k).set k (pkN R k) = ofS R (k + 1) := by
  refine Vector.ext fun i hi => ?_
  unfold ofS
  rw [Vector.getElem_set, Vector.getElem_ofFn, Vector.getElem_ofFn]
  split
  · rename_i e; subst e; simp
  · have : i < k ↔ i < k + 1 := by omega
    simp only [this]
/-- a row of Next, the columns being D -/
def nxL (D : List Col) (i : Nat) : List Int := D.map fun c => c.toList.getD i 0
/-- what small.Pack makes of rows -/
def pkR (R : List Row) : List (List Int) := (List.range R.length).map (nxL (pkD R 256))
/-! ### cells -/
def pkC (o : Of) (vn vt : Value) : List Value := o.toList.map (fun n : Nat => .int .u8 (n : Int)) ++ [vn, vt]
def pkV (o : Of) (vn vt : Value) : Value := .agg (pkC o vn vt).toArray
theorem pkC_len (o : Of) (vn vt : Value) : (pkC o vn vt).length = 258 := by simp [pkC]
theorem pk_size (o : Of) (vn vt : Value) : (pkC o vn vt).toArray.size = 258 := by rw [List.size_toArray, pkC_len]
theorem pk_of (o : Of) (vn vt : Value) {b : Nat} (h : b < 256) : (pkC o vn vt).toArray[b]? = some (.int .u8 (o[b] : Int)) := by
  rw [List.getElem?_toArray]
  unfold pkC
  rw [List.getElem?_append_left (by simpa using h), List.getElem?_map, List.getElem?_eq_getElem (by simpa using h), Vector.getElem_toList]; rfl
theorem pk_next (o : Of) (vn vt : Value) : (pkC o vn vt).toArray[256]? = some vn := by
  rw [List.getElem?_toArray]
  unfold pkC
  rw [List.getElem?_append_right (by simp)]; simp
theorem pk_tags (o : Of) (vn vt : Value) : (pkC o vn vt).toArray[257]? = some vt := by
  rw [List.getElem?_toArray]
  unfold pkC
  rw [List.getElem?_append_right (by simp)]; simp
theorem pk_one (o : Of) {vn vt : Value} (h1 : vn.oneCell' = true) (h2 : vt.oneCell' = true) : (pkC o vn vt).toArray.toList.all Value.oneCell' = true := by
  refine List.all_eq_true.2 fun u hu => ?_
  unfold pkC at hu
  simp only [List.mem_append, List.mem_map, List.mem_cons, List.not_mem_nil, or_false] at hu
  rcases hu with ⟨n, _, rfl⟩ | rfl | rfl
  · rfl
  · exact h1
  · exact h2
theorem pk_set (o : Of) (vn vt : Value) {b : Nat} (h : b < 256) (x : Nat) : (pkC o vn vt).toArray.setIfInBounds b (.int .u8 (x : Int)) = (pkC (o.set b x) vn vt).toArray := by
  unfold pkC
  rw [Vector.toList_set, List.map_set]
  simp [List.set_append, h]
theorem zero_pk : (List.replicate 256 (Value.int .u8 0) ++ ([.slice none 0 0, .slice none 0 0] : List Value)).toArray = (pkC (Vector.replicate 256 0) (.slice none 0 0) (.slice none 0 0)).toArray := by
  unfold pkC
  rw [Vector.toList_replicate, List.map_replicate]; rfl
theorem build_pk0 (w : World) : (Instr.build 26 #[]).run Try.prog w = .ok (pkV (Vector.replicate 256 0) (.slice none 0 0) (.slice none 0 0)) w := by kernel_rfl
theorem build_pk (g h n m cap : Nat) (w : World) : (Instr.build 26 #[(1, .slice (some ⟨g, 0, none⟩) n n), (2, .slice (some ⟨h, 0, none⟩) m cap)]).run Try.prog w = .ok (pkV (Vector.replicate 256 0) (.slice (some ⟨g, 0, none⟩) n n) (.slice (some ⟨h, 0, none⟩) m cap)) w := by kernel_rfl
end Go.Proofs.Ytkmemlnkijinlaa.eng

/- SmPk -/
namespace Go.Proofs.Ytkmemlnkijinlaa.eng
open Go.RowKit kit mix dfaL smallL
/-- all pairs, one behind the other -/
def cant : Nat → Nat × Nat
  | 0 => (0, 0)
  | n + 1 => match cant n with
    | (a, 0) => (0, a + 1)
    | (a, b + 1) => (a + 1, b)
theorem cant_all : ∀ (s a b : Nat), a + b = s → ∃ n, cant n = (a, b)
  | 0, a, b, h => ⟨0, by obtain rfl : a = 0 := (by omega); obtain rfl : b = 0 := (by omega); rfl⟩
  | s + 1, 0, b, h => by
    obtain rfl : b = s + 1 := by omega
    obtain ⟨n, hn⟩ := cant_all s s 0 (by omega)
    exact ⟨n + 1, by simp [cant, hn]⟩
  | s + 1, a + 1, b, h => by
    obtain ⟨n, hn⟩ := cant_all (s + 1) a (b + 1) (by omega)
    exact ⟨n + 1, by simp [cant, hn]⟩
def slCant (m x : Nat) : Value := .slice (some ⟨(cant x).1, 0, none⟩) m (cant x).2
section
variable {P : Program} {n : Nat} {W : Base} {fr : Fr} {ops : Array Oper}
theorem makes_A {i d : Nat} {α : Type} (val : α → Value) (z : α) {t e ty : TypeId} {pos : String} {after : Array Edge} {x y : Operand} {bytes m : Nat} {k k' : IntKind} [ElC P t e 1 bytes] [ZeroC P e #[val z]] (ho : ops[i]? = some ⟨some d, .makeSlice t x y, ty, pos, after, none⟩) (hx : ev fr x = some (.int k (m : Int))) (hy : ev fr y = some (.int k' (m : Int))) (hb : bytes * m ≤ 281474976710656) (h63 : m ≤ 9223372036854775807) (hn : Nat.blt d n = true) :
    Makes P n W ops fr ⟨i, d, fun g => .slice (some ⟨g, 0, none⟩) m m, fun g => rowA e val g m fun _ => z⟩ :=
  ⟨_, ho, fun _ _ _ hl h => TL_makeA val z (ev_mono hl hx) (ev_mono hl hy) hb h63 hn h⟩
/-- a call that answers a new row, which is not empty -/
theorem makes_row {i d : Nat} {o : Oper} {f : FuncId} {args : Array Value} {e : TypeId} {size m : Nat} {xs : List Value} (ho : ops[i]? = some o) (he : ∀ fr', (∀ q v, look fr q = some v → look fr' q = some v) → ∀ a w, Rep n a fr' → (execOp a.eval o).run P w = .ok (.enter f args) w)
    (hc : ∀ (L : List Own) w, Mem W L w → Calls P f args w (Meets (rowS e size m xs id) w)) (hm : 0 < m) (hg : o.guard = none) (hd : o.dst = some d) (hn : Nat.blt d n = true) :
    Makes P n W ops fr ⟨i, d, slCant m, fun x => rowO e size (slCant m x) m xs⟩ :=
  ⟨o, ho, fun Q fr' L hl h => TL_call (he fr' hl) (fun w hw => hc L w hw) hg hd hn fun v _ => .mk fun a w hr hw => by
    have hw' : (rowO e size v m xs).holds w := hw.get (i := L.length) (by simp [rowS])
    obtain ⟨G, cap, hv, _, _, _⟩ := row_form hw'
    cases G with
    | none =>
      rcases hw'.2 with ⟨_, h0⟩ | ⟨g, cap', cur, hv', _⟩
      · omega
      · rw [hv'] at hv; cases hv
    | some g =>
      obtain ⟨x, hx⟩ := cant_all _ g cap rfl
      have e : v = slCant m x := by rw [hv]; unfold slCant; rw [hx]; rfl
      have := h x
      dsimp only at this
      rw [← e] at this
      exact this.go a w hr hw⟩
end
theorem TL_storeCol {P : Program} {n : Nat} {W : Base} {fr : Fr} {L : List Own} {Q : Exit → Act → World → Prop} {ops : Array Oper} {rest : List Oper} {ty : TypeId} {pos : String} {after : Array Edge} {t : TypeId} {p x : Operand} {i g b : Nat} {c : Col} {T : TypeId} {agg : Bool} {z : Int} [hT : TyC P t agg 1] (hi : L[i]? = some (blkO g (colC c).toArray T)) (hp : ev fr p = some (.pointer (some ⟨g, 0 + b, none⟩))) (hx : ev fr x = some (.int .i16 z)) (hb : b < 200)
    (h : TL P n W ops Q rest fr (L.set i (blkO g (colC (c.set b z)).toArray T))) : TL P n W ops Q (⟨none, .store t p x, ty, pos, after, none⟩ :: rest) fr L := by
  rw [Nat.zero_add] at hp
  refine TL_store1 hi hp hx rfl rfl ?_ ?_
  · rw [List.size_toArray, colC_len]; exact Nat.blt_eq ▸ hb
  · rw [col_set c hb]; exact h
abbrev valV (v : Value) : Value := v
def mkNx (n : Nat) : Mk := ⟨3, 24, fun g => .slice (some ⟨g, 0, none⟩) n n, fun g => rowA 24 valV g n fun _ => .slice none 0 0⟩
def mkTg (tags : List Int) : Mk := ⟨6, 27, slCant tags.length, fun x => rowO 3 1 (slCant tags.length x) tags.length (tags.flatMap kit.intC)⟩
def mkPk : Mk := ⟨8, 5, fun g => .pointer (some ⟨g, 0, none⟩), fun g => blkO g (List.replicate 256 (Value.int .u8 0) ++ ([.slice none 0 0, .slice none 0 0] : List Value)).toArray 26⟩
/-- the rows of Next, the columns being D -/
def nxO (n : Nat) (D : List Col) (vs : Nat → Value) : Own := famP (fun i => i < n) fun i => rowO 3 1 (vs i) D.length ((nxL D i).flatMap kit.intC)
/-- on the way: the first j rows have the column col, too -/
def nxM (n : Nat) (D : List Col) (col : Col) (j : Nat) (vs : Nat → Value) : Own := famP (fun i => i < n) fun i => rowO 3 1 (vs i) (if i < j then D ++ [col] else D).length ((nxL (if i < j then D ++ [col] else D) i).flatMap kit.intC)
theorem nxM_0 (n : Nat) (D : List Col) (col : Col) (vs : Nat → Value) : nxM n D col 0 vs = nxO n D vs := by
  unfold nxM nxO
  simp
theorem nxM_end (n : Nat) (D : List Col) (col : Col) (vs : Nat → Value) (i : Nat) (h : i < n) : (fun i => rowO 3 1 (vs i) (D ++ [col]).length ((nxL (D ++ [col]) i).flatMap kit.intC)) i = (fun i => rowO 3 1 (vs i) (if i < n then D ++ [col] else D).length ((nxL (if i < n then D ++ [col] else D) i).flatMap kit.intC)) i := by
  dsimp only
  rw [if_pos h]
theorem TL_storeOf {P : Program} {n : Nat} {W : Base} {fr : Fr} {L : List Own} {Q : Exit → Act → World → Prop} {ops : Array Oper} {rest : List Oper} {ty : TypeId} {pos : String} {after : Array Edge} {t : TypeId} {p x : Operand} {i g b z : Nat} {o : Of} {vn vt : Value} {T : TypeId} {agg : Bool} [hT : TyC P t agg 1] (hi : L[i]? = some (blkO g (pkC o vn vt).toArray T)) (hp : ev fr p = some (.pointer (some ⟨g, 0 + b, none⟩))) (hx : ev fr x = some (.int .u8 (z : Int))) (hb : b < 256)
    (h : TL P n W ops Q rest fr (L.set i (blkO g (pkC (o.set b z) vn vt).toArray T))) : TL P n W ops Q (⟨none, .store t p x, ty, pos, after, none⟩ :: rest) fr L := by
  rw [Nat.zero_add] at hp
  refine TL_store1 hi hp hx rfl rfl ?_ ?_
  · rw [pk_size]; exact Nat.blt_eq ▸ (by omega)
  · rw [pk_set o vn vt hb]; exact h
theorem nx_put {j : Nat} {D : List Col} {col : Col} {vs : Nat → Value} {v2 : Value} {x : Int} (h : nxL (D ++ [col]) j = nxL D j ++ [x]) (q : Nat) :
    (fun i => rowO 3 1 ((fun i => if i = j then v2 else vs i) i) (if i < j + 1 then D ++ [col] else D).length ((nxL (if i < j + 1 then D ++ [col] else D) i).flatMap kit.intC)) q
      = upd (fun i => rowO 3 1 (vs i) (if i < j then D ++ [col] else D).length ((nxL (if i < j then D ++ [col] else D) i).flatMap kit.intC)) j (rowO 3 1 v2 (D.length + 1) ((nxL D j).flatMap kit.intC ++ [.int .i64 x])) q := by
  unfold upd
  dsimp only
  by_cases c : q = j
  · subst c
    rw [if_pos rfl, if_pos rfl, if_pos (Nat.lt_succ_self q), h, List.length_append, List.flatMap_append]; rfl
  · rw [if_neg c, if_neg c]
    have e : q < j + 1 ↔ q < j := by omega
    simp only [e]
def packS (R : List Row) (tags : List Int) : Spec (Nat × (Nat → Value) × Value) := ⟨fun _ => True, fun x => .tuple #[pkV (ofS R 256) (.slice (some ⟨x.1, 0, none⟩) R.length R.length) x.2.2, .int .i64 0],
  fun x => [rowA 24 valV x.1 R.length x.2.1, nxO R.length (pkD R 256) x.2.1, rowO 3 1 x.2.2 tags.length (tags.flatMap kit.intC)]⟩
set_option maxRecDepth 100000 in
set_option maxHeartbeats 8000000 in
theorem pack_calls (vr vt : Value) (R : List Row) (tags : List Int) (w : World) (h : DfaM w vr vt R tags) (hc : chk R tags = 0) :
    Calls Try.prog 23 #[dfaV vr vt] w (Meets (packS R tags) w) := by
  have hck := fun w' (hg : Gr w w') => chkM_calls vr vt R tags w' (h.gr hg)
  rw [hc] at hck
  have hcl := fun w' (hg : Gr w w') hl => cloneSmIn_calls vt tags w' (h.hT.gr hg) hl
  obtain ⟨bt, ct, rfl, ht1, ht2, ht3⟩ := h.hT
  obtain ⟨br, cr, rfl, hr1, hr2, hr3⟩ := h.hR
  have hrng := h.rng
  unfold maxLen at hr2 ht2
  clear h
  obtain ⟨hA, hlt⟩ := chk_ok hc
  have hpos : 0 < R.length := hA.pos
  have hle : R.length ≤ 200 := hA.le
  clear hA hc
  obtain ⟨b, off, rfl, hr⟩ := hr3 hpos
  obtain ⟨bb, ofT, rfl, hrt⟩ := ht3 (by omega)
  clear hr3 ht3 hrt
  have hcl := fun w' hg => hcl w' hg (by omega)
  have hb0 := build_pk0
  refine enter (args := [dfaV (.slice (some ⟨b, off, none⟩) R.length cr) (.slice (some ⟨bb, ofT, none⟩) tags.length ct)]) (n := 91) Try.func23 rfl rfl rfl ?_
  refine T_seq (T_region (TL_box rfl rfl rfl fun g1 => ?_))
  refine TL_new rfl fun g2 => ?_
  rw [zero_pk]
  conv => arg 8; simp only [zA, zB, zC, zD, zE, zF, zG, zH, zI, rowS, ret, id_eq]
  repeat (first
    | refine QV QP ?_ | refine QZ ?_ | refine qcT rfl ?_ | refine qcF rfl ?_ | refine E_blockX ?_ | refine E_blockO rfl ?_
    | refine QV (rr_loadB (i := 0) TyC.ty rfl rfl rfl) ?_ | refine QV QL ?_ | refine QV QA ?_ | refine QV (rr_not rfl rfl) ?_ | refine QV QlT ?_
    | refine QV QlF ?_ | refine QV QnT ?_ | refine QV QnF ?_ | refine QV QaA ?_)
  refine TL_call (he1 EntersC.en rfl rfl) (fun w hm => hck _ hm.below) rfl rfl rfl ?_
  intro _ _
  repeat (first
    | refine QV QP ?_ | refine QZ ?_ | refine qcT rfl ?_ | refine qcF rfl ?_ | refine E_blockX ?_ | refine E_blockO rfl ?_ | refine QV QL ?_
    | refine QV QA ?_ | refine QV (rr_not rfl rfl) ?_ | refine QV QlT ?_ | refine QV QlF ?_ | refine QV QnT ?_ | refine QV QnF ?_ | refine QV QaA ?_)
  (repeat refine T_seq ?_)
  refine T_midq (ι := Nat × Nat × Nat) (fun _ => True) (fun (_, _, g5) => [(1, .pointer (some ⟨g1, 0, none⟩)), (2, .pointer (some ⟨g2, 0, none⟩)), (5, .pointer (some ⟨g5, 0, none⟩))])
    (fun (gN, x, g5) => [blkO g1 (dfaV (.slice (some ⟨b, off, none⟩) R.length cr) (.slice (some ⟨bb, ofT, none⟩) tags.length ct)).cells 55, blkO g2 (pkC (Vector.replicate 256 0) (.slice none 0 0) (.slice none 0 0)).toArray 26, rowA 24 valV gN R.length (fun _ => .slice none 0 0), rowO 3 1 (slCant tags.length x) tags.length (tags.flatMap kit.intC), blkO g5 (pkC (ofS R 0) (.slice (some ⟨gN, 0, none⟩) R.length R.length) (slCant tags.length x)).toArray 26]) ?_ ?_
  · refine T_ordX [blkO g1 (dfaV (.slice (some ⟨b, off, none⟩) R.length cr) (.slice (some ⟨bb, ofT, none⟩) tags.length ct)).cells 55] (sub_pick [0] (by decide) rfl) (by kernel_rfl) (by kernel_rfl) (by intro c a d v w h; cases d <;> exact h) ?_
    refine TX_val 0 (by kernel_rfl) rfl (qfld FldC.fld rfl rfl) rfl rfl rfl ?_
    refine TX_val 1 (by kernel_rfl) rfl (rr_load1 TyC.ty rfl (at_blk (i := 0) rfl rfl)) rfl rfl rfl ?_
    refine TX_val 2 (by kernel_rfl) rfl (qlen Und.eq rfl) rfl rfl rfl ?_
    refine TX_val 4 (by kernel_rfl) rfl (qfld FldC.fld rfl rfl) rfl rfl rfl ?_
    refine TX_val 5 (by kernel_rfl) rfl (rr_load1 TyC.ty rfl (at_blk (i := 0) rfl rfl)) rfl rfl rfl ?_
    refine TX_many2 [mkNx R.length, mkTg tags, mkPk] (fun m => !Nat.beq m.i 8) 2 (by kernel_rfl) (by kernel_rfl) ?_ (fun q => ?_) fun q => ?_
    · intro m hm
      simp only [List.mem_cons, List.not_mem_nil, or_false] at hm
      rcases hm with rfl | rfl | rfl
      · exact makes_A valV _ rfl rfl rfl (by omega) (by omega) rfl
      · exact makes_row rfl (fun fr' hl => he1 EntersC.en rfl (ev_mono hl rfl)) (fun L w hm => hcl w hm.below) (by omega) rfl rfl rfl
      · exact makes_new rfl rfl
    · simp only [mkNx, mkTg, mkPk, List.map_cons, List.map_nil]
      generalize q 3 = gN
      generalize q 6 = x
      generalize q 8 = g5
      clear q
      rw [zero_pk]
      refine TX_tree (.calm 7 (.one 9 .done)) (by kernel_rfl) rfl ?_
      repeat (first
        | ((first | refine TW_plain rfl rfl ?_ | refine TW_gmet rfl rfl rfl rfl ?_); first | refine QW QP ?_ | refine QW (rr_build rfl (build_pk _ _ _ _ _)) ?_ | refine QW QL ?_ | refine QW QA ?_ | refine QW (rr_not rfl rfl) ?_ | refine QW QlT ?_ | refine QW QlF ?_ | refine QW QnT ?_ | refine QW QnF ?_ | refine QW QaA ?_)
        | refine TW_done ?_)
      refine TW_one rfl ?_
      refine TL_storeB (i := 4) (cs' := (pkC (Vector.replicate 256 0) (.slice (some ⟨gN, 0, none⟩) R.length R.length) (slCant tags.length x)).toArray) rfl rfl rfl (pk_size _ _ _) (pk_one _ rfl rfl) (pk_size _ _ _) ?_
      refine TW_on (sub_pick [0] (by decide) rfl) ?_
      repeat (first
        | ((first | refine TW_plain rfl rfl ?_ | refine TW_gmet rfl rfl rfl rfl ?_); first | refine QW QP ?_ | refine QW QL ?_ | refine QW QA ?_ | refine QW (rr_not rfl rfl) ?_ | refine QW QlT ?_ | refine QW QlF ?_ | refine QW QnT ?_ | refine QW QnF ?_ | refine QW QaA ?_)
        | refine TW_done ?_)
      exact E_mid (gN, x, g5) trivial (by repeat' (first | exact True.intro | refine And.intro rfl ?_)) (by rw [ofS_0]; rfl)
    · rw [show List.filter (fun m : Mk => !Nat.beq m.i 8) [mkNx R.length, mkTg tags, mkPk] = [mkNx R.length, mkTg tags] from rfl]
      simp only [mkNx, mkTg, mkPk, List.map_cons, List.map_nil]
      generalize q 3 = gN
      generalize q 6 = x
      clear q
      refine TX_tree (.calm 7 (.one 8 (.one 9 .done))) (by kernel_rfl) (by kernel_rfl) ?_
      repeat (first
        | ((first | refine TW_plain rfl rfl ?_ | refine TW_gmet rfl rfl rfl rfl ?_); first | refine QW QP ?_ | refine QW (rr_build rfl (build_pk _ _ _ _ _)) ?_ | refine QW QL ?_ | refine QW QA ?_ | refine QW (rr_not rfl rfl) ?_ | refine QW QlT ?_ | refine QW QlF ?_ | refine QW QnT ?_ | refine QW QnF ?_ | refine QW QaA ?_)
        | refine TW_done ?_)
      refine TW_one rfl ?_
      refine TL_new rfl fun g5 => ?_
      refine TW_on (sub_pick [0] (by decide) rfl) ?_
      rw [zero_pk]
      refine TW_one rfl ?_
      refine TL_storeB (i := 4) (cs' := (pkC (Vector.replicate 256 0) (.slice (some ⟨gN, 0, none⟩) R.length R.length) (slCant tags.length x)).toArray) rfl rfl rfl (pk_size _ _ _) (pk_one _ rfl rfl) (pk_size _ _ _) ?_
      refine TW_on (sub_pick [0] (by decide) rfl) ?_
      repeat (first
        | ((first | refine TW_plain rfl rfl ?_ | refine TW_gmet rfl rfl rfl rfl ?_); first | refine QW QP ?_ | refine QW QL ?_ | refine QW QA ?_ | refine QW (rr_not rfl rfl) ?_ | refine QW QlT ?_ | refine QW QlF ?_ | refine QW QnT ?_ | refine QW QnF ?_ | refine QW QaA ?_)
        | refine TW_done ?_)
      exact E_mid (gN, x, g5) trivial (by repeat' (first | exact True.intro | refine And.intro rfl ?_)) (by rw [ofS_0]; rfl)
  rintro ⟨gN, xT, g5⟩ _
  dsimp only
  generalize hvT : slCant tags.length xT = vT
  repeat (first
    | refine QV QP ?_ | refine QZ ?_ | refine qcT rfl ?_ | refine qcF rfl ?_ | refine E_blockX ?_ | refine E_blockO rfl ?_ | refine QV QL ?_
    | refine QV QA ?_ | refine QV (rr_not rfl rfl) ?_ | refine QV QlT ?_ | refine QV QlF ?_ | refine QV QnT ?_ | refine QV QnF ?_ | refine QV QaA ?_)
  refine TL_mapNew (K := colK) rfl fun g6 => ?_
  conv => arg 8; simp only [zA, zB, zC, zD, zE, zF, zG, zH, zI, rowS, ret, id_eq]
  repeat (first
    | refine QV QP ?_ | refine QZ ?_ | refine qcT rfl ?_ | refine qcF rfl ?_ | refine E_blockX ?_ | refine E_blockO rfl ?_ | refine QV QL ?_
    | refine QV QA ?_ | refine QV (rr_not rfl rfl) ?_ | refine QV QlT ?_ | refine QV QlF ?_ | refine QV QnT ?_ | refine QV QnF ?_ | refine QV QaA ?_)
  refine T_extra (nxO R.length [] fun _ => .slice none 0 0) (fun k hk => ?_) (fun w => ⟨fun i _ => World.ownsRow_nil _ _ _ _, fun i j _ _ _ k hk => ?_⟩) ?_
  · rcases hk with hk | ⟨i, _, hk⟩
    · cases hk
    · rcases hk with hk | hk <;> cases hk
  · rcases hk with hk | hk <;> cases hk
  conv => arg 7; simp only [zA, zB, zC, zD, zE, zF, zG, zH, zI, rowS, ret, id_eq]
  refine T_loop (ι := Nat × (Nat → Value)) (fun (k, _) => k ≤ 256) (fun (k, _) => [(1, .pointer (some ⟨g1, 0, none⟩)), (2, .pointer (some ⟨g2, 0, none⟩)), (5, .pointer (some ⟨g5, 0, none⟩)), (6, .map (some g6)), (30, .int .i64 (k : Int))])
    (fun (k, vs) => [blkO g1 (dfaV (.slice (some ⟨b, off, none⟩) R.length cr) (.slice (some ⟨bb, ofT, none⟩) tags.length ct)).cells 55, blkO g2 (pkC (Vector.replicate 256 0) (.slice none 0 0) (.slice none 0 0)).toArray 26, rowA 24 valV gN R.length vs, rowO 3 1 vT tags.length (tags.flatMap kit.intC), blkO g5 (pkC (ofS R k) (.slice (some ⟨gN, 0, none⟩) R.length R.length) vT).toArray 26, mapO colK g6 (mapAt (pkD R k)) (pkD R k).length, nxO R.length (pkD R k) vs]) (fun (k, _) => 256 - k) (0, fun _ => .slice none 0 0) (Nat.zero_le _) (by repeat' (first | exact True.intro | refine And.intro rfl ?_)) rfl ?_
  rintro ⟨k, vs⟩ hk
  dsimp only at hk ⊢
  by_cases c1 : k < 256
  · repeat (first
      | refine QV QP ?_ | refine QZ ?_ | refine qcT rfl ?_ | refine qcF rfl ?_ | refine E_blockX ?_ | refine E_blockO rfl ?_ | refine QV QL ?_
      | refine QV QA ?_ | refine QV (rr_not rfl rfl) ?_ | refine QV QlT ?_ | refine QV QlF ?_ | refine QV QnT ?_ | refine QV QnF ?_ | refine QV QaA ?_)
    refine TL_new rfl fun g8 => ?_
    conv => arg 8; simp only [zA, zB, zC, zD, zE, zF, zG, zH, zI, rowS, ret, id_eq]
    rw [zero_col, ← colS_0 R k]
    repeat (first
      | refine QV QP ?_ | refine QZ ?_ | refine qcT rfl ?_ | refine qcF rfl ?_ | refine E_blockX ?_ | refine E_blockO rfl ?_
      | refine QV (rr_load1 TyC.ty rfl (at_blk (i := 0) rfl rfl)) ?_ | refine QV QL ?_ | refine QV QA ?_ | refine QV (rr_not rfl rfl) ?_ | refine QV QlT ?_
      | refine QV QlF ?_ | refine QV QnT ?_ | refine QV QnF ?_ | refine QV QaA ?_)
    refine T_loop (ι := Nat) (fun j => j ≤ R.length) (fun j => [(1, .pointer (some ⟨g1, 0, none⟩)), (2, .pointer (some ⟨g2, 0, none⟩)), (5, .pointer (some ⟨g5, 0, none⟩)), (6, .map (some g6)), (7, .int .i64 (k : Int)), (8, .pointer (some ⟨g8, 0, none⟩)), (30, .int .i64 (k : Int)), (34, .slice (some ⟨b, off, none⟩) R.length cr), (35, .int .i64 (R.length : Int)), (36, .int .i64 (j : Int))])
      (fun j => [blkO g1 (dfaV (.slice (some ⟨b, off, none⟩) R.length cr) (.slice (some ⟨bb, ofT, none⟩) tags.length ct)).cells 55, blkO g2 (pkC (Vector.replicate 256 0) (.slice none 0 0) (.slice none 0 0)).toArray 26, rowA 24 valV gN R.length vs, rowO 3 1 vT tags.length (tags.flatMap kit.intC), blkO g5 (pkC (ofS R k) (.slice (some ⟨gN, 0, none⟩) R.length R.length) vT).toArray 26, mapO colK g6 (mapAt (pkD R k)) (pkD R k).length, nxO R.length (pkD R k) vs, blkO g8 (colC (colS R k j)).toArray 94]) (fun j => R.length - j) 0 (Nat.zero_le _) (by repeat' (first | exact True.intro | refine And.intro rfl ?_)) rfl ?_
    intro j hj
    by_cases c2 : j < R.length
    · have hatR := fun (L : List Own) => at_el (W := w) (L := L) rowC_len hr c2
      have hcell : (rowC R[j]).toArray[0 + k]? = some (.int .i16 (cellF R j k)) := by rw [Nat.zero_add, List.getElem?_toArray, rowC_get _ c1, cell_get c2 c1]
      have hset := colS_set R k j (by omega)
      generalize R[j] = r at *
      generalize cellF R j k = x at *
      repeat (first
        | refine QV QP ?_ | refine QZ ?_ | refine qcT rfl ?_ | refine qcF rfl ?_ | refine E_blockX ?_ | refine E_blockO rfl ?_
        | refine QV (rr_idxc Und.eq TyC.ty rfl rfl c2) ?_ | refine QV (rr_loadN TyC.ty rfl (rowC_len r) (hatR _)) ?_ | refine QV QL ?_ | refine QV QA ?_
        | refine QV (rr_not rfl rfl) ?_ | refine QV QlT ?_ | refine QV QlF ?_ | refine QV QnT ?_ | refine QV QnF ?_ | refine QV QaA ?_)
      refine TL_new rfl fun g10 => ?_
      conv => arg 8; simp only [zA, zB, zC, zD, zE, zF, zG, zH, zI, rowS, ret, id_eq]
      repeat (first
        | refine QV QP ?_ | refine QZ ?_ | refine qcT rfl ?_ | refine qcF rfl ?_ | refine E_blockX ?_ | refine E_blockO rfl ?_ | refine QV QL ?_
        | refine QV QA ?_ | refine QV (rr_not rfl rfl) ?_ | refine QV QlT ?_ | refine QV QlF ?_ | refine QV QnT ?_ | refine QV QnF ?_ | refine QV QaA ?_)
      refine TL_storeB (i := 8) (cs' := (rowC r).toArray) rfl rfl rfl (by rw [List.size_toArray, rowC_len]) (by simpa using row_one1 r) (by kernel_rfl) ?_
      conv => arg 8; simp only [zA, zB, zC, zD, zE, zF, zG, zH, zI, rowS, ret, id_eq]
      repeat (first
        | refine QV QP ?_ | refine QZ ?_ | refine qcT rfl ?_ | refine qcF rfl ?_ | refine E_blockX ?_ | refine E_blockO rfl ?_
        | refine QV (rr_aidx1 Und.eq TyC.ty rfl rfl c1) ?_ | refine QV (rr_load1 TyC.ty rfl (at_blk (i := 8) rfl hcell)) ?_
        | refine QV (rr_aidx1 Und.eq TyC.ty rfl rfl (by omega)) ?_ | refine QV QL ?_ | refine QV QA ?_ | refine QV (rr_not rfl rfl) ?_ | refine QV QlT ?_
        | refine QV QlF ?_ | refine QV QnT ?_ | refine QV QnF ?_ | refine QV QaA ?_)
      refine TL_storeCol (i := 7) (b := j) rfl rfl rfl (by omega) ?_
      rw [hset]
      conv => arg 8; simp only [zA, zB, zC, zD, zE, zF, zG, zH, zI, rowS, ret, id_eq]
      repeat (first
        | refine QV QP ?_ | refine QZ ?_ | refine qcT rfl ?_ | refine qcF rfl ?_ | refine E_blockX ?_ | refine E_blockO rfl ?_ | refine QV QL ?_
        | refine QV QA ?_ | refine QV (rr_not rfl rfl) ?_ | refine QV QlT ?_ | refine QV QlF ?_ | refine QV QnT ?_ | refine QV QnF ?_ | refine QV QaA ?_)
      refine E_pick [0, 1, 2, 3, 4, 5, 6, 7] (by decide) rfl ?_
      exact E_round (j + 1) (by omega) (by show R.length - (j + 1) < R.length - j; omega) (by repeat' (first | exact True.intro | refine And.intro rfl ?_)) rfl
    · obtain rfl : j = R.length := by omega
      rw [show colS R k R.length = colF R k from rfl]
      have hok := colF_ok hrng c1
      have hnk := pkN_at (R := R) c1
      have hn256 := pkN_256 R c1
      have hofs := ofS_set R k c1
      have hdl := pkD_len R k
      have hzero : ∀ w : World, (zeroValue 3).run Try.prog w = .ok (.int .i64 0) w := zeroI
      by_cases c2 : colF R k ∈ pkD R k
      · have hD := pkD_old c2
        rw [if_pos c2] at hnk
        generalize colF R k = col at *
        repeat (first
          | refine QV QP ?_ | refine QZ ?_ | refine qcT rfl ?_ | refine qcF rfl ?_ | refine E_blockX ?_ | refine E_blockO rfl ?_
          | refine QV (rr_loadB (i := 7) TyC.ty rfl rfl (by rw [List.size_toArray, colC_len])) ?_
          | refine QV (rr_lookNumS (K := colK) (x := col) Und.eq hzero (i := 5) rfl rfl rfl hok c2) ?_ | refine QV QL ?_ | refine QV QA ?_
          | refine QV (rr_not rfl rfl) ?_ | refine QV QlT ?_ | refine QV QlF ?_ | refine QV QnT ?_ | refine QV QnF ?_ | refine QV QaA ?_)
        have hwr := wrapU8 (k := idx (pkD R k) col) (by rw [← hnk]; exact hn256)
        rw [hnk] at hofs
        clear hnk hn256 hrng
        generalize pkD R k = D at *
        repeat (first
          | refine QV QP ?_ | refine QZ ?_ | refine qcT rfl ?_ | refine qcF rfl ?_ | refine E_blockX ?_ | refine E_blockO rfl ?_
          | refine QV (rr_conv Und.eq Und.eq rfl hwr) ?_ | refine QV (rr_aidx1 Und.eq TyC.ty rfl rfl c1) ?_ | refine QV QL ?_ | refine QV QA ?_
          | refine QV (rr_not rfl rfl) ?_ | refine QV QlT ?_ | refine QV QlF ?_ | refine QV QnT ?_ | refine QV QnF ?_ | refine QV QaA ?_)
        refine TL_storeOf (i := 4) (b := k) rfl rfl rfl c1 ?_
        rw [hofs]
        conv => arg 8; simp only [zA, zB, zC, zD, zE, zF, zG, zH, zI, rowS, ret, id_eq]
        repeat (first
          | refine QV QP ?_ | refine QZ ?_ | refine qcT rfl ?_ | refine qcF rfl ?_ | refine E_blockX ?_ | refine E_blockO rfl ?_ | refine QV QL ?_
          | refine QV QA ?_ | refine QV (rr_not rfl rfl) ?_ | refine QV QlT ?_ | refine QV QlF ?_ | refine QV QnT ?_ | refine QV QnF ?_ | refine QV QaA ?_)
        refine E_pick [0, 1, 2, 3, 4, 5, 6] (by decide) rfl ?_
        exact E_round (k + 1, vs) (by show k + 1 ≤ 256; omega) (by show 256 - (k + 1) < 256 - k; omega) (by repeat' (first | exact True.intro | refine And.intro rfl ?_)) (by dsimp only; rw [hD]; rfl)
      · have hD := pkD_new c2
        rw [if_neg c2] at hnk
        have hcg := fun i hi => colF_get R k i hi hle
        have hwr := wrapU8 (k := (pkD R k).length) (by omega)
        rw [hnk] at hofs
        clear hnk hn256
        generalize colF R k = col at *
        generalize hDk : pkD R k = D at *
        repeat (first
          | refine QV QP ?_ | refine QZ ?_ | refine qcT rfl ?_ | refine qcF rfl ?_ | refine E_blockX ?_ | refine E_blockO rfl ?_
          | refine QV (rr_loadB (i := 7) TyC.ty rfl rfl (by rw [List.size_toArray, colC_len])) ?_
          | refine QV (rr_lookNumN (K := colK) (x := col) Und.eq hzero (i := 5) rfl rfl rfl hok c2) ?_ | refine QV (rr_maplen colK Und.eq (i := 5) rfl rfl) ?_
          | refine QV QL ?_ | refine QV QA ?_ | refine QV (rr_not rfl rfl) ?_ | refine QV QlT ?_ | refine QV QlF ?_ | refine QV QnT ?_ | refine QV QnF ?_
          | refine QV QaA ?_)
        refine TL_mapNum (K := colK) (i := 5) (x := col) Und.eq rfl rfl rfl rfl hok c2 (by omega) ?_
        conv => arg 8; simp only [zA, zB, zC, zD, zE, zF, zG, zH, zI, rowS, ret, id_eq]
        repeat (first
          | refine QV QP ?_ | refine QZ ?_ | refine qcT rfl ?_ | refine qcF rfl ?_ | refine E_blockX ?_ | refine E_blockO rfl ?_
          | refine QV (rr_load1 TyC.ty rfl (at_blk (i := 0) rfl rfl)) ?_ | refine QV QL ?_ | refine QV QA ?_ | refine QV (rr_not rfl rfl) ?_ | refine QV QlT ?_
          | refine QV QlF ?_ | refine QV QnT ?_ | refine QV QnF ?_ | refine QV QaA ?_)
        refine T_pick [0, 1, 2, 3, 4, 5, 6] (by decide) rfl ?_
        rw [← nxM_0 R.length D col vs]
        refine T_loop (ι := Nat × (Nat → Value)) (fun (j, _) => j ≤ R.length) (fun (j, _) => [(1, .pointer (some ⟨g1, 0, none⟩)), (2, .pointer (some ⟨g2, 0, none⟩)), (5, .pointer (some ⟨g5, 0, none⟩)), (6, .map (some g6)), (7, .int .i64 (k : Int)), (11, .int .i64 (D.length : Int)), (30, .int .i64 (k : Int)), (61, .slice (some ⟨b, off, none⟩) R.length cr), (62, .int .i64 (R.length : Int)), (63, .int .i64 (j : Int))])
          (fun (j, vs) => [blkO g1 (dfaV (.slice (some ⟨b, off, none⟩) R.length cr) (.slice (some ⟨bb, ofT, none⟩) tags.length ct)).cells 55, blkO g2 (pkC (Vector.replicate 256 0) (.slice none 0 0) (.slice none 0 0)).toArray 26, rowA 24 valV gN R.length vs, rowO 3 1 vT tags.length (tags.flatMap kit.intC), blkO g5 (pkC (ofS R k) (.slice (some ⟨gN, 0, none⟩) R.length R.length) vT).toArray 26, mapO colK g6 (mapAt (D ++ [col])) (D ++ [col]).length, nxM R.length D col j vs]) (fun (j, _) => R.length - j) (0, vs) (Nat.zero_le _) (by repeat' (first | exact True.intro | refine And.intro rfl ?_)) rfl ?_
        rintro ⟨j, vs⟩ hj
        dsimp only at hj ⊢
        by_cases c3 : j < R.length
        · have hatR := fun (L : List Own) => at_el (W := w) (L := L) rowC_len hr c3
          have hcell : (rowC R[j]).toArray[0 + k]? = some (.int .i16 (cellF R j k)) := by rw [Nat.zero_add, List.getElem?_toArray, rowC_get _ c1, cell_get c3 c1]
          have hx := hrng R[j] (List.getElem_mem c3) (cellF R j k) (by rw [cell_get c3 c1, ← Vector.getElem_toList (h := by simpa using c1)]; exact List.getElem_mem _)
          have hcj := hcg j c3
          clear hcg
          generalize R[j] = r at *
          generalize cellF R j k = x at *
          repeat (first
            | refine QV QP ?_ | refine QZ ?_ | refine qcT rfl ?_ | refine qcF rfl ?_ | refine E_blockX ?_ | refine E_blockO rfl ?_
            | refine QV (rr_idxc Und.eq TyC.ty rfl rfl c3) ?_ | refine QV (rr_loadN TyC.ty rfl (rowC_len r) (hatR _)) ?_ | refine QV QL ?_ | refine QV QA ?_
            | refine QV (rr_not rfl rfl) ?_ | refine QV QlT ?_ | refine QV QlF ?_ | refine QV QnT ?_ | refine QV QnF ?_ | refine QV QaA ?_)
          refine TL_new rfl fun g14 => ?_
          conv => arg 8; simp only [zA, zB, zC, zD, zE, zF, zG, zH, zI, rowS, ret, id_eq]
          repeat (first
            | refine QV QP ?_ | refine QZ ?_ | refine qcT rfl ?_ | refine qcF rfl ?_ | refine E_blockX ?_ | refine E_blockO rfl ?_ | refine QV QL ?_
            | refine QV QA ?_ | refine QV (rr_not rfl rfl) ?_ | refine QV QlT ?_ | refine QV QlF ?_ | refine QV QnT ?_ | refine QV QnF ?_ | refine QV QaA ?_)
          refine TL_storeB (i := 7) (cs' := (rowC r).toArray) rfl rfl rfl (by rw [List.size_toArray, rowC_len]) (by simpa using row_one1 r) (by kernel_rfl) ?_
          conv => arg 8; simp only [zA, zB, zC, zD, zE, zF, zG, zH, zI, rowS, ret, id_eq]
          repeat (first
            | refine QV QP ?_ | refine QZ ?_ | refine qcT rfl ?_ | refine qcF rfl ?_ | refine E_blockX ?_ | refine E_blockO rfl ?_ | refine QV QL ?_
            | refine QV QA ?_ | refine QV (rr_not rfl rfl) ?_ | refine QV QlT ?_ | refine QV QlF ?_ | refine QV QnT ?_ | refine QV QnF ?_ | refine QV QaA ?_)
          unfold nxM
          refine T_take (q := 6) j rfl c3 ?_
          rw [if_neg (Nat.lt_irrefl j)]
          conv => arg 7; simp only [zA, zB, zC, zD, zE, zF, zG, zH, zI, rowS, ret, id_eq]
          (repeat refine T_seq ?_)
          refine T_ord ([blkO g1 (dfaV (.slice (some ⟨b, off, none⟩) R.length cr) (.slice (some ⟨bb, ofT, none⟩) tags.length ct)).cells 55, blkO g5 (pkC (ofS R k) (.slice (some ⟨gN, 0, none⟩) R.length R.length) vT).toArray 26, blkO g14 (rowC r).toArray 96]) (.calm 0 (.calm 1 (.calm 2 (.calm 3 (.calm 4 (.calm 5 (.calm 6 (.calm 8 (.calm 9 (.calm 10 (.calm 11 (.two 7 (.one 12 (.one 13 (.calm 14 (.one 15 (.done))))) 12 (.one 7 (.one 13 (.calm 14 (.one 15 (.done))))))))))))))))) (sub_pick [0, 4, 7] (by decide) rfl) (by kernel_rfl) (by kernel_rfl) (by intro c a d v w h; cases d <;> exact h) ?_
          repeat (first
            | ((first | refine TW_plain rfl rfl ?_ | refine TW_gmet rfl rfl rfl rfl ?_); first | refine QW QP ?_ | refine QW (rr_load1 TyC.ty rfl (at_blk (i := 1) rfl (pk_next _ _ _))) ?_ | refine QW (rr_idx1 (j := j) Und.eq TyC.ty rfl rfl c3) ?_ | refine QW (rr_aidx1 Und.eq TyC.ty rfl rfl c1) ?_ | refine QW (rr_load1 TyC.ty rfl (at_blk (i := 2) rfl hcell)) ?_ | refine QW (rr_conv Und.eq Und.eq rfl (wrap_in (by omega) (by omega))) ?_ | refine QW QL ?_ | refine QW QA ?_ | refine QW (rr_not rfl rfl) ?_ | refine QW QlT ?_ | refine QW QlF ?_ | refine QW QnT ?_ | refine QW QnF ?_ | refine QW QaA ?_)
            | refine TW_done ?_)
          have hnj : nxL (D ++ [col]) j = nxL D j ++ [x] := by unfold nxL; rw [List.map_append, List.map_singleton, hcj]
          have hst : ∀ v2 : Value, ∀ i, i < R.length → (fun i => if i = j then v2 else vs i) i = if i = j then v2 else vs i := fun _ _ _ => rfl
          refine TW_two rfl rfl ?_ ?_
          · refine TL_val (rr_load1 TyC.ty rfl (at_rowA (i := 2) rfl c3)) rfl rfl rfl (TW_on (sub_pick [0, 4, 7] (by decide) rfl) ?_)
            refine TW_one rfl (TL_one rfl rfl rfl rfl rfl fun g80 => TW_on (sub_pick [0, 4, 7] (by decide) rfl) ?_)
            refine TW_one rfl (TL_app11 (i := 8) (q := 9) rfl rfl rfl rfl rfl rfl (by omega) (by omega) rfl fun v2 => TW_on (sub_pick [0, 4, 7] (by decide) rfl) ?_)
            repeat (first
              | ((first | refine TW_plain rfl rfl ?_ | refine TW_gmet rfl rfl rfl rfl ?_); first | refine QW QP ?_ | refine QW (rr_idx1 (j := j) Und.eq TyC.ty rfl rfl c3) ?_ | refine QW QL ?_ | refine QW QA ?_ | refine QW (rr_not rfl rfl) ?_ | refine QW QlT ?_ | refine QW QlF ?_ | refine QW QnT ?_ | refine QW QnF ?_ | refine QW QaA ?_)
              | refine TW_done ?_)
            refine TW_one rfl (TL_slv (i := 8) rfl fun hc1 ho1 => TL_storeA (i := 2) (val := valV) (off := j) (v := v2) (fun i => if i = j then v2 else vs i) TyC.ty rfl rfl rfl hc1 ho1 c3 (hst v2) (TW_on (sub_pick [0, 4, 7] (by decide) rfl) ?_))
            repeat (first
              | ((first | refine TW_plain rfl rfl ?_ | refine TW_gmet rfl rfl rfl rfl ?_); first | refine QW QP ?_ | refine QW QL ?_ | refine QW QA ?_ | refine QW (rr_not rfl rfl) ?_ | refine QW QlT ?_ | refine QW QlF ?_ | refine QW QnT ?_ | refine QW QnF ?_ | refine QW QaA ?_)
              | refine TW_done ?_)
            repeat (first
              | refine QV QP ?_ | refine QZ ?_ | refine qcT rfl ?_ | refine qcF rfl ?_ | refine E_blockX ?_ | refine E_blockO rfl ?_ | refine QV QL ?_
              | refine QV QA ?_ | refine QV (rr_not rfl rfl) ?_ | refine QV QlT ?_ | refine QV QlF ?_ | refine QV QnT ?_ | refine QV QnF ?_ | refine QV QaA ?_)
            refine E_put j 6 8 [0, 1, 2, 3, 4, 5] (by decide) rfl rfl rfl (fun h => h.2 rfl) (D' := fun i => i < R.length) (f' := fun i => rowO 3 1 ((fun i => if i = j then v2 else vs i) i) (if i < j + 1 then D ++ [col] else D).length ((nxL (if i < j + 1 then D ++ [col] else D) i).flatMap kit.intC)) (fun q hq => (by by_cases e : q = j; exact .inr e; exact .inl ⟨hq, e⟩)) (fun q hq => ?_) ?_
            · exact nx_put hnj q
            exact E_round (j + 1, fun i => if i = j then v2 else vs i) (by show j + 1 ≤ R.length; omega) (by show R.length - (j + 1) < R.length - j; omega) (by repeat' (first | exact True.intro | refine And.intro rfl ?_)) rfl
          · refine TL_one rfl rfl rfl rfl rfl fun g80 => TW_on (sub_pick [0, 4, 7] (by decide) rfl) ?_
            refine TW_one rfl (TL_val (rr_load1 TyC.ty rfl (at_rowA (i := 2) rfl c3)) rfl rfl rfl (TW_on (sub_pick [0, 4, 7] (by decide) rfl) ?_))
            refine TW_one rfl (TL_app11 (i := 8) (q := 9) rfl rfl rfl rfl rfl rfl (by omega) (by omega) rfl fun v2 => TW_on (sub_pick [0, 4, 7] (by decide) rfl) ?_)
            repeat (first
              | ((first | refine TW_plain rfl rfl ?_ | refine TW_gmet rfl rfl rfl rfl ?_); first | refine QW QP ?_ | refine QW (rr_idx1 (j := j) Und.eq TyC.ty rfl rfl c3) ?_ | refine QW QL ?_ | refine QW QA ?_ | refine QW (rr_not rfl rfl) ?_ | refine QW QlT ?_ | refine QW QlF ?_ | refine QW QnT ?_ | refine QW QnF ?_ | refine QW QaA ?_)
              | refine TW_done ?_)
            refine TW_one rfl (TL_slv (i := 8) rfl fun hc1 ho1 => TL_storeA (i := 2) (val := valV) (off := j) (v := v2) (fun i => if i = j then v2 else vs i) TyC.ty rfl rfl rfl hc1 ho1 c3 (hst v2) (TW_on (sub_pick [0, 4, 7] (by decide) rfl) ?_))
            repeat (first
              | ((first | refine TW_plain rfl rfl ?_ | refine TW_gmet rfl rfl rfl rfl ?_); first | refine QW QP ?_ | refine QW QL ?_ | refine QW QA ?_ | refine QW (rr_not rfl rfl) ?_ | refine QW QlT ?_ | refine QW QlF ?_ | refine QW QnT ?_ | refine QW QnF ?_ | refine QW QaA ?_)
              | refine TW_done ?_)
            repeat (first
              | refine QV QP ?_ | refine QZ ?_ | refine qcT rfl ?_ | refine qcF rfl ?_ | refine E_blockX ?_ | refine E_blockO rfl ?_ | refine QV QL ?_
              | refine QV QA ?_ | refine QV (rr_not rfl rfl) ?_ | refine QV QlT ?_ | refine QV QlF ?_ | refine QV QnT ?_ | refine QV QnF ?_ | refine QV QaA ?_)
            refine E_put j 6 8 [0, 1, 2, 3, 4, 5] (by decide) rfl rfl rfl (fun h => h.2 rfl) (D' := fun i => i < R.length) (f' := fun i => rowO 3 1 ((fun i => if i = j then v2 else vs i) i) (if i < j + 1 then D ++ [col] else D).length ((nxL (if i < j + 1 then D ++ [col] else D) i).flatMap kit.intC)) (fun q hq => (by by_cases e : q = j; exact .inr e; exact .inl ⟨hq, e⟩)) (fun q hq => ?_) ?_
            · exact nx_put hnj q
            exact E_round (j + 1, fun i => if i = j then v2 else vs i) (by show j + 1 ≤ R.length; omega) (by show R.length - (j + 1) < R.length - j; omega) (by repeat' (first | exact True.intro | refine And.intro rfl ?_)) rfl
        · obtain rfl : j = R.length := by omega
          refine T_reown (nxO R.length (D ++ [col]) vs) (i := 6) rfl (fam_congr (fun _ h => h) (nxM_end _ _ _ _)) (fam_foot (fun _ h => h) (nxM_end _ _ _ _)) ?_
          conv => arg 7; simp only [zA, zB, zC, zD, zE, zF, zG, zH, zI, rowS, ret, id_eq]
          repeat (first
            | refine QV QP ?_ | refine QZ ?_ | refine qcT rfl ?_ | refine qcF rfl ?_ | refine E_blockX ?_ | refine E_blockO rfl ?_
            | refine QV (rr_conv Und.eq Und.eq rfl hwr) ?_ | refine QV (rr_aidx1 Und.eq TyC.ty rfl rfl c1) ?_ | refine QV QL ?_ | refine QV QA ?_
            | refine QV (rr_not rfl rfl) ?_ | refine QV QlT ?_ | refine QV QlF ?_ | refine QV QnT ?_ | refine QV QnF ?_ | refine QV QaA ?_)
          refine TL_storeOf (i := 4) (b := k) rfl rfl rfl c1 ?_
          rw [hofs]
          conv => arg 8; simp only [zA, zB, zC, zD, zE, zF, zG, zH, zI, rowS, ret, id_eq]
          repeat (first
            | refine QV QP ?_ | refine QZ ?_ | refine qcT rfl ?_ | refine qcF rfl ?_ | refine E_blockX ?_ | refine E_blockO rfl ?_ | refine QV QL ?_
            | refine QV QA ?_ | refine QV (rr_not rfl rfl) ?_ | refine QV QlT ?_ | refine QV QlF ?_ | refine QV QnT ?_ | refine QV QnF ?_ | refine QV QaA ?_)
          exact E_round (k + 1, vs) (by show k + 1 ≤ 256; omega) (by show 256 - (k + 1) < 256 - k; omega) (by repeat' (first | exact True.intro | refine And.intro rfl ?_)) (by dsimp only; rw [hD])
  · obtain rfl : k = 256 := by omega
    repeat (first
      | refine QV QP ?_ | refine QZ ?_ | refine qcT rfl ?_ | refine qcF rfl ?_ | refine E_blockX ?_ | refine E_blockO rfl ?_
      | refine QV (rr_loadB (i := 4) TyC.ty rfl rfl (pk_size _ _ _)) ?_ | refine QV QL ?_ | refine QV QA ?_ | refine QV (rr_not rfl rfl) ?_ | refine QV QlT ?_
      | refine QV QlF ?_ | refine QV QnT ?_ | refine QV QnF ?_ | refine QV QaA ?_)
    refine TL_slv (i := 3) rfl fun hc1 ho1 => ?_
    refine TL_storeB (i := 1) (cs' := (pkC (ofS R 256) (.slice (some ⟨gN, 0, none⟩) R.length R.length) vT).toArray) rfl rfl rfl (pk_size _ _ _) (pk_one _ rfl ho1) (pk_size _ _ _) ?_
    conv => arg 8; simp only [zA, zB, zC, zD, zE, zF, zG, zH, zI, rowS, ret, id_eq]
    repeat (first
      | refine QV QP ?_ | refine QZ ?_ | refine qcT rfl ?_ | refine qcF rfl ?_ | refine E_blockX ?_ | refine E_blockO rfl ?_ | refine QV QL ?_
      | refine QV QA ?_ | refine QV (rr_not rfl rfl) ?_ | refine QV QlT ?_ | refine QV QlF ?_ | refine QV QnT ?_ | refine QV QnF ?_ | refine QV QaA ?_)
    refine E_retc2 (i := 1) rfl rfl rfl (pk_size _ _ _) rfl fun w hm => ?_
    exact hm.meets (S := packS R tags) (gN, vs, vT) trivial [2, 6, 3] (by decide) rfl
end Go.Proofs.Ytkmemlnkijinlaa.eng

/- SmUp -/
namespace Go.Proofs.Ytkmemlnkijinlaa.eng
open Go.RowKit kit mix dfaL smallL
/-- a packed automaton that can be read -/
structure PkM (w : World) (vn vt : Value) (N : List (List Int)) (tags : List Int) : Prop where
  ex : ∃ (b off cap : Nat) (vs : Nat → Value), vn = .slice (some ⟨b, off, none⟩) N.length cap ∧ ∀ i (h : i < N.length), w.cell? ⟨b, off + i, none⟩ = some (vs i) ∧ Sl w (vs i) N[i].length (N[i].flatMap kit.intC)
  hT : Sl w vt tags.length (tags.flatMap kit.intC)
structure PkOk (o : Of) (N : List (List Int)) (tags : List Int) (wide : Nat) : Prop where
  pos : 0 < N.length
  le : N.length ≤ 200
  len : tags.length = N.length
  w0 : 0 < wide
  w1 : wide ≤ 256
  row : ∀ i (h : i < N.length), N[i].length = wide
  tag : ∀ i (h : i < tags.length), -1 ≤ tags[i] ∧ tags[i] < 20
  rng : ∀ i (h : i < N.length), ∀ j (h' : j < N[i].length), -1 ≤ N[i][j] ∧ N[i][j] < N.length
  of : ∀ b (h : b < 256), o[b] < wide
theorem PkM.gr {w w' : World} {vn vt : Value} {N : List (List Int)} {tags : List Int} (h : PkM w vn vt N tags) (hg : Gr w w') : PkM w' vn vt N tags := by
  obtain ⟨b, off, cap, vs, h1, h2⟩ := h.ex
  refine ⟨⟨b, off, cap, vs, h1, fun i hi => ⟨?_, (h2 i hi).2.gr hg⟩⟩, h.hT.gr hg⟩
  rw [hg.cell (World.block_lt_of_cell? w _ (h2 i hi).1)]; exact (h2 i hi).1
def ofC (o : Of) : List Value := o.toList.map fun n : Nat => .int .u8 (n : Int)
theorem ofC_len (o : Of) : (ofC o).length = 256 := by simp [ofC]
theorem ofC_get (o : Of) {b : Nat} (h : b < 256) : (ofC o).toArray[b]? = some (.int .u8 (o[b] : Int)) := by
  rw [List.getElem?_toArray]
  unfold ofC
  rw [List.getElem?_map, List.getElem?_eq_getElem (by simpa using h), Vector.getElem_toList]; rfl
theorem pk_ofC (o : Of) (vn vt : Value) {j : Nat} {v : Value} (h : (ofC o)[j]? = some v) : (pkC o vn vt).toArray[0 + j]? = some v := by
  have hj : j < (ofC o).length := (List.getElem?_eq_some_iff.1 h).1
  rw [Nat.zero_add, List.getElem?_toArray]
  show (ofC o ++ [vn, vt])[j]? = _
  rw [List.getElem?_append_left hj]; exact h
/-- what small.Unpack makes of the rows of Next -/
def unR (o : Of) (N : List (List Int)) : List Row := N.map fun l => Vector.ofFn fun b : Fin 256 => l.getD o[b] 0
theorem unR_len (o : Of) (N : List (List Int)) : (unR o N).length = N.length := List.length_map ..
end Go.Proofs.Ytkmemlnkijinlaa.eng

/- SmCk -/
namespace Go.Proofs.Ytkmemlnkijinlaa.eng
open Go.RowKit kit mix smallL
/-- a packed automaton that came in -/
structure PkI (w : World) (vn vt : Value) (N : List (List Int)) (tags : List Int) : Prop where
  hN : SlF (sliceS intS) (Low w) w vn N
  hT : Sl w vt tags.length (tags.flatMap kit.intC)
theorem PkI.gr {w w' : World} {vn vt : Value} {N : List (List Int)} {tags : List Int} (h : PkI w vn vt N tags) (hg : Gr w w') : PkI w' vn vt N tags := ⟨slii_gr h.hN hg, h.hT.gr hg⟩
abbrev PkGood (o : Of) (N : List (List Int)) (tags : List Int) : Prop := PkOk o N tags (N.headD []).length
open Classical in
/-- small.Check -/
noncomputable def chkP (o : Of) (N : List (List Int)) (tags : List Int) : Int := if 200 < N.length then 2 else if PkGood o N tags then 0 else 1
def rowG (N : List (List Int)) (tags : List Int) (wide i : Nat) : Prop := (N.getD i []).length = wide ∧ -1 ≤ tags.getD i 0 ∧ tags.getD i 0 < 20 ∧ ∀ x ∈ N.getD i [], -1 ≤ x ∧ x < N.length
theorem pk_rowG {o : Of} {N : List (List Int)} {tags : List Int} {wide : Nat} (h : PkOk o N tags wide) {i : Nat} (hi : i < N.length) : rowG N tags wide i := by
  have hit : i < tags.length := by rw [h.len]; exact hi
  unfold rowG
  rw [List.getD_eq_getElem?_getD, List.getElem?_eq_getElem hi, List.getD_eq_getElem?_getD, List.getElem?_eq_getElem hit]
  refine ⟨h.row i hi, (h.tag i hit).1, (h.tag i hit).2, fun x hx => ?_⟩
  obtain ⟨j, hj, rfl⟩ := List.mem_iff_getElem.1 hx
  exact h.rng i hi j hj
theorem pkOk_of {o : Of} {N : List (List Int)} {tags : List Int} {wide : Nat} (h0 : 0 < N.length) (h1 : N.length ≤ 200) (h2 : tags.length = N.length) (h3 : 0 < wide) (h4 : wide ≤ 256) (h5 : ∀ i, i < N.length → rowG N tags wide i) (h6 : ∀ b (h : b < 256), o[b] < wide) : PkOk o N tags wide := by
  have g : ∀ i (hi : i < N.length), N.getD i [] = N[i] := fun i hi => by rw [List.getD_eq_getElem?_getD, List.getElem?_eq_getElem hi]; rfl
  have gt : ∀ i (hi : i < tags.length), tags.getD i 0 = tags[i] := fun i hi => by rw [List.getD_eq_getElem?_getD, List.getElem?_eq_getElem hi]; rfl
  refine ⟨h0, h1, h2, h3, h4, fun i hi => ?_, fun i hi => ?_, fun i hi j hj => ?_, h6⟩
  · have := (h5 i hi).1; rwa [g i hi] at this
  · have := h5 i (by omega); unfold rowG at this; rw [gt i hi] at this; exact ⟨this.2.1, this.2.2.1⟩
  · have := (h5 i hi).2.2.2; rw [g i hi] at this; exact this _ (List.getElem_mem hj)
theorem chkP_2 {o : Of} {N : List (List Int)} {tags : List Int} (h : 200 < N.length) : chkP o N tags = 2 := if_pos h
theorem chkP_1 {o : Of} {N : List (List Int)} {tags : List Int} (h : ¬ 200 < N.length) (hg : ¬ PkGood o N tags) : chkP o N tags = 1 := by unfold chkP; rw [if_neg h, if_neg hg]
theorem chkP_0 {o : Of} {N : List (List Int)} {tags : List Int} (hg : PkGood o N tags) : chkP o N tags = 0 := by unfold chkP; rw [if_neg (by have := hg.le; omega), if_pos hg]
theorem chkP_good {o : Of} {N : List (List Int)} {tags : List Int} (h : chkP o N tags = 0) : PkGood o N tags := by
  unfold chkP at h
  split at h
  · cases h
  · split at h
    · assumption
    · cases h
theorem chkP_cases (o : Of) (N : List (List Int)) (tags : List Int) : chkP o N tags = 0 ∨ chkP o N tags = 1 ∨ chkP o N tags = 2 := by
  unfold chkP
  split
  · exact .inr (.inr rfl)
  · split
    · exact .inl rfl
    · exact .inr (.inl rfl)
set_option maxHeartbeats 8000000 in
theorem pkChk_calls (o : Of) (vn vt : Value) (N : List (List Int)) (tags : List Int) (w : World) (h : PkI w vn vt N tags) (ho : ∀ b (h : b < 256), o[b] < 256) :
    Calls Try.prog 38 #[pkV o vn vt] w (Meets (ret (.int .i64 (chkP o N tags))) w) := by
  obtain ⟨⟨an, cn, rfl, hn1, hn2, hn3⟩, at', ct, rfl, ht1, ht2, ht3⟩ := h
  unfold maxLen at hn2 ht2
  have hE1 := fun h hg => chkP_1 (o := o) (N := N) (tags := tags) h hg
  have hE2 := fun h => chkP_2 (o := o) (N := N) (tags := tags) h
  have hE0 := fun h => chkP_0 (o := o) (N := N) (tags := tags) h
  generalize chkP o N tags = e at *
  refine enter (args := [pkV o (.slice an N.length cn) (.slice at' tags.length ct)]) (n := 92) Try.func38 rfl rfl rfl ?_
  refine T_seq (T_region (TL_box rfl rfl rfl fun g1 => ?_))
  by_cases c1 : 200 < N.length
  · rw [hE2 c1]
    repeat (first
      | refine QV QP ?_ | refine QZ ?_ | refine qcT rfl ?_ | refine qcF rfl ?_ | refine E_blockX ?_ | refine E_blockO rfl ?_
      | refine qs rfl rfl rfl rfl rfl rfl ?_
      | ((try refine qg rfl rfl rfl ?_); first | refine QV QP ?_ | refine QV (rr_load1 TyC.ty rfl (at_blk (i := 0) rfl (pk_next _ _ _))) ?_ | refine QV (rr_gtr (b := true) rfl rfl (decide_eq_true (by omega))) ?_ | refine QV QL ?_ | refine QV QA ?_ | refine QV QlT ?_ | refine QV QlF ?_ | refine QV QgT ?_ | refine QV QgF ?_ | refine QV QhT ?_ | refine QV QhF ?_ | refine QV QeT ?_ | refine QV QeF ?_ | refine QV QnT ?_ | refine QV QnF ?_ | refine QV QaA ?_))
    exact E_ret1e rfl rfl rfl
  by_cases c2 : N.length = 0
  · rw [hE1 c1 (fun h => by have := h.pos; omega)]
    repeat (first
      | refine QV QP ?_ | refine QZ ?_ | refine qcT rfl ?_ | refine qcF rfl ?_ | refine E_blockX ?_ | refine E_blockO rfl ?_
      | refine qs rfl rfl rfl rfl rfl rfl ?_
      | ((try refine qg rfl rfl rfl ?_); first | refine QV QP ?_ | refine QV (rr_load1 TyC.ty rfl (at_blk (i := 0) rfl (pk_next _ _ _))) ?_ | refine QV (rr_gtr (b := false) rfl rfl (decide_eq_false (by omega))) ?_ | refine QV (rr_eql (b := true) rfl rfl (decide_eq_true (by omega))) ?_ | refine QV QL ?_ | refine QV QA ?_ | refine QV QlT ?_ | refine QV QlF ?_ | refine QV QgT ?_ | refine QV QgF ?_ | refine QV QhT ?_ | refine QV QhF ?_ | refine QV QeT ?_ | refine QV QeF ?_ | refine QV QnT ?_ | refine QV QnF ?_ | refine QV QaA ?_))
    exact E_ret1e rfl rfl rfl
  by_cases c3 : tags.length = N.length
  case neg =>
    rw [hE1 c1 (fun h => c3 h.len)]
    repeat (first
      | refine QV QP ?_ | refine QZ ?_ | refine qcT rfl ?_ | refine qcF rfl ?_ | refine E_blockX ?_ | refine E_blockO rfl ?_
      | refine qs rfl rfl rfl rfl rfl rfl ?_
      | ((try refine qg rfl rfl rfl ?_); first | refine QV QP ?_ | refine QV (rr_load1 TyC.ty rfl (at_blk (i := 0) rfl (pk_next _ _ _))) ?_ | refine QV (rr_load1 TyC.ty rfl (at_blk (i := 0) rfl (pk_tags _ _ _))) ?_ | refine QV (rr_gtr (b := false) rfl rfl (decide_eq_false (by omega))) ?_ | refine QV (rr_eql (b := false) rfl rfl (decide_eq_false (by omega))) ?_ | refine QV (rr_neq (b := true) rfl rfl (decide_eq_true (by omega))) ?_ | refine QV QL ?_ | refine QV QA ?_ | refine QV QlT ?_ | refine QV QlF ?_ | refine QV QgT ?_ | refine QV QgF ?_ | refine QV QhT ?_ | refine QV QhF ?_ | refine QV QeT ?_ | refine QV QeF ?_ | refine QV QnT ?_ | refine QV QnF ?_ | refine QV QaA ?_))
    exact E_ret1e rfl rfl rfl
  obtain ⟨bn, offn, rfl, _, hnd⟩ := hn3 (by omega)
  obtain ⟨bt, offt, rfl, htd⟩ := ht3 (by omega)
  clear hn3 ht3
  obtain ⟨u0, ⟨a0, c0, rfl, -⟩, hd0⟩ := fol_at hnd (show 0 < N.length by omega)
  have hat0 := fun (L : List Own) => at_rd (L := L) hd0 (j := 0) (v := .slice a0 (N[0]'(by omega)).length c0) rfl
  have hw : (N.headD []).length = (N[0]'(by omega)).length := by cases N with
    | nil => simp at c2
    | cons x r => rfl
  have hgood : PkGood o N tags ↔ PkOk o N tags (N[0]'(by omega)).length := by unfold PkGood; rw [hw]
  clear hd0 hw
  generalize (N[0]'(by omega)).length = wide at *
  repeat (first
    | refine QV QP ?_ | refine QZ ?_ | refine qcT rfl ?_ | refine qcF rfl ?_ | refine E_blockX ?_ | refine E_blockO rfl ?_
    | refine qs rfl rfl rfl rfl rfl rfl ?_
    | ((try refine qg rfl rfl rfl ?_); first | refine QV QP ?_ | refine QV (rr_load1 TyC.ty rfl (at_blk (i := 0) rfl (pk_next _ _ _))) ?_ | refine QV (rr_load1 TyC.ty rfl (at_blk (i := 0) rfl (pk_tags _ _ _))) ?_ | refine QV (rr_gtr (b := false) rfl rfl (decide_eq_false (by omega))) ?_ | refine QV (rr_eql (b := false) rfl rfl (decide_eq_false (by omega))) ?_ | refine QV (rr_neq (b := false) rfl rfl (decide_eq_false (by omega))) ?_ | refine QV (rr_idxc (j := 0) Und.eq TyC.ty rfl rfl (by omega)) ?_ | refine QV (rr_load1 (v := .slice a0 wide c0) TyC.ty rfl (hat0 _)) ?_ | refine QV QL ?_ | refine QV QA ?_ | refine QV QlT ?_ | refine QV QlF ?_ | refine QV QgT ?_ | refine QV QgF ?_ | refine QV QhT ?_ | refine QV QhF ?_ | refine QV QeT ?_ | refine QV QeF ?_ | refine QV QnT ?_ | refine QV QnF ?_ | refine QV QaA ?_))
  by_cases c4 : wide = 0
  · rw [hE1 c1 (fun h => by have := (hgood.1 h).w0; omega)]
    repeat (first
      | refine QV QP ?_ | refine QZ ?_ | refine qcT rfl ?_ | refine qcF rfl ?_ | refine E_blockX ?_ | refine E_blockO rfl ?_
      | refine qs rfl rfl rfl rfl rfl rfl ?_
      | ((try refine qg rfl rfl rfl ?_); first | refine QV QP ?_ | refine QV (rr_eql (b := true) rfl rfl (decide_eq_true (by omega))) ?_ | refine QV QL ?_ | refine QV QA ?_ | refine QV QlT ?_ | refine QV QlF ?_ | refine QV QgT ?_ | refine QV QgF ?_ | refine QV QhT ?_ | refine QV QhF ?_ | refine QV QeT ?_ | refine QV QeF ?_ | refine QV QnT ?_ | refine QV QnF ?_ | refine QV QaA ?_))
    exact E_ret1e rfl rfl rfl
  by_cases c5 : 256 < wide
  · rw [hE1 c1 (fun h => by have := (hgood.1 h).w1; omega)]
    repeat (first
      | refine QV QP ?_ | refine QZ ?_ | refine qcT rfl ?_ | refine qcF rfl ?_ | refine E_blockX ?_ | refine E_blockO rfl ?_
      | refine qs rfl rfl rfl rfl rfl rfl ?_
      | ((try refine qg rfl rfl rfl ?_); first | refine QV QP ?_ | refine QV (rr_eql (b := false) rfl rfl (decide_eq_false (by omega))) ?_ | refine QV (rr_gtr (b := true) rfl rfl (decide_eq_true (by omega))) ?_ | refine QV QL ?_ | refine QV QA ?_ | refine QV QlT ?_ | refine QV QlF ?_ | refine QV QgT ?_ | refine QV QgF ?_ | refine QV QhT ?_ | refine QV QhF ?_ | refine QV QeT ?_ | refine QV QeF ?_ | refine QV QnT ?_ | refine QV QnF ?_ | refine QV QaA ?_))
    exact E_ret1e rfl rfl rfl
  repeat (first
    | refine QV QP ?_ | refine QZ ?_ | refine qcT rfl ?_ | refine qcF rfl ?_ | refine E_blockX ?_ | refine E_blockO rfl ?_
    | refine qs rfl rfl rfl rfl rfl rfl ?_
    | ((try refine qg rfl rfl rfl ?_); first | refine QV QP ?_ | refine QV (rr_eql (b := false) rfl rfl (decide_eq_false (by omega))) ?_ | refine QV (rr_gtr (b := false) rfl rfl (decide_eq_false (by omega))) ?_ | refine QV QL ?_ | refine QV QA ?_ | refine QV QlT ?_ | refine QV QlF ?_ | refine QV QgT ?_ | refine QV QgF ?_ | refine QV QhT ?_ | refine QV QhF ?_ | refine QV QeT ?_ | refine QV QeF ?_ | refine QV QnT ?_ | refine QV QnF ?_ | refine QV QaA ?_))
  refine T_loop (ι := Nat) (fun i => i ≤ N.length ∧ ∀ j, j < i → rowG N tags wide j) (fun i => [(1, .pointer (some ⟨g1, 0, none⟩)), (3, .int .i64 (N.length : Int)), (4, .int .i64 (wide : Int)), (35, .int .i64 (N.length : Int)), (36, .int .i64 (i : Int))])
    (fun _ => [blkO g1 (pkC o (.slice (some ⟨bn, offn, none⟩) N.length cn) (.slice (some ⟨bt, offt, none⟩) tags.length ct)).toArray 26]) (fun i => N.length - i) 0 ⟨Nat.zero_le _, fun j h => by omega⟩ (by repeat' (first | exact True.intro | refine And.intro rfl ?_)) rfl ?_
  rintro i ⟨hi, hgi⟩
  by_cases q1 : i < N.length
  · have hit : i < tags.length := by omega
    obtain ⟨u, ⟨au, cu, rfl, hcu, hmu, hru⟩, hdu⟩ := fol_at hnd q1
    unfold maxLen at hmu
    have hatN := fun (L : List Own) => at_rd (L := L) hdu (j := 0) (v := .slice au N[i].length cu) rfl
    have hatT := fun (L : List Own) => at_el (L := L) SmIn_len htd hit 0 _ rfl
    have hG : rowG N tags wide i ↔ (N[i].length = wide ∧ -1 ≤ tags[i] ∧ tags[i] < 20 ∧ ∀ x ∈ N[i], -1 ≤ x ∧ x < N.length) := by
      unfold rowG
      rw [List.getD_eq_getElem?_getD, List.getElem?_eq_getElem q1, List.getD_eq_getElem?_getD, List.getElem?_eq_getElem hit]; rfl
    have hbad : ¬ rowG N tags wide i → e = 1 := fun hg => hE1 c1 fun h => hg (pk_rowG (hgood.1 h) q1)
    clear hdu hE1 hE2
    generalize tags[i] = tg at *
    generalize N[i] = l at *
    by_cases r1 : l.length = wide
    case neg =>
      rw [hbad (fun h => r1 (hG.1 h).1)]
      repeat (first
        | refine QV QP ?_ | refine QZ ?_ | refine qcT rfl ?_ | refine qcF rfl ?_ | refine E_blockX ?_ | refine E_blockO rfl ?_
        | refine qs rfl rfl rfl rfl rfl rfl ?_
        | ((try refine qg rfl rfl rfl ?_); first | refine QV QP ?_ | refine QV (rr_load1 TyC.ty rfl (at_blk (i := 0) rfl (pk_next _ _ _))) ?_ | refine QV (rr_load1 TyC.ty rfl (at_blk (i := 0) rfl (pk_tags _ _ _))) ?_ | refine QV (rr_idxc (j := i) Und.eq TyC.ty rfl rfl q1) ?_ | refine QV (rr_load1 (v := .slice au l.length cu) TyC.ty rfl (hatN _)) ?_ | refine QV (rr_neq (b := true) rfl rfl (decide_eq_true (by omega))) ?_ | refine QV QL ?_ | refine QV QA ?_ | refine QV QlT ?_ | refine QV QlF ?_ | refine QV QgT ?_ | refine QV QgF ?_ | refine QV QhT ?_ | refine QV QhF ?_ | refine QV QeT ?_ | refine QV QeF ?_ | refine QV QnT ?_ | refine QV QnF ?_ | refine QV QaA ?_))
      exact E_ret1e rfl rfl rfl
    by_cases r2 : tg < -1
    · rw [hbad (fun h => by have := (hG.1 h).2.1; omega)]
      repeat (first
        | refine QV QP ?_ | refine QZ ?_ | refine qcT rfl ?_ | refine qcF rfl ?_ | refine E_blockX ?_ | refine E_blockO rfl ?_
        | refine qs rfl rfl rfl rfl rfl rfl ?_
        | ((try refine qg rfl rfl rfl ?_); first | refine QV QP ?_ | refine QV (rr_load1 TyC.ty rfl (at_blk (i := 0) rfl (pk_next _ _ _))) ?_ | refine QV (rr_load1 TyC.ty rfl (at_blk (i := 0) rfl (pk_tags _ _ _))) ?_ | refine QV (rr_idxc (j := i) Und.eq TyC.ty rfl rfl q1) ?_ | refine QV (rr_load1 (v := .slice au l.length cu) TyC.ty rfl (hatN _)) ?_ | refine QV (rr_neq (b := false) rfl rfl (decide_eq_false (by omega))) ?_ | refine QV (rr_idxc (j := i) Und.eq TyC.ty rfl rfl hit) ?_ | refine QV (rr_load1 (v := .int .i64 tg) TyC.ty rfl (hatT _)) ?_ | refine QV (rr_lss (b := true) rfl rfl (decide_eq_true r2)) ?_ | refine QV QL ?_ | refine QV QA ?_ | refine QV QlT ?_ | refine QV QlF ?_ | refine QV QgT ?_ | refine QV QgF ?_ | refine QV QhT ?_ | refine QV QhF ?_ | refine QV QeT ?_ | refine QV QeF ?_ | refine QV QnT ?_ | refine QV QnF ?_ | refine QV QaA ?_))
      exact E_ret1e rfl rfl rfl
    by_cases r3 : 20 ≤ tg
    · rw [hbad (fun h => by have := (hG.1 h).2.2.1; omega)]
      repeat (first
        | refine QV QP ?_ | refine QZ ?_ | refine qcT rfl ?_ | refine qcF rfl ?_ | refine E_blockX ?_ | refine E_blockO rfl ?_
        | refine qs rfl rfl rfl rfl rfl rfl ?_
        | ((try refine qg rfl rfl rfl ?_); first | refine QV QP ?_ | refine QV (rr_load1 TyC.ty rfl (at_blk (i := 0) rfl (pk_next _ _ _))) ?_ | refine QV (rr_load1 TyC.ty rfl (at_blk (i := 0) rfl (pk_tags _ _ _))) ?_ | refine QV (rr_idxc (j := i) Und.eq TyC.ty rfl rfl q1) ?_ | refine QV (rr_load1 (v := .slice au l.length cu) TyC.ty rfl (hatN _)) ?_ | refine QV (rr_neq (b := false) rfl rfl (decide_eq_false (by omega))) ?_ | refine QV (rr_idxc (j := i) Und.eq TyC.ty rfl rfl hit) ?_ | refine QV (rr_load1 (v := .int .i64 tg) TyC.ty rfl (hatT _)) ?_ | refine QV (rr_lss (b := false) rfl rfl (decide_eq_false r2)) ?_ | refine QV (rr_geq (b := true) rfl rfl (decide_eq_true r3)) ?_ | refine QV QL ?_ | refine QV QA ?_ | refine QV QlT ?_ | refine QV QlF ?_ | refine QV QgT ?_ | refine QV QgF ?_ | refine QV QhT ?_ | refine QV QhF ?_ | refine QV QeT ?_ | refine QV QeF ?_ | refine QV QnT ?_ | refine QV QnF ?_ | refine QV QaA ?_))
      exact E_ret1e rfl rfl rfl
    repeat (first
      | refine QV QP ?_ | refine QZ ?_ | refine qcT rfl ?_ | refine qcF rfl ?_ | refine E_blockX ?_ | refine E_blockO rfl ?_
      | refine qs rfl rfl rfl rfl rfl rfl ?_
      | ((try refine qg rfl rfl rfl ?_); first | refine QV QP ?_ | refine QV (rr_load1 TyC.ty rfl (at_blk (i := 0) rfl (pk_next _ _ _))) ?_ | refine QV (rr_load1 TyC.ty rfl (at_blk (i := 0) rfl (pk_tags _ _ _))) ?_ | refine QV (rr_idxc (j := i) Und.eq TyC.ty rfl rfl q1) ?_ | refine QV (rr_load1 (v := .slice au l.length cu) TyC.ty rfl (hatN _)) ?_ | refine QV (rr_neq (b := false) rfl rfl (decide_eq_false (by omega))) ?_ | refine QV (rr_idxc (j := i) Und.eq TyC.ty rfl rfl hit) ?_ | refine QV (rr_load1 (v := .int .i64 tg) TyC.ty rfl (hatT _)) ?_ | refine QV (rr_lss (b := false) rfl rfl (decide_eq_false r2)) ?_ | refine QV (rr_geq (b := false) rfl rfl (decide_eq_false r3)) ?_ | refine QV QL ?_ | refine QV QA ?_ | refine QV QlT ?_ | refine QV QlF ?_ | refine QV QgT ?_ | refine QV QgF ?_ | refine QV QhT ?_ | refine QV QhF ?_ | refine QV QeT ?_ | refine QV QeF ?_ | refine QV QnT ?_ | refine QV QnF ?_ | refine QV QaA ?_))
    refine T_loop (ι := Nat) (fun j => j ≤ l.length ∧ ∀ x ∈ l.take j, -1 ≤ x ∧ x < N.length) (fun j => [(1, .pointer (some ⟨g1, 0, none⟩)), (3, .int .i64 (N.length : Int)), (4, .int .i64 (wide : Int)), (35, .int .i64 (N.length : Int)), (36, .int .i64 (i : Int)), (67, .slice au l.length cu), (68, .int .i64 (l.length : Int)), (69, .int .i64 (j : Int))])
      (fun _ => [blkO g1 (pkC o (.slice (some ⟨bn, offn, none⟩) N.length cn) (.slice (some ⟨bt, offt, none⟩) tags.length ct)).toArray 26]) (fun j => l.length - j) 0 ⟨Nat.zero_le _, fun x h => by simp at h⟩ (by repeat' (first | exact True.intro | refine And.intro rfl ?_)) rfl ?_
    rintro j ⟨hj, hgj⟩
    by_cases s1 : j < l.length
    · obtain ⟨bu, offu, rfl, hrd⟩ := hru (by omega)
      have hatU := fun (L : List Own) => at_el (L := L) SmIn_len hrd s1 0 _ rfl
      have hxm := List.getElem_mem s1
      have htk := List.take_succ_eq_append_getElem s1
      clear hrd
      generalize l[j] = x at *
      by_cases t1 : x < -1
      · rw [hbad (fun h => by have := ((hG.1 h).2.2.2 x hxm).1; omega)]
        repeat (first
          | refine QV QP ?_ | refine QZ ?_ | refine qcT rfl ?_ | refine qcF rfl ?_ | refine E_blockX ?_ | refine E_blockO rfl ?_
          | refine qs rfl rfl rfl rfl rfl rfl ?_
          | ((try refine qg rfl rfl rfl ?_); first | refine QV QP ?_ | refine QV (rr_idxc (j := j) Und.eq TyC.ty rfl rfl s1) ?_ | refine QV (rr_load1 (v := .int .i64 x) TyC.ty rfl (hatU _)) ?_ | refine QV (rr_lss (b := true) rfl rfl (decide_eq_true t1)) ?_ | refine QV QL ?_ | refine QV QA ?_ | refine QV QlT ?_ | refine QV QlF ?_ | refine QV QgT ?_ | refine QV QgF ?_ | refine QV QhT ?_ | refine QV QhF ?_ | refine QV QeT ?_ | refine QV QeF ?_ | refine QV QnT ?_ | refine QV QnF ?_ | refine QV QaA ?_))
        exact E_ret1e rfl rfl rfl
      by_cases t2 : (N.length : Int) ≤ x
      · rw [hbad (fun h => by have := ((hG.1 h).2.2.2 x hxm).2; omega)]
        repeat (first
          | refine QV QP ?_ | refine QZ ?_ | refine qcT rfl ?_ | refine qcF rfl ?_ | refine E_blockX ?_ | refine E_blockO rfl ?_
          | refine qs rfl rfl rfl rfl rfl rfl ?_
          | ((try refine qg rfl rfl rfl ?_); first | refine QV QP ?_ | refine QV (rr_idxc (j := j) Und.eq TyC.ty rfl rfl s1) ?_ | refine QV (rr_load1 (v := .int .i64 x) TyC.ty rfl (hatU _)) ?_ | refine QV (rr_lss (b := false) rfl rfl (decide_eq_false t1)) ?_ | refine QV (rr_geq (b := true) rfl rfl (decide_eq_true t2)) ?_ | refine QV QL ?_ | refine QV QA ?_ | refine QV QlT ?_ | refine QV QlF ?_ | refine QV QgT ?_ | refine QV QgF ?_ | refine QV QhT ?_ | refine QV QhF ?_ | refine QV QeT ?_ | refine QV QeF ?_ | refine QV QnT ?_ | refine QV QnF ?_ | refine QV QaA ?_))
        exact E_ret1e rfl rfl rfl
      repeat (first
        | refine QV QP ?_ | refine QZ ?_ | refine qcT rfl ?_ | refine qcF rfl ?_ | refine E_blockX ?_ | refine E_blockO rfl ?_
        | refine qs rfl rfl rfl rfl rfl rfl ?_
        | ((try refine qg rfl rfl rfl ?_); first | refine QV QP ?_ | refine QV (rr_idxc (j := j) Und.eq TyC.ty rfl rfl s1) ?_ | refine QV (rr_load1 (v := .int .i64 x) TyC.ty rfl (hatU _)) ?_ | refine QV (rr_lss (b := false) rfl rfl (decide_eq_false t1)) ?_ | refine QV (rr_geq (b := false) rfl rfl (decide_eq_false t2)) ?_ | refine QV QL ?_ | refine QV QA ?_ | refine QV QlT ?_ | refine QV QlF ?_ | refine QV QgT ?_ | refine QV QgF ?_ | refine QV QhT ?_ | refine QV QhF ?_ | refine QV QeT ?_ | refine QV QeF ?_ | refine QV QnT ?_ | refine QV QnF ?_ | refine QV QaA ?_))
      exact E_round (j + 1) ⟨by omega, fun y hy => by
        rw [htk, List.mem_append, List.mem_singleton] at hy
        rcases hy with hy | rfl
        · exact hgj y hy
        · omega⟩ (by show l.length - (j + 1) < l.length - j; omega) (by repeat' (first | exact True.intro | refine And.intro rfl ?_)) rfl
    · rw [List.take_of_length_le (by omega)] at hgj
      repeat (first
        | refine QV QP ?_ | refine QZ ?_ | refine qcT rfl ?_ | refine qcF rfl ?_ | refine E_blockX ?_ | refine E_blockO rfl ?_
        | refine qs rfl rfl rfl rfl rfl rfl ?_
        | ((try refine qg rfl rfl rfl ?_); first | refine QV QP ?_ | refine QV QL ?_ | refine QV QA ?_ | refine QV QlT ?_ | refine QV QlF ?_ | refine QV QgT ?_ | refine QV QgF ?_ | refine QV QhT ?_ | refine QV QhF ?_ | refine QV QeT ?_ | refine QV QeF ?_ | refine QV QnT ?_ | refine QV QnF ?_ | refine QV QaA ?_))
      exact E_round (i + 1) ⟨by omega, fun j hj2 => by
        by_cases e : j = i
        · subst e; exact hG.2 ⟨r1, by omega, by omega, hgj⟩
        · exact hgi j (by omega)⟩ (by show N.length - (i + 1) < N.length - i; omega) (by repeat' (first | exact True.intro | refine And.intro rfl ?_)) rfl
  · repeat (first
      | refine QV QP ?_ | refine QZ ?_ | refine qcT rfl ?_ | refine qcF rfl ?_ | refine E_blockX ?_ | refine E_blockO rfl ?_
      | refine qs rfl rfl rfl rfl rfl rfl ?_
      | ((try refine qg rfl rfl rfl ?_); first | refine QV QP ?_ | refine QV (rr_loadN (cs := ofC o) TyC.ty rfl (ofC_len o) (fun j v hj => at_blk (i := 0) rfl (pk_ofC _ _ _ hj))) ?_ | refine QV QL ?_ | refine QV QA ?_ | refine QV QlT ?_ | refine QV QlF ?_ | refine QV QgT ?_ | refine QV QgF ?_ | refine QV QhT ?_ | refine QV QhF ?_ | refine QV QeT ?_ | refine QV QeF ?_ | refine QV QnT ?_ | refine QV QnF ?_ | refine QV QaA ?_))
    refine T_loop (ι := Nat) (fun j => j ≤ 256 ∧ ∀ b (h : b < 256), b < j → o[b] < wide) (fun j => [(4, .int .i64 (wide : Int)), (83, .agg (ofC o).toArray), (84, .int .i64 (j : Int))]) (fun _ => [blkO g1 (pkC o (.slice (some ⟨bn, offn, none⟩) N.length cn) (.slice (some ⟨bt, offt, none⟩) tags.length ct)).toArray 26]) (fun j => 256 - j) 0 ⟨Nat.zero_le _, fun b _ h => by omega⟩ (by repeat' (first | exact True.intro | refine And.intro rfl ?_)) rfl ?_
    rintro j ⟨hj, hoj⟩
    by_cases s1 : j < 256
    · have hcell := ofC_get o s1
      have hz := ho j s1
      have hbad : ¬ o[j] < wide → e = 1 := fun hg => hE1 c1 fun h => hg ((hgood.1 h).of j s1)
      have hnx : o[j] < wide → ∀ b (h : b < 256), b < j + 1 → o[b] < wide := fun hw b h hb => by
        by_cases e : b = j
        · subst e; exact hw
        · exact hoj b h (by omega)
      clear hE1 hE2
      generalize o[j] = z at *
      by_cases t1 : z < wide
      · repeat (first
          | refine QV QP ?_ | refine QZ ?_ | refine qcT rfl ?_ | refine qcF rfl ?_ | refine E_blockX ?_ | refine E_blockO rfl ?_
          | refine qs rfl rfl rfl rfl rfl rfl ?_
          | ((try refine qg rfl rfl rfl ?_); first | refine QV QP ?_ | refine QV (rr_arridx Und.eq TyC.ty rfl rfl s1 hcell) ?_ | refine QV (rr_conv Und.eq Und.eq rfl (wrap_in (by omega) (by omega))) ?_ | refine QV (rr_geq (b := false) rfl rfl (decide_eq_false (by omega))) ?_ | refine QV QL ?_ | refine QV QA ?_ | refine QV QlT ?_ | refine QV QlF ?_ | refine QV QgT ?_ | refine QV QgF ?_ | refine QV QhT ?_ | refine QV QhF ?_ | refine QV QeT ?_ | refine QV QeF ?_ | refine QV QnT ?_ | refine QV QnF ?_ | refine QV QaA ?_))
        exact E_round (j + 1) ⟨by omega, hnx t1⟩ (by show 256 - (j + 1) < 256 - j; omega) (by repeat' (first | exact True.intro | refine And.intro rfl ?_)) rfl
      · rw [hbad t1]
        repeat (first
          | refine QV QP ?_ | refine QZ ?_ | refine qcT rfl ?_ | refine qcF rfl ?_ | refine E_blockX ?_ | refine E_blockO rfl ?_
          | refine qs rfl rfl rfl rfl rfl rfl ?_
          | ((try refine qg rfl rfl rfl ?_); first | refine QV QP ?_ | refine QV (rr_arridx Und.eq TyC.ty rfl rfl s1 hcell) ?_ | refine QV (rr_conv Und.eq Und.eq rfl (wrap_in (by omega) (by omega))) ?_ | refine QV (rr_geq (b := true) rfl rfl (decide_eq_true (by omega))) ?_ | refine QV QL ?_ | refine QV QA ?_ | refine QV QlT ?_ | refine QV QlF ?_ | refine QV QgT ?_ | refine QV QgF ?_ | refine QV QhT ?_ | refine QV QhF ?_ | refine QV QeT ?_ | refine QV QeF ?_ | refine QV QnT ?_ | refine QV QnF ?_ | refine QV QaA ?_))
        exact E_ret1e rfl rfl rfl
    · rw [hE0 (hgood.2 (pkOk_of (by omega) (by omega) c3 (by omega) (by omega) (fun i h => hgi i (by omega)) fun b h => hoj b h (by omega)))]
      repeat (first
        | refine QV QP ?_ | refine QZ ?_ | refine qcT rfl ?_ | refine qcF rfl ?_ | refine E_blockX ?_ | refine E_blockO rfl ?_
        | refine qs rfl rfl rfl rfl rfl rfl ?_
        | ((try refine qg rfl rfl rfl ?_); first | refine QV QP ?_ | refine QV QL ?_ | refine QV QA ?_ | refine QV QlT ?_ | refine QV QlF ?_ | refine QV QgT ?_ | refine QV QgF ?_ | refine QV QhT ?_ | refine QV QhF ?_ | refine QV QeT ?_ | refine QV QeF ?_ | refine QV QnT ?_ | refine QV QnF ?_ | refine QV QaA ?_))
      exact E_ret1e rfl rfl rfl
end Go.Proofs.Ytkmemlnkijinlaa.eng

/- PkO -/
namespace Go.Proofs.Ytkmemlnkijinlaa.eng
open Go.RowKit kit mix smallL
set_option maxRecDepth 100000
/-- where all blocks are the world's own -/
theorem slf_anyG {α : Type} {s : Shp α} {is : List Value → α → Prop} {w : World} {v : Value} {l : List α} (h : SlX w is s.c v l) (hi : ∀ cs a, is cs a → s.is (Low w) w cs a) (h0 : 0 < s.c) : SlF s (Low w) w v l := by
  obtain ⟨base, cap, h1, h2, h3, h4⟩ := h
  refine ⟨base, cap, h1, h2, h3, fun hl => ?_⟩
  obtain ⟨b, off, h5, h6⟩ := h4 hl
  refine ⟨b, off, h5, ?_, fun i hi' => let ⟨cs, h7, h8⟩ := h6 i hi'; ⟨cs, hi _ _ h7, h8⟩⟩
  obtain ⟨cs, h7, h8⟩ := h6 0 hl
  have hlen := s.len (hi _ _ h7)
  have hc := h8 0 (cs[0]'(by omega)) (List.getElem?_eq_getElem (by omega))
  exact World.block_lt_of_cell? w _ hc
theorem opensM_intsS {H : Type} {M : Msr Try.prog H} {enc0 : TypeId × Value → H} {W : World} : OpensM M enc0 W 24 (fun cs l => (sliceS intS).is (Low W) W cs l ∧ M.lim 3 l.length) :=
  (opensM_slice (c := 1) Try.underlying24 (by kernel_rfl) (by decide) (opensM_i64 Try.underlying3) fun cs a h => by rw [h.1]; rfl).mono fun cs l h => by
    obtain ⟨⟨v, h1, h2⟩, h3⟩ := h
    exact ⟨l, ⟨v, h1, slf_anyG (s := intS) h2 (fun cs a h => ⟨h.1, h.2⟩) (by decide)⟩, h3⟩
theorem opensM_pk {H : Type} {M : Msr Try.prog H} {enc0 : TypeId × Value → H} {W : World} : OpensM M enc0 W 26 (fun cs (x : Of × List (List Int) × List Int) => ∃ vn vt, cs = pkC x.1 vn vt ∧ (∀ b (h : b < 256), x.1[b] < 256) ∧ PkI W vn vt x.2.1 x.2.2 ∧ M.lim 24 x.2.1.length ∧ M.lim 3 x.2.2.length ∧ ∀ l ∈ x.2.1, M.lim 3 l.length) := fun fuel cs x h hm => by
  obtain ⟨hl, hfs⟩ := fieldM_of Try.underlying26 h hm
  have hl8 : cs.length = 258 := hl
  obtain ⟨lo, ho⟩ := hfs 0 _ rfl (opensM_of ((opens_array (is := isInt .u8 0 255) (c := 1) Try.underlying22 (by kernel_rfl) (opens_u8 Try.underlying5)).mono fun cs l h => ints_of_arr (by rw [h.1]; kernel_rfl) h.2))
  obtain ⟨N, ⟨vn, e1, hN⟩, hlim1⟩ := hfs 1 _ rfl (opensM_slice (c := 1) Try.underlying23 (by kernel_rfl) (by decide) opensM_intsS fun cs a h => (sliceS intS).len h.1)
  obtain ⟨T, ⟨vt, e2, hT⟩, hlim2⟩ := hfs 2 _ rfl opensM_intsS
  replace ho : isInts .u8 0 255 256 ((cs.drop 0).take 256) lo := ho
  replace e1 : (cs.drop 256).take 1 = [vn] := e1
  replace e2 : (cs.drop 257).take 1 = [vt] := e2
  obtain ⟨q1, q2, q3⟩ := ho
  have hlow : ∀ b (h : b < 256), ((lo[b]'(by omega)).toNat : Int) = lo[b]'(by omega) ∧ (lo[b]'(by omega)).toNat < 256 := fun b h => by
    have := q3 _ (List.getElem_mem (show b < lo.length by omega))
    omega
  have hd : cs.drop 256 = [vn, vt] := by
    have h2 : (cs.drop 256).length = 2 := by rw [List.length_drop, hl8]
    match hc : cs.drop 256, h2 with
    | [a, b], _ =>
      rw [hc] at e1
      have : cs.drop 257 = [b] := by rw [show 257 = 256 + 1 from rfl, ← List.drop_drop, hc]; rfl
      rw [this] at e2
      simp only [List.take_succ_cons, List.take_zero, List.cons.injEq, and_true] at e1 e2
      rw [e1, e2]
  have hlb : ∀ b, b < 256 → b < lo.length := fun b h => by omega
  obtain ⟨o, hoo⟩ : ∃ o : Of, ∀ b (h : b < 256), o[b] = (lo[b]'(hlb b h)).toNat := by
    refine ⟨Vector.ofFn fun b : Fin 256 => (lo[b.val]'(hlb b.val b.isLt)).toNat, fun b h => ?_⟩
    rw [Vector.getElem_ofFn]
  have ht : cs.take 256 = o.toList.map fun n : Nat => Value.int .u8 (n : Int) := by
    rw [List.drop_zero] at q2
    rw [q2]
    refine List.ext_getElem (by rw [List.length_map, List.length_map, Vector.length_toList, q1]) fun i h1 h2 => ?_
    have hi : i < 256 := by rw [List.length_map, q1] at h1; exact h1
    rw [List.getElem_map, List.getElem_map, Vector.getElem_toList, hoo i hi, (hlow i hi).1]
  refine ⟨(o, N, T), vn, vt, ?_, fun b h => ?_, ⟨slf_anyG (s := sliceS intS) hN (fun cs a h => h.1) (by decide), ?_⟩, hlim1, hlim2, ?_⟩
  · rw [← List.take_append_drop 256 cs, hd, ht]; rfl
  · show o[b] < 256
    rw [hoo b h]; exact (hlow b h).2
  · exact hT.flat (by decide)
  · intro l hl'
    obtain ⟨i, hi, rfl⟩ := List.mem_iff_getElem.1 hl'
    have hi : i < N.length := hi
    obtain ⟨base, cap, _, _, _, h4⟩ := hN
    obtain ⟨b, off, _, h6⟩ := h4 (by omega)
    obtain ⟨cs, h7, _⟩ := h6 i hi
    exact h7.2
theorem open_pk {H : Type} {enc0 : TypeId × Value → H} {W : World} {base : Nat} {v : Value} {d : DataW H} {ps : List MemPlace} (hv : Value.okWide Try.prog W .any base 26 v) (h : DataW.Trod enc0 Try.prog W 0 (fun _ => true) true 26 v d ps) {ts : List TypeId} {ds : List (DataW H)} (hsz : (DataW.weightsEach Try.prog ts ds).all (· ≤ reachBytes) = true) (j : Nat) (hj : ts[j]? = some 26) (hd : ds[j]? = some d) :
    ∃ (o : Of) (N : List (List Int)) (tags : List Int) (vn vt : Value), v = pkV o vn vt ∧ (∀ b (h : b < 256), o[b] < 256) ∧ PkI W vn vt N tags ∧ N.length * 24 ≤ 140737488351232 ∧ tags.length * 8 ≤ 140737488351232 ∧ ∀ l ∈ N, l.length * 8 ≤ 140737488351232 := by
  obtain ⟨cs, x, rfl, vn, vt, h1, h2, h3, h4, h5, h6⟩ := topM_agg (M := weightM Try.prog H) Try.underlying26 hv h opensM_pk (weightM_top hsz j hj hd)
  refine ⟨x.1, x.2.1, x.2.2, vn, vt, ?_, h2, h3, h4, h5, h6⟩
  unfold pkV
  rw [← h1, Array.toArray_toList]
end Go.Proofs.Ytkmemlnkijinlaa.eng

/- LexL -/
namespace Go.Proofs.Ytkmemlnkijinlaa.lexL
open Go.RowKit kit mix eng smallL
/-- the next state -/
def nxP (o : Of) (N : List (List Int)) (now : Int) (b : UInt8) : Int := (N.getD now.toNat []).getD (o.toList.getD b.toNat 0) 0
/-- the longest token from a place on: its rule, and where it has ended (0: there is none) -/
def oneGo (o : Of) (N : List (List Int)) (tags : List Int) : List UInt8 → Nat → Int → Int → Nat → Int × Nat
  | [], _, _, r, t => (r, t)
  | b :: s, i, now, r, t =>
    if nxP o N now b < 0 then (r, t)
    else if 0 ≤ tags.getD (nxP o N now b).toNat 0 then oneGo o N tags s (i + 1) (nxP o N now b) (tags.getD (nxP o N now b).toNat 0) (i + 1)
    else oneGo o N tags s (i + 1) (nxP o N now b) r t
def oneF (o : Of) (N : List (List Int)) (tags : List Int) (s : List UInt8) (fr : Nat) : Int × Nat := oneGo o N tags (s.drop fr) fr 0 0 0
theorem oneGo_cons (o : Of) (N : List (List Int)) (tags : List Int) (b : UInt8) (s : List UInt8) (i : Nat) (now r : Int) (t : Nat) : oneGo o N tags (b :: s) i now r t =
    if nxP o N now b < 0 then (r, t)
    else if 0 ≤ tags.getD (nxP o N now b).toNat 0 then oneGo o N tags s (i + 1) (nxP o N now b) (tags.getD (nxP o N now b).toNat 0) (i + 1)
    else oneGo o N tags s (i + 1) (nxP o N now b) r t := rfl
/-- tokens: rule, from, to -/
abbrev Tok := Int × Nat × Nat
def lexGo (o : Of) (N : List (List Int)) (tags : List Int) (s : List UInt8) : Nat → Nat → List Tok × Nat × Int
  | 0, _ => ([], 0, 0)
  | f + 1, at' => if at' < s.length then (if (oneF o N tags s at').2 = 0 then ([], at', 9) else ((((oneF o N tags s at').1, at', (oneF o N tags s at').2) :: (lexGo o N tags s f (oneF o N tags s at').2).1), (lexGo o N tags s f (oneF o N tags s at').2).2)) else ([], 0, 0)
def lexF (o : Of) (N : List (List Int)) (tags : List Int) (s : List UInt8) : List Tok × Nat × Int := lexGo o N tags s (s.length + 1) 0
theorem lexGo_succ (o : Of) (N : List (List Int)) (tags : List Int) (s : List UInt8) (f at' : Nat) : lexGo o N tags s (f + 1) at' = if at' < s.length then (if (oneF o N tags s at').2 = 0 then ([], at', 9) else ((((oneF o N tags s at').1, at', (oneF o N tags s at').2) :: (lexGo o N tags s f (oneF o N tags s at').2).1), (lexGo o N tags s f (oneF o N tags s at').2).2)) else ([], 0, 0) := rfl
/-- where a token ends -/
theorem oneGo_to (o : Of) (N : List (List Int)) (tags : List Int) : ∀ (s : List UInt8) (i : Nat) (now r : Int) (t : Nat), (oneGo o N tags s i now r t).2 = t ∨ (i < (oneGo o N tags s i now r t).2 ∧ (oneGo o N tags s i now r t).2 ≤ i + s.length)
  | [], _, _, _, _ => .inl rfl
  | b :: s, i, now, r, t => by
    rw [oneGo_cons]
    split
    · exact .inl rfl
    · split
      · rcases oneGo_to o N tags s (i + 1) (nxP o N now b) (tags.getD (nxP o N now b).toNat 0) (i + 1) with h | h
        · rw [h]; exact .inr ⟨by omega, by rw [List.length_cons]; omega⟩
        · exact .inr ⟨by omega, by rw [List.length_cons]; omega⟩
      · rcases oneGo_to o N tags s (i + 1) (nxP o N now b) r t with h | h
        · exact .inl h
        · exact .inr ⟨by omega, by rw [List.length_cons]; omega⟩
theorem oneF_to {o : Of} {N : List (List Int)} {tags : List Int} {s : List UInt8} {fr : Nat} (hf : fr ≤ s.length) : (oneF o N tags s fr).2 = 0 ∨ (fr < (oneF o N tags s fr).2 ∧ (oneF o N tags s fr).2 ≤ s.length) := by
  rcases oneGo_to o N tags (s.drop fr) fr 0 0 0 with h | h
  · exact .inl h
  · right
    rw [List.length_drop] at h
    exact ⟨h.1, by have := h.2; show (oneGo _ _ _ _ _ _ _ _).2 ≤ _; omega⟩
/-- a good one's next states -/
theorem nxP_in {o : Of} {N : List (List Int)} {tags : List Int} (h : PkGood o N tags) {q : Nat} (hq : q < N.length) (b : UInt8) :
    ∃ (h1 : q < N.length) (h2 : o[b.toNat]'b.toNat_lt < N[q].length), nxP o N (q : Int) b = N[q][o[b.toNat]'b.toNat_lt] ∧ -1 ≤ nxP o N (q : Int) b ∧ nxP o N (q : Int) b < N.length := by
  have hw : o[b.toNat]'b.toNat_lt < N[q].length := by rw [h.row q hq]; exact h.of _ _
  have e : nxP o N (q : Int) b = N[q][o[b.toNat]'b.toNat_lt] := by
    unfold nxP
    rw [Int.toNat_natCast, List.getD_eq_getElem?_getD (l := N), List.getElem?_eq_getElem hq, Option.getD_some, List.getD_eq_getElem?_getD (l := o.toList), List.getElem?_eq_getElem (by rw [Vector.length_toList]; exact b.toNat_lt), Option.getD_some, Vector.getElem_toList, List.getD_eq_getElem?_getD, List.getElem?_eq_getElem hw]; rfl
  have hr := h.rng q hq _ hw
  exact ⟨hq, hw, e, by rw [e]; exact hr.1, by rw [e]; exact hr.2⟩
end Go.Proofs.Ytkmemlnkijinlaa.lexL

/- LexA -/
namespace Go.Proofs.Ytkmemlnkijinlaa.eng
open Go.RowKit kit mix smallL lexL
theorem of_toB {vn vt : Value} (o : Of) (b : UInt8) : (pkC o vn vt).toArray[0 + b.toNat]? = some (.int .u8 ((o[b.toNat]'b.toNat_lt : Nat) : Int)) := by
  rw [Nat.zero_add]; exact pk_of o vn vt b.toNat_lt
set_option maxHeartbeats 4000000 in
theorem lexCheck_calls (o : Of) (vn vt : Value) (N : List (List Int)) (tags : List Int) (s : List UInt8) (w : World) (h : PkI w vn vt N tags) (ho : ∀ b (h : b < 256), o[b] < 256) (hs : s.length ≤ 9223372036854775807) :
    Calls Try.prog 24 #[pkV o vn vt, str s] w (Meets (ret (.int .i64 (if chkP o N tags ≠ 0 then chkP o N tags else if 2000 < s.length then 2 else 0))) w) := by
  have hck := fun w' (hg : Gr w w') => pkChk_calls o vn vt N tags w' (h.gr hg) ho
  obtain ⟨⟨an, cn, rfl, -⟩, at', ct, rfl, -⟩ := h
  generalize chkP o N tags = e at *
  refine enter (args := [pkV o (.slice an N.length cn) (.slice at' tags.length ct), str s]) (n := 14) Try.func24 rfl rfl rfl ?_
  refine T_seq (T_region (TL_box rfl rfl rfl fun g2 => ?_))
  conv => arg 8; simp only [zA, zB, zC, zD, zE, zF, zG, zH, zI, rowS, ret, id_eq]
  repeat (first
    | refine QV QP ?_ | refine QZ ?_ | refine qcT rfl ?_ | refine qcF rfl ?_ | refine QV (rr_loadB (i := 0) TyC.ty rfl rfl (pk_size _ _ _)) ?_
    | refine QV QS ?_ | refine QV QgT ?_ | refine QV QgF ?_ | refine QV QnT ?_ | refine QV QnF ?_)
  refine TL_call (he1 EntersC.en rfl rfl) (fun w hm => hck _ hm.below) rfl rfl rfl ?_
  intro _ _
  conv => arg 8; simp only [zA, zB, zC, zD, zE, zF, zG, zH, zI, rowS, ret, id_eq]
  by_cases c1 : e = 0
  · rw [if_neg (by simpa using c1)]
    by_cases c2 : 2000 < s.length
    · rw [if_pos c2]
      repeat (first
        | refine QV QP ?_ | refine QZ ?_ | refine qcT rfl ?_ | refine qcF rfl ?_
        | refine QV (rr_neq (b := false) rfl rfl (decide_eq_false (by simpa using c1))) ?_
        | refine QV (rr_gtr (b := true) rfl rfl (decide_eq_true (by omega))) ?_ | refine QV QS ?_ | refine QV QgT ?_ | refine QV QgF ?_ | refine QV QnT ?_
        | refine QV QnF ?_)
      exact E_ret1e rfl rfl rfl
    · rw [if_neg c2]
      repeat (first
        | refine QV QP ?_ | refine QZ ?_ | refine qcT rfl ?_ | refine qcF rfl ?_
        | refine QV (rr_neq (b := false) rfl rfl (decide_eq_false (by simpa using c1))) ?_
        | refine QV (rr_gtr (b := false) rfl rfl (decide_eq_false (by omega))) ?_ | refine QV QS ?_ | refine QV QgT ?_ | refine QV QgF ?_ | refine QV QnT ?_
        | refine QV QnF ?_)
      exact E_ret1e rfl rfl rfl
  · rw [if_pos c1]
    repeat (first
      | refine QV QP ?_ | refine QZ ?_ | refine qcT rfl ?_ | refine qcF rfl ?_ | refine QV (rr_neq (b := true) rfl rfl (decide_eq_true c1)) ?_
      | refine QV QS ?_ | refine QV QgT ?_ | refine QV QgF ?_ | refine QV QnT ?_ | refine QV QnF ?_)
    exact E_ret1e rfl rfl rfl
def tokC (t : Tok) : List Value := [.int .i64 t.1, .int .i64 (t.2.1 : Int), .int .i64 (t.2.2 : Int)]
theorem build_tokF (f : Nat) (w : World) : (Instr.build 36 #[(1, .int .i64 (f : Int))]).run Try.prog w = .ok (.agg (tokC (0, f, 0)).toArray) w := by
  unfold tokC; go_simp
theorem build_tok0 (w : World) : (Instr.build 36 (#[] : Array (Nat × Value))).run Try.prog w = .ok (.agg (tokC (0, 0, 0)).toArray) w := by kernel_rfl
/-- what one answers -/
def oneA (fr : Nat) (x : Int × Nat) : Value := if x.2 = 0 then .tuple #[.agg (tokC (0, 0, 0)).toArray, .bool false] else .tuple #[.agg (tokC (x.1, fr, x.2)).toArray, .bool true]
set_option maxHeartbeats 8000000 in
theorem lexOne_calls (o : Of) (vn vt : Value) (N : List (List Int)) (tags : List Int) (s : List UInt8) (fr : Nat) (w : World) (h : PkI w vn vt N tags) (hg : PkGood o N tags) (hs : s.length ≤ 1000000) (hf : fr ≤ s.length) :
    Calls Try.prog 25 #[pkV o vn vt, str s, .int .i64 (fr : Int)] w (Meets (ret (oneA fr (oneF o N tags s fr))) w) := by
  have hnx := fun {q} hq b => nxP_in hg (q := q) hq b
  have hpos := hg.pos
  have hlen := hg.len
  have htag := hg.tag
  obtain ⟨⟨an, cn, rfl, hn1, hn2, hn3⟩, at', ct, rfl, ht1, ht2, ht3⟩ := h
  unfold maxLen at hn2 ht2
  obtain ⟨bn, offn, rfl, _, hnd⟩ := hn3 (by omega)
  obtain ⟨bt, offt, rfl, htd⟩ := ht3 (by omega)
  clear hn3 ht3 hg
  have hbt := build_tokF fr
  have hb0 := build_tok0
  refine enter (args := [pkV o (.slice (some ⟨bn, offn, none⟩) N.length cn) (.slice (some ⟨bt, offt, none⟩) tags.length ct), str s, .int .i64 (fr : Int)]) (n := 55) Try.func25 rfl rfl rfl ?_
  refine T_seq (T_region (TL_box rfl rfl rfl fun g3 => TL_new rfl fun g6 => ?_))
  conv => arg 8; simp only [zA, zB, zC, zD, zE, zF, zG, zH, zI, rowS, ret, id_eq]
  repeat (first
    | refine QV QP ?_ | refine QZ ?_ | refine qcT rfl ?_ | refine qcF rfl ?_ | refine E_blockX ?_ | refine E_blockO rfl ?_ | refine QV (rr_build rfl hbt) ?_
    | refine QV QS ?_ | refine QV QA ?_ | refine QV QlT ?_ | refine QV QlF ?_ | refine QV QhT ?_ | refine QV QhF ?_ | refine QV QeT ?_ | refine QV QeF ?_
    | refine QV QaA ?_)
  refine TL_new rfl fun g9 => ?_
  conv => arg 8; simp only [zA, zB, zC, zD, zE, zF, zG, zH, zI, rowS, ret, id_eq]
  refine TL_storeB (i := 2) (cs' := (tokC (0, fr, 0)).toArray) rfl rfl rfl rfl rfl rfl ?_
  conv => arg 8; simp only [zA, zB, zC, zD, zE, zF, zG, zH, zI, rowS, ret, id_eq]
  repeat (first
    | refine QV QP ?_ | refine QZ ?_ | refine qcT rfl ?_ | refine qcF rfl ?_ | refine E_blockX ?_ | refine E_blockO rfl ?_ | refine QV QS ?_
    | refine QV QA ?_ | refine QV QlT ?_ | refine QV QlF ?_ | refine QV QhT ?_ | refine QV QhF ?_ | refine QV QeT ?_ | refine QV QeF ?_ | refine QV QaA ?_)
  unfold oneF
  generalize hfin : oneGo o N tags (s.drop fr) fr 0 0 0 = fin
  refine T_loop (ι := Nat × Nat × Int × Nat) (fun (i, now, r, t) => i ≤ s.length ∧ now < N.length ∧ t ≤ i ∧ oneGo o N tags (s.drop i) i (now : Int) r t = fin) (fun (i, now, _, _) => [(1, str s), (3, .pointer (some ⟨g3, 0, none⟩)), (6, .pointer (some ⟨g6, 0, none⟩)), (8, .int .i64 (now : Int)), (9, .pointer (some ⟨g9, 0, none⟩)), (10, .int .i64 (i : Int))])
    (fun (_, _, r, t) => [blkO g3 (pkC o (.slice (some ⟨bn, offn, none⟩) N.length cn) (.slice (some ⟨bt, offt, none⟩) tags.length ct)).toArray 26, blkO g6 (tokC (0, 0, 0)).toArray 36, blkO g9 (tokC (r, fr, t)).toArray 36]) (fun (i, _, _, _) => s.length - i) (fr, 0, 0, 0) ⟨hf, hpos, Nat.zero_le _, hfin⟩ (by repeat' (first | exact True.intro | refine And.intro rfl ?_)) rfl ?_
  rintro ⟨i, now, r, t⟩ ⟨i1, i2, i3, i4⟩
  dsimp only at i1 i2 i3 i4 ⊢
  by_cases c1 : i < s.length
  · rw [List.drop_eq_getElem_cons c1, oneGo_cons] at i4
    obtain ⟨_, hw, hx0, hx1, hx2⟩ := hnx i2 s[i]
    have hb : s[(i : Int).toNat]? = some s[i] := by rw [Int.toNat_natCast]; exact List.getElem?_eq_getElem c1
    have hcell := of_toB (vn := .slice (some ⟨bn, offn, none⟩) N.length cn) (vt := .slice (some ⟨bt, offt, none⟩) tags.length ct) o s[i]
    have hb8 := s[i].toNat_lt
    obtain ⟨u, ⟨au, cu, rfl, hcu, hmu, hru⟩, hdu⟩ := fol_at hnd i2
    have hatN := fun (L : List Own) => at_rd (L := L) hdu (j := 0) (v := .slice au N[now].length cu) rfl
    obtain ⟨bu, offu, rfl, hrd⟩ := hru (by omega)
    have hatU := fun (L : List Own) => at_el (L := L) SmIn_len hrd hw 0 _ rfl
    have hatU' : ∀ (L : List Own), At (w : Base) L ⟨bu, offu + o[s[i].toNat] * 1 + 0, none⟩ (.int .i64 (nxP o N (now : Int) s[i])) := fun L => by rw [hx0]; exact hatU L
    clear hdu hrd hru hatU hx0 hfin hnd
    generalize s[i] = b at *
    generalize o[b.toNat] = ob at *
    generalize nxP o N (now : Int) b = x at *
    generalize N[now].length = wd at *
    repeat (first
      | refine QV QP ?_ | refine QZ ?_ | refine qcT rfl ?_ | refine qcF rfl ?_ | refine E_blockX ?_ | refine E_blockO rfl ?_ | refine QV QS ?_
      | refine QV QA ?_ | refine QV QlT ?_ | refine QV QlF ?_ | refine QV QhT ?_ | refine QV QhF ?_ | refine QV QeT ?_ | refine QV QeF ?_ | refine QV QaA ?_)
    refine T_ord ([blkO g3 (pkC o (.slice (some ⟨bn, offn, none⟩) N.length cn) (.slice (some ⟨bt, offt, none⟩) tags.length ct)).toArray 26]) (.calm 0 (.calm 1 (.calm 2 (.calm 3 (.calm 4 (.calm 5 (.calm 6 (.calm 7 (.calm 8 (.calm 9 (.calm 10 (.calm 11 (.calm 12 (.calm 13 (.done))))))))))))))) (sub_pick [0] (by decide) rfl) (by kernel_rfl) (by kernel_rfl) (by intro c a d v w h; cases d <;> exact h) ?_
    repeat (first
      | ((first | refine TW_plain rfl rfl ?_ | refine TW_gmet rfl rfl rfl rfl ?_); first | refine QW QP ?_ | refine QW (rr_load1 TyC.ty rfl (at_blk (i := 0) rfl (pk_next _ _ _))) ?_ | refine QW (rr_idxc (j := now) Und.eq TyC.ty rfl rfl i2) ?_ | refine QW (rr_load1 TyC.ty rfl (hatN _)) ?_ | refine QW (rr_stridx Und.eq rfl rfl (by omega) hb) ?_ | refine QW (rr_aidx1 Und.eq TyC.ty rfl rfl hb8) ?_ | refine QW (rr_load1 TyC.ty rfl (at_blk (i := 0) rfl hcell)) ?_ | refine QW (rr_idxc (j := ob) Und.eq TyC.ty rfl rfl hw) ?_ | refine QW (rr_load1 TyC.ty rfl (hatU' _)) ?_ | refine QW QS ?_ | refine QW QA ?_ | refine QW QlT ?_ | refine QW QlF ?_ | refine QW QhT ?_ | refine QW QhF ?_ | refine QW QeT ?_ | refine QW QeF ?_ | refine QW QaA ?_)
      | refine TW_done ?_)
    by_cases q1 : x < 0
    · rw [if_pos q1] at i4
      subst i4
      unfold oneA
      by_cases e1 : t = 0
      · subst e1
        rw [if_pos rfl]
        repeat (first
          | refine QV QP ?_ | refine QZ ?_ | refine qcT rfl ?_ | refine qcF rfl ?_ | refine E_blockX ?_ | refine E_blockO rfl ?_
          | refine QV (rr_lss (b := true) rfl rfl (decide_eq_true q1)) ?_
          | refine QV (rr_load1 (v := .int .i64 ((0 : Nat) : Int)) TyC.ty rfl (at_blk (i := 2) rfl rfl)) ?_
          | refine QV (rr_eql (b := true) rfl rfl (decide_eq_true (by simp))) ?_ | refine QV (rr_build rfl hb0) ?_ | refine QV QS ?_ | refine QV QA ?_
          | refine QV QlT ?_ | refine QV QlF ?_ | refine QV QhT ?_ | refine QV QhF ?_ | refine QV QeT ?_ | refine QV QeF ?_ | refine QV QaA ?_)
        refine TL_storeB (i := 1) (cs' := (tokC (0, 0, 0)).toArray) rfl rfl rfl rfl rfl rfl ?_
        conv => arg 8; simp only [zA, zB, zC, zD, zE, zF, zG, zH, zI, rowS, ret, id_eq]
        repeat (first
          | refine QV QP ?_ | refine QZ ?_ | refine qcT rfl ?_ | refine qcF rfl ?_ | refine E_blockX ?_ | refine E_blockO rfl ?_ | refine QV QS ?_
          | refine QV QA ?_ | refine QV QlT ?_ | refine QV QlF ?_ | refine QV QhT ?_ | refine QV QhF ?_ | refine QV QeT ?_ | refine QV QeF ?_ | refine QV QaA ?_)
        exact E_retc2 (i := 1) rfl rfl rfl rfl rfl fun w hm => hm.ret
      · rw [if_neg e1]
        repeat (first
          | refine QV QP ?_ | refine QZ ?_ | refine qcT rfl ?_ | refine qcF rfl ?_ | refine E_blockX ?_ | refine E_blockO rfl ?_
          | refine QV (rr_lss (b := true) rfl rfl (decide_eq_true q1)) ?_ | refine QV (rr_load1 (v := .int .i64 (t : Int)) TyC.ty rfl (at_blk (i := 2) rfl rfl)) ?_
          | refine QV (rr_eql (b := false) rfl rfl (decide_eq_false (by omega))) ?_ | refine QV (rr_loadB (i := 2) TyC.ty rfl rfl rfl) ?_ | refine QV QS ?_
          | refine QV QA ?_ | refine QV QlT ?_ | refine QV QlF ?_ | refine QV QhT ?_ | refine QV QhF ?_ | refine QV QeT ?_ | refine QV QeF ?_ | refine QV QaA ?_)
        refine TL_storeB (i := 1) (cs' := (tokC (r, fr, t)).toArray) rfl rfl rfl rfl rfl rfl ?_
        conv => arg 8; simp only [zA, zB, zC, zD, zE, zF, zG, zH, zI, rowS, ret, id_eq]
        repeat (first
          | refine QV QP ?_ | refine QZ ?_ | refine qcT rfl ?_ | refine qcF rfl ?_ | refine E_blockX ?_ | refine E_blockO rfl ?_ | refine QV QS ?_
          | refine QV QA ?_ | refine QV QlT ?_ | refine QV QlF ?_ | refine QV QhT ?_ | refine QV QhF ?_ | refine QV QeT ?_ | refine QV QeF ?_ | refine QV QaA ?_)
        exact E_retc2 (i := 1) rfl rfl rfl rfl rfl fun w hm => hm.ret
    · rw [if_neg q1] at i4
      obtain ⟨xn, rfl⟩ := Int.eq_ofNat_of_zero_le (show 0 ≤ x by omega)
      have hxt : xn < tags.length := by omega
      have hatT := fun (L : List Own) => at_el (L := L) SmIn_len htd hxt 0 _ rfl
      rw [Int.toNat_natCast, List.getD_eq_getElem?_getD (l := tags), List.getElem?_eq_getElem hxt, Option.getD_some] at i4
      generalize tags[xn] = tg at *
      have hatT' : ∀ (L : List Own), At (w : Base) L ⟨bt, offt + xn * 1 + 0, none⟩ (.int .i64 tg) := hatT
      by_cases q2 : 0 ≤ tg
      · rw [if_pos q2] at i4
        repeat (first
          | refine QV QP ?_ | refine QZ ?_ | refine qcT rfl ?_ | refine qcF rfl ?_ | refine E_blockX ?_ | refine E_blockO rfl ?_
          | refine QV (rr_lss (b := false) rfl rfl (decide_eq_false q1)) ?_ | refine QV (rr_load1 TyC.ty rfl (at_blk (i := 0) rfl (pk_tags _ _ _))) ?_
          | refine QV (rr_idxc (j := xn) Und.eq TyC.ty rfl rfl hxt) ?_ | refine QV (rr_load1 (v := .int .i64 tg) TyC.ty rfl (hatT' _)) ?_
          | refine QV (rr_geq (b := true) rfl rfl (decide_eq_true q2)) ?_
          | refine QV (rr_add64 (r := ((i + 1 : Nat) : Int)) rfl rfl (by omega) (by omega) (by omega)) ?_ | refine QV QS ?_ | refine QV QA ?_ | refine QV QlT ?_
          | refine QV QlF ?_ | refine QV QhT ?_ | refine QV QhF ?_ | refine QV QeT ?_ | refine QV QeF ?_ | refine QV QaA ?_)
        refine TL_store1 (i := 2) rfl rfl rfl rfl rfl rfl ?_
        conv => arg 8; simp only [zA, zB, zC, zD, zE, zF, zG, zH, zI, rowS, ret, id_eq]
        repeat (first
          | refine QV QP ?_ | refine QZ ?_ | refine qcT rfl ?_ | refine qcF rfl ?_ | refine E_blockX ?_ | refine E_blockO rfl ?_ | refine QV QS ?_
          | refine QV QA ?_ | refine QV QlT ?_ | refine QV QlF ?_ | refine QV QhT ?_ | refine QV QhF ?_ | refine QV QeT ?_ | refine QV QeF ?_ | refine QV QaA ?_)
        refine TL_store1 (i := 2) rfl rfl rfl rfl rfl rfl ?_
        conv => arg 8; simp only [zA, zB, zC, zD, zE, zF, zG, zH, zI, rowS, ret, id_eq]
        repeat (first
          | refine QV QP ?_ | refine QZ ?_ | refine qcT rfl ?_ | refine qcF rfl ?_ | refine E_blockX ?_ | refine E_blockO rfl ?_
          | refine QV (rr_add64 (r := ((i + 1 : Nat) : Int)) rfl rfl (by omega) (by omega) (by omega)) ?_ | refine QV QS ?_ | refine QV QA ?_ | refine QV QlT ?_
          | refine QV QlF ?_ | refine QV QhT ?_ | refine QV QhF ?_ | refine QV QeT ?_ | refine QV QeF ?_ | refine QV QaA ?_)
        exact E_round (i + 1, xn, tg, i + 1) ⟨by show i + 1 ≤ s.length; omega, by show xn < N.length; omega, Nat.le_refl _, i4⟩ (by show s.length - (i + 1) < s.length - i; omega) (by repeat' (first | exact True.intro | refine And.intro rfl ?_)) rfl
      · rw [if_neg q2] at i4
        repeat (first
          | refine QV QP ?_ | refine QZ ?_ | refine qcT rfl ?_ | refine qcF rfl ?_ | refine E_blockX ?_ | refine E_blockO rfl ?_
          | refine QV (rr_lss (b := false) rfl rfl (decide_eq_false q1)) ?_ | refine QV (rr_load1 TyC.ty rfl (at_blk (i := 0) rfl (pk_tags _ _ _))) ?_
          | refine QV (rr_idxc (j := xn) Und.eq TyC.ty rfl rfl hxt) ?_ | refine QV (rr_load1 (v := .int .i64 tg) TyC.ty rfl (hatT' _)) ?_
          | refine QV (rr_geq (b := false) rfl rfl (decide_eq_false q2)) ?_
          | refine QV (rr_add64 (r := ((i + 1 : Nat) : Int)) rfl rfl (by omega) (by omega) (by omega)) ?_ | refine QV QS ?_ | refine QV QA ?_ | refine QV QlT ?_
          | refine QV QlF ?_ | refine QV QhT ?_ | refine QV QhF ?_ | refine QV QeT ?_ | refine QV QeF ?_ | refine QV QaA ?_)
        exact E_round (i + 1, xn, r, t) ⟨by show i + 1 ≤ s.length; omega, by show xn < N.length; omega, by show t ≤ i + 1; omega, i4⟩ (by show s.length - (i + 1) < s.length - i; omega) (by repeat' (first | exact True.intro | refine And.intro rfl ?_)) rfl
  · rw [List.drop_eq_nil_of_le (by omega)] at i4
    have i4 : (r, t) = fin := i4
    subst i4
    unfold oneA
    by_cases e1 : t = 0
    · subst e1
      rw [if_pos rfl]
      repeat (first
        | refine QV QP ?_ | refine QZ ?_ | refine qcT rfl ?_ | refine qcF rfl ?_ | refine E_blockX ?_ | refine E_blockO rfl ?_
        | refine QV (rr_load1 (v := .int .i64 ((0 : Nat) : Int)) TyC.ty rfl (at_blk (i := 2) rfl rfl)) ?_
        | refine QV (rr_eql (b := true) rfl rfl (decide_eq_true (by simp))) ?_ | refine QV (rr_build rfl hb0) ?_ | refine QV QS ?_ | refine QV QA ?_
        | refine QV QlT ?_ | refine QV QlF ?_ | refine QV QhT ?_ | refine QV QhF ?_ | refine QV QeT ?_ | refine QV QeF ?_ | refine QV QaA ?_)
      refine TL_storeB (i := 1) (cs' := (tokC (0, 0, 0)).toArray) rfl rfl rfl rfl rfl rfl ?_
      conv => arg 8; simp only [zA, zB, zC, zD, zE, zF, zG, zH, zI, rowS, ret, id_eq]
      repeat (first
        | refine QV QP ?_ | refine QZ ?_ | refine qcT rfl ?_ | refine qcF rfl ?_ | refine E_blockX ?_ | refine E_blockO rfl ?_ | refine QV QS ?_
        | refine QV QA ?_ | refine QV QlT ?_ | refine QV QlF ?_ | refine QV QhT ?_ | refine QV QhF ?_ | refine QV QeT ?_ | refine QV QeF ?_ | refine QV QaA ?_)
      exact E_retc2 (i := 1) rfl rfl rfl rfl rfl fun w hm => hm.ret
    · rw [if_neg e1]
      repeat (first
        | refine QV QP ?_ | refine QZ ?_ | refine qcT rfl ?_ | refine qcF rfl ?_ | refine E_blockX ?_ | refine E_blockO rfl ?_
        | refine QV (rr_load1 (v := .int .i64 (t : Int)) TyC.ty rfl (at_blk (i := 2) rfl rfl)) ?_
        | refine QV (rr_eql (b := false) rfl rfl (decide_eq_false (by omega))) ?_ | refine QV (rr_loadB (i := 2) TyC.ty rfl rfl rfl) ?_ | refine QV QS ?_
        | refine QV QA ?_ | refine QV QlT ?_ | refine QV QlF ?_ | refine QV QhT ?_ | refine QV QhF ?_ | refine QV QeT ?_ | refine QV QeF ?_ | refine QV QaA ?_)
      refine TL_storeB (i := 1) (cs' := (tokC (r, fr, t)).toArray) rfl rfl rfl rfl rfl rfl ?_
      conv => arg 8; simp only [zA, zB, zC, zD, zE, zF, zG, zH, zI, rowS, ret, id_eq]
      repeat (first
        | refine QV QP ?_ | refine QZ ?_ | refine qcT rfl ?_ | refine qcF rfl ?_ | refine E_blockX ?_ | refine E_blockO rfl ?_ | refine QV QS ?_
        | refine QV QA ?_ | refine QV QlT ?_ | refine QV QlF ?_ | refine QV QhT ?_ | refine QV QhF ?_ | refine QV QeT ?_ | refine QV QeF ?_ | refine QV QaA ?_)
      exact E_retc2 (i := 1) rfl rfl rfl rfl rfl fun w hm => hm.ret
end Go.Proofs.Ytkmemlnkijinlaa.eng

/- LexB -/
namespace Go.Proofs.Ytkmemlnkijinlaa.eng
open Go.RowKit kit mix smallL lexL
noncomputable def lexA (o : Of) (N : List (List Int)) (tags : List Int) (s : List UInt8) : List Tok × Nat × Int := if chkP o N tags ≠ 0 then ([], 0, chkP o N tags) else if 2000 < s.length then ([], 0, 2) else lexF o N tags s
theorem lexA_ok {o : Of} {N : List (List Int)} {tags : List Int} {s : List UInt8} (h : chkP o N tags = 0) (hs : s.length ≤ 2000) : lexA o N tags s = lexF o N tags s := by
  unfold lexA; rw [if_neg (by simpa using h), if_neg (by omega)]
abbrev toksO (v : Value) (l : List Tok) : Own := rowO 36 3 v l.length (l.flatMap tokC)
def lexS (R : List Tok × Nat × Int) : Spec Value := ⟨fun _ => True, fun v => .tuple #[v, .int .i64 (R.2.1 : Int), .int .i64 R.2.2], fun v => [toksO v R.1]⟩
theorem toks_snoc (v : Value) (l : List Tok) (x : Tok) : toksO v (l ++ [x]) = rowO 36 3 v (l.length + 1) (l.flatMap tokC ++ tokC x) := by
  unfold toksO; rw [List.length_append, List.flatMap_append]; simp
theorem tok_one (t : Tok) : ∀ u ∈ tokC t, u.oneCell' = true := by
  intro u h
  simp only [tokC, List.mem_cons, List.not_mem_nil, or_false] at h
  rcases h with rfl | rfl | rfl <;> rfl
set_option maxHeartbeats 8000000 in
theorem lex_calls (o : Of) (vn vt : Value) (N : List (List Int)) (tags : List Int) (s : List UInt8) (w : World) (h : PkI w vn vt N tags) (ho : ∀ b (h : b < 256), o[b] < 256) (hs : s.length ≤ 9223372036854775807) :
    Calls Try.prog 7 #[pkV o vn vt, str s] w (Meets (lexS (lexA o N tags s)) w) := by
  have hck := fun w' (hg : Gr w w') => lexCheck_calls o vn vt N tags s w' (h.gr hg) ho hs
  have hone := fun hg hs (fr : Nat) hf w' (hg' : Gr w w') => lexOne_calls o vn vt N tags s fr w' (h.gr hg') hg hs hf
  have hA0 := fun h => lexA_ok (o := o) (N := N) (tags := tags) (s := s) h
  obtain ⟨⟨an, cn, rfl, -⟩, at', ct, rfl, -⟩ := h
  by_cases c1 : chkP o N tags = 0
  case neg =>
    have hA : lexA o N tags s = ([], 0, chkP o N tags) := if_pos c1
    rw [if_pos c1] at hck
    rw [hA]
    clear hA0 hA hone
    generalize chkP o N tags = e at *
    refine enter (args := [pkV o (.slice an N.length cn) (.slice at' tags.length ct), str s]) (n := 40) Try.func7 rfl rfl rfl ?_
    refine T_seq (T_region (TL_box rfl rfl rfl fun g2 => ?_))
    conv => arg 8; simp only [zA, zB, zC, zD, zE, zF, zG, zH, zI, rowS, ret, id_eq]
    repeat (first
      | refine QV QP ?_ | refine QZ ?_ | refine qcT rfl ?_ | refine qcF rfl ?_ | refine E_blockX ?_ | refine E_blockO rfl ?_
      | refine QV (rr_loadB (i := 0) TyC.ty rfl rfl (pk_size _ _ _)) ?_ | refine QV QS ?_ | refine QV QA ?_ | refine QV (rr_not rfl rfl) ?_ | refine QV QlT ?_
      | refine QV QlF ?_ | refine QV QnT ?_ | refine QV QnF ?_)
    refine TL_call (he2 EntersC.en rfl rfl rfl) (fun w hm => hck _ hm.below) rfl rfl rfl ?_
    intro _ _
    conv => arg 8; simp only [zA, zB, zC, zD, zE, zF, zG, zH, zI, rowS, ret, id_eq]
    repeat (first
      | refine QV QP ?_ | refine QZ ?_ | refine qcT rfl ?_ | refine qcF rfl ?_ | refine E_blockX ?_ | refine E_blockO rfl ?_
      | refine QV (rr_neq (b := true) rfl rfl (decide_eq_true c1)) ?_ | refine QV QS ?_ | refine QV QA ?_ | refine QV (rr_not rfl rfl) ?_ | refine QV QlT ?_
      | refine QV QlF ?_ | refine QV QnT ?_ | refine QV QnF ?_)
    refine E_nilrow 36 3 ?_
    exact E_ret3 rfl rfl rfl rfl fun w hm => hm.meets (S := lexS ([], 0, e)) (.slice none 0 0) trivial [1] (by decide) rfl
  by_cases c2 : 2000 < s.length
  · have hA : lexA o N tags s = ([], 0, 2) := by unfold lexA; rw [if_neg (by simpa using c1), if_pos c2]
    rw [if_neg (by simpa using c1), if_pos c2] at hck
    rw [hA]
    clear hA0 hA hone
    refine enter (args := [pkV o (.slice an N.length cn) (.slice at' tags.length ct), str s]) (n := 40) Try.func7 rfl rfl rfl ?_
    refine T_seq (T_region (TL_box rfl rfl rfl fun g2 => ?_))
    conv => arg 8; simp only [zA, zB, zC, zD, zE, zF, zG, zH, zI, rowS, ret, id_eq]
    repeat (first
      | refine QV QP ?_ | refine QZ ?_ | refine qcT rfl ?_ | refine qcF rfl ?_ | refine E_blockX ?_ | refine E_blockO rfl ?_
      | refine QV (rr_loadB (i := 0) TyC.ty rfl rfl (pk_size _ _ _)) ?_ | refine QV QS ?_ | refine QV QA ?_ | refine QV (rr_not rfl rfl) ?_ | refine QV QlT ?_
      | refine QV QlF ?_ | refine QV QnT ?_ | refine QV QnF ?_)
    refine TL_call (he2 EntersC.en rfl rfl rfl) (fun w hm => hck _ hm.below) rfl rfl rfl ?_
    intro _ _
    conv => arg 8; simp only [zA, zB, zC, zD, zE, zF, zG, zH, zI, rowS, ret, id_eq]
    repeat (first
      | refine QV QP ?_ | refine QZ ?_ | refine qcT rfl ?_ | refine qcF rfl ?_ | refine E_blockX ?_ | refine E_blockO rfl ?_
      | refine QV (rr_neq (b := true) rfl rfl (decide_eq_true (by decide))) ?_ | refine QV QS ?_ | refine QV QA ?_ | refine QV (rr_not rfl rfl) ?_
      | refine QV QlT ?_ | refine QV QlF ?_ | refine QV QnT ?_ | refine QV QnF ?_)
    refine E_nilrow 36 3 ?_
    exact E_ret3 rfl rfl rfl rfl fun w hm => hm.meets (S := lexS ([], 0, 2)) (.slice none 0 0) trivial [1] (by decide) rfl
  rw [if_neg (by simpa using c1), if_neg c2] at hck
  have hone := hone (chkP_good c1) (by omega)
  rw [hA0 c1 (by omega)]
  unfold lexF
  clear hA0 c1
  refine enter (args := [pkV o (.slice an N.length cn) (.slice at' tags.length ct), str s]) (n := 40) Try.func7 rfl rfl rfl ?_
  refine T_seq (T_region (TL_box rfl rfl rfl fun g2 => ?_))
  conv => arg 8; simp only [zA, zB, zC, zD, zE, zF, zG, zH, zI, rowS, ret, id_eq]
  repeat (first
    | refine QV QP ?_ | refine QZ ?_ | refine qcT rfl ?_ | refine qcF rfl ?_ | refine E_blockX ?_ | refine E_blockO rfl ?_
    | refine QV (rr_loadB (i := 0) TyC.ty rfl rfl (pk_size _ _ _)) ?_ | refine QV QS ?_ | refine QV QA ?_ | refine QV (rr_not rfl rfl) ?_ | refine QV QlT ?_
    | refine QV QlF ?_ | refine QV QnT ?_ | refine QV QnF ?_)
  refine TL_call (he2 EntersC.en rfl rfl rfl) (fun w hm => hck _ hm.below) rfl rfl rfl ?_
  intro _ _
  conv => arg 8; simp only [zA, zB, zC, zD, zE, zF, zG, zH, zI, rowS, ret, id_eq]
  clear hck
  repeat (first
    | refine QV QP ?_ | refine QZ ?_ | refine qcT rfl ?_ | refine qcF rfl ?_ | refine E_blockX ?_ | refine E_blockO rfl ?_
    | refine QV (rr_neq (b := false) rfl rfl (decide_eq_false (by simp))) ?_ | refine QV QS ?_ | refine QV QA ?_ | refine QV (rr_not rfl rfl) ?_
    | refine QV QlT ?_ | refine QV QlF ?_ | refine QV QnT ?_ | refine QV QnF ?_)
  refine T_nil 36 3 ?_
  generalize hfin : lexGo o N tags s (s.length + 1) 0 = fin
  refine T_loop (ι := Nat × List Tok × Value × Nat) (fun (a, l, _, f) => a ≤ s.length ∧ l.length ≤ a ∧ s.length < a + f ∧ fin = (l ++ (lexGo o N tags s f a).1, (lexGo o N tags s f a).2)) (fun (a, _, v, _) => [(1, str s), (2, .pointer (some ⟨g2, 0, none⟩)), (8, v), (9, .int .i64 (a : Int))])
    (fun (_, l, v, _) => [blkO g2 (pkC o (.slice an N.length cn) (.slice at' tags.length ct)).toArray 26, toksO v l]) (fun (a, _, _, _) => s.length - a) (0, [], .slice none 0 0, s.length + 1) ⟨Nat.zero_le _, Nat.zero_le _, by omega, by rw [hfin]; rfl⟩ (by repeat' (first | exact True.intro | refine And.intro rfl ?_)) rfl ?_
  clear hfin
  rintro ⟨a, l, v, f⟩ ⟨i1, i2, i3, i4⟩
  dsimp only at i1 i2 i3 i4 ⊢
  by_cases c1 : a < s.length
  · obtain ⟨f, rfl⟩ : ∃ f', f = f' + 1 := ⟨f - 1, by omega⟩
    rw [lexGo_succ, if_pos c1] at i4
    have ht := oneF_to (o := o) (N := N) (tags := tags) (s := s) (fr := a) (by omega)
    have hone := hone a (by omega)
    generalize oneF o N tags s a = x at *
    obtain ⟨r, t⟩ := x
    dsimp only at i4 ht
    unfold oneA at hone
    by_cases q1 : t = 0
    · subst q1
      rw [if_pos rfl] at i4 hone
      subst i4
      repeat (first
        | refine QV QP ?_ | refine QZ ?_ | refine qcT rfl ?_ | refine qcF rfl ?_ | refine E_blockX ?_ | refine E_blockO rfl ?_
        | refine QV (rr_loadB (i := 0) TyC.ty rfl rfl (pk_size _ _ _)) ?_ | refine QV QS ?_ | refine QV QA ?_ | refine QV (rr_not rfl rfl) ?_ | refine QV QlT ?_
        | refine QV QlF ?_ | refine QV QnT ?_ | refine QV QnF ?_)
      refine TL_call (he3 EntersC.en rfl rfl rfl rfl) (fun w hm => hone _ hm.below) rfl rfl rfl ?_
      intro _ _
      conv => arg 8; simp only [zA, zB, zC, zD, zE, zF, zG, zH, zI, rowS, ret, id_eq]
      repeat (first
        | refine QV QP ?_ | refine QZ ?_ | refine qcT rfl ?_ | refine qcF rfl ?_ | refine E_blockX ?_ | refine E_blockO rfl ?_ | refine QV QS ?_
        | refine QV QA ?_ | refine QV (rr_not rfl rfl) ?_ | refine QV QlT ?_ | refine QV QlF ?_ | refine QV QnT ?_ | refine QV QnF ?_)
      refine TL_new rfl fun g10 => ?_
      conv => arg 8; simp only [zA, zB, zC, zD, zE, zF, zG, zH, zI, rowS, ret, id_eq]
      refine TL_storeB (i := 2) (cs' := (tokC (0, 0, 0)).toArray) rfl rfl rfl rfl rfl rfl ?_
      conv => arg 8; simp only [zA, zB, zC, zD, zE, zF, zG, zH, zI, rowS, ret, id_eq]
      repeat (first
        | refine QV QP ?_ | refine QZ ?_ | refine qcT rfl ?_ | refine qcF rfl ?_ | refine E_blockX ?_ | refine E_blockO rfl ?_ | refine QV QS ?_
        | refine QV QA ?_ | refine QV (rr_not rfl rfl) ?_ | refine QV QlT ?_ | refine QV QlF ?_ | refine QV QnT ?_ | refine QV QnF ?_)
      exact E_ret3 rfl rfl rfl rfl fun w hm => hm.meets (S := lexS (l ++ [], a, 9)) v trivial [1] (by decide) (by unfold lexS; simp)
    · rw [if_neg q1] at i4 hone
      dsimp only at hone
      have ht := ht.resolve_left q1
      repeat (first
        | refine QV QP ?_ | refine QZ ?_ | refine qcT rfl ?_ | refine qcF rfl ?_ | refine E_blockX ?_ | refine E_blockO rfl ?_
        | refine QV (rr_loadB (i := 0) TyC.ty rfl rfl (pk_size _ _ _)) ?_ | refine QV QS ?_ | refine QV QA ?_ | refine QV (rr_not rfl rfl) ?_ | refine QV QlT ?_
        | refine QV QlF ?_ | refine QV QnT ?_ | refine QV QnF ?_)
      refine TL_call (he3 EntersC.en rfl rfl rfl rfl) (fun w hm => hone _ hm.below) rfl rfl rfl ?_
      intro _ _
      conv => arg 8; simp only [zA, zB, zC, zD, zE, zF, zG, zH, zI, rowS, ret, id_eq]
      repeat (first
        | refine QV QP ?_ | refine QZ ?_ | refine qcT rfl ?_ | refine qcF rfl ?_ | refine E_blockX ?_ | refine E_blockO rfl ?_ | refine QV QS ?_
        | refine QV QA ?_ | refine QV (rr_not rfl rfl) ?_ | refine QV QlT ?_ | refine QV QlF ?_ | refine QV QnT ?_ | refine QV QnF ?_)
      refine TL_new rfl fun g10 => ?_
      conv => arg 8; simp only [zA, zB, zC, zD, zE, zF, zG, zH, zI, rowS, ret, id_eq]
      refine TL_storeB (i := 2) (cs' := (tokC (r, a, t)).toArray) rfl rfl rfl rfl rfl rfl ?_
      conv => arg 8; simp only [zA, zB, zC, zD, zE, zF, zG, zH, zI, rowS, ret, id_eq]
      repeat (first
        | refine QV QP ?_ | refine QZ ?_ | refine qcT rfl ?_ | refine qcF rfl ?_ | refine E_blockX ?_ | refine E_blockO rfl ?_ | refine QV QS ?_
        | refine QV QA ?_ | refine QV (rr_not rfl rfl) ?_ | refine QV QlT ?_ | refine QV QlF ?_ | refine QV QnT ?_ | refine QV QnF ?_)
      refine T_ord ([blkO g10 (tokC (r, a, t)).toArray 36]) (.calm 0 (.calm 1 (.calm 4 (.calm 5 (.one 2 (.one 3 (.calm 6 (.calm 7 (.done))))))))) (sub_pick [2] (by decide) rfl) (by kernel_rfl) (by kernel_rfl) (by intro c a d v w h; cases d <;> exact h) ?_
      repeat (first
        | ((first | refine TW_plain rfl rfl ?_ | refine TW_gmet rfl rfl rfl rfl ?_); first | refine QW QP ?_ | refine QW (rr_loadB (i := 0) TyC.ty rfl rfl rfl) ?_ | refine QW (rr_load1 (v := .int .i64 (t : Int)) TyC.ty rfl (at_blk (i := 0) rfl rfl)) ?_ | refine QW QS ?_ | refine QW QA ?_ | refine QW (rr_not rfl rfl) ?_ | refine QW QlT ?_ | refine QW QlF ?_ | refine QW QnT ?_ | refine QW QnF ?_)
        | refine TW_done ?_)
      refine TW_one rfl (TL_litN (cs := (tokC (r, a, t)).toArray) [.agg (tokC (r, a, t)).toArray] rfl rfl rfl (by intro v hv; simp at hv; subst hv; rfl) rfl rfl rfl fun g35 => (TW_on (sub_pick [2] (by decide) rfl) ?_))
      refine TW_one rfl (TL_appSl (i := 1) (e := 36) (size := 3) (bytes := 24) (m := l.length) (xs := l.flatMap tokC) (k := 1) (ys := tokC (r, a, t)) rfl (sl_blk (i := 3) rfl (fun j u h => by simpa using h) (Nat.le_refl 1) (by decide)) rfl rfl rfl (fun u hu => tok_one _ u hu) (by omega) (by omega) rfl fun v' => (TW_on (sub_pick [2] (by decide) rfl) ?_))
      repeat (first
        | ((first | refine TW_plain rfl rfl ?_ | refine TW_gmet rfl rfl rfl rfl ?_); first | refine QW QP ?_ | refine QW QS ?_ | refine QW QA ?_ | refine QW (rr_not rfl rfl) ?_ | refine QW QlT ?_ | refine QW QlF ?_ | refine QW QnT ?_ | refine QW QnF ?_)
        | refine TW_done ?_)
      repeat (first
        | refine QV QP ?_ | refine QZ ?_ | refine qcT rfl ?_ | refine qcF rfl ?_ | refine E_blockX ?_ | refine E_blockO rfl ?_ | refine QV QS ?_
        | refine QV QA ?_ | refine QV (rr_not rfl rfl) ?_ | refine QV QlT ?_ | refine QV QlF ?_ | refine QV QnT ?_ | refine QV QnF ?_)
      refine E_pick [0, 1] (by decide) rfl ?_
      exact E_round (t, l ++ [(r, a, t)], v', f) ⟨ht.2, by show (l ++ [_]).length ≤ t; rw [List.length_append, List.length_singleton]; omega, by show s.length < t + f; omega, by rw [i4]; simp⟩ (by show s.length - t < s.length - a; omega) (by repeat' (first | exact True.intro | refine And.intro rfl ?_)) (by dsimp only; rw [toks_snoc]; rfl)
  · have e : lexGo o N tags s f a = ([], 0, 0) := by
      cases f with
      | zero => rfl
      | succ f => rw [lexGo_succ, if_neg c1]
    rw [e] at i4
    subst i4
    repeat (first
      | refine QV QP ?_ | refine QZ ?_ | refine qcT rfl ?_ | refine qcF rfl ?_ | refine E_blockX ?_ | refine E_blockO rfl ?_ | refine QV QS ?_
      | refine QV QA ?_ | refine QV (rr_not rfl rfl) ?_ | refine QV QlT ?_ | refine QV QlF ?_ | refine QV QnT ?_ | refine QV QnF ?_)
    exact E_ret3 rfl rfl rfl rfl fun w hm => hm.meets (S := lexS (l ++ [], 0, 0)) v trivial [1] (by decide) (by unfold lexS; simp)
end Go.Proofs.Ytkmemlnkijinlaa.eng

/- SmBk -/
namespace Go.Proofs.Ytkmemlnkijinlaa.eng
open Go.RowKit kit mix dfaL smallL
theorem pkR_len (R : List Row) : (pkR R).length = R.length := by unfold pkR; simp
theorem pkR_get (R : List Row) {i : Nat} (h : i < R.length) : (pkR R)[i]'(by rw [pkR_len]; exact h) = nxL (pkD R 256) i := by unfold pkR; simp
theorem nxL_get (D : List Col) (i : Nat) {j : Nat} (h : j < D.length) : (nxL D i).getD j 0 = (D[j]).toList.getD i 0 := by
  unfold nxL
  rw [List.getD_eq_getElem?_getD, List.getElem?_map, List.getElem?_eq_getElem h]; rfl
theorem pk_cell (R : List Row) (hle : R.length ≤ 200) {i b : Nat} (hi : i < R.length) (hb : b < 256) : (nxL (pkD R 256) i).getD (pkN R b) 0 = cellF R i b := by
  have hm := pkD_mem R hb
  unfold pkN
  generalize pkD R 256 = D at *
  rw [nxL_get _ _ (idx_lt hm), idx_get (idx_lt hm), colF_get R b i hi hle]
theorem unR_get (o : Of) (N : List (List Int)) {i : Nat} (h : i < N.length) : (unR o N)[i]'(by rw [unR_len]; exact h) = Vector.ofFn fun b : Fin 256 => N[i].getD o[b] 0 := by
  unfold unR
  rw [List.getElem_map]
theorem un_pk (R : List Row) (hle : R.length ≤ 200) : unR (ofS R 256) (pkR R) = R := by
  refine List.ext_getElem (by rw [unR_len, pkR_len]) fun i h1 h2 => ?_
  have hi : i < R.length := h2
  rw [unR_get _ _ (by rw [pkR_len]; exact hi), pkR_get R hi]
  refine Vector.ext fun b hb => ?_
  rw [Vector.getElem_ofFn]
  have e : (ofS R 256)[b]'hb = pkN R b := by
    unfold ofS
    rw [Vector.getElem_ofFn]; simp [hb]
  show (nxL (pkD R 256) i).getD ((ofS R 256)[b]'hb) 0 = _
  rw [e, pk_cell R hle hi hb, cell_get hi hb]
theorem pkD_all {R : List Row} {c : Col} (h : c ∈ pkD R 256) : ∃ b, b < 256 ∧ c = colF R b := by
  unfold pkD at h
  rcases mem_firsts.1 h with h | h
  · cases h
  · obtain ⟨b, hb, rfl⟩ := List.mem_map.1 h
    exact ⟨b, by simpa using hb, rfl⟩
theorem nx_rng {R : List Row} {tags : List Int} (h : chk R tags = 0) {i : Nat} (hi : i < R.length) {x : Int} (hx : x ∈ nxL (pkD R 256) i) : -1 ≤ x ∧ x < R.length := by
  obtain ⟨hA, _⟩ := chk_ok h
  unfold nxL at hx
  obtain ⟨c, hc, rfl⟩ := List.mem_map.1 hx
  obtain ⟨b, hb, rfl⟩ := pkD_all hc
  rw [colF_get R b i hi hA.le, cell_get hi hb]
  have := hA.step i hi b hb
  rw [aut_d hi hb] at this
  exact this
theorem pk_ok {R : List Row} {tags : List Int} (h : chk R tags = 0) : PkOk (ofS R 256) (pkR R) tags (pkD R 256).length := by
  obtain ⟨hA, hl⟩ := chk_ok h
  have hle : R.length ≤ 200 := hA.le
  refine ⟨by rw [pkR_len]; exact hA.pos, by rw [pkR_len]; exact hle, by rw [pkR_len]; exact hl, List.length_pos_of_mem (pkD_mem R (show 0 < 256 by decide)), pkD_len R 256, fun i hi => ?_, fun i hi => ?_, fun i hi j hj => ?_, fun b hb => ?_⟩
  · rw [pkR_len] at hi
    rw [pkR_get R hi]
    unfold nxL; rw [List.length_map]
  · have := hA.tags i (show i < R.length by omega)
    rw [aut_tag hi] at this
    exact this
  · have hi' : i < R.length := by rw [pkR_len] at hi; exact hi
    have e := pkR_get R hi'
    have hx : (pkR R)[i][j] ∈ nxL (pkD R 256) i := e ▸ List.getElem_mem hj
    rw [pkR_len]
    exact nx_rng h hi' hx
  · have e : (ofS R 256)[b]'hb = pkN R b := by
      unfold ofS
      rw [Vector.getElem_ofFn]; simp [hb]
    rw [e]
    exact pkN_lt R hb
end Go.Proofs.Ytkmemlnkijinlaa.eng

