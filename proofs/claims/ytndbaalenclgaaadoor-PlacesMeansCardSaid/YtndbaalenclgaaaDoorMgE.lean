/- Part 5 of what PlacesMeans needs: PlP, PlacesS, PlK, PlT, PlTs, PlX, CopyA, PlY, PlacesG, PlacesH, PmM, PlacesMeansW. -/
import Derived.Test.YtndbaalenclgaaaDoorMgD
import Derived.WalkKit
import Derived.WalkSpells
import Derived.WalkLawsBesides
import Derived.Deep.RegionLaw
import Derived.Deep.AppendLies
import Derived.Deep.QuietTactic
import Derived.BigQuiet
import Derived.Deep.DeepCutAuto
import Derived.Lib.Hide
import Derived.Test.YtndbaalenclgaaaDoorRows
import Derived.ProofKit
import Derived.OpenShut
import Derived.ShutString
import Derived.SizedLaws
import Derived.JoinedCond
import Derived.Deep.CondSized
import Derived.Deep.Quiet
import Derived.StillTail
import Derived.Deep.LoopGhost
import Derived.Laws.BitsLemmas
import Derived.Laws.BytesString
import Derived.Test.YtndbaalenclgaaaDoorProg
import Derived.Laws.Entries
import Derived.Laws.BitsAllLaws
import Derived.Laws.StructEq
import Derived.ChangeKeysEq
import Derived.Lib.TrailingZeros
import Derived.Laws.MakeOwn
import Derived.Laws.AppendOwn
import Derived.Laws.Bits64b
import Derived.Handed
import Derived.Lay
import Derived.Lib.LaidTab
import Derived.MakeChecks
import Derived.Maps.OwnSet
import Derived.DeepKeys4
import Derived.WideKeyEntry
import Derived.Shelf.Sort.Plain
import Derived.Ground.Names2Prog
import Derived.Shelf.Slices.CompactI
import Derived.Shelf.Slices.In.SortNone
import Derived.Lib.RowBridge
import Derived.Lib.SlicesCompact
import Derived.Laws.CopyRow
/- PlP -/
namespace Go.Proofs.YtndbaalenclgaaaDoor.eng
open Go.RowKit kit mix classL rexL placesL
theorem boC_flat (l : List Bool) : l.flatMap boC = l.map Value.bool := bool_flat l
theorem posR_of {w : World} {x : PIx} {m : MS} (hl : x.vs.length = m.ps.follow.length) (h0 : (rowO 34 4 x.vc m.ps.classes.length (m.ps.classes.flatMap clsL)).holds w) (h1 : (intR x.vr m.ps.rules).holds w) (h2 : (intR x.vf m.first).holds w) (h3 : (folR x.vfol x.vs).holds w) (h4 : (folE x.F x.vs m.ps.follow).holds w)
    (h5 : (rowO 4 1 x.vl m.ps.last.length (m.ps.last.map Value.bool)).holds w) (h6 : (rowO 4 1 x.ve m.empty.length (m.empty.map Value.bool)).holds w) : PosR w (.agg (posC x)) m := by
  refine ⟨_, _, _, _, _, _, rfl, Sl.of_own h0, ?_, ?_, pos_slf h3 h4 hl, ?_, ?_⟩
  · rw [int_flat]; exact Sl.of_own h1
  · rw [int_flat]; exact Sl.of_own h2
  · rw [boC_flat]; exact Sl.of_own h5
  · rw [boC_flat]; exact Sl.of_own h6
theorem Mem.posR {w : World} {B : Base} {L : List Own} {x : PIx} {m : MS} (i : Nat) (hm : Mem B L w) (hl : x.vs.length = m.ps.follow.length) (h : posL x m = [i, i + 1, i + 2, i + 3, i + 4, i + 5, i + 6].filterMap fun j => L[j]?) (hlen : i + 6 < L.length) : PosR w (.agg (posC x)) m := by
  have g : ∀ j, j < 7 → ∃ o, L[i + j]? = some o ∧ (posL x m)[j]? = some o := by
    intro j hj
    have e : ∀ k, k < 7 → ∃ o, L[i + k]? = some o := fun k hk => ⟨_, List.getElem?_eq_getElem (by omega)⟩
    rw [h]
    obtain ⟨o0, e0⟩ : ∃ o, L[i]? = some o := e 0 (by omega)
    obtain ⟨o1, e1⟩ := e 1 (by omega)
    obtain ⟨o2, e2⟩ := e 2 (by omega)
    obtain ⟨o3, e3⟩ := e 3 (by omega)
    obtain ⟨o4, e4⟩ := e 4 (by omega)
    obtain ⟨o5, e5⟩ := e 5 (by omega)
    obtain ⟨o6, e6⟩ := e 6 (by omega)
    simp only [List.filterMap_cons, e0, e1, e2, e3, e4, e5, e6, List.filterMap_nil]
    match j, hj with
    | 0, _ => exact ⟨_, e0, rfl⟩
    | 1, _ => exact ⟨_, e1, rfl⟩
    | 2, _ => exact ⟨_, e2, rfl⟩
    | 3, _ => exact ⟨_, e3, rfl⟩
    | 4, _ => exact ⟨_, e4, rfl⟩
    | 5, _ => exact ⟨_, e5, rfl⟩
    | 6, _ => exact ⟨_, e6, rfl⟩
  have k : ∀ j o, j < 7 → (posL x m)[j]? = some o → o.holds w := fun j o hj ho => by
    obtain ⟨o', h1, h2⟩ := g j hj
    rw [h2] at ho
    cases ho
    exact hm.get h1
  exact posR_of hl (k 0 _ (by omega) rfl) (k 1 _ (by omega) rfl) (k 2 _ (by omega) rfl) (k 3 _ (by omega) rfl) (k 4 _ (by omega) rfl) (k 5 _ (by omega) rfl) (k 6 _ (by omega) rfl)
end Go.Proofs.YtndbaalenclgaaaDoor.eng

/- PlacesS -/
namespace Go.Proofs.YtndbaalenclgaaaDoor.placesL
open classL rexL
def markB (cl : List C4) (b : Nat) (ins : List Bool) (l : List Int) : List Bool := l.foldl (fun ins x => ins.set x.toNat (ins.getD x.toNat false || (cl.getD x.toNat C4.zero).mem b)) ins
def insF (p : PS) (first now : List Int) (isF : Bool) (b : Nat) : List Bool :=
  now.foldl (fun ins x => markB p.classes b ins (p.follow.getD x.toNat [])) (if isF then markB p.classes b (List.replicate 200 false) first else List.replicate 200 false)
/-- the numbers up to k of those that are set -/
def truesTo (l : List Bool) (k : Nat) : List Int := ((List.range k).filter fun i => l.getD i false).map Int.ofNat
def stepP (m : MS) (now : List Int) (isF : Bool) (b : Nat) : List Int := truesTo (insF m.ps m.first now isF b) 200
def runP (m : MS) : List UInt8 → List Int
  | [] => []
  | b :: s => s.foldl (fun now b => stepP m now false b.toNat) (stepP m [] true b.toNat)
def doneF (p : PS) (d : List Bool) (now : List Int) : List Bool :=
  now.foldl (fun d x => d.set (p.rules.getD x.toNat 0).toNat (d.getD (p.rules.getD x.toNat 0).toNat false || p.last.getD x.toNat false)) d
def rulesP (m : MS) (s : List UInt8) : List Int :=
  truesTo (doneF m.ps (if s = [] then m.empty ++ List.replicate (20 - m.empty.length) false else List.replicate 20 false) (runP m s)) 20
/-- what a Posn is when Make made it -/
structure MOkP (m : MS) : Prop where
  ok : MSOk m
  rules : ∀ r ∈ m.ps.rules, 0 ≤ r ∧ r < m.empty.length
  few : m.ps.classes.length ≤ 200
  some : 0 < m.empty.length
  most : m.empty.length ≤ 20
theorem markB_len (cl : List C4) (b : Nat) (ins : List Bool) (l : List Int) : (markB cl b ins l).length = ins.length := by
  unfold markB
  induction l generalizing ins with
  | nil => rfl
  | cons x r ih => rw [List.foldl_cons, ih, List.length_set]
theorem markB_step (cl : List C4) (b : Nat) (ins : List Bool) (l : List Int) {k : Nat} (hk : k < l.length) :
    markB cl b ins (l.take (k + 1)) = (markB cl b ins (l.take k)).set l[k].toNat ((markB cl b ins (l.take k)).getD l[k].toNat false || (cl.getD l[k].toNat C4.zero).mem b) := by
  unfold markB
  rw [List.take_succ_eq_append_getElem hk, List.foldl_append]; rfl
theorem insF_len (p : PS) (first now : List Int) (isF : Bool) (b : Nat) : (insF p first now isF b).length = 200 := by
  unfold insF
  have h0 : (if isF then markB p.classes b (List.replicate 200 false) first else List.replicate 200 false).length = 200 := by
    split
    · rw [markB_len, List.length_replicate]
    · rw [List.length_replicate]
  generalize (if isF then markB p.classes b (List.replicate 200 false) first else List.replicate 200 false) = ins at h0
  induction now generalizing ins with
  | nil => exact h0
  | cons x r ih => rw [List.foldl_cons]; exact ih _ (by rw [markB_len]; exact h0)
theorem insF_step (p : PS) (first now : List Int) (isF : Bool) (b : Nat) {k : Nat} (hk : k < now.length) :
    insF p first (now.take (k + 1)) isF b = markB p.classes b (insF p first (now.take k) isF b) (p.follow.getD now[k].toNat []) := by
  unfold insF
  rw [List.take_succ_eq_append_getElem hk, List.foldl_append]; rfl
theorem trues_succ (l : List Bool) (k : Nat) : truesTo l (k + 1) = truesTo l k ++ (if l.getD k false then [(k : Int)] else []) := by
  unfold truesTo
  rw [List.range_succ, List.filter_append, List.map_append]
  congr 1
  by_cases c : l.getD k false = true
  · rw [List.filter_cons_of_pos (p := fun i => l.getD i false) c, if_pos c]; rfl
  · rw [List.filter_cons_of_neg (p := fun i => l.getD i false) c, if_neg c]; rfl
theorem trues_mem {l : List Bool} {k : Nat} {x : Int} : x ∈ truesTo l k ↔ ∃ i : Nat, x = i ∧ i < k ∧ l.getD i false = true := by
  unfold truesTo
  rw [List.mem_map]
  constructor
  · rintro ⟨i, h, rfl⟩
    rw [List.mem_filter, List.mem_range] at h
    exact ⟨i, rfl, h.1, h.2⟩
  · rintro ⟨i, rfl, h1, h2⟩
    exact ⟨i, by rw [List.mem_filter, List.mem_range]; exact ⟨h1, h2⟩, rfl⟩
theorem trues_rising (l : List Bool) (k : Nat) : (truesTo l k).Pairwise (· < ·) := by
  unfold truesTo
  rw [List.pairwise_map]
  exact (List.pairwise_lt_range.filter _).imp fun h => Int.ofNat_lt.2 h
theorem trues_ris (l : List Bool) (k : Nat) : Ris k (truesTo l k) :=
  ⟨trues_rising l k, fun x hx => by obtain ⟨i, rfl, h, _⟩ := trues_mem.1 hx; omega⟩
theorem trues_len (l : List Bool) (k : Nat) : (truesTo l k).length ≤ k := ris_len (trues_ris l k)
theorem set_getD {α : Type} {l : List α} {i j : Nat} {a d : α} : (l.set i a).getD j d = if i = j ∧ j < l.length then a else l.getD j d := by
  rw [List.getD_eq_getElem?_getD, List.getD_eq_getElem?_getD, List.getElem?_set]
  by_cases c : i = j
  · subst c
    by_cases c2 : i < l.length
    · simp [c2]
    · rw [if_pos rfl, if_neg c2, if_neg (fun h => c2 h.2), List.getElem?_eq_none (by omega)]
  · rw [if_neg c, if_neg (fun h => c h.1)]
/-- what is marked -/
theorem markB_get (cl : List C4) (b : Nat) : ∀ (l : List Int) (ins : List Bool) (j : Nat), (∀ x ∈ l, 0 ≤ x ∧ x < ins.length) → ((markB cl b ins l).getD j false = true ↔ ins.getD j false = true ∨ ((j : Int) ∈ l ∧ (cl.getD j C4.zero).mem b = true))
  | [], ins, j, _ => ⟨.inl, fun h => h.elim id fun h => by cases h.1⟩
  | x :: l, ins, j, h => by
    have hx := h x (List.mem_cons_self ..)
    show (markB cl b (ins.set x.toNat _) l).getD j false = true ↔ _
    rw [markB_get cl b l _ j (fun y hy => by rw [List.length_set]; exact h y (List.mem_cons_of_mem _ hy)), set_getD]
    by_cases c : x.toNat = j ∧ j < ins.length
    · rw [if_pos c, Bool.or_eq_true, c.1]
      have hxj : (j : Int) = x := by omega
      constructor
      · rintro ((h1 | h1) | ⟨h1, h2⟩)
        · exact .inl h1
        · exact .inr ⟨by rw [hxj]; exact List.mem_cons_self .., h1⟩
        · exact .inr ⟨List.mem_cons_of_mem _ h1, h2⟩
      · rintro (h1 | ⟨_, h2⟩)
        · exact .inl (.inl h1)
        · exact .inl (.inr h2)
    · rw [if_neg c]
      have hne : (j : Int) ≠ x := fun e => c ⟨by omega, by omega⟩
      constructor
      · rintro (h1 | ⟨h1, h2⟩)
        · exact .inl h1
        · exact .inr ⟨List.mem_cons_of_mem _ h1, h2⟩
      · rintro (h1 | ⟨h1, h2⟩)
        · exact .inl h1
        · rcases List.mem_cons.1 h1 with e | e
          · exact absurd e hne
          · exact .inr ⟨e, h2⟩
theorem run_step (m : MS) (s : List UInt8) {k : Nat} (hk : k < s.length) : runP m (s.take (k + 1)) = stepP m (runP m (s.take k)) (k == 0) s[k].toNat := by
  cases s with
  | nil => cases hk
  | cons b s =>
    cases k with
    | zero => rfl
    | succ k =>
      have hk' : k < s.length := by simpa using hk
      show (s.take (k + 1)).foldl _ _ = stepP m ((s.take k).foldl _ _) _ _
      rw [List.take_succ_eq_append_getElem hk', List.foldl_append]; rfl
theorem insF_in {m : MS} (h : MOkP m) (now : List Int) (isF : Bool) (b : Nat) {j : Nat} (hj : (insF m.ps m.first now isF b).getD j false = true) : j < m.ps.classes.length := by
  have hf : ∀ x : Int, ∀ y ∈ m.ps.follow.getD x.toNat [], 0 ≤ y ∧ y < m.ps.classes.length := fun x y hy => by
    by_cases c : x.toNat < m.ps.follow.length
    · rw [List.getD_eq_getElem?_getD, List.getElem?_eq_getElem c] at hy
      exact (h.ok.ps.ris _ (List.getElem_mem c)).2 y hy
    · rw [List.getD_eq_getElem?_getD, List.getElem?_eq_none (by omega)] at hy; cases hy
  have h200 := h.few
  unfold insF at hj
  have key : ∀ (now : List Int) (ins : List Bool), ins.length = 200 → (∀ i, ins.getD i false = true → i < m.ps.classes.length) → ∀ i, (now.foldl (fun ins x => markB m.ps.classes b ins (m.ps.follow.getD x.toNat [])) ins).getD i false = true → i < m.ps.classes.length := by
    intro now
    induction now with
    | nil => intro ins _ h i hi; exact h i hi
    | cons x r ih =>
      intro ins hl hi i hi'
      rw [List.foldl_cons] at hi'
      refine ih _ (by rw [markB_len]; exact hl) (fun i hh => ?_) i hi'
      rcases (markB_get _ _ _ _ _ (fun y hy => by have := hf x y hy; omega)).1 hh with h1 | h1
      · exact hi i h1
      · have := hf x i h1.1; omega
  refine key now _ ?_ (fun i hi => ?_) j hj
  · split
    · rw [markB_len, List.length_replicate]
    · rw [List.length_replicate]
  · have hrep : ∀ i, (List.replicate 200 false).getD i false = true → False := fun i hi => by
      rw [List.getD_eq_getElem?_getD, List.getElem?_replicate] at hi
      split at hi <;> cases hi
    split at hi
    · rcases (markB_get _ _ _ _ _ (fun y hy => by have := h.ok.first.2 y hy; rw [List.length_replicate]; omega)).1 hi with h1 | h1
      · exact (hrep _ h1).elim
      · have := h.ok.first.2 i h1.1; omega
    · exact (hrep _ hi).elim
theorem step_in {m : MS} (h : MOkP m) (now : List Int) (isF : Bool) (b : Nat) : Ris m.ps.classes.length (stepP m now isF b) :=
  ⟨trues_rising _ _, fun x hx => by obtain ⟨i, rfl, _, hi⟩ := trues_mem.1 hx; have := insF_in h now isF b hi; omega⟩
theorem runPin {m : MS} (h : MOkP m) (s : List UInt8) : Ris m.ps.classes.length (runP m s) := by
  cases s with
  | nil => exact ris_nil _
  | cons b s =>
    show Ris _ (s.foldl _ _)
    have h0 := step_in h [] true b.toNat
    generalize stepP m [] true b.toNat = now at *
    induction s generalizing now with
    | nil => exact h0
    | cons c s ih => rw [List.foldl_cons]; exact ih _ (step_in h _ _ _)
theorem done_step (p : PS) (d : List Bool) (now : List Int) {k : Nat} (hk : k < now.length) : doneF p d (now.take (k + 1)) = (doneF p d (now.take k)).set (p.rules.getD now[k].toNat 0).toNat ((doneF p d (now.take k)).getD (p.rules.getD now[k].toNat 0).toNat false || p.last.getD now[k].toNat false) := by
  unfold doneF
  rw [List.take_succ_eq_append_getElem hk, List.foldl_append]; rfl
theorem done_len (p : PS) (d : List Bool) (now : List Int) : (doneF p d now).length = d.length := by
  unfold doneF
  induction now generalizing d with
  | nil => rfl
  | cons x r ih => rw [List.foldl_cons, ih, List.length_set]
/-! ### Make's own -/
theorem node_rules (rule : Int) : ∀ (e : Re) (p : PS), (∀ r ∈ p.rules, 0 ≤ r ∧ r ≤ rule) → 0 ≤ rule → ∀ r ∈ (nodeF rule e p).2.rules, 0 ≤ r ∧ r ≤ rule
  | .empty, p, h, _ => h
  | .none, p, h, _ => h
  | .byte c, p, h, h0 => fun r hr => by
    have hr : r ∈ p.rules ++ [rule] := hr
    rcases List.mem_append.1 hr with hr | hr
    · exact h r hr
    · rw [List.mem_singleton.1 hr]; omega
  | .star a, p, h, h0 => node_rules rule a p h h0
  | .alt a b, p, h, h0 => node_rules rule b _ (node_rules rule a p h h0) h0
  | .cat a b, p, h, h0 => node_rules rule b _ (node_rules rule a p h h0) h0
theorem loop_ok : ∀ (es : List Re) (i : Nat) (m m' : MS), MSOk m → m.empty.length = i → (∀ r ∈ m.ps.rules, 0 ≤ r ∧ r < i) → m.ps.classes.length ≤ 200 → loopM i m es = (0, m') → MSOk m' ∧ m'.empty.length = i + es.length ∧ (∀ r ∈ m'.ps.rules, 0 ≤ r ∧ r < (i + es.length : Nat)) ∧ m'.ps.classes.length ≤ 200
  | [], i, m, m', h1, h2, h3, h4, h => by
    cases h
    exact ⟨h1, h2, fun r hr => by have := h3 r hr; simpa using this, h4⟩
  | e :: r, i, m, m', h1, h2, h3, h4, h => by
    rw [loopM] at h
    split at h
    · cases h
    · rename_i c
      have := loop_ok r (i + 1) (stepM i m e) m' (step_ok i h1 e).1 (by show (m.empty ++ [_]).length = _; simp [h2]) (fun x hx => by
        have := node_rules i e m.ps (fun r hr => by have := h3 r hr; omega) (by omega) x hx; omega) (by omega) h
      rw [List.length_cons]
      rw [show i + (r.length + 1) = i + 1 + r.length by omega]
      exact this
theorem make_ok {es : List Re} {m : MS} (h0 : 0 < es.length) (h20 : es.length ≤ 20) (h : loopM 0 .zero es = (0, m)) : MOkP m := by
  obtain ⟨h1, h2, h3, h4⟩ := loop_ok es 0 .zero m zero_ok rfl (fun r hr => by cases hr) (Nat.zero_le _) h
  rw [Nat.zero_add] at h2 h3
  exact ⟨h1, fun r hr => by have := h3 r hr; omega, h4, by omega, by omega⟩
end Go.Proofs.YtndbaalenclgaaaDoor.placesL

/- PlK -/
namespace Go.Proofs.YtndbaalenclgaaaDoor.eng
open Go.RowKit kit mix classL rexL placesL
set_option maxHeartbeats 2000000 in
theorem rises_calls (v : Value) (l : List Int) (n : Nat) (w : World) (hv : Sl w v l.length (l.flatMap kit.intC)) (h : Ris n l) :
    Calls Tryd.prog 15 #[v, .int .i64 (n : Int)] w (Meets (ret (.bool true)) w) := by
  obtain ⟨base, cap, rfl, hcap, hmax, hrd⟩ := hv
  unfold maxLen at hmax
  refine enter (args := [.slice base l.length cap, .int .i64 (n : Int)]) (n := 35) Tryd.func15 rfl rfl rfl ?_
  repeat (first
    | refine qv rfl (qp rfl) rfl rfl ?_ | refine TL_nil ?_ | refine T_seq ?_ | refine T_region ?_ | refine qcT rfl ?_ | refine qcF rfl ?_ | refine T_skip ?_
    | refine T_exit ?_ | refine T_ret ?_ | refine T_block ?_ | refine E_then ?_ | refine E_thenX ?_ | refine E_thenR ?_ | refine E_blockN ?_
    | refine E_blockR ?_ | refine E_blockX ?_ | refine E_blockO rfl ?_ | refine qs rfl rfl rfl rfl rfl rfl ?_
    | ((try refine qg rfl rfl rfl ?_); first | refine qv rfl (qp rfl) rfl rfl ?_ | refine qv rfl (qlen Und.eq rfl) rfl rfl ?_ | refine qv rfl (rr_lss rfl rfl (qT (by omega))) rfl rfl ?_ | refine qv rfl (rr_lss rfl rfl (qF (by omega))) rfl rfl ?_ | refine qv rfl (rr_add64 rfl rfl (by omega) (by omega) rfl) rfl rfl ?_ | refine qv rfl (rr_leq rfl rfl (qT (by omega))) rfl rfl ?_ | refine qv rfl (rr_leq rfl rfl (qF (by omega))) rfl rfl ?_ | refine qv rfl (rr_gtr rfl rfl (qT (by omega))) rfl rfl ?_ | refine qv rfl (rr_gtr rfl rfl (qF (by omega))) rfl rfl ?_ | refine qv rfl (rr_geq rfl rfl (qT (by omega))) rfl rfl ?_ | refine qv rfl (rr_geq rfl rfl (qF (by omega))) rfl rfl ?_ | refine qv rfl (rr_sub64 rfl rfl (by omega) (by omega) rfl) rfl rfl ?_))
  refine T_loop (ι := Nat) (fun k => k ≤ l.length) (fun k => [(0, .slice base l.length cap), (1, .int .i64 (n : Int)), (7, .slice base l.length cap), (8, .int .i64 l.length), (9, .int .i64 (k : Int))]) (fun _ => []) (fun k => l.length - k) 0 (Nat.zero_le _) (by repeat' (first | exact True.intro | refine And.intro rfl ?_)) rfl ?_
  intro k h1
  by_cases c2 : k < l.length
  · obtain ⟨b, off, rfl, hr⟩ := hrd (by omega)
    have hat := at_el (L := ([] : List Own)) SmIn_len hr c2 0 _ rfl
    have hx := h.2 _ (List.getElem_mem c2)
    by_cases c3 : 0 < k
    · have hp := List.pairwise_iff_getElem.1 h.1 (k - 1) k (by omega) c2 (by omega)
      have hat2 := at_el (L := ([] : List Own)) SmIn_len hr (k := k - 1) (by omega) 0 _ rfl
      generalize l[k] = x at *
      generalize l[k - 1]'(by omega) = y at *
      repeat (first
        | refine qv rfl (qp rfl) rfl rfl ?_ | refine TL_nil ?_ | refine T_seq ?_ | refine T_region ?_ | refine qcT rfl ?_ | refine qcF rfl ?_ | refine T_skip ?_
        | refine T_exit ?_ | refine T_ret ?_ | refine T_block ?_ | refine E_then ?_ | refine E_thenX ?_ | refine E_thenR ?_ | refine E_blockN ?_
        | refine E_blockR ?_ | refine E_blockX ?_ | refine E_blockO rfl ?_ | refine qs rfl rfl rfl rfl rfl rfl ?_
        | ((try refine qg rfl rfl rfl ?_); first | refine qv rfl (qp rfl) rfl rfl ?_ | refine qv rfl (rr_idxc Und.eq TyC.ty rfl rfl c2) rfl rfl ?_ | refine qv rfl (rr_load1 (v := .int .i64 x) TyC.ty rfl hat) rfl rfl ?_ | refine qv rfl (rr_lss (b := false) rfl rfl (decide_eq_false (by omega))) rfl rfl ?_ | refine qv rfl (rr_idxc (j := k - 1) Und.eq TyC.ty rfl rfl (by omega)) rfl rfl ?_ | refine qv rfl (rr_load1 (v := .int .i64 y) TyC.ty rfl hat2) rfl rfl ?_ | refine qv rfl (qlen Und.eq rfl) rfl rfl ?_ | refine qv rfl (rr_lss rfl rfl (qT (by omega))) rfl rfl ?_ | refine qv rfl (rr_lss rfl rfl (qF (by omega))) rfl rfl ?_ | refine qv rfl (rr_add64 rfl rfl (by omega) (by omega) rfl) rfl rfl ?_ | refine qv rfl (rr_geq (b := false) rfl rfl (decide_eq_false (by omega))) rfl rfl ?_ | refine qv rfl (rr_gtr (b := true) rfl rfl (decide_eq_true (by omega))) rfl rfl ?_ | refine qv rfl (rr_sub64 (r := ((k - 1 : Nat) : Int)) rfl rfl (by omega) (by omega) (by omega)) rfl rfl ?_ | refine qv rfl (rr_leq (b := false) rfl rfl (decide_eq_false (by omega))) rfl rfl ?_ | refine qv rfl (rr_leq rfl rfl (qT (by omega))) rfl rfl ?_ | refine qv rfl (rr_leq rfl rfl (qF (by omega))) rfl rfl ?_ | refine qv rfl (rr_gtr rfl rfl (qT (by omega))) rfl rfl ?_ | refine qv rfl (rr_gtr rfl rfl (qF (by omega))) rfl rfl ?_ | refine qv rfl (rr_geq rfl rfl (qT (by omega))) rfl rfl ?_ | refine qv rfl (rr_geq rfl rfl (qF (by omega))) rfl rfl ?_ | refine qv rfl (rr_sub64 rfl rfl (by omega) (by omega) rfl) rfl rfl ?_))
      exact E_round (k + 1) (by omega) (by show l.length - (k + 1) < l.length - k; omega) (by repeat' (first | exact True.intro | refine And.intro rfl ?_)) rfl
    · generalize l[k] = x at *
      repeat (first
        | refine qv rfl (qp rfl) rfl rfl ?_ | refine TL_nil ?_ | refine T_seq ?_ | refine T_region ?_ | refine qcT rfl ?_ | refine qcF rfl ?_ | refine T_skip ?_
        | refine T_exit ?_ | refine T_ret ?_ | refine T_block ?_ | refine E_then ?_ | refine E_thenX ?_ | refine E_thenR ?_ | refine E_blockN ?_
        | refine E_blockR ?_ | refine E_blockX ?_ | refine E_blockO rfl ?_ | refine qs rfl rfl rfl rfl rfl rfl ?_
        | ((try refine qg rfl rfl rfl ?_); first | refine qv rfl (qp rfl) rfl rfl ?_ | refine qv rfl (rr_idxc Und.eq TyC.ty rfl rfl c2) rfl rfl ?_ | refine qv rfl (rr_load1 (v := .int .i64 x) TyC.ty rfl hat) rfl rfl ?_ | refine qv rfl (rr_lss (b := false) rfl rfl (decide_eq_false (by omega))) rfl rfl ?_ | refine qv rfl (qlen Und.eq rfl) rfl rfl ?_ | refine qv rfl (rr_lss rfl rfl (qT (by omega))) rfl rfl ?_ | refine qv rfl (rr_lss rfl rfl (qF (by omega))) rfl rfl ?_ | refine qv rfl (rr_add64 rfl rfl (by omega) (by omega) rfl) rfl rfl ?_ | refine qv rfl (rr_geq (b := false) rfl rfl (decide_eq_false (by omega))) rfl rfl ?_ | refine qv rfl (rr_gtr (b := false) rfl rfl (decide_eq_false (by omega))) rfl rfl ?_ | refine qv rfl (rr_leq rfl rfl (qT (by omega))) rfl rfl ?_ | refine qv rfl (rr_leq rfl rfl (qF (by omega))) rfl rfl ?_ | refine qv rfl (rr_gtr rfl rfl (qT (by omega))) rfl rfl ?_ | refine qv rfl (rr_gtr rfl rfl (qF (by omega))) rfl rfl ?_ | refine qv rfl (rr_geq rfl rfl (qT (by omega))) rfl rfl ?_ | refine qv rfl (rr_geq rfl rfl (qF (by omega))) rfl rfl ?_ | refine qv rfl (rr_sub64 rfl rfl (by omega) (by omega) rfl) rfl rfl ?_))
      exact E_round (k + 1) (by omega) (by show l.length - (k + 1) < l.length - k; omega) (by repeat' (first | exact True.intro | refine And.intro rfl ?_)) rfl
  · repeat (first
      | refine qv rfl (qp rfl) rfl rfl ?_ | refine TL_nil ?_ | refine T_seq ?_ | refine T_region ?_ | refine qcT rfl ?_ | refine qcF rfl ?_ | refine T_skip ?_
      | refine T_exit ?_ | refine T_ret ?_ | refine T_block ?_ | refine E_then ?_ | refine E_thenX ?_ | refine E_thenR ?_ | refine E_blockN ?_
      | refine E_blockR ?_ | refine E_blockX ?_ | refine E_blockO rfl ?_ | refine qs rfl rfl rfl rfl rfl rfl ?_
      | ((try refine qg rfl rfl rfl ?_); first | refine qv rfl (qp rfl) rfl rfl ?_ | refine qv rfl (qlen Und.eq rfl) rfl rfl ?_ | refine qv rfl (rr_lss rfl rfl (qT (by omega))) rfl rfl ?_ | refine qv rfl (rr_lss rfl rfl (qF (by omega))) rfl rfl ?_ | refine qv rfl (rr_add64 rfl rfl (by omega) (by omega) rfl) rfl rfl ?_ | refine qv rfl (rr_leq rfl rfl (qT (by omega))) rfl rfl ?_ | refine qv rfl (rr_leq rfl rfl (qF (by omega))) rfl rfl ?_ | refine qv rfl (rr_gtr rfl rfl (qT (by omega))) rfl rfl ?_ | refine qv rfl (rr_gtr rfl rfl (qF (by omega))) rfl rfl ?_ | refine qv rfl (rr_geq rfl rfl (qT (by omega))) rfl rfl ?_ | refine qv rfl (rr_geq rfl rfl (qF (by omega))) rfl rfl ?_ | refine qv rfl (rr_sub64 rfl rfl (by omega) (by omega) rfl) rfl rfl ?_))
    exact E_ret1 rfl rfl fun w hm => hm.ret
/-- a list of Follow -/
theorem fol_at {w : World} {b off : Nat} {l : List (List Int)} {F : Nat → Prop} (hr : ∀ i (h : i < l.length), ∃ cs, (sliceS intS).is F w cs l[i] ∧ Rd w b (off + i * (sliceS intS).c) cs) {k : Nat} (hk : k < l.length) : ∃ u, Sl w u l[k].length (l[k].flatMap kit.intC) ∧ Rd w b (off + k * 1) [u] := by
  obtain ⟨cs, h1, h2⟩ := hr k hk
  obtain ⟨u, rfl, h3⟩ := folS_sl h1
  exact ⟨u, h3, h2⟩
set_option maxHeartbeats 4000000 in
theorem posCheck_calls (v : Value) (m : MS) (w : World) (hp : PosR w v m) (h : MOkP m) :
    Calls Tryd.prog 7 #[v] w (Meets (ret (.int .i64 0)) w) := by
  obtain ⟨vc, vr, vf, vfol, vl, ve, rfl, h1, h2, h3, h4, h5, h6⟩ := hp
  have hmR := h.rules
  have hmf := h.few
  have hms := h.some
  have hmm := h.most
  have l1 := h.ok.ps.rules
  have l2 := h.ok.ps.follow
  have l3 := h.ok.ps.last
  have q1 := fun w' (hg : Gr w w') => rises_calls vf m.first m.ps.classes.length w' (h3.gr hg) h.ok.first
  have hri := h.ok.ps.ris
  clear h h3
  obtain ⟨⟨cl, rul, fol, la⟩, fi, em⟩ := m
  dsimp only at *
  rw [l1] at h2
  obtain ⟨ac, cc, rfl, _⟩ := h1
  obtain ⟨ar, cr, rfl, hcr, hmr, hrr⟩ := h2
  obtain ⟨afo, cfo, rfl, hcf, hmfo, hrf⟩ := h4
  obtain ⟨al, cl2, rfl, _⟩ := h5
  obtain ⟨ae, ce, rfl, _⟩ := h6
  rw [l2] at hcf
  unfold maxLen at *
  have q1' := q1
  clear q1
  generalize hn : cl.length = n at *
  refine enter (args := [.agg #[.slice ac n cc, .slice ar n cr, vf, .slice afo fol.length cfo, .slice al la.length cl2, .slice ae em.length ce]]) (n := 80) Tryd.func7 rfl rfl rfl ?_
  refine T_seq (T_region (TL_box rfl rfl rfl fun g1 => ?_))
  conv => arg 8; simp only [zA, zB, zC, zD, zE, zF, zG, zH, zI, rowS, ret, id_eq]
  repeat (first
    | refine qv rfl (qp rfl) rfl rfl ?_ | refine TL_nil ?_ | refine T_seq ?_ | refine T_region ?_ | refine qcT rfl ?_ | refine qcF rfl ?_ | refine T_skip ?_
    | refine T_exit ?_ | refine T_ret ?_ | refine T_block ?_ | refine E_then ?_ | refine E_thenX ?_ | refine E_thenR ?_ | refine E_blockN ?_
    | refine E_blockR ?_ | refine E_blockX ?_ | refine E_blockO rfl ?_ | refine qs rfl rfl rfl rfl rfl rfl ?_
    | ((try refine qg rfl rfl rfl ?_); first | refine qv rfl (qp rfl) rfl rfl ?_ | refine qv rfl (rr_load1 (v := .slice ac n cc) TyC.ty rfl (at_blk (i := 0) rfl rfl)) rfl rfl ?_ | refine qv rfl (rr_load1 (v := .slice ar n cr) TyC.ty rfl (at_blk (i := 0) rfl rfl)) rfl rfl ?_ | refine qv rfl (rr_load1 (v := .slice afo fol.length cfo) TyC.ty rfl (at_blk (i := 0) rfl rfl)) rfl rfl ?_ | refine qv rfl (rr_load1 (v := .slice al la.length cl2) TyC.ty rfl (at_blk (i := 0) rfl rfl)) rfl rfl ?_ | refine qv rfl (rr_load1 (v := .slice ae em.length ce) TyC.ty rfl (at_blk (i := 0) rfl rfl)) rfl rfl ?_ | refine qv rfl (rr_load1 (v := vf) TyC.ty rfl (at_blk (i := 0) rfl rfl)) rfl rfl ?_ | refine qv rfl (rr_neq (b := false) rfl rfl (decide_eq_false (by omega))) rfl rfl ?_ | refine qv rfl (rr_gtr (b := false) rfl rfl (decide_eq_false (by omega))) rfl rfl ?_ | refine qv rfl (qlen Und.eq rfl) rfl rfl ?_ | refine qv rfl (qfld FldC.fld rfl rfl) rfl rfl ?_ | refine qv rfl (rr_lss rfl rfl (qT (by omega))) rfl rfl ?_ | refine qv rfl (rr_lss rfl rfl (qF (by omega))) rfl rfl ?_ | refine qv rfl (rr_gtr rfl rfl (qT (by omega))) rfl rfl ?_ | refine qv rfl (rr_gtr rfl rfl (qF (by omega))) rfl rfl ?_ | refine qv rfl (rr_neq rfl rfl (qT (by omega))) rfl rfl ?_ | refine qv rfl (rr_neq rfl rfl (qF (by omega))) rfl rfl ?_ | refine qv rfl (rr_add64 rfl rfl (by omega) (by omega) rfl) rfl rfl ?_ | refine qv rfl (rr_eql (b := false) rfl rfl (decide_eq_false (by omega))) rfl rfl ?_ | refine qv rfl (rr_not rfl rfl) rfl rfl ?_ | refine qv rfl (rr_geq rfl rfl (qT (by omega))) rfl rfl ?_ | refine qv rfl (rr_geq rfl rfl (qF (by omega))) rfl rfl ?_ | refine qv rfl (rr_eql rfl rfl (qT (by omega))) rfl rfl ?_ | refine qv rfl (rr_eql rfl rfl (qF (by omega))) rfl rfl ?_))
  refine TL_gcall (he2 EntersC.en rfl rfl rfl) (fun w hm => q1' _ hm.below) rfl rfl rfl rfl rfl ?_
  intro _ _
  conv => arg 8; simp only [zA, zB, zC, zD, zE, zF, zG, zH, zI, rowS, ret, id_eq]
  clear q1'
  repeat (first
    | refine qv rfl (qp rfl) rfl rfl ?_ | refine TL_nil ?_ | refine T_seq ?_ | refine T_region ?_ | refine qcT rfl ?_ | refine qcF rfl ?_ | refine T_skip ?_
    | refine T_exit ?_ | refine T_ret ?_ | refine T_block ?_ | refine E_then ?_ | refine E_thenX ?_ | refine E_thenR ?_ | refine E_blockN ?_
    | refine E_blockR ?_ | refine E_blockX ?_ | refine E_blockO rfl ?_ | refine qs rfl rfl rfl rfl rfl rfl ?_
    | ((try refine qg rfl rfl rfl ?_); first | refine qv rfl (qp rfl) rfl rfl ?_ | refine qv rfl (qlen Und.eq rfl) rfl rfl ?_ | refine qv rfl (qfld FldC.fld rfl rfl) rfl rfl ?_ | refine qv rfl (rr_lss rfl rfl (qT (by omega))) rfl rfl ?_ | refine qv rfl (rr_lss rfl rfl (qF (by omega))) rfl rfl ?_ | refine qv rfl (rr_gtr rfl rfl (qT (by omega))) rfl rfl ?_ | refine qv rfl (rr_gtr rfl rfl (qF (by omega))) rfl rfl ?_ | refine qv rfl (rr_neq rfl rfl (qT (by omega))) rfl rfl ?_ | refine qv rfl (rr_neq rfl rfl (qF (by omega))) rfl rfl ?_ | refine qv rfl (rr_add64 rfl rfl (by omega) (by omega) rfl) rfl rfl ?_ | refine qv rfl (rr_not rfl rfl) rfl rfl ?_ | refine qv rfl (rr_geq rfl rfl (qT (by omega))) rfl rfl ?_ | refine qv rfl (rr_geq rfl rfl (qF (by omega))) rfl rfl ?_ | refine qv rfl (rr_eql rfl rfl (qT (by omega))) rfl rfl ?_ | refine qv rfl (rr_eql rfl rfl (qF (by omega))) rfl rfl ?_))
  refine T_loop (ι := Nat) (fun k => k ≤ n) (fun k => [(1, .pointer (some ⟨g1, 0, none⟩)), (3, .int .i64 (n : Int)), (46, .int .i64 (n : Int)), (47, .int .i64 (k : Int))]) (fun _ => [blkO g1 #[.slice ac n cc, .slice ar n cr, vf, .slice afo fol.length cfo, .slice al la.length cl2, .slice ae em.length ce] 28]) (fun k => n - k) 0 (Nat.zero_le _) (by repeat' (first | exact True.intro | refine And.intro rfl ?_)) rfl ?_
  intro k hk
  by_cases c1 : k < n
  · obtain ⟨br, offr, rfl, hrd⟩ := hrr (by omega)
    obtain ⟨bf, offf, rfl, _, hrfd⟩ := hrf (by omega)
    obtain ⟨u, hu, hd⟩ := fol_at hrfd (show k < fol.length by omega)
    have hatr := fun (L : List Own) => at_el (L := L) SmIn_len hrd (show k < rul.length by omega) 0 _ rfl
    have hatf := fun (L : List Own) => at_rd (L := L) hd (j := 0) (v := u) rfl
    have hx := hmR _ (List.getElem_mem (show k < rul.length by omega))
    have q := fun w' (hg : Gr w w') => rises_calls u fol[k] n w' (hu.gr hg) (hri _ (List.getElem_mem _))
    clear hrr hrf hrd hrfd hd hu
    generalize rul[k] = x at *
    repeat (first
      | refine qv rfl (qp rfl) rfl rfl ?_ | refine TL_nil ?_ | refine T_seq ?_ | refine T_region ?_ | refine qcT rfl ?_ | refine qcF rfl ?_ | refine T_skip ?_
      | refine T_exit ?_ | refine T_ret ?_ | refine T_block ?_ | refine E_then ?_ | refine E_thenX ?_ | refine E_thenR ?_ | refine E_blockN ?_
      | refine E_blockR ?_ | refine E_blockX ?_ | refine E_blockO rfl ?_ | refine qs rfl rfl rfl rfl rfl rfl ?_
      | ((try refine qg rfl rfl rfl ?_); first | refine qv rfl (qp rfl) rfl rfl ?_ | refine qv rfl (qlen Und.eq rfl) rfl rfl ?_ | refine qv rfl (qfld FldC.fld rfl rfl) rfl rfl ?_ | refine qv rfl (rr_lss rfl rfl (qT (by omega))) rfl rfl ?_ | refine qv rfl (rr_lss rfl rfl (qF (by omega))) rfl rfl ?_ | refine qv rfl (rr_gtr rfl rfl (qT (by omega))) rfl rfl ?_ | refine qv rfl (rr_gtr rfl rfl (qF (by omega))) rfl rfl ?_ | refine qv rfl (rr_neq rfl rfl (qT (by omega))) rfl rfl ?_ | refine qv rfl (rr_neq rfl rfl (qF (by omega))) rfl rfl ?_ | refine qv rfl (rr_add64 rfl rfl (by omega) (by omega) rfl) rfl rfl ?_ | refine qv rfl (rr_not rfl rfl) rfl rfl ?_ | refine qv rfl (rr_geq rfl rfl (qT (by omega))) rfl rfl ?_ | refine qv rfl (rr_geq rfl rfl (qF (by omega))) rfl rfl ?_ | refine qv rfl (rr_eql rfl rfl (qT (by omega))) rfl rfl ?_ | refine qv rfl (rr_eql rfl rfl (qF (by omega))) rfl rfl ?_))
    refine T_ord ([blkO g1 #[.slice ac n cc, .slice (some ⟨br, offr, none⟩) n cr, vf, .slice (some ⟨bf, offf, none⟩) fol.length cfo, .slice al la.length cl2, .slice ae em.length ce] 28]) (.calm 0 (.calm 1 (.calm 2 (.calm 3 (.calm 4 (.calm 5 (.calm 6 (.calm 7 (.calm 8 (.calm 9 (.calm 10 (.calm 11 (.calm 12 (.calm 13 (.calm 14 (.calm 15 (.calm 16 (.calm 17 (.calm 18 (.calm 19 (.calm 20 (.calm 21 (.calm 22 (.calm 23 (.one 24 (.calm 25 (.calm 26 (.done)))))))))))))))))))))))))))) (sub_pick [0] (by decide) rfl) (by kernel_rfl) (by kernel_rfl) (by intro c a d v w h; cases d <;> exact h) ?_
    repeat (first
      | ((first | refine TW_plain rfl rfl ?_ | refine TW_gmet rfl rfl rfl rfl ?_); first | refine TN_val (qp rfl) rfl rfl ?_ | refine TN_val (rr_load1 (v := .slice (some ⟨br, offr, none⟩) n cr) TyC.ty rfl (at_blk (i := 0) rfl rfl)) rfl rfl ?_ | refine TN_val (rr_idxc Und.eq TyC.ty rfl rfl c1) rfl rfl ?_ | refine TN_val (rr_load1 (v := .int .i64 x) TyC.ty rfl (hatr _)) rfl rfl ?_ | refine TN_val (rr_lss (b := false) rfl rfl (decide_eq_false (by omega))) rfl rfl ?_ | refine TN_val (rr_load1 (v := .slice ae em.length ce) TyC.ty rfl (at_blk (i := 0) rfl rfl)) rfl rfl ?_ | refine TN_val (rr_load1 (v := .slice (some ⟨bf, offf, none⟩) fol.length cfo) TyC.ty rfl (at_blk (i := 0) rfl rfl)) rfl rfl ?_ | refine TN_val (rr_idxc (j := k) Und.eq TyC.ty rfl rfl (by omega)) rfl rfl ?_ | refine TN_val (rr_load1 (v := u) TyC.ty rfl (hatf _)) rfl rfl ?_ | refine TN_val (qlen Und.eq rfl) rfl rfl ?_ | refine TN_val (qfld FldC.fld rfl rfl) rfl rfl ?_ | refine TN_val (rr_lss rfl rfl (qT (by omega))) rfl rfl ?_ | refine TN_val (rr_lss rfl rfl (qF (by omega))) rfl rfl ?_ | refine TN_val (rr_gtr rfl rfl (qT (by omega))) rfl rfl ?_ | refine TN_val (rr_gtr rfl rfl (qF (by omega))) rfl rfl ?_ | refine TN_val (rr_neq rfl rfl (qT (by omega))) rfl rfl ?_ | refine TN_val (rr_neq rfl rfl (qF (by omega))) rfl rfl ?_ | refine TN_val (rr_add64 rfl rfl (by omega) (by omega) rfl) rfl rfl ?_ | refine TN_val (rr_geq (b := false) rfl rfl (decide_eq_false (by omega))) rfl rfl ?_ | refine TN_val (rr_not rfl rfl) rfl rfl ?_ | refine TN_val (rr_geq rfl rfl (qT (by omega))) rfl rfl ?_ | refine TN_val (rr_geq rfl rfl (qF (by omega))) rfl rfl ?_ | refine TN_val (rr_eql rfl rfl (qT (by omega))) rfl rfl ?_ | refine TN_val (rr_eql rfl rfl (qF (by omega))) rfl rfl ?_)
      | refine TW_skip rfl rfl rfl rfl rfl rfl rfl ?_ | refine TW_done ?_)
    refine TW_one rfl (TL_metg rfl rfl rfl (TL_call (he2 EntersC.en rfl rfl rfl) (fun w hm => q w hm.below) rfl rfl rfl fun _ _ => (TW_on (sub_pick [0] (by decide) rfl) ?_)))
    repeat (first
      | ((first | refine TW_plain rfl rfl ?_ | refine TW_gmet rfl rfl rfl rfl ?_); first | refine TN_val (qp rfl) rfl rfl ?_ | refine TN_val (qlen Und.eq rfl) rfl rfl ?_ | refine TN_val (qfld FldC.fld rfl rfl) rfl rfl ?_ | refine TN_val (rr_lss rfl rfl (qT (by omega))) rfl rfl ?_ | refine TN_val (rr_lss rfl rfl (qF (by omega))) rfl rfl ?_ | refine TN_val (rr_gtr rfl rfl (qT (by omega))) rfl rfl ?_ | refine TN_val (rr_gtr rfl rfl (qF (by omega))) rfl rfl ?_ | refine TN_val (rr_neq rfl rfl (qT (by omega))) rfl rfl ?_ | refine TN_val (rr_neq rfl rfl (qF (by omega))) rfl rfl ?_ | refine TN_val (rr_add64 rfl rfl (by omega) (by omega) rfl) rfl rfl ?_ | refine TN_val (rr_not rfl rfl) rfl rfl ?_ | refine TN_val (rr_geq rfl rfl (qT (by omega))) rfl rfl ?_ | refine TN_val (rr_geq rfl rfl (qF (by omega))) rfl rfl ?_ | refine TN_val (rr_eql rfl rfl (qT (by omega))) rfl rfl ?_ | refine TN_val (rr_eql rfl rfl (qF (by omega))) rfl rfl ?_)
      | refine TW_skip rfl rfl rfl rfl rfl rfl rfl ?_ | refine TW_done ?_)
    repeat (first
      | refine qv rfl (qp rfl) rfl rfl ?_ | refine TL_nil ?_ | refine T_seq ?_ | refine T_region ?_ | refine qcT rfl ?_ | refine qcF rfl ?_ | refine T_skip ?_
      | refine T_exit ?_ | refine T_ret ?_ | refine T_block ?_ | refine E_then ?_ | refine E_thenX ?_ | refine E_thenR ?_ | refine E_blockN ?_
      | refine E_blockR ?_ | refine E_blockX ?_ | refine E_blockO rfl ?_ | refine qs rfl rfl rfl rfl rfl rfl ?_
      | ((try refine qg rfl rfl rfl ?_); first | refine qv rfl (qp rfl) rfl rfl ?_ | refine qv rfl (qlen Und.eq rfl) rfl rfl ?_ | refine qv rfl (qfld FldC.fld rfl rfl) rfl rfl ?_ | refine qv rfl (rr_lss rfl rfl (qT (by omega))) rfl rfl ?_ | refine qv rfl (rr_lss rfl rfl (qF (by omega))) rfl rfl ?_ | refine qv rfl (rr_gtr rfl rfl (qT (by omega))) rfl rfl ?_ | refine qv rfl (rr_gtr rfl rfl (qF (by omega))) rfl rfl ?_ | refine qv rfl (rr_neq rfl rfl (qT (by omega))) rfl rfl ?_ | refine qv rfl (rr_neq rfl rfl (qF (by omega))) rfl rfl ?_ | refine qv rfl (rr_add64 rfl rfl (by omega) (by omega) rfl) rfl rfl ?_ | refine qv rfl (rr_not rfl rfl) rfl rfl ?_ | refine qv rfl (rr_geq rfl rfl (qT (by omega))) rfl rfl ?_ | refine qv rfl (rr_geq rfl rfl (qF (by omega))) rfl rfl ?_ | refine qv rfl (rr_eql rfl rfl (qT (by omega))) rfl rfl ?_ | refine qv rfl (rr_eql rfl rfl (qF (by omega))) rfl rfl ?_))
    refine E_pick [0] (by decide) rfl ?_
    exact E_round (k + 1) (by omega) (by show n - (k + 1) < n - k; omega) (by repeat' (first | exact True.intro | refine And.intro rfl ?_)) rfl
  · repeat (first
      | refine qv rfl (qp rfl) rfl rfl ?_ | refine TL_nil ?_ | refine T_seq ?_ | refine T_region ?_ | refine qcT rfl ?_ | refine qcF rfl ?_ | refine T_skip ?_
      | refine T_exit ?_ | refine T_ret ?_ | refine T_block ?_ | refine E_then ?_ | refine E_thenX ?_ | refine E_thenR ?_ | refine E_blockN ?_
      | refine E_blockR ?_ | refine E_blockX ?_ | refine E_blockO rfl ?_ | refine qs rfl rfl rfl rfl rfl rfl ?_
      | ((try refine qg rfl rfl rfl ?_); first | refine qv rfl (qp rfl) rfl rfl ?_ | refine qv rfl (rr_gtr (b := false) rfl rfl (decide_eq_false (by omega))) rfl rfl ?_ | refine qv rfl (qlen Und.eq rfl) rfl rfl ?_ | refine qv rfl (qfld FldC.fld rfl rfl) rfl rfl ?_ | refine qv rfl (rr_lss rfl rfl (qT (by omega))) rfl rfl ?_ | refine qv rfl (rr_lss rfl rfl (qF (by omega))) rfl rfl ?_ | refine qv rfl (rr_gtr rfl rfl (qT (by omega))) rfl rfl ?_ | refine qv rfl (rr_gtr rfl rfl (qF (by omega))) rfl rfl ?_ | refine qv rfl (rr_neq rfl rfl (qT (by omega))) rfl rfl ?_ | refine qv rfl (rr_neq rfl rfl (qF (by omega))) rfl rfl ?_ | refine qv rfl (rr_add64 rfl rfl (by omega) (by omega) rfl) rfl rfl ?_ | refine qv rfl (rr_not rfl rfl) rfl rfl ?_ | refine qv rfl (rr_geq rfl rfl (qT (by omega))) rfl rfl ?_ | refine qv rfl (rr_geq rfl rfl (qF (by omega))) rfl rfl ?_ | refine qv rfl (rr_eql rfl rfl (qT (by omega))) rfl rfl ?_ | refine qv rfl (rr_eql rfl rfl (qF (by omega))) rfl rfl ?_))
    exact E_ret1 rfl rfl fun w hm => hm.ret
end Go.Proofs.YtndbaalenclgaaaDoor.eng

/- PlT -/
namespace Go.Proofs.YtndbaalenclgaaaDoor.eng
open Go.RowKit kit mix classL rexL placesL
theorem at_elO {α : Type} {f : α → List Value} {c : Nat} {W0 : World} {W : Base} {L : List Own} {b off : Nat} {l : List α} (hc : ∀ a, (f a).length = c) (ho : Old W0 W) (h : Rd W0 b off (l.flatMap f)) {k : Nat} (hk : k < l.length) (j : Nat) (u : Value) (hj : (f l[k])[j]? = some u) : At W L ⟨b, off + k * c + j, none⟩ u := by
  have hjc : j < c := by rw [← hc l[k]]; exact (List.getElem?_eq_some_iff.1 hj).1
  rw [Nat.add_assoc]
  exact at_oldR ho h _ u (by rw [get_el hc l k j hk hjc]; exact hj)
def boolA (l : List Bool) : Array Value := (l.map Value.bool).toArray
theorem boolA_size (l : List Bool) : (boolA l).size = l.length := by unfold boolA; simp
theorem boolA_get {l : List Bool} {k : Nat} (h : k < l.length) : (boolA l)[k]? = some (.bool (l.getD k false)) := by
  unfold boolA
  rw [List.getElem?_toArray, List.getElem?_map, List.getElem?_eq_getElem h, List.getD_eq_getElem?_getD, List.getElem?_eq_getElem h]; rfl
theorem boolA_set (l : List Bool) (k : Nat) (b : Bool) : (boolA l).setIfInBounds k (.bool b) = boolA (l.set k b) := by
  unfold boolA
  rw [List.setIfInBounds_toArray, List.map_set]
theorem boolA_rep (n : Nat) : (List.replicate n (.bool false : Value)).toArray = boolA (List.replicate n false) := by unfold boolA; rw [List.map_replicate]
abbrev inO (g : Nat) (ins : List Bool) : Own := blkO g (boolA ins) 69
def markSp (g9 g4 g7 : Nat) (cs : Array Value) (b : Nat) (ins : List Bool) : Spec Unit := ⟨fun _ => True, fun _ => .tuple #[], fun _ => [inO g9 ins, blkO g4 cs 28, blkO g7 #[.int .u8 (b : Int)] 5]⟩
set_option maxHeartbeats 4000000 in
theorem mark_calls (w0 : World) (cl : List C4) (ac : Option Addr) (cc : Nat) (hc : Sl w0 (.slice ac cl.length cc) cl.length (cl.flatMap clsL)) (vr vf vfol vl ve : Value) (v : Value) (l : List Int) (hv : Sl w0 v l.length (l.flatMap kit.intC)) (hl : Ris cl.length l) (hn : cl.length ≤ 200)
    (ins : List Bool) (hi : ins.length = 200) (b : Nat) (hb : b < 256) (g9 g4 g7 : Nat) (w : World) (B : Base) (ho : Old w0 B) (hm : Mem B [inO g9 ins, blkO g4 #[.slice ac cl.length cc, vr, vf, vfol, vl, ve] 28, blkO g7 #[.int .u8 (b : Int)] 5] w) :
    Calls Tryd.prog 27 #[v, .pointer (some ⟨g9, 0, none⟩), .pointer (some ⟨g4, 0, none⟩), .pointer (some ⟨g7, 0, none⟩)] w (MeetsB (markSp g9 g4 g7 #[.slice ac cl.length cc, vr, vf, vfol, vl, ve] b (markB cl b ins l)) B) := by
  obtain ⟨base, cap, rfl, hcap, hmax, hrd⟩ := hv
  obtain ⟨_, _, hce, _, _, hrc⟩ := hc
  simp only [Value.slice.injEq, true_and] at hce
  obtain ⟨rfl, rfl⟩ := hce
  unfold maxLen at hmax
  refine enterB hm (args := [.slice base l.length cap, .pointer (some ⟨g9, 0, none⟩), .pointer (some ⟨g4, 0, none⟩), .pointer (some ⟨g7, 0, none⟩)]) (n := 28) Tryd.func27 rfl rfl rfl ?_
  clear hm
  repeat (first
    | refine qv rfl (qp rfl) rfl rfl ?_ | refine TL_nil ?_ | refine T_seq ?_ | refine T_region ?_ | refine qcT rfl ?_ | refine qcF rfl ?_ | refine T_skip ?_
    | refine T_exit ?_ | refine T_block ?_ | refine E_then ?_ | refine E_thenX ?_ | refine E_thenR ?_ | refine E_blockN ?_ | refine E_blockR ?_
    | refine E_blockX ?_ | refine E_blockO rfl ?_ | refine qs rfl rfl rfl rfl rfl rfl ?_
    | ((try refine qg rfl rfl rfl ?_); first | refine qv rfl (qp rfl) rfl rfl ?_ | refine qv rfl (qlen Und.eq rfl) rfl rfl ?_ | refine qv rfl (rr_lss rfl rfl (qT (by omega))) rfl rfl ?_ | refine qv rfl (rr_lss rfl rfl (qF (by omega))) rfl rfl ?_ | refine qv rfl (rr_add64 rfl rfl (by omega) (by omega) rfl) rfl rfl ?_ | refine qv rfl (qfld FldC.fld rfl rfl) rfl rfl ?_))
  refine T_loop (ι := Nat) (fun k => k ≤ l.length) (fun k => [(1, .pointer (some ⟨g9, 0, none⟩)), (2, .pointer (some ⟨g4, 0, none⟩)), (3, .pointer (some ⟨g7, 0, none⟩)), (7, .slice base l.length cap), (8, .int .i64 l.length), (9, .int .i64 (k : Int))])
    (fun k => [inO g9 (markB cl b ins (l.take k)), blkO g4 #[.slice ac cl.length cc, vr, vf, vfol, vl, ve] 28, blkO g7 #[.int .u8 (b : Int)] 5]) (fun k => l.length - k) 0 (Nat.zero_le _) (by repeat' (first | exact True.intro | refine And.intro rfl ?_)) rfl ?_
  intro k hk
  by_cases c1 : k < l.length
  · have hx := hl.2 _ (List.getElem_mem c1)
    have hst := markB_step cl b ins l c1
    have hlen := markB_len cl b ins (l.take k)
    obtain ⟨bl, offl, rfl, hrl⟩ := hrd (by omega)
    have hatl := fun (L : List Own) => at_elO (L := L) SmIn_len ho hrl c1 0 _ rfl
    clear hrl hrd
    generalize l[k] = x at *
    generalize markB cl b ins (l.take k) = I at *
    obtain ⟨xn, rfl⟩ := Int.eq_ofNat_of_zero_le hx.1
    rw [Int.toNat_natCast] at hst
    have hxn : xn < cl.length := by omega
    have hcd : cl.getD xn C4.zero = cl[xn] := by rw [List.getD_eq_getElem?_getD, List.getElem?_eq_getElem hxn]; rfl
    have hI := boolA_get (l := I) (k := xn) (by omega)
    obtain ⟨bc, offc, rfl, hrcd⟩ := hrc (by omega)
    have hatc := fun (L : List Own) => at_elO (L := L) (f := clsL) (c := 4) (fun _ => rfl) ho hrcd hxn
    clear hrcd hrc
    have hhas := fun w => has_calls cl[xn] b hb w
    rw [hcd] at hst
    have hcn := hcd
    clear hcd
    generalize cl[xn] = c at *
    have hat7 : ∀ j u, (clsL c)[j]? = some u → ∀ (L : List Own), At B L ⟨bc, offc + xn * 4 + j, none⟩ u := fun j u hj L => hatc L j u hj
    clear hatc
    by_cases c2 : I.getD xn false = true
    · rw [c2] at hI hst
      rw [Bool.true_or] at hst
      have hs : (boolA I).setIfInBounds (0 + xn) (.bool true) = boolA (markB cl b ins (l.take (k + 1))) := by rw [Nat.zero_add, boolA_set, hst]
      repeat (first
        | refine qv rfl (qp rfl) rfl rfl ?_ | refine TL_nil ?_ | refine T_seq ?_ | refine T_region ?_ | refine qcT rfl ?_ | refine qcF rfl ?_ | refine T_skip ?_
        | refine T_exit ?_ | refine T_block ?_ | refine E_then ?_ | refine E_thenX ?_ | refine E_thenR ?_ | refine E_blockN ?_ | refine E_blockR ?_
        | refine E_blockX ?_ | refine E_blockO rfl ?_ | refine qs rfl rfl rfl rfl rfl rfl ?_
        | ((try refine qg rfl rfl rfl ?_); first | refine qv rfl (qp rfl) rfl rfl ?_ | refine qv rfl (rr_idxc Und.eq TyC.ty rfl rfl c1) rfl rfl ?_ | refine qv rfl (rr_load1 (v := .int .i64 (xn : Int)) TyC.ty rfl (hatl _)) rfl rfl ?_ | refine qv rfl (qlen Und.eq rfl) rfl rfl ?_ | refine qv rfl (rr_lss rfl rfl (qT (by omega))) rfl rfl ?_ | refine qv rfl (rr_lss rfl rfl (qF (by omega))) rfl rfl ?_ | refine qv rfl (rr_add64 rfl rfl (by omega) (by omega) rfl) rfl rfl ?_ | refine qv rfl (qfld FldC.fld rfl rfl) rfl rfl ?_))
      refine T_ord ([blkO g4 #[.slice (some ⟨bc, offc, none⟩) cl.length cc, vr, vf, vfol, vl, ve] 28]) (.calm 0 (.calm 1 (.calm 2 (.one 3 (.calm 4 (.calm 5 (.calm 6 (.calm 7 (.calm 8 (.calm 9 (.calm 10 (.calm 11 (.calm 12 (.calm 13 (.one 14 (.done)))))))))))))))) (sub_pick [1] (by decide) rfl) (by kernel_rfl) (by kernel_rfl) (by intro c a d v w h; cases d <;> exact h) ?_
      repeat (first
        | ((first | refine TW_plain rfl rfl ?_ | refine TW_gmet rfl rfl rfl rfl ?_); first | refine TN_val (qp rfl) rfl rfl ?_ | refine TN_val (rr_aidx1 Und.eq TyC.ty rfl rfl (by omega)) rfl rfl ?_ | refine TN_val (qlen Und.eq rfl) rfl rfl ?_ | refine TN_val (rr_lss rfl rfl (qT (by omega))) rfl rfl ?_ | refine TN_val (rr_lss rfl rfl (qF (by omega))) rfl rfl ?_ | refine TN_val (rr_add64 rfl rfl (by omega) (by omega) rfl) rfl rfl ?_ | refine TN_val (qfld FldC.fld rfl rfl) rfl rfl ?_)
        | refine TW_skip rfl rfl rfl rfl rfl rfl rfl ?_ | refine TW_done ?_)
      refine TW_one rfl (TL_val (rr_load1 (v := .bool true) TyC.ty rfl (at_blk (i := 0) rfl (by rw [Nat.zero_add]; exact hI))) rfl rfl rfl (TW_on (sub_pick [1] (by decide) rfl) ?_))
      repeat (first
        | ((first | refine TW_plain rfl rfl ?_ | refine TW_gmet rfl rfl rfl rfl ?_); first | refine TN_val (qp rfl) rfl rfl ?_ | refine TN_val (rr_aidx1 Und.eq TyC.ty rfl rfl (by omega)) rfl rfl ?_ | refine TN_val (qlen Und.eq rfl) rfl rfl ?_ | refine TN_val (rr_lss rfl rfl (qT (by omega))) rfl rfl ?_ | refine TN_val (rr_lss rfl rfl (qF (by omega))) rfl rfl ?_ | refine TN_val (rr_add64 rfl rfl (by omega) (by omega) rfl) rfl rfl ?_ | refine TN_val (qfld FldC.fld rfl rfl) rfl rfl ?_)
        | refine TW_skip rfl rfl rfl rfl rfl rfl rfl ?_ | refine TW_done ?_)
      refine TW_one rfl (TL_store1 (i := 0) rfl rfl rfl rfl rfl (by rw [Nat.blt_eq, boolA_size]; omega) (TW_on (sub_pick [1] (by decide) rfl) ?_))
      repeat (first
        | ((first | refine TW_plain rfl rfl ?_ | refine TW_gmet rfl rfl rfl rfl ?_); first | refine TN_val (qp rfl) rfl rfl ?_ | refine TN_val (qlen Und.eq rfl) rfl rfl ?_ | refine TN_val (rr_lss rfl rfl (qT (by omega))) rfl rfl ?_ | refine TN_val (rr_lss rfl rfl (qF (by omega))) rfl rfl ?_ | refine TN_val (rr_add64 rfl rfl (by omega) (by omega) rfl) rfl rfl ?_ | refine TN_val (qfld FldC.fld rfl rfl) rfl rfl ?_)
        | refine TW_skip rfl rfl rfl rfl rfl rfl rfl ?_ | refine TW_done ?_)
      repeat (first
        | refine qv rfl (qp rfl) rfl rfl ?_ | refine TL_nil ?_ | refine T_seq ?_ | refine T_region ?_ | refine qcT rfl ?_ | refine qcF rfl ?_ | refine T_skip ?_
        | refine T_exit ?_ | refine T_block ?_ | refine E_then ?_ | refine E_thenX ?_ | refine E_thenR ?_ | refine E_blockN ?_ | refine E_blockR ?_
        | refine E_blockX ?_ | refine E_blockO rfl ?_ | refine qs rfl rfl rfl rfl rfl rfl ?_
        | ((try refine qg rfl rfl rfl ?_); first | refine qv rfl (qp rfl) rfl rfl ?_ | refine qv rfl (qlen Und.eq rfl) rfl rfl ?_ | refine qv rfl (rr_lss rfl rfl (qT (by omega))) rfl rfl ?_ | refine qv rfl (rr_lss rfl rfl (qF (by omega))) rfl rfl ?_ | refine qv rfl (rr_add64 rfl rfl (by omega) (by omega) rfl) rfl rfl ?_ | refine qv rfl (qfld FldC.fld rfl rfl) rfl rfl ?_))
      exact E_round (k + 1) (by omega) (by show l.length - (k + 1) < l.length - k; omega) (by repeat' (first | exact True.intro | refine And.intro rfl ?_)) (by unfold inO; rw [← hs]; rfl)
    · rw [Bool.eq_false_iff.2 c2] at hI hst
      rw [Bool.false_or] at hst
      have hs : (boolA I).setIfInBounds (0 + xn) (.bool (c.mem b)) = boolA (markB cl b ins (l.take (k + 1))) := by rw [Nat.zero_add, boolA_set, hst]
      repeat (first
        | refine qv rfl (qp rfl) rfl rfl ?_ | refine TL_nil ?_ | refine T_seq ?_ | refine T_region ?_ | refine qcT rfl ?_ | refine qcF rfl ?_ | refine T_skip ?_
        | refine T_exit ?_ | refine T_block ?_ | refine E_then ?_ | refine E_thenX ?_ | refine E_thenR ?_ | refine E_blockN ?_ | refine E_blockR ?_
        | refine E_blockX ?_ | refine E_blockO rfl ?_ | refine qs rfl rfl rfl rfl rfl rfl ?_
        | ((try refine qg rfl rfl rfl ?_); first | refine qv rfl (qp rfl) rfl rfl ?_ | refine qv rfl (rr_idxc Und.eq TyC.ty rfl rfl c1) rfl rfl ?_ | refine qv rfl (rr_load1 (v := .int .i64 (xn : Int)) TyC.ty rfl (hatl _)) rfl rfl ?_ | refine qv rfl (qlen Und.eq rfl) rfl rfl ?_ | refine qv rfl (rr_lss rfl rfl (qT (by omega))) rfl rfl ?_ | refine qv rfl (rr_lss rfl rfl (qF (by omega))) rfl rfl ?_ | refine qv rfl (rr_add64 rfl rfl (by omega) (by omega) rfl) rfl rfl ?_ | refine qv rfl (qfld FldC.fld rfl rfl) rfl rfl ?_))
      refine T_ord ([blkO g4 #[.slice (some ⟨bc, offc, none⟩) cl.length cc, vr, vf, vfol, vl, ve] 28, blkO g7 #[.int .u8 (b : Int)] 5]) (.calm 0 (.calm 1 (.calm 2 (.one 3 (.calm 4 (.calm 5 (.calm 6 (.calm 7 (.calm 8 (.calm 9 (.calm 10 (.one 11 (.calm 12 (.calm 13 (.one 14 (.done)))))))))))))))) (sub_pick [1, 2] (by decide) rfl) (by kernel_rfl) (by kernel_rfl) (by intro c a d v w h; cases d <;> exact h) ?_
      repeat (first
        | ((first | refine TW_plain rfl rfl ?_ | refine TW_gmet rfl rfl rfl rfl ?_); first | refine TN_val (qp rfl) rfl rfl ?_ | refine TN_val (rr_aidx1 Und.eq TyC.ty rfl rfl (by omega)) rfl rfl ?_ | refine TN_val (qlen Und.eq rfl) rfl rfl ?_ | refine TN_val (rr_lss rfl rfl (qT (by omega))) rfl rfl ?_ | refine TN_val (rr_lss rfl rfl (qF (by omega))) rfl rfl ?_ | refine TN_val (rr_add64 rfl rfl (by omega) (by omega) rfl) rfl rfl ?_ | refine TN_val (qfld FldC.fld rfl rfl) rfl rfl ?_)
        | refine TW_skip rfl rfl rfl rfl rfl rfl rfl ?_ | refine TW_done ?_)
      refine TW_one rfl (TL_val (rr_load1 (v := .bool false) TyC.ty rfl (at_blk (i := 0) rfl (by rw [Nat.zero_add]; exact hI))) rfl rfl rfl (TW_on (sub_pick [1, 2] (by decide) rfl) ?_))
      repeat (first
        | ((first | refine TW_plain rfl rfl ?_ | refine TW_gmet rfl rfl rfl rfl ?_); first | refine TN_val (qp rfl) rfl rfl ?_ | refine TN_val (rr_load1 (v := .slice (some ⟨bc, offc, none⟩) cl.length cc) TyC.ty rfl (at_blk (i := 0) rfl rfl)) rfl rfl ?_ | refine TN_val (rr_idxc Und.eq TyC.ty rfl rfl hxn) rfl rfl ?_ | refine TN_val (rr_loadN (cs := clsL c) TyC.ty rfl rfl (fun j v hj => hat7 j v hj _)) rfl rfl ?_ | refine TN_val (rr_load1 (v := .int .u8 (b : Int)) TyC.ty rfl (at_blk (i := 1) rfl rfl)) rfl rfl ?_ | refine TN_val (qlen Und.eq rfl) rfl rfl ?_ | refine TN_val (rr_lss rfl rfl (qT (by omega))) rfl rfl ?_ | refine TN_val (rr_lss rfl rfl (qF (by omega))) rfl rfl ?_ | refine TN_val (rr_add64 rfl rfl (by omega) (by omega) rfl) rfl rfl ?_ | refine TN_val (qfld FldC.fld rfl rfl) rfl rfl ?_)
        | refine TW_skip rfl rfl rfl rfl rfl rfl rfl ?_ | refine TW_done ?_)
      refine TW_one rfl (TL_metg rfl rfl rfl (TL_call (he2 EntersC.en rfl rfl rfl) (fun w hm => hhas w) rfl rfl rfl fun _ _ => (TW_on (sub_pick [1, 2] (by decide) rfl) ?_)))
      repeat (first
        | ((first | refine TW_plain rfl rfl ?_ | refine TW_gmet rfl rfl rfl rfl ?_); first | refine TN_val (qp rfl) rfl rfl ?_ | refine TN_val (rr_aidx1 Und.eq TyC.ty rfl rfl (by omega)) rfl rfl ?_ | refine TN_val (qlen Und.eq rfl) rfl rfl ?_ | refine TN_val (rr_lss rfl rfl (qT (by omega))) rfl rfl ?_ | refine TN_val (rr_lss rfl rfl (qF (by omega))) rfl rfl ?_ | refine TN_val (rr_add64 rfl rfl (by omega) (by omega) rfl) rfl rfl ?_ | refine TN_val (qfld FldC.fld rfl rfl) rfl rfl ?_)
        | refine TW_skip rfl rfl rfl rfl rfl rfl rfl ?_ | refine TW_done ?_)
      refine TW_one rfl (TL_store1 (i := 0) rfl rfl rfl rfl rfl (by rw [Nat.blt_eq, boolA_size]; omega) (TW_on (sub_pick [1, 2] (by decide) rfl) ?_))
      repeat (first
        | ((first | refine TW_plain rfl rfl ?_ | refine TW_gmet rfl rfl rfl rfl ?_); first | refine TN_val (qp rfl) rfl rfl ?_ | refine TN_val (qlen Und.eq rfl) rfl rfl ?_ | refine TN_val (rr_lss rfl rfl (qT (by omega))) rfl rfl ?_ | refine TN_val (rr_lss rfl rfl (qF (by omega))) rfl rfl ?_ | refine TN_val (rr_add64 rfl rfl (by omega) (by omega) rfl) rfl rfl ?_ | refine TN_val (qfld FldC.fld rfl rfl) rfl rfl ?_)
        | refine TW_skip rfl rfl rfl rfl rfl rfl rfl ?_ | refine TW_done ?_)
      repeat (first
        | refine qv rfl (qp rfl) rfl rfl ?_ | refine TL_nil ?_ | refine T_seq ?_ | refine T_region ?_ | refine qcT rfl ?_ | refine qcF rfl ?_ | refine T_skip ?_
        | refine T_exit ?_ | refine T_block ?_ | refine E_then ?_ | refine E_thenX ?_ | refine E_thenR ?_ | refine E_blockN ?_ | refine E_blockR ?_
        | refine E_blockX ?_ | refine E_blockO rfl ?_ | refine qs rfl rfl rfl rfl rfl rfl ?_
        | ((try refine qg rfl rfl rfl ?_); first | refine qv rfl (qp rfl) rfl rfl ?_ | refine qv rfl (qlen Und.eq rfl) rfl rfl ?_ | refine qv rfl (rr_lss rfl rfl (qT (by omega))) rfl rfl ?_ | refine qv rfl (rr_lss rfl rfl (qF (by omega))) rfl rfl ?_ | refine qv rfl (rr_add64 rfl rfl (by omega) (by omega) rfl) rfl rfl ?_ | refine qv rfl (qfld FldC.fld rfl rfl) rfl rfl ?_))
      refine E_pick [0, 1, 2] (by decide) rfl ?_
      exact E_round (k + 1) (by omega) (by show l.length - (k + 1) < l.length - k; omega) (by repeat' (first | exact True.intro | refine And.intro rfl ?_)) (by unfold inO; rw [← hs]; rfl)
  · obtain rfl : k = l.length := by omega
    rw [List.take_of_length_le (Nat.le_refl _)]
    repeat (first
      | refine qv rfl (qp rfl) rfl rfl ?_ | refine TL_nil ?_ | refine T_seq ?_ | refine T_region ?_ | refine qcT rfl ?_ | refine qcF rfl ?_ | refine T_skip ?_
      | refine T_exit ?_ | refine T_block ?_ | refine E_then ?_ | refine E_thenX ?_ | refine E_thenR ?_ | refine E_blockN ?_ | refine E_blockR ?_
      | refine E_blockX ?_ | refine E_blockO rfl ?_ | refine qs rfl rfl rfl rfl rfl rfl ?_
      | ((try refine qg rfl rfl rfl ?_); first | refine qv rfl (qp rfl) rfl rfl ?_ | refine qv rfl (qlen Und.eq rfl) rfl rfl ?_ | refine qv rfl (rr_lss rfl rfl (qT (by omega))) rfl rfl ?_ | refine qv rfl (rr_lss rfl rfl (qF (by omega))) rfl rfl ?_ | refine qv rfl (rr_add64 rfl rfl (by omega) (by omega) rfl) rfl rfl ?_ | refine qv rfl (qfld FldC.fld rfl rfl) rfl rfl ?_))
    exact E_end0 rfl fun w hm => hm.meetsB (S := markSp g9 g4 g7 #[.slice ac cl.length cc, vr, vf, vfol, vl, ve] b (markB cl b ins l)) () trivial [0, 1, 2] (by decide) rfl
end Go.Proofs.YtndbaalenclgaaaDoor.eng

/- PlTs -/
namespace Go.Proofs.YtndbaalenclgaaaDoor.eng
open Go.RowKit kit mix classL rexL placesL
theorem trues_push (l : List Bool) (k : Nat) (h : l.getD k false = true) : (truesTo l (k + 1)).map (Value.int .i64) = (truesTo l k).map (Value.int .i64) ++ [.int .i64 (k : Int)] := by
  rw [trues_succ, if_pos h, List.map_append]; rfl
theorem trues_skip (l : List Bool) (k : Nat) (h : ¬ l.getD k false = true) : truesTo l (k + 1) = truesTo l k := by
  rw [trues_succ, if_neg h, List.append_nil]
theorem trues_push_len (l : List Bool) (k : Nat) (h : l.getD k false = true) : (truesTo l (k + 1)).length = (truesTo l k).length + 1 := by
  rw [trues_succ, if_pos h, List.length_append]; rfl
set_option maxHeartbeats 4000000 in
theorem step_calls (v : Value) (m : MS) (vn : Value) (now : List Int) (isF : Bool) (b : Nat) (w : World) (hp : PosR w v m) (h : MOkP m) (hn : Sl w vn now.length (now.flatMap kit.intC)) (hr : Ris m.ps.classes.length now) (hb : b < 256) :
    Calls Tryd.prog 22 #[v, vn, .bool isF, .int .u8 (b : Int)] w (Meets (intRS (stepP m now isF b)) w) := by
  obtain ⟨vc, vr, vf, vfol, vl, ve, rfl, h1, h2, h3, h4, h5, h6⟩ := hp
  have h1' := h1
  obtain ⟨ac, cc, rfl, -⟩ := h1'
  have hmk := fun (u : Value) (l : List Int) (hu : Sl w u l.length (l.flatMap kit.intC)) (hl : Ris m.ps.classes.length l) (ins : List Bool) (hi : ins.length = 200) (g9 g4 g7 : Nat) w' B ho hm => mark_calls w m.ps.classes ac cc h1 vr vf vfol vl ve u l hu hl h.few ins hi b hb g9 g4 g7 w' B ho hm
  have hfirst := h.ok.first
  have hri := h.ok.ps.ris
  have hlf := h.ok.ps.follow
  clear h h1 h2 h5 h6
  obtain ⟨afo, cfo, rfl, _, _, hrf⟩ := h4
  obtain ⟨an, cn, rfl, _, hmn, hrn⟩ := hn
  unfold maxLen at *
  have hnl := ris_len hr
  refine enter (args := [.agg #[.slice ac m.ps.classes.length cc, vr, vf, .slice afo m.ps.follow.length cfo, vl, ve], .slice an now.length cn, .bool isF, .int .u8 (b : Int)]) (n := 48) Tryd.func22 rfl rfl rfl ?_
  refine T_seq (T_region (TL_box rfl rfl rfl fun g4 => TL_box rfl rfl rfl fun g7 => ?_))
  conv => arg 8; simp only [zA, zB, zC, zD, zE, zF, zG, zH, zI, rowS, ret, id_eq]
  repeat (first
    | refine qv rfl (qp rfl) rfl rfl ?_ | refine TL_nil ?_ | refine T_seq ?_ | refine T_region ?_ | refine qcT rfl ?_ | refine qcF rfl ?_ | refine T_skip ?_
    | refine T_exit ?_ | refine T_ret ?_ | refine T_block ?_ | refine E_then ?_ | refine E_thenX ?_ | refine E_thenR ?_ | refine E_blockN ?_
    | refine E_blockR ?_ | refine E_blockX ?_ | refine E_blockO rfl ?_ | refine qv rfl (qlen Und.eq rfl) rfl rfl ?_
    | refine qv rfl (qfld FldC.fld rfl rfl) rfl rfl ?_ | refine qv rfl (rr_lss rfl rfl (qT (by omega))) rfl rfl ?_
    | refine qv rfl (rr_lss rfl rfl (qF (by omega))) rfl rfl ?_ | refine qv rfl (rr_add64 rfl rfl (by omega) (by omega) rfl) rfl rfl ?_)
  refine TL_new rfl fun g9 => ?_
  conv => arg 8; simp only [zA, zB, zC, zD, zE, zF, zG, zH, zI, rowS, ret, id_eq]
  repeat (first
    | refine qv rfl (qp rfl) rfl rfl ?_ | refine TL_nil ?_ | refine T_seq ?_ | refine T_region ?_ | refine qcT rfl ?_ | refine qcF rfl ?_ | refine T_skip ?_
    | refine T_exit ?_ | refine T_ret ?_ | refine T_block ?_ | refine E_then ?_ | refine E_thenX ?_ | refine E_thenR ?_ | refine E_blockN ?_
    | refine E_blockR ?_ | refine E_blockX ?_ | refine E_blockO rfl ?_ | refine qv rfl (rr_func rfl rfl) rfl rfl ?_
    | refine qv rfl (qlen Und.eq rfl) rfl rfl ?_ | refine qv rfl (qfld FldC.fld rfl rfl) rfl rfl ?_
    | refine qv rfl (rr_lss rfl rfl (qT (by omega))) rfl rfl ?_ | refine qv rfl (rr_lss rfl rfl (qF (by omega))) rfl rfl ?_
    | refine qv rfl (rr_add64 rfl rfl (by omega) (by omega) rfl) rfl rfl ?_)
  rw [boolA_rep 200]
  (repeat refine T_seq ?_)
  refine T_midq (ι := Unit) (fun _ => True) (fun _ => [(1, .slice an now.length cn), (4, .pointer (some ⟨g4, 0, none⟩)), (9, .pointer (some ⟨g9, 0, none⟩)), (10, .func (.func 27) #[] #[.pointer (some ⟨g9, 0, none⟩), .pointer (some ⟨g4, 0, none⟩), .pointer (some ⟨g7, 0, none⟩)])])
    (fun _ => [inO g9 (insF m.ps m.first [] isF b), blkO g4 #[.slice ac m.ps.classes.length cc, vr, vf, .slice afo m.ps.follow.length cfo, vl, ve] 28, blkO g7 #[.int .u8 (b : Int)] 5]) ?_ ?_
  · cases isF with
    | true =>
      repeat (first
        | refine qv rfl (qp rfl) rfl rfl ?_ | refine TL_nil ?_ | refine T_seq ?_ | refine T_region ?_ | refine qcT rfl ?_ | refine qcF rfl ?_ | refine T_skip ?_
        | refine T_exit ?_ | refine T_ret ?_ | refine T_block ?_ | refine E_then ?_ | refine E_thenX ?_ | refine E_thenR ?_ | refine E_blockN ?_
        | refine E_blockR ?_ | refine E_blockX ?_ | refine E_blockO rfl ?_ | refine qv rfl (rr_load1 (v := vf) TyC.ty rfl (at_blk (i := 0) rfl rfl)) rfl rfl ?_
        | refine qv rfl (qlen Und.eq rfl) rfl rfl ?_ | refine qv rfl (qfld FldC.fld rfl rfl) rfl rfl ?_
        | refine qv rfl (rr_lss rfl rfl (qT (by omega))) rfl rfl ?_ | refine qv rfl (rr_lss rfl rfl (qF (by omega))) rfl rfl ?_
        | refine qv rfl (rr_add64 rfl rfl (by omega) (by omega) rfl) rfl rfl ?_)
      refine TL_callB [2, 0, 1] [] (by decide) rfl rfl (he1c EntersC.en rfl rfl) (fun w' hm' hb => hmk vf m.first h3 hfirst _ List.length_replicate g9 g4 g7 w' _ ((Old.self w).on hm' (by simp)) hb) rfl rfl rfl ?_
      intro _ _
      conv => arg 8; simp only [zA, zB, zC, zD, zE, zF, zG, zH, zI, rowS, ret, id_eq, markSp]
      repeat (first
        | refine qv rfl (qp rfl) rfl rfl ?_ | refine TL_nil ?_ | refine T_seq ?_ | refine T_region ?_ | refine qcT rfl ?_ | refine qcF rfl ?_ | refine T_skip ?_
        | refine T_exit ?_ | refine T_ret ?_ | refine T_block ?_ | refine E_then ?_ | refine E_thenX ?_ | refine E_thenR ?_ | refine E_blockN ?_
        | refine E_blockR ?_ | refine E_blockX ?_ | refine E_blockO rfl ?_ | refine qv rfl (qlen Und.eq rfl) rfl rfl ?_
        | refine qv rfl (qfld FldC.fld rfl rfl) rfl rfl ?_ | refine qv rfl (rr_lss rfl rfl (qT (by omega))) rfl rfl ?_
        | refine qv rfl (rr_lss rfl rfl (qF (by omega))) rfl rfl ?_ | refine qv rfl (rr_add64 rfl rfl (by omega) (by omega) rfl) rfl rfl ?_)
      exact E_mid () trivial (by repeat' (first | exact True.intro | refine And.intro rfl ?_)) rfl
    | false =>
      repeat (first
        | refine qv rfl (qp rfl) rfl rfl ?_ | refine TL_nil ?_ | refine T_seq ?_ | refine T_region ?_ | refine qcT rfl ?_ | refine qcF rfl ?_ | refine T_skip ?_
        | refine T_exit ?_ | refine T_ret ?_ | refine T_block ?_ | refine E_then ?_ | refine E_thenX ?_ | refine E_thenR ?_ | refine E_blockN ?_
        | refine E_blockR ?_ | refine E_blockX ?_ | refine E_blockO rfl ?_ | refine qv rfl (qlen Und.eq rfl) rfl rfl ?_
        | refine qv rfl (qfld FldC.fld rfl rfl) rfl rfl ?_ | refine qv rfl (rr_lss rfl rfl (qT (by omega))) rfl rfl ?_
        | refine qv rfl (rr_lss rfl rfl (qF (by omega))) rfl rfl ?_ | refine qv rfl (rr_add64 rfl rfl (by omega) (by omega) rfl) rfl rfl ?_)
      refine E_pick [2, 0, 1] (by decide) rfl ?_
      exact E_mid () trivial (by repeat' (first | exact True.intro | refine And.intro rfl ?_)) rfl
  intro _ _
  repeat (first
    | refine qv rfl (qp rfl) rfl rfl ?_ | refine TL_nil ?_ | refine T_seq ?_ | refine T_region ?_ | refine qcT rfl ?_ | refine qcF rfl ?_ | refine T_skip ?_
    | refine T_exit ?_ | refine T_ret ?_ | refine T_block ?_ | refine E_then ?_ | refine E_thenX ?_ | refine E_thenR ?_ | refine E_blockN ?_
    | refine E_blockR ?_ | refine E_blockX ?_ | refine E_blockO rfl ?_ | refine qv rfl (qlen Und.eq rfl) rfl rfl ?_
    | refine qv rfl (qfld FldC.fld rfl rfl) rfl rfl ?_ | refine qv rfl (rr_lss rfl rfl (qT (by omega))) rfl rfl ?_
    | refine qv rfl (rr_lss rfl rfl (qF (by omega))) rfl rfl ?_ | refine qv rfl (rr_add64 rfl rfl (by omega) (by omega) rfl) rfl rfl ?_)
  refine T_loop (ι := Nat) (fun k => k ≤ now.length) (fun k => [(4, .pointer (some ⟨g4, 0, none⟩)), (9, .pointer (some ⟨g9, 0, none⟩)), (10, .func (.func 27) #[] #[.pointer (some ⟨g9, 0, none⟩), .pointer (some ⟨g4, 0, none⟩), .pointer (some ⟨g7, 0, none⟩)]), (22, .slice an now.length cn), (23, .int .i64 now.length), (24, .int .i64 (k : Int))])
    (fun k => [inO g9 (insF m.ps m.first (now.take k) isF b), blkO g4 #[.slice ac m.ps.classes.length cc, vr, vf, .slice afo m.ps.follow.length cfo, vl, ve] 28, blkO g7 #[.int .u8 (b : Int)] 5]) (fun k => now.length - k) 0 (Nat.zero_le _) (by repeat' (first | exact True.intro | refine And.intro rfl ?_)) rfl ?_
  intro k hk
  by_cases c1 : k < now.length
  · have hx := hr.2 _ (List.getElem_mem c1)
    have hst := insF_step m.ps m.first now isF b c1
    obtain ⟨bn, offn, rfl, hrnd⟩ := hrn (by omega)
    obtain ⟨bf, offf, rfl, _, hrfd⟩ := hrf (by omega)
    have hatn := fun (L : List Own) => at_el (L := L) SmIn_len hrnd c1 0 _ rfl
    have hlen := insF_len m.ps m.first (now.take k) isF b
    generalize now[k] = x at *
    obtain ⟨xn, rfl⟩ := Int.eq_ofNat_of_zero_le hx.1
    have hxn : xn < m.ps.follow.length := by omega
    rw [Int.toNat_natCast, List.getD_eq_getElem?_getD, List.getElem?_eq_getElem hxn, Option.getD_some] at hst
    obtain ⟨u, hu, hd⟩ := fol_at hrfd hxn
    have hatf := fun (L : List Own) => at_rd (L := L) hd (j := 0) (v := u) rfl
    have hrx := hri _ (List.getElem_mem hxn)
    generalize m.ps.follow[xn] = l at *
    repeat (first
      | refine qv rfl (qp rfl) rfl rfl ?_ | refine TL_nil ?_ | refine T_seq ?_ | refine T_region ?_ | refine qcT rfl ?_ | refine qcF rfl ?_ | refine T_skip ?_
      | refine T_exit ?_ | refine T_ret ?_ | refine T_block ?_ | refine E_then ?_ | refine E_thenX ?_ | refine E_thenR ?_ | refine E_blockN ?_
      | refine E_blockR ?_ | refine E_blockX ?_ | refine E_blockO rfl ?_ | refine qv rfl (rr_idxc Und.eq TyC.ty rfl rfl c1) rfl rfl ?_
      | refine qv rfl (rr_load1 (v := .int .i64 (xn : Int)) TyC.ty rfl (hatn _)) rfl rfl ?_
      | refine qv rfl (rr_load1 (v := .slice (some ⟨bf, offf, none⟩) m.ps.follow.length cfo) TyC.ty rfl (at_blk (i := 1) rfl rfl)) rfl rfl ?_
      | refine qv rfl (rr_idxc Und.eq TyC.ty rfl rfl hxn) rfl rfl ?_ | refine qv rfl (rr_load1 (v := u) TyC.ty rfl (hatf _)) rfl rfl ?_
      | refine qv rfl (qlen Und.eq rfl) rfl rfl ?_ | refine qv rfl (qfld FldC.fld rfl rfl) rfl rfl ?_
      | refine qv rfl (rr_lss rfl rfl (qT (by omega))) rfl rfl ?_ | refine qv rfl (rr_lss rfl rfl (qF (by omega))) rfl rfl ?_
      | refine qv rfl (rr_add64 rfl rfl (by omega) (by omega) rfl) rfl rfl ?_)
    refine TL_callB [0, 1, 2] [] (by decide) rfl rfl (he1c EntersC.en rfl rfl) (fun w' hm' hb => hmk u l hu hrx _ hlen g9 g4 g7 w' _ ((Old.self w).on hm' (by simp)) hb) rfl rfl rfl ?_
    intro _ _
    conv => arg 8; simp only [zA, zB, zC, zD, zE, zF, zG, zH, zI, rowS, ret, id_eq, markSp]
    repeat (first
      | refine qv rfl (qp rfl) rfl rfl ?_ | refine TL_nil ?_ | refine T_seq ?_ | refine T_region ?_ | refine qcT rfl ?_ | refine qcF rfl ?_ | refine T_skip ?_
      | refine T_exit ?_ | refine T_ret ?_ | refine T_block ?_ | refine E_then ?_ | refine E_thenX ?_ | refine E_thenR ?_ | refine E_blockN ?_
      | refine E_blockR ?_ | refine E_blockX ?_ | refine E_blockO rfl ?_ | refine qv rfl (qlen Und.eq rfl) rfl rfl ?_
      | refine qv rfl (qfld FldC.fld rfl rfl) rfl rfl ?_ | refine qv rfl (rr_lss rfl rfl (qT (by omega))) rfl rfl ?_
      | refine qv rfl (rr_lss rfl rfl (qF (by omega))) rfl rfl ?_ | refine qv rfl (rr_add64 rfl rfl (by omega) (by omega) rfl) rfl rfl ?_)
    exact E_round (k + 1) (by omega) (by show now.length - (k + 1) < now.length - k; omega) (by repeat' (first | exact True.intro | refine And.intro rfl ?_)) (by rw [hst])
  · obtain rfl : k = now.length := by omega
    rw [List.take_of_length_le (Nat.le_refl _)]
    have hlen := insF_len m.ps m.first now isF b
    unfold stepP
    generalize insF m.ps m.first now isF b = I at *
    clear hmk hrf hrn h3 hri
    repeat (first
      | refine qv rfl (qp rfl) rfl rfl ?_ | refine TL_nil ?_ | refine T_seq ?_ | refine T_region ?_ | refine qcT rfl ?_ | refine qcF rfl ?_ | refine T_skip ?_
      | refine T_exit ?_ | refine T_ret ?_ | refine T_block ?_ | refine E_then ?_ | refine E_thenX ?_ | refine E_thenR ?_ | refine E_blockN ?_
      | refine E_blockR ?_ | refine E_blockX ?_ | refine E_blockO rfl ?_
      | refine qv rfl (rr_loadB (i := 0) TyC.ty rfl rfl (by rw [boolA_size]; exact hlen)) rfl rfl ?_ | refine qv rfl (qlen Und.eq rfl) rfl rfl ?_
      | refine qv rfl (qfld FldC.fld rfl rfl) rfl rfl ?_ | refine qv rfl (rr_lss rfl rfl (qT (by omega))) rfl rfl ?_
      | refine qv rfl (rr_lss rfl rfl (qF (by omega))) rfl rfl ?_ | refine qv rfl (rr_add64 rfl rfl (by omega) (by omega) rfl) rfl rfl ?_)
    refine T_pick [] (by decide) rfl ?_
    refine T_nil 3 1 ?_
    refine T_loop (ι := Nat × Value) (fun (k, _) => k ≤ 200) (fun (k, v) => [(13, v), (36, .agg (boolA I)), (37, .int .i64 (k : Int))]) (fun (k, v) => [intR v (truesTo I k)]) (fun (k, _) => 200 - k) (0, .slice none 0 0) (Nat.zero_le _) (by repeat' (first | exact True.intro | refine And.intro rfl ?_)) rfl ?_
    rintro ⟨k, v⟩ hk
    dsimp only at hk ⊢
    by_cases c1 : k < 200
    · have hI := boolA_get (l := I) (k := k) (by omega)
      have htl := trues_len I k
      by_cases c2 : I.getD k false = true
      · have hp := trues_push I k c2
        have hpl := trues_push_len I k c2
        rw [c2] at hI
        repeat (first
          | refine qv rfl (qp rfl) rfl rfl ?_ | refine TL_nil ?_ | refine T_seq ?_ | refine T_region ?_ | refine qcT rfl ?_ | refine qcF rfl ?_ | refine T_skip ?_
          | refine T_exit ?_ | refine T_ret ?_ | refine T_block ?_ | refine E_then ?_ | refine E_thenX ?_ | refine E_thenR ?_ | refine E_blockN ?_
          | refine E_blockR ?_ | refine E_blockX ?_ | refine E_blockO rfl ?_ | refine qv rfl (rr_arridx Und.eq TyC.ty rfl rfl c1 hI) rfl rfl ?_
          | refine qv rfl (qlen Und.eq rfl) rfl rfl ?_ | refine qv rfl (qfld FldC.fld rfl rfl) rfl rfl ?_
          | refine qv rfl (rr_lss rfl rfl (qT (by omega))) rfl rfl ?_ | refine qv rfl (rr_lss rfl rfl (qF (by omega))) rfl rfl ?_
          | refine qv rfl (rr_add64 rfl rfl (by omega) (by omega) rfl) rfl rfl ?_)
        refine TL_push1 (i := 0) rfl rfl rfl rfl rfl rfl (fun z h => by cases h; rfl) (by omega) (by omega) rfl fun z' v' => ?_
        repeat (first
          | refine qv rfl (qp rfl) rfl rfl ?_ | refine TL_nil ?_ | refine T_seq ?_ | refine T_region ?_ | refine qcT rfl ?_ | refine qcF rfl ?_ | refine T_skip ?_
          | refine T_exit ?_ | refine T_ret ?_ | refine T_block ?_ | refine E_then ?_ | refine E_thenX ?_ | refine E_thenR ?_ | refine E_blockN ?_
          | refine E_blockR ?_ | refine E_blockX ?_ | refine E_blockO rfl ?_ | refine qv rfl (qlen Und.eq rfl) rfl rfl ?_
          | refine qv rfl (qfld FldC.fld rfl rfl) rfl rfl ?_ | refine qv rfl (rr_lss rfl rfl (qT (by omega))) rfl rfl ?_
          | refine qv rfl (rr_lss rfl rfl (qF (by omega))) rfl rfl ?_ | refine qv rfl (rr_add64 rfl rfl (by omega) (by omega) rfl) rfl rfl ?_)
        exact E_round (k + 1, v') (by show k + 1 ≤ 200; omega) (by show 200 - (k + 1) < 200 - k; omega) (by repeat' (first | exact True.intro | refine And.intro rfl ?_)) (by dsimp only [intR]; rw [hp, hpl]; rfl)
      · have hp := trues_skip I k c2
        rw [Bool.eq_false_iff.2 c2] at hI
        repeat (first
          | refine qv rfl (qp rfl) rfl rfl ?_ | refine TL_nil ?_ | refine T_seq ?_ | refine T_region ?_ | refine qcT rfl ?_ | refine qcF rfl ?_ | refine T_skip ?_
          | refine T_exit ?_ | refine T_ret ?_ | refine T_block ?_ | refine E_then ?_ | refine E_thenX ?_ | refine E_thenR ?_ | refine E_blockN ?_
          | refine E_blockR ?_ | refine E_blockX ?_ | refine E_blockO rfl ?_ | refine qv rfl (rr_arridx Und.eq TyC.ty rfl rfl c1 hI) rfl rfl ?_
          | refine qv rfl (qlen Und.eq rfl) rfl rfl ?_ | refine qv rfl (qfld FldC.fld rfl rfl) rfl rfl ?_
          | refine qv rfl (rr_lss rfl rfl (qT (by omega))) rfl rfl ?_ | refine qv rfl (rr_lss rfl rfl (qF (by omega))) rfl rfl ?_
          | refine qv rfl (rr_add64 rfl rfl (by omega) (by omega) rfl) rfl rfl ?_)
        exact E_round (k + 1, v) (by show k + 1 ≤ 200; omega) (by show 200 - (k + 1) < 200 - k; omega) (by repeat' (first | exact True.intro | refine And.intro rfl ?_)) (by dsimp only; rw [hp])
    · obtain rfl : k = 200 := by omega
      repeat (first
        | refine qv rfl (qp rfl) rfl rfl ?_ | refine TL_nil ?_ | refine T_seq ?_ | refine T_region ?_ | refine qcT rfl ?_ | refine qcF rfl ?_ | refine T_skip ?_
        | refine T_exit ?_ | refine T_ret ?_ | refine T_block ?_ | refine E_then ?_ | refine E_thenX ?_ | refine E_thenR ?_ | refine E_blockN ?_
        | refine E_blockR ?_ | refine E_blockX ?_ | refine E_blockO rfl ?_ | refine qv rfl (qlen Und.eq rfl) rfl rfl ?_
        | refine qv rfl (qfld FldC.fld rfl rfl) rfl rfl ?_ | refine qv rfl (rr_lss rfl rfl (qT (by omega))) rfl rfl ?_
        | refine qv rfl (rr_lss rfl rfl (qF (by omega))) rfl rfl ?_ | refine qv rfl (rr_add64 rfl rfl (by omega) (by omega) rfl) rfl rfl ?_)
      exact E_ret1 rfl rfl fun w hm => hm.meets (S := intRS (truesTo I 200)) v trivial [0] (by decide) rfl
end Go.Proofs.YtndbaalenclgaaaDoor.eng

/- PlX -/
namespace Go.Proofs.YtndbaalenclgaaaDoor.eng
open Go.RowKit kit mix classL rexL placesL
def runS2 (l : List Int) : Spec Value := ⟨fun _ => True, fun v => .tuple #[v, .int .i64 0], fun v => [intR v l]⟩
set_option maxHeartbeats 4000000 in
theorem posRun_calls (v : Value) (m : MS) (s : List UInt8) (w : World) (hp : PosR w v m) (h : MOkP m) (hs : s.length ≤ 200) :
    Calls Tryd.prog 14 #[v, str s] w (Meets (runS2 (runP m s)) w) := by
  have hck := fun w' (hg : Gr w w') => posCheck_calls v m w' (hp.gr hg) h
  have hst := fun vn now isF b w' (hg : Gr w w') hn hr hb => step_calls v m vn now isF b w' (hp.gr hg) h hn hr hb
  have hri := runPin h
  clear h
  obtain ⟨vc, vr, vf, vfol, vl, ve, rfl, h1, h2, h3, h4, h5, h6⟩ := hp
  obtain ⟨a1, c1, rfl, -⟩ := h1
  obtain ⟨a2, c2, rfl, -⟩ := h2
  obtain ⟨a3, c3, rfl, -⟩ := h3
  obtain ⟨a4, c4, rfl, -⟩ := h4
  obtain ⟨a5, c5, rfl, -⟩ := h5
  obtain ⟨a6, c6, rfl, -⟩ := h6
  have hrs := fun k (hk : k < s.length) => run_step m s hk
  have hrn : runP m [] = [] := rfl
  generalize m.ps.classes.length = n1 at *
  generalize m.ps.rules.length = n2 at *
  generalize m.first.length = n3 at *
  generalize m.ps.follow.length = n4 at *
  generalize m.ps.last.length = n5 at *
  generalize m.empty.length = n6 at *
  refine enter (args := [.agg #[.slice a1 n1 c1, .slice a2 n2 c2, .slice a3 n3 c3, .slice a4 n4 c4, .slice a5 n5 c5, .slice a6 n6 c6], str s]) (n := 32) Tryd.func14 rfl rfl rfl ?_
  refine T_seq (T_region (TL_box rfl rfl rfl fun g2 => ?_))
  conv => arg 8; simp only [zA, zB, zC, zD, zE, zF, zG, zH, zI, rowS, ret, id_eq]
  repeat (first
    | refine qv rfl (qp rfl) rfl rfl ?_ | refine TL_nil ?_ | refine T_seq ?_ | refine T_region ?_ | refine qcT rfl ?_ | refine qcF rfl ?_ | refine T_skip ?_
    | refine T_exit ?_ | refine T_ret ?_ | refine T_block ?_ | refine E_then ?_ | refine E_thenX ?_ | refine E_thenR ?_ | refine E_blockN ?_
    | refine E_blockR ?_ | refine E_blockX ?_ | refine E_blockO rfl ?_ | refine qv rfl (rr_loadB (i := 0) TyC.ty rfl rfl rfl) rfl rfl ?_
    | refine qv rfl (rr_strlen Und.eq rfl) rfl rfl ?_ | refine qv rfl (rr_lss rfl rfl (qT (by omega))) rfl rfl ?_
    | refine qv rfl (rr_lss rfl rfl (qF (by omega))) rfl rfl ?_ | refine qv rfl (rr_gtr rfl rfl (qT (by omega))) rfl rfl ?_
    | refine qv rfl (rr_gtr rfl rfl (qF (by omega))) rfl rfl ?_ | refine qv rfl (rr_eql rfl rfl (qT (by omega))) rfl rfl ?_
    | refine qv rfl (rr_eql rfl rfl (qF (by omega))) rfl rfl ?_ | refine qv rfl (rr_neq rfl rfl (qT (by omega))) rfl rfl ?_
    | refine qv rfl (rr_neq rfl rfl (qF (by omega))) rfl rfl ?_ | refine qv rfl (rr_add64 rfl rfl (by omega) (by omega) rfl) rfl rfl ?_)
  refine TL_call (he1 EntersC.en rfl rfl) (fun w hm => hck _ hm.below) rfl rfl rfl ?_
  intro _ _
  conv => arg 8; simp only [zA, zB, zC, zD, zE, zF, zG, zH, zI, rowS, ret, id_eq]
  repeat (first
    | refine qv rfl (qp rfl) rfl rfl ?_ | refine TL_nil ?_ | refine T_seq ?_ | refine T_region ?_ | refine qcT rfl ?_ | refine qcF rfl ?_ | refine T_skip ?_
    | refine T_exit ?_ | refine T_ret ?_ | refine T_block ?_ | refine E_then ?_ | refine E_thenX ?_ | refine E_thenR ?_ | refine E_blockN ?_
    | refine E_blockR ?_ | refine E_blockX ?_ | refine E_blockO rfl ?_ | refine qv rfl (rr_neq (b := false) rfl rfl (decide_eq_false (by simp))) rfl rfl ?_
    | refine qv rfl (rr_gtr (b := false) rfl rfl (decide_eq_false (by omega))) rfl rfl ?_ | refine qv rfl (rr_strlen Und.eq rfl) rfl rfl ?_
    | refine qv rfl (rr_lss rfl rfl (qT (by omega))) rfl rfl ?_ | refine qv rfl (rr_lss rfl rfl (qF (by omega))) rfl rfl ?_
    | refine qv rfl (rr_gtr rfl rfl (qT (by omega))) rfl rfl ?_ | refine qv rfl (rr_gtr rfl rfl (qF (by omega))) rfl rfl ?_
    | refine qv rfl (rr_eql rfl rfl (qT (by omega))) rfl rfl ?_ | refine qv rfl (rr_eql rfl rfl (qF (by omega))) rfl rfl ?_
    | refine qv rfl (rr_neq rfl rfl (qT (by omega))) rfl rfl ?_ | refine qv rfl (rr_neq rfl rfl (qF (by omega))) rfl rfl ?_
    | refine qv rfl (rr_add64 rfl rfl (by omega) (by omega) rfl) rfl rfl ?_)
  refine T_nil 3 1 ?_
  refine T_loop (ι := Nat × Value) (fun (k, _) => k ≤ s.length) (fun (k, u) => [(1, str s), (2, .pointer (some ⟨g2, 0, none⟩)), (7, u), (18, .int .i64 s.length), (19, .int .i64 (k : Int))])
    (fun (k, u) => [blkO g2 #[.slice a1 n1 c1, .slice a2 n2 c2, .slice a3 n3 c3, .slice a4 n4 c4, .slice a5 n5 c5, .slice a6 n6 c6] 28, intR u (runP m (s.take k))]) (fun (k, _) => s.length - k) (0, .slice none 0 0) (Nat.zero_le _) (by repeat' (first | exact True.intro | refine And.intro rfl ?_)) rfl ?_
  rintro ⟨k, u⟩ hk
  dsimp only at hk ⊢
  by_cases q1 : k < s.length
  · have hr := hrs k q1
    have hb : s[(k : Int).toNat]? = some s[k] := by rw [Int.toNat_natCast]; exact List.getElem?_eq_getElem q1
    have hb8 := s[k].toNat_lt
    have hri := hri (s.take k)
    generalize s[k] = b at *
    generalize runP m (s.take k) = now at *
    repeat (first
      | refine qv rfl (qp rfl) rfl rfl ?_ | refine TL_nil ?_ | refine T_seq ?_ | refine T_region ?_ | refine qcT rfl ?_ | refine qcF rfl ?_ | refine T_skip ?_
      | refine T_exit ?_ | refine T_ret ?_ | refine T_block ?_ | refine E_then ?_ | refine E_thenX ?_ | refine E_thenR ?_ | refine E_blockN ?_
      | refine E_blockR ?_ | refine E_blockX ?_ | refine E_blockO rfl ?_ | refine qv rfl (rr_strlen Und.eq rfl) rfl rfl ?_
      | refine qv rfl (rr_lss rfl rfl (qT (by omega))) rfl rfl ?_ | refine qv rfl (rr_lss rfl rfl (qF (by omega))) rfl rfl ?_
      | refine qv rfl (rr_gtr rfl rfl (qT (by omega))) rfl rfl ?_ | refine qv rfl (rr_gtr rfl rfl (qF (by omega))) rfl rfl ?_
      | refine qv rfl (rr_eql rfl rfl (qT (by omega))) rfl rfl ?_ | refine qv rfl (rr_eql rfl rfl (qF (by omega))) rfl rfl ?_
      | refine qv rfl (rr_neq rfl rfl (qT (by omega))) rfl rfl ?_ | refine qv rfl (rr_neq rfl rfl (qF (by omega))) rfl rfl ?_
      | refine qv rfl (rr_add64 rfl rfl (by omega) (by omega) rfl) rfl rfl ?_)
    refine T_ord ([blkO g2 #[.slice a1 n1 c1, .slice a2 n2 c2, .slice a3 n3 c3, .slice a4 n4 c4, .slice a5 n5 c5, .slice a6 n6 c6] 28]) (.calm 0 (.calm 1 (.calm 2 (.calm 3 (.calm 4 (.calm 5 (.calm 6 (.one 7 (.calm 8 (.done)))))))))) (sub_pick [0] (by decide) rfl) (by kernel_rfl) (by kernel_rfl) (by intro c a d v w h; cases d <;> exact h) ?_
    repeat (first
      | ((first | refine TW_plain rfl rfl ?_ | refine TW_gmet rfl rfl rfl rfl ?_); first | refine TN_val (qp rfl) rfl rfl ?_ | refine TN_val (rr_loadB (i := 0) TyC.ty rfl rfl rfl) rfl rfl ?_ | refine TN_val (rr_eql (b := (k == 0)) rfl rfl (by by_cases h : k = 0 <;> simp [h])) rfl rfl ?_ | refine TN_val (rr_stridx Und.eq rfl rfl (by omega) hb) rfl rfl ?_ | refine TN_val (rr_strlen Und.eq rfl) rfl rfl ?_ | refine TN_val (rr_lss rfl rfl (qT (by omega))) rfl rfl ?_ | refine TN_val (rr_lss rfl rfl (qF (by omega))) rfl rfl ?_ | refine TN_val (rr_gtr rfl rfl (qT (by omega))) rfl rfl ?_ | refine TN_val (rr_gtr rfl rfl (qF (by omega))) rfl rfl ?_ | refine TN_val (rr_eql rfl rfl (qT (by omega))) rfl rfl ?_ | refine TN_val (rr_eql rfl rfl (qF (by omega))) rfl rfl ?_ | refine TN_val (rr_neq rfl rfl (qT (by omega))) rfl rfl ?_ | refine TN_val (rr_neq rfl rfl (qF (by omega))) rfl rfl ?_ | refine TN_val (rr_add64 rfl rfl (by omega) (by omega) rfl) rfl rfl ?_)
      | refine TW_done ?_)
    refine TW_one rfl (TL_call (he4 EntersC.en rfl rfl rfl rfl rfl) (fun w hm => hst u now (k == 0) b.toNat w hm.below (by rw [int_flat]; exact Sl.of_own (hm.get (i := 1) rfl)) hri hb8) rfl rfl rfl fun u' _ => (TW_on (sub_pick [0] (by decide) rfl) ?_))
    repeat (first
      | ((first | refine TW_plain rfl rfl ?_ | refine TW_gmet rfl rfl rfl rfl ?_); first | refine TN_val (qp rfl) rfl rfl ?_ | refine TN_val (rr_strlen Und.eq rfl) rfl rfl ?_ | refine TN_val (rr_lss rfl rfl (qT (by omega))) rfl rfl ?_ | refine TN_val (rr_lss rfl rfl (qF (by omega))) rfl rfl ?_ | refine TN_val (rr_gtr rfl rfl (qT (by omega))) rfl rfl ?_ | refine TN_val (rr_gtr rfl rfl (qF (by omega))) rfl rfl ?_ | refine TN_val (rr_eql rfl rfl (qT (by omega))) rfl rfl ?_ | refine TN_val (rr_eql rfl rfl (qF (by omega))) rfl rfl ?_ | refine TN_val (rr_neq rfl rfl (qT (by omega))) rfl rfl ?_ | refine TN_val (rr_neq rfl rfl (qF (by omega))) rfl rfl ?_ | refine TN_val (rr_add64 rfl rfl (by omega) (by omega) rfl) rfl rfl ?_)
      | refine TW_done ?_)
    repeat (first
      | refine qv rfl (qp rfl) rfl rfl ?_ | refine TL_nil ?_ | refine T_seq ?_ | refine T_region ?_ | refine qcT rfl ?_ | refine qcF rfl ?_ | refine T_skip ?_
      | refine T_exit ?_ | refine T_ret ?_ | refine T_block ?_ | refine E_then ?_ | refine E_thenX ?_ | refine E_thenR ?_ | refine E_blockN ?_
      | refine E_blockR ?_ | refine E_blockX ?_ | refine E_blockO rfl ?_ | refine qv rfl (rr_strlen Und.eq rfl) rfl rfl ?_
      | refine qv rfl (rr_lss rfl rfl (qT (by omega))) rfl rfl ?_ | refine qv rfl (rr_lss rfl rfl (qF (by omega))) rfl rfl ?_
      | refine qv rfl (rr_gtr rfl rfl (qT (by omega))) rfl rfl ?_ | refine qv rfl (rr_gtr rfl rfl (qF (by omega))) rfl rfl ?_
      | refine qv rfl (rr_eql rfl rfl (qT (by omega))) rfl rfl ?_ | refine qv rfl (rr_eql rfl rfl (qF (by omega))) rfl rfl ?_
      | refine qv rfl (rr_neq rfl rfl (qT (by omega))) rfl rfl ?_ | refine qv rfl (rr_neq rfl rfl (qF (by omega))) rfl rfl ?_
      | refine qv rfl (rr_add64 rfl rfl (by omega) (by omega) rfl) rfl rfl ?_)
    refine E_pick [0, 2] (by decide) rfl ?_
    exact E_round (k + 1, u') (by show k + 1 ≤ s.length; omega) (by show s.length - (k + 1) < s.length - k; omega) (by repeat' (first | exact True.intro | refine And.intro rfl ?_)) (by dsimp only; rw [hr]; rfl)
  · obtain rfl : k = s.length := by omega
    rw [List.take_of_length_le (Nat.le_refl _)]
    repeat (first
      | refine qv rfl (qp rfl) rfl rfl ?_ | refine TL_nil ?_ | refine T_seq ?_ | refine T_region ?_ | refine qcT rfl ?_ | refine qcF rfl ?_ | refine T_skip ?_
      | refine T_exit ?_ | refine T_ret ?_ | refine T_block ?_ | refine E_then ?_ | refine E_thenX ?_ | refine E_thenR ?_ | refine E_blockN ?_
      | refine E_blockR ?_ | refine E_blockX ?_ | refine E_blockO rfl ?_ | refine qv rfl (rr_strlen Und.eq rfl) rfl rfl ?_
      | refine qv rfl (rr_lss rfl rfl (qT (by omega))) rfl rfl ?_ | refine qv rfl (rr_lss rfl rfl (qF (by omega))) rfl rfl ?_
      | refine qv rfl (rr_gtr rfl rfl (qT (by omega))) rfl rfl ?_ | refine qv rfl (rr_gtr rfl rfl (qF (by omega))) rfl rfl ?_
      | refine qv rfl (rr_eql rfl rfl (qT (by omega))) rfl rfl ?_ | refine qv rfl (rr_eql rfl rfl (qF (by omega))) rfl rfl ?_
      | refine qv rfl (rr_neq rfl rfl (qT (by omega))) rfl rfl ?_ | refine qv rfl (rr_neq rfl rfl (qF (by omega))) rfl rfl ?_
      | refine qv rfl (rr_add64 rfl rfl (by omega) (by omega) rfl) rfl rfl ?_)
    exact E_ret2 rfl rfl rfl fun w hm => hm.meets (S := runS2 (runP m s)) u trivial [1] (by decide) rfl
end Go.Proofs.YtndbaalenclgaaaDoor.eng

/- CopyA -/
namespace Go.Proofs.YtndbaalenclgaaaDoor.eng
open Go.RowKit kit mix
section
variable {P : Program} {n : Nat} {W : Base} {fr : Fr} {L : List Own} {Q : Exit → Act → World → Prop} {rest : List Oper} {ops : Array Oper} {d : Nat} {dst : Option Tmp} {ty : TypeId} {pos : String} {after : Array Edge} {guard : Option (Nat × Bool)}
/-- an array as a slice -/
theorem rr_slarr {t e : TypeId} {x : Operand} {agg : Bool} {c len b : Nat} (ht : P.underlying t = some (.array len e)) (he : Ty P e agg c) (hx : ev fr x = some (.pointer (some ⟨b, 0, none⟩))) : RR P n W ⟨dst, .slice t x none none none, ty, pos, after, guard⟩ fr L (.slice (some ⟨b, 0, none⟩) len len) := .mk fun a w hr _ => by
  have e1 : (Instr.sliceAt t (.pointer (some ⟨b, 0, none⟩)) none none none).run P w = .ok (.slice (some ⟨b, 0, none⟩) len len) w := by
    simp [Instr.sliceAt, run_underlying ht, Instr.sureAddr, Instr.sliceBounds, Instr.sliceBound, he.size, Addr.add]
  simp [execOp, hr.ev hx, e1]
/-- a slice, into an array: cells of one each -/
theorem TL_copyA {tD tS e : TypeId} {s x : Operand} {i g len k cp : Nat} {cs cs' : Array Value} {ys : List Value} {T : TypeId} {a : Addr} (hu : P.underlying tD = some (.slice e)) (he : Ty P e false 1) (hi : L[i]? = some (blkO g cs T)) (hs : ev fr s = some (.slice (some ⟨g, 0, none⟩) len len)) (hx : ev fr x = some (.slice (some a) k cp))
    (hy : ∀ w, Mem W L w → ∀ j u, ys[j]? = some u → w.cell? (a.add j) = some u) (hl : ys.length = Nat.min k len) (h1 : ∀ u ∈ ys, u.oneCell' = true) (hfit : ys.length ≤ cs.size) (hcs : cs' = (ys ++ cs.toList.drop ys.length).toArray) (hn : Nat.blt d n = true)
    (h : TL P n W ops Q rest ((d, .int .i64 ys.length) :: fr) (L.set i (blkO g cs' T))) :
    TL P n W ops Q (⟨some d, .call { callee := .builtin .copy, args := #[s, x], argTypes := #[tD, tS] }, ty, pos, after, none⟩ :: rest) fr L := TL_any rfl fun act w hr hm K hK => by
  have hg : w.heap[g]? = some (.cells cs T (0, 0)) := hm.get hi
  have hsz : (P.info? e).map (·.size) = some 1 := by
    have := he.size
    simp only [sizeOf, typeInfo] at this
    cases hq : P.info? e with
    | none => simp [hq] at this
    | some q => simp [hq] at this; simp [this]
  have hrun := run_copy_row (P := P) w tD tS ty e g 0 len len a k cp cs T ys hu hsz hg hl (hy w hm) (by omega) h1
  simp only [List.take_zero, List.nil_append, Nat.zero_add] at hrun
  rw [← hcs] at hrun
  have e' : (execOp act.eval ⟨some d, .call { callee := .builtin .copy, args := #[s, x], argTypes := #[tD, tS] }, ty, pos, after, none⟩).run P w = .ok (.value (.int .i64 ys.length)) (w.setRow g cs') := by
    simp only [BigFrame.execOp_builtin, BigFrame.builtin_copy, List.map_toArray, List.map_cons, List.map_nil, hr.ev hs, hr.ev hx, Sem.run_bind, hrun, Result.andThen_ok, Sem.run_pure]
    rfl
  unfold Oper.wp; rw [e']
  exact hK _ _ (h.go _ _ (hr.put hn _) (hm.turn hi ⟨rfl, rfl, rfl, by simp, fun k _ hk => setRow_other w g k _ (fun e => hk (by subst e; rfl))⟩ (setRow_heap w g cs _ T _ hg) fun k hk => .inl hk))
end
end Go.Proofs.YtndbaalenclgaaaDoor.eng

/- PlY -/
namespace Go.Proofs.YtndbaalenclgaaaDoor.eng
open Go.RowKit kit mix classL rexL placesL
abbrev doO (g : Nat) (d : List Bool) : Own := blkO g (boolA d) 53
theorem copy_done {em : List Bool} (h : em.length ≤ 20) : (em.map Value.bool ++ (boolA (List.replicate 20 false)).toList.drop (em.map Value.bool).length).toArray = boolA (em ++ List.replicate (20 - em.length) false) := by
  unfold boolA
  rw [List.map_append, List.length_map]
  congr 2
  show List.drop _ (List.map Value.bool (List.replicate 20 false)) = _
  rw [List.map_replicate, List.map_replicate, List.drop_replicate]
def done0 (em : List Bool) (s : List UInt8) : List Bool := if s = [] then em ++ List.replicate (20 - em.length) false else List.replicate 20 false
theorem done0_len {em : List Bool} (h : em.length ≤ 20) (s : List UInt8) : (done0 em s).length = 20 := by
  unfold done0
  split
  · rw [List.length_append, List.length_replicate]; omega
  · rw [List.length_replicate]
set_option maxHeartbeats 4000000 in
theorem posRules_calls (v : Value) (m : MS) (s : List UInt8) (w : World) (hp : PosR w v m) (h : MOkP m) (hs : s.length ≤ 200) :
    Calls Tryd.prog 6 #[v, str s] w (Meets (runS2 (rulesP m s)) w) := by
  have hrun := fun w' (hg : Gr w w') => posRun_calls v m s w' (hp.gr hg) h hs
  have hri := runPin h s
  have hlr := h.ok.ps.rules
  have hll := h.ok.ps.last
  have hmr := h.rules
  have hmm := h.most
  have hms := h.some
  have h200 := h.few
  clear h
  obtain ⟨vc, vr, vf, vfol, vl, ve, rfl, h1, h2, h3, h4, h5, h6⟩ := hp
  obtain ⟨a1, c1, rfl, -⟩ := h1
  obtain ⟨a2, c2, rfl, -, -, hrr⟩ := h2
  obtain ⟨a3, c3, rfl, -⟩ := h3
  obtain ⟨a4, c4, rfl, -⟩ := h4
  obtain ⟨a5, c5, rfl, -, -, hrl⟩ := h5
  obtain ⟨a6, c6, rfl, -, -, hre⟩ := h6
  obtain ⟨be, offe, rfl, hred⟩ := hre hms
  unfold rulesP
  rw [show (if s = [] then m.empty ++ List.replicate (20 - m.empty.length) false else List.replicate 20 false) = done0 m.empty s from rfl]
  have hd0 := done0_len hmm s
  have hnow := ris_len hri
  generalize runP m s = now at *
  obtain ⟨⟨cl, rul, fol, la⟩, fi, em⟩ := m
  dsimp only at *
  generalize cl.length = n at *
  generalize fol.length = n4 at *
  generalize fi.length = n3 at *
  refine enter (args := [.agg #[.slice a1 n c1, .slice a2 rul.length c2, .slice a3 n3 c3, .slice a4 n4 c4, .slice a5 la.length c5, .slice (some ⟨be, offe, none⟩) em.length c6], str s]) (n := 68) Tryd.func6 rfl rfl rfl ?_
  refine T_seq (T_region (TL_box rfl rfl rfl fun g2 => ?_))
  conv => arg 8; simp only [zA, zB, zC, zD, zE, zF, zG, zH, zI, rowS, ret, id_eq]
  repeat (first
    | refine qv rfl (qp rfl) rfl rfl ?_ | refine TL_nil ?_ | refine T_seq ?_ | refine T_region ?_ | refine qcT rfl ?_ | refine qcF rfl ?_ | refine T_skip ?_
    | refine T_exit ?_ | refine T_ret ?_ | refine T_block ?_ | refine E_then ?_ | refine E_thenX ?_ | refine E_thenR ?_ | refine E_blockN ?_
    | refine E_blockR ?_ | refine E_blockX ?_ | refine E_blockO rfl ?_ | refine qs rfl rfl rfl rfl rfl rfl ?_
    | ((try refine qg rfl rfl rfl ?_); first | refine qv rfl (qp rfl) rfl rfl ?_ | refine qv rfl (rr_loadB (i := 0) TyC.ty rfl rfl rfl) rfl rfl ?_ | refine qv rfl (qlen Und.eq rfl) rfl rfl ?_ | refine qv rfl (qfld FldC.fld rfl rfl) rfl rfl ?_ | refine qv rfl (rr_lss rfl rfl (qT (by omega))) rfl rfl ?_ | refine qv rfl (rr_lss rfl rfl (qF (by omega))) rfl rfl ?_ | refine qv rfl (rr_neq rfl rfl (qT (by omega))) rfl rfl ?_ | refine qv rfl (rr_neq rfl rfl (qF (by omega))) rfl rfl ?_ | refine qv rfl (rr_add64 rfl rfl (by omega) (by omega) rfl) rfl rfl ?_))
  refine TL_call (he2 EntersC.en rfl rfl rfl) (fun w hm => hrun _ hm.below) rfl rfl rfl ?_
  intro u _
  conv => arg 8; simp only [zA, zB, zC, zD, zE, zF, zG, zH, zI, rowS, ret, id_eq, runS2]
  conv => arg 7; simp only [runS2]
  clear hrun
  repeat (first
    | refine qv rfl (qp rfl) rfl rfl ?_ | refine TL_nil ?_ | refine T_seq ?_ | refine T_region ?_ | refine qcT rfl ?_ | refine qcF rfl ?_ | refine T_skip ?_
    | refine T_exit ?_ | refine T_ret ?_ | refine T_block ?_ | refine E_then ?_ | refine E_thenX ?_ | refine E_thenR ?_ | refine E_blockN ?_
    | refine E_blockR ?_ | refine E_blockX ?_ | refine E_blockO rfl ?_ | refine qs rfl rfl rfl rfl rfl rfl ?_
    | ((try refine qg rfl rfl rfl ?_); first | refine qv rfl (qp rfl) rfl rfl ?_ | refine qv rfl (rr_neq (b := false) rfl rfl (decide_eq_false (by simp))) rfl rfl ?_ | refine qv rfl (qlen Und.eq rfl) rfl rfl ?_ | refine qv rfl (qfld FldC.fld rfl rfl) rfl rfl ?_ | refine qv rfl (rr_lss rfl rfl (qT (by omega))) rfl rfl ?_ | refine qv rfl (rr_lss rfl rfl (qF (by omega))) rfl rfl ?_ | refine qv rfl (rr_neq rfl rfl (qT (by omega))) rfl rfl ?_ | refine qv rfl (rr_neq rfl rfl (qF (by omega))) rfl rfl ?_ | refine qv rfl (rr_add64 rfl rfl (by omega) (by omega) rfl) rfl rfl ?_))
  refine TL_new rfl fun g8 => ?_
  conv => arg 8; simp only [zA, zB, zC, zD, zE, zF, zG, zH, zI, rowS, ret, id_eq]
  repeat (first
    | refine qv rfl (qp rfl) rfl rfl ?_ | refine TL_nil ?_ | refine T_seq ?_ | refine T_region ?_ | refine qcT rfl ?_ | refine qcF rfl ?_ | refine T_skip ?_
    | refine T_exit ?_ | refine T_ret ?_ | refine T_block ?_ | refine E_then ?_ | refine E_thenX ?_ | refine E_thenR ?_ | refine E_blockN ?_
    | refine E_blockR ?_ | refine E_blockX ?_ | refine E_blockO rfl ?_ | refine qs rfl rfl rfl rfl rfl rfl ?_
    | ((try refine qg rfl rfl rfl ?_); first | refine qv rfl (qp rfl) rfl rfl ?_ | refine qv rfl (qlen Und.eq rfl) rfl rfl ?_ | refine qv rfl (qfld FldC.fld rfl rfl) rfl rfl ?_ | refine qv rfl (rr_lss rfl rfl (qT (by omega))) rfl rfl ?_ | refine qv rfl (rr_lss rfl rfl (qF (by omega))) rfl rfl ?_ | refine qv rfl (rr_neq rfl rfl (qT (by omega))) rfl rfl ?_ | refine qv rfl (rr_neq rfl rfl (qF (by omega))) rfl rfl ?_ | refine qv rfl (rr_add64 rfl rfl (by omega) (by omega) rfl) rfl rfl ?_))
  rw [boolA_rep 20]
  refine TL_slv (i := 1) rfl fun _ _ => ?_
  refine TL_know (i := 1) rfl row_sl fun hrow => ?_
  obtain ⟨au, cu, rfl, hau⟩ := hrow
  repeat (first
    | refine qv rfl (qp rfl) rfl rfl ?_ | refine TL_nil ?_ | refine T_seq ?_ | refine T_region ?_ | refine qcT rfl ?_ | refine qcF rfl ?_ | refine T_skip ?_
    | refine T_exit ?_ | refine T_ret ?_ | refine T_block ?_ | refine E_then ?_ | refine E_thenX ?_ | refine E_thenR ?_ | refine E_blockN ?_
    | refine E_blockR ?_ | refine E_blockX ?_ | refine E_blockO rfl ?_ | refine qs rfl rfl rfl rfl rfl rfl ?_
    | ((try refine qg rfl rfl rfl ?_); first | refine qv rfl (qp rfl) rfl rfl ?_ | refine qv rfl (rr_streq (b := decide (s = [])) rfl rfl rfl) rfl rfl ?_ | refine qv rfl (qlen Und.eq rfl) rfl rfl ?_ | refine qv rfl (qfld FldC.fld rfl rfl) rfl rfl ?_ | refine qv rfl (rr_lss rfl rfl (qT (by omega))) rfl rfl ?_ | refine qv rfl (rr_lss rfl rfl (qF (by omega))) rfl rfl ?_ | refine qv rfl (rr_neq rfl rfl (qT (by omega))) rfl rfl ?_ | refine qv rfl (rr_neq rfl rfl (qF (by omega))) rfl rfl ?_ | refine qv rfl (rr_add64 rfl rfl (by omega) (by omega) rfl) rfl rfl ?_))
  (repeat refine T_seq ?_)
  refine T_midq (ι := Unit) (fun _ => True) (fun _ => [(2, .pointer (some ⟨g2, 0, none⟩)), (6, .slice au now.length cu), (8, .pointer (some ⟨g8, 0, none⟩))])
    (fun _ => [blkO g2 #[.slice a1 n c1, .slice a2 rul.length c2, .slice a3 n3 c3, .slice a4 n4 c4, .slice a5 la.length c5, .slice (some ⟨be, offe, none⟩) em.length c6] 28, intR (.slice au now.length cu) now, doO g8 (done0 em s)]) ?_ ?_
  · by_cases c7 : s = []
    · have hdn : done0 em s = em ++ List.replicate (20 - em.length) false := by unfold done0; rw [if_pos c7]
      have hcp := copy_done hmm
      have hye : ∀ (L : List Own) w', Mem (w : Base) L w' → ∀ j u, (em.map Value.bool)[j]? = some u → w'.cell? (Addr.add ⟨be, offe, none⟩ j) = some u := fun L w' hm j u hj => by
        rw [addr_add]
        exact hm.cell (hred j u (by rw [boC_flat]; exact hj))
      rw [decide_eq_true c7, hdn]
      repeat (first
        | refine qv rfl (qp rfl) rfl rfl ?_ | refine TL_nil ?_ | refine T_seq ?_ | refine T_region ?_ | refine qcT rfl ?_ | refine qcF rfl ?_ | refine T_skip ?_
        | refine T_exit ?_ | refine T_ret ?_ | refine T_block ?_ | refine E_then ?_ | refine E_thenX ?_ | refine E_thenR ?_ | refine E_blockN ?_
        | refine E_blockR ?_ | refine E_blockX ?_ | refine E_blockO rfl ?_ | refine qs rfl rfl rfl rfl rfl rfl ?_
        | ((try refine qg rfl rfl rfl ?_); first | refine qv rfl (qp rfl) rfl rfl ?_ | refine qv rfl (qlen Und.eq rfl) rfl rfl ?_ | refine qv rfl (qfld FldC.fld rfl rfl) rfl rfl ?_ | refine qv rfl (rr_lss rfl rfl (qT (by omega))) rfl rfl ?_ | refine qv rfl (rr_lss rfl rfl (qF (by omega))) rfl rfl ?_ | refine qv rfl (rr_neq rfl rfl (qT (by omega))) rfl rfl ?_ | refine qv rfl (rr_neq rfl rfl (qF (by omega))) rfl rfl ?_ | refine qv rfl (rr_add64 rfl rfl (by omega) (by omega) rfl) rfl rfl ?_))
      refine T_ord ([blkO g2 #[.slice a1 n c1, .slice a2 rul.length c2, .slice a3 n3 c3, .slice a4 n4 c4, .slice a5 la.length c5, .slice (some ⟨be, offe, none⟩) em.length c6] 28]) (.calm 0 (.calm 1 (.calm 2 (.one 3 (.done))))) (sub_pick [0] (by decide) rfl) (by kernel_rfl) (by kernel_rfl) (by intro c a d v w h; cases d <;> exact h) ?_
      repeat (first
        | ((first | refine TW_plain rfl rfl ?_ | refine TW_gmet rfl rfl rfl rfl ?_); first | refine TN_val (qp rfl) rfl rfl ?_ | refine TN_val (rr_slarr Und.eq TyC.ty rfl) rfl rfl ?_ | refine TN_val (rr_load1 (v := .slice (some ⟨be, offe, none⟩) em.length c6) TyC.ty rfl (at_blk (i := 0) rfl rfl)) rfl rfl ?_ | refine TN_val (qlen Und.eq rfl) rfl rfl ?_ | refine TN_val (qfld FldC.fld rfl rfl) rfl rfl ?_ | refine TN_val (rr_lss rfl rfl (qT (by omega))) rfl rfl ?_ | refine TN_val (rr_lss rfl rfl (qF (by omega))) rfl rfl ?_ | refine TN_val (rr_neq rfl rfl (qT (by omega))) rfl rfl ?_ | refine TN_val (rr_neq rfl rfl (qF (by omega))) rfl rfl ?_ | refine TN_val (rr_add64 rfl rfl (by omega) (by omega) rfl) rfl rfl ?_)
        | refine TW_skip rfl rfl rfl rfl rfl rfl rfl ?_ | refine TW_done ?_)
      refine TW_one rfl (TL_copyA (i := 2) (ys := em.map Value.bool) Und.eq TyC.ty rfl rfl rfl (hye _) (by rw [List.length_map]; exact (Nat.min_eq_left hmm).symm) (by intro u hu; obtain ⟨b, _, rfl⟩ := List.mem_map.1 hu; rfl) (by rw [List.length_map, boolA_size, List.length_replicate]; exact hmm) hcp.symm rfl (TW_on (sub_pick [0] (by decide) rfl) ?_))
      repeat (first
        | ((first | refine TW_plain rfl rfl ?_ | refine TW_gmet rfl rfl rfl rfl ?_); first | refine TN_val (qp rfl) rfl rfl ?_ | refine TN_val (qlen Und.eq rfl) rfl rfl ?_ | refine TN_val (qfld FldC.fld rfl rfl) rfl rfl ?_ | refine TN_val (rr_lss rfl rfl (qT (by omega))) rfl rfl ?_ | refine TN_val (rr_lss rfl rfl (qF (by omega))) rfl rfl ?_ | refine TN_val (rr_neq rfl rfl (qT (by omega))) rfl rfl ?_ | refine TN_val (rr_neq rfl rfl (qF (by omega))) rfl rfl ?_ | refine TN_val (rr_add64 rfl rfl (by omega) (by omega) rfl) rfl rfl ?_)
        | refine TW_skip rfl rfl rfl rfl rfl rfl rfl ?_ | refine TW_done ?_)
      repeat (first
        | refine qv rfl (qp rfl) rfl rfl ?_ | refine TL_nil ?_ | refine T_seq ?_ | refine T_region ?_ | refine qcT rfl ?_ | refine qcF rfl ?_ | refine T_skip ?_
        | refine T_exit ?_ | refine T_ret ?_ | refine T_block ?_ | refine E_then ?_ | refine E_thenX ?_ | refine E_thenR ?_ | refine E_blockN ?_
        | refine E_blockR ?_ | refine E_blockX ?_ | refine E_blockO rfl ?_ | refine qs rfl rfl rfl rfl rfl rfl ?_
        | ((try refine qg rfl rfl rfl ?_); first | refine qv rfl (qp rfl) rfl rfl ?_ | refine qv rfl (qlen Und.eq rfl) rfl rfl ?_ | refine qv rfl (qfld FldC.fld rfl rfl) rfl rfl ?_ | refine qv rfl (rr_lss rfl rfl (qT (by omega))) rfl rfl ?_ | refine qv rfl (rr_lss rfl rfl (qF (by omega))) rfl rfl ?_ | refine qv rfl (rr_neq rfl rfl (qT (by omega))) rfl rfl ?_ | refine qv rfl (rr_neq rfl rfl (qF (by omega))) rfl rfl ?_ | refine qv rfl (rr_add64 rfl rfl (by omega) (by omega) rfl) rfl rfl ?_))
      exact E_mid () trivial (by repeat' (first | exact True.intro | refine And.intro rfl ?_)) rfl
    · have hdn : done0 em s = List.replicate 20 false := by unfold done0; rw [if_neg c7]
      rw [decide_eq_false c7, hdn]
      repeat (first
        | refine qv rfl (qp rfl) rfl rfl ?_ | refine TL_nil ?_ | refine T_seq ?_ | refine T_region ?_ | refine qcT rfl ?_ | refine qcF rfl ?_ | refine T_skip ?_
        | refine T_exit ?_ | refine T_ret ?_ | refine T_block ?_ | refine E_then ?_ | refine E_thenX ?_ | refine E_thenR ?_ | refine E_blockN ?_
        | refine E_blockR ?_ | refine E_blockX ?_ | refine E_blockO rfl ?_ | refine qs rfl rfl rfl rfl rfl rfl ?_
        | ((try refine qg rfl rfl rfl ?_); first | refine qv rfl (qp rfl) rfl rfl ?_ | refine qv rfl (qlen Und.eq rfl) rfl rfl ?_ | refine qv rfl (qfld FldC.fld rfl rfl) rfl rfl ?_ | refine qv rfl (rr_lss rfl rfl (qT (by omega))) rfl rfl ?_ | refine qv rfl (rr_lss rfl rfl (qF (by omega))) rfl rfl ?_ | refine qv rfl (rr_neq rfl rfl (qT (by omega))) rfl rfl ?_ | refine qv rfl (rr_neq rfl rfl (qF (by omega))) rfl rfl ?_ | refine qv rfl (rr_add64 rfl rfl (by omega) (by omega) rfl) rfl rfl ?_))
      exact E_mid () trivial (by repeat' (first | exact True.intro | refine And.intro rfl ?_)) rfl
  intro _ _
  generalize done0 em s = D at *
  repeat (first
    | refine qv rfl (qp rfl) rfl rfl ?_ | refine TL_nil ?_ | refine T_seq ?_ | refine T_region ?_ | refine qcT rfl ?_ | refine qcF rfl ?_ | refine T_skip ?_
    | refine T_exit ?_ | refine T_ret ?_ | refine T_block ?_ | refine E_then ?_ | refine E_thenX ?_ | refine E_thenR ?_ | refine E_blockN ?_
    | refine E_blockR ?_ | refine E_blockX ?_ | refine E_blockO rfl ?_ | refine qs rfl rfl rfl rfl rfl rfl ?_
    | ((try refine qg rfl rfl rfl ?_); first | refine qv rfl (qp rfl) rfl rfl ?_ | refine qv rfl (qlen Und.eq rfl) rfl rfl ?_ | refine qv rfl (qfld FldC.fld rfl rfl) rfl rfl ?_ | refine qv rfl (rr_lss rfl rfl (qT (by omega))) rfl rfl ?_ | refine qv rfl (rr_lss rfl rfl (qF (by omega))) rfl rfl ?_ | refine qv rfl (rr_neq rfl rfl (qT (by omega))) rfl rfl ?_ | refine qv rfl (rr_neq rfl rfl (qF (by omega))) rfl rfl ?_ | refine qv rfl (rr_add64 rfl rfl (by omega) (by omega) rfl) rfl rfl ?_))
  refine T_loop (ι := Nat) (fun k => k ≤ now.length) (fun k => [(2, .pointer (some ⟨g2, 0, none⟩)), (8, .pointer (some ⟨g8, 0, none⟩)), (29, .slice au now.length cu), (30, .int .i64 now.length), (31, .int .i64 (k : Int))])
    (fun k => [blkO g2 #[.slice a1 n c1, .slice a2 rul.length c2, .slice a3 n3 c3, .slice a4 n4 c4, .slice a5 la.length c5, .slice (some ⟨be, offe, none⟩) em.length c6] 28, intR (.slice au now.length cu) now, doO g8 (doneF ⟨cl, rul, fol, la⟩ D (now.take k))]) (fun k => now.length - k) 0 (Nat.zero_le _) (by repeat' (first | exact True.intro | refine And.intro rfl ?_)) rfl ?_
  intro k hk
  by_cases q1 : k < now.length
  · have hx := hri.2 _ (List.getElem_mem q1)
    have hst := done_step ⟨cl, rul, fol, la⟩ D now q1
    have hdl := done_len ⟨cl, rul, fol, la⟩ D (now.take k)
    have hgx : now[k]? = some now[k] := List.getElem?_eq_getElem q1
    obtain ⟨gu, rfl⟩ := hau (by omega)
    generalize now[k] = x at *
    generalize doneF ⟨cl, rul, fol, la⟩ D (now.take k) = I at *
    obtain ⟨xn, rfl⟩ := Int.eq_ofNat_of_zero_le hx.1
    have hxr : xn < rul.length := by omega
    have hxl : xn < la.length := by omega
    obtain ⟨br, offr, rfl, hrd⟩ := hrr (by omega)
    obtain ⟨bl, offl, rfl, hld⟩ := hrl (by omega)
    have hatr := fun (L : List Own) => at_el (L := L) SmIn_len hrd hxr 0 _ rfl
    have hatl := fun (L : List Own) => at_el (L := L) BoE_len hld hxl 0 _ rfl
    have hat3 : ∀ (L : List Own) (hi : L[1]? = some (intR (.slice (some ⟨gu, 0, none⟩) now.length cu) now)), At (w : Base) L ⟨gu, 0 + k * 1, none⟩ (.int .i64 (xn : Int)) := fun L hi => at_row hi (by rw [List.getElem?_map, Nat.zero_add, Nat.mul_one, hgx]; rfl)
    have hr := hmr _ (List.getElem_mem hxr)
    rw [Int.toNat_natCast, List.getD_eq_getElem?_getD (l := rul), List.getElem?_eq_getElem hxr, Option.getD_some, List.getD_eq_getElem?_getD (l := la), List.getElem?_eq_getElem hxl, Option.getD_some] at hst
    generalize rul[xn] = r at *
    generalize la[xn] = lb at *
    obtain ⟨rn, rfl⟩ := Int.eq_ofNat_of_zero_le hr.1
    rw [Int.toNat_natCast] at hst
    have hI := boolA_get (l := I) (k := rn) (by omega)
    repeat (first
      | refine qv rfl (qp rfl) rfl rfl ?_ | refine TL_nil ?_ | refine T_seq ?_ | refine T_region ?_ | refine qcT rfl ?_ | refine qcF rfl ?_ | refine T_skip ?_
      | refine T_exit ?_ | refine T_ret ?_ | refine T_block ?_ | refine E_then ?_ | refine E_thenX ?_ | refine E_thenR ?_ | refine E_blockN ?_
      | refine E_blockR ?_ | refine E_blockX ?_ | refine E_blockO rfl ?_ | refine qs rfl rfl rfl rfl rfl rfl ?_
      | ((try refine qg rfl rfl rfl ?_); first | refine qv rfl (qp rfl) rfl rfl ?_ | refine qv rfl (rr_idxc Und.eq TyC.ty rfl rfl q1) rfl rfl ?_ | refine qv rfl (rr_load1 (v := .int .i64 (xn : Int)) TyC.ty rfl (hat3 _ rfl)) rfl rfl ?_ | refine qv rfl (qlen Und.eq rfl) rfl rfl ?_ | refine qv rfl (qfld FldC.fld rfl rfl) rfl rfl ?_ | refine qv rfl (rr_lss rfl rfl (qT (by omega))) rfl rfl ?_ | refine qv rfl (rr_lss rfl rfl (qF (by omega))) rfl rfl ?_ | refine qv rfl (rr_neq rfl rfl (qT (by omega))) rfl rfl ?_ | refine qv rfl (rr_neq rfl rfl (qF (by omega))) rfl rfl ?_ | refine qv rfl (rr_add64 rfl rfl (by omega) (by omega) rfl) rfl rfl ?_))
    by_cases q2 : I.getD rn false = true
    · rw [q2] at hI hst
      rw [Bool.true_or] at hst
      have hs : (boolA I).setIfInBounds (0 + rn) (.bool true) = boolA (doneF ⟨cl, rul, fol, la⟩ D (now.take (k + 1))) := by rw [Nat.zero_add, boolA_set, hst]
      refine T_ord ([blkO g2 #[.slice a1 n c1, .slice (some ⟨br, offr, none⟩) rul.length c2, .slice a3 n3 c3, .slice a4 n4 c4, .slice (some ⟨bl, offl, none⟩) la.length c5, .slice (some ⟨be, offe, none⟩) em.length c6] 28]) (.calm 0 (.calm 1 (.calm 2 (.calm 3 (.calm 4 (.calm 5 (.calm 6 (.calm 7 (.calm 8 (.calm 9 (.calm 10 (.one 11 (.calm 12 (.calm 13 (.calm 14 (.calm 15 (.calm 16 (.calm 17 (.calm 18 (.calm 19 (.one 20 (.done)))))))))))))))))))))) (sub_pick [0] (by decide) rfl) (by kernel_rfl) (by kernel_rfl) (by intro c a d v w h; cases d <;> exact h) ?_
      repeat (first
        | ((first | refine TW_plain rfl rfl ?_ | refine TW_gmet rfl rfl rfl rfl ?_); first | refine TN_val (qp rfl) rfl rfl ?_ | refine TN_val (rr_load1 (v := .slice (some ⟨br, offr, none⟩) rul.length c2) TyC.ty rfl (at_blk (i := 0) rfl rfl)) rfl rfl ?_ | refine TN_val (rr_idxc Und.eq TyC.ty rfl rfl hxr) rfl rfl ?_ | refine TN_val (rr_load1 (v := .int .i64 (rn : Int)) TyC.ty rfl (hatr _)) rfl rfl ?_ | refine TN_val (rr_aidx1 Und.eq TyC.ty rfl rfl (by omega)) rfl rfl ?_ | refine TN_val (qlen Und.eq rfl) rfl rfl ?_ | refine TN_val (qfld FldC.fld rfl rfl) rfl rfl ?_ | refine TN_val (rr_lss rfl rfl (qT (by omega))) rfl rfl ?_ | refine TN_val (rr_lss rfl rfl (qF (by omega))) rfl rfl ?_ | refine TN_val (rr_neq rfl rfl (qT (by omega))) rfl rfl ?_ | refine TN_val (rr_neq rfl rfl (qF (by omega))) rfl rfl ?_ | refine TN_val (rr_add64 rfl rfl (by omega) (by omega) rfl) rfl rfl ?_)
        | refine TW_skip rfl rfl rfl rfl rfl rfl rfl ?_ | refine TW_done ?_)
      refine TW_one rfl (TL_val (rr_load1 (v := .bool true) TyC.ty rfl (at_blk (i := 2) rfl (by rw [Nat.zero_add]; exact hI))) rfl rfl rfl (TW_on (sub_pick [0] (by decide) rfl) ?_))
      repeat (first
        | ((first | refine TW_plain rfl rfl ?_ | refine TW_gmet rfl rfl rfl rfl ?_); first | refine TN_val (qp rfl) rfl rfl ?_ | refine TN_val (rr_aidx1 Und.eq TyC.ty rfl rfl (by omega)) rfl rfl ?_ | refine TN_val (qlen Und.eq rfl) rfl rfl ?_ | refine TN_val (qfld FldC.fld rfl rfl) rfl rfl ?_ | refine TN_val (rr_lss rfl rfl (qT (by omega))) rfl rfl ?_ | refine TN_val (rr_lss rfl rfl (qF (by omega))) rfl rfl ?_ | refine TN_val (rr_neq rfl rfl (qT (by omega))) rfl rfl ?_ | refine TN_val (rr_neq rfl rfl (qF (by omega))) rfl rfl ?_ | refine TN_val (rr_add64 rfl rfl (by omega) (by omega) rfl) rfl rfl ?_)
        | refine TW_skip rfl rfl rfl rfl rfl rfl rfl ?_ | refine TW_done ?_)
      refine TW_one rfl (TL_store1 (i := 2) rfl rfl rfl rfl rfl (by rw [Nat.blt_eq, boolA_size]; omega) (TW_on (sub_pick [0] (by decide) rfl) ?_))
      repeat (first
        | ((first | refine TW_plain rfl rfl ?_ | refine TW_gmet rfl rfl rfl rfl ?_); first | refine TN_val (qp rfl) rfl rfl ?_ | refine TN_val (qlen Und.eq rfl) rfl rfl ?_ | refine TN_val (qfld FldC.fld rfl rfl) rfl rfl ?_ | refine TN_val (rr_lss rfl rfl (qT (by omega))) rfl rfl ?_ | refine TN_val (rr_lss rfl rfl (qF (by omega))) rfl rfl ?_ | refine TN_val (rr_neq rfl rfl (qT (by omega))) rfl rfl ?_ | refine TN_val (rr_neq rfl rfl (qF (by omega))) rfl rfl ?_ | refine TN_val (rr_add64 rfl rfl (by omega) (by omega) rfl) rfl rfl ?_)
        | refine TW_skip rfl rfl rfl rfl rfl rfl rfl ?_ | refine TW_done ?_)
      repeat (first
        | refine qv rfl (qp rfl) rfl rfl ?_ | refine TL_nil ?_ | refine T_seq ?_ | refine T_region ?_ | refine qcT rfl ?_ | refine qcF rfl ?_ | refine T_skip ?_
        | refine T_exit ?_ | refine T_ret ?_ | refine T_block ?_ | refine E_then ?_ | refine E_thenX ?_ | refine E_thenR ?_ | refine E_blockN ?_
        | refine E_blockR ?_ | refine E_blockX ?_ | refine E_blockO rfl ?_ | refine qs rfl rfl rfl rfl rfl rfl ?_
        | ((try refine qg rfl rfl rfl ?_); first | refine qv rfl (qp rfl) rfl rfl ?_ | refine qv rfl (qlen Und.eq rfl) rfl rfl ?_ | refine qv rfl (qfld FldC.fld rfl rfl) rfl rfl ?_ | refine qv rfl (rr_lss rfl rfl (qT (by omega))) rfl rfl ?_ | refine qv rfl (rr_lss rfl rfl (qF (by omega))) rfl rfl ?_ | refine qv rfl (rr_neq rfl rfl (qT (by omega))) rfl rfl ?_ | refine qv rfl (rr_neq rfl rfl (qF (by omega))) rfl rfl ?_ | refine qv rfl (rr_add64 rfl rfl (by omega) (by omega) rfl) rfl rfl ?_))
      exact E_round (k + 1) (by omega) (by show now.length - (k + 1) < now.length - k; omega) (by repeat' (first | exact True.intro | refine And.intro rfl ?_)) (by unfold doO; rw [← hs]; rfl)
    · rw [Bool.eq_false_iff.2 q2] at hI hst
      rw [Bool.false_or] at hst
      have hs : (boolA I).setIfInBounds (0 + rn) (.bool lb) = boolA (doneF ⟨cl, rul, fol, la⟩ D (now.take (k + 1))) := by rw [Nat.zero_add, boolA_set, hst]
      refine T_ord ([blkO g2 #[.slice a1 n c1, .slice (some ⟨br, offr, none⟩) rul.length c2, .slice a3 n3 c3, .slice a4 n4 c4, .slice (some ⟨bl, offl, none⟩) la.length c5, .slice (some ⟨be, offe, none⟩) em.length c6] 28]) (.calm 0 (.calm 1 (.calm 2 (.calm 3 (.calm 4 (.calm 5 (.calm 6 (.calm 7 (.calm 8 (.calm 9 (.calm 10 (.one 11 (.calm 12 (.calm 13 (.calm 14 (.calm 15 (.calm 16 (.calm 17 (.calm 18 (.calm 19 (.one 20 (.done)))))))))))))))))))))) (sub_pick [0] (by decide) rfl) (by kernel_rfl) (by kernel_rfl) (by intro c a d v w h; cases d <;> exact h) ?_
      repeat (first
        | ((first | refine TW_plain rfl rfl ?_ | refine TW_gmet rfl rfl rfl rfl ?_); first | refine TN_val (qp rfl) rfl rfl ?_ | refine TN_val (rr_load1 (v := .slice (some ⟨br, offr, none⟩) rul.length c2) TyC.ty rfl (at_blk (i := 0) rfl rfl)) rfl rfl ?_ | refine TN_val (rr_idxc Und.eq TyC.ty rfl rfl hxr) rfl rfl ?_ | refine TN_val (rr_load1 (v := .int .i64 (rn : Int)) TyC.ty rfl (hatr _)) rfl rfl ?_ | refine TN_val (rr_aidx1 Und.eq TyC.ty rfl rfl (by omega)) rfl rfl ?_ | refine TN_val (qlen Und.eq rfl) rfl rfl ?_ | refine TN_val (qfld FldC.fld rfl rfl) rfl rfl ?_ | refine TN_val (rr_lss rfl rfl (qT (by omega))) rfl rfl ?_ | refine TN_val (rr_lss rfl rfl (qF (by omega))) rfl rfl ?_ | refine TN_val (rr_neq rfl rfl (qT (by omega))) rfl rfl ?_ | refine TN_val (rr_neq rfl rfl (qF (by omega))) rfl rfl ?_ | refine TN_val (rr_add64 rfl rfl (by omega) (by omega) rfl) rfl rfl ?_)
        | refine TW_skip rfl rfl rfl rfl rfl rfl rfl ?_ | refine TW_done ?_)
      refine TW_one rfl (TL_val (rr_load1 (v := .bool false) TyC.ty rfl (at_blk (i := 2) rfl (by rw [Nat.zero_add]; exact hI))) rfl rfl rfl (TW_on (sub_pick [0] (by decide) rfl) ?_))
      repeat (first
        | ((first | refine TW_plain rfl rfl ?_ | refine TW_gmet rfl rfl rfl rfl ?_); first | refine TN_val (qp rfl) rfl rfl ?_ | refine TN_val (rr_aidx1 Und.eq TyC.ty rfl rfl (by omega)) rfl rfl ?_ | refine TN_val (rr_load1 (v := .slice (some ⟨bl, offl, none⟩) la.length c5) TyC.ty rfl (at_blk (i := 0) rfl rfl)) rfl rfl ?_ | refine TN_val (rr_idxc Und.eq TyC.ty rfl rfl hxl) rfl rfl ?_ | refine TN_val (rr_load1 (v := .bool lb) TyC.ty rfl (hatl _)) rfl rfl ?_ | refine TN_val (qlen Und.eq rfl) rfl rfl ?_ | refine TN_val (qfld FldC.fld rfl rfl) rfl rfl ?_ | refine TN_val (rr_lss rfl rfl (qT (by omega))) rfl rfl ?_ | refine TN_val (rr_lss rfl rfl (qF (by omega))) rfl rfl ?_ | refine TN_val (rr_neq rfl rfl (qT (by omega))) rfl rfl ?_ | refine TN_val (rr_neq rfl rfl (qF (by omega))) rfl rfl ?_ | refine TN_val (rr_add64 rfl rfl (by omega) (by omega) rfl) rfl rfl ?_)
        | refine TW_skip rfl rfl rfl rfl rfl rfl rfl ?_ | refine TW_done ?_)
      refine TW_one rfl (TL_store1 (i := 2) rfl rfl rfl rfl rfl (by rw [Nat.blt_eq, boolA_size]; omega) (TW_on (sub_pick [0] (by decide) rfl) ?_))
      repeat (first
        | ((first | refine TW_plain rfl rfl ?_ | refine TW_gmet rfl rfl rfl rfl ?_); first | refine TN_val (qp rfl) rfl rfl ?_ | refine TN_val (qlen Und.eq rfl) rfl rfl ?_ | refine TN_val (qfld FldC.fld rfl rfl) rfl rfl ?_ | refine TN_val (rr_lss rfl rfl (qT (by omega))) rfl rfl ?_ | refine TN_val (rr_lss rfl rfl (qF (by omega))) rfl rfl ?_ | refine TN_val (rr_neq rfl rfl (qT (by omega))) rfl rfl ?_ | refine TN_val (rr_neq rfl rfl (qF (by omega))) rfl rfl ?_ | refine TN_val (rr_add64 rfl rfl (by omega) (by omega) rfl) rfl rfl ?_)
        | refine TW_skip rfl rfl rfl rfl rfl rfl rfl ?_ | refine TW_done ?_)
      repeat (first
        | refine qv rfl (qp rfl) rfl rfl ?_ | refine TL_nil ?_ | refine T_seq ?_ | refine T_region ?_ | refine qcT rfl ?_ | refine qcF rfl ?_ | refine T_skip ?_
        | refine T_exit ?_ | refine T_ret ?_ | refine T_block ?_ | refine E_then ?_ | refine E_thenX ?_ | refine E_thenR ?_ | refine E_blockN ?_
        | refine E_blockR ?_ | refine E_blockX ?_ | refine E_blockO rfl ?_ | refine qs rfl rfl rfl rfl rfl rfl ?_
        | ((try refine qg rfl rfl rfl ?_); first | refine qv rfl (qp rfl) rfl rfl ?_ | refine qv rfl (qlen Und.eq rfl) rfl rfl ?_ | refine qv rfl (qfld FldC.fld rfl rfl) rfl rfl ?_ | refine qv rfl (rr_lss rfl rfl (qT (by omega))) rfl rfl ?_ | refine qv rfl (rr_lss rfl rfl (qF (by omega))) rfl rfl ?_ | refine qv rfl (rr_neq rfl rfl (qT (by omega))) rfl rfl ?_ | refine qv rfl (rr_neq rfl rfl (qF (by omega))) rfl rfl ?_ | refine qv rfl (rr_add64 rfl rfl (by omega) (by omega) rfl) rfl rfl ?_))
      exact E_round (k + 1) (by omega) (by show now.length - (k + 1) < now.length - k; omega) (by repeat' (first | exact True.intro | refine And.intro rfl ?_)) (by unfold doO; rw [← hs]; rfl)
  · obtain rfl : k = now.length := by omega
    rw [List.take_of_length_le (Nat.le_refl _)]
    have hlen := done_len ⟨cl, rul, fol, la⟩ D now
    generalize doneF ⟨cl, rul, fol, la⟩ D now = I at *
    repeat (first
      | refine qv rfl (qp rfl) rfl rfl ?_ | refine TL_nil ?_ | refine T_seq ?_ | refine T_region ?_ | refine qcT rfl ?_ | refine qcF rfl ?_ | refine T_skip ?_
      | refine T_exit ?_ | refine T_ret ?_ | refine T_block ?_ | refine E_then ?_ | refine E_thenX ?_ | refine E_thenR ?_ | refine E_blockN ?_
      | refine E_blockR ?_ | refine E_blockX ?_ | refine E_blockO rfl ?_ | refine qs rfl rfl rfl rfl rfl rfl ?_
      | ((try refine qg rfl rfl rfl ?_); first | refine qv rfl (qp rfl) rfl rfl ?_ | refine qv rfl (rr_loadB (i := 2) TyC.ty rfl rfl (by rw [boolA_size]; omega)) rfl rfl ?_ | refine qv rfl (qlen Und.eq rfl) rfl rfl ?_ | refine qv rfl (qfld FldC.fld rfl rfl) rfl rfl ?_ | refine qv rfl (rr_lss rfl rfl (qT (by omega))) rfl rfl ?_ | refine qv rfl (rr_lss rfl rfl (qF (by omega))) rfl rfl ?_ | refine qv rfl (rr_neq rfl rfl (qT (by omega))) rfl rfl ?_ | refine qv rfl (rr_neq rfl rfl (qF (by omega))) rfl rfl ?_ | refine qv rfl (rr_add64 rfl rfl (by omega) (by omega) rfl) rfl rfl ?_))
    refine T_pick [] (by decide) rfl ?_
    refine T_nil 3 1 ?_
    refine T_loop (ι := Nat × Value) (fun (k, _) => k ≤ 20) (fun (k, v) => [(11, v), (56, .agg (boolA I)), (57, .int .i64 (k : Int))]) (fun (k, v) => [intR v (truesTo I k)]) (fun (k, _) => 20 - k) (0, .slice none 0 0) (Nat.zero_le _) (by repeat' (first | exact True.intro | refine And.intro rfl ?_)) rfl ?_
    rintro ⟨k, v⟩ hk
    dsimp only at hk ⊢
    by_cases c1 : k < 20
    · have hI := boolA_get (l := I) (k := k) (by omega)
      have htl := trues_len I k
      by_cases c2 : I.getD k false = true
      · have hp := trues_push I k c2
        have hpl := trues_push_len I k c2
        rw [c2] at hI
        repeat (first
          | refine qv rfl (qp rfl) rfl rfl ?_ | refine TL_nil ?_ | refine T_seq ?_ | refine T_region ?_ | refine qcT rfl ?_ | refine qcF rfl ?_ | refine T_skip ?_
          | refine T_exit ?_ | refine T_ret ?_ | refine T_block ?_ | refine E_then ?_ | refine E_thenX ?_ | refine E_thenR ?_ | refine E_blockN ?_
          | refine E_blockR ?_ | refine E_blockX ?_ | refine E_blockO rfl ?_ | refine qs rfl rfl rfl rfl rfl rfl ?_
          | ((try refine qg rfl rfl rfl ?_); first | refine qv rfl (qp rfl) rfl rfl ?_ | refine qv rfl (rr_arridx Und.eq TyC.ty rfl rfl c1 hI) rfl rfl ?_ | refine qv rfl (qlen Und.eq rfl) rfl rfl ?_ | refine qv rfl (qfld FldC.fld rfl rfl) rfl rfl ?_ | refine qv rfl (rr_lss rfl rfl (qT (by omega))) rfl rfl ?_ | refine qv rfl (rr_lss rfl rfl (qF (by omega))) rfl rfl ?_ | refine qv rfl (rr_neq rfl rfl (qT (by omega))) rfl rfl ?_ | refine qv rfl (rr_neq rfl rfl (qF (by omega))) rfl rfl ?_ | refine qv rfl (rr_add64 rfl rfl (by omega) (by omega) rfl) rfl rfl ?_))
        refine TL_push1 (i := 0) rfl rfl rfl rfl rfl rfl (fun z h => by cases h; rfl) (by omega) (by omega) rfl fun z' v' => ?_
        repeat (first
          | refine qv rfl (qp rfl) rfl rfl ?_ | refine TL_nil ?_ | refine T_seq ?_ | refine T_region ?_ | refine qcT rfl ?_ | refine qcF rfl ?_ | refine T_skip ?_
          | refine T_exit ?_ | refine T_ret ?_ | refine T_block ?_ | refine E_then ?_ | refine E_thenX ?_ | refine E_thenR ?_ | refine E_blockN ?_
          | refine E_blockR ?_ | refine E_blockX ?_ | refine E_blockO rfl ?_ | refine qs rfl rfl rfl rfl rfl rfl ?_
          | ((try refine qg rfl rfl rfl ?_); first | refine qv rfl (qp rfl) rfl rfl ?_ | refine qv rfl (qlen Und.eq rfl) rfl rfl ?_ | refine qv rfl (qfld FldC.fld rfl rfl) rfl rfl ?_ | refine qv rfl (rr_lss rfl rfl (qT (by omega))) rfl rfl ?_ | refine qv rfl (rr_lss rfl rfl (qF (by omega))) rfl rfl ?_ | refine qv rfl (rr_neq rfl rfl (qT (by omega))) rfl rfl ?_ | refine qv rfl (rr_neq rfl rfl (qF (by omega))) rfl rfl ?_ | refine qv rfl (rr_add64 rfl rfl (by omega) (by omega) rfl) rfl rfl ?_))
        exact E_round (k + 1, v') (by show k + 1 ≤ 20; omega) (by show 20 - (k + 1) < 20 - k; omega) (by repeat' (first | exact True.intro | refine And.intro rfl ?_)) (by dsimp only [intR]; rw [hp, hpl]; rfl)
      · have hp := trues_skip I k c2
        rw [Bool.eq_false_iff.2 c2] at hI
        repeat (first
          | refine qv rfl (qp rfl) rfl rfl ?_ | refine TL_nil ?_ | refine T_seq ?_ | refine T_region ?_ | refine qcT rfl ?_ | refine qcF rfl ?_ | refine T_skip ?_
          | refine T_exit ?_ | refine T_ret ?_ | refine T_block ?_ | refine E_then ?_ | refine E_thenX ?_ | refine E_thenR ?_ | refine E_blockN ?_
          | refine E_blockR ?_ | refine E_blockX ?_ | refine E_blockO rfl ?_ | refine qs rfl rfl rfl rfl rfl rfl ?_
          | ((try refine qg rfl rfl rfl ?_); first | refine qv rfl (qp rfl) rfl rfl ?_ | refine qv rfl (rr_arridx Und.eq TyC.ty rfl rfl c1 hI) rfl rfl ?_ | refine qv rfl (qlen Und.eq rfl) rfl rfl ?_ | refine qv rfl (qfld FldC.fld rfl rfl) rfl rfl ?_ | refine qv rfl (rr_lss rfl rfl (qT (by omega))) rfl rfl ?_ | refine qv rfl (rr_lss rfl rfl (qF (by omega))) rfl rfl ?_ | refine qv rfl (rr_neq rfl rfl (qT (by omega))) rfl rfl ?_ | refine qv rfl (rr_neq rfl rfl (qF (by omega))) rfl rfl ?_ | refine qv rfl (rr_add64 rfl rfl (by omega) (by omega) rfl) rfl rfl ?_))
        exact E_round (k + 1, v) (by show k + 1 ≤ 20; omega) (by show 20 - (k + 1) < 20 - k; omega) (by repeat' (first | exact True.intro | refine And.intro rfl ?_)) (by dsimp only; rw [hp])
    · obtain rfl : k = 20 := by omega
      repeat (first
        | refine qv rfl (qp rfl) rfl rfl ?_ | refine TL_nil ?_ | refine T_seq ?_ | refine T_region ?_ | refine qcT rfl ?_ | refine qcF rfl ?_ | refine T_skip ?_
        | refine T_exit ?_ | refine T_ret ?_ | refine T_block ?_ | refine E_then ?_ | refine E_thenX ?_ | refine E_thenR ?_ | refine E_blockN ?_
        | refine E_blockR ?_ | refine E_blockX ?_ | refine E_blockO rfl ?_ | refine qs rfl rfl rfl rfl rfl rfl ?_
        | ((try refine qg rfl rfl rfl ?_); first | refine qv rfl (qp rfl) rfl rfl ?_ | refine qv rfl (qlen Und.eq rfl) rfl rfl ?_ | refine qv rfl (qfld FldC.fld rfl rfl) rfl rfl ?_ | refine qv rfl (rr_lss rfl rfl (qT (by omega))) rfl rfl ?_ | refine qv rfl (rr_lss rfl rfl (qF (by omega))) rfl rfl ?_ | refine qv rfl (rr_neq rfl rfl (qT (by omega))) rfl rfl ?_ | refine qv rfl (rr_neq rfl rfl (qF (by omega))) rfl rfl ?_ | refine qv rfl (rr_add64 rfl rfl (by omega) (by omega) rfl) rfl rfl ?_))
      exact E_ret2 rfl rfl rfl fun w hm => hm.meets (S := runS2 (truesTo I 20)) v trivial [0] (by decide) rfl
end Go.Proofs.YtndbaalenclgaaaDoor.eng

/- PlacesG -/
namespace Go.Proofs.YtndbaalenclgaaaDoor.placesL
open classL rexL
/-- how many places -/
def npl : Re → Nat
  | .byte _ => 1
  | .cat a b => npl a + npl b
  | .alt a b => npl a + npl b
  | .star a => npl a
  | _ => 0
def empL : Re → Bool
  | .empty => true
  | .star _ => true
  | .cat a b => empL a && empL b
  | .alt a b => empL a || empL b
  | _ => false
def clsP : Re → List C4
  | .byte c => [c]
  | .cat a b => clsP a ++ clsP b
  | .alt a b => clsP a ++ clsP b
  | .star a => clsP a
  | _ => []
theorem clsP_len : ∀ e : Re, (clsP e).length = npl e
  | .none => rfl
  | .empty => rfl
  | .byte _ => rfl
  | .cat a b => by rw [clsP, npl, List.length_append, clsP_len a, clsP_len b]
  | .alt a b => by rw [clsP, npl, List.length_append, clsP_len a, clsP_len b]
  | .star a => by rw [clsP, npl, clsP_len a]
def Fst : Re → Nat → Nat → Prop
  | .byte _, n, x => x = n
  | .cat a b, n, x => Fst a n x ∨ (empL a = true ∧ Fst b (n + npl a) x)
  | .alt a b, n, x => Fst a n x ∨ Fst b (n + npl a) x
  | .star a, n, x => Fst a n x
  | .none, _, _ => False
  | .empty, _, _ => False
def Lst : Re → Nat → Nat → Prop
  | .byte _, n, x => x = n
  | .cat a b, n, x => Lst b (n + npl a) x ∨ (empL b = true ∧ Lst a n x)
  | .alt a b, n, x => Lst a n x ∨ Lst b (n + npl a) x
  | .star a, n, x => Lst a n x
  | .none, _, _ => False
  | .empty, _, _ => False
def Fol : Re → Nat → Nat → Nat → Prop
  | .cat a b, n, x, y => Fol a n x y ∨ Fol b (n + npl a) x y ∨ (Lst a n x ∧ Fst b (n + npl a) y)
  | .alt a b, n, x, y => Fol a n x y ∨ Fol b (n + npl a) x y
  | .star a, n, x, y => Fol a n x y ∨ (Lst a n x ∧ Fst a n y)
  | .byte _, _, _, _ => False
  | .none, _, _, _ => False
  | .empty, _, _, _ => False
theorem fst_in : ∀ (e : Re) {n x : Nat}, Fst e n x → n ≤ x ∧ x < n + npl e
  | .none, _, _, h => h.elim
  | .empty, _, _, h => h.elim
  | .byte _, n, x, h => by
    have h : x = n := h
    simp only [npl]; omega
  | .cat a b, n, x, h => by
    simp only [npl]
    rcases h with h | ⟨_, h⟩
    · have := fst_in a h; omega
    · have := fst_in b h; omega
  | .alt a b, n, x, h => by
    simp only [npl]
    rcases h with h | h
    · have := fst_in a h; omega
    · have := fst_in b h; omega
  | .star a, n, x, h => fst_in a h
theorem lst_in : ∀ (e : Re) {n x : Nat}, Lst e n x → n ≤ x ∧ x < n + npl e
  | .none, _, _, h => h.elim
  | .empty, _, _, h => h.elim
  | .byte _, n, x, h => by
    have h : x = n := h
    simp only [npl]; omega
  | .cat a b, n, x, h => by
    simp only [npl]
    rcases h with h | ⟨_, h⟩
    · have := lst_in b h; omega
    · have := lst_in a h; omega
  | .alt a b, n, x, h => by
    simp only [npl]
    rcases h with h | h
    · have := lst_in a h; omega
    · have := lst_in b h; omega
  | .star a, n, x, h => lst_in a h
theorem fol_in : ∀ (e : Re) {n x y : Nat}, Fol e n x y → (n ≤ x ∧ x < n + npl e) ∧ n ≤ y ∧ y < n + npl e
  | .none, _, _, _, h => h.elim
  | .empty, _, _, _, h => h.elim
  | .byte _, _, _, _, h => h.elim
  | .cat a b, n, x, y, h => by
    simp only [npl]
    rcases h with h | h | ⟨h, h'⟩
    · have := fol_in a h; omega
    · have := fol_in b h; omega
    · have := lst_in a h; have := fst_in b h'; omega
  | .alt a b, n, x, y, h => by
    simp only [npl]
    rcases h with h | h
    · have := fol_in a h; omega
    · have := fol_in b h; omega
  | .star a, n, x, y, h => by
    rcases h with h | ⟨h, h'⟩
    · exact fol_in a h
    · exact ⟨lst_in a h, fst_in a h'⟩
/-! ### words of places -/
inductive StarW (P : List Nat → Prop) : List Nat → Prop
  | nil : StarW P []
  | cons {u v : List Nat} : P u → StarW P v → StarW P (u ++ v)
def Wd : Re → Nat → List Nat → Prop
  | .none, _, _ => False
  | .empty, _, l => l = []
  | .byte _, n, l => l = [n]
  | .cat a b, n, l => ∃ u v, l = u ++ v ∧ Wd a n u ∧ Wd b (n + npl a) v
  | .alt a b, n, l => Wd a n l ∨ Wd b (n + npl a) l
  | .star a, n, l => StarW (Wd a n) l
/-- places one behind the other, up to one that may be the last -/
def Chn (F : Nat → Nat → Prop) (T : Nat → Prop) : Nat → List Nat → Prop
  | x, [] => T x
  | x, y :: r => F x y ∧ Chn F T y r
theorem Chn.mono {F F' : Nat → Nat → Prop} {T T' : Nat → Prop} (hF : ∀ x y, F x y → F' x y) (hT : ∀ x, T x → T' x) : ∀ {l : List Nat} {x : Nat}, Chn F T x l → Chn F' T' x l
  | [], _, h => hT _ h
  | _ :: _, _, ⟨h, h'⟩ => ⟨hF _ _ h, Chn.mono hF hT h'⟩
/-- one chain behind the other -/
theorem Chn.app {F F' : Nat → Nat → Prop} {T T' : Nat → Prop} (hF : ∀ x y, F x y → F' x y) {y : Nat} {r : List Nat} (hT : ∀ x, T x → F' x y) (hr : Chn F' T' y r) : ∀ {l : List Nat} {x : Nat}, Chn F T x l → Chn F' T' x (l ++ y :: r)
  | [], _, h => ⟨hT _ h, hr⟩
  | _ :: _, _, ⟨h, h'⟩ => ⟨hF _ _ h, Chn.app hF hT hr h'⟩
/-- GLUSHKOV: words of places are those that begin, go on and end as they may -/
theorem word_iff : ∀ (e : Re) (n : Nat), (Wd e n [] ↔ empL e = true) ∧ ∀ x l, Wd e n (x :: l) ↔ Fst e n x ∧ Chn (Fol e n) (Lst e n) x l
  | .none, n => ⟨⟨fun h => h.elim, fun h => by cases h⟩, fun x l => ⟨fun h => h.elim, fun h => h.1.elim⟩⟩
  | .empty, n => ⟨⟨fun _ => rfl, fun _ => rfl⟩, fun x l => ⟨fun h => (by cases (show x :: l = [] from h)), fun h => h.1.elim⟩⟩
  | .byte c, n => ⟨⟨fun h => (by cases (show ([] : List Nat) = [n] from h)), fun h => (by cases h)⟩, fun x l => ⟨fun h => (by cases (show x :: l = [n] from h); exact ⟨rfl, rfl⟩), fun ⟨h1, h2⟩ => by
      cases l with
      | nil => rw [show x = n from h1]; rfl
      | cons y r => exact h2.1.elim⟩⟩
  | .alt a b, n => by
    obtain ⟨a0, a1⟩ := word_iff a n
    obtain ⟨b0, b1⟩ := word_iff b (n + npl a)
    refine ⟨?_, fun x l => ?_⟩
    · show Wd a n [] ∨ Wd b (n + npl a) [] ↔ (empL a || empL b) = true
      rw [a0, b0, Bool.or_eq_true]
    · show Wd a n (x :: l) ∨ Wd b (n + npl a) (x :: l) ↔ _
      rw [a1, b1]
      constructor
      · rintro (⟨h, h'⟩ | ⟨h, h'⟩)
        · exact ⟨.inl h, h'.mono (fun _ _ => .inl) fun _ => .inl⟩
        · exact ⟨.inr h, h'.mono (fun _ _ => .inr) fun _ => .inr⟩
      · rintro ⟨h, h'⟩
        have key : ∀ l x, Chn (Fol (.alt a b) n) (Lst (.alt a b) n) x l → ((n ≤ x ∧ x < n + npl a) ∧ Chn (Fol a n) (Lst a n) x l) ∨ ((n + npl a ≤ x) ∧ Chn (Fol b (n + npl a)) (Lst b (n + npl a)) x l) := by
          intro l
          induction l with
          | nil =>
            rintro x (h | h)
            · exact .inl ⟨lst_in a h, h⟩
            · exact .inr ⟨(lst_in b h).1, h⟩
          | cons y r ih =>
            rintro x ⟨h, h'⟩
            rcases h with h | h
            · have hi := fol_in a h
              rcases ih y h' with ⟨q, q'⟩ | ⟨q, q'⟩
              · exact .inl ⟨hi.1, h, q'⟩
              · omega
            · have hi := fol_in b h
              rcases ih y h' with ⟨q, q'⟩ | ⟨q, q'⟩
              · omega
              · exact .inr ⟨hi.1.1, h, q'⟩
        rcases key l x h' with ⟨q, q'⟩ | ⟨q, q'⟩
        · rcases h with h | h
          · exact .inl ⟨h, q'⟩
          · have := fst_in b h; omega
        · rcases h with h | h
          · have := fst_in a h; omega
          · exact .inr ⟨h, q'⟩
  | .cat a b, n => by
    obtain ⟨a0, a1⟩ := word_iff a n
    obtain ⟨b0, b1⟩ := word_iff b (n + npl a)
    refine ⟨?_, fun x l => ?_⟩
    · show (∃ u v, [] = u ++ v ∧ Wd a n u ∧ Wd b (n + npl a) v) ↔ (empL a && empL b) = true
      rw [Bool.and_eq_true, ← a0, ← b0]
      constructor
      · rintro ⟨u, v, h, h1, h2⟩
        obtain ⟨rfl, rfl⟩ := List.append_eq_nil_iff.1 h.symm
        exact ⟨h1, h2⟩
      · rintro ⟨h1, h2⟩; exact ⟨[], [], rfl, h1, h2⟩
    · show (∃ u v, x :: l = u ++ v ∧ Wd a n u ∧ Wd b (n + npl a) v) ↔ _
      constructor
      · rintro ⟨u, v, h, h1, h2⟩
        cases u with
        | nil =>
          have h : x :: l = v := h
          subst h
          obtain ⟨q1, q2⟩ := (b1 x l).1 h2
          exact ⟨.inr ⟨a0.1 h1, q1⟩, q2.mono (fun _ _ h => .inr (.inl h)) fun _ => .inl⟩
        | cons z u =>
          obtain ⟨rfl, rfl⟩ : x = z ∧ l = u ++ v := by cases h; exact ⟨rfl, rfl⟩
          obtain ⟨q1, q2⟩ := (a1 x u).1 h1
          refine ⟨.inl q1, ?_⟩
          cases v with
          | nil =>
            rw [List.append_nil]
            exact q2.mono (fun _ _ => .inl) fun _ h => .inr ⟨b0.1 h2, h⟩
          | cons y r =>
            obtain ⟨q3, q4⟩ := (b1 y r).1 h2
            exact Chn.app (F' := Fol (.cat a b) n) (T' := Lst (.cat a b) n) (fun _ _ h => .inl h) (fun _ h => .inr (.inr ⟨h, q3⟩)) (q4.mono (fun _ _ h => .inr (.inl h)) fun _ h => .inl h) q2
      · rintro ⟨h, h'⟩
        have key : ∀ l x, Chn (Fol (.cat a b) n) (Lst (.cat a b) n) x l → ((n ≤ x ∧ x < n + npl a) ∧ ∃ u v, l = u ++ v ∧ Chn (Fol a n) (Lst a n) x u ∧ Wd b (n + npl a) v) ∨ ((n + npl a ≤ x) ∧ Chn (Fol b (n + npl a)) (Lst b (n + npl a)) x l) := by
          intro l
          induction l with
          | nil =>
            rintro x (h | ⟨h0, h⟩)
            · exact .inr ⟨(lst_in b h).1, h⟩
            · exact .inl ⟨lst_in a h, [], [], rfl, h, b0.2 h0⟩
          | cons y r ih =>
            rintro x ⟨h, h'⟩
            rcases h with h | h | ⟨h, h2⟩
            · have hi := fol_in a h
              rcases ih y h' with ⟨q, u, v, rfl, q1, q2⟩ | ⟨q, q'⟩
              · exact .inl ⟨hi.1, y :: u, v, rfl, ⟨h, q1⟩, q2⟩
              · omega
            · have hi := fol_in b h
              rcases ih y h' with ⟨q, _⟩ | ⟨q, q'⟩
              · omega
              · exact .inr ⟨hi.1.1, h, q'⟩
            · have hi := lst_in a h
              have hj := fst_in b h2
              rcases ih y h' with ⟨q, _⟩ | ⟨q, q'⟩
              · omega
              · exact .inl ⟨hi, [], y :: r, rfl, h, (b1 y r).2 ⟨h2, q'⟩⟩
        rcases key l x h' with ⟨q, u, v, rfl, q1, q2⟩ | ⟨q, q'⟩
        · rcases h with h | ⟨_, h⟩
          · exact ⟨x :: u, v, rfl, (a1 x u).2 ⟨h, q1⟩, q2⟩
          · have := fst_in b h; omega
        · rcases h with h | ⟨h0, h⟩
          · have := fst_in a h; omega
          · exact ⟨[], x :: l, rfl, a0.2 h0, (b1 x l).2 ⟨h, q'⟩⟩
  | .star a, n => by
    obtain ⟨a0, a1⟩ := word_iff a n
    refine ⟨⟨fun _ => rfl, fun _ => .nil⟩, fun x l => ?_⟩
    show StarW (Wd a n) (x :: l) ↔ _
    constructor
    · intro h
      have key : ∀ L, StarW (Wd a n) L → ∀ x l, L = x :: l → Fst a n x ∧ Chn (Fol (.star a) n) (Lst (.star a) n) x l := by
        intro L hL
        induction hL with
        | nil => intro x l h; cases h
        | @cons u v hu hv ih =>
          intro x l h
          cases u with
          | nil => exact ih x l h
          | cons z u =>
            obtain ⟨rfl, rfl⟩ : z = x ∧ u ++ v = l := by cases h; exact ⟨rfl, rfl⟩
            obtain ⟨q1, q2⟩ := (a1 z u).1 hu
            refine ⟨q1, ?_⟩
            cases v with
            | nil => rw [List.append_nil]; exact q2.mono (fun _ _ => .inl) fun _ h => h
            | cons y r =>
              obtain ⟨q3, q4⟩ := ih y r rfl
              exact Chn.app (F' := Fol (.star a) n) (T' := Lst (.star a) n) (fun _ _ h => .inl h) (fun _ h => .inr ⟨h, q3⟩) q4 q2
      exact key _ h x l rfl
    · rintro ⟨h, h'⟩
      have key : ∀ l x, Chn (Fol (.star a) n) (Lst (.star a) n) x l → ∃ u v, l = u ++ v ∧ Chn (Fol a n) (Lst a n) x u ∧ StarW (Wd a n) v := by
        intro l
        induction l with
        | nil => intro x h; exact ⟨[], [], rfl, h, .nil⟩
        | cons y r ih =>
          rintro x ⟨h, h'⟩
          obtain ⟨u, v, rfl, q1, q2⟩ := ih y h'
          rcases h with h | ⟨h, h2⟩
          · exact ⟨y :: u, v, rfl, ⟨h, q1⟩, q2⟩
          · exact ⟨[], y :: u ++ v, rfl, h, .cons ((a1 y u).2 ⟨h2, q1⟩) q2⟩
      obtain ⟨u, v, rfl, q1, q2⟩ := key l x h'
      exact .cons (u := x :: u) ((a1 x u).2 ⟨h, q1⟩) q2
/-! ### texts -/
/-- each place's class has its byte -/
def Mt (K : Nat → Nat → Prop) : List UInt8 → List Nat → Prop
  | [], [] => True
  | b :: s, x :: l => K x b.toNat ∧ Mt K s l
  | _, _ => False
theorem mt_app {K : Nat → Nat → Prop} : ∀ {s : List UInt8} {l : List Nat} {s' : List UInt8} {l' : List Nat}, Mt K s l → Mt K s' l' → Mt K (s ++ s') (l ++ l')
  | [], [], _, _, _, h' => h'
  | b :: s, x :: l, _, _, ⟨h, h1⟩, h' => ⟨h, mt_app h1 h'⟩
  | [], x :: l, _, _, h, _ => h.elim
  | b :: s, [], _, _, h, _ => h.elim
theorem mt_cut {K : Nat → Nat → Prop} : ∀ {l : List Nat} {s : List UInt8} {l' : List Nat}, Mt K s (l ++ l') → ∃ u v, s = u ++ v ∧ Mt K u l ∧ Mt K v l'
  | [], s, _, h => ⟨[], s, rfl, trivial, h⟩
  | x :: l, [], _, h => h.elim
  | x :: l, b :: s, _, ⟨h, h'⟩ => by
    obtain ⟨u, v, rfl, h1, h2⟩ := mt_cut h'
    exact ⟨b :: u, v, rfl, ⟨h, h1⟩, h2⟩
/-- the classes are those of the places -/
def Ag (K : Nat → Nat → Prop) : Re → Nat → Prop
  | .byte c, n => ∀ b, K n b ↔ c.mem b = true
  | .cat a b, n => Ag K a n ∧ Ag K b (n + npl a)
  | .alt a b, n => Ag K a n ∧ Ag K b (n + npl a)
  | .star a, n => Ag K a n
  | _, _ => True
theorem lang_iff {K : Nat → Nat → Prop} : ∀ (e : Re) (n : Nat) (s : List UInt8), Ag K e n → (Lang e s ↔ ∃ l, Wd e n l ∧ Mt K s l)
  | .none, n, s, _ => ⟨fun h => h.elim, fun ⟨_, h, _⟩ => h.elim⟩
  | .empty, n, s, _ => by
    constructor
    · intro h; rw [show s = [] from h]; exact ⟨[], rfl, trivial⟩
    · rintro ⟨l, h, h'⟩
      rw [show l = [] from h] at h'
      cases s with
      | nil => rfl
      | cons b s => exact h'.elim
  | .byte c, n, s, hK => by
    have hK : ∀ b, K n b ↔ c.mem b = true := hK
    constructor
    · rintro ⟨b, rfl, h⟩
      exact ⟨[n], rfl, (hK _).2 h, trivial⟩
    · rintro ⟨l, h, h'⟩
      rw [show l = [n] from h] at h'
      match s, h' with
      | [b], ⟨h1, _⟩ => exact ⟨b, rfl, (hK _).1 h1⟩
  | .cat a b, n, s, hK => by
    constructor
    · rintro ⟨u, v, rfl, h1, h2⟩
      obtain ⟨l1, q1, q2⟩ := (lang_iff a n u hK.1).1 h1
      obtain ⟨l2, q3, q4⟩ := (lang_iff b (n + npl a) v hK.2).1 h2
      exact ⟨l1 ++ l2, ⟨l1, l2, rfl, q1, q3⟩, mt_app q2 q4⟩
    · rintro ⟨l, ⟨l1, l2, rfl, q1, q3⟩, h⟩
      obtain ⟨u, v, rfl, h1, h2⟩ := mt_cut h
      exact ⟨u, v, rfl, (lang_iff a n u hK.1).2 ⟨l1, q1, h1⟩, (lang_iff b (n + npl a) v hK.2).2 ⟨l2, q3, h2⟩⟩
  | .alt a b, n, s, hK => by
    show Lang a s ∨ Lang b s ↔ ∃ l, (Wd a n l ∨ Wd b (n + npl a) l) ∧ Mt K s l
    rw [lang_iff a n s hK.1, lang_iff b (n + npl a) s hK.2]
    constructor
    · rintro (⟨l, h, h'⟩ | ⟨l, h, h'⟩)
      · exact ⟨l, .inl h, h'⟩
      · exact ⟨l, .inr h, h'⟩
    · rintro ⟨l, h | h, h'⟩
      · exact .inl ⟨l, h, h'⟩
      · exact .inr ⟨l, h, h'⟩
  | .star a, n, s, hK => by
    have ih := fun s => lang_iff a n s hK
    constructor
    · intro h
      have key : ∀ s, Star (Lang a) s → ∃ l, StarW (Wd a n) l ∧ Mt K s l := by
        intro s h
        induction h with
        | nil => exact ⟨[], .nil, trivial⟩
        | @cons u v hu hv ih2 =>
          obtain ⟨l1, q1, q2⟩ := (ih u).1 hu
          obtain ⟨l2, q3, q4⟩ := ih2
          exact ⟨l1 ++ l2, .cons q1 q3, mt_app q2 q4⟩
      exact key s h
    · rintro ⟨l, h, h'⟩
      have key : ∀ l, StarW (Wd a n) l → ∀ s, Mt K s l → Star (Lang a) s := by
        intro l h
        induction h with
        | nil =>
          intro s h'
          cases s with
          | nil => exact .nil
          | cons b s => exact h'.elim
        | @cons u v hu hv ih2 =>
          intro s h'
          obtain ⟨s1, s2, rfl, h1, h2⟩ := mt_cut h'
          exact .cons ((ih s1).2 ⟨u, hu, h1⟩) (ih2 s2 h2)
      exact key l h s h'
/-! ### sets of places, byte by byte -/
def stepS (F K : Nat → Nat → Prop) (S : Nat → Prop) (b : UInt8) : Nat → Prop := fun y => (∃ x, S x ∧ F x y) ∧ K y b.toNat
def runS (F K : Nat → Nat → Prop) (I : Nat → Prop) : List UInt8 → Nat → Prop
  | [] => fun _ => False
  | b :: s => s.foldl (stepS F K) fun y => I y ∧ K y b.toNat
theorem foldS_iff {F K : Nat → Nat → Prop} {T : Nat → Prop} : ∀ (s : List UInt8) (S : Nat → Prop), (∃ x, s.foldl (stepS F K) S x ∧ T x) ↔ ∃ x, S x ∧ ∃ l, Mt K s l ∧ Chn F T x l
  | [], S => by
    constructor
    · rintro ⟨x, h, h'⟩; exact ⟨x, h, [], trivial, h'⟩
    · rintro ⟨x, h, l, h1, h2⟩
      cases l with
      | nil => exact ⟨x, h, h2⟩
      | cons y r => exact h1.elim
  | b :: s, S => by
    rw [List.foldl_cons, foldS_iff s]
    constructor
    · rintro ⟨y, ⟨⟨x, h1, h2⟩, h3⟩, l, h4, h5⟩
      exact ⟨x, h1, y :: l, ⟨h3, h4⟩, h2, h5⟩
    · rintro ⟨x, h, l, h1, h2⟩
      cases l with
      | nil => exact h1.elim
      | cons y r => exact ⟨y, ⟨⟨x, h, h2.1⟩, h1.1⟩, r, h1.2, h2.2⟩
theorem runS_iff {F K : Nat → Nat → Prop} {I T : Nat → Prop} {s : List UInt8} (hs : s ≠ []) : (∃ x, runS F K I s x ∧ T x) ↔ ∃ x l, Mt K s (x :: l) ∧ I x ∧ Chn F T x l := by
  cases s with
  | nil => exact absurd rfl hs
  | cons b s =>
    show (∃ x, s.foldl (stepS F K) (fun y => I y ∧ K y b.toNat) x ∧ T x) ↔ _
    rw [foldS_iff]
    constructor
    · rintro ⟨x, ⟨h1, h2⟩, l, h3, h4⟩; exact ⟨x, l, ⟨h2, h3⟩, h1, h4⟩
    · rintro ⟨x, l, ⟨h2, h3⟩, h1, h4⟩; exact ⟨x, ⟨h1, h2⟩, l, h3, h4⟩
/-- one expression -/
theorem runS_lang {K : Nat → Nat → Prop} {e : Re} {n : Nat} (hK : Ag K e n) {s : List UInt8} (hs : s ≠ []) : (∃ x, runS (Fol e n) K (Fst e n) s x ∧ Lst e n x) ↔ Lang e s := by
  rw [runS_iff hs, lang_iff e n s hK]
  constructor
  · rintro ⟨x, l, h1, h2, h3⟩; exact ⟨x :: l, ((word_iff e n).2 x l).2 ⟨h2, h3⟩, h1⟩
  · rintro ⟨l, h1, h2⟩
    cases l with
    | nil =>
      cases s with
      | nil => exact absurd rfl hs
      | cons b s => exact h2.elim
    | cons x l =>
      obtain ⟨q1, q2⟩ := ((word_iff e n).2 x l).1 h1
      exact ⟨x, l, h2, q1, q2⟩
theorem lang_nil : ∀ e : Re, Lang e [] ↔ empL e = true
  | .none => ⟨fun h => h.elim, fun h => by cases h⟩
  | .empty => ⟨fun _ => rfl, fun _ => rfl⟩
  | .byte c => ⟨fun ⟨b, h, _⟩ => (by cases h), fun h => by cases h⟩
  | .cat a b => by
    show (∃ u v, [] = u ++ v ∧ Lang a u ∧ Lang b v) ↔ (empL a && empL b) = true
    rw [Bool.and_eq_true, ← lang_nil a, ← lang_nil b]
    constructor
    · rintro ⟨u, v, h, h1, h2⟩
      obtain ⟨rfl, rfl⟩ := List.append_eq_nil_iff.1 h.symm
      exact ⟨h1, h2⟩
    · rintro ⟨h1, h2⟩; exact ⟨[], [], rfl, h1, h2⟩
  | .alt a b => by
    show Lang a [] ∨ Lang b [] ↔ (empL a || empL b) = true
    rw [Bool.or_eq_true, ← lang_nil a, ← lang_nil b]
  | .star a => ⟨fun _ => rfl, fun _ => .nil⟩
end Go.Proofs.YtndbaalenclgaaaDoor.placesL

/- PlacesH -/
namespace Go.Proofs.YtndbaalenclgaaaDoor.placesL
open classL rexL
theorem behind_get {first : List Int} : ∀ (last : List Int) (fol : List (List Int)) (x : Nat) (y : Int), (∀ z ∈ last, 0 ≤ z ∧ z < fol.length) → (y ∈ (behindF fol last first).getD x [] ↔ y ∈ fol.getD x [] ∨ ((x : Int) ∈ last ∧ y ∈ first))
  | [], fol, x, y, _ => ⟨.inl, fun h => h.elim id fun h => by cases h.1⟩
  | z :: last, fol, x, y, h => by
    have hz := h z (List.mem_cons_self ..)
    show y ∈ (behindF (fol.set z.toNat (uni (fol.getD z.toNat []) first)) last first).getD x [] ↔ _
    rw [behind_get last _ x y (fun q hq => by rw [List.length_set]; exact h q (List.mem_cons_of_mem _ hq)), set_getD]
    by_cases c : z.toNat = x ∧ x < fol.length
    · rw [if_pos c, (uni_law _ _).2, c.1]
      have hzx : (x : Int) = z := by omega
      constructor
      · rintro ((h1 | h1) | ⟨h1, h2⟩)
        · exact .inl h1
        · exact .inr ⟨by rw [hzx]; exact List.mem_cons_self .., h1⟩
        · exact .inr ⟨List.mem_cons_of_mem _ h1, h2⟩
      · rintro (h1 | ⟨_, h2⟩)
        · exact .inl (.inl h1)
        · exact .inl (.inr h2)
    · rw [if_neg c]
      have hne : (x : Int) ≠ z := fun e => c ⟨by omega, by omega⟩
      constructor
      · rintro (h1 | ⟨h1, h2⟩)
        · exact .inl h1
        · exact .inr ⟨List.mem_cons_of_mem _ h1, h2⟩
      · rintro (h1 | ⟨h1, h2⟩)
        · exact .inl h1
        · rcases List.mem_cons.1 h1 with e | e
          · exact absurd e hne
          · exact .inr ⟨e, h2⟩
structure NodeL (rule : Int) (e : Re) (p : PS) (R : Shape × PS) : Prop where
  cls : R.2.classes = p.classes ++ clsP e
  rules : R.2.rules = p.rules ++ List.replicate (npl e) rule
  lasts : R.2.last = p.last ++ List.replicate (npl e) false
  empty : R.1.empty = empL e
  first : ∀ x : Int, x ∈ R.1.first ↔ ∃ k : Nat, x = k ∧ Fst e p.classes.length k
  last : ∀ x : Int, x ∈ R.1.last ↔ ∃ k : Nat, x = k ∧ Lst e p.classes.length k
  follow : ∀ (x : Nat) (y : Int), y ∈ R.2.follow.getD x [] ↔ y ∈ p.follow.getD x [] ∨ ∃ k : Nat, y = k ∧ Fol e p.classes.length x k
theorem node_law (rule : Int) : ∀ (e : Re) (p : PS), PSOk p → NodeL rule e p (nodeF rule e p)
  | .empty, p, _ => ⟨(List.append_nil _).symm, (List.append_nil _).symm, (List.append_nil _).symm, rfl, fun x => ⟨fun h => (by cases h), fun ⟨_, _, h⟩ => h.elim⟩, fun x => ⟨fun h => (by cases h), fun ⟨_, _, h⟩ => h.elim⟩, fun x y => ⟨.inl, fun h => h.elim id fun ⟨_, _, h⟩ => h.elim⟩⟩
  | .none, p, _ => ⟨(List.append_nil _).symm, (List.append_nil _).symm, (List.append_nil _).symm, rfl, fun x => ⟨fun h => (by cases h), fun ⟨_, _, h⟩ => h.elim⟩, fun x => ⟨fun h => (by cases h), fun ⟨_, _, h⟩ => h.elim⟩, fun x y => ⟨.inl, fun h => h.elim id fun ⟨_, _, h⟩ => h.elim⟩⟩
  | .byte c, p, hp => by
    have h1 : ∀ x : Int, x ∈ [(p.classes.length : Int)] ↔ ∃ k : Nat, x = k ∧ k = p.classes.length := fun x => by
      rw [List.mem_singleton]
      exact ⟨fun h => ⟨_, h, rfl⟩, fun ⟨k, h, h'⟩ => by rw [h, h']⟩
    refine ⟨rfl, rfl, rfl, rfl, h1, h1, fun x y => ?_⟩
    show y ∈ (p.follow ++ [[]]).getD x [] ↔ _
    have e : (p.follow ++ [[]]).getD x [] = p.follow.getD x [] := by
      rw [List.getD_eq_getElem?_getD, List.getD_eq_getElem?_getD]
      by_cases c1 : x < p.follow.length
      · rw [List.getElem?_append_left c1]
      · rw [List.getElem?_append_right (by omega), List.getElem?_eq_none (l := p.follow) (by omega)]
        by_cases c2 : x - p.follow.length = 0
        · rw [c2]; rfl
        · rw [List.getElem?_eq_none (by simp; omega)]
    rw [e]
    exact ⟨.inl, fun h => h.elim id fun ⟨_, _, h⟩ => h.elim⟩
  | .star a, p, hp => by
    have ha := node_law rule a p hp
    obtain ⟨k1, k2, k3, k4, k5⟩ := node_ok rule a p hp
    refine ⟨ha.cls, ha.rules, ha.lasts, rfl, ha.first, ha.last, fun x y => ?_⟩
    show y ∈ (behindF _ _ _).getD x [] ↔ _
    rw [behind_get _ _ x y (fun z hz => by have := k5.2 z hz; rw [k1.follow]; exact this), ha.follow, ha.last, ha.first]
    constructor
    · rintro ((h | ⟨k, h, h'⟩) | ⟨⟨k, h1, h2⟩, q, h3, h4⟩)
      · exact .inl h
      · exact .inr ⟨k, h, .inl h'⟩
      · obtain rfl : x = k := by omega
        exact .inr ⟨q, h3, .inr ⟨h2, h4⟩⟩
    · rintro (h | ⟨k, h, h' | ⟨h1, h2⟩⟩)
      · exact .inl (.inl h)
      · exact .inl (.inr ⟨k, h, h'⟩)
      · exact .inr ⟨⟨x, rfl, h1⟩, k, h, h2⟩
  | .alt a b, p, hp => by
    have ha := node_law rule a p hp
    obtain ⟨k1, k2, k3, k4, k5⟩ := node_ok rule a p hp
    have hb := node_law rule b _ k1
    have hn : (nodeF rule a p).2.classes.length = p.classes.length + npl a := by rw [ha.cls, List.length_append, clsP_len]
    have b5 := hb.first
    have b6 := hb.last
    have b7 := hb.follow
    rw [hn] at b5 b6 b7
    refine ⟨?_, ?_, ?_, ?_, fun x => ?_, fun x => ?_, fun x y => ?_⟩
    · exact hb.cls.trans (by rw [ha.cls, List.append_assoc]; rfl)
    · exact hb.rules.trans (by rw [ha.rules, List.append_assoc, List.replicate_append_replicate]; rfl)
    · exact hb.lasts.trans (by rw [ha.lasts, List.append_assoc, List.replicate_append_replicate]; rfl)
    · show ((nodeF rule a p).1.empty || (nodeF rule b (nodeF rule a p).2).1.empty) = _
      rw [ha.empty, hb.empty]; rfl
    · show x ∈ uni _ _ ↔ _
      rw [(uni_law _ _).2, ha.first, b5]
      constructor
      · rintro (⟨k, h, h'⟩ | ⟨k, h, h'⟩)
        · exact ⟨k, h, .inl h'⟩
        · exact ⟨k, h, .inr h'⟩
      · rintro ⟨k, h, h' | h'⟩
        · exact .inl ⟨k, h, h'⟩
        · exact .inr ⟨k, h, h'⟩
    · show x ∈ uni _ _ ↔ _
      rw [(uni_law _ _).2, ha.last, b6]
      constructor
      · rintro (⟨k, h, h'⟩ | ⟨k, h, h'⟩)
        · exact ⟨k, h, .inl h'⟩
        · exact ⟨k, h, .inr h'⟩
      · rintro ⟨k, h, h' | h'⟩
        · exact .inl ⟨k, h, h'⟩
        · exact .inr ⟨k, h, h'⟩
    · show y ∈ (nodeF rule b (nodeF rule a p).2).2.follow.getD x [] ↔ _
      rw [b7, ha.follow]
      constructor
      · rintro ((h | ⟨k, h, h'⟩) | ⟨k, h, h'⟩)
        · exact .inl h
        · exact .inr ⟨k, h, .inl h'⟩
        · exact .inr ⟨k, h, .inr h'⟩
      · rintro (h | ⟨k, h, h' | h'⟩)
        · exact .inl (.inl h)
        · exact .inl (.inr ⟨k, h, h'⟩)
        · exact .inr ⟨k, h, h'⟩
  | .cat a b, p, hp => by
    have ha := node_law rule a p hp
    obtain ⟨k1, k2, k3, k4, k5⟩ := node_ok rule a p hp
    have hb := node_law rule b _ k1
    obtain ⟨l1, l2, l3, l4, l5⟩ := node_ok rule b _ k1
    have hn : (nodeF rule a p).2.classes.length = p.classes.length + npl a := by rw [ha.cls, List.length_append, clsP_len]
    have b5 := hb.first
    have b6 := hb.last
    have b7 := hb.follow
    rw [hn] at b5 b6 b7
    refine ⟨?_, ?_, ?_, ?_, fun x => ?_, fun x => ?_, fun x y => ?_⟩
    · exact hb.cls.trans (by rw [ha.cls, List.append_assoc]; rfl)
    · exact hb.rules.trans (by rw [ha.rules, List.append_assoc, List.replicate_append_replicate]; rfl)
    · exact hb.lasts.trans (by rw [ha.lasts, List.append_assoc, List.replicate_append_replicate]; rfl)
    · show ((nodeF rule a p).1.empty && (nodeF rule b (nodeF rule a p).2).1.empty) = _
      rw [ha.empty, hb.empty]; rfl
    · show x ∈ (if (nodeF rule a p).1.empty then uni _ _ else _) ↔ ∃ k : Nat, x = k ∧ (Fst a p.classes.length k ∨ (empL a = true ∧ Fst b (p.classes.length + npl a) k))
      rw [ha.empty]
      by_cases c : empL a = true
      · rw [if_pos c, (uni_law _ _).2, ha.first, b5]
        constructor
        · rintro (⟨k, h, h'⟩ | ⟨k, h, h'⟩)
          · exact ⟨k, h, .inl h'⟩
          · exact ⟨k, h, .inr ⟨c, h'⟩⟩
        · rintro ⟨k, h, h' | h'⟩
          · exact .inl ⟨k, h, h'⟩
          · exact .inr ⟨k, h, h'.2⟩
      · rw [if_neg c, ha.first]
        constructor
        · rintro ⟨k, h, h'⟩; exact ⟨k, h, .inl h'⟩
        · rintro ⟨k, h, h' | h'⟩
          · exact ⟨k, h, h'⟩
          · exact absurd h'.1 c
    · show x ∈ (if (nodeF rule b (nodeF rule a p).2).1.empty then uni _ _ else _) ↔ ∃ k : Nat, x = k ∧ (Lst b (p.classes.length + npl a) k ∨ (empL b = true ∧ Lst a p.classes.length k))
      rw [hb.empty]
      by_cases c : empL b = true
      · rw [if_pos c, (uni_law _ _).2, ha.last, b6]
        constructor
        · rintro (⟨k, h, h'⟩ | ⟨k, h, h'⟩)
          · exact ⟨k, h, .inr ⟨c, h'⟩⟩
          · exact ⟨k, h, .inl h'⟩
        · rintro ⟨k, h, h' | h'⟩
          · exact .inr ⟨k, h, h'⟩
          · exact .inl ⟨k, h, h'.2⟩
      · rw [if_neg c, b6]
        constructor
        · rintro ⟨k, h, h'⟩; exact ⟨k, h, .inl h'⟩
        · rintro ⟨k, h, h' | h'⟩
          · exact ⟨k, h, h'⟩
          · exact absurd h'.1 c
    · show y ∈ (behindF _ _ _).getD x [] ↔ _
      rw [behind_get _ _ x y (fun z hz => by have := k5.2 z hz; rw [l1.follow]; omega), b7, ha.follow, ha.last, b5]
      constructor
      · rintro (((h | ⟨k, h, h'⟩) | ⟨k, h, h'⟩) | ⟨⟨k, h1, h2⟩, q, h3, h4⟩)
        · exact .inl h
        · exact .inr ⟨k, h, .inl h'⟩
        · exact .inr ⟨k, h, .inr (.inl h')⟩
        · obtain rfl : x = k := by omega
          exact .inr ⟨q, h3, .inr (.inr ⟨h2, h4⟩)⟩
      · rintro (h | ⟨k, h, h' | h' | ⟨h1, h2⟩⟩)
        · exact .inl (.inl (.inl h))
        · exact .inl (.inl (.inr ⟨k, h, h'⟩))
        · exact .inl (.inr ⟨k, h, h'⟩)
        · exact .inr ⟨⟨x, rfl, h1⟩, k, h, h2⟩
/-! ### rule by rule -/
def plc (es : List Re) : Nat := (es.map npl).sum
/-- rule i is e, its places begin at n -/
def RuleAt (es : List Re) (i n : Nat) (e : Re) : Prop := es[i]? = some e ∧ n = plc (es.take i)
theorem ruleAt_snoc {es : List Re} {e e' : Re} {i n : Nat} : RuleAt (es ++ [e]) i n e' ↔ RuleAt es i n e' ∨ (i = es.length ∧ n = plc es ∧ e' = e) := by
  unfold RuleAt
  by_cases c : i < es.length
  · rw [List.getElem?_append_left c, List.take_append_of_le_length (by omega)]
    exact ⟨.inl, fun h => h.elim id fun h => by omega⟩
  · by_cases c2 : i = es.length
    · subst c2
      rw [List.getElem?_append_right (Nat.le_refl _), Nat.sub_self, List.take_append_of_le_length (Nat.le_refl _), List.take_of_length_le (Nat.le_refl _), List.getElem?_eq_none (l := es) (Nat.le_refl _)]
      constructor
      · rintro ⟨h1, h2⟩; cases h1; exact .inr ⟨rfl, h2, rfl⟩
      · rintro (h | ⟨_, h2, rfl⟩)
        · cases h.1
        · exact ⟨rfl, h2⟩
    · rw [List.getElem?_eq_none (by simp; omega), List.getElem?_eq_none (l := es) (by omega)]
      constructor
      · rintro ⟨h1, _⟩; cases h1
      · rintro (⟨h1, _⟩ | h)
        · cases h1
        · exact absurd h.1 c2
structure InvL (es : List Re) (m : MS) : Prop where
  cls : m.ps.classes = es.flatMap clsP
  rules : ∀ i n e, RuleAt es i n e → ∀ x, n ≤ x → x < n + npl e → m.ps.rules.getD x 0 = i
  first : ∀ x : Int, x ∈ m.first ↔ ∃ k : Nat, x = k ∧ ∃ i n e, RuleAt es i n e ∧ Fst e n k
  follow : ∀ (x : Nat) (y : Int), y ∈ m.ps.follow.getD x [] ↔ ∃ k : Nat, y = k ∧ ∃ i n e, RuleAt es i n e ∧ Fol e n x k
  last : ∀ x : Nat, m.ps.last.getD x false = true ↔ ∃ i n e, RuleAt es i n e ∧ Lst e n x
  empty : m.empty = es.map empL
theorem mark_get : ∀ (l : List Int) (last : List Bool) (j : Nat), (∀ x ∈ l, 0 ≤ x ∧ x < last.length) → ((markF last l).getD j false = true ↔ last.getD j false = true ∨ (j : Int) ∈ l)
  | [], last, j, _ => ⟨.inl, fun h => h.elim id fun h => by cases h⟩
  | x :: l, last, j, h => by
    have hx := h x (List.mem_cons_self ..)
    show (markF (last.set x.toNat true) l).getD j false = true ↔ _
    rw [mark_get l _ j (fun y hy => by rw [List.length_set]; exact h y (List.mem_cons_of_mem _ hy)), set_getD]
    by_cases c : x.toNat = j ∧ j < last.length
    · rw [if_pos c]
      have hxj : (j : Int) = x := by omega
      exact ⟨fun _ => .inr (by rw [hxj]; exact List.mem_cons_self ..), fun _ => .inl rfl⟩
    · rw [if_neg c]
      have hne : (j : Int) ≠ x := fun e => c ⟨by omega, by omega⟩
      constructor
      · rintro (h1 | h1)
        · exact .inl h1
        · exact .inr (List.mem_cons_of_mem _ h1)
      · rintro (h1 | h1)
        · exact .inl h1
        · rcases List.mem_cons.1 h1 with e | e
          · exact absurd e hne
          · exact .inr e
theorem cls_plc : ∀ es : List Re, (es.flatMap clsP).length = plc es
  | [] => rfl
  | e :: es => by
    rw [List.flatMap_cons, List.length_append, clsP_len, cls_plc es]
    unfold plc; simp
theorem app_getD {α : Type} {l r : List α} {d : α} {x : Nat} : (l ++ r).getD x d = if x < l.length then l.getD x d else r.getD (x - l.length) d := by
  rw [List.getD_eq_getElem?_getD, List.getD_eq_getElem?_getD, List.getD_eq_getElem?_getD]
  by_cases c : x < l.length
  · rw [if_pos c, List.getElem?_append_left c]
  · rw [if_neg c, List.getElem?_append_right (by omega)]
theorem rep_getD {α : Type} {n x : Nat} {a d : α} : (List.replicate n a).getD x d = if x < n then a else d := by
  rw [List.getD_eq_getElem?_getD, List.getElem?_replicate]
  split <;> rfl
theorem ruleAt_in {es : List Re} {i n : Nat} {e : Re} (h : RuleAt es i n e) : n + npl e ≤ plc es := by
  obtain ⟨h1, rfl⟩ := h
  obtain ⟨hi, rfl⟩ := List.getElem?_eq_some_iff.1 h1
  have e0 : es = es.take i ++ es[i] :: es.drop (i + 1) := by rw [List.getElem_cons_drop, List.take_append_drop]
  have : plc es = plc (es.take i) + npl es[i] + plc (es.drop (i + 1)) := by
    conv => lhs; rw [e0]
    unfold plc
    rw [List.map_append, List.sum_append, List.map_cons, List.sum_cons]; omega
  omega
theorem inv_step {es : List Re} {m : MS} (h : MSOk m) (hi : InvL es m) (e : Re) : InvL (es ++ [e]) (stepM es.length m e) := by
  have hl := node_law es.length e m.ps h.ps
  obtain ⟨k1, k2, k3, k4, k5⟩ := node_ok es.length e m.ps h.ps
  have hn : m.ps.classes.length = plc es := by rw [hi.cls, cls_plc]
  have l5 := hl.first
  have l6 := hl.last
  have l7 := hl.follow
  rw [hn] at l5 l6 l7
  refine ⟨?_, ?_, fun x => ?_, fun x y => ?_, fun x => ?_, ?_⟩
  · show (nodeF es.length e m.ps).2.classes = _
    rw [hl.cls, hi.cls, List.flatMap_append]; simp
  · intro i n e' hr x h1 h2
    show (nodeF es.length e m.ps).2.rules.getD x 0 = i
    rw [hl.rules, app_getD, h.ps.rules, hn]
    rcases ruleAt_snoc.1 hr with hr | ⟨rfl, rfl, rfl⟩
    · have := ruleAt_in hr
      rw [if_pos (by omega)]
      exact hi.rules i n e' hr x h1 h2
    · rw [if_neg (by omega), rep_getD, if_pos (by omega)]
  · show x ∈ uni _ _ ↔ _
    rw [(uni_law _ _).2, hi.first, l5]
    constructor
    · rintro (⟨k, h, i, n, e', h1, h2⟩ | ⟨k, h, h'⟩)
      · exact ⟨k, h, i, n, e', ruleAt_snoc.2 (.inl h1), h2⟩
      · exact ⟨k, h, _, _, e, ruleAt_snoc.2 (.inr ⟨rfl, rfl, rfl⟩), h'⟩
    · rintro ⟨k, h, i, n, e', h1, h2⟩
      rcases ruleAt_snoc.1 h1 with h1 | ⟨rfl, rfl, rfl⟩
      · exact .inl ⟨k, h, i, n, e', h1, h2⟩
      · exact .inr ⟨k, h, h2⟩
  · show y ∈ (nodeF es.length e m.ps).2.follow.getD x [] ↔ _
    rw [l7, hi.follow]
    constructor
    · rintro (⟨k, h, i, n, e', h1, h2⟩ | ⟨k, h, h'⟩)
      · exact ⟨k, h, i, n, e', ruleAt_snoc.2 (.inl h1), h2⟩
      · exact ⟨k, h, _, _, e, ruleAt_snoc.2 (.inr ⟨rfl, rfl, rfl⟩), h'⟩
    · rintro ⟨k, h, i, n, e', h1, h2⟩
      rcases ruleAt_snoc.1 h1 with h1 | ⟨rfl, rfl, rfl⟩
      · exact .inl ⟨k, h, i, n, e', h1, h2⟩
      · exact .inr ⟨k, h, h2⟩
  · show (markF _ _).getD x false = true ↔ _
    rw [mark_get _ _ x (fun z hz => by have := k5.2 z hz; rw [k1.last]; exact this), l6, hl.lasts, app_getD, h.ps.last, hn]
    have hx : (if x < plc es then m.ps.last.getD x false else (List.replicate (npl e) false).getD (x - plc es) false) = true ↔ m.ps.last.getD x false = true := by
      by_cases c : x < plc es
      · rw [if_pos c]
      · rw [if_neg c, rep_getD]
        have : m.ps.last.getD x false = false := by rw [List.getD_eq_getElem?_getD, List.getElem?_eq_none (by rw [h.ps.last, hn]; omega)]; rfl
        rw [this]
        split <;> rfl
    rw [hx, hi.last]
    constructor
    · rintro (⟨i, n, e', h1, h2⟩ | ⟨k, h, h'⟩)
      · exact ⟨i, n, e', ruleAt_snoc.2 (.inl h1), h2⟩
      · obtain rfl : x = k := by omega
        exact ⟨_, _, e, ruleAt_snoc.2 (.inr ⟨rfl, rfl, rfl⟩), h'⟩
    · rintro ⟨i, n, e', h1, h2⟩
      rcases ruleAt_snoc.1 h1 with h1 | ⟨rfl, rfl, rfl⟩
      · exact .inl ⟨i, n, e', h1, h2⟩
      · exact .inr ⟨x, rfl, h2⟩
  · show m.empty ++ [(nodeF es.length e m.ps).1.empty] = _
    rw [hi.empty, hl.empty, List.map_append]; rfl
theorem inv_zero : InvL [] .zero :=
  ⟨rfl, fun i n e h => (by cases h.1), fun x => ⟨fun h => (by cases h), fun ⟨_, _, i, n, e, h, _⟩ => (by cases h.1)⟩, fun x y => ⟨fun h => (by cases h), fun ⟨_, _, i, n, e, h, _⟩ => (by cases h.1)⟩, fun x => ⟨fun h => (by cases h), fun ⟨i, n, e, h, _⟩ => (by cases h.1)⟩, rfl⟩
theorem inv_loop : ∀ (r es : List Re) (m m' : MS), MSOk m → InvL es m → loopM es.length m r = (0, m') → InvL (es ++ r) m'
  | [], es, m, m', _, h2, h => by cases h; rw [List.append_nil]; exact h2
  | e :: r, es, m, m', h1, h2, h => by
    rw [loopM] at h
    split at h
    · cases h
    · have := inv_loop r (es ++ [e]) (stepM es.length m e) m' (step_ok _ h1 e).1 (inv_step h1 h2 e) (by rw [List.length_append, List.length_singleton]; exact h)
      rw [List.append_assoc] at this
      exact this
theorem make_inv {es : List Re} {m : MS} (h : loopM 0 .zero es = (0, m)) : InvL es m := by
  have := inv_loop es [] .zero m zero_ok inv_zero h
  rwa [List.nil_append] at this
/-! ### gone along -/
def Fg (es : List Re) (x y : Nat) : Prop := ∃ i n e, RuleAt es i n e ∧ Fol e n x y
def Ig (es : List Re) (x : Nat) : Prop := ∃ i n e, RuleAt es i n e ∧ Fst e n x
def Kg (m : MS) (x b : Nat) : Prop := (m.ps.classes.getD x C4.zero).mem b = true
theorem insF_get {m : MS} (h : MOkP m) (now : List Int) (isF : Bool) (b j : Nat) :
    (insF m.ps m.first now isF b).getD j false = true ↔ Kg m j b ∧ ((isF = true ∧ (j : Int) ∈ m.first) ∨ ∃ x ∈ now, (j : Int) ∈ m.ps.follow.getD x.toNat []) := by
  have hf : ∀ x : Int, ∀ y ∈ m.ps.follow.getD x.toNat [], 0 ≤ y ∧ y < m.ps.classes.length := fun x y hy => by
    by_cases c : x.toNat < m.ps.follow.length
    · rw [List.getD_eq_getElem?_getD, List.getElem?_eq_getElem c] at hy
      exact (h.ok.ps.ris _ (List.getElem_mem c)).2 y hy
    · rw [List.getD_eq_getElem?_getD, List.getElem?_eq_none (by omega)] at hy; cases hy
  have h200 := h.few
  have key : ∀ (now : List Int) (ins : List Bool), ins.length = 200 → ((now.foldl (fun ins x => markB m.ps.classes b ins (m.ps.follow.getD x.toNat [])) ins).getD j false = true ↔ ins.getD j false = true ∨ (Kg m j b ∧ ∃ x ∈ now, (j : Int) ∈ m.ps.follow.getD x.toNat [])) := by
    intro now
    induction now with
    | nil => intro ins _; exact ⟨.inl, fun h => h.elim id fun ⟨_, _, h, _⟩ => by cases h⟩
    | cons x r ih =>
      intro ins hl
      rw [List.foldl_cons, ih _ (by rw [markB_len]; exact hl), markB_get _ _ _ _ _ (fun y hy => by have := hf x y hy; omega)]
      constructor
      · rintro ((h1 | ⟨h1, h2⟩) | ⟨h1, z, h2, h3⟩)
        · exact .inl h1
        · exact .inr ⟨h2, x, List.mem_cons_self .., h1⟩
        · exact .inr ⟨h1, z, List.mem_cons_of_mem _ h2, h3⟩
      · rintro (h1 | ⟨h1, z, h2, h3⟩)
        · exact .inl (.inl h1)
        · rcases List.mem_cons.1 h2 with rfl | h2
          · exact .inl (.inr ⟨h3, h1⟩)
          · exact .inr ⟨h1, z, h2, h3⟩
  have hrep : (List.replicate 200 false).getD j false = true ↔ False := by
    rw [rep_getD]; split <;> simp
  unfold insF
  cases isF with
  | false =>
    rw [if_neg (by decide), key now _ List.length_replicate, hrep]
    constructor
    · rintro (h | ⟨h1, h2⟩)
      · exact h.elim
      · exact ⟨h1, .inr h2⟩
    · rintro ⟨h1, ⟨h2, _⟩ | h2⟩
      · cases h2
      · exact .inr ⟨h1, h2⟩
  | true =>
    rw [if_pos rfl, key now _ (by rw [markB_len, List.length_replicate]), markB_get _ _ _ _ _ (fun y hy => by have := h.ok.first.2 y hy; rw [List.length_replicate]; omega), hrep]
    constructor
    · rintro ((h | ⟨h1, h2⟩) | ⟨h1, h2⟩)
      · exact h.elim
      · exact ⟨h2, .inl ⟨rfl, h1⟩⟩
      · exact ⟨h1, .inr h2⟩
    · rintro ⟨h1, ⟨_, h2⟩ | h2⟩
      · exact .inl (.inr ⟨h2, h1⟩)
      · exact .inr ⟨h1, h2⟩
theorem stepP_mem {es : List Re} {m : MS} (h : MOkP m) (hi : InvL es m) (now : List Int) (hnow : ∀ x ∈ now, 0 ≤ x) (isF : Bool) (b : Nat) (x : Int) :
    x ∈ stepP m now isF b ↔ ∃ k : Nat, x = k ∧ Kg m k b ∧ ((isF = true ∧ Ig es k) ∨ ∃ q : Nat, (q : Int) ∈ now ∧ Fg es q k) := by
  unfold stepP
  rw [trues_mem]
  constructor
  · rintro ⟨i, rfl, h1, h2⟩
    obtain ⟨h3, h4⟩ := (insF_get h now isF b i).1 h2
    refine ⟨i, rfl, h3, ?_⟩
    rcases h4 with ⟨h4, h5⟩ | ⟨x, h4, h5⟩
    · obtain ⟨k, e, h6⟩ := (hi.first _).1 h5
      obtain rfl : i = k := by omega
      exact .inl ⟨h4, h6⟩
    · obtain ⟨k, e, h6⟩ := (hi.follow _ _).1 h5
      obtain rfl : i = k := by omega
      have := hnow x h4
      exact .inr ⟨x.toNat, by rw [Int.toNat_of_nonneg this]; exact h4, h6⟩
  · rintro ⟨k, rfl, h1, h2⟩
    have hg : (insF m.ps m.first now isF b).getD k false = true := (insF_get h now isF b k).2 ⟨h1, by
      rcases h2 with ⟨h2, h3⟩ | ⟨q, h2, h3⟩
      · exact .inl ⟨h2, (hi.first _).2 ⟨k, rfl, h3⟩⟩
      · exact .inr ⟨q, h2, by rw [Int.toNat_natCast]; exact (hi.follow _ _).2 ⟨k, rfl, h3⟩⟩⟩
    have := insF_in h now isF b hg
    have := h.few
    exact ⟨k, rfl, by omega, hg⟩
theorem runP_cons (m : MS) (b : UInt8) (s : List UInt8) : runP m (b :: s) = s.foldl (fun now (b : UInt8) => stepP m now false b.toNat) (stepP m [] true b.toNat) := rfl
theorem runS_cons (F K : Nat → Nat → Prop) (I : Nat → Prop) (b : UInt8) (s : List UInt8) : runS F K I (b :: s) = s.foldl (stepS F K) (fun k => I k ∧ K k b.toNat) := rfl
theorem runP_mem {es : List Re} {m : MS} (h : MOkP m) (hi : InvL es m) (s : List UInt8) (x : Int) : x ∈ runP m s ↔ ∃ k : Nat, x = k ∧ runS (Fg es) (Kg m) (Ig es) s k := by
  cases s with
  | nil => exact ⟨fun h => (by cases h), fun ⟨_, _, h⟩ => h.elim⟩
  | cons b s =>
    rw [runP_cons, runS_cons]
    have h0 : ∀ x : Int, x ∈ stepP m [] true b.toNat ↔ ∃ k : Nat, x = k ∧ (Ig es k ∧ Kg m k b.toNat) := fun x => by
      rw [stepP_mem h hi [] (fun x hx => by cases hx)]
      constructor
      · rintro ⟨k, rfl, h1, ⟨_, h2⟩ | ⟨q, h2, _⟩⟩
        · exact ⟨k, rfl, h2, h1⟩
        · cases h2
      · rintro ⟨k, rfl, h2, h1⟩; exact ⟨k, rfl, h1, .inl ⟨rfl, h2⟩⟩
    have hn : ∀ x ∈ stepP m [] true b.toNat, 0 ≤ x := fun x hx => ((step_in h [] true b.toNat).2 x hx).1
    have h1 : ∀ x : Int, x ∈ stepP m [] true b.toNat ↔ ∃ k : Nat, x = k ∧ (fun k => Ig es k ∧ Kg m k b.toNat) k := h0
    clear h0
    generalize stepP m [] true b.toNat = now at *
    generalize (fun k => Ig es k ∧ Kg m k b.toNat) = S at *
    induction s generalizing now S with
    | nil => exact h1 x
    | cons c s ih =>
      rw [List.foldl_cons, List.foldl_cons]
      refine ih _ (fun x hx => ((step_in h now false c.toNat).2 x hx).1) _ fun x => ?_
      rw [stepP_mem h hi now hn]
      constructor
      · rintro ⟨k, rfl, h5, ⟨h2, _⟩ | ⟨q, h2, h3⟩⟩
        · cases h2
        · obtain ⟨k', e, h4⟩ := (h1 _).1 h2
          obtain rfl : q = k' := by omega
          exact ⟨k, rfl, ⟨q, h4, h3⟩, h5⟩
      · rintro ⟨k, rfl, ⟨q, h4, h3⟩, h5⟩
        exact ⟨k, rfl, h5, .inr ⟨q, (h1 _).2 ⟨q, rfl, h4⟩, h3⟩⟩
/-! ### each rule for itself -/
theorem ag_seg {K : Nat → Nat → Prop} : ∀ (e : Re) (n : Nat), (∀ j, j < npl e → ∀ b, K (n + j) b ↔ ((clsP e).getD j C4.zero).mem b = true) → Ag K e n
  | .none, _, _ => trivial
  | .empty, _, _ => trivial
  | .byte c, n, h => fun b => h 0 (by show 0 < 1; omega) b
  | .star a, n, h => ag_seg a n h
  | .cat a b, n, h => by
    have hl := clsP_len a
    refine ⟨ag_seg a n fun j hj q => ?_, ag_seg b (n + npl a) fun j hj q => ?_⟩
    · rw [h j (by simp only [npl]; omega) q]
      show ((clsP a ++ clsP b).getD j C4.zero).mem q = true ↔ _
      rw [app_getD, if_pos (by omega)]
    · rw [Nat.add_assoc, h (npl a + j) (by simp only [npl]; omega) q]
      show ((clsP a ++ clsP b).getD (npl a + j) C4.zero).mem q = true ↔ _
      rw [app_getD, if_neg (by omega), hl, Nat.add_sub_cancel_left]
  | .alt a b, n, h => by
    have hl := clsP_len a
    refine ⟨ag_seg a n fun j hj q => ?_, ag_seg b (n + npl a) fun j hj q => ?_⟩
    · rw [h j (by simp only [npl]; omega) q]
      show ((clsP a ++ clsP b).getD j C4.zero).mem q = true ↔ _
      rw [app_getD, if_pos (by omega)]
    · rw [Nat.add_assoc, h (npl a + j) (by simp only [npl]; omega) q]
      show ((clsP a ++ clsP b).getD (npl a + j) C4.zero).mem q = true ↔ _
      rw [app_getD, if_neg (by omega), hl, Nat.add_sub_cancel_left]
theorem kg_ag {es : List Re} {m : MS} (hi : InvL es m) {i n : Nat} {e : Re} (hr : RuleAt es i n e) : Ag (Kg m) e n := by
  refine ag_seg e n fun j hj b => ?_
  obtain ⟨h1, rfl⟩ := hr
  obtain ⟨hlt, rfl⟩ := List.getElem?_eq_some_iff.1 h1
  have e0 : es = es.take i ++ es[i] :: es.drop (i + 1) := by rw [List.getElem_cons_drop, List.take_append_drop]
  unfold Kg
  rw [hi.cls]
  have : (es.flatMap clsP).getD (plc (es.take i) + j) C4.zero = (clsP es[i]).getD j C4.zero := by
    have e1 : es.flatMap clsP = (es.take i).flatMap clsP ++ (clsP es[i] ++ (es.drop (i + 1)).flatMap clsP) := by
      conv => lhs; rw [e0]
      rw [List.flatMap_append, List.flatMap_cons]
    rw [e1, app_getD, if_neg (by rw [cls_plc]; omega), cls_plc, Nat.add_sub_cancel_left, app_getD, if_pos (by rw [clsP_len]; exact hj)]
  rw [this]
theorem rule_one {es : List Re} {m : MS} (hi : InvL es m) {i n i' n' : Nat} {e e' : Re} (hr : RuleAt es i n e) (hr' : RuleAt es i' n' e') {x : Nat} (h : n ≤ x ∧ x < n + npl e) (h' : n' ≤ x ∧ x < n' + npl e') : i = i' ∧ n = n' ∧ e = e' := by
  have h1 := hi.rules _ _ _ hr x h.1 h.2
  have h2 := hi.rules _ _ _ hr' x h'.1 h'.2
  obtain rfl : i = i' := by omega
  obtain ⟨a1, rfl⟩ := hr
  obtain ⟨b1, rfl⟩ := hr'
  rw [a1] at b1
  exact ⟨rfl, rfl, Option.some.inj b1⟩
theorem chn_one {es : List Re} {m : MS} (hi : InvL es m) {i n : Nat} {e : Re} (hr : RuleAt es i n e) : ∀ (l : List Nat) (x : Nat), Chn (Fg es) (fun k => m.ps.rules.getD k 0 = (i : Int) ∧ m.ps.last.getD k false = true) x l → (n ≤ x ∧ x < n + npl e) ∧ Chn (Fol e n) (Lst e n) x l
  | [], x, ⟨h1, h2⟩ => by
    obtain ⟨i', n', e', hr', h3⟩ := (hi.last x).1 h2
    have hin := lst_in e' h3
    have := hi.rules _ _ _ hr' x hin.1 hin.2
    obtain rfl : i = i' := by omega
    obtain ⟨a1, rfl⟩ := hr
    obtain ⟨b1, rfl⟩ := hr'
    rw [a1] at b1
    cases b1
    exact ⟨hin, h3⟩
  | y :: r, x, ⟨⟨i', n', e', hr', h1⟩, h2⟩ => by
    obtain ⟨q1, q2⟩ := chn_one hi hr r y h2
    have hin := fol_in e' h1
    obtain ⟨rfl, rfl, rfl⟩ := rule_one hi hr hr' q1 hin.2
    exact ⟨hin.1, h1, q2⟩
theorem one_chn {es : List Re} {m : MS} (hi : InvL es m) {i n : Nat} {e : Re} (hr : RuleAt es i n e) : ∀ (l : List Nat) (x : Nat), Chn (Fol e n) (Lst e n) x l → Chn (Fg es) (fun k => m.ps.rules.getD k 0 = (i : Int) ∧ m.ps.last.getD k false = true) x l
  | [], x, h => ⟨hi.rules _ _ _ hr x (lst_in e h).1 (lst_in e h).2, (hi.last x).2 ⟨i, n, e, hr, h⟩⟩
  | y :: r, x, ⟨h1, h2⟩ => ⟨⟨i, n, e, hr, h1⟩, one_chn hi hr r y h2⟩
/-- the rules that are done are those whose expressions mean the text -/
theorem done_get : ∀ (now : List Int) (p : PS) (d : List Bool) (r : Nat), (∀ x ∈ now, (p.rules.getD x.toNat 0).toNat < d.length) → ((doneF p d now).getD r false = true ↔ d.getD r false = true ∨ ∃ x ∈ now, (p.rules.getD x.toNat 0).toNat = r ∧ p.last.getD x.toNat false = true)
  | [], p, d, r, _ => ⟨.inl, fun h => h.elim id fun ⟨_, h, _⟩ => by cases h⟩
  | x :: now, p, d, r, h => by
    have hx := h x (List.mem_cons_self ..)
    show (doneF p (d.set _ _) now).getD r false = true ↔ _
    rw [done_get now p _ r (fun y hy => by rw [List.length_set]; exact h y (List.mem_cons_of_mem _ hy)), set_getD]
    by_cases c : (p.rules.getD x.toNat 0).toNat = r ∧ r < d.length
    · rw [if_pos c, c.1, Bool.or_eq_true]
      constructor
      · rintro ((h1 | h1) | ⟨z, h1, h2⟩)
        · exact .inl h1
        · exact .inr ⟨x, List.mem_cons_self .., c.1, h1⟩
        · exact .inr ⟨z, List.mem_cons_of_mem _ h1, h2⟩
      · rintro (h1 | ⟨z, h1, h2⟩)
        · exact .inl (.inl h1)
        · rcases List.mem_cons.1 h1 with rfl | h1
          · exact .inl (.inr h2.2)
          · exact .inr ⟨z, h1, h2⟩
    · rw [if_neg c]
      constructor
      · rintro (h1 | ⟨z, h1, h2⟩)
        · exact .inl h1
        · exact .inr ⟨z, List.mem_cons_of_mem _ h1, h2⟩
      · rintro (h1 | ⟨z, h1, h2⟩)
        · exact .inl h1
        · rcases List.mem_cons.1 h1 with rfl | h1
          · exact absurd ⟨h2.1, by have := h2.1; omega⟩ c
          · exact .inr ⟨z, h1, h2⟩
/-- a set of places tells rule i just if its expression means the text -/
theorem tells_lang {es : List Re} {m : MS} (h : MOkP m) (hi : InvL es m) {s : List UInt8} (hs : s ≠ []) {i : Nat} {e : Re} (he : es[i]? = some e) : (∃ x ∈ runP m s, m.ps.rules.getD x.toNat 0 = (i : Int) ∧ m.ps.last.getD x.toNat false = true) ↔ Lang e s := by
  have hr : RuleAt es i (plc (es.take i)) e := ⟨he, rfl⟩
  rw [← runS_lang (kg_ag hi hr) hs, runS_iff hs]
  have h1 : (∃ x ∈ runP m s, m.ps.rules.getD x.toNat 0 = (i : Int) ∧ m.ps.last.getD x.toNat false = true) ↔ ∃ k, runS (Fg es) (Kg m) (Ig es) s k ∧ (fun k => m.ps.rules.getD k 0 = (i : Int) ∧ m.ps.last.getD k false = true) k := by
    constructor
    · rintro ⟨x, h2, h3⟩
      obtain ⟨k, rfl, h4⟩ := (runP_mem h hi s x).1 h2
      exact ⟨k, h4, by rw [Int.toNat_natCast] at h3; exact h3⟩
    · rintro ⟨k, h2, h3⟩
      exact ⟨(k : Int), (runP_mem h hi s _).2 ⟨k, rfl, h2⟩, by rw [Int.toNat_natCast]; exact h3⟩
  rw [h1, runS_iff hs]
  constructor
  · rintro ⟨x, l, q1, ⟨i', n', e', hr', q2⟩, q3⟩
    obtain ⟨q4, q5⟩ := chn_one hi hr l x q3
    obtain ⟨rfl, rfl, rfl⟩ := rule_one hi hr hr' q4 (fst_in e' q2)
    exact ⟨x, l, q1, q2, q5⟩
  · rintro ⟨x, l, q1, q2, q3⟩
    exact ⟨x, l, q1, ⟨i, _, e, hr, q2⟩, one_chn hi hr l x q3⟩
theorem rules_lang {es : List Re} {m : MS} (h0 : 0 < es.length) (h20 : es.length ≤ 20) (hl : loopM 0 .zero es = (0, m)) (s : List UInt8) : (rulesP m s).Pairwise (· < ·) ∧ ∀ x : Int, x ∈ rulesP m s ↔ ∃ (i : Nat) (e : Re), x = i ∧ es[i]? = some e ∧ Lang e s := by
  have h := make_ok h0 h20 hl
  have hi := make_inv hl
  refine ⟨trues_rising _ _, fun x => ?_⟩
  unfold rulesP
  rw [trues_mem]
  have hel : m.empty.length = es.length := by rw [hi.empty, List.length_map]
  by_cases c : s = []
  · subst c
    rw [if_pos rfl]
    show (∃ i : Nat, x = i ∧ i < 20 ∧ (m.empty ++ _).getD i false = true) ↔ _
    constructor
    · rintro ⟨i, rfl, h1, h2⟩
      rw [app_getD] at h2
      split at h2
      · rename_i c2
        have hil : i < es.length := by omega
        rw [hi.empty, List.getD_eq_getElem?_getD, List.getElem?_map, List.getElem?_eq_getElem hil] at h2
        exact ⟨i, es[i], rfl, List.getElem?_eq_getElem hil, (lang_nil _).2 h2⟩
      · rw [rep_getD] at h2
        split at h2 <;> cases h2
    · rintro ⟨i, e, rfl, h1, h2⟩
      obtain ⟨hil, rfl⟩ := List.getElem?_eq_some_iff.1 h1
      refine ⟨i, rfl, by omega, ?_⟩
      rw [app_getD, if_pos (by omega), hi.empty, List.getD_eq_getElem?_getD, List.getElem?_map, List.getElem?_eq_getElem hil]
      exact (lang_nil _).1 h2
  · rw [if_neg c]
    have hrun := runPin h s
    have hin : ∀ x ∈ runP m s, x.toNat < m.ps.rules.length := fun x hx => by have := hrun.2 x hx; rw [h.ok.ps.rules]; omega
    have hru : ∀ x ∈ runP m s, 0 ≤ m.ps.rules.getD x.toNat 0 ∧ m.ps.rules.getD x.toNat 0 < m.empty.length := fun x hx => by
      have := hin x hx
      rw [List.getD_eq_getElem?_getD, List.getElem?_eq_getElem this]
      exact h.rules _ (List.getElem_mem this)
    have hd : ∀ x ∈ runP m s, (m.ps.rules.getD x.toNat 0).toNat < (List.replicate 20 false).length := fun x hx => by
      have := hru x hx; have := h.most; rw [List.length_replicate]; omega
    constructor
    · rintro ⟨i, rfl, h1, h2⟩
      rw [done_get _ _ _ _ hd, rep_getD] at h2
      rcases h2 with h2 | ⟨x, h2, h3, h4⟩
      · split at h2 <;> cases h2
      · have h5 := hru x h2
        have hil : i < es.length := by omega
        refine ⟨i, es[i], rfl, List.getElem?_eq_getElem hil, (tells_lang h hi c (List.getElem?_eq_getElem hil)).1 ⟨x, h2, by omega, h4⟩⟩
    · rintro ⟨i, e, rfl, h1, h2⟩
      have hil := (List.getElem?_eq_some_iff.1 h1).1
      obtain ⟨x, h3, h4, h5⟩ := (tells_lang h hi c h1).2 h2
      exact ⟨i, rfl, by omega, (done_get _ _ _ _ hd).2 (.inr ⟨x, h3, by omega, h5⟩)⟩
end Go.Proofs.YtndbaalenclgaaaDoor.placesL

/- PmM -/
namespace Go.Proofs.YtndbaalenclgaaaDoor.eng
open Go.RowKit kit mix classL rexL placesL
open Classical in
/-- does each match? -/
noncomputable def mchB (es : List Re) (s : List UInt8) : List Bool := es.map fun e => decide (Lang e s)
noncomputable def mchL (es : List Re) (s : List UInt8) : List Int := truesTo (mchB es s) es.length
open Classical in
theorem mchB_get (es : List Re) (s : List UInt8) {k : Nat} (hk : k < es.length) : (mchB es s).getD k false = decide (Lang es[k] s) := by
  unfold mchB
  rw [List.getD_eq_getElem?_getD, List.getElem?_map, List.getElem?_eq_getElem hk]; rfl
theorem mch_rules {es : List Re} {m : MS} (h0 : 0 < es.length) (h20 : es.length ≤ 20) (hl : loopM 0 .zero es = (0, m)) (s : List UInt8) : rulesP m s = mchL es s := by
  obtain ⟨h1, h2⟩ := rules_lang h0 h20 hl s
  refine rising_ext h1 (trues_rising _ _) fun x => ?_
  unfold mchL
  rw [h2, trues_mem]
  constructor
  · rintro ⟨i, e, rfl, h3, h4⟩
    obtain ⟨hi, rfl⟩ := List.getElem?_eq_some_iff.1 h3
    exact ⟨i, rfl, hi, by rw [mchB_get es s hi]; simpa using h4⟩
  · rintro ⟨i, rfl, hi, h3⟩
    rw [mchB_get es s hi] at h3
    exact ⟨i, es[i], rfl, List.getElem?_eq_getElem hi, by simpa using h3⟩
theorem isF_lang {e : Re} {s : List UInt8} (h : Fit e 1 0) (hs : s.length ≤ 200) {b : Bool} (hb : b = true ↔ Lang e s) : isF (emb e) s = (b, false) := is_fit h hs hb
open Classical in
set_option maxHeartbeats 4000000 in
theorem matched_calls (v : Value) (es : List Re) (s : List UInt8) (w : World) (hT : TabW w) (hv : SlF rexS (Low w) w v (es.map emb)) (hfit : ∀ e ∈ es, Fit e 1 0) (hs : s.length ≤ 200) (hl : es.length ≤ 20) :
    Calls Tryd.prog 9 #[v, str s] w (Meets (intRS (mchL es s)) w) := by
  obtain ⟨bk, ck, rfl, _, hmx, hrd⟩ := hv
  have hlen : (es.map emb).length = es.length := List.length_map ..
  refine enter (args := [.slice bk (es.map emb).length ck, str s]) (n := 30) Tryd.func9 rfl rfl rfl ?_
  repeat (first
    | refine qv rfl (qp rfl) rfl rfl ?_ | refine TL_nil ?_ | refine T_seq ?_ | refine T_region ?_ | refine qcT rfl ?_ | refine qcF rfl ?_ | refine T_skip ?_
    | refine T_exit ?_ | refine T_ret ?_ | refine T_block ?_ | refine E_then ?_ | refine E_thenX ?_ | refine E_thenR ?_ | refine E_blockN ?_
    | refine E_blockR ?_ | refine E_blockX ?_ | refine E_blockO rfl ?_ | refine qv rfl (qlen Und.eq rfl) rfl rfl ?_
    | refine qv rfl (rr_lss rfl rfl (qT (by omega))) rfl rfl ?_ | refine qv rfl (rr_lss rfl rfl (qF (by omega))) rfl rfl ?_
    | refine qv rfl (rr_add64 rfl rfl (by omega) (by omega) rfl) rfl rfl ?_)
  refine T_nil 3 1 ?_
  unfold mchL
  refine T_loop (ι := Nat × Value) (fun (k, _) => k ≤ es.length) (fun (k, u) => [(1, str s), (5, u), (10, .slice bk (es.map emb).length ck), (11, .int .i64 (es.map emb).length), (12, .int .i64 (k : Int))]) (fun (k, u) => [intR u (truesTo (mchB es s) k)]) (fun (k, _) => es.length - k) (0, .slice none 0 0) (Nat.zero_le _) (by repeat' (first | exact True.intro | refine And.intro rfl ?_)) rfl ?_
  rintro ⟨k, u⟩ hk
  dsimp only at hk ⊢
  by_cases c6 : k < es.length
  · obtain ⟨b, off, rfl, hF, hrd2⟩ := hrd (by omega)
    obtain ⟨kb, kc, hr, hkid⟩ := rkid_at (k := k) hrd2 (by omega)
    have hat := fun (L : List Own) (j : Nat) (v : Value) (hj : (rexC (es.map emb)[k].kind (es.map emb)[k].cls (.slice kb (es.map emb)[k].kids.length kc))[j]? = some v) => at_rd (L := L) hr hj
    have hke : (es.map emb)[k]'(by omega) = emb es[k] := List.getElem_map ..
    have hfe := hfit es[k] (List.getElem_mem c6)
    have hb := mchB_get es s c6
    have his := isF_lang hfe hs (b := (mchB es s).getD k false) (by rw [hb]; simp)
    rw [hke] at hat hkid
    have hic := fun w' (hg : Gr w w') hT' => is_calls _ _ s w' hT' (hkid.gr hg) (by omega)
    rw [his] at hic
    have hp := trues_push (mchB es s) k
    have hpl := trues_push_len (mchB es s) k
    have hsk := trues_skip (mchB es s) k
    have htl := trues_len (mchB es s) k
    clear hrd hrd2 hr hke hb his hfe hkid
    generalize (mchB es s).getD k false = bb at *
    generalize emb es[k] = r at *
    obtain ⟨kd, c, kids⟩ := r
    dsimp only [Rx.kind, Rx.cls, Rx.kids] at hat hic
    repeat (first
      | refine qv rfl (qp rfl) rfl rfl ?_ | refine TL_nil ?_ | refine T_seq ?_ | refine T_region ?_ | refine qcT rfl ?_ | refine qcF rfl ?_ | refine T_skip ?_
      | refine T_exit ?_ | refine T_ret ?_ | refine T_block ?_ | refine E_then ?_ | refine E_thenX ?_ | refine E_thenR ?_ | refine E_blockN ?_
      | refine E_blockR ?_ | refine E_blockX ?_ | refine E_blockO rfl ?_ | refine qv rfl (rr_idxc Und.eq TyC.ty rfl rfl (by omega)) rfl rfl ?_
      | refine qv rfl (rr_loadN TyC.ty rfl rfl (hat _)) rfl rfl ?_ | refine qv rfl (qlen Und.eq rfl) rfl rfl ?_
      | refine qv rfl (rr_lss rfl rfl (qT (by omega))) rfl rfl ?_ | refine qv rfl (rr_lss rfl rfl (qF (by omega))) rfl rfl ?_
      | refine qv rfl (rr_add64 rfl rfl (by omega) (by omega) rfl) rfl rfl ?_)
    refine TL_new rfl fun g7 => ?_
    conv => arg 8; simp only [zA, zB, zC, zD, zE, zF, zG, zH, zI, rowS, ret, id_eq]
    repeat (first
      | refine qv rfl (qp rfl) rfl rfl ?_ | refine TL_nil ?_ | refine T_seq ?_ | refine T_region ?_ | refine qcT rfl ?_ | refine qcF rfl ?_ | refine T_skip ?_
      | refine T_exit ?_ | refine T_ret ?_ | refine T_block ?_ | refine E_then ?_ | refine E_thenX ?_ | refine E_thenR ?_ | refine E_blockN ?_
      | refine E_blockR ?_ | refine E_blockX ?_ | refine E_blockO rfl ?_ | refine qv rfl (qlen Und.eq rfl) rfl rfl ?_
      | refine qv rfl (rr_lss rfl rfl (qT (by omega))) rfl rfl ?_ | refine qv rfl (rr_lss rfl rfl (qF (by omega))) rfl rfl ?_
      | refine qv rfl (rr_add64 rfl rfl (by omega) (by omega) rfl) rfl rfl ?_)
    refine TL_storeB (i := 1) (cs' := (rexC kd c (.slice kb kids.length kc)).toArray) rfl rfl rfl rfl rfl rfl ?_
    conv => arg 8; simp only [zA, zB, zC, zD, zE, zF, zG, zH, zI, rowS, ret, id_eq]
    repeat (first
      | refine qv rfl (qp rfl) rfl rfl ?_ | refine TL_nil ?_ | refine T_seq ?_ | refine T_region ?_ | refine qcT rfl ?_ | refine qcF rfl ?_ | refine T_skip ?_
      | refine T_exit ?_ | refine T_ret ?_ | refine T_block ?_ | refine E_then ?_ | refine E_thenX ?_ | refine E_thenR ?_ | refine E_blockN ?_
      | refine E_blockR ?_ | refine E_blockX ?_ | refine E_blockO rfl ?_ | refine qv rfl (rr_loadB (i := 1) TyC.ty rfl rfl rfl) rfl rfl ?_
      | refine qv rfl (qlen Und.eq rfl) rfl rfl ?_ | refine qv rfl (rr_lss rfl rfl (qT (by omega))) rfl rfl ?_
      | refine qv rfl (rr_lss rfl rfl (qF (by omega))) rfl rfl ?_ | refine qv rfl (rr_add64 rfl rfl (by omega) (by omega) rfl) rfl rfl ?_)
    refine TL_call (he2 EntersC.en rfl rfl rfl) (fun w hm => hic w hm.below (hT.up hm)) rfl rfl rfl ?_
    intro _ _
    conv => arg 8; simp only [zA, zB, zC, zD, zE, zF, zG, zH, zI, rowS, ret, id_eq]
    by_cases c2 : bb = true
    · subst c2
      repeat (first
        | refine qv rfl (qp rfl) rfl rfl ?_ | refine TL_nil ?_ | refine T_seq ?_ | refine T_region ?_ | refine qcT rfl ?_ | refine qcF rfl ?_ | refine T_skip ?_
        | refine T_exit ?_ | refine T_ret ?_ | refine T_block ?_ | refine E_then ?_ | refine E_thenX ?_ | refine E_thenR ?_ | refine E_blockN ?_
        | refine E_blockR ?_ | refine E_blockX ?_ | refine E_blockO rfl ?_ | refine qv rfl (qlen Und.eq rfl) rfl rfl ?_
        | refine qv rfl (rr_lss rfl rfl (qT (by omega))) rfl rfl ?_ | refine qv rfl (rr_lss rfl rfl (qF (by omega))) rfl rfl ?_
        | refine qv rfl (rr_add64 rfl rfl (by omega) (by omega) rfl) rfl rfl ?_)
      refine TL_push1 (i := 0) rfl rfl rfl rfl rfl rfl (fun z h => by cases h; rfl) (by omega) (by omega) rfl fun z' v' => ?_
      repeat (first
        | refine qv rfl (qp rfl) rfl rfl ?_ | refine TL_nil ?_ | refine T_seq ?_ | refine T_region ?_ | refine qcT rfl ?_ | refine qcF rfl ?_ | refine T_skip ?_
        | refine T_exit ?_ | refine T_ret ?_ | refine T_block ?_ | refine E_then ?_ | refine E_thenX ?_ | refine E_thenR ?_ | refine E_blockN ?_
        | refine E_blockR ?_ | refine E_blockX ?_ | refine E_blockO rfl ?_ | refine qv rfl (qlen Und.eq rfl) rfl rfl ?_
        | refine qv rfl (rr_lss rfl rfl (qT (by omega))) rfl rfl ?_ | refine qv rfl (rr_lss rfl rfl (qF (by omega))) rfl rfl ?_
        | refine qv rfl (rr_add64 rfl rfl (by omega) (by omega) rfl) rfl rfl ?_)
      refine E_pick [0] (by decide) rfl ?_
      exact E_round (k + 1, v') (by show k + 1 ≤ es.length; omega) (by show es.length - (k + 1) < es.length - k; omega) (by repeat' (first | exact True.intro | refine And.intro rfl ?_)) (by dsimp only [intR]; rw [hp rfl, hpl rfl]; rfl)
    · obtain rfl := Bool.eq_false_iff.2 c2
      repeat (first
        | refine qv rfl (qp rfl) rfl rfl ?_ | refine TL_nil ?_ | refine T_seq ?_ | refine T_region ?_ | refine qcT rfl ?_ | refine qcF rfl ?_ | refine T_skip ?_
        | refine T_exit ?_ | refine T_ret ?_ | refine T_block ?_ | refine E_then ?_ | refine E_thenX ?_ | refine E_thenR ?_ | refine E_blockN ?_
        | refine E_blockR ?_ | refine E_blockX ?_ | refine E_blockO rfl ?_ | refine qv rfl (qlen Und.eq rfl) rfl rfl ?_
        | refine qv rfl (rr_lss rfl rfl (qT (by omega))) rfl rfl ?_ | refine qv rfl (rr_lss rfl rfl (qF (by omega))) rfl rfl ?_
        | refine qv rfl (rr_add64 rfl rfl (by omega) (by omega) rfl) rfl rfl ?_)
      refine E_pick [0] (by decide) rfl ?_
      exact E_round (k + 1, u) (by show k + 1 ≤ es.length; omega) (by show es.length - (k + 1) < es.length - k; omega) (by repeat' (first | exact True.intro | refine And.intro rfl ?_)) (by dsimp only; rw [hsk (by decide)]; rfl)
  · obtain rfl : k = es.length := by omega
    repeat (first
      | refine qv rfl (qp rfl) rfl rfl ?_ | refine TL_nil ?_ | refine T_seq ?_ | refine T_region ?_ | refine qcT rfl ?_ | refine qcF rfl ?_ | refine T_skip ?_
      | refine T_exit ?_ | refine T_ret ?_ | refine T_block ?_ | refine E_then ?_ | refine E_thenX ?_ | refine E_thenR ?_ | refine E_blockN ?_
      | refine E_blockR ?_ | refine E_blockX ?_ | refine E_blockO rfl ?_ | refine qv rfl (qlen Und.eq rfl) rfl rfl ?_
      | refine qv rfl (rr_lss rfl rfl (qT (by omega))) rfl rfl ?_ | refine qv rfl (rr_lss rfl rfl (qF (by omega))) rfl rfl ?_
      | refine qv rfl (rr_add64 rfl rfl (by omega) (by omega) rfl) rfl rfl ?_)
    exact E_ret1 rfl rfl fun w hm => hm.meets (S := intRS (truesTo (mchB es s) es.length)) u trivial [0] (by decide) rfl
end Go.Proofs.YtndbaalenclgaaaDoor.eng

/- PlacesMeansW -/
namespace Go.Proofs.YtndbaalenclgaaaDoor.placesMeans
open Go.RowKit kit mix eng classL rexL placesL
set_option maxRecDepth 100000 in
set_option maxHeartbeats 8000000 in
theorem walk (w : World) (hT : TabW w) (v : Value) (rs : List Rx) (hv : SlF rexS (Low w) w v rs) (s : List UInt8) (hs : s.length ≤ 140737488351232) :
    Calls Tryd.prog 3 #[v, str s] w (Meets (ret (.bool true)) w) := by
  have hvg := fun w' (hg : Gr w w') => slr_gr hv hg
  obtain ⟨bk, ck, rfl, -⟩ := hv
  have hl := fun w => letter_calls 97 w ⟨by decide, by decide⟩
  have h0 := fun g w' h => make_calls (.slice (some ⟨g, 0, none⟩) 1 1) _ _ w' h (make_byte (letter_nz (b := 97) (by decide)))
  have ok3 : kit.okI64 3 := ⟨by decide, by decide⟩
  rw [show ((97 : Nat) : Int) = 97 from rfl] at h0
  generalize classL.rangeF 97 97 = c at *
  refine enter (args := [.slice bk rs.length ck, str s]) (n := 66) Tryd.func3 rfl rfl rfl ?_
  repeat (first
    | refine qv rfl (qp rfl) rfl rfl ?_ | refine TL_nil ?_ | refine T_seq ?_ | refine T_region ?_ | refine qcT rfl ?_ | refine qcF rfl ?_ | refine T_skip ?_
    | refine T_ret ?_ | refine E_then ?_ | refine E_thenR ?_ | refine qs rfl rfl rfl rfl rfl rfl ?_
    | ((try refine qg rfl rfl rfl ?_); first | refine qv rfl (qp rfl) rfl rfl ?_ | refine qv rfl (rr_strlen Und.eq rfl) rfl rfl ?_ | refine qv rfl (qlen Und.eq rfl) rfl rfl ?_ | refine qv rfl (qfld FldC.fld rfl rfl) rfl rfl ?_ | refine qv rfl (rr_gtr rfl rfl (qT (by omega))) rfl rfl ?_ | refine qv rfl (rr_gtr rfl rfl (qF (by omega))) rfl rfl ?_ | refine qv rfl (rr_eql rfl rfl (qT (by omega))) rfl rfl ?_ | refine qv rfl (rr_eql rfl rfl (qF (by omega))) rfl rfl ?_ | refine qv rfl (rr_neq rfl rfl (qT (by omega))) rfl rfl ?_ | refine qv rfl (rr_neq rfl rfl (qF (by omega))) rfl rfl ?_))
  refine TL_call (he1 EntersC.en rfl rfl) (fun w hm => hl _) rfl rfl rfl ?_
  intro _ _
  conv => arg 8; simp only [zA, zB, zC, zD, zE, zF, zG, zH, zI, rowS, ret, id_eq]
  repeat (first
    | refine qv rfl (qp rfl) rfl rfl ?_ | refine TL_nil ?_ | refine T_seq ?_ | refine T_region ?_ | refine qcT rfl ?_ | refine qcF rfl ?_ | refine T_skip ?_
    | refine T_ret ?_ | refine E_then ?_ | refine E_thenR ?_ | refine qs rfl rfl rfl rfl rfl rfl ?_
    | ((try refine qg rfl rfl rfl ?_); first | refine qv rfl (qp rfl) rfl rfl ?_ | refine qv rfl (rr_strlen Und.eq rfl) rfl rfl ?_ | refine qv rfl (qlen Und.eq rfl) rfl rfl ?_ | refine qv rfl (qfld FldC.fld rfl rfl) rfl rfl ?_ | refine qv rfl (rr_gtr rfl rfl (qT (by omega))) rfl rfl ?_ | refine qv rfl (rr_gtr rfl rfl (qF (by omega))) rfl rfl ?_ | refine qv rfl (rr_eql rfl rfl (qT (by omega))) rfl rfl ?_ | refine qv rfl (rr_eql rfl rfl (qF (by omega))) rfl rfl ?_ | refine qv rfl (rr_neq rfl rfl (qT (by omega))) rfl rfl ?_ | refine qv rfl (rr_neq rfl rfl (qF (by omega))) rfl rfl ?_))
  refine TL_one (cs := (rexC 3 c (.slice none 0 0)).toArray) rfl rfl rfl rfl rfl fun g16 => ?_
  conv => arg 8; simp only [zA, zB, zC, zD, zE, zF, zG, zH, zI, rowS, ret, id_eq]
  refine TL_call (he1 EntersC.en rfl rfl) (fun w hm => h0 g16 w (one_rexs (hm.get (i := 0) rfl) (leaf_rex ok3))) rfl rfl rfl ?_
  rintro ⟨vc, vr, vf, vfol, vl, ve, vs, F⟩ hx
  conv => arg 8; simp only [zA, zB, zC, zD, zE, zF, zG, zH, zI, rowS, ret, id_eq, makeSp, posL, posC]
  conv => arg 7; simp only [makeSp, posC]
  refine TL_slv (i := 2) rfl fun _ a2 => TL_slv (i := 4) rfl fun _ a4 => TL_slv (i := 6) rfl fun _ a5 => TL_slv (i := 7) rfl fun _ a6 => ?_
  refine TL_know (i := 1) rfl row_sl fun hrow => ?_
  obtain ⟨ac, cc, rfl, -⟩ := hrow
  refine TL_know (i := 3) rfl row_sl fun hrow => ?_
  obtain ⟨af, cf, rfl, -⟩ := hrow
  repeat (first
    | refine qv rfl (qp rfl) rfl rfl ?_ | refine TL_nil ?_ | refine T_seq ?_ | refine T_region ?_ | refine qcT rfl ?_ | refine qcF rfl ?_ | refine T_skip ?_
    | refine T_ret ?_ | refine E_then ?_ | refine E_thenR ?_ | refine qs rfl rfl rfl rfl rfl rfl ?_
    | ((try refine qg rfl rfl rfl ?_); first | refine qv rfl (qp rfl) rfl rfl ?_ | refine qv rfl (rr_strlen Und.eq rfl) rfl rfl ?_ | refine qv rfl (qlen Und.eq rfl) rfl rfl ?_ | refine qv rfl (qfld FldC.fld rfl rfl) rfl rfl ?_ | refine qv rfl (rr_gtr rfl rfl (qT (by omega))) rfl rfl ?_ | refine qv rfl (rr_gtr rfl rfl (qF (by omega))) rfl rfl ?_ | refine qv rfl (rr_eql rfl rfl (qT (by omega))) rfl rfl ?_ | refine qv rfl (rr_eql rfl rfl (qF (by omega))) rfl rfl ?_ | refine qv rfl (rr_neq rfl rfl (qT (by omega))) rfl rfl ?_ | refine qv rfl (rr_neq rfl rfl (qF (by omega))) rfl rfl ?_))
  refine TL_new rfl fun g5 => ?_
  conv => arg 8; simp only [zA, zB, zC, zD, zE, zF, zG, zH, zI, rowS, ret, id_eq]
  refine TL_storeB (i := 8) (cs' := #[.slice ac 1 cc, vr, .slice af 1 cf, vfol, vl, ve]) rfl rfl rfl rfl (by simp only [List.all_cons, List.all_nil, a2, a4, a5, a6]; rfl) rfl ?_
  conv => arg 8; simp only [zA, zB, zC, zD, zE, zF, zG, zH, zI, rowS, ret, id_eq]
  repeat (first
    | refine qv rfl (qp rfl) rfl rfl ?_ | refine TL_nil ?_ | refine T_seq ?_ | refine T_region ?_ | refine qcT rfl ?_ | refine qcF rfl ?_ | refine T_skip ?_
    | refine T_ret ?_ | refine E_then ?_ | refine E_thenR ?_ | refine qs rfl rfl rfl rfl rfl rfl ?_
    | ((try refine qg rfl rfl rfl ?_); first | refine qv rfl (qp rfl) rfl rfl ?_ | refine qv rfl (rr_neq (b := false) rfl rfl (decide_eq_false (by simp))) rfl rfl ?_ | refine qv rfl (rr_load1 (v := .slice ac 1 cc) TyC.ty rfl (at_blk (i := 8) rfl rfl)) rfl rfl ?_ | refine qv rfl (rr_load1 (v := .slice af 1 cf) TyC.ty rfl (at_blk (i := 8) rfl rfl)) rfl rfl ?_ | refine qv rfl (rr_strlen Und.eq rfl) rfl rfl ?_ | refine qv rfl (qlen Und.eq rfl) rfl rfl ?_ | refine qv rfl (qfld FldC.fld rfl rfl) rfl rfl ?_ | refine qv rfl (rr_gtr rfl rfl (qT (by omega))) rfl rfl ?_ | refine qv rfl (rr_gtr rfl rfl (qF (by omega))) rfl rfl ?_ | refine qv rfl (rr_eql rfl rfl (qT (by omega))) rfl rfl ?_ | refine qv rfl (rr_eql rfl rfl (qF (by omega))) rfl rfl ?_ | refine qv rfl (rr_neq rfl rfl (qT (by omega))) rfl rfl ?_ | refine qv rfl (rr_neq rfl rfl (qF (by omega))) rfl rfl ?_))
  refine TL_pick [] (by decide) rfl ?_
  clear hx a2 a4 a5 a6 h0 hl
  rcases makeR_two rs with ⟨k, hk, hR⟩ | ⟨es, m, rfl, hfit, h0, h20, hlp, hR⟩
  · have hmk := fun w' (hg : Gr w w') => make_calls (.slice bk rs.length ck) rs (k, .zero) w' (hvg w' hg) hR
    refine TL_call (he1 EntersC.en rfl rfl) (fun w hm => hmk _ hm.below) rfl rfl rfl ?_
    rintro ⟨vc1, vr1, vf1, vfol1, vl1, ve1, vs1, F1⟩ hx1
    conv => arg 8; simp only [zA, zB, zC, zD, zE, zF, zG, zH, zI, rowS, ret, id_eq, makeSp, posL, posC]
    conv => arg 7; simp only [makeSp, posC]
    refine TL_slv (i := 0) rfl fun _ a1 => TL_slv (i := 1) rfl fun _ a2 => TL_slv (i := 2) rfl fun _ a3 => TL_slv (i := 3) rfl fun _ a4 => TL_slv (i := 5) rfl fun _ a5 => TL_slv (i := 6) rfl fun _ a6 => ?_
    refine TL_know (i := 0) rfl row_sl fun hrow => ?_
    obtain ⟨ac1, cc1, rfl, -⟩ := hrow
    repeat (first
      | refine qv rfl (qp rfl) rfl rfl ?_ | refine TL_nil ?_ | refine T_seq ?_ | refine T_region ?_ | refine qcT rfl ?_ | refine qcF rfl ?_ | refine T_skip ?_
      | refine T_ret ?_ | refine E_then ?_ | refine E_thenR ?_ | refine qs rfl rfl rfl rfl rfl rfl ?_
      | ((try refine qg rfl rfl rfl ?_); first | refine qv rfl (qp rfl) rfl rfl ?_ | refine qv rfl (rr_strlen Und.eq rfl) rfl rfl ?_ | refine qv rfl (qlen Und.eq rfl) rfl rfl ?_ | refine qv rfl (qfld FldC.fld rfl rfl) rfl rfl ?_ | refine qv rfl (rr_gtr rfl rfl (qT (by omega))) rfl rfl ?_ | refine qv rfl (rr_gtr rfl rfl (qF (by omega))) rfl rfl ?_ | refine qv rfl (rr_eql rfl rfl (qT (by omega))) rfl rfl ?_ | refine qv rfl (rr_eql rfl rfl (qF (by omega))) rfl rfl ?_ | refine qv rfl (rr_neq rfl rfl (qT (by omega))) rfl rfl ?_ | refine qv rfl (rr_neq rfl rfl (qF (by omega))) rfl rfl ?_))
    refine TL_new rfl fun g7 => ?_
    conv => arg 8; simp only [zA, zB, zC, zD, zE, zF, zG, zH, zI, rowS, ret, id_eq]
    refine TL_storeB (i := 7) (cs' := #[.slice ac1 0 cc1, vr1, vf1, vfol1, vl1, ve1]) rfl rfl rfl rfl (by simp only [List.all_cons, List.all_nil, a1, a2, a3, a4, a5, a6]; rfl) rfl ?_
    conv => arg 8; simp only [zA, zB, zC, zD, zE, zF, zG, zH, zI, rowS, ret, id_eq]
    repeat (first
      | refine qv rfl (qp rfl) rfl rfl ?_ | refine TL_nil ?_ | refine T_seq ?_ | refine T_region ?_ | refine qcT rfl ?_ | refine qcF rfl ?_ | refine T_skip ?_
      | refine T_ret ?_ | refine E_then ?_ | refine E_thenR ?_ | refine qs rfl rfl rfl rfl rfl rfl ?_
      | ((try refine qg rfl rfl rfl ?_); first | refine qv rfl (qp rfl) rfl rfl ?_ | refine qv rfl (rr_neq (b := true) rfl rfl (decide_eq_true hk)) rfl rfl ?_ | refine qv rfl (rr_load1 (v := .slice ac1 0 cc1) TyC.ty rfl (at_blk (i := 7) rfl rfl)) rfl rfl ?_ | refine qv rfl (rr_eql (b := true) rfl rfl (decide_eq_true rfl)) rfl rfl ?_ | refine qv rfl (rr_strlen Und.eq rfl) rfl rfl ?_ | refine qv rfl (qlen Und.eq rfl) rfl rfl ?_ | refine qv rfl (qfld FldC.fld rfl rfl) rfl rfl ?_ | refine qv rfl (rr_gtr rfl rfl (qT (by omega))) rfl rfl ?_ | refine qv rfl (rr_gtr rfl rfl (qF (by omega))) rfl rfl ?_ | refine qv rfl (rr_eql rfl rfl (qT (by omega))) rfl rfl ?_ | refine qv rfl (rr_eql rfl rfl (qF (by omega))) rfl rfl ?_ | refine qv rfl (rr_neq rfl rfl (qT (by omega))) rfl rfl ?_ | refine qv rfl (rr_neq rfl rfl (qF (by omega))) rfl rfl ?_))
    exact E_ret1e rfl rfl rfl
  · have hmk := fun w' (hg : Gr w w') => make_calls (.slice bk (es.map emb).length ck) (es.map emb) (0, m) w' (hvg w' hg) hR
    have hok := make_ok h0 h20 hlp
    have hru := fun s' (hs : s'.length ≤ 200) v' w' h => posRules_calls v' m s' w' h hok hs
    have hck := fun v' w' h => posCheck_calls v' m w' h hok
    have hma := fun s' (hs : s'.length ≤ 200) w' hT' (hg : Gr w w') => matched_calls (.slice bk (es.map emb).length ck) es s' w' hT' (hvg w' hg) hfit hs h20
    have heq := fun u u' l w' h h' => equalSmIn_calls u u' l l w' h h'
    simp only [decide_true] at heq
    refine TL_call (he1 EntersC.en rfl rfl) (fun w hm => hmk _ hm.below) rfl rfl rfl ?_
    rintro ⟨vc1, vr1, vf1, vfol1, vl1, ve1, vs1, F1⟩ hx1
    have hx1 : vs1.length = m.ps.follow.length := hx1
    conv => arg 8; simp only [zA, zB, zC, zD, zE, zF, zG, zH, zI, rowS, ret, id_eq, makeSp, posL, posC]
    conv => arg 7; simp only [makeSp, posC]
    refine TL_slv (i := 0) rfl fun _ a1 => TL_slv (i := 1) rfl fun _ a2 => TL_slv (i := 2) rfl fun _ a3 => TL_slv (i := 3) rfl fun _ a4 => TL_slv (i := 5) rfl fun _ a5 => TL_slv (i := 6) rfl fun _ a6 => ?_
    repeat (first
      | refine qv rfl (qp rfl) rfl rfl ?_ | refine TL_nil ?_ | refine T_seq ?_ | refine T_region ?_ | refine qcT rfl ?_ | refine qcF rfl ?_ | refine T_skip ?_
      | refine T_ret ?_ | refine E_then ?_ | refine E_thenR ?_ | refine qs rfl rfl rfl rfl rfl rfl ?_
      | ((try refine qg rfl rfl rfl ?_); first | refine qv rfl (qp rfl) rfl rfl ?_ | refine qv rfl (rr_strlen Und.eq rfl) rfl rfl ?_ | refine qv rfl (qlen Und.eq rfl) rfl rfl ?_ | refine qv rfl (qfld FldC.fld rfl rfl) rfl rfl ?_ | refine qv rfl (rr_gtr rfl rfl (qT (by omega))) rfl rfl ?_ | refine qv rfl (rr_gtr rfl rfl (qF (by omega))) rfl rfl ?_ | refine qv rfl (rr_eql rfl rfl (qT (by omega))) rfl rfl ?_ | refine qv rfl (rr_eql rfl rfl (qF (by omega))) rfl rfl ?_ | refine qv rfl (rr_neq rfl rfl (qT (by omega))) rfl rfl ?_ | refine qv rfl (rr_neq rfl rfl (qF (by omega))) rfl rfl ?_))
    refine TL_new rfl fun g7 => ?_
    conv => arg 8; simp only [zA, zB, zC, zD, zE, zF, zG, zH, zI, rowS, ret, id_eq]
    refine TL_storeB (i := 7) (cs' := #[vc1, vr1, vf1, vfol1, vl1, ve1]) rfl rfl rfl rfl (by simp only [List.all_cons, List.all_nil, a1, a2, a3, a4, a5, a6]; rfl) rfl ?_
    conv => arg 8; simp only [zA, zB, zC, zD, zE, zF, zG, zH, zI, rowS, ret, id_eq]
    clear a1 a2 a3 a4 a5 a6
    repeat (first
      | refine qv rfl (qp rfl) rfl rfl ?_ | refine TL_nil ?_ | refine T_seq ?_ | refine T_region ?_ | refine qcT rfl ?_ | refine qcF rfl ?_ | refine T_skip ?_
      | refine T_ret ?_ | refine E_then ?_ | refine E_thenR ?_ | refine qs rfl rfl rfl rfl rfl rfl ?_
      | ((try refine qg rfl rfl rfl ?_); first | refine qv rfl (qp rfl) rfl rfl ?_ | refine qv rfl (rr_neq (b := false) rfl rfl (decide_eq_false (by simp))) rfl rfl ?_ | refine qv rfl (rr_gtr (b := decide (60 < s.length)) rfl rfl (by rw [decide_eq_decide]; omega)) rfl rfl ?_ | refine qv rfl (rr_strlen Und.eq rfl) rfl rfl ?_ | refine qv rfl (qlen Und.eq rfl) rfl rfl ?_ | refine qv rfl (qfld FldC.fld rfl rfl) rfl rfl ?_ | refine qv rfl (rr_gtr rfl rfl (qT (by omega))) rfl rfl ?_ | refine qv rfl (rr_gtr rfl rfl (qF (by omega))) rfl rfl ?_ | refine qv rfl (rr_eql rfl rfl (qT (by omega))) rfl rfl ?_ | refine qv rfl (rr_eql rfl rfl (qF (by omega))) rfl rfl ?_ | refine qv rfl (rr_neq rfl rfl (qT (by omega))) rfl rfl ?_ | refine qv rfl (rr_neq rfl rfl (qF (by omega))) rfl rfl ?_))
    (repeat refine T_seq ?_)
    refine T_midq (ι := List UInt8) (fun s' => s'.length ≤ 60) (fun s' => [(0, .slice bk (es.map emb).length ck), (1, str s'), (7, .pointer (some ⟨g7, 0, none⟩))])
      (fun _ => posL ⟨vc1, vr1, vf1, vfol1, vl1, ve1, vs1, F1⟩ m ++ [blkO g7 #[vc1, vr1, vf1, vfol1, vl1, ve1] 28]) ?_ ?_
    · by_cases c1 : 60 < s.length
      · rw [decide_eq_true c1]
        repeat (first
          | refine qv rfl (qp rfl) rfl rfl ?_ | refine TL_nil ?_ | refine T_seq ?_ | refine T_region ?_ | refine qcT rfl ?_ | refine qcF rfl ?_ | refine T_skip ?_
          | refine T_ret ?_ | refine E_then ?_ | refine E_thenR ?_ | refine qs rfl rfl rfl rfl rfl rfl ?_
          | ((try refine qg rfl rfl rfl ?_); first | refine qv rfl (qp rfl) rfl rfl ?_ | refine qv rfl (rr_strupto (j := 60) Und.eq rfl rfl (by omega)) rfl rfl ?_ | refine qv rfl (rr_strlen Und.eq rfl) rfl rfl ?_ | refine qv rfl (qlen Und.eq rfl) rfl rfl ?_ | refine qv rfl (qfld FldC.fld rfl rfl) rfl rfl ?_ | refine qv rfl (rr_gtr rfl rfl (qT (by omega))) rfl rfl ?_ | refine qv rfl (rr_gtr rfl rfl (qF (by omega))) rfl rfl ?_ | refine qv rfl (rr_eql rfl rfl (qT (by omega))) rfl rfl ?_ | refine qv rfl (rr_eql rfl rfl (qF (by omega))) rfl rfl ?_ | refine qv rfl (rr_neq rfl rfl (qT (by omega))) rfl rfl ?_ | refine qv rfl (rr_neq rfl rfl (qF (by omega))) rfl rfl ?_))
        exact E_mid (s.take 60) (by rw [List.length_take]; omega) (by repeat' (first | exact True.intro | refine And.intro rfl ?_)) rfl
      · rw [decide_eq_false c1]
        repeat (first
          | refine qv rfl (qp rfl) rfl rfl ?_ | refine TL_nil ?_ | refine T_seq ?_ | refine T_region ?_ | refine qcT rfl ?_ | refine qcF rfl ?_ | refine T_skip ?_
          | refine T_ret ?_ | refine E_then ?_ | refine E_thenR ?_ | refine qs rfl rfl rfl rfl rfl rfl ?_
          | ((try refine qg rfl rfl rfl ?_); first | refine qv rfl (qp rfl) rfl rfl ?_ | refine qv rfl (rr_strlen Und.eq rfl) rfl rfl ?_ | refine qv rfl (qlen Und.eq rfl) rfl rfl ?_ | refine qv rfl (qfld FldC.fld rfl rfl) rfl rfl ?_ | refine qv rfl (rr_gtr rfl rfl (qT (by omega))) rfl rfl ?_ | refine qv rfl (rr_gtr rfl rfl (qF (by omega))) rfl rfl ?_ | refine qv rfl (rr_eql rfl rfl (qT (by omega))) rfl rfl ?_ | refine qv rfl (rr_eql rfl rfl (qF (by omega))) rfl rfl ?_ | refine qv rfl (rr_neq rfl rfl (qT (by omega))) rfl rfl ?_ | refine qv rfl (rr_neq rfl rfl (qF (by omega))) rfl rfl ?_))
        exact E_mid s (by omega) (by repeat' (first | exact True.intro | refine And.intro rfl ?_)) rfl
    intro s' hs'
    have hru := hru s' (by omega)
    have hma := hma s' (by omega)
    rw [mch_rules h0 h20 hlp s'] at hru
    conv => arg 7; simp only [zA, zB, zC, zD, zE, zF, zG, zH, zI, rowS, ret, id_eq, posL]
    repeat (first
      | refine qv rfl (qp rfl) rfl rfl ?_ | refine TL_nil ?_ | refine T_seq ?_ | refine T_region ?_ | refine qcT rfl ?_ | refine qcF rfl ?_ | refine T_skip ?_
      | refine T_ret ?_ | refine E_then ?_ | refine E_thenR ?_ | refine qs rfl rfl rfl rfl rfl rfl ?_
      | ((try refine qg rfl rfl rfl ?_); first | refine qv rfl (qp rfl) rfl rfl ?_ | refine qv rfl (rr_loadB (i := 7) TyC.ty rfl rfl rfl) rfl rfl ?_ | refine qv rfl (rr_strlen Und.eq rfl) rfl rfl ?_ | refine qv rfl (qlen Und.eq rfl) rfl rfl ?_ | refine qv rfl (qfld FldC.fld rfl rfl) rfl rfl ?_ | refine qv rfl (rr_gtr rfl rfl (qT (by omega))) rfl rfl ?_ | refine qv rfl (rr_gtr rfl rfl (qF (by omega))) rfl rfl ?_ | refine qv rfl (rr_eql rfl rfl (qT (by omega))) rfl rfl ?_ | refine qv rfl (rr_eql rfl rfl (qF (by omega))) rfl rfl ?_ | refine qv rfl (rr_neq rfl rfl (qT (by omega))) rfl rfl ?_ | refine qv rfl (rr_neq rfl rfl (qF (by omega))) rfl rfl ?_))
    refine TL_call (he2 EntersC.en rfl rfl rfl) (fun w hm => hru _ w (hm.posR (x := ⟨vc1, vr1, vf1, vfol1, vl1, ve1, vs1, F1⟩) 0 hx1 rfl (by simp))) rfl rfl rfl ?_
    intro u _
    conv => arg 8; simp only [zA, zB, zC, zD, zE, zF, zG, zH, zI, rowS, ret, id_eq, runS2]
    conv => arg 7; simp only [runS2]
    repeat (first
      | refine qv rfl (qp rfl) rfl rfl ?_ | refine TL_nil ?_ | refine T_seq ?_ | refine T_region ?_ | refine qcT rfl ?_ | refine qcF rfl ?_ | refine T_skip ?_
      | refine T_ret ?_ | refine E_then ?_ | refine E_thenR ?_ | refine qs rfl rfl rfl rfl rfl rfl ?_
      | ((try refine qg rfl rfl rfl ?_); first | refine qv rfl (qp rfl) rfl rfl ?_ | refine qv rfl (rr_eql (b := true) rfl rfl (decide_eq_true rfl)) rfl rfl ?_ | refine qv rfl (rr_loadB (i := 7) TyC.ty rfl rfl rfl) rfl rfl ?_ | refine qv rfl (rr_strlen Und.eq rfl) rfl rfl ?_ | refine qv rfl (qlen Und.eq rfl) rfl rfl ?_ | refine qv rfl (qfld FldC.fld rfl rfl) rfl rfl ?_ | refine qv rfl (rr_gtr rfl rfl (qT (by omega))) rfl rfl ?_ | refine qv rfl (rr_gtr rfl rfl (qF (by omega))) rfl rfl ?_ | refine qv rfl (rr_eql rfl rfl (qT (by omega))) rfl rfl ?_ | refine qv rfl (rr_eql rfl rfl (qF (by omega))) rfl rfl ?_ | refine qv rfl (rr_neq rfl rfl (qT (by omega))) rfl rfl ?_ | refine qv rfl (rr_neq rfl rfl (qF (by omega))) rfl rfl ?_))
    refine TL_gcall (he1 EntersC.en rfl rfl) (fun w hm => hck _ w (hm.posR (x := ⟨vc1, vr1, vf1, vfol1, vl1, ve1, vs1, F1⟩) 0 hx1 rfl (by simp))) rfl rfl rfl rfl rfl ?_
    intro _ _
    conv => arg 8; simp only [zA, zB, zC, zD, zE, zF, zG, zH, zI, rowS, ret, id_eq]
    repeat (first
      | refine qv rfl (qp rfl) rfl rfl ?_ | refine TL_nil ?_ | refine T_seq ?_ | refine T_region ?_ | refine qcT rfl ?_ | refine qcF rfl ?_ | refine T_skip ?_
      | refine T_ret ?_ | refine E_then ?_ | refine E_thenR ?_ | refine qs rfl rfl rfl rfl rfl rfl ?_
      | ((try refine qg rfl rfl rfl ?_); first | refine qv rfl (qp rfl) rfl rfl ?_ | refine qv rfl (rr_eql (b := true) rfl rfl (decide_eq_true rfl)) rfl rfl ?_ | refine qv rfl (rr_strlen Und.eq rfl) rfl rfl ?_ | refine qv rfl (qlen Und.eq rfl) rfl rfl ?_ | refine qv rfl (qfld FldC.fld rfl rfl) rfl rfl ?_ | refine qv rfl (rr_gtr rfl rfl (qT (by omega))) rfl rfl ?_ | refine qv rfl (rr_gtr rfl rfl (qF (by omega))) rfl rfl ?_ | refine qv rfl (rr_eql rfl rfl (qT (by omega))) rfl rfl ?_ | refine qv rfl (rr_eql rfl rfl (qF (by omega))) rfl rfl ?_ | refine qv rfl (rr_neq rfl rfl (qT (by omega))) rfl rfl ?_ | refine qv rfl (rr_neq rfl rfl (qF (by omega))) rfl rfl ?_))
    refine TL_gcall (he2 EntersC.en rfl rfl rfl) (fun w hm => hma w (hT.up hm) hm.below) rfl rfl rfl rfl rfl ?_
    intro u2 _
    conv => arg 8; simp only [zA, zB, zC, zD, zE, zF, zG, zH, zI, rowS, ret, id_eq, intRS]
    conv => arg 7; simp only [intRS]
    repeat (first
      | refine qv rfl (qp rfl) rfl rfl ?_ | refine TL_nil ?_ | refine T_seq ?_ | refine T_region ?_ | refine qcT rfl ?_ | refine qcF rfl ?_ | refine T_skip ?_
      | refine T_ret ?_ | refine E_then ?_ | refine E_thenR ?_ | refine qs rfl rfl rfl rfl rfl rfl ?_
      | ((try refine qg rfl rfl rfl ?_); first | refine qv rfl (qp rfl) rfl rfl ?_ | refine qv rfl (rr_strlen Und.eq rfl) rfl rfl ?_ | refine qv rfl (qlen Und.eq rfl) rfl rfl ?_ | refine qv rfl (qfld FldC.fld rfl rfl) rfl rfl ?_ | refine qv rfl (rr_gtr rfl rfl (qT (by omega))) rfl rfl ?_ | refine qv rfl (rr_gtr rfl rfl (qF (by omega))) rfl rfl ?_ | refine qv rfl (rr_eql rfl rfl (qT (by omega))) rfl rfl ?_ | refine qv rfl (rr_eql rfl rfl (qF (by omega))) rfl rfl ?_ | refine qv rfl (rr_neq rfl rfl (qT (by omega))) rfl rfl ?_ | refine qv rfl (rr_neq rfl rfl (qF (by omega))) rfl rfl ?_))
    refine TL_gcall (he2 EntersC.en rfl rfl rfl) (fun w hm => heq _ _ _ w (by rw [int_flat]; exact Sl.of_own (hm.get (i := 8) rfl)) (by rw [int_flat]; exact Sl.of_own (hm.get (i := 9) rfl))) rfl rfl rfl rfl rfl ?_
    intro _ _
    conv => arg 8; simp only [zA, zB, zC, zD, zE, zF, zG, zH, zI, rowS, ret, id_eq]
    repeat (first
      | refine qv rfl (qp rfl) rfl rfl ?_ | refine TL_nil ?_ | refine T_seq ?_ | refine T_region ?_ | refine qcT rfl ?_ | refine qcF rfl ?_ | refine T_skip ?_
      | refine T_ret ?_ | refine E_then ?_ | refine E_thenR ?_ | refine qs rfl rfl rfl rfl rfl rfl ?_
      | ((try refine qg rfl rfl rfl ?_); first | refine qv rfl (qp rfl) rfl rfl ?_ | refine qv rfl (rr_strlen Und.eq rfl) rfl rfl ?_ | refine qv rfl (qlen Und.eq rfl) rfl rfl ?_ | refine qv rfl (qfld FldC.fld rfl rfl) rfl rfl ?_ | refine qv rfl (rr_gtr rfl rfl (qT (by omega))) rfl rfl ?_ | refine qv rfl (rr_gtr rfl rfl (qF (by omega))) rfl rfl ?_ | refine qv rfl (rr_eql rfl rfl (qT (by omega))) rfl rfl ?_ | refine qv rfl (rr_eql rfl rfl (qF (by omega))) rfl rfl ?_ | refine qv rfl (rr_neq rfl rfl (qT (by omega))) rfl rfl ?_ | refine qv rfl (rr_neq rfl rfl (qF (by omega))) rfl rfl ?_))
    exact E_ret1e rfl rfl rfl
end Go.Proofs.YtndbaalenclgaaaDoor.placesMeans

